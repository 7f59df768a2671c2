/-
  A VERIFIED SYMBOLIC MACHINE, PART K: what is made: structs, arrays, slices; and slices of what there is.
-/
import Derived.Test.YtfmhlogapbpnbaaDoorYeaa
import Derived.Laws.IdiomStrings
import Derived.Laws.Externs
import Derived.MapKept
set_option linter.unusedVariables false
set_option linter.unusedSimpArgs false
set_option linter.unusedSectionVars false

namespace Go.Vm
set_option maxRecDepth 100000
theorem foldl_set(vs:List Value):∀ (j off:Nat) (c:List Value),off+j+vs.length≤c.length →
  (vs.zipIdx j).foldl (fun(cs:Array Value) (p:Value × Nat)=>cs.setIfInBounds (off+p.2) p.1) c.toArray=(spliceL c (off+j) vs).toArray:=by
 induction vs with
 | nil=>intro j off c h;simp[spliceL]
 | cons v vs ih =>
  intro j off c h
  simp only[List.length_cons] at h
  simp only[List.zipIdx_cons,List.foldl_cons,List.setIfInBounds_toArray]
  rw[ih (j+1) off (c.set (off+j) v) (by simp;omega)]
  rw[show off+(j+1)=off+j+1 by omega,splice_cons (by omega)]
theorem lies_splice{ρ:Rho}{w:World}{z cs:List AV}{c vs:List Value}{off:Nat}(hz:c.length=z.length)(hl:cs.length=vs.length)(ho:off+cs.length≤z.length)(h:Lies ρ w z 0 c.toArray)(hc:Lies ρ w cs 0 vs.toArray) :
  Lies ρ w (spliceL z off cs) 0 (spliceL c off vs).toArray:=by
 intro i a hi
 have g1:=splice_get z off cs ho i
 have g2:=splice_get c off vs (by omega) i
 rw[g1] at hi
 simp only[Nat.zero_add,List.getElem?_toArray]
 rw[g2]
 split at hi
 ·rename_i h1
  rw[if_pos h1]
  obtain⟨v,p,q,r⟩:=h i a hi
  exact⟨v,by simpa using p,q,r⟩
 ·rename_i h1
  rw[if_neg h1]
  split at hi
  ·rename_i h2
   rw[if_pos (by omega)]
   obtain⟨v,p,q,r⟩:=hc _ a hi
   exact⟨v,by simpa using p,q,r⟩
  ·rename_i h2
   rw[if_neg (by omega)]
   obtain⟨v,p,q,r⟩:=h i a hi
   exact⟨v,by simpa using p,q,r⟩
def placesOf(f:Nat→Option (Nat × Nat)):List Nat→Option (List (Nat × Nat))
 | []=>some []
 | j::js=>match f j,placesOf f js with
  | some p,some ps=>some (p::ps)
  | _,_=>none
section
variable {R:Type}{A:Alg R}{holds:R→Prop}(good:A.Good holds)
include good
theorem fillK_sound:∀ {pl:List (Nat × Nat)} {xs z:List AV} {k:List AV→R},holds (fillK A ops0 z pl xs k) →
  ∃ cs,holds (k cs)∧cs.length=z.length∧∀ (ρ:Rho) (w:World) (vs c:List Value) (f:Nat→Option (Nat × Nat)) (js:List Nat),VRels ρ w xs vs→c.length=z.length→Lies ρ w z 0 c.toArray→placesOf f js=some pl →
   ∃ c':List Value,Instr.fill f c.toArray (js.zip vs)=some c'.toArray∧c'.length=z.length∧Lies ρ w cs 0 c'.toArray:=by
 intro pl
 induction pl with
 | nil =>
  intro xs z k h
  cases xs with
  | nil =>
   refine⟨z,h,rfl,fun ρ w vs c f js hx hc hz hp => ?_⟩
   refine⟨c,?_,hc,hz⟩
   have:vs = []:=by have:=hx.len;simpa using this
   subst this
   simp[Instr.fill]
  | cons=>exact(good.fail h).elim
 | cons p pl ih =>
  intro xs z k h
  cases xs with
  | nil=>exact(good.fail h).elim
  | cons x xs =>
   obtain⟨off,n⟩:=p
   obtain⟨cs,h,hcn,hcs⟩:=cells1K_sound good (show holds (cells1K A ops0 x n _) from h)
   obtain⟨hle,h⟩:=good.chk _ _ h
   have hle:off+n≤z.length:=by simpa[ops0] using hle
   obtain⟨ds,h,hdl,hds⟩:=ih h
   have hspl:(ops0.spl z off cs).length=z.length:=splice_length _ _ _ (by omega)
   refine⟨ds,h,hdl.trans hspl,fun ρ w vs c f js hx hc hz hp => ?_⟩
   cases vs with
   | nil=>have:=hx.len;simp at this
   | cons v vs =>
    cases js with
    | nil=>simp[placesOf] at hp
    | cons j js =>
     unfold placesOf at hp
     split at hp
     ·rename_i q qs hq hqs
      cases hp
      obtain⟨hsz,hli⟩:=hcs ρ w v hx.head
      have hvl:v.cells.toList.length=n:=by simpa using hsz
      obtain⟨c',h1,h2,h3⟩:=hds ρ w vs (spliceL c off v.cells.toList) f js hx.tail (by rw[hspl]; exact(splice_length _ _ _ (by omega)).trans hc)
       (lies_splice hc (by omega) (by omega) hz (by simpa using hli)) hqs
      refine⟨c',?_,h2.trans hspl,h3⟩
      simp only[List.zip_cons_cons,Instr.fill,hq]
      rw[if_neg (by simp[hsz]; omega)]
      have e:=foldl_set v.cells.toList 0 off c (by omega)
      rw[Nat.add_zero] at e
      have e2:v.cells.zipIdx.foldl (fun(cs:Array Value) (x:Value × Nat)=>match x with|(c,j)=>cs.setIfInBounds (off+j) c) c.toArray=(spliceL c off v.cells.toList).toArray:=by
       rw[←e,←Array.foldl_toList]
       simp
      rw[show v.cells.zipIdx.foldl _ c.toArray=(spliceL c off v.cells.toList).toArray from e2]
      exact h1
     ·cases hp
end
section
variable {R:Type}{A:Alg R}{holds:R→Prop}(good:A.Good holds){P:Program}{o:Oper}{avs:List AV}{H:Hl}{cf:CallF R}{k:ExK R}
include good
def fieldPl(P:Program)(fs:Array Field)(j:Nat):Option (Nat × Nat) :=
 match fs[j]? with
 | some f=>match P.info? f.type with
  | some i=>some (f.offset,i.size)
  | none=>none
 | none=>none
omit good in
theorem run_places{fs:List Field}(h:∀ f∈fs,∃ i,P.info? f.type=some i)(w:World) :
  (fs.mapM fun f=>do pure (f.offset,←sizeOf f.type):Sem (List (Nat × Nat))).run P w = .ok (fs.map fun f=>(f.offset,P.cellsOf f.type)) w:=by
 induction fs with
 | nil=>simp
 | cons f fs ih =>
  obtain⟨i,hi⟩:=h f (by simp)
  simp only[List.mapM_cons,Sem.run_bind,run_size hi,Sem.run_pure,Result.andThen_ok,ih (fun g hg=>h g (by simp[hg]))]
  simp[Program.cellsOf,hi]
theorem s_mkS{t:TypeId}{parts:Array (Nat × Operand)}{fs:Array Field}{i:TypeInfo}{z:Value}{zs:List AV}{pl:List (Nat × Nat)}(ho:o.op = .build t parts)(ht:P.underlying t=some (.struct fs))
  (hi:P.info? t=some i) (hz:i.zero=some z) (hs:toAVs z.cells.toList=some zs) (hall:∀ f∈fs.toList,∃ i,P.info? f.type=some i) (hp:placesOf (fieldPl P fs) (parts.toList.map (·.1))=some pl)
  (h:holds (ex A ops0 cf H (.mk zs pl) avs k)):Does P o (parts.toList.map (·.2)) avs H fun r H' t f=>holds (k r H' t f):=by
 have h:holds (fillK A ops0 zs pl avs fun cs=>k (.agg cs) H [] []):=h
 obtain⟨cs,h,hcl,hcs⟩:=fillK_sound good h
 refine⟨_,_,_,_,h,.quiet fun ρ w a g hx _ _ => ?_⟩
 have hzl:z.cells.toList.length=zs.length:=(toAVs_rel hs).1.symm
 have hpl:∀ js pl,placesOf (fieldPl P fs) js=some pl→placesOf (fun j=>((fs.toList.map fun f=>(f.offset,P.cellsOf f.type)).toArray)[j]?) js=some pl:=by
  intro js
  induction js with
  | nil=>intro pl h;exact h
  | cons j js ih =>
   intro pl h
   unfold placesOf at h ⊢
   split at h
   ·rename_i p ps hp hps
    rw[ih _ hps]
    unfold fieldPl at hp
    cases hf:fs[j]? with
    | none=>simp[hf] at hp
    | some f =>
     simp only[hf] at hp
     cases hfi:P.info? f.type with
     | none=>simp[hfi] at hp
     | some fi =>
      simp only[hfi] at hp
      have hft:fs.toList[j]? = some f:=by simpa using hf
      cases hp
      cases h
      simp[hf,Program.cellsOf,hfi]
   ·cases h
 obtain⟨c',h1,h2,h3⟩:=hcs ρ w ((parts.toList.map (·.2)).map a.eval) z.cells.toList _ (parts.toList.map (·.1)) hx hzl (by have:=toAVs_lies hs ρ w;exact this) (hpl _ _ hp)
 refine⟨.agg c'.toArray,?_,agg_of_lies (h2.trans hcl.symm) h3⟩
 have hparts:(parts.map fun(p:Nat × Operand)=>(p.1,a.eval p.2)).toList=(parts.toList.map (·.1)).zip ((parts.toList.map (·.2)).map a.eval):=by
  rw[Array.toList_map]
  induction parts.toList with
  | nil=>rfl
  | cons p l ih=>simp[ih]
 have hm:(fs.mapM fun f=>do pure (f.offset,←sizeOf f.type):Sem (Array (Nat × Nat))).run P w = .ok (fs.toList.map fun f=>(f.offset,P.cellsOf f.type)).toArray w:=by
  rw[Array.mapM_eq_mapM_toList]
  simp only[Sem.run_map,run_places hall w,Result.andThen_ok]
 simp only[execOp,ho,Instr.build,Sem.run_bind,run_zero hi hz,run_underlying ht,Result.andThen_ok,hm]
 have e:(parts.map fun x=>(match x with|(i,x)=>(i,a.eval x))).toList=(parts.toList.map (·.1)).zip ((parts.toList.map (·.2)).map a.eval):=hparts
 have ezz:z.cells=z.cells.toList.toArray:=by simp
 rw[e,ezz,h1]
 simp
theorem s_mkA{t e:TypeId}{n:Nat}{parts:Array (Nat × Operand)}{i j:TypeInfo}{z:Value}{zs:List AV}{pl:List (Nat × Nat)}(ho:o.op = .build t parts)(ht:P.underlying t=some (.array n e))
  (hi:P.info? t=some i) (hz:i.zero=some z) (hs:toAVs z.cells.toList=some zs) (hj:P.info? e=some j) (hp:placesOf (fun i=>some (i*j.size,j.size)) (parts.toList.map (·.1))=some pl)
  (h:holds (ex A ops0 cf H (.mk zs pl) avs k)):Does P o (parts.toList.map (·.2)) avs H fun r H' t f=>holds (k r H' t f):=by
 have h:holds (fillK A ops0 zs pl avs fun cs=>k (.agg cs) H [] []):=h
 obtain⟨cs,h,hcl,hcs⟩:=fillK_sound good h
 refine⟨_,_,_,_,h,.quiet fun ρ w a g hx _ _ => ?_⟩
 have hzl:z.cells.toList.length=zs.length:=(toAVs_rel hs).1.symm
 obtain⟨c',h1,h2,h3⟩:=hcs ρ w ((parts.toList.map (·.2)).map a.eval) z.cells.toList _ (parts.toList.map (·.1)) hx hzl (by have:=toAVs_lies hs ρ w;exact this) hp
 refine⟨.agg c'.toArray,?_,agg_of_lies (h2.trans hcl.symm) h3⟩
 have e:(parts.map fun x=>(match x with|(i,x)=>(i,a.eval x))).toList=(parts.toList.map (·.1)).zip ((parts.toList.map (·.2)).map a.eval):=by
  rw[Array.toList_map]
  induction parts.toList with
  | nil=>rfl
  | cons p l ih=>simp[ih]
 simp only[execOp,ho,Instr.build,Sem.run_bind,run_zero hi hz,run_underlying ht,Result.andThen_ok,run_size hj]
 have ezz:z.cells=z.cells.toList.toArray:=by simp
 rw[e,ezz,h1]
 simp
end
end Go.Vm

namespace Go.Vm
set_option maxRecDepth 100000
theorem push_ext{ρ:Rho}{w:World}{g:Hp}(hr:HRel ρ w g)(o:Obj)(n:Nat):Ext n ρ w ρ { w with heap:=w.heap.push o } where
 size:=by simp
 os:=rfl
 tape:=rfl
 output:=rfl
 keep B hB _:=by simp only[Array.getElem?_push]; rw[if_neg (by omega)]
 slot b _ hb := .inl rfl
 fresh b B F hl := .inr ⟨b,F,hl⟩
 rows B hB:=by simp only[rows,Array.getElem?_push]; rw[if_neg (by omega)]
theorem HRel.push{ρ:Rho}{w:World}{g:Hp}(hr:HRel ρ w g)(o:Obj):HRel ρ { w with heap:=w.heap.push o } g where
 unborn:=hr.unborn
 dead:=hr.dead
 inj:=hr.inj
 live b cs h:=by
  rcases hr.live b cs h with h'|⟨B,F,c,e,lo,hi,hl,hh,hs,hf,hc⟩
  ·exact .inl h'
  ·refine .inr ⟨B,F,c,e,lo,hi,hl,?_,hs,hf,lies_bound (push_ext hr o) hc⟩
   have:=hr.lt hl
   simp only[Array.getElem?_push]
   rw[if_neg (by omega)]
   exact hh
 marks b B F c e lo hi h1 h2:=by
  have:=hr.lt h1
  simp only[Array.getElem?_push] at h2
  rw[if_neg (by omega)] at h2
  exact hr.marks b B F c e lo hi h1 h2
 sets b kd ks hb:=hr.sets_of hb rfl fun B F es clock h1 _=>by
  have:=hr.lt h1
  simp only[Array.getElem?_push]
  rw[if_neg (by omega)]
theorem rep_get{α:Type}(z:List α)(n i:Nat)(hz:z ≠ []):((List.replicate n z).flatten)[i]? = if i<n*z.length then z[i % z.length]? else none:=by
 have hp:0<z.length:=List.length_pos_iff.2 hz
 induction n generalizing i with
 | zero=>simp
 | succ n ih =>
  simp only[List.replicate_succ,List.flatten_cons]
  by_cases h:i<z.length
  ·rw[List.getElem?_append_left h,if_pos (by rw[Nat.add_mul,Nat.one_mul]; omega),Nat.mod_eq_of_lt h]
  ·rw[List.getElem?_append_right (by omega),ih]
   have e:(i - z.length) % z.length=i % z.length:=by
    conv=>rhs;rw[show i=(i - z.length)+z.length by omega,Nat.add_mod_right]
   rw[e]
   have e2:(n+1)*z.length=n*z.length+z.length:=by rw[Nat.add_mul,Nat.one_mul]
   rw[e2]
   by_cases h2:i - z.length<n*z.length
   ·rw[if_pos h2,if_pos (by omega)]
   ·rw[if_neg h2,if_neg (by omega)]
theorem lies_rep{z:Array Value}{zs:List AV}(hs:toAVs z.toList=some zs)(n:Nat)(ρ:Rho)(w:World) :
  Lies ρ w (List.replicate n zs).flatten 0 ((Array.range (n*z.size)).map (z[·% z.size]!)):=by
 intro i a hi
 have hl:=(toAVs_rel hs).1
 by_cases hz:zs = []
 ·subst hz;simp at hi
 ·rw[rep_get zs n i hz] at hi
  split at hi
  ·rename_i hlt
   obtain⟨v,h1,h2⟩:=(toAVs_rel hs).2 _ a hi
   have hsz:zs.length=z.size:=by simpa using hl
   rw[hsz] at hlt h1
   refine⟨v,?_,toAV_one h2,toAV_rel h2 ρ w⟩
   have hzp:0<z.size:=by
    rw[←hsz]; exact List.length_pos_iff.2 hz
   have hm:i % z.size<z.size:=Nat.mod_lt _ hzp
   have h1':z[i % z.size]? = some v:=by simpa using h1
   simp only[Nat.zero_add,Array.getElem?_map,Array.getElem?_range,hlt,if_true,Option.map_some]
   rw[getElem!_pos z (i % z.size) hm]
   rw[Array.getElem?_eq_getElem hm] at h1'
   exact h1'
  ·cases hi
theorem rep_length{α:Type}(z:List α)(n:Nat):((List.replicate n z).flatten).length=n*z.length:=by
 induction n with
 | zero=>simp
 | succ n ih=>simp only[List.replicate_succ,List.flatten_cons,List.length_append,ih]; rw[Nat.add_mul,Nat.one_mul]; omega
section
variable {R:Type}{A:Alg R}{holds:R→Prop}(good:A.Good holds){P:Program}{o:Oper}{avs:List AV}{H:Hl}{cf:CallF R}{k:ExK R}
include good
theorem s_mks{t e:TypeId}{len:Nat}{parts:Array (Nat × Operand)}{j:TypeInfo}{z:Value}{zs:List AV}{pl:List (Nat × Nat)}(ho:o.op = .buildSlice t len parts)(ht:P.underlying t=some (.slice e))
  (hj:P.info? e=some j) (hsmall:len*j.size≤2 ^ 24) (hz:j.zero=some z) (zc:Array Value) (hzc:zc=if len*j.size=0 then #[] else z.cells)
  (hs:toAVs ((Array.range (len*j.size)).map (zc[·% zc.size]!)).toList=some zs) (hp:placesOf (fun i=>some (i*j.size,j.size)) (parts.toList.map (·.1))=some pl)
  (h:holds (ex A ops0 cf H (.mks zs len pl) avs k)):Does P o (parts.toList.map (·.2)) avs H fun r H' t f=>holds (k r H' t f):=by
 have h:holds (fillK A ops0 zs pl avs fun cs=>k (.ros cs 0 len len true) H [] []):=h
 obtain⟨cs,h,hcl,hcs⟩:=fillK_sound good h
 refine⟨_,_,_,_,h,⟨Nat.le_refl _,(fun b hb=>by cases hb),fun _ _ _=>rfl,?_⟩⟩
 intro ρ w a g hx _ _ _ hg
 have hzl:=(toAVs_rel hs).1.symm
 obtain⟨c',h1,h2,h3⟩:=hcs ρ w ((parts.toList.map (·.2)).map a.eval) _ _ (parts.toList.map (·.1)) hx hzl (toAVs_lies hs ρ w) hp
 have e1:(parts.map fun x=>(match x with|(i,x)=>(i,a.eval x))).toList=(parts.toList.map (·.1)).zip ((parts.toList.map (·.2)).map a.eval):=by
  rw[Array.toList_map]
  induction parts.toList with
  | nil=>rfl
  | cons p l ih=>simp[ih]
 have hrun:(execOp a.eval o).run P w = .ok (.value (.slice (some ⟨w.heap.size,0,none⟩) len len)) { w with heap:=w.heap.push (.cells c'.toArray e) }:=by
  rw[Array.toArray_toList] at h1
  simp only[execOp,ho,Instr.buildSlice,Sem.run_bind,run_underlying ht,run_size hj,Result.andThen_ok]
  rw[if_neg (by omega),e1]
  by_cases h0:len*j.size=0
  ·rw[if_pos h0] at hzc
   subst hzc
   rw[if_pos h0]
   simp only[Sem.run_bind,Sem.run_pure,Result.andThen_ok]
   rw[h1]
   simp[newRow]
  ·rw[if_neg h0] at hzc
   subst hzc
   rw[if_neg h0]
   simp only[Sem.run_bind,Sem.run_pure,Result.andThen_ok,run_zero hj hz]
   rw[h1]
   simp[newRow]
 refine OpDo.value hrun ⟨ρ,?_,?_,push_ext hg _⟩
 ·rw[news_self,List.append_nil,upd_nil]
  exact hg.push _
 ·have E:=push_ext hg (.cells c'.toArray e)
  refine .ros cs 0 len len true w.heap.size 0 _ len c' (fun _=>by simp) (fun _=>hg.unowned (Nat.le_refl _)) (by omega) ?_ ?_ ?_ (Nat.le_refl _) (Nat.le_refl _) (fun _=>rfl) (fun _=>rfl)
  ·have:=agg_of_lies (h2.trans hcl.symm) h3
   cases this with
   | agg _ _ _ ho _=>exact ho
  ·intro i v hv
   simp[World.cell?,hv]
  ·intro i b v hb hv
   have:=agg_of_lies (h2.trans hcl.symm) h3
   cases this with
   | agg _ _ _ _ hr=>exact ext_bound E (hr i b v hb hv)
omit good in
theorem wrap_small{n:Int}(h0:0≤n)(h:n≤1099511627776):IntKind.i64.wrap n=n:=IntWalk.i64_in n (by omega)
theorem s_mksl{t e:TypeId}{x y:Operand}{j:TypeInfo}{z:Value}{zs:List AV}(ho:o.op = .makeSlice t x y)(ht:P.underlying t=some (.slice e))(hj:P.info? e=some j)(hz:j.zero=some z)
  (hs:toAVs z.cells.toList=some zs) (hsz:z.cells.size=j.size) (h:holds (ex A ops0 cf H (.mksl zs j.bytes) avs k)):Does P o [x,y] avs H fun r H' t f=>holds (k r H' t f):=by
 rcases avs with _|⟨xa,_|⟨ya,_|⟨_,_⟩⟩⟩
 ·exact(good.fail h).elim
 ·cases xa<;>exact(good.fail h).elim
 ·cases xa with
  | int kx l =>
   cases ya with
   | int ky c =>
    obtain⟨hm,h⟩:=good.chk _ _ (show holds (A.chk (ops0.mkr l c j.bytes) (k (.slc (size H) 0 (ops0.nat l) (ops0.nat c) (size zs)) (join H [.cells (ops0.rep (ops0.nat c) zs)]) [] [])) from h)
    obtain⟨hl0,hlc,hb⟩:0≤l∧l≤c∧(c+1)*((j.bytes:Int)+1)≤1099511627776:=by
     have:=hm
     simp only[ops0,Bool.and_eq_true,decide_eq_true_eq] at this
     exact⟨this.1.1,this.1.2,this.2⟩
    have hc1:c+1≤(c+1)*((j.bytes:Int)+1):=by
     have:(c+1)*1≤(c+1)*((j.bytes:Int)+1):=Int.mul_le_mul_of_nonneg_left (by omega) (by omega)
     omega
    have hcb:(j.bytes:Int)*c≤(c+1)*((j.bytes:Int)+1):=by
     have:(c+1)*((j.bytes:Int)+1)=(j.bytes:Int)*c+(c+j.bytes+1):=by
      rw[Int.add_mul,Int.mul_add,Int.mul_comm c]; omega
     omega
    rw[size_eq,join_eq,size_eq] at h
    refine⟨_,_,_,_,h,.alloc fun ρ w a g hx _ hg=>⟨.slice (some ⟨w.heap.size,0,none⟩) l.toNat c.toNat,w.drawn,(Array.range (c.toNat*z.cells.size)).map (z.cells[·% z.cells.size]!),e,?_,?_,?_,?_⟩⟩
    ·have hxv:=inv_int hx.two.1
     have hyv:=inv_int hx.two.2
     have hwl:=wrap_small hl0 (by omega)
     have hwc:=wrap_small (n:=c) (by omega) (by omega)
     simp only[execOp,ho,Instr.makeSlice,Sem.run_bind,run_underlying ht,Result.andThen_ok,hxv,hyv,asInt,asIntOf,Sem.run_pure,typeInfo,run_program,hj,hwl,hwc]
     have e1:(decide (c<0) || decide ((j.bytes:Int)*c>2 ^ 48))=false:=by simp;omega
     have e2:(decide (l<0))=false:=by simp;omega
     have e3:(decide (l>c))=false:=by simp;omega
     simp only[e1,e2,e3,Bool.or_false,Bool.false_eq_true,if_false,Sem.run_bind,run_askRoom,Result.andThen_ok,run_size hj,Sem.run_pure]
     rw[hsz]
     by_cases hc0:c.toNat*j.size=0
     ·have e0:∀ f:Nat→Value,(Array.range 0).map f = #[]:=fun f=>by apply Array.eq_empty_of_size_eq_zero;simp
      simp only[hc0,if_true,Sem.run_bind,Sem.run_pure,Result.andThen_ok,newRow,run_newObj_alloc,e0]
      rfl
     ·simp only[hc0,if_false,Sem.run_bind,Sem.run_pure,Result.andThen_ok,newRow,run_newObj_alloc,run_zero hj hz,hsz]
      simp
    ·rw[show ops0.rep (ops0.nat c) zs=(List.replicate c.toNat zs).flatten from rfl,rep_length]
     have:=(toAVs_rel hs).1
     simp at this
     simp[this]
    ·have:=lies_rep hs c.toNat ρ w
     exact this
    ·intro ρ' w' hl hr
     have hlen:zs.length=z.cells.size:=by have:=(toAVs_rel hs).1;simpa using this
     refine .slc _ _ _ _ _ _ (by rw[hl]; simp) ⟨_,_,rfl,?_,Nat.le_refl _,fun _=>⟨_,_,rfl⟩⟩ (by rw[hl]; simp) ?_
     ·simp only[ops0]; omega
     ·intro B F hlb
      rw[hl] at hlb
      cases hlb
      refine⟨_,_,Nat.le_refl _,?_,rfl,fun _=>rfl,?_⟩
      ·simp only[ops0]; omega
      ·rw[hr,hlen]; simp[ops0]
   | _=>exact(good.fail h).elim
  | _=>exact(good.fail h).elim
 ·cases xa<;>first|exact(good.fail h).elim|(cases ya<;>exact(good.fail h).elim)
end
end Go.Vm

namespace Go.Vm
set_option maxRecDepth 100000
theorem run_bound{P:Program}{w:World}{kd:IntKind}{i:Int}{y:Nat}{code:BoundsCode}(h:0≤i∧i≤y):(Instr.sliceBound (.int kd i) y code).run P w = .ok i.toNat w:=by
 simp[Instr.sliceBound,asIntOf,h]
structure Bds(lo hi mx:Bool)(ys:List AV)(len cap l h m:Nat):Prop where
 le:l≤h
 max:mx=true→h≤m∧m≤cap
 free:mx=false→m=cap∧(h=len∨h≤cap)
 run:∀ (P:Program) (ρ:Rho) (w:World) (isS:Bool) (cap':Nat) (low high mx':Option Value),cap≤cap'→len≤cap'→VRels ρ w ys (low.toList++high.toList++mx'.toList) →
  low.isSome=lo→high.isSome=hi→mx'.isSome=mx→(Instr.sliceBounds isS len cap' low high mx').run P w = .ok (l,h,if mx then m else cap') w
section
variable {R:Type}{A:Alg R}{holds:R→Prop}(good:A.Good holds)
include good
theorem boundsK_sound{lo hi mx:Bool}{ys:List AV}{len cap:Nat}{k:Nat→Nat→Nat→R}(h:holds (boundsK A ops0 lo hi mx ys len cap k)) :
  ∃ l h m,holds (k l h m)∧Bds lo hi mx ys len cap l h m:=by
 cases mx with
 | false =>
  cases lo with
  | false =>
   cases hi with
   | false =>
    rcases ys with _|⟨_,_⟩
    ·refine⟨_,_,_,h,Nat.zero_le _,by simp,fun _=>⟨rfl,.inl rfl⟩,?_⟩
     intro P ρ w isS cap' low high mx' hc hl hx h1 h2 h3
     cases low<;>cases high<;>cases mx'<;>simp at h1 h2 h3
     simp[Instr.sliceBounds]
    ·exact(good.fail h).elim
   | true =>
    rcases ys with _|⟨y,_|⟨_,_⟩⟩
    ·exact(good.fail h).elim
    ·cases y with
     | int kd i =>
      obtain⟨hb,h⟩:=good.chk _ _ (show holds (A.chk _ _) from h)
      have hb:=inb0 hb
      refine⟨_,_,_,h,Nat.zero_le _,by simp,fun _=>⟨rfl,.inr (by simp only[ops0]; omega)⟩,?_⟩
      intro P ρ w isS cap' low high mx' hc hl hx h1 h2 h3
      cases low<;>cases high<;>cases mx'<;>simp at h1 h2 h3
      simp at hx
      rw[inv_int hx.one]
      simp[Instr.sliceBounds,run_bound (P:=P) (w:=w) (kd:=kd) (i:=i) (y:=cap') (by omega),ops0]
     | _=>exact(good.fail h).elim
    ·cases y<;>exact(good.fail h).elim
  | true =>
   cases hi with
   | false =>
    rcases ys with _|⟨y,_|⟨_,_⟩⟩
    ·exact(good.fail h).elim
    ·cases y with
     | int kd i =>
      obtain⟨hb,h⟩:=good.chk _ _ (show holds (A.chk _ _) from h)
      have hb:=inb0 hb
      refine⟨_,_,_,h,by simp only[ops0]; omega,by simp,fun _=>⟨rfl,.inl rfl⟩,?_⟩
      intro P ρ w isS cap' low high mx' hc hl hx h1 h2 h3
      cases low<;>cases high<;>cases mx'<;>simp at h1 h2 h3
      simp at hx
      rw[inv_int hx.one]
      simp[Instr.sliceBounds,run_bound (P:=P) (w:=w) (kd:=kd) (i:=i) (y:=len) (by omega),ops0]
     | _=>exact(good.fail h).elim
    ·cases y<;>exact(good.fail h).elim
   | true =>
    rcases ys with _|⟨y,_|⟨y2,_|⟨_,_⟩⟩⟩
    ·exact(good.fail h).elim
    ·cases y<;>exact(good.fail h).elim
    ·cases y with
     | int kd i =>
      cases y2 with
      | int kd2 i2 =>
       obtain⟨hb,h⟩:=good.chk _ _ (show holds (A.chk _ _) from h)
       obtain⟨hb2,h⟩:=good.chk _ _ h
       have hb:=inb0 hb
       have hb2:=inb0 hb2
       have hb2':0≤i∧i≤(i2.toNat:Int):=hb2
       refine⟨_,_,_,h,by simp only[ops0]; omega,by simp,fun _=>⟨rfl,.inr (by simp only[ops0]; omega)⟩,?_⟩
       intro P ρ w isS cap' low high mx' hc hl hx h1 h2 h3
       cases low<;>cases high<;>cases mx'<;>simp at h1 h2 h3
       simp at hx
       rw[inv_int hx.two.1,inv_int hx.two.2]
       simp[Instr.sliceBounds,run_bound (P:=P) (w:=w) (kd:=kd2) (i:=i2) (y:=cap') (by omega),run_bound (P:=P) (w:=w) (kd:=kd) (i:=i) (y:=i2.toNat) (by omega),ops0]
      | _=>exact(good.fail h).elim
     | _=>exact(good.fail h).elim
    ·cases y<;>first|exact(good.fail h).elim|(cases y2<;>exact(good.fail h).elim)
 | true =>
  cases lo with
  | false =>
   cases hi with
   | false=>rcases ys with _|⟨y,_|⟨y2,_⟩⟩<;>exact(good.fail h).elim
   | true =>
    rcases ys with _|⟨y,_|⟨y2,_|⟨_,_⟩⟩⟩
    ·exact(good.fail h).elim
    ·cases y<;>exact(good.fail h).elim
    ·cases y with
     | int kd i =>
      cases y2 with
      | int kd2 i2 =>
       obtain⟨hb,h⟩:=good.chk _ _ (show holds (A.chk _ _) from h)
       obtain⟨hb2,h⟩:=good.chk _ _ h
       have hb:=inb0 hb
       have hb2:=inb0 hb2
       have hb2':0≤i∧i≤(i2.toNat:Int):=hb2
       refine⟨_,_,_,h,Nat.zero_le _,fun _=>by simp only[ops0]; omega,by simp,?_⟩
       intro P ρ w isS cap' low high mx' hc hl hx h1 h2 h3
       cases low<;>cases high<;>cases mx'<;>simp at h1 h2 h3
       simp at hx
       rw[inv_int hx.two.1,inv_int hx.two.2]
       simp[Instr.sliceBounds,run_bound (P:=P) (w:=w) (kd:=kd2) (i:=i2) (y:=cap') (by omega),run_bound (P:=P) (w:=w) (kd:=kd) (i:=i) (y:=i2.toNat) (by omega),ops0]
      | _=>exact(good.fail h).elim
     | _=>exact(good.fail h).elim
    ·cases y<;>first|exact(good.fail h).elim|(cases y2<;>exact(good.fail h).elim)
  | true =>
   cases hi with
   | false=>rcases ys with _|⟨y,_|⟨y2,_|⟨y3,_⟩⟩⟩<;>exact(good.fail h).elim
   | true =>
    rcases ys with _|⟨y,_|⟨y2,_|⟨y3,_|⟨_,_⟩⟩⟩⟩
    ·exact(good.fail h).elim
    ·cases y<;>exact(good.fail h).elim
    ·cases y<;>first|exact(good.fail h).elim|(cases y2<;>exact(good.fail h).elim)
    ·cases y with
     | int kd i =>
      cases y2 with
      | int kd2 i2 =>
       cases y3 with
       | int kd3 i3 =>
        obtain⟨hb,h⟩:=good.chk _ _ (show holds (A.chk _ _) from h)
        obtain⟨hb2,h⟩:=good.chk _ _ h
        obtain⟨hb3,h⟩:=good.chk _ _ h
        have hb:=inb0 hb
        have hb2:=inb0 hb2
        have hb3:=inb0 hb3
        have hb2':0≤i2∧i2≤(i3.toNat:Int):=hb2
        have hb3':0≤i∧i≤(i2.toNat:Int):=hb3
        refine⟨_,_,_,h,by simp only[ops0]; omega,fun _=>by simp only[ops0]; omega,by simp,?_⟩
        intro P ρ w isS cap' low high mx' hc hl hx h1 h2 h3
        cases low<;>cases high<;>cases mx'<;>simp at h1 h2 h3
        simp at hx
        rw[inv_int hx.three.1,inv_int hx.three.2.1,inv_int hx.three.2.2]
        simp[Instr.sliceBounds,run_bound (P:=P) (w:=w) (kd:=kd3) (i:=i3) (y:=cap') (by omega),run_bound (P:=P) (w:=w) (kd:=kd2) (i:=i2) (y:=i3.toNat) (by omega),
         run_bound (P:=P) (w:=w) (kd:=kd) (i:=i) (y:=i2.toNat) (by omega),ops0]
       | _=>exact(good.fail h).elim
      | _=>exact(good.fail h).elim
     | _=>exact(good.fail h).elim
    ·cases y<;>first|exact(good.fail h).elim|(cases y2<;>first|exact(good.fail h).elim|(cases y3<;>exact(good.fail h).elim))
end
section
variable {R:Type}{A:Alg R}{holds:R→Prop}(good:A.Good holds){P:Program}{o:Oper}{avs:List AV}{H:Hl}{cf:CallF R}{k:ExK R}
include good
def slOps(x:Operand)(lo hi mx:Option Operand):List Operand:=x::(lo.toList++hi.toList++mx.toList)
omit good in
theorem opt_map(a:Act)(lo hi mx:Option Operand):(lo.toList++hi.toList++mx.toList).map a.eval=(lo.map a.eval).toList++(hi.map a.eval).toList++(mx.map a.eval).toList:=by
 cases lo<;>cases hi<;>cases mx<;>simp
theorem s_slS{t e:TypeId}{x:Operand}{lo hi mx:Option Operand}{i:TypeInfo}(ho:o.op = .slice t x lo hi mx)(ht:P.underlying t=some (.slice e))(hi':P.info? e=some i)
  (h:holds (ex A ops0 cf H (.slS i.size lo.isSome hi.isSome mx.isSome) avs k)):Does P o (slOps x lo hi mx) avs H fun r H' t f=>holds (k r H' t f):=by
 have hrun:∀ (a:Act) (w:World) (ρ:Rho) ys len cap l h m ao cap',Bds lo.isSome hi.isSome mx.isSome ys len cap l h m→VRels ρ w ys ((lo.toList++hi.toList++mx.toList).map a.eval)→cap≤cap'→len≤cap' →
   a.eval x = .slice ao len cap'→(execOp a.eval o).run P w = .ok (.value (.slice (if(if mx.isSome then m else cap')=l then ao else ao.map (·.add (l*i.size))) (h - l) ((if mx.isSome then m else cap') - l))) w:=by
  intro a w ρ ys len cap l h m ao cap' B hx hc hl hve
  rw[opt_map] at hx
  have hb:=B.run P ρ w true cap' _ _ _ hc hl hx (by simp) (by simp) (by simp)
  simp only[execOp,ho,Instr.sliceAt,Sem.run_bind,run_underlying ht,Result.andThen_ok,hve,Instr.slice,hb,run_size hi',Sem.run_pure]
 rcases avs with _|⟨xa,ys⟩
 ·exact(good.fail h).elim
 ·cases xa with
  | slc b of len cap sz =>
   simp only[ex,xSlS] at h
   split at h
   ·rename_i hsz
    have hsz:=Nat.eq_of_beq_eq_true hsz
    subst hsz
    obtain⟨l,hh,m,h,B⟩:=boundsK_sound good h
    refine⟨_,_,_,_,h,.quiet fun ρ w a g hx _ _ => ?_⟩
    have hv:=hx.head
    generalize hve:a.eval x=ve at hv
    have hmx:∀ cap',cap≤cap'→len≤cap'→hh≤(if mx.isSome then m else cap')∧(if mx.isSome then m else cap')≤cap'∧m≤(if mx.isSome then m else cap'):=by
     intro cap' h1 h2
     by_cases hm:mx.isSome=true
     ·have:=B.max hm;simp only[hm,if_true]; omega
     ·have:=B.free (by simpa using hm); simp only[hm]; simp;omega
    cases hv with
    | slc _ _ _ _ _ _ h0 hs hvo hl =>
     obtain⟨ao,cap',rfl,h1,h2,h3⟩:=hs
     have hr:=hrun a w ρ ys len cap l hh m ao cap' B hx.tail h2 h1 hve
     refine⟨_,hr,?_⟩
     obtain⟨g1,g2,g3⟩:=hmx cap' h2 h1
     have hle:=B.le
     generalize (if mx.isSome then m else cap')=m' at *
     refine .slc _ _ _ _ _ _ h0 ⟨_,_,rfl,by simp only[ops0]; omega,by simp only[ops0]; omega,?_⟩ ?_ ?_
     ·intro hc
      obtain⟨B0,F0,rfl⟩:=h3 (by omega)
      rw[if_neg (by omega)]
      exact⟨B0,F0+l*i.size,by simp[add_at]⟩
     ·intro hvd
      obtain⟨ao2,e1,e2,e3⟩:=hvo hvd
      cases e1
      refine⟨if m'=l then ao else ao.map (·.add (l*i.size)),?_,by simp only[ops0]; omega,by simp only[ops0]; omega⟩
      have q1:m' - l=0:=by omega
      have q2:hh - l=0:=by omega
      rw[q1,q2]
     ·intro BB F hlb
      obtain⟨ao2,cap2,e1,e2,e3,e4,e5⟩:=hl BB F hlb
      cases e3
      refine⟨_,_,by simp only[ops0]; omega,by simp only[ops0]; omega,rfl,?_,?_⟩
      ·intro hc
       have:=e4 (by omega)
       subst this
       rw[if_neg (by omega)]
       simp[add_at,ops0,Nat.add_assoc]
      ·have:F+of+m'*i.size≤F+of+cap'*i.size:=Nat.add_le_add_left (Nat.mul_le_mul_right _ g2) _
       have e6:l*i.size+(m' - l)*i.size=m'*i.size:=by rw[←Nat.add_mul]; congr 1;omega
       simp only[ops0]
       omega
   ·exact(good.fail h).elim
  | ros cells off len cap ex' =>
   simp only[ex,xSlS] at h
   obtain⟨l,hh,m,h,B⟩:=boundsK_sound good h
   refine⟨_,_,_,_,h,.quiet fun ρ w a g hx _ _ => ?_⟩
   have hv:=hx.head
   generalize hve:a.eval x=ve at hv
   cases hv with
   | ros _ _ _ _ _ BB F ao cap' vs hlt hp hl ho' hc hr hcap hlen he ha =>
    have hrr:=hrun a w ρ ys len cap l hh m ao cap' B hx.tail hcap hlen hve
    refine⟨_,hrr,?_⟩
    have hle:=B.le
    by_cases hm:mx.isSome=true
    ·obtain⟨b1,b2⟩:=B.max hm
     simp only[hm,if_true,Bool.or_true]
     refine .ros cells _ _ _ _ BB F _ _ vs hlt hp hl ho' hc hr (by simp only[ops0]; omega) (by simp only[ops0]; omega) (fun _=>rfl) ?_
     intro hn
     rw[if_neg (by omega),ha (by omega)]
     simp[add_at,ops0,Nat.add_assoc]
    ·obtain⟨b1,b2⟩:=B.free (by simpa using hm)
     simp only[hm,Bool.or_false]
     subst b1
     refine .ros cells _ _ _ _ BB F _ _ vs hlt hp hl ho' hc hr (by simp only[ops0]; simp;omega) (by simp only[ops0]; simp;omega) (fun hx=>by have:=he hx;simp only[ops0]; simp;omega) ?_
     intro hn
     simp only[Bool.false_eq_true,if_false] at hn ⊢
     rw[if_neg (by omega),ha (by omega)]
     simp[add_at,ops0,Nat.add_assoc]
  | nils =>
   simp only[ex,xSlS] at h
   obtain⟨l,hh,m,h,B⟩:=boundsK_sound good h
   refine⟨_,_,_,_,h,.quiet fun ρ w a g hx _ _ => ?_⟩
   have hv:=inv_nils hx.head
   have hrr:=hrun a w ρ ys 0 0 l hh m none 0 B hx.tail (Nat.le_refl _) (Nat.le_refl _) hv
   refine⟨_,hrr,?_⟩
   have hle:=B.le
   have:hh=0:=by
    by_cases hm:mx.isSome=true
    ·have:=B.max hm;omega
    ·have:=(B.free (by simpa using hm)).2;omega
   have:(if mx.isSome=true then m else 0)=0:=by
    split
    ·rename_i hm;have:=B.max hm;omega
    ·rfl
   simp only[*]
   simp
   exact .nils
  | _=>exact(good.fail h).elim
theorem s_slA{t e:TypeId}{x:Operand}{n:Nat}{lo hi:Option Operand}{i:TypeInfo}(ho:o.op = .slice t x lo hi none)(ht:P.underlying t=some (.array n e))(hi':P.info? e=some i)
  (h:holds (ex A ops0 cf H (.slA n i.size lo.isSome hi.isSome) avs k)):Does P o (slOps x lo hi none) avs H fun r H' t f=>holds (k r H' t f):=by
 have hrun:∀ (a:Act) (w:World) (ρ:Rho) ys l h m ad,Bds lo.isSome hi.isSome false ys n n l h m→VRels ρ w ys ((lo.toList++hi.toList++(none:Option Operand).toList).map a.eval) →
   a.eval x = .pointer (some ad)→(execOp a.eval o).run P w = .ok (.value (.slice (some (if n=l then ad else ad.add (l*i.size))) (h - l) (n - l))) w:=by
  intro a w ρ ys l h m ad B hx hve
  rw[opt_map] at hx
  have hb:=B.run P ρ w false n _ _ none (Nat.le_refl _) (Nat.le_refl _) hx (by simp) (by simp) rfl
  simp only[execOp,ho,Instr.sliceAt,Sem.run_bind,run_underlying ht,Result.andThen_ok,hve,Instr.sureAddr,Sem.run_pure,Option.map_none,hb,run_size hi']
  simp
 rcases avs with _|⟨xa,ys⟩
 ·exact(good.fail h).elim
 ·cases xa with
  | ptr b of =>
   obtain⟨cs,hb,h⟩:=blkK_sound good (show holds (blkK A H b _) from h)
   obtain⟨hle,h⟩:=good.chk _ _ h
   have hle:of+n*i.size≤cs.length:=by simpa[ops0] using hle
   obtain⟨l,hh,m,h,B⟩:=boundsK_sound good h
   obtain⟨b1,b2⟩:=B.free rfl
   refine⟨_,_,_,_,h,.quiet fun ρ w a g hx hag hg => ?_⟩
   obtain⟨BB,F,c,e',lo',hi'',hl,hve,hc,hsz,hf,hli⟩:=ptr_live hg (agree_one hag hb) hx.head
   refine⟨_,hrun a w ρ ys l hh m _ B hx.tail hve,?_⟩
   have hbl:=B.le
   refine .slc _ _ _ _ _ _ (by rw[hl]; simp) ⟨_,_,rfl,by simp only[ops0]; omega,by simp only[ops0]; omega,?_⟩ (by rw[hl]; simp) ?_
   ·intro hn
    split
    ·exact⟨_,_,rfl⟩
    ·exact⟨BB,F+of+l*i.size,by simp[add_at]⟩
   ·intro B2 F2 hl2
    rw[hl] at hl2
    cases hl2
    refine⟨_,_,by simp only[ops0]; omega,by simp only[ops0]; omega,rfl,?_,?_⟩
    ·intro hn
     rw[if_neg (by omega)]
     simp[add_at,ops0,Nat.add_assoc]
    ·rw[rows_here hc]
     have e6:l*i.size+(n - l)*i.size=n*i.size:=by rw[←Nat.add_mul]; congr 1;omega
     simp only[ops0]
     omega
  | rop cells of =>
   simp only[ex,xSlA] at h
   obtain⟨l,hh,m,h,B⟩:=boundsK_sound good h
   obtain⟨b1,b2⟩:=B.free rfl
   refine⟨_,_,_,_,h,.quiet fun ρ w a g hx hag hg => ?_⟩
   have hv:=hx.head
   generalize hve:a.eval x=ve at hv
   have hbl:=B.le
   cases hv with
   | rop _ _ BB F vs hlt hp hl ho' hc hr =>
    refine⟨_,hrun a w ρ ys l hh m _ B hx.tail hve,?_⟩
    subst b1
    refine .ros cells _ _ _ _ BB F _ _ vs hlt hp hl ho' hc hr (Nat.le_refl _) (by simp only[ops0]; omega) (fun _=>rfl) ?_
    intro hn
    rw[if_neg (by omega)]
    simp[add_at,ops0,Nat.add_assoc]
  | _=>exact(good.fail h).elim
end
end Go.Vm

namespace Go.Vm
set_option maxRecDepth 100000
theorem grow_le(n:Nat):∀ r c,c≤n+(n+768) / 4→Builtin.growBy n r c≤n+(n+768) / 4
 | 0,c,h=>h
 | r+1,c,h=>by
  unfold Builtin.growBy
  split
  ·exact h
  ·exact grow_le n r _ (by omega)
theorem next_le{n old:Nat}(h:old<n):Builtin.nextslicecap n old≤2*n+192:=by
 unfold Builtin.nextslicecap
 split
 ·omega
 ·split
  ·omega
  ·have:=grow_le n 4 old (by omega); omega
theorem room0{l n bytes old:Nat}(h:ops0.room l n bytes=true)(ho:old<l+n):¬ Builtin.nextslicecap (l+n) old*bytes>2 ^ 48∧¬ (((l+n:Nat):Int)>IntKind.i64.max):=by
 have h:(l+n+1)*(bytes+1)≤1099511627776:=by simpa[ops0] using h
 have h1:=next_le ho
 have h2:Builtin.nextslicecap (l+n) old*bytes≤(2*(l+n)+192)*(bytes+1):=Nat.mul_le_mul h1 (by omega)
 have h3:(l+n+1)*1≤(l+n+1)*(bytes+1):=Nat.mul_le_mul_left _ (by omega)
 have h4:1*(bytes+1)≤(l+n+1)*(bytes+1):=Nat.mul_le_mul_right _ (by omega)
 have h5:(2*(l+n)+192)*(bytes+1)≤2*((l+n+1)*(bytes+1))+192*(bytes+1):=by
  rw[←Nat.mul_assoc,←Nat.add_mul]
  exact Nat.mul_le_mul_right _ (by omega)
 have h6:IntKind.i64.max=9223372036854775807:=by decide
 rw[h6]
 omega
theorem HRel.nothing{ρ:Rho}{w:World}{g:Hp}(hr:HRel ρ w g){N:Nat}(hN:g N=none) :
  HRel (rho1 ρ N .void) w (one g N (.cells []))∧∀ n,Ext n ρ w (rho1 ρ N .void) w:=by
 have E:∀ n,Ext n ρ w (rho1 ρ N .void) w:=fun n=>by
  refine⟨Nat.le_refl _,rfl,rfl,rfl,fun _ _ _=>rfl,fun i _ hi => ?_,fun i B F h => ?_,fun _ _=>rfl⟩
  ·left
   unfold rho1
   split
   ·rename_i h;subst h;exact absurd (hr.unborn _ hN) hi
   ·rfl
  ·unfold rho1 at h
   split at h
   ·cases h
   ·exact .inr ⟨i,F,h⟩
 refine⟨⟨?_,?_,?_,?_,?_,?_⟩,E⟩
 ·intro i hi
  unfold one at hi
  unfold rho1
  split at hi
  ·cases hi
  ·rename_i h;rw[if_neg h]; exact hr.unborn i hi
 ·intro i hi
  unfold one at hi
  unfold rho1
  split at hi
  ·cases hi
  ·rename_i h;rw[if_neg h]; exact hr.dead i hi
 ·intro i j B F F' h h'
  unfold rho1 at h h'
  split at h
  ·cases h
  ·split at h'
   ·cases h'
   ·exact hr.inj i j B F F' h h'
 ·intro i ds hi
  unfold one at hi
  split at hi
  ·rename_i h;subst h
   cases hi
   exact .inl ⟨by simp[rho1],rfl⟩
  ·rename_i h
   rcases hr.live i ds hi with ⟨hv,hd⟩|⟨B',F',c2,e2,lo2,hi2,hl2,hh2,hs2,hf2,hc2⟩
   ·exact .inl ⟨by simp[rho1,h,hv],hd⟩
   ·exact .inr ⟨B',F',c2,e2,lo2,hi2,by simp[rho1,h,hl2],hh2,hs2,hf2,lies_bound E hc2⟩
 ·intro i B F c e lo hi h1 h2
  unfold rho1 at h1
  split at h1
  ·cases h1
  ·exact hr.marks i B F c e lo hi h1 h2
 ·intro i kd ks hi
  unfold one at hi
  split at hi
  ·cases hi
  ·rename_i h
   exact hr.sets_of hi (by simp[rho1,h]) fun _ _ _ _ _ _=>rfl
theorem HRel.move{ρ:Rho}{w w':World}{g:Hp}(hr:HRel ρ w g){b N B F X:Nat}{c c':Array Value}{e:TypeId}{lo hi:Nat}{bs cs':List AV}(hg:g b=some (.cells bs))(hN:g N=none)(hl:ρ b = .live B F)
  (h:w.heap[B]? = some (.cells c e (lo,hi))) (hf:∀ j,X≤j→j<c.size→¬ (lo≤j∧j<hi)) (hw:Wrote w B c' e (lo,hi) w') (hs:c'.size=c.size) (hs':X+cs'.length≤c.size)
  (hc:Lies ρ w cs' X c') :
  HRel (rho1 (rho1 ρ b .dead) N (.live B X)) w' (one (one g b .dead) N (.cells cs'))∧∀ n,Ext n ρ w (rho1 (rho1 ρ b .dead) N (.live B X)) w':=by
 have hbN:b≠N:=by intro h;subst h;rw[hg] at hN;cases hN
 have E:∀ n,Ext n ρ w (rho1 (rho1 ρ b .dead) N (.live B X)) w':=fun n=>by
  have E0:=hw.ext hl h hs n
  refine⟨E0.size,E0.os,E0.tape,E0.output,E0.keep,fun i _ hi => ?_,fun i B' F' h => ?_,E0.rows⟩
  ·unfold rho1
   split
   ·rename_i h;subst h;exact absurd (hr.unborn _ hN) hi
   ·split
    ·exact .inr rfl
    ·exact .inl rfl
  ·unfold rho1 at h
   split at h
   ·cases h;exact .inr ⟨b,F,hl⟩
   ·split at h
    ·cases h
    ·exact .inr ⟨i,F',h⟩
 refine⟨⟨?_,?_,?_,?_,?_,?_⟩,E⟩
 ·intro i hi
  unfold one at hi
  split at hi
  ·cases hi
  ·rename_i h1
   split at hi
   ·cases hi
   ·rename_i h2
    simp only[rho1,if_neg h1,if_neg h2]
    exact hr.unborn i hi
 ·intro i hi
  unfold one at hi
  split at hi
  ·cases hi
  ·rename_i h1
   split at hi
   ·rename_i h2
    simp only[rho1,if_neg h1,if_pos h2]
   ·rename_i h2
    simp only[rho1,if_neg h1,if_neg h2]
    exact hr.dead i hi
 ·intro i j B' F1 F2 h1 h2
  unfold rho1 at h1 h2
  split at h1<;>split at h2
  ·rename_i a b;rw[a,b]
  ·cases h1
   split at h2
   ·cases h2
   ·rename_i _ _ q;exact absurd (hr.inj j b B F2 F h2 hl) q
  ·cases h2
   split at h1
   ·cases h1
   ·rename_i _ _ q;exact absurd (hr.inj i b B F1 F h1 hl) q
  ·split at h1
   ·cases h1
   ·split at h2
    ·cases h2
    ·exact hr.inj i j B' F1 F2 h1 h2
 ·intro i ds hi
  unfold one at hi
  split at hi
  ·rename_i h1;subst h1
   cases hi
   exact .inr ⟨B,X,c',e,lo,_,by simp[rho1],hw.here,by omega,by rw[hs]; exact hf,lies_bound E hc⟩
  ·rename_i h1
   split at hi
   ·cases hi
   ·rename_i h2
    rcases hr.live i ds hi with ⟨hv,hd⟩|⟨B',F',c2,e2,lo2,hi2,hl2,hh2,hs2,hf2,hc2⟩
    ·exact .inl ⟨by simp[rho1,h1,h2,hv],hd⟩
    ·have hne:B'≠B:=by
      intro hbb;subst hbb
      exact h2 (hr.inj i b B' F' F hl2 hl)
     exact .inr ⟨B',F',c2,e2,lo2,hi2,by simp[rho1,h1,h2,hl2],(hw.other B' hne).trans hh2,hs2,hf2,lies_bound E hc2⟩
 ·intro i B' F' c2 e2 lo2 hi2 h1 h2
  by_cases hB:B'=B
  ·subst hB
   rw[hw.here] at h2
   cases h2
   rw[hs]
   exact hr.marks b _ F c e _ _ hl h
  ·rw[hw.other B' hB] at h2
   unfold rho1 at h1
   split at h1
   ·cases h1;exact absurd rfl hB
   ·split at h1
    ·cases h1
    ·exact hr.marks i B' F' c2 e2 lo2 hi2 h1 h2
 ·intro i kd ks hi
  unfold one at hi
  split at hi
  ·cases hi
  ·rename_i h1
   split at hi
   ·cases hi
   ·rename_i h2
    exact hr.sets_of hi (by simp[rho1,h1,h2]) fun B' F' _ _ _ hm=>hw.other B' fun e=>by
     subst e
     rw[h] at hm
     cases hm
theorem slc_elems{P:Program}{ρ:Rho}{w:World}{g:Hp}(hg:HRel ρ w g){b o len cap sz sz':Nat}{bs:List AV}(hgb:g b=some (.cells bs)){v:Value}(hv:VRel ρ w (.slc b o len cap sz') v)(hle:o+len*sz≤bs.length) :
    Elems P ρ w sz v ((bs.drop o).take (len*sz)) len:=by
  cases hv with
  | slc _ _ _ _ _ _ h0 hs hvo hh =>
    rcases hg.live b bs hgb with ⟨hvd,hbs⟩|⟨B,F,c,e,lo,hi,hl,hc,hsz,hf,hli⟩
    · obtain⟨ao,rfl,rfl,rfl⟩:=hvo hvd
      subst hbs
      exact row_first (B:=0) (X:=0) (vs := []) (by simp) (by simp) (by simp) (fun _=>rfl) (fun i v h=>by simp at h) (fun i a ha=>by simp at ha) (fun v hv=>by simp at hv)
    · obtain⟨ao,cap',h1,h2,rfl,h4,h5⟩:=hh B F hl
      have hsub:=Lies.sub (show Lies ρ w bs F c from hli) o (len*sz)
      obtain⟨vs,hvl,hvc,hvl2,hvo2⟩:=hsub.values
      have hlen:((bs.drop o).take (len*sz)).length=len*sz:=by simp;omega
      refine row_first (B:=B) (X:=F+o) (vs:=vs) hvl hlen ?_ ?_ ?_ hvl2 hvo2
      · intro hn
        exact h4 (by intro h; subst h; have : len = 0 := by omega
                     subst this;simp at hn)
      · intro hn
        have:cap'=0:=by
          rcases Nat.eq_zero_or_pos cap' with h|h
          · exact h
          · have:=h4 (by omega); rw[hn] at this;cases this
        omega
      · intro i v hv
        rw[cell_at hc]
        exact hvc i v hv
structure AppT(P:Program)(t u e:TypeId)(j:TypeInfo)(z:Value):Prop where
 sl:P.underlying t=some (.slice e)
 el:P.info? e=some j
 zero:j.zero=some z
 zs:z.cells.size=j.size
 src:(∃ e',P.underlying u=some (.slice e'))∨P.underlying u=some .string
section
variable {P:Program}{t u e:TypeId}{j:TypeInfo}{z:Value}{ty:TypeId}{cs:Array Bool}
theorem run_append_in(T:AppT P t u e j z){w:World}{ao:Option Addr}{len cap n:Nat}{x:Value}{vs:List Value}(hn:(Builtin.lenOf x).run P w = .ok n w)(hf:(Builtin.firstCells j.size n x).run P w = .ok vs.toArray w)
  (hcap:len+n≤cap):(builtin .append #[t,u] ty cs #[.slice ao len cap,x]).run P w =
   (match ao with|some a=>(storeCells (a.add (len*j.size)) vs).run P w|none => .ok () w).andThen fun _ w' => .ok (.value (.slice ao (len+n) cap)) w':=by
 have key:∀ d,P.underlying u=some d→((∃ e',d = .slice e')∨d = .string)→(builtin .append #[t,u] ty cs #[.slice ao len cap,x]).run P w =
   (match ao with|some a=>(storeCells (a.add (len*j.size)) vs).run P w|none => .ok () w).andThen fun _ w' => .ok (.value (.slice ao (len+n) cap)) w':=by
  rintro d hd (⟨e',rfl⟩|rfl) <;>
  ·simp only[builtin,Builtin.append_,List.getElem?_toArray,List.getElem?_cons_zero,List.getElem?_cons_succ,Sem.run_bind,run_underlying T.sl,run_underlying hd,Result.andThen_ok,run_size T.el,Sem.run_pure,
    Bool.false_eq_true,if_false,hn,if_pos hcap,Bool.not_false,if_true,hf]
   cases ao with
   | none=>simp
   | some a=>simp only[Sem.run_bind,Sem.run_pure]; cases (storeCells (a.add (len*j.size)) vs).run P w<;>rfl
 rcases T.src with ⟨e',h⟩|h
 ·exact key _ h (.inl ⟨e',rfl⟩)
 ·exact key _ h (.inr rfl)
theorem run_append_new(T:AppT P t u e j z){w:World}{ao:Option Addr}{len cap n:Nat}{x:Value}{us vs:List Value}(hn:(Builtin.lenOf x).run P w = .ok n w)
  (hf:∀ d,(Builtin.firstCells j.size n x).run P { w with drawn:=d } = .ok vs.toArray { w with drawn:=d }) (hs:∀ d,(Builtin.firstCells j.size len (.slice ao len cap)).run P { w with drawn:=d } = .ok us.toArray { w with drawn:=d })
  (hcap:¬ len+n≤cap) (hroom:ops0.room len n j.bytes=true) :
  ∃ N d,len+n≤N∧(builtin .append #[t,u] ty cs #[.slice ao len cap,x]).run P w =
   .ok (.value (.slice (some ⟨w.heap.size,0,none⟩) (len+n) N)) { w with heap:=w.heap.push (.cells (us.toArray++vs.toArray++Builtin.zeroCells z.cells (N - (len+n))) e),drawn:=d }:=by
 obtain⟨r1,r2⟩:=room0 hroom (old:=cap) (by omega)
 refine⟨(len+n)+w.tape w.drawn (.appendCap (len+n) cap e) % (2 ^ 63 - (len+n)),w.drawn+1,by omega,?_⟩
 have key:∀ d,P.underlying u=some d→((∃ e',d = .slice e')∨d = .string)→(builtin .append #[t,u] ty cs #[.slice ao len cap,x]).run P w =
   .ok (.value (.slice (some ⟨w.heap.size,0,none⟩) (len+n) ((len+n)+w.tape w.drawn (.appendCap (len+n) cap e) % (2 ^ 63 - (len+n)))))
    { w with heap:=w.heap.push (.cells (us.toArray++vs.toArray++Builtin.zeroCells z.cells ((len+n)+w.tape w.drawn (.appendCap (len+n) cap e) % (2 ^ 63 - (len+n)) - (len+n))) e),drawn:=w.drawn+1 }:=by
  rintro d hd (⟨e',rfl⟩|rfl) <;>
  ·simp only[builtin,Builtin.append_,List.getElem?_toArray,List.getElem?_cons_zero,List.getElem?_cons_succ,Sem.run_bind,run_underlying T.sl,run_underlying hd,Result.andThen_ok,run_size T.el,Sem.run_pure,
    Bool.false_eq_true,if_false,hn,if_neg hcap,Bool.not_false,if_true,typeInfo,run_program,T.el,r2,false_and,if_neg r1]
   simp only[run_choose,Question.forced,Bool.false_eq_true,if_false,Question.cut,Result.andThen_ok,run_askRoom]
   rw[hs]
   simp only[Result.andThen_ok]
   rw[hf]
   simp only[Result.andThen_ok,run_zero T.el T.zero,newRow,Sem.run_bind,run_newObj_alloc,Sem.run_pure]
   rfl
 rcases T.src with ⟨e',h⟩|h
 ·exact key _ h (.inl ⟨e',rfl⟩)
 ·exact key _ h (.inr rfl)
end
end Go.Vm

namespace Go.Vm
set_option maxRecDepth 100000
theorem lies_append{ρ:Rho}{w:World}{xs ys:List AV}{us vs:List Value}{zs:Array Value}(hl:us.length=xs.length)(h1:Lies ρ w xs 0 us.toArray)(h2:Lies ρ w ys 0 vs.toArray) :
  Lies ρ w (xs++ys) 0 (us.toArray++vs.toArray++zs):=by
 intro i a hi
 have hys:∀ i a,ys[i]? = some a→i<vs.length:=by
  intro i a h
  obtain⟨v,hv,_⟩:=h2 i a h
  simp at hv
  exact(List.getElem?_eq_some_iff.1 hv).1
 by_cases h:i<xs.length
 ·rw[List.getElem?_append_left h] at hi
  obtain⟨v,p,q,r⟩:=h1 i a hi
  refine⟨v,?_,q,r⟩
  rw[Array.getElem?_append_left (by simp;omega),Array.getElem?_append_left (by simp;omega)]
  exact p
 ·rw[List.getElem?_append_right (by omega)] at hi
  obtain⟨v,p,q,r⟩:=h2 _ a hi
  have:=hys _ a hi
  refine⟨v,?_,q,r⟩
  rw[Array.getElem?_append_left (by simp;omega),Array.getElem?_append_right (by simp;omega)]
  simp only[List.size_toArray]
  rw[hl,show 0+i - xs.length=0+(i - xs.length) by omega]
  exact p
theorem take_all{α:Type}{l:List α}{n:Nat}(h:l.length=n):l.take n=l:=List.take_of_length_le (by omega)
theorem drawn_elems{P:Program}{ρ:Rho}{w:World}{sz n:Nat}{v:Value}{cs:List AV}(h:∀ d,Elems P ρ { w with drawn:=d } sz v cs n) :
  ∃ vs:List Value,vs.length=n*sz∧(∀ d,(Builtin.firstCells sz n v).run P { w with drawn:=d } = .ok vs.toArray { w with drawn:=d })∧Lies ρ w cs 0 vs.toArray∧∀ v∈vs,vone v=true:=by
 obtain⟨vs,h1,h2,h3,h4⟩:=(h w.drawn).first n (Nat.le_refl _)
 have hcl:=(h w.drawn).len
 refine⟨vs,h1,fun d => ?_,?_,h4⟩
 ·obtain⟨us,g1,g2,_,_⟩:=(h d).first n (Nat.le_refl _)
  have:∀ (d d':Nat) r,(Builtin.firstCells sz n v).run P { w with drawn:=d } = .ok r { w with drawn:=d }→(Builtin.firstCells sz n v).run P { w with drawn:=d' } = .ok r { w with drawn:=d' }:=by
   intro d d' r hr
   cases v with
   | slice ao l c =>
    cases ao with
    | none=>simpa[Builtin.firstCells] using hr
    | some a =>
     simp only[Builtin.firstCells] at hr ⊢
     unfold loadCells at hr ⊢
     have gen:∀ (m i:Nat) (acc:Array Value) r,(loadCellsFrom a i m acc).run P { w with drawn:=d } = .ok r { w with drawn:=d }→(loadCellsFrom a i m acc).run P { w with drawn:=d' } = .ok r { w with drawn:=d' }:=by
      intro m
      induction m with
      | zero=>intro i acc r h;simpa[loadCellsFrom] using h
      | succ m ih =>
       intro i acc r h
       simp only[loadCellsFrom,Sem.run_bind,run_load] at h ⊢
       have hc:({ w with drawn:=d }:World).cell? (a.add i)=({ w with drawn:=d' }:World).cell? (a.add i):=rfl
       have hfar:({ w with drawn:=d }:World).farLoad P (a.add i) (Mode.plain == Mode.atomic)=({ w with drawn:=d' }:World).farLoad P (a.add i) (Mode.plain == Mode.atomic):=rfl
       rw[hc] at h
       cases hcc:({ w with drawn:=d' }:World).cell? (a.add i) with
       | some v =>
        rw[hcc] at h
        simp only[Result.andThen_ok] at h ⊢
        exact ih _ _ _ h
       | none =>
        rw[hcc] at h
        simp only[] at h ⊢
        rw[hfar] at h
        cases hff:({ w with drawn:=d' }:World).farLoad P (a.add i) (Mode.plain == Mode.atomic) with
        | ok x =>
         rw[hff] at h
         obtain⟨v,_⟩:=x
         simp only[Result.andThen_ok] at h ⊢
         exact ih _ _ _ h
        | error e =>
         rw[hff] at h
         simp at h
     exact gen _ _ _ _ hr
   | string s=>simpa[Builtin.firstCells] using hr
   | _=>simp[Builtin.firstCells] at hr
  exact this w.drawn d _ h2
 ·rw[take_all hcl] at h3
  exact h3
section
variable {P:Program}{t u e:TypeId}{j:TypeInfo}{z:Value}
theorem zeros_size(n:Nat)(zc:Array Value):(Builtin.zeroCells zc n).size=n*zc.size:=by simp[Builtin.zeroCells]
theorem upd_two{g:Hp}{H:Hl}{b:Nat}{k k':Blk}(hb:b<H.length):upd g (H.set b k ++ [k']) ([b]++news H.length (H.set b k ++ [k']).length)=one (one g b k) H.length k':=by
 funext i
 simp only[upd,one,List.length_append,List.length_set,List.length_cons,List.length_nil,Nat.zero_add,news_succ,List.mem_append,List.mem_singleton]
 by_cases h:i=H.length
 ·subst h
  simp
 ·by_cases h2:i=b
  ·subst h2
   rw[if_pos (.inl rfl),if_neg h,if_pos rfl,List.getElem?_append_left (by simpa using hb)]
   simp[hb]
  ·rw[if_neg (by simp[h,h2]),if_neg h,if_neg h2]
end
section
variable {R:Type}{A:Alg R}{holds:R→Prop}(good:A.Good holds){P:Program}{o:Oper}{avs:List AV}{H:Hl}{cf:CallF R}{k:ExK R}
include good
theorem s_app{x y:Operand}{t u e:TypeId}{j:TypeInfo}{z:Value}(ho:o.op = .call { callee := .builtin .append,args := #[x,y],argTypes := #[t,u] })(T:AppT P t u e j z)
  (h:holds (ex A ops0 cf H (.app j.size j.bytes) avs k)):Does P o [x,y] avs H fun r H' t f=>holds (k r H' t f):=by
 have hex:∀ (a:Act) (w:World),(execOp a.eval o).run P w=(builtin .append #[t,u] o.type (#[x,y].map fun | .const _=>true|_=>false) #[a.eval x,a.eval y]).run P w:=by
  intro a w
  rw[run_builtin ho]
  first|(simp;done)|(simp;rfl)
 have bare:∀ {xa ya:AV},(∀ ρ w v,VRel ρ w xa v→∃ ao,v = .slice ao 0 0) →
   holds (elemsK A ops0 H j.size ya fun cs n ft=>A.chk (ops0.room 0 n j.bytes) (k (.slc (size H) 0 n n j.size) (join H [.cells cs]) [] ft))→Does P o [x,y] [xa,ya] H fun r H' t f=>holds (k r H' t f):=by
  intro xa ya hxa h
  obtain⟨cs,n,ft,h,hel⟩:=elemsK_sound good h
  obtain⟨hroom,h⟩:=good.chk _ _ h
  rw[size_eq,join_eq] at h
  refine⟨_,_,_,_,h,⟨by simp,(fun b hb=>by cases hb),fun b hb _=>by rw[List.getElem?_append_left hb],?_⟩⟩
  intro ρ w a g hx hf _ hn hg
  obtain⟨ao,hve⟩:=hxa ρ w _ hx.two.1
  have E:∀ d,Elems P ρ { w with drawn:=d } j.size (a.eval y) cs n:=fun d=>hel P ρ _ g _ (ext_bound (drew_ext ρ w d) hx.two.2) hf (hg.drew d)
  obtain⟨vs,hvl,hvr,hvli,hvo⟩:=drawn_elems E
  have hcl:=(E w.drawn).len
  have hN:g H.length=none:=hn _ (Nat.le_refl _) (by simp)
  by_cases hn0:n=0
  ·subst hn0
   have hcs:cs = []:=List.eq_nil_of_length_eq_zero (by omega)
   have hvs:vs = []:=List.eq_nil_of_length_eq_zero (by omega)
   subst hcs;subst hvs
   have hrun:(execOp a.eval o).run P w = .ok (.value (.slice ao 0 0)) w:=by
    rw[hex,hve,run_append_in T (E w.drawn).lenOf (hvr w.drawn) (Nat.le_refl _)]
    cases ao<;>simp[storeCells]
   obtain⟨R,E2⟩:=hg.nothing hN
   refine OpDo.value hrun ⟨_,?_,?_,E2⟩
   ·rw[upd_one]; exact R
   ·exact .slc _ _ _ _ _ _ (by simp[rho1]) ⟨ao,0,rfl,Nat.le_refl _,Nat.le_refl _,by simp⟩ (fun _=>⟨ao,rfl,rfl,rfl⟩) (by simp[rho1])
  ·obtain⟨N,d,hNn,hrun⟩:=run_append_new (ty:=o.type) (cs := #[x,y].map fun | .const _=>true|_=>false) T (ao:=ao) (len:=0) (cap:=0) (us := []) (E w.drawn).lenOf hvr
    (fun d=>by cases ao<;>simp[Builtin.firstCells,loadCells,loadCellsFrom]) (by omega) hroom
   rw[Nat.zero_add] at hNn hrun
   have hsz:(([]:List Value).toArray++vs.toArray++Builtin.zeroCells z.cells (N - n)).size=N*j.size:=by
    simp only[List.append_toArray,Array.size_append,List.size_toArray,List.nil_append,zeros_size,T.zs,hvl]
    rw[←Nat.add_mul]; congr 1;omega
   have hc:Lies ρ w cs 0 (([]:List Value).toArray++vs.toArray++Builtin.zeroCells z.cells (N - n)):=by
    have:=lies_append (ρ:=ρ) (w:=w) (xs := []) (us := []) (zs:=Builtin.zeroCells z.cells (N - n)) rfl (fun i a h=>by simp at h) hvli
    simpa using this
   have R:=(hg.alloc hN (e:=e) (by rw[hsz,hcl]; exact Nat.mul_le_mul_right _ hNn) hc).drew d
   have E2:∀ n',Ext n' ρ w (rho1 ρ H.length (.live w.heap.size 0)) { w with heap:=w.heap.push (.cells (([]:List Value).toArray++vs.toArray++Builtin.zeroCells z.cells (N - n)) e) }:=alloc_ext hg hN _ _ (by intro B F h;cases h;rfl)
   refine OpDo.value (by rw[hex,hve]; exact hrun) ⟨rho1 ρ H.length (.live w.heap.size 0),?_,?_,fun n'=>(E2 n').trans (drew_ext _ _ d n')⟩
   ·rw[upd_one]; exact R
   ·refine .slc _ _ _ _ _ _ (by simp[rho1]) ⟨_,N,rfl,hNn,hNn,fun _=>⟨_,_,rfl⟩⟩ (by simp[rho1]) ?_
    intro B F hl
    simp[rho1] at hl
    obtain⟨rfl,rfl⟩:=hl
    refine⟨_,N,hNn,hNn,rfl,fun _=>rfl,?_⟩
    have hrows:rows { w with heap:=w.heap.push (.cells (([]:List Value).toArray++vs.toArray++Builtin.zeroCells z.cells (N - n)) e),drawn:=d } w.heap.size=N*j.size:=by
     rw[←hsz]; exact rows_here (by simp;exact⟨rfl,rfl⟩)
    rw[hrows]; omega
 have lit:∀ {fs:List AV} {off len:Nat} {ya:AV},0<len →
   holds (elemsK A ops0 H j.size (.ros fs off len len true) fun us m ft1=>elemsK A ops0 H j.size ya fun cs n ft=>A.br (ops0.lt 0 n)
    (A.chk (ops0.room m n j.bytes) (k (.slc (size H) 0 (ops0.add m n) (ops0.add m n) j.size) (join H [.cells (ops0.app us cs)]) [] (join ft1 ft)))
    (k (.ros fs off len len true) H [] (join ft1 ft)))→Does P o [x,y] [.ros fs off len len true,ya] H fun r H' t f=>holds (k r H' t f):=by
  intro fs off len ya hlen h
  obtain⟨es,m,ft1,h,hel1⟩:=elemsK_sound good h
  obtain⟨cs,n,ft,h,hel⟩:=elemsK_sound good h
  rw[join_eq] at h
  have main:∀ (ρ:Rho) (w:World) (a:Act) (g:Hp),VRels ρ w [.ros fs off len len true,ya] ([x,y].map a.eval)→agree g H (ft1++ft)→HRel ρ w g →
    ∃ B X,a.eval x = .slice (some ⟨B,X,none⟩) len len∧m=len∧(∀ d,Elems P ρ { w with drawn:=d } j.size (a.eval x) es m)∧∀ d,Elems P ρ { w with drawn:=d } j.size (a.eval y) cs n:=by
   intro ρ w a g hx hf hg
   have E1:∀ d,Elems P ρ { w with drawn:=d } j.size (a.eval x) es m:=fun d=>hel1 P ρ _ g _ (ext_bound (drew_ext ρ w d) hx.two.1) (fun i hi=>hf i (List.mem_append_left _ hi)) (hg.drew d)
   have E2:∀ d,Elems P ρ { w with drawn:=d } j.size (a.eval y) cs n:=fun d=>hel P ρ _ g _ (ext_bound (drew_ext ρ w d) hx.two.2) (fun i hi=>hf i (List.mem_append_right _ hi)) (hg.drew d)
   have hxv:=hx.two.1
   generalize hve:a.eval x=ve at hxv E1
   cases hxv with
   | ros _ _ _ _ _ B F ao cap' vs hlt hp hl ho' hc hr hcap hlen2 he ha =>
    have:=he rfl
    subst this
    have:=ha (by omega)
    subst this
    refine⟨B,F+off,rfl,?_,E1,E2⟩
    have h1:=(E1 w.drawn).lenOf
    simp[Builtin.lenOf] at h1
    exact h1.symm
  rcases good.br _ _ _ h with ⟨hn,h⟩|⟨hn,hq⟩
  ·have hn:0<n:=by simpa[ops0] using hn
   obtain⟨hroom,h⟩:=good.chk _ _ h
   rw[size_eq,join_eq] at h
   refine⟨_,_,_,_,h,⟨by simp,(fun b hb=>by cases hb),fun b hb _=>by rw[List.getElem?_append_left hb],?_⟩⟩
   intro ρ w a g hx hf _ hnew hg
   obtain⟨B,X,hve,rfl,E1,E⟩:=main ρ w a g hx hf hg
   obtain⟨vs,hvl,hvr,hvli,hvo⟩:=drawn_elems E
   obtain⟨us,hul,hur,huli,huo⟩:=drawn_elems E1
   have hcl:=(E w.drawn).len
   have hsl:=(E1 w.drawn).len
   have hN:g H.length=none:=hnew _ (Nat.le_refl _) (by simp)
   rw[hve] at hur
   obtain⟨N,d,hNn,hrun⟩:=run_append_new (ty:=o.type) (cs := #[x,y].map fun | .const _=>true|_=>false) T (ao:=some ⟨B,X,none⟩) (len:=m) (cap:=m) (E w.drawn).lenOf hvr hur (by omega) hroom
   have hsz:(us.toArray++vs.toArray++Builtin.zeroCells z.cells (N - (m+n))).size=N*j.size:=by
    simp only[List.append_toArray,Array.size_append,List.size_toArray,List.length_append,zeros_size,T.zs,hvl,hul]
    rw[←Nat.add_mul,←Nat.add_mul]; congr 1;omega
   have hc:Lies ρ w (es++cs) 0 (us.toArray++vs.toArray++Builtin.zeroCells z.cells (N - (m+n))):=lies_append (by omega) huli hvli
   have R:=(hg.alloc hN (e:=e) (by rw[hsz,List.length_append,hsl,hcl,←Nat.add_mul]; exact Nat.mul_le_mul_right _ hNn) hc).drew d
   have E2:∀ n',Ext n' ρ w (rho1 ρ H.length (.live w.heap.size 0)) { w with heap:=w.heap.push (.cells (us.toArray++vs.toArray++Builtin.zeroCells z.cells (N - (m+n))) e) } :=
    alloc_ext hg hN _ _ (by intro B F h;cases h;rfl)
   refine OpDo.value (by rw[hex,hve]; exact hrun) ⟨_,?_,?_,fun n'=>(E2 n').trans (drew_ext _ _ d n')⟩
   ·rw[upd_one]; exact R
   ·refine .slc _ _ _ _ _ _ (by simp[rho1]) ⟨_,N,rfl,hNn,hNn,fun _=>⟨_,_,rfl⟩⟩ (by simp[rho1]) ?_
    intro B F hl
    simp[rho1] at hl
    obtain⟨rfl,rfl⟩:=hl
    refine⟨_,N,hNn,hNn,rfl,fun _=>rfl,?_⟩
    have hrows:rows { w with heap:=w.heap.push (.cells (us.toArray++vs.toArray++Builtin.zeroCells z.cells (N - (m+n))) e),drawn:=d } w.heap.size=N*j.size:=by
     rw[←hsz]; exact rows_here (by simp;exact⟨rfl,rfl⟩)
    rw[hrows]; omega
  ·have hn:n=0:=by
    have:¬ 0<n:=by simpa[ops0] using hn
    omega
   subst hn
   refine⟨_,_,_,_,hq,.quiet fun ρ w a g hx hf hg => ?_⟩
   obtain⟨B,X,hve,rfl,E1,E⟩:=main ρ w a g hx (by rw[←join_eq]; exact hf) hg
   obtain⟨vs,hvl,hvr,hvli,hvo⟩:=drawn_elems E
   have hvs:vs = []:=List.eq_nil_of_length_eq_zero (by omega)
   subst hvs
   refine⟨.slice (some ⟨B,X,none⟩) m m,?_,by rw[←hve]; exact hx.two.1⟩
   rw[hex,hve,run_append_in T (w:=w) (ao:=some ⟨B,X,none⟩) (len:=m) (cap:=m) (n:=0) (vs := []) (E w.drawn).lenOf (hvr w.drawn) (Nat.le_refl _)]
   simp[storeCells]
 rcases avs with _|⟨xa,_|⟨ya,_|⟨_,_⟩⟩⟩
 ·exact(good.fail h).elim
 ·cases xa with
  | ros cells off len cap exact=>cases len<;>cases cap<;>cases exact<;>exact(good.fail h).elim
  | _=>exact(good.fail h).elim
 ·cases xa with
  | nils=>exact bare (fun ρ w v hv=>⟨none,inv_nils hv⟩) h
  | ros cells off len cap exact =>
   cases len with
   | succ len =>
    cases cap with
    | zero=>cases exact<;>exact(good.fail h).elim
    | succ cap =>
     cases exact with
     | false=>exact(good.fail h).elim
     | true =>
      simp only[ex,xApp] at h
      split at h
      case h_2=>exact(good.fail h).elim
      rename_i hb
      have hb:=Nat.eq_of_beq_eq_true hb
      rw[hb] at h ⊢
      exact lit (Nat.succ_pos _) h
   | zero =>
    cases cap with
    | succ _=>cases exact<;>exact(good.fail h).elim
    | zero =>
     cases exact with
     | false=>exact(good.fail h).elim
     | true =>
      refine bare (fun ρ w v hv => ?_) h
      cases hv with
      | ros _ _ _ _ _ B F ao cap' vs hlt hp hl ho' hc hr hcap hlen he ha =>
       have:=he rfl
       subst this
       exact⟨ao,rfl⟩
  | slc b of len cap sz' =>
   simp only[ex,xApp] at h
   split at h
   case h_2=>exact(good.fail h).elim
   rename_i hsz
   have hsz:=Nat.eq_of_beq_eq_true hsz
   subst hsz
   obtain⟨bs,hb,h⟩:=blkK_sound good h
   obtain⟨hle,h⟩:=good.chk _ _ h
   have hle:of+len*j.size≤bs.length:=by simpa[ops0] using hle
   obtain⟨cs,n,ft,h,hel⟩:=elemsK_sound good h
   rcases good.fit _ _ _ _ _ h with ⟨hfit,h⟩|h
   ·
    obtain⟨hle2,h⟩:=good.chk _ _ h
    have hle2:of+(len+n)*j.size≤bs.length:=by simpa[ops0] using hle2
    have hmul2:(len+n)*j.size=len*j.size+n*j.size:=Nat.add_mul _ _ _
    rw[put_eq] at h
    have hbl:=(List.getElem?_eq_some_iff.1 hb).1
    refine⟨_,_,_,_,h,⟨by simp,(fun i hi=>by simp at hi;subst hi;exact hbl),fun i hi hn => ?_,?_⟩⟩
    ·simp at hn
     rw[List.getElem?_set_ne (fun h=>hn h.symm)]
    intro ρ w a g hx hf _ _ hg
    have hgb:g b=some (.cells bs):=(hf b (by simp)).trans hb
    have hft:agree g H ft:=fun i hi=>hf i (by simp[hi])
    have E:=hel P ρ w g _ hx.two.2 hft hg
    obtain⟨vs,hvl,hvr,hvli,hvo⟩:=E.first n (Nat.le_refl _)
    have hcl:=E.len
    rw[take_all hcl] at hvli
    have hspl:(spliceL bs (of+len*j.size) cs).length=bs.length:=splice_length _ _ _ (by omega)
    rw[show ops0.spl bs (ops0.add of (ops0.mul len j.size)) cs=spliceL bs (of+len*j.size) cs from rfl,upd_self hbl]
    show OpDo P o a w (fun v w'=>∃ ρ',HRel ρ' w' (one g b (.cells (spliceL bs (of+len*j.size) cs)))∧VRel ρ' w' (.slc b of (len+n) cap j.size) v∧∀ n,Ext n ρ w ρ' w')
    have hxv:=hx.two.1
    generalize hve:a.eval x=ve at hxv
    have hxv0:=hxv
    cases hxv with
    | slc _ _ _ _ _ _ h0 hs hvo2 hh =>
     obtain⟨ao,cap',rfl,g1,g2,g3⟩:=hs
     have hcap:len+n≤cap':=by omega
     have hrun0:=run_append_in (ty:=o.type) (cs := #[x,y].map fun | .const _=>true|_=>false) T (w:=w) (ao:=ao) E.lenOf hvr hcap
     by_cases hc0:cap'=0
     ·subst hc0
      have hl0:len=0:=by omega
      have hn0:n=0:=by omega
      subst hl0;subst hn0
      have hcs:cs = []:=List.eq_nil_of_length_eq_zero (by omega)
      have hvs:vs = []:=List.eq_nil_of_length_eq_zero (by omega)
      subst hcs;subst hvs
      have hrun:(execOp a.eval o).run P w = .ok (.value (.slice ao 0 0)) w:=by
       rw[hex,hve,hrun0]
       cases ao<;>simp[storeCells]
      refine OpDo.value hrun ⟨ρ,?_,hxv0,fun n=>Ext.refl n ρ w⟩
      have e1:spliceL bs (of+0*j.size) ([]:List AV)=bs:=by simp[spliceL]
      rw[e1]
      have e2:one g b (.cells bs)=g:=by
       funext i
       unfold one
       split
       ·rename_i h;subst h;exact hgb.symm
       ·rfl
      rw[e2]
      exact hg
     ·rcases hg.live b bs hgb with ⟨hvd,_⟩|⟨B,F,c,e',lo,hi,hl,hc,hsz,hfz,hli⟩
      ·obtain⟨ao',q1,_,_⟩:=hvo2 hvd
       cases q1;exact absurd rfl hc0
      ·obtain⟨ao',cap2,q1,q2,q3,q4,q5⟩:=hh B F hl
       cases q3
       have:=q4 hc0
       subst this
       rw[rows_here hc] at q5
       obtain⟨w',hrs,hw⟩:=run_storeCells' (P:=P) (X:=F+of+len*j.size) vs 0 c w hc (by omega) (fun i h1 h2=>hfz i (by omega) h2) hvo
       have hrun:(execOp a.eval o).run P w = .ok (.value (.slice (some ⟨B,F+of,none⟩) (len+n) cap')) w':=by
        rw[hex,hve,hrun0]
        simp only[add_at,hrs,Result.andThen_ok]
       have hcs:(spliceL c.toList (F+of+len*j.size+0) vs).toArray.size=c.size:=by
        have:=splice_length c.toList (F+of+len*j.size+0) vs (by simp;omega)
        simpa using this
       have hlies:Lies ρ w (spliceL bs (of+len*j.size) cs) F (spliceL c.toList (F+of+len*j.size+0) vs).toArray:=by
        intro i b' hi
        have hg1:=splice_get bs (of+len*j.size) cs (by omega) i
        have hg2:=splice_get c.toList (F+of+len*j.size+0) vs (by simp;omega) (F+i)
        rw[hg1] at hi
        simp only[List.getElem?_toArray]
        rw[hg2]
        by_cases h1:i<of+len*j.size
        ·rw[if_pos h1] at hi
         rw[if_pos (by omega)]
         obtain⟨v,p,q,r⟩:=hli i b' hi
         exact⟨v,by simpa using p,q,r⟩
        ·rw[if_neg h1] at hi
         rw[if_neg (by omega)]
         by_cases h2:i<of+len*j.size+cs.length
         ·rw[if_pos h2] at hi
          rw[if_pos (by omega)]
          obtain⟨v,p,q,r⟩:=hvli _ b' hi
          refine⟨v,?_,q,r⟩
          rw[show F+i - (F+of+len*j.size+0)=0+(i - (of+len*j.size)) by omega]
          simpa using p
         ·rw[if_neg h2] at hi
          rw[if_neg (by omega)]
          obtain⟨v,p,q,r⟩:=hli i b' hi
          exact⟨v,by simpa using p,q,r⟩
       have R:=hg.wrote hgb hl hc hfz hw hcs (by rw[hspl]; exact hsz) hlies
       have EX:=hw.ext hl hc hcs
       refine OpDo.value hrun ⟨ρ,R,?_,EX⟩
       refine .slc _ _ _ _ _ _ h0 ⟨_,cap',rfl,hcap,g2,fun _=>⟨_,_,rfl⟩⟩ (fun hvd=>by rw[hvd] at hl;cases hl) ?_
       intro B2 F2 hl2
       rw[hl] at hl2
       cases hl2
       refine⟨_,cap',q1,hcap,rfl,fun _=>rfl,?_⟩
       rw[rows_here hw.here,hcs]
       omega
   obtain⟨hroom,h⟩:=good.chk _ _ h
   rw[size_eq,join_eq,put_eq] at h
   have hbl:=(List.getElem?_eq_some_iff.1 hb).1
   refine⟨_,_,_,_,h,⟨by simp,(fun i hi=>by simp at hi;subst hi;exact hbl),fun i hi hn => ?_,?_⟩⟩
   ·simp at hn
    rw[List.getElem?_append_left (by simpa using hi),List.getElem?_set_ne (fun h=>hn h.symm)]
   intro ρ w a g hx hf _ hn hg
   have hgb:g b=some (.cells bs):=(hf b (by simp)).trans hb
   have hft:agree g H ft:=fun i hi=>hf i (by simp[hi])
   have hN:g H.length=none:=hn _ (Nat.le_refl _) (by simp)
   have hbN:b≠H.length:=by omega
   have E:∀ d,Elems P ρ { w with drawn:=d } j.size (a.eval y) cs n:=fun d=>hel P ρ _ g _ (ext_bound (drew_ext ρ w d) hx.two.2) hft (hg.drew d)
   have S:∀ d,Elems P ρ { w with drawn:=d } j.size (a.eval x) ((bs.drop of).take (len*j.size)) len:=fun d=>slc_elems (hg.drew d) hgb (ext_bound (drew_ext ρ w d) hx.two.1) hle
   obtain⟨vs,hvl,hvr,hvli,hvo⟩:=drawn_elems E
   obtain⟨us,hul,hur,huli,huo⟩:=drawn_elems S
   have hcl:=(E w.drawn).len
   have hsl:=(S w.drawn).len
   have hxv:=hx.two.1
   generalize hve:a.eval x=ve at hxv hur
   show OpDo P o a w (fun v w'=>∃ ρ',HRel ρ' w' (upd g (H.set b .dead ++ [Blk.cells ((bs.drop of).take (len*j.size)++cs)]) ([b]++news H.length (H.set b .dead ++ [Blk.cells ((bs.drop of).take (len*j.size)++cs)]).length)) ∧
    VRel ρ' w' (.slc H.length 0 (len+n) (len+n) j.size) v∧∀ n,Ext n ρ w ρ' w')
   rw[upd_two hbl]
   cases hxv with
   | slc _ _ _ _ _ _ h0 hs hvo2 hh =>
    obtain⟨ao,cap',rfl,g1,g2,g3⟩:=hs
    by_cases hcap:len+n≤cap'
    ·
     have hrun0:=run_append_in (ty:=o.type) (cs := #[x,y].map fun | .const _=>true|_=>false) T (w:=w) (ao:=ao) (E w.drawn).lenOf (hvr w.drawn) hcap
     by_cases hc0:cap'=0
     ·subst hc0
      have hl0:len=0:=by omega
      have hn0:n=0:=by omega
      subst hl0;subst hn0
      have hcs:cs = []:=List.eq_nil_of_length_eq_zero (by omega)
      have hvs:vs = []:=List.eq_nil_of_length_eq_zero (by omega)
      subst hcs;subst hvs
      have hrun:(execOp a.eval o).run P w = .ok (.value (.slice ao 0 0)) w:=by
       rw[hex,hve,hrun0]
       cases ao<;>simp[storeCells]
      obtain⟨R1,E1⟩:=hg.kill hgb
      obtain⟨R2,E2⟩:=R1.nothing (N:=H.length) (by simp only[one,if_neg hbN.symm]; exact hN)
      refine OpDo.value hrun ⟨_,?_,?_,fun m=>(E1 m).trans (E2 m)⟩
      ·simpa using R2
      ·exact .slc _ _ _ _ _ _ (by simp[rho1]) ⟨ao,0,rfl,Nat.le_refl _,Nat.le_refl _,by simp⟩ (fun _=>⟨ao,rfl,rfl,rfl⟩) (by simp[rho1])
     ·rcases hg.live b bs hgb with ⟨hvd,_⟩|⟨B,F,c,e',lo,hi,hl,hc,hsz,hfz,hli⟩
      ·obtain⟨ao',q1,_,_⟩:=hvo2 hvd
       cases q1;exact absurd rfl hc0
      ·obtain⟨ao',cap2,q1,q2,q3,q4,q5⟩:=hh B F hl
       cases q3
       have:=q4 hc0
       subst this
       rw[rows_here hc] at q5
       have hmul:(len+n)*j.size≤cap'*j.size:=Nat.mul_le_mul_right _ hcap
       have hmul2:(len+n)*j.size=len*j.size+n*j.size:=Nat.add_mul _ _ _
       obtain⟨w',hrs,hw⟩:=run_storeCells' (P:=P) (X:=F+of+len*j.size) vs 0 c w hc (by omega) (fun i h1 h2=>hfz i (by omega) h2) hvo
       have hrun:(execOp a.eval o).run P w = .ok (.value (.slice (some ⟨B,F+of,none⟩) (len+n) cap')) w':=by
        rw[hex,hve,hrun0]
        simp only[add_at,hrs,Result.andThen_ok]
       have hcs:(spliceL c.toList (F+of+len*j.size+0) vs).toArray.size=c.size:=by
        have:=splice_length c.toList (F+of+len*j.size+0) vs (by simp;omega)
        simpa using this
       have hlies:Lies ρ w ((bs.drop of).take (len*j.size)++cs) (F+of) (spliceL c.toList (F+of+len*j.size+0) vs).toArray:=by
        intro i b' hi
        have hg2:=splice_get c.toList (F+of+len*j.size+0) vs (by simp;omega) (F+of+i)
        simp only[List.getElem?_toArray]
        rw[hg2]
        by_cases hil:i<len*j.size
        ·rw[List.getElem?_append_left (by omega)] at hi
         rw[if_pos (by omega)]
         obtain⟨v,p,q,r⟩:=(Lies.sub (show Lies ρ w bs F c from hli) of (len*j.size)) i b' hi
         exact⟨v,by simpa using p,q,r⟩
        ·rw[List.getElem?_append_right (by omega),hsl] at hi
         have hin:i - len*j.size<cs.length:=(List.getElem?_eq_some_iff.1 hi).1
         rw[if_neg (by omega),if_pos (by omega)]
         obtain⟨v,p,q,r⟩:=hvli _ b' hi
         refine⟨v,?_,q,r⟩
         rw[show F+of+i - (F+of+len*j.size+0)=0+(i - len*j.size) by omega]
         simpa using p
       obtain⟨R2,E2⟩:=hg.move (X:=F+of) hgb hN hl hc (fun i h1 h2=>hfz i (by omega) h2) hw hcs (by simp only[List.length_append]; omega) hlies
       refine OpDo.value hrun ⟨_,R2,?_,E2⟩
       refine .slc _ _ _ _ _ _ (by simp[rho1]) ⟨_,cap',rfl,hcap,hcap,fun _=>⟨_,_,rfl⟩⟩ (by simp[rho1]) ?_
       intro B2 F2 hl2
       simp[rho1] at hl2
       obtain⟨rfl,rfl⟩:=hl2
       refine⟨_,cap',hcap,hcap,rfl,fun _=>rfl,?_⟩
       rw[rows_here hw.here,hcs]
       omega
    ·
     obtain⟨N,d,hNn,hrun⟩:=run_append_new (ty:=o.type) (cs := #[x,y].map fun | .const _=>true|_=>false) T (ao:=ao) (len:=len) (cap:=cap') (E w.drawn).lenOf hvr hur hcap hroom
     have hsz:(us.toArray++vs.toArray++Builtin.zeroCells z.cells (N - (len+n))).size=N*j.size:=by
      simp only[List.append_toArray,Array.size_append,List.size_toArray,List.length_append,zeros_size,T.zs,hvl,hul]
      rw[←Nat.add_mul,←Nat.add_mul]; congr 1;omega
     obtain⟨R1,E1⟩:=hg.kill hgb
     have hc:Lies (rho1 ρ b .dead) w ((bs.drop of).take (len*j.size)++cs) 0 (us.toArray++vs.toArray++Builtin.zeroCells z.cells (N - (len+n))):=lies_bound E1 (lies_append (by omega) huli hvli)
     have hN1:one g b .dead H.length=none:=by simp only[one,if_neg hbN.symm]; exact hN
     have R:=(R1.alloc hN1 (e:=e) (by rw[hsz,List.length_append,hsl,hcl,←Nat.add_mul]; exact Nat.mul_le_mul_right _ hNn) hc).drew d
     have E2:∀ n',Ext n' (rho1 ρ b .dead) w (rho1 (rho1 ρ b .dead) H.length (.live w.heap.size 0)) { w with heap:=w.heap.push (.cells (us.toArray++vs.toArray++Builtin.zeroCells z.cells (N - (len+n))) e) } :=
      alloc_ext R1 hN1 _ _ (by intro B F h;cases h;rfl)
     refine OpDo.value (by rw[hex,hve]; exact hrun) ⟨_,R,?_,fun n'=>((E1 n').trans (E2 n')).trans (drew_ext _ _ d n')⟩
     refine .slc _ _ _ _ _ _ (by simp[rho1]) ⟨_,N,rfl,hNn,hNn,fun _=>⟨_,_,rfl⟩⟩ (by simp[rho1]) ?_
     intro B F hl
     simp[rho1] at hl
     obtain⟨rfl,rfl⟩:=hl
     refine⟨_,N,hNn,hNn,rfl,fun _=>rfl,?_⟩
     have hrows:rows { w with heap:=w.heap.push (.cells (us.toArray++vs.toArray++Builtin.zeroCells z.cells (N - (len+n))) e),drawn:=d } w.heap.size=N*j.size:=by
      rw[←hsz]; exact rows_here (by simp;exact⟨rfl,rfl⟩)
     rw[hrows]; omega
  | _=>exact(good.fail h).elim
 ·cases xa with
  | ros cells off len cap exact=>cases len<;>cases cap<;>cases exact<;>exact(good.fail h).elim
  | _=>exact(good.fail h).elim
omit good in
theorem run_copy{t u e:TypeId}{j:TypeInfo}(ht:P.underlying t=some (.slice e))(hj:P.info? e=some j){ty:TypeId}{cs:Array Bool}{w:World}{ao:Option Addr}{len cap n:Nat}{x:Value}{vs:List Value}
  (hn:(Builtin.lenOf x).run P w = .ok n w) (hf:(Builtin.firstCells j.size (Nat.min n len) x).run P w = .ok vs.toArray w) :
  (builtin .copy #[t,u] ty cs #[.slice ao len cap,x]).run P w =
   (match ao with|some a=>(storeCells a vs).run P w|none => .ok () w).andThen fun _ w' => .ok (.value (.int .i64 ((Nat.min n len:Nat):Int))) w':=by
 simp only[builtin,Builtin.copy_,List.getElem?_toArray,List.getElem?_cons_zero,List.getElem?_cons_succ,Sem.run_bind,run_underlying ht,Result.andThen_ok,run_size hj,Sem.run_pure,hn,hf]
 cases ao with
 | none=>simp[goInt]
 | some a=>simp only[Sem.run_bind,Sem.run_pure,goInt]; cases (storeCells a vs).run P w<;>rfl
theorem s_cpy{x y:Operand}{t u e:TypeId}{j:TypeInfo}(ho:o.op = .call { callee := .builtin .copy,args := #[x,y],argTypes := #[t,u] })(ht:P.underlying t=some (.slice e))(hj:P.info? e=some j)
  (h:holds (ex A ops0 cf H (.cpy j.size) avs k)):Does P o [x,y] avs H fun r H' t f=>holds (k r H' t f):=by
 have hex:∀ (a:Act) (w:World),(execOp a.eval o).run P w=(builtin .copy #[t,u] o.type (#[x,y].map fun | .const _=>true|_=>false) #[a.eval x,a.eval y]).run P w:=by
  intro a w
  rw[run_builtin ho]
  first|(simp;done)|(simp;rfl)
 rcases avs with _|⟨xa,_|⟨ya,_|⟨_,_⟩⟩⟩
 ·exact(good.fail h).elim
 ·cases xa<;>exact(good.fail h).elim
 ·cases xa with
  | slc b of len cap sz' =>
   simp only[ex,xCpy] at h
   split at h
   case h_2=>exact(good.fail h).elim
   rename_i hsz
   have hsz:=Nat.eq_of_beq_eq_true hsz
   subst hsz
   obtain⟨bs,hb,h⟩:=blkK_sound good h
   obtain⟨hle,h⟩:=good.chk _ _ h
   have hle:of+len*j.size≤bs.length:=by simpa[ops0] using hle
   obtain⟨cs,n,ft,h,hel⟩:=elemsK_sound good h
   have hmin:ops0.min n len=Nat.min n len:=by simp only[ops0]; rfl
   have hspl:∀ (m:Nat),m≤n→m≤len→cs.length=n*j.size→(spliceL bs of (cs.take (m*j.size))).length=bs.length:=by
    intro m h1 h2 h3
    have:m*j.size≤n*j.size:=Nat.mul_le_mul_right _ h1
    have:m*j.size≤len*j.size:=Nat.mul_le_mul_right _ h2
    exact splice_length _ _ _ (by simp;omega)
   rw[put_eq,hmin] at h
   have hbl:=(List.getElem?_eq_some_iff.1 hb).1
   refine⟨_,_,_,_,h,⟨by simp,(fun i hi=>by simp at hi;subst hi;exact hbl),fun i hi hn => ?_,?_⟩⟩
   ·simp at hn
    rw[List.getElem?_set_ne (fun h=>hn h.symm)]
   intro ρ w a g hx hf _ _ hg
   have hgb:g b=some (.cells bs):=(hf b (by simp)).trans hb
   have hft:agree g H ft:=fun i hi=>hf i (by simp[hi])
   have E:=hel P ρ w g _ hx.two.2 hft hg
   have hm1:Nat.min n len≤n:=Nat.min_le_left _ _
   have hm2:Nat.min n len≤len:=Nat.min_le_right _ _
   obtain⟨vs,hvl,hvr,hvli,hvo⟩:=E.first (Nat.min n len) hm1
   have hcl:=E.len
   have hml:Nat.min n len*j.size≤len*j.size:=Nat.mul_le_mul_right _ hm2
   have hmn:Nat.min n len*j.size≤n*j.size:=Nat.mul_le_mul_right _ hm1
   rw[show ops0.spl bs of (ops0.ext cs 0 (ops0.mul (Nat.min n len) j.size))=spliceL bs of (cs.take (Nat.min n len*j.size)) from rfl,upd_self hbl]
   have hxv:=hx.two.1
   generalize hve:a.eval x=ve at hxv
   cases hxv with
   | slc _ _ _ _ _ _ h0 hs hvo2 hh =>
    obtain⟨ao,cap',rfl,g1,g2,g3⟩:=hs
    have hrun0:=run_copy (ty:=o.type) (cs := #[x,y].map fun | .const _=>true|_=>false) (u:=u) ht hj (w:=w) (ao:=ao) (len:=len) (cap:=cap') E.lenOf hvr
    rcases hg.live b bs hgb with ⟨hvd,hbs⟩|⟨B,F,c,e',lo,hi,hl,hc,hsz,hfz,hli⟩
    ·obtain⟨ao',q1,q2,q3⟩:=hvo2 hvd
     cases q1
     subst hbs
     have hvs:vs = []:=List.eq_nil_of_length_eq_zero (by rw[hvl]; omega)
     subst hvs
     have hrun:(execOp a.eval o).run P w = .ok (.value (.int .i64 ((Nat.min n 0:Nat):Int))) w:=by
      rw[hex,hve,hrun0]
      cases ao<;>simp[storeCells]
     refine OpDo.value hrun ⟨ρ,?_,.int _ _,fun n=>Ext.refl n ρ w⟩
     have e1:spliceL ([]:List AV) of (cs.take (Nat.min n 0*j.size)) = []:=by
      have:Nat.min n 0=0:=Nat.min_zero n
      simp[spliceL,this]
     rw[e1]
     have e2:one g b (.cells [])=g:=by
      funext i
      unfold one
      split
      ·rename_i h;subst h;exact hgb.symm
      ·rfl
     rw[e2]
     exact hg
    ·obtain⟨ao',cap2,q1,q2,q3,q4,q5⟩:=hh B F hl
     cases q3
     by_cases hc0:cap'=0
     ·
      subst hc0
      have hl0:len=0:=by omega
      subst hl0
      have hvs:vs = []:=List.eq_nil_of_length_eq_zero (by rw[hvl]; omega)
      subst hvs
      have hrun:(execOp a.eval o).run P w = .ok (.value (.int .i64 ((Nat.min n 0:Nat):Int))) w:=by
       rw[hex,hve,hrun0]
       cases ao<;>simp[storeCells]
      refine OpDo.value hrun ⟨ρ,?_,.int _ _,fun n=>Ext.refl n ρ w⟩
      have e1:spliceL bs of (cs.take (Nat.min n 0*j.size))=bs:=by
       have:Nat.min n 0=0:=Nat.min_zero n
       simp[spliceL,this]
      rw[e1]
      have e2:one g b (.cells bs)=g:=by
       funext i
       unfold one
       split
       ·rename_i h;subst h;exact hgb.symm
       ·rfl
      rw[e2]
      exact hg
     ·have:=q4 hc0
      subst this
      obtain⟨w',hrs,hw⟩:=run_storeCells' (P:=P) (X:=F+of) vs 0 c w hc (by omega) (fun i h1 h2=>hfz i (by omega) h2) hvo
      have hrun:(execOp a.eval o).run P w = .ok (.value (.int .i64 ((Nat.min n len:Nat):Int))) w':=by
       rw[hex,hve,hrun0]
       simp only[hrs,Result.andThen_ok]
      have hcs:(spliceL c.toList (F+of+0) vs).toArray.size=c.size:=by
       have:=splice_length c.toList (F+of+0) vs (by simp;omega)
       simpa using this
      have htl:(cs.take (Nat.min n len*j.size)).length=Nat.min n len*j.size:=by rw[List.length_take]; omega
      have hlies:Lies ρ w (spliceL bs of (cs.take (Nat.min n len*j.size))) F (spliceL c.toList (F+of+0) vs).toArray:=by
       intro i b' hi
       have hg1:=splice_get bs of (cs.take (Nat.min n len*j.size)) (by omega) i
       have hg2:=splice_get c.toList (F+of+0) vs (by simp;omega) (F+i)
       rw[hg1] at hi
       simp only[List.getElem?_toArray]
       rw[hg2]
       by_cases h1:i<of
       ·rw[if_pos h1] at hi
        rw[if_pos (by omega)]
        obtain⟨v,p,q,r⟩:=hli i b' hi
        exact⟨v,by simpa using p,q,r⟩
       ·rw[if_neg h1] at hi
        rw[if_neg (by omega)]
        by_cases h2:i<of+(cs.take (Nat.min n len*j.size)).length
        ·rw[if_pos h2] at hi
         rw[if_pos (by omega)]
         obtain⟨v,p,q,r⟩:=hvli _ b' hi
         refine⟨v,?_,q,r⟩
         rw[show F+i - (F+of+0)=0+(i - of) by omega]
         simpa using p
        ·rw[if_neg h2] at hi
         rw[if_neg (by omega)]
         obtain⟨v,p,q,r⟩:=hli i b' hi
         exact⟨v,by simpa using p,q,r⟩
      have R:=hg.wrote hgb hl hc hfz hw hcs (by rw[hspl _ hm1 hm2 hcl]; exact hsz) hlies
      exact OpDo.value hrun ⟨ρ,R,.int _ _,fun m=>hw.ext hl hc hcs m⟩
  | _=>exact(good.fail h).elim
 ·cases xa<;>exact(good.fail h).elim
end
end Go.Vm

namespace Go.Vm
set_option maxRecDepth 100000
structure StepX(P:Program)(o:Oper)(call:Bool)(xs:List Operand)(avs:List AV)(H:Hl)(r:AV)(H':Hl)(tch ft:List Nat):Prop where
 grow:H.length≤H'.length
 old:∀ b,b∈tch→b<H.length
 keep:∀ b,b<H.length→b ∉ tch→H'[b]? = H[b]?
 does:∀ (ρ:Rho) (w:World) (a:Act) (g:Hp),VRels ρ w avs (xs.map a.eval)→agree g H ft→agree g H tch →
  (∀ b,H.length≤b→(call=true∨b<H'.length)→g b=none)→HRel ρ w g →
  OpDo P o a w (fun v w'=>∃ ρ',HRel ρ' w' (upd g H' (tch++news H.length H'.length))∧VRel ρ' w' r v∧∀ n,Ext n ρ w ρ' w')
theorem StepOK.x{P:Program}{o:Oper}{c:Bool}{xs:List Operand}{avs:List AV}{H:Hl}{r:AV}{H':Hl}{tch ft:List Nat}(h:StepOK P o xs avs H r H' tch ft):StepX P o c xs avs H r H' tch ft :=
 ⟨h.grow,h.old,h.keep,fun ρ w a g h1 h2 h3 h4 h5=>h.does ρ w a g h1 h2 h3 (fun b hb hb'=>h4 b hb (.inr hb')) h5⟩
def allT:List Bool→Bool
 | []=>true
 | b::bs=>match b with
  | true=>allT bs
  | false=>false
theorem allT_iff{l:List Bool}:allT l=true↔∀ b,b∈l→b=true:=by
 induction l with
 | nil=>simp[allT]
 | cons x xs ih =>
  cases x with
  | true=>simp[allT,ih]
  | false=>simp[allT]
def DoesX(P:Program)(o:Oper)(c:Bool)(xs:List Operand)(avs:List AV)(H:Hl)(Q:AV→Hl→List Nat→List Nat→Prop):Prop :=
 ∃ r H' tch ft,Q r H' tch ft∧StepX P o c xs avs H r H' tch ft∧(allT (scL avs H r H')=true→StepX P o false xs avs H r H' tch ft)
theorem Does.x{P:Program}{o:Oper}{c:Bool}{xs:List Operand}{avs:List AV}{H:Hl}{Q:AV→Hl→List Nat→List Nat→Prop}(h:Does P o xs avs H Q):DoesX P o c xs avs H Q :=
 let ⟨r,H',t,f,q,s⟩:=h;⟨r,H',t,f,q,s.x,fun _=>s.x⟩
def CallOK{R:Type}(P:Program)(holds:R→Prop)(cf:CallF R):Prop :=
 ∀ f vals H k,holds (cf f vals H k)→∃ r H' lg,CallTo P f vals H r H' lg∧holds (k r H' lg)
theorem Ext.born{m:Nat}{ρ ρ':Rho}{w w':World}(h:Ext m ρ w ρ' w')(hb:∀ b,m≤b→ρ b = .unborn)(n:Nat):Ext n ρ w ρ' w' :=
 ⟨h.size,h.os,h.tape,h.output,h.keep,fun b _ hn=>h.slot b (by
  rcases Nat.lt_or_ge b m with h'|h'
  ·exact h'
  ·exact absurd (hb b h') hn) hn,h.fresh,h.rows⟩
theorem call_step{P:Program}{o:Oper}{xs:List Operand}{avs vals:List AV}{H H':Hl}{f:Nat}{r:AV}{lg:List Nat}(hc:CallTo P f vals H r H' lg)
  (he:∀ (ρ:Rho) (w:World) (a:Act),VRels ρ w avs (xs.map a.eval)→∃ us:List Value,VRels ρ w vals us∧(execOp a.eval o).run P w=(callFunc f us.toArray).run P w) :
  StepX P o true xs avs H r H' (under (size H) lg) (upto (size H)) where
 grow:=hc.grow
 old b hb:=by rw[mem_under,size_eq] at hb;exact hb.2
 keep b hb hn:=by
  rw[mem_under,size_eq] at hn
  exact hc.keep b hb fun h=>hn ⟨h,hb⟩
 does ρ w a g hx hf _ hn hg:=by
  have e:g=fun b=>H[b]? := by
   funext b
   rcases Nat.lt_or_ge b H.length with h|h
   ·exact hf b (by rw[mem_upto,size_eq]; exact h)
   ·rw[hn b h (.inl rfl),List.getElem?_eq_none h]
  subst e
  obtain⟨us,hus,hrun⟩:=he ρ w a hx
  intro next Q hnext
  unfold Oper.wp
  rw[hrun,hc.real,Oper.upon_enter]
  refine Calls.mono (hc.does ρ w us hg hus) ?_
  rintro e w' ⟨v,ρ',rfl,h1,h2,h3⟩
  refine hnext v w' ⟨ρ',?_,h2,h3.born (fun b hb=>hg.unborn b (List.getElem?_eq_none hb))⟩
  have:upd (fun b=>H[b]?) H' (under (size H) lg++news H.length H'.length)=fun b=>H'[b]? := by
   funext b
   unfold upd
   split
   ·rfl
   ·rename_i hb
    rw[List.mem_append,mem_under,mem_news,size_eq] at hb
    rcases Nat.lt_or_ge b H.length with h|h
    ·exact(hc.keep b h fun hl=>hb (.inl ⟨hl,h⟩)).symm
    ·have h2:H'.length≤b:=by
      rcases Nat.lt_or_ge b H'.length with h'|h'
      ·exact absurd (.inr ⟨h,h'⟩) hb
      ·exact h'
     show H[b]? = H'[b]?
     rw[List.getElem?_eq_none h,List.getElem?_eq_none h2]
  rw[this]
  exact h1
theorem nmL_mem{n:Nat}{cs:List AV}(h:nmL n cs=true):∀ a,a∈cs→nm n a=true:=by
 induction cs with
 | nil=>intro a ha;cases ha
 | cons x xs ih =>
  unfold nmL at h
  split at h
  ·rename_i hx
   intro a ha
   rcases List.mem_cons.1 ha with rfl|ha
   ·exact hx
   ·exact ih h a ha
  ·cases h
theorem nmL_get{n:Nat}{cs:List AV}(h:nmL n cs=true){i:Nat}{a:AV}(ha:cs[i]? = some a):nm n a=true:=nmL_mem h a (List.mem_of_getElem? ha)
theorem ownL_mem{cs:List AV}(h:ownL cs=true):∀ a,a∈cs→own a=true:=by
 induction cs with
 | nil=>intro a ha;cases ha
 | cons x xs ih =>
  unfold ownL at h
  split at h
  ·rename_i hx
   intro a ha
   rcases List.mem_cons.1 ha with rfl|ha
   ·exact hx
   ·exact ih h a ha
  ·cases h
theorem ownL_get{cs:List AV}(h:ownL cs=true){i:Nat}{a:AV}(ha:cs[i]? = some a):own a=true:=ownL_mem h a (List.mem_of_getElem? ha)
def lowR(n:Nat)(ρ:Rho):Rho:=fun b=>if b<n then ρ b else .unborn
theorem lowR_lt{n b:Nat}{ρ:Rho}(h:b<n):lowR n ρ b=ρ b:=if_pos h
theorem lowR_ge{n b:Nat}{ρ:Rho}(h:n≤b):lowR n ρ b = .unborn:=if_neg (by omega)
theorem lowR_live{n b B F:Nat}{ρ:Rho}(h:lowR n ρ b = .live B F):b<n∧ρ b = .live B F:=by
 rcases Nat.lt_or_ge b n with h'|h'
 ·rw[lowR_lt h'] at h;exact⟨h',h⟩
 ·rw[lowR_ge h'] at h;cases h
theorem VRel.low{n:Nat}{ρ:Rho}{w:World}{a:AV}{v:Value}(h:VRel ρ w a v)(hn:nm n a=true):VRel (lowR n ρ) w a v:=by
 induction h with
 | top v=>exact .top v
 | bool b=>exact .bool b
 | int k n=>exact .int k n
 | flt k n=>exact .flt k n
 | str s=>exact .str s
 | nilp=>exact .nilp
 | ptr b o v h0 h1 hs h =>
  have hb:b<n:=(blt_iff _ _).1 (by simpa only[nm] using hn)
  refine .ptr b o v ?_ ?_ hs ?_<;>rw[lowR_lt hb]
  ·exact h0
  ·exact h1
  ·exact h
 | nils=>exact .nils
 | slc b o len cap sz v h0 hs hv h =>
  have hb:b<n:=(blt_iff _ _).1 (by simpa only[nm] using hn)
  refine .slc b o len cap sz v ?_ hs ?_ ?_<;>rw[lowR_lt hb]
  ·exact h0
  ·exact hv
  ·exact h
 | ros cells off len cap exact_ B F ao cap' vs hlt hp hl ho hc hr hcap hlen he ha ih =>
  have hn:nmL n cells=true:=by simpa only[nm] using hn
  exact .ros cells off len cap exact_ B F ao cap' vs hlt (fun h b F' hl=>hp h b F' (lowR_live hl).2) hl ho hc (fun i a v ha hv=>ih i a v ha hv (nmL_get hn ha)) hcap hlen he ha
 | rop cells off B F vs hlt hp hl ho hc hr ih =>
  have hn:nmL n cells=true:=by simpa only[nm] using hn
  exact .rop cells off B F vs hlt (fun h b F' hl=>hp h b F' (lowR_live hl).2) hl ho hc (fun i a v ha hv=>ih i a v ha hv (nmL_get hn ha))
 | agg cs vs hl ho hr ih =>
  have hn:nmL n cs=true:=by simpa only[nm] using hn
  exact .agg cs vs hl ho (fun i a v ha hv=>ih i a v ha hv (nmL_get hn ha))
 | tup cs vs hl hr ih =>
  have hn:nmL n cs=true:=by simpa only[nm] using hn
  exact .tup cs vs hl (fun i a v ha hv=>ih i a v ha hv (nmL_get hn ha))
 | fn f xs ys us vs hl hl' hr hr' ih ih' =>
  have hn:nmL n xs=true∧nmL n ys=true:=by
   simp only[nm] at hn
   split at hn
   ·rename_i h1;exact⟨h1,hn⟩
   ·cases hn
  exact .fn f xs ys us vs hl hl' (fun i a v ha hv=>ih i a v ha hv (nmL_get hn.1 ha)) (fun i a v ha hv=>ih' i a v ha hv (nmL_get hn.2 ha))
 | nilf=>exact .nilf
 | ifc t a v h ih=>exact .ifc t a v (ih (by simpa only[nm] using hn))
 | nili=>exact .nili
 | mp b v h0 hs h =>
  have hb:b<n:=(blt_iff _ _).1 (by simpa only[nm] using hn)
  refine .mp b v ?_ hs ?_<;>rw[lowR_lt hb]
  ·exact h0
  ·exact h
theorem VRel.wide{ρ ρ':Rho}{w:World}(hρ:∀ b,ρ b ≠ .unborn→ρ' b=ρ b){a:AV}{v:Value}(h:VRel ρ w a v)(hn:own a=true):VRel ρ' w a v:=by
 induction h with
 | top v=>exact .top v
 | bool b=>exact .bool b
 | int k n=>exact .int k n
 | flt k n=>exact .flt k n
 | str s=>exact .str s
 | nilp=>exact .nilp
 | ptr b o v h0 h1 hs h =>
  refine .ptr b o v ?_ ?_ hs ?_<;>rw[hρ b h0]
  ·exact h0
  ·exact h1
  ·exact h
 | nils=>exact .nils
 | slc b o len cap sz v h0 hs hv h =>
  refine .slc b o len cap sz v ?_ hs ?_ ?_<;>rw[hρ b h0]
  ·exact h0
  ·exact hv
  ·exact h
 | ros cells off len cap exact_ B F ao cap' vs hlt hp hl ho hc hr hcap hlen he ha ih =>
  cases cells with
  | nil=>exact .ros [] off len cap exact_ B F ao cap' vs (fun h=>absurd rfl h) (fun h=>absurd rfl h) hl ho hc (fun i a v ha _=>by simp at ha) hcap hlen he ha
  | cons x xs=>simp[own] at hn
 | rop cells off B F vs hlt hp hl ho hc hr ih =>
  cases cells with
  | nil=>exact .rop [] off B F vs (fun h=>absurd rfl h) (fun h=>absurd rfl h) hl ho hc (fun i a v ha _=>by simp at ha)
  | cons x xs=>simp[own] at hn
 | agg cs vs hl ho hr ih =>
  have hn:ownL cs=true:=by simpa only[own] using hn
  exact .agg cs vs hl ho (fun i a v ha hv=>ih i a v ha hv (ownL_get hn ha))
 | tup cs vs hl hr ih =>
  have hn:ownL cs=true:=by simpa only[own] using hn
  exact .tup cs vs hl (fun i a v ha hv=>ih i a v ha hv (ownL_get hn ha))
 | fn f xs ys us vs hl hl' hr hr' ih ih' =>
  have hn:ownL xs=true∧ownL ys=true:=by
   simp only[own] at hn
   split at hn
   ·rename_i h1;exact⟨h1,hn⟩
   ·cases hn
  exact .fn f xs ys us vs hl hl' (fun i a v ha hv=>ih i a v ha hv (ownL_get hn.1 ha)) (fun i a v ha hv=>ih' i a v ha hv (ownL_get hn.2 ha))
 | nilf=>exact .nilf
 | ifc t a v h ih=>exact .ifc t a v (ih (by simpa only[own] using hn))
 | nili=>exact .nili
 | mp b v h0 hs h =>
  refine .mp b v ?_ hs ?_<;>rw[hρ b h0]
  ·exact h0
  ·exact h
theorem scL_out{vals:List AV}{H:Hl}{r:AV}{H':Hl}(h:allT (scL vals H r H')=true) :
  own r=true∧(∀ a,a∈vals→nm H.length a=true)∧(∀ (b:Nat) cs,H[b]? = some (.cells cs)→nmL H.length cs=true)∧(∀ (b:Nat) cs,H'[b]? = some (.cells cs)→ownL cs=true):=by
 rw[allT_iff] at h
 simp only[scL,join_eq,size_eq,List.mem_cons,List.mem_append,List.mem_map] at h
 refine⟨h _ (.inl rfl),fun a ha=>h _ (.inr (.inl ⟨a,ha,rfl⟩)),fun b cs hb => ?_,fun b cs hc => ?_⟩
 ·have:=h _ (.inr (.inr (.inl ⟨_,List.mem_of_getElem? hb,rfl⟩)))
  exact this
 ·have:=h _ (.inr (.inr (.inr ⟨_,List.mem_of_getElem? hc,rfl⟩)))
  exact this
theorem call_loose{P:Program}{o:Oper}{xs:List Operand}{avs vals:List AV}{H H':Hl}{f:Nat}{r:AV}{lg:List Nat}(hc:CallTo P f vals H r H' lg)
  (he:∀ (ρ:Rho) (w:World) (a:Act),VRels ρ w avs (xs.map a.eval)→∃ us:List Value,VRels ρ w vals us∧(execOp a.eval o).run P w=(callFunc f us.toArray).run P w)
  (hs:allT (scL avs H r H')=true) :
  StepX P o false xs avs H r H' (under (size H) lg) (upto (size H)) where
 grow:=hc.grow
 old b hb:=by rw[mem_under,size_eq] at hb;exact hb.2
 keep b hb hn:=by
  rw[mem_under,size_eq] at hn
  exact hc.keep b hb fun h=>hn ⟨h,hb⟩
 does ρ w a g hx hf _ hn hg:=by
  obtain⟨o1,o2,o3,o4⟩:=scL_out hs
  have hlow:∀ b,b<H.length→g b=H[b]? := fun b h=>hf b (by rw[mem_upto,size_eq]; exact h)
  have hmid:∀ b,H.length≤b→b<H'.length→g b=none:=fun b h h'=>hn b h (.inr h')
  have hg1:HRel (lowR H.length ρ) w (fun b=>H[b]?):=by
   refine⟨fun b hb => ?_,fun b hb => ?_,fun b b' B F F' h1 h2=>hg.inj b b' B F F' (lowR_live h1).2 (lowR_live h2).2,fun b cs hb => ?_,fun b B F c el lo hi h1 h2=>hg.marks b B F c el lo hi (lowR_live h1).2 h2,fun b kd ks hb => ?_⟩
   ·exact lowR_ge (List.getElem?_eq_none_iff.1 hb)
   ·have hlt:b<H.length:=(List.getElem?_eq_some_iff.1 hb).1
    rw[lowR_lt hlt]
    exact hg.dead b ((hlow b hlt).trans hb)
   ·have hlt:b<H.length:=(List.getElem?_eq_some_iff.1 hb).1
    rw[lowR_lt hlt]
    rcases hg.live b cs ((hlow b hlt).trans hb) with h|⟨B,F,c,el,lo,hi,h1,h2,h3,h4,h5⟩
    ·exact .inl h
    ·refine .inr ⟨B,F,c,el,lo,hi,h1,h2,h3,h4,fun i a ha => ?_⟩
     obtain⟨v,k1,k2,k3⟩:=h5 i a ha
     exact⟨v,k1,k2,k3.low (nmL_get (o3 b cs hb) ha)⟩
   ·have hlt:b<H.length:=(List.getElem?_eq_some_iff.1 hb).1
    exact hg.sets_of ((hlow b hlt).trans hb) (lowR_lt hlt) fun _ _ _ _ _ _=>rfl
  have hx1:VRels (lowR H.length ρ) w avs (xs.map a.eval):=⟨hx.len,fun i x v hi hv=>(hx.at_ i x v hi hv).low (o2 x (List.mem_of_getElem? hi))⟩
  obtain⟨us,hus,hrun⟩:=he (lowR H.length ρ) w a hx1
  intro next Q hnext
  unfold Oper.wp
  rw[hrun,hc.real,Oper.upon_enter]
  refine Calls.mono (hc.does (lowR H.length ρ) w us hg1 hus) ?_
  rintro e w' ⟨v,ρ',rfl,h1,h2,h3⟩
  have hρ:∀ b,H'.length≤b→ρ' b = .unborn:=fun b hb=>h1.unborn b (List.getElem?_eq_none hb)
  have hge:∀ b,H'.length≤b→H.length≤b:=fun b hb=>Nat.le_trans hc.grow hb
  obtain⟨ρ2,hρ2⟩:∃ ρ2:Rho,ρ2=fun b=>if b<H'.length then ρ' b else ρ b:=⟨_,rfl⟩
  have r_lt:∀ b,b<H'.length→ρ2 b=ρ' b:=fun b hb=>by rw[hρ2]; exact if_pos hb
  have r_ge:∀ b,H'.length≤b→ρ2 b=ρ b:=fun b hb=>by rw[hρ2]; exact if_neg (by omega)
  have hwide:∀ b,ρ' b ≠ .unborn→ρ2 b=ρ' b:=fun b hb=>r_lt b (by
   rcases Nat.lt_or_ge b H'.length with h'|h'
   ·exact h'
   ·exact absurd (hρ b h') hb)
  have hext:∀ n,Ext n ρ w ρ2 w':=by
   intro n
   refine⟨h3.size,h3.os,h3.tape,h3.output,fun B hB hu=>h3.keep B hB (fun b F hl=>hu b F (lowR_live hl).2),fun b _ hb => ?_,fun b B F hl => ?_,h3.rows⟩
   ·rcases Nat.lt_or_ge b H.length with h'|h'
    ·rw[r_lt b (Nat.lt_of_lt_of_le h' hc.grow)]
     have:=h3.slot b h' (by rw[lowR_lt h']; exact hb)
     rwa [lowR_lt h'] at this
    ·rcases Nat.lt_or_ge b H'.length with h2'|h2'
     ·exact absurd (hg.unborn b (hmid b h' h2')) hb
     ·exact .inl (r_ge b h2')
   ·rcases Nat.lt_or_ge b H'.length with h'|h'
    ·rw[r_lt b h'] at hl
     rcases h3.fresh b B F hl with hf'|⟨b',F',hl'⟩
     ·exact .inl hf'
     ·exact .inr ⟨b',F',(lowR_live hl').2⟩
    ·rw[r_ge b h'] at hl
     exact .inr ⟨b,F,hl⟩
  have hbes:∀ b B F,H'.length≤b→ρ b = .live B F→w'.heap[B]? = w.heap[B]? := by
   intro b B F hb hl
   refine h3.keep B (hg.lt hl) fun b' F' hl' => ?_
   obtain⟨h4,h5⟩:=lowR_live hl'
   have:=hg.inj b b' B F F' hl h5
   have:=hge b hb
   omega
  have hupd:∀ b,upd g H' (under (size H) lg++news H.length H'.length) b=if b<H'.length then H'[b]? else g b:=by
   intro b
   unfold upd
   by_cases hb:b<H'.length
   ·rw[if_pos hb]
    split
    ·rfl
    ·rename_i hnot
     rw[List.mem_append,mem_under,mem_news,size_eq] at hnot
     rcases Nat.lt_or_ge b H.length with h|h
     ·rw[hlow b h]; exact(hc.keep b h fun hl=>hnot (.inl ⟨hl,h⟩)).symm
     ·exact absurd (.inr ⟨h,hb⟩) hnot
   ·rw[if_neg hb,if_neg]
    rw[List.mem_append,mem_under,mem_news,size_eq]
    have:=hge b (by omega)
    omega
  refine hnext v w' ⟨ρ2,?_,h2.wide hwide o1,hext⟩
  refine⟨fun b hb => ?_,fun b hb => ?_,fun b b' B F F' hl hl' => ?_,fun b cs hb => ?_,fun b B F c el lo hi hl hh => ?_,fun b kd ks hb => ?_⟩
  ·rw[hupd] at hb
   split at hb
   ·rename_i h';rw[r_lt b h']; exact h1.unborn b hb
   ·rename_i h';rw[r_ge b (by omega)]; exact hg.unborn b hb
  ·rw[hupd] at hb
   split at hb
   ·rename_i h';rw[r_lt b h']; exact h1.dead b hb
   ·rename_i h';rw[r_ge b (by omega)]; exact hg.dead b hb
  ·have aux:∀ b b' B F F',b<H'.length→H'.length≤b'→ρ' b = .live B F→ρ b' = .live B F'→b=b':=by
    intro b b' B F F' hb hb' hl hl'
    have hBlt:=hg.lt hl'
    rcases h3.fresh b B F hl with hf'|⟨b2,F2,hl2⟩
    ·omega
    ·obtain⟨h4,h5⟩:=lowR_live hl2
     have:=hg.inj b2 b' B F2 F' h5 hl'
     have:=hge b' hb'
     omega
   rcases Nat.lt_or_ge b H'.length with hb|hb<;>rcases Nat.lt_or_ge b' H'.length with hb'|hb'
   ·rw[r_lt b hb] at hl;rw[r_lt b' hb'] at hl'
    exact h1.inj b b' B F F' hl hl'
   ·rw[r_lt b hb] at hl;rw[r_ge b' hb'] at hl'
    exact aux b b' B F F' hb hb' hl hl'
   ·rw[r_ge b hb] at hl;rw[r_lt b' hb'] at hl'
    exact(aux b' b B F' F hb' hb hl' hl).symm
   ·rw[r_ge b hb] at hl;rw[r_ge b' hb'] at hl'
    exact hg.inj b b' B F F' hl hl'
  ·rw[hupd] at hb
   split at hb
   ·rename_i h'
    rw[r_lt b h']
    rcases h1.live b cs hb with h|⟨B,F,c,el,lo,hi,k1,k2,k3,k4,k5⟩
    ·exact .inl h
    ·refine .inr ⟨B,F,c,el,lo,hi,k1,k2,k3,k4,fun i x hx' => ?_⟩
     obtain⟨u,q1,q2,q3⟩:=k5 i x hx'
     exact⟨u,q1,q2,q3.wide hwide (ownL_get (o4 b cs hb) hx')⟩
   ·rename_i h'
    rw[r_ge b (by omega)]
    rcases hg.live b cs hb with h|⟨B,F,c,el,lo,hi,k1,k2,k3,k4,k5⟩
    ·exact .inl h
    ·refine .inr ⟨B,F,c,el,lo,hi,k1,by rw[hbes b B F (by omega) k1]; exact k2,k3,k4,fun i x hx' => ?_⟩
     obtain⟨u,q1,q2,q3⟩:=k5 i x hx'
     exact⟨u,q1,q2,ext_bound hext q3⟩
  ·rcases Nat.lt_or_ge b H'.length with hb|hb
   ·rw[r_lt b hb] at hl;exact h1.marks b B F c el lo hi hl hh
   ·rw[r_ge b hb] at hl
    rw[hbes b B F hb hl] at hh
    exact hg.marks b B F c el lo hi hl hh
  ·rw[hupd] at hb
   split at hb
   ·rename_i h'
    exact h1.sets_of hb (r_lt b h') fun _ _ _ _ _ _=>rfl
   ·rename_i h'
    exact hg.sets_of hb (r_ge b (by omega)) fun B F _ _ k1 _=>hbes b B F (by omega) k1
section
variable {R:Type}{A:Alg R}{holds:R→Prop}(good:A.Good holds){P:Program}{o:Oper}{avs:List AV}{H:Hl}{cf:CallF R}{k:ExK R}(hcf:CallOK P holds cf)
include hcf
theorem s_call{f:Nat}{xs:Array Operand}{ts:Array TypeId}(ho:o.op = .call { callee := .value (.func f),args:=xs,argTypes:=ts })
  (h:holds (ex A ops0 cf H (.call f) avs k)):DoesX P o true xs.toList avs H fun r H' t ft=>holds (k r H' t ft):=by
 have h:holds (cf f avs H fun r H' lg=>k r H' (under (size H) lg) (upto (size H))):=by
  rcases avs with _|⟨x,_⟩<;>exact h
 obtain⟨r,H',lg,hc,h⟩:=hcf _ _ _ _ h
 have he:∀ (ρ:Rho) (w:World) (a:Act),VRels ρ w avs (xs.toList.map a.eval)→∃ us:List Value,VRels ρ w avs us∧(execOp a.eval o).run P w=(callFunc f us.toArray).run P w:=by
  intro ρ w a hx
  refine⟨xs.toList.map a.eval,hx,?_⟩
  have hfe:a.eval (.func f) = .func (.func f) #[] #[]:=rfl
  unfold execOp
  rw[ho]
  simp only[resolve,hfe,Deferred.ofValue,Sem.run_bind,Sem.run_pure,Result.andThen_ok,invoke]
  congr 2
  simp only[Array.empty_append,Array.append_empty]
  rw[←Array.toList_map,Array.toArray_toList]
 exact⟨_,_,_,_,h,call_step hc he,call_loose hc he⟩
include good
theorem s_callv{x:Operand}{xs:Array Operand}{ts:Array TypeId}(ho:o.op = .call { callee := .value x,args:=xs,argTypes:=ts })
  (h:holds (ex A ops0 cf H .callv avs k)):DoesX P o true (x::xs.toList) avs H fun r H' t ft=>holds (k r H' t ft):=by
 rcases avs with _|⟨xa,ys⟩
 ·exact(good.fail h).elim
 cases xa with
 | fn f us vs =>
  have h:holds (cf f (join us (join ys vs)) H fun r H' lg=>k r H' (under (size H) lg) (upto (size H))):=h
  obtain⟨r,H',lg,hc,h⟩:=hcf _ _ _ _ h
  have he:∀ (ρ:Rho) (w:World) (a:Act),VRels ρ w (.fn f us vs::ys) ((x::xs.toList).map a.eval)→∃ us':List Value,VRels ρ w (join us (join ys vs)) us'∧(execOp a.eval o).run P w=(callFunc f us'.toArray).run P w:=by
   intro ρ w a hx
   have h1:=hx.head
   have h2:=hx.tail
   generalize hv:a.eval x=v at h1
   cases h1 with
   | fn _ _ _ us' vs' hl hl' hr hr' =>
    refine⟨us'++(xs.toList.map a.eval++vs'),?_,?_⟩
    ·rw[join_eq,join_eq]
     exact VRels.append ⟨hl,hr⟩ (VRels.append h2 ⟨hl',hr'⟩)
    ·unfold execOp
     rw[ho]
     simp only[resolve,hv,Deferred.ofValue,Sem.run_bind,Sem.run_pure,Result.andThen_ok,invoke]
     congr 2
     simp
  exact⟨_,_,_,_,h,call_step hc he,call_loose hc he⟩
 | _=>exact(good.fail h).elim
end
end Go.Vm

namespace Go.Vm
set_option maxRecDepth 100000
def onesOf(k:IntKind):Int:=if k.signed then -1 else k.max
section
variable {R:Type}{A:Alg R}{holds:R→Prop}(good:A.Good holds){P:Program}{o:Oper}{avs:List AV}{H:Hl}{cf:CallF R}{k:ExK R}
include good
theorem s_neg{t:TypeId}{x:Operand}{kd:IntKind}(ho:o.op = .unOp .neg t x)(h:holds (ex A ops0 cf H (.bin .sub kd) avs k)) :
  Does P o [.const (.int kd 0),x] avs H fun r H' t f=>holds (k r H' t f):=by
 rcases avs with _|⟨xa,_|⟨ya,_|⟨_,_⟩⟩⟩
 ·exact(good.fail h).elim
 ·cases xa<;>exact(good.fail h).elim
 ·cases xa with
  | int k1 m =>
   cases ya with
   | int k2 n =>
    simp only[ex,xBin] at h
    split at h
    ·rename_i e1 e2
     have e1:=sameK_eq e1
     have e2:=sameK_eq e2
     subst e1;have e2:=e2.symm;subst e2
     refine⟨_,_,_,_,h,quiet2 fun ρ w a g hv hu _ _=>⟨_,?_,.int _ _⟩⟩
     have hm:(.int _ 0:Value) = .int _ m:=inv_int hv
     cases hm
     simp[execOp,ho,inv_int hu,Op.unary,Op.intArith,ops0,bin0]
    ·exact(good.fail h).elim
   | _=>exact(good.fail h).elim
  | _=>exact(good.fail h).elim
 ·cases xa<;>first|exact(good.fail h).elim|(cases ya<;>exact(good.fail h).elim)
theorem s_com{t:TypeId}{x:Operand}{kd:IntKind}(ho:o.op = .unOp .xor t x)(h:holds (ex A ops0 cf H (.bin .xor kd) avs k)) :
  Does P o [.const (.int kd (onesOf kd)),x] avs H fun r H' t f=>holds (k r H' t f):=by
 rcases avs with _|⟨xa,_|⟨ya,_|⟨_,_⟩⟩⟩
 ·exact(good.fail h).elim
 ·cases xa<;>exact(good.fail h).elim
 ·cases xa with
  | int k1 m =>
   cases ya with
   | int k2 n =>
    simp only[ex,xBin] at h
    split at h
    ·rename_i e1 e2
     have e1:=sameK_eq e1
     have e2:=sameK_eq e2
     subst e1;have e2:=e2.symm;subst e2
     refine⟨_,_,_,_,h,quiet2 fun ρ w a g hv hu _ _=>⟨_,?_,.int _ _⟩⟩
     have hm:(.int _ (onesOf _):Value) = .int _ m:=inv_int hv
     cases hm
     simp[execOp,ho,inv_int hu,Op.unary,Op.intBits,ops0,bin0,onesOf]
    ·exact(good.fail h).elim
   | _=>exact(good.fail h).elim
  | _=>exact(good.fail h).elim
 ·cases xa<;>first|exact(good.fail h).elim|(cases ya<;>exact(good.fail h).elim)
theorem s_ixV{t:TypeId}{x y:Operand}{n:Nat}{e:TypeId}{i:TypeInfo}{d:TypeDesc}{kk:Kd}(ho:o.op = .index t x y)(ht:P.underlying t=some (.array n e))(hd:P.underlying e=some d)(ha:isAggD d=false)
  (hi:P.info? e=some i) (h1:i.size=1) (h:holds (ex A ops0 cf H (.ixV n kk) avs k)):Does P o [x,y] avs H fun r H' t f=>holds (k r H' t f):=by
 rcases avs with _|⟨xa,_|⟨ya,_|⟨_,_⟩⟩⟩
 ·exact(good.fail h).elim
 ·cases xa<;>exact(good.fail h).elim
 ·cases xa with
  | agg cs =>
   cases ya with
   | int kd j =>
    have h:holds (A.chk (ops0.inr j n) (A.get kk cs (ops0.nat j) fun v=>k v H [] [])):=h
    obtain⟨hj,h⟩:=good.chk _ _ h
    have hj:=inr0 hj
    obtain⟨r,hr,h⟩:=good.get _ _ _ _ h
    have hr:cs[j.toNat]? = some r:=hr
    refine⟨_,_,_,_,h,quiet2 fun ρ w a g hv hu _ _ => ?_⟩
    obtain⟨vs,hve,hl,_,hli⟩:=lies_agg hv
    obtain⟨v,q1,q2,q3⟩:=hli _ r hr
    refine⟨v,?_,q3⟩
    simp only[Nat.zero_add] at q1
    simp only[execOp,ho,hve,inv_int hu,Instr.index,asIntOf,Sem.run_bind,Sem.run_pure,Result.andThen_ok,run_underlying ht]
    rw[if_pos (by omega)]
    simp only[Sem.run_bind,run_size hi,Result.andThen_ok,h1,Nat.mul_one,run_part1 hd ha _ _ w q1,Sem.run_pure]
   | _=>exact(good.fail h).elim
  | _=>exact(good.fail h).elim
 ·cases xa<;>first|exact(good.fail h).elim|(cases ya<;>exact(good.fail h).elim)
end
end Go.Vm

namespace Go.Vm
set_option maxRecDepth 100000
section
variable {R:Type}{A:Alg R}{holds:R→Prop}(good:A.Good holds){P:Program}{o:Oper}{avs:List AV}{H:Hl}{cf:CallF R}{k:ExK R}
include good
omit good in
theorem run_binOp_flt{op:BinOp}{t:TypeId}{x y:Operand}{yt:TypeId}{a:Act}{w:World}{k1 k2:FloatKind}{m n:Nat}(ho:o.op = .binOp op t x y yt)(hx:a.eval x = .float k1 m)(hy:a.eval y = .float k2 n){v:Value}
  (h:(binOp op t (.float k1 m) (.float k2 n)).run P w = .ok v w):(execOp a.eval o).run P w = .ok (.value v) w:=by
 simp only[execOp,ho,hx,hy,Sem.run_bind]
 have hg:(eqGuard op t x y (.float k1 m) (.float k2 n)).run P w = .ok () w:=by
  unfold eqGuard
  split<;>rfl
 rw[hg]
 simp only[Result.andThen_ok,h]
 rfl
theorem s_fbin{op:BinOp}{t:TypeId}{x y:Operand}{yt:TypeId}{kd:FloatKind}(ho:o.op = .binOp op t x y yt)
  (h:holds (ex A ops0 cf H (.fbin op kd) avs k)):Does P o [x,y] avs H fun r H' t f=>holds (k r H' t f):=by
 rcases avs with _|⟨xa,_|⟨ya,_|⟨_,_⟩⟩⟩
 ·exact(good.fail h).elim
 ·cases xa<;>exact(good.fail h).elim
 ·cases xa with
  | flt k1 m =>
   cases ya with
   | flt k2 n =>
    simp only[ex,xFbin] at h
    split at h
    ·rename_i e1 e2
     have e1:=sameF_eq e1
     have e2:=sameF_eq e2
     subst e1;subst e2
     obtain⟨r,hr,h⟩:=good.flo _ _ h
     refine⟨_,_,_,_,h,quiet2 fun ρ w a g hv hu _ _=>⟨_,run_binOp_flt ho (inv_flt hv) (inv_flt hu) (run_float_arith w op t _ m n r hr),.flt _ _⟩⟩
    ·exact(good.fail h).elim
   | _=>exact(good.fail h).elim
  | _=>exact(good.fail h).elim
 ·cases xa<;>first|exact(good.fail h).elim|(cases ya<;>exact(good.fail h).elim)
theorem s_fcmp{op:BinOp}{t:TypeId}{x y:Operand}{yt:TypeId}{kd:FloatKind}(ho:o.op = .binOp op t x y yt)(hop:op = .eql∨op = .neq∨op = .lss∨op = .leq∨op = .gtr∨op = .geq)
  (h:holds (ex A ops0 cf H (.fcmp op kd) avs k)):Does P o [x,y] avs H fun r H' t f=>holds (k r H' t f):=by
 rcases avs with _|⟨xa,_|⟨ya,_|⟨_,_⟩⟩⟩
 ·exact(good.fail h).elim
 ·cases xa<;>exact(good.fail h).elim
 ·cases xa with
  | flt k1 m =>
   cases ya with
   | flt k2 n =>
    simp only[ex,xFcmp] at h
    split at h
    ·rename_i e1 e2
     have e1:=sameF_eq e1
     have e2:=sameF_eq e2
     subst e1;subst e2
     have h:=brB_sound good h
     refine⟨_,_,_,_,h,quiet2 fun ρ w a g hv hu _ _=>⟨_,run_binOp_flt ho (inv_flt hv) (inv_flt hu) ?_,.bool _⟩⟩
     rcases hop with rfl|rfl|rfl|rfl|rfl|rfl<;>simp[binOp,Op.floatCmp,ops0,fcmp0]
    ·exact(good.fail h).elim
   | _=>exact(good.fail h).elim
  | _=>exact(good.fail h).elim
 ·cases xa<;>first|exact(good.fail h).elim|(cases ya<;>exact(good.fail h).elim)
omit good in
theorem run_ext{f:Nat}{x:Operand}{ts:Array TypeId}{fn:Func}{e:Array Value→Sem Value}(ho:o.op = .call { callee := .value (.func f),args := #[x],argTypes:=ts })(hf:P.funcs[f]? = some fn)(hn:(fn.name == "runtime.NumGoroutine")=false)
  (hb:fn.body.isNone=true) (h1:Extern.findNext fn=none) (h2:Extern.find fn=some e) (a:Act) (w:World) :
  (execOp a.eval o).run P w=((e #[a.eval x]).run P w).andThen fun v w' => .ok (.value v) w':=by
 have hfe:a.eval (.func f) = .func (.func f) #[] #[]:=rfl
 unfold execOp
 rw[ho]
 simp only[resolve,hfe,Deferred.ofValue,Sem.run_bind,Sem.run_pure,Result.andThen_ok,invoke]
 rw[←run_callFunc_extern hf hn hb h1 h2]
 simp
theorem s_f2b{f:Nat}{x:Operand}{ts:Array TypeId}{fn:Func}(ho:o.op = .call { callee := .value (.func f),args := #[x],argTypes:=ts })(hf:P.funcs[f]? = some fn)(hn:(fn.name == "runtime.NumGoroutine")=false)
  (hb:fn.body.isNone=true) (h1:Extern.findNext fn=none) (h2:Extern.find fn=some Extern.MathFloatBits.float64bits)
  (h:holds (ex A ops0 cf H .f2b avs k)):Does P o [x] avs H fun r H' t f=>holds (k r H' t f):=by
 rcases avs with _|⟨xa,_|⟨_,_⟩⟩
 ·exact(good.fail h).elim
 ·cases xa with
  | flt k1 m =>
   simp only[ex,xF2b] at h
   split at h
   ·rename_i e1
    have e1:=sameF_eq e1
    subst e1
    refine⟨_,_,_,_,h,quiet1 fun ρ w a g hv _ _=>⟨.int .u64 m,?_,.int _ _⟩⟩
    rw[run_ext ho hf hn hb h1 h2,inv_flt hv]
    rfl
   ·exact(good.fail h).elim
  | _=>exact(good.fail h).elim
 ·cases xa<;>exact(good.fail h).elim
theorem s_b2f{f:Nat}{x:Operand}{ts:Array TypeId}{fn:Func}(ho:o.op = .call { callee := .value (.func f),args := #[x],argTypes:=ts })(hf:P.funcs[f]? = some fn)(hn:(fn.name == "runtime.NumGoroutine")=false)
  (hb:fn.body.isNone=true) (h1:Extern.findNext fn=none) (h2:Extern.find fn=some Extern.MathFloatBits.float64frombits)
  (h:holds (ex A ops0 cf H .b2f avs k)):Does P o [x] avs H fun r H' t f=>holds (k r H' t f):=by
 rcases avs with _|⟨xa,_|⟨_,_⟩⟩
 ·exact(good.fail h).elim
 ·cases xa with
  | int k1 m =>
   simp only[ex,xB2f] at h
   split at h
   ·rename_i e1
    have e1:=sameK_eq e1
    subst e1
    refine⟨_,_,_,_,h,quiet1 fun ρ w a g hv _ _=>⟨.float .f64 m.toNat,?_,.flt _ _⟩⟩
    rw[run_ext ho hf hn hb h1 h2,inv_int hv]
    rfl
   ·exact(good.fail h).elim
  | _=>exact(good.fail h).elim
 ·cases xa<;>exact(good.fail h).elim
theorem s_i2f{s t:TypeId}{x:Operand}{k1:IntKind}{kd:FloatKind}(ho:o.op = .convert s t x)(hs:P.underlying s=some (.int k1))(ht:P.underlying t=some (.float kd))
  (h:holds (ex A ops0 cf H (.i2f kd) avs k)):Does P o [x] avs H fun r H' t f=>holds (k r H' t f):=by
 rcases avs with _|⟨xa,_|⟨_,_⟩⟩
 ·exact(good.fail h).elim
 ·cases xa with
  | int k2 m =>
   refine⟨_,_,_,_,h,quiet1 fun ρ w a g hv _ _=>⟨.float kd (floatOfInt kd m),?_,.flt _ _⟩⟩
   simp only[execOp,ho,inv_int hv,Sem.run_bind,run_convert_int_float w s t k2 kd m (by rw[hs]; rfl) ht,Result.andThen_ok]
   rfl
  | _=>exact(good.fail h).elim
 ·cases xa<;>exact(good.fail h).elim
theorem s_fmov{s t:TypeId}{x:Operand}{kd:FloatKind}(ho:o.op = .convert s t x)(hs:P.underlying s=some (.float kd))(ht:P.underlying t=some (.float kd))
  (h:holds (ex A ops0 cf H (.fmov kd) avs k)):Does P o [x] avs H fun r H' t f=>holds (k r H' t f):=by
 rcases avs with _|⟨xa,_|⟨_,_⟩⟩
 ·exact(good.fail h).elim
 ·cases xa with
  | flt k1 m =>
   simp only[ex,xFmov] at h
   split at h
   ·rename_i e1
    have e1:=sameF_eq e1
    subst e1
    refine⟨_,_,_,_,h,quiet1 fun ρ w a g hv _ _=>⟨.float k1 m,?_,.flt _ _⟩⟩
    simp only[execOp,ho,inv_flt hv,Sem.run_bind,run_convert_float_float w s t k1 k1 m m (by rw[hs]; rfl) ht (by simp[floatToFloatBits]),Result.andThen_ok]
    rfl
   ·exact(good.fail h).elim
  | _=>exact(good.fail h).elim
 ·cases xa<;>exact(good.fail h).elim
theorem s_mnx{mx:Bool}{x y:Operand}{ts:Array TypeId}(ho:o.op = .call { callee := .builtin (if mx then .max else .min),args := #[x,y],argTypes:=ts })
  (h:holds (ex A ops0 cf H (.mnx mx) avs k)):Does P o [x,y] avs H fun r H' t f=>holds (k r H' t f):=by
 rcases avs with _|⟨xa,_|⟨ya,_|⟨_,_⟩⟩⟩
 ·exact(good.fail h).elim
 ·cases xa<;>exact(good.fail h).elim
 ·cases xa with
  | int k1 m =>
   cases ya with
   | int k2 n =>
    simp only[ex,xMnx] at h
    split at h
    ·rename_i e1
     have e1:=sameK_eq e1
     subst e1
     refine⟨_,_,_,_,h,quiet2 fun ρ w a g hv hu _ _ => ?_⟩
     refine⟨.int k1 (ops0.mnx mx m n),?_,.int _ _⟩
     rw[run_builtin ho]
     cases mx<;>simp[inv_int hv,inv_int hu,builtin,Builtin.min_,Builtin.max_,Builtin.min2,Builtin.max2,ops0]
    ·exact(good.fail h).elim
   | _=>exact(good.fail h).elim
  | _=>exact(good.fail h).elim
 ·cases xa<;>first|exact(good.fail h).elim|(cases ya<;>exact(good.fail h).elim)
omit good in
theorem HRel.freeze{ρ:Rho}{w:World}{g:Hp}{N:Nat}{c:Array Value}{e:TypeId}{cs:List AV}(hr:HRel (rho1 ρ N (.live w.heap.size 0)) { w with heap:=w.heap.push (.cells c e) } (one g N (.cells cs))) :
  HRel (rho1 ρ N (.live w.heap.size 0)) { w with heap:=w.heap.push (.cells c e (c.size,c.size+1)) } (one g N (.cells cs)):=by
 have cell:∀ (B o:Nat),({ w with heap:=w.heap.push (.cells c e (c.size,c.size+1)) }:World).cell? ⟨B,o,none⟩=({ w with heap:=w.heap.push (.cells c e) }:World).cell? ⟨B,o,none⟩:=by
  intro B o
  simp only[World.cell?,Array.getElem?_push]
  by_cases hB:B=w.heap.size
  ·simp[hB]
  ·simp[hB]
 have size:({ w with heap:=w.heap.push (.cells c e (c.size,c.size+1)) }:World).heap.size=({ w with heap:=w.heap.push (.cells c e) }:World).heap.size:=by simp
 have rw_:∀ B,rows { w with heap:=w.heap.push (.cells c e (c.size,c.size+1)) } B=rows { w with heap:=w.heap.push (.cells c e) } B:=by
  intro B
  simp only[rows,Array.getElem?_push]
  by_cases hB:B=w.heap.size
  ·simp[hB]
  ·simp[hB]
 have V:∀ {a:AV} {v:Value},VRel (rho1 ρ N (.live w.heap.size 0)) { w with heap:=w.heap.push (.cells c e) } a v→VRel (rho1 ρ N (.live w.heap.size 0)) { w with heap:=w.heap.push (.cells c e (c.size,c.size+1)) } a v:=by
  intro a v h
  induction h with
  | slc b o len cap sz v h0 hs hv h =>
   refine .slc b o len cap sz v h0 hs hv fun B F hl => ?_
   obtain⟨ao,cap',h1,h2,h3,h4,h5⟩:=h B F hl
   exact⟨ao,cap',h1,h2,h3,h4,by rw[rw_]; exact h5⟩
  | ros cells off len cap exact B F ao cap' vs hlt hp hl ho hc hr hcap hlen he ha ih =>
   exact .ros cells off len cap exact B F ao cap' vs (by rw[size]; exact hlt) hp hl ho (fun i v hv=>by rw[cell]; exact hc i v hv) ih hcap hlen he ha
  | rop cells off B F vs hlt hp hl ho hc hr ih =>
   exact .rop cells off B F vs (by rw[size]; exact hlt) hp hl ho (fun i v hv=>by rw[cell]; exact hc i v hv) ih
  | top v=>exact .top v
  | bool b=>exact .bool b
  | int k n=>exact .int k n
  | flt k n=>exact .flt k n
  | str s=>exact .str s
  | nilp=>exact .nilp
  | ptr b o v h0 h1 hs h=>exact .ptr b o v h0 h1 hs h
  | nils=>exact .nils
  | agg cs vs hl ho hr ih=>exact .agg cs vs hl ho ih
  | tup cs vs hl hr ih=>exact .tup cs vs hl ih
  | fn f xs ys us vs hl hl' hr hr' ih ih'=>exact .fn f xs ys us vs hl hl' ih ih'
  | nilf=>exact .nilf
  | ifc t a v h ih=>exact .ifc t a v ih
  | nili=>exact .nili
  | mp b v h0 hs h=>exact .mp b v h0 hs h
 refine⟨hr.unborn,hr.dead,hr.inj,fun b ds h => ?_,fun b B F c2 e2 lo hi h1 h2 => ?_,fun b kd ks hb => ?_⟩
 case refine_3 =>
  exact hr.sets_of hb rfl fun B F es clock _ hm=>by
   simp only[Array.getElem?_push] at hm ⊢
   split at hm
   ·cases hm
   ·rename_i hB;rw[if_neg hB,if_neg hB]
 case refine_2 =>
  simp only[Array.getElem?_push] at h2
  split at h2
  ·cases h2
   exact .inr (Nat.le_refl _)
  ·rename_i hB
   exact hr.marks b B F c2 e2 lo hi h1 (by simp only[Array.getElem?_push]; rw[if_neg hB]; exact h2)
 rcases hr.live b ds h with h'|⟨B,F,c2,e2,lo,hi,hl,hh,hs,hf,hc⟩
 ·exact .inl h'
 ·simp only[Array.getElem?_push] at hh
  split at hh
  ·rename_i hB
   cases hh
   refine .inr ⟨B,F,c,e,c.size,c.size+1,hl,by simp only[Array.getElem?_push]; rw[if_pos hB],hs,fun j _ hj=>by omega,fun i a ha => ?_⟩
   obtain⟨v,q1,q2,q3⟩:=hc i a ha
   exact⟨v,q1,q2,V q3⟩
  ·rename_i hB
   refine .inr ⟨B,F,c2,e2,lo,hi,hl,by simp only[Array.getElem?_push]; rw[if_neg hB]; exact hh,hs,hf,fun i a ha => ?_⟩
   obtain⟨v,q1,q2,q3⟩:=hc i a ha
   exact⟨v,q1,q2,V q3⟩
theorem s_s2b{s t e:TypeId}{x:Operand}(ho:o.op = .convert s t x)(hs:P.underlying s=some .string)(ht:P.underlying t=some (.slice e))(he:P.underlying e=some (.int .u8))
  (h:holds (ex A ops0 cf H .s2b avs k)):Does P o [x] avs H fun r H' t f=>holds (k r H' t f):=by
 rcases avs with _|⟨xa,_|⟨_,_⟩⟩
 ·exact(good.fail h).elim
 ·cases xa with
  | str l =>
   have h:holds (k (.slc (size H) 0 l.length l.length 1) (join H [.cells (l.map fun b => .int .u8 b.toNat)]) [] []):=h
   rw[size_eq,join_eq] at h
   refine⟨_,_,_,_,h,⟨by simp,(fun b hb=>by cases hb),fun b hb _=>by rw[List.getElem?_append_left hb],?_⟩⟩
   intro ρ w a g hx hf _ hn hg
   have hN:g H.length=none:=hn _ (Nat.le_refl _) (by simp)
   have hv:=inv_str hx.one
   have hrun:=run_bytes_of_string (P:=P) w s t e ⟨l.toArray⟩ hs ht he
   have hcap:l.length≤grownCap w l.length 0 e:=by
    simp only[grownCap,Question.cut]
    omega
   generalize hN':grownCap w l.length 0 e=N at *
   have hsz:(bytesRow ⟨l.toArray⟩ N).size=N:=by simp[bytesRow,ByteArray.size]; omega
   have hlies:Lies ρ w (l.map fun b=>AV.int .u8 b.toNat) 0 (bytesRow ⟨l.toArray⟩ N):=by
    intro i b hb
    rw[List.getElem?_map] at hb
    obtain⟨c,hc,rfl⟩:=Option.map_eq_some_iff.1 hb
    refine⟨.int .u8 c.toNat,?_,rfl,.int _ _⟩
    have hi:=(List.getElem?_eq_some_iff.1 hc).1
    simp only[bytesRow,Nat.zero_add]
    rw[Array.getElem?_append_left (by simpa using hi)]
    simp[hc]
   have R:=((hg.drew (w.drawn+1)).alloc hN (c:=bytesRow ⟨l.toArray⟩ N) (e:=e) (by simp[hsz]; exact hcap) (lies_bound (drew_ext ρ w _) hlies))
   have R2:=HRel.freeze R
   refine OpDo.value (v := .slice (some ⟨w.heap.size,0,none⟩) l.length N) (w' := { w with heap:=w.heap.push (.cells (bytesRow ⟨l.toArray⟩ N) e ((bytesRow ⟨l.toArray⟩ N).size,(bytesRow ⟨l.toArray⟩ N).size+1)),drawn:=w.drawn+1 }) ?_ ⟨rho1 ρ H.length (.live w.heap.size 0),?_,?_,fun n'=>(drew_ext ρ w (w.drawn+1) n').trans (alloc_ext (hg.drew (w.drawn+1)) hN _ _ (by intro B F h;cases h;rfl) n')⟩
   ·have hsize:(⟨l.toArray⟩:ByteArray).size=l.length:=by simp[ByteArray.size]
    rw[hsize] at hrun
    simp only[execOp,ho,hv,Sem.run_bind]
    rw[hN'] at hrun
    rw[hrun]
    rfl
   ·rw[upd_one]; exact R2
   ·refine .slc _ _ _ _ _ _ (by simp[rho1]) ⟨_,N,rfl,hcap,hcap,fun _=>⟨_,_,rfl⟩⟩ (by simp[rho1]) ?_
    intro B F hl
    simp[rho1] at hl
    obtain⟨rfl,rfl⟩:=hl
    refine⟨_,N,hcap,hcap,rfl,fun _=>rfl,?_⟩
    have hrows:rows { w with heap:=w.heap.push (.cells (bytesRow ⟨l.toArray⟩ N) e ((bytesRow ⟨l.toArray⟩ N).size,(bytesRow ⟨l.toArray⟩ N).size+1)),drawn:=w.drawn+1 } w.heap.size=N:=by
     simp[rows,hsz]
    rw[hrows]; omega
  | _=>exact(good.fail h).elim
 ·cases xa<;>exact(good.fail h).elim
end
end Go.Vm

namespace Go.Vm
set_option maxRecDepth 100000
section
variable {R:Type}{A:Alg R}{holds:R→Prop}(good:A.Good holds){P:Program}{o:Oper}{avs:List AV}{H:Hl}{cf:CallF R}{k:ExK R}
include good
theorem s_mko{t e:TypeId}{len:Nat}{parts:Array (Nat × Operand)}{j:TypeInfo}{z:Value}{zs:List AV}{pl:List (Nat × Nat)}(ho:o.op = .buildSlice t len parts)(ht:P.underlying t=some (.slice e))
  (hj:P.info? e=some j) (hsmall:len*j.size≤2 ^ 24) (hz:j.zero=some z) (zc:Array Value) (hzc:zc=if len*j.size=0 then #[] else z.cells)
  (hs:toAVs ((Array.range (len*j.size)).map (zc[·% zc.size]!)).toList=some zs) (hp:placesOf (fun i=>some (i*j.size,j.size)) (parts.toList.map (·.1))=some pl)
  (h:holds (ex A ops0 cf H (.mko zs len j.size pl) avs k)):Does P o (parts.toList.map (·.2)) avs H fun r H' t f=>holds (k r H' t f):=by
 have h:holds (fillK A ops0 zs pl avs fun cs=>k (.slc (size H) 0 len len j.size) (join H [.cells cs]) [] []):=h
 obtain⟨cs,h,hcl,hcs⟩:=fillK_sound good h
 rw[size_eq,join_eq] at h
 have hzl:=(toAVs_rel hs).1.symm
 have hzn:zs.length=len*j.size:=by rw[←hzl]; simp
 refine⟨_,_,_,_,h,.alloc fun ρ w a g hx _ hg => ?_⟩
 obtain⟨c',h1,h2,h3⟩:=hcs ρ w ((parts.toList.map (·.2)).map a.eval) _ _ (parts.toList.map (·.1)) hx hzl (toAVs_lies hs ρ w) hp
 have e1:(parts.map fun x=>(match x with|(i,x)=>(i,a.eval x))).toList=(parts.toList.map (·.1)).zip ((parts.toList.map (·.2)).map a.eval):=by
  rw[Array.toList_map]
  induction parts.toList with
  | nil=>rfl
  | cons p l ih=>simp[ih]
 refine⟨.slice (some ⟨w.heap.size,0,none⟩) len len,w.drawn,c'.toArray,e,?_,?_,?_,?_⟩
 ·rw[Array.toArray_toList] at h1
  simp only[execOp,ho,Instr.buildSlice,Sem.run_bind,run_underlying ht,run_size hj,Result.andThen_ok]
  rw[if_neg (by omega),e1]
  by_cases h0:len*j.size=0
  ·rw[if_pos h0] at hzc
   subst hzc
   rw[if_pos h0]
   simp only[Sem.run_bind,Sem.run_pure,Result.andThen_ok]
   rw[h1]
   simp[newRow]
  ·rw[if_neg h0] at hzc
   subst hzc
   rw[if_neg h0]
   simp only[Sem.run_bind,Sem.run_pure,Result.andThen_ok,run_zero hj hz]
   rw[h1]
   simp[newRow]
 ·simp;omega
 ·exact h3
 ·intro ρ' w' hl hr
  refine .slc _ _ _ _ _ _ (by rw[hl]; simp) ⟨_,_,rfl,Nat.le_refl _,Nat.le_refl _,fun _=>⟨_,_,rfl⟩⟩ (by rw[hl]; simp) ?_
  intro B F hlb
  rw[hl] at hlb
  cases hlb
  refine⟨_,_,Nat.le_refl _,Nat.le_refl _,rfl,fun _=>rfl,?_⟩
  rw[hr]
  simp
  omega
end
theorem VRel.same{ρ:Rho}{w w':World}(size:w'.heap.size=w.heap.size)(cell:∀ (B o:Nat),w'.cell? ⟨B,o,none⟩=w.cell? ⟨B,o,none⟩)(rw_:∀ B,rows w' B=rows w B){a:AV}{v:Value}(h:VRel ρ w a v):VRel ρ w' a v:=by
 induction h with
 | slc b o len cap sz v h0 hs hv h =>
  refine .slc b o len cap sz v h0 hs hv fun B F hl => ?_
  obtain⟨ao,cap',h1,h2,h3,h4,h5⟩:=h B F hl
  exact⟨ao,cap',h1,h2,h3,h4,by rw[rw_]; exact h5⟩
 | ros cells off len cap exact B F ao cap' vs hlt hp hl ho hc hr hcap hlen he ha ih =>
  exact .ros cells off len cap exact B F ao cap' vs (by rw[size]; exact hlt) hp hl ho (fun i v hv=>by rw[cell]; exact hc i v hv) ih hcap hlen he ha
 | rop cells off B F vs hlt hp hl ho hc hr ih =>
  exact .rop cells off B F vs (by rw[size]; exact hlt) hp hl ho (fun i v hv=>by rw[cell]; exact hc i v hv) ih
 | top v=>exact .top v
 | bool b=>exact .bool b
 | int k n=>exact .int k n
 | flt k n=>exact .flt k n
 | str s=>exact .str s
 | nilp=>exact .nilp
 | ptr b o v h0 h1 hs h=>exact .ptr b o v h0 h1 hs h
 | nils=>exact .nils
 | agg cs vs hl ho hr ih=>exact .agg cs vs hl ho ih
 | tup cs vs hl hr ih=>exact .tup cs vs hl ih
 | fn f xs ys us vs hl hl' hr hr' ih ih'=>exact .fn f xs ys us vs hl hl' ih ih'
 | nilf=>exact .nilf
 | ifc t a v h ih=>exact .ifc t a v ih
 | nili=>exact .nili
 | mp b v h0 hs h=>exact .mp b v h0 hs h
structure Marked(w:World)(B:Nat)(c:Array Value)(e:TypeId)(w':World):Prop where
 here:∃ hi,w'.heap[B]? = some (.cells c e (c.size,hi))
 other:∀ B',B'≠B→w'.heap[B']? = w.heap[B']?
 size:w'.heap.size=w.heap.size
 os:w'.os=w.os
 tape:w'.tape=w.tape
 output:w'.output=w.output
theorem marked{w:World}{B:Nat}{c:Array Value}{e:TypeId}{lo hi:Nat}(h:w.heap[B]? = some (.cells c e (lo,hi)))(hm:lo=hi∨c.size≤lo):Marked w B c e (w.freeze ⟨B,c.size,none⟩ 1) where
 here:=by
  have e1:(w.freeze ⟨B,c.size,none⟩ 1).heap[B]? = some (.cells c e (if lo == hi then(c.size,c.size+1) else(min lo c.size,max hi (c.size+1)))):=by
   unfold World.freeze
   rw[if_neg (by decide)]
   simp[Array.getElem?_modify,h]
  rw[e1]
  by_cases hlh:lo=hi
  ·subst hlh
   exact⟨c.size+1,by simp⟩
  ·have:(lo == hi)=false:=by simpa using hlh
   rw[this]
   refine⟨max hi (c.size+1),?_⟩
   have:min lo c.size=c.size:=Nat.min_eq_right (by omega)
   simp[this]
 other B' hB:=by
  unfold World.freeze
  rw[if_neg (by decide)]
  simp[Array.getElem?_modify,Ne.symm hB]
 size:=by unfold World.freeze;rw[if_neg (by decide)]; simp
 os:=by unfold World.freeze;rw[if_neg (by decide)]
 tape:=by unfold World.freeze;rw[if_neg (by decide)]
 output:=by unfold World.freeze;rw[if_neg (by decide)]
theorem Marked.rel{w w':World}{B:Nat}{c:Array Value}{e:TypeId}{lo hi:Nat}(hm:Marked w B c e w')(h:w.heap[B]? = some (.cells c e (lo,hi))){ρ:Rho}{g:Hp}{b F:Nat}(hg:HRel ρ w g)(hl:ρ b = .live B F) :
  HRel ρ w' g∧(∀ n,Ext n ρ w ρ w')∧∀ {a:AV} {v:Value},VRel ρ w a v→VRel ρ w' a v:=by
 obtain⟨hi',hh⟩:=hm.here
 have cell:∀ (B' o:Nat),w'.cell? ⟨B',o,none⟩=w.cell? ⟨B',o,none⟩:=by
  intro B' o
  simp only[World.cell?]
  by_cases hB:B'=B
  ·subst hB;rw[hh,h]
  ·rw[hm.other B' hB]
 have rw_:∀ B',rows w' B'=rows w B':=by
  intro B'
  by_cases hB:B'=B
  ·subst hB;simp only[rows,hh,h]
  ·simp only[rows,hm.other B' hB]
 have V:∀ {a:AV} {v:Value},VRel ρ w a v→VRel ρ w' a v:=fun q=>q.same hm.size cell rw_
 have hm0:∀ B',B'≠B→w'.heap[B']? = w.heap[B']? := fun B' hB=>hm.other B' hB
 refine⟨⟨hg.unborn,hg.dead,hg.inj,fun i ds hi2 => ?_,fun i B' F' c2 e2 lo2 hi2 h1 h2 => ?_,fun i kd ks hi2=>hg.sets_of hi2 rfl fun B' F' _ _ _ hmm=>hm0 B' fun e=>by subst e;rw[h] at hmm;cases hmm⟩,fun n=>⟨by rw[hm.size]; exact Nat.le_refl _,hm.os,hm.tape,hm.output,fun B' hB hu => ?_,fun _ _ _ => .inl rfl,fun i B' F' q => .inr ⟨i,F',q⟩,fun B' _=>rw_ B'⟩,V⟩
 ·rcases hg.live i ds hi2 with h'|⟨B',F',c2,e2,lo2,hi3,hl2,hh2,hs2,hf2,hc2⟩
  ·exact .inl h'
  ·by_cases hB:B'=B
   ·subst hB
    rw[h] at hh2
    cases hh2
    exact .inr ⟨B',F',c,e,c.size,hi',hl2,hh,hs2,fun j _ hj=>by omega,fun i a ha=>let ⟨v,q1,q2,q3⟩:=hc2 i a ha;⟨v,q1,q2,V q3⟩⟩
   ·exact .inr ⟨B',F',c2,e2,lo2,hi3,hl2,(hm.other B' hB).trans hh2,hs2,hf2,fun i a ha=>let ⟨v,q1,q2,q3⟩:=hc2 i a ha;⟨v,q1,q2,V q3⟩⟩
 ·by_cases hB:B'=B
  ·subst hB
   rw[hh] at h2
   cases h2
   exact .inr (Nat.le_refl _)
  ·rw[hm.other B' hB] at h2
   exact hg.marks i B' F' c2 e2 lo2 hi2 h1 h2
 ·exact hm.other B' fun hB=>hu b F (by rw[hB]; exact hl)
section
variable {R:Type}{A:Alg R}{holds:R→Prop}(good:A.Good holds){P:Program}{o:Oper}{avs:List AV}{H:Hl}{cf:CallF R}{k:ExK R}
include good
theorem s_frz{t e:TypeId}{x:Operand}(ho:o.op = .convert t t x)(ht:P.underlying t=some (.slice e))(he:P.underlying e=some (.int .u8))
  (h:holds (ex A ops0 cf H .frz avs k)):Does P o [x] avs H fun r H' t f=>holds (k r H' t f):=by
 rcases avs with _|⟨xa,_|⟨_,_⟩⟩
 ·exact(good.fail h).elim
 ·cases xa with
  | slc b of len cap sz =>
   have h:holds (blkK A H b fun cs=>A.chk (ops0.lt 0 (ops0.len cs)) (A.chk (ops0.lt 0 len) (k (.slc b of len cap sz) H [] [b]))):=h
   obtain⟨cs,hb,h⟩:=blkK_sound good h
   obtain⟨hc0,h⟩:=good.chk _ _ h
   obtain⟨hl0,h⟩:=good.chk _ _ h
   have hc0:0<cs.length:=by simpa[ops0] using hc0
   have hl0:0<len:=by simpa[ops0] using hl0
   refine⟨_,_,_,_,h,⟨Nat.le_refl _,(fun b hb=>by cases hb),fun _ _ _=>rfl,?_⟩⟩
   intro ρ w a g hx hf _ _ hg
   have hgb:g b=some (.cells cs):=agree_one hf hb
   rcases hg.live b cs hgb with ⟨_,hcs⟩|⟨B,F,c,e2,lo,hi,hl,hc,hsz,hf2,hli⟩
   ·subst hcs;cases hc0
   ·have hv:=hx.one
    cases hv with
    | slc _ _ _ _ _ v h0 hs hv hh =>
     obtain⟨ao,cap',h1,h2,h3,h4,h5⟩:=hh B F hl
     have hao:=h4 (by omega)
     subst hao
     have hM:=marked hc (hg.marks b B F c e2 lo hi hl hc)
     obtain⟨R1,R2,R3⟩:=hM.rel hc hg hl
     refine OpDo.value (v := .slice (some ⟨B,F+of,none⟩) len cap') (w':=w.freeze ⟨B,c.size,none⟩ 1) ?_ ⟨ρ,?_,?_,R2⟩
     ·have hsh:w.shape? B=some (e2,c.size):=by
       unfold World.shape?
       rw[hc]
      simp[execOp,ho,h3,convert,run_underlying ht,run_underlying he,markStringish,hsh]
     ·rw[news_self,List.append_nil,upd_nil]
      exact R1
     ·rw[←h3]
      exact R3 hx.one
  | _=>exact(good.fail h).elim
 ·cases xa<;>exact(good.fail h).elim
end
end Go.Vm

namespace Go.Vm
set_option maxRecDepth 100000
open Go.MapKept
theorem SetIs.mem{kd:IntKind}{ks:List Int}{es:Array MapEntry}(h:SetIs kd ks es){x:MapEntry}(hx:x∈es.toList):∃ n,n∈ks∧x.key = .int kd n∧x.val = .bool true:=by
 have:(x.key,x.val)∈es.toList.map (fun e=>(e.key,e.val)):=List.mem_map.2 ⟨x,hx,rfl⟩
 rw[h] at this
 obtain⟨n,hn,e⟩:=List.mem_map.1 this
 simp only[Prod.mk.injEq] at e
 exact⟨n,hn,e.1.symm,e.2.symm⟩
theorem SetIs.of{kd:IntKind}{ks:List Int}{es:Array MapEntry}(h:SetIs kd ks es){n:Int}(hn:n∈ks):∃ x,x∈es.toList∧x.key = .int kd n:=by
 have:(Value.int kd n,Value.bool true)∈ks.map (fun n=>(Value.int kd n,Value.bool true)):=List.mem_map.2 ⟨n,hn,rfl⟩
 rw[←h] at this
 obtain⟨x,hx,e⟩:=List.mem_map.1 this
 simp only[Prod.mk.injEq] at e
 exact⟨x,hx,e.1⟩
theorem SetIs.keys{kd:IntKind}{ks:List Int}{es:Array MapEntry}(h:SetIs kd ks es):∀ x∈es.toList,IsKey (.int kd) x.key:=fun x hx=>by
 obtain⟨n,_,e,_⟩:=h.mem hx
 rw[e]
 rfl
theorem SetIs.push{kd:IntKind}{ks:List Int}{es:Array MapEntry}(h:SetIs kd ks es)(n:Int)(clock:Nat):SetIs kd (ks ++ [n]) (es.push { key := .int kd n,val := .bool true,born:=clock }):=by
 unfold SetIs at h ⊢
 simp only[Array.toList_push,List.map_append,h,List.map_cons,List.map_nil]
theorem run_look{P:Program}{t k e:TypeId}{kd:IntKind}{i:TypeInfo}(ht:P.underlying t=some (.map k e))(hk:P.underlying k=some (.int kd))(hi:P.info? e=some i)(hz:i.zero=some (.bool false)){w:World}{B clock:Nat}
  {es:Array MapEntry} {ks:List Int} (hb:w.heap[B]? = some (.map es clock)) (hs:SetIs kd ks es) (n:Int):(Instr.lookup t (.map (some B)) (.int kd n) false).run P w = .ok (.bool (ks.contains n)) w:=by
 have hkey:IsKey (.int kd) (.int kd n):=rfl
 rcases findNow_spec hkey es.toList 0 hs.keys with ⟨h1,h2⟩|⟨j,e0,h1,h2,h3⟩
 ·have hc:ks.contains n=false:=by
   cases hc:ks.contains n with
   | false=>rfl
   | true =>
    obtain⟨x,hx,e⟩:=hs.of (List.contains_iff_mem.1 hc)
    exact absurd e (h2 x hx)
  rw[hc]
  simp[Instr.lookup,run_underlying ht,MapKept.run_getObj_map hb,run_checkKey hk hkey,run_findKey hk h1,run_zero hi hz,Result.andThen]
 ·obtain⟨m,hm,e1,e2⟩:=hs.mem (List.mem_of_getElem? h2)
  rw[h3] at e1
  cases e1
  have hc:ks.contains n=true:=List.contains_iff_mem.2 hm
  rw[hc]
  rw[e2] at h1
  simp[Instr.lookup,run_underlying ht,MapKept.run_getObj_map hb,run_checkKey hk hkey,run_findKey hk h1,Result.andThen]
theorem run_upd{P:Program}{t k e:TypeId}{kd:IntKind}(ht:P.underlying t=some (.map k e))(hk:P.underlying k=some (.int kd)){w:World}{B clock:Nat}
  {es:Array MapEntry} {ks:List Int} (hb:w.heap[B]? = some (.map es clock)) (hs:SetIs kd ks es) (n:Int) (hn:ks.contains n=false) :
  (Instr.mapUpdate t (.map (some B)) (.int kd n) (.bool true)).run P w = .ok () { w with heap:=w.heap.setIfInBounds B (.map (es.push { key := .int kd n,val := .bool true,born:=clock }) (clock+1)) }:=by
 have hkey:IsKey (.int kd) (.int kd n):=rfl
 rcases findNow_spec hkey es.toList 0 hs.keys with ⟨h1,h2⟩|⟨j,e0,h1,h2,h3⟩
 ·simp[Instr.mapUpdate,run_underlying ht,MapKept.run_getObj_map hb,run_checkKey hk hkey,run_findKey hk h1,MapKept.run_setObj_map _ hb,Result.andThen]
 ·obtain⟨m,hm,e1,e2⟩:=hs.mem (List.mem_of_getElem? h2)
  rw[h3] at e1
  cases e1
  rw[List.contains_iff_mem.2 hm] at hn
  cases hn
theorem bytes_get(l:List UInt8)(i:Nat):(⟨l.toArray⟩:ByteArray)[i]? = l[i]? := by
 by_cases h:i<l.length
 ·have h2:i<(⟨l.toArray⟩:ByteArray).size:=by simpa[ByteArray.size] using h
  rw[List.getElem?_eq_getElem h]
  have:(⟨l.toArray⟩:ByteArray)[i]? = some (⟨l.toArray⟩:ByteArray)[i]:=getElem?_pos (⟨l.toArray⟩:ByteArray) i h2
  rw[this]
  rfl
 ·have h2:¬ i<(⟨l.toArray⟩:ByteArray).size:=by simpa[ByteArray.size] using h
  rw[List.getElem?_eq_none (by omega)]
  exact getElem?_neg (⟨l.toArray⟩:ByteArray) i h2
section
variable {R:Type}{A:Alg R}{holds:R→Prop}(good:A.Good holds){P:Program}{o:Oper}{avs:List AV}{H:Hl}{cf:CallF R}{k:ExK R}
include good
theorem setK_sound{H:Hl}{b:Nat}{kd:IntKind}{k:List Int→R}(h:holds (setK A H b kd k)):∃ ks,H[b]? = some (.set kd ks)∧holds (k ks):=by
 unfold setK at h
 rw[nth_eq] at h
 split at h
 ·rename_i kd' ks e
  split at h
  ·rename_i e1
   have e1:=sameK_eq e1
   subst e1
   exact⟨ks,e,h⟩
  ·exact(good.fail h).elim
 ·exact(good.fail h).elim
theorem s_mkset{t:TypeId}{kd:IntKind}(ho:o.op = .makeMap t none)(h:holds (ex A ops0 cf H (.mkset kd) avs k)):Does P o [] avs H fun r H' t f=>holds (k r H' t f):=by
 rcases avs with _|⟨_,_⟩
 ·have h:holds (k (.mp (size H)) (join H [.set kd []]) [] []):=h
  rw[size_eq,join_eq] at h
  refine⟨_,_,_,_,h,⟨by simp,fun b hb=>(by cases hb),fun b hb _=>(by rw[List.getElem?_append_left hb]),fun ρ w a g hx hf _ hn hg => ?_⟩⟩
  have hN:g H.length=none:=hn _ (Nat.le_refl _) (by simp)
  obtain⟨R,E⟩:=hg.newSet hN kd
  refine OpDo.value (v := .map (some w.heap.size)) (w' := { w with heap:=w.heap.push (.map #[] 0) }) ?_ ⟨_,by rw[upd_one]; exact R,.mp _ _ (by simp[rho1]) ⟨_,rfl⟩ (fun B F hl => ?_),E⟩
  ·simp[execOp,ho,Instr.makeMap,newObj]
   rfl
  ·unfold rho1 at hl
   rw[if_pos rfl] at hl
   cases hl
   rfl
 ·exact(good.fail h).elim
theorem s_look{t kt et:TypeId}{kd:IntKind}{i:TypeInfo}{x y:Operand}(ho:o.op = .lookup t x y false)(ht:P.underlying t=some (.map kt et))(hk:P.underlying kt=some (.int kd))(hi:P.info? et=some i)(hz:i.zero=some (.bool false))
  (h:holds (ex A ops0 cf H (.look kd) avs k)):Does P o [x,y] avs H fun r H' t f=>holds (k r H' t f):=by
 rcases avs with _|⟨xa,_|⟨ya,_|⟨_,_⟩⟩⟩
 ·exact(good.fail h).elim
 ·cases xa<;>exact(good.fail h).elim
 ·cases xa with
  | mp b =>
   cases ya with
   | int kd' n =>
    simp only[ex,xLook] at h
    split at h
    ·rename_i e1
     have e1:=sameK_eq e1
     subst e1
     obtain⟨ks,hb,h⟩:=setK_sound good h
     have h:=brB_sound good h
     refine⟨_,_,_,_,h,quiet2 fun ρ w a g hv hu hf hg=>⟨.bool (ks.contains n),?_,by rw[Bool.false_xor]; exact .bool _⟩⟩
     obtain⟨B,F,es,clock,h1,h2,h3⟩:=hg.sets b kd ks (agree_one hf hb)
     have hm:a.eval x = .map (some B):=by
      cases hv with
      | mp _ _ _ _ hh=>exact hh B F h1
     simp only[execOp,ho,hm,inv_int hu]
     have:=run_look ht hk hi hz h2 h3 n
     simp[this]
    ·exact(good.fail h).elim
   | _=>exact(good.fail h).elim
  | _=>exact(good.fail h).elim
 ·cases xa<;>first|exact(good.fail h).elim|(cases ya<;>exact(good.fail h).elim)
theorem s_upd{t kt et:TypeId}{kd:IntKind}{m x y:Operand}(ho:o.op = .mapUpdate t m x y)(ht:P.underlying t=some (.map kt et))(hk:P.underlying kt=some (.int kd))
  (h:holds (ex A ops0 cf H (.upd kd) avs k)):Does P o [m,x,y] avs H fun r H' t f=>holds (k r H' t f):=by
 rcases avs with _|⟨xa,_|⟨ya,_|⟨za,_|⟨_,_⟩⟩⟩⟩
 ·exact(good.fail h).elim
 ·cases xa<;>exact(good.fail h).elim
 ·cases xa<;>first|exact(good.fail h).elim|(cases ya<;>exact(good.fail h).elim)
 ·replace h:holds (xUpd A ops0 kd H [xa,ya,za] k):=h
  unfold xUpd at h
  split at h
  ·rename_i b kd' n e0
   cases e0
   split at h
   ·rename_i e1
    have e1:=sameK_eq e1
    subst e1
    obtain⟨ks,hb,h⟩:=setK_sound good h
    obtain⟨hc,h⟩:=good.chk _ _ h
    have hc:ks.contains n=false:=by
     have hc:(!(ks.contains n))=true:=hc
     simpa using hc
    rw[put_eq] at h
    have hbl:=(List.getElem?_eq_some_iff.1 hb).1
    refine⟨_,_,_,_,h,⟨by simp,fun i hi=>(by simp at hi;subst hi;exact hbl),fun i hi hn=>(by simp at hn;rw[List.getElem?_set_ne (fun h=>hn h.symm)]),fun ρ w a g hx hf ht' _ hg => ?_⟩⟩
    have hgb:=agree_one ht' hb
    obtain⟨B,F,es,clock,h1,h2,h3⟩:=hg.sets b kd ks hgb
    obtain⟨hv,hu,hz⟩:=hx.three
    have hm:a.eval m = .map (some B):=by
     cases hv with
     | mp _ _ _ _ hh=>exact hh B F h1
    obtain⟨R,E⟩:=hg.turnSet (clock':=clock+1) hgb h1 h2 rfl (h3.push n clock)
    refine OpDo.skip ?_ ⟨ρ,by rw[upd_self hbl]; exact R,undef_rel _ _,E⟩
    simp only[execOp,ho,hm,inv_int hu,inv_bool hz]
    have:=run_upd ht hk h2 h3 n hc
    simp[this]
   ·exact(good.fail h).elim
  ·exact(good.fail h).elim
 ·replace h:holds A.fail:=by
   cases xa<;>first|exact h|(cases ya<;>first|exact h|(cases za<;>first|exact h|(rename_i bb;cases bb<;>exact h)))
  exact(good.fail h).elim
theorem s_ixT{t:TypeId}{x y:Operand}(ho:o.op = .index t x y)(ht:P.underlying t=some .string)(h:holds (ex A ops0 cf H .ixT avs k)):Does P o [x,y] avs H fun r H' t f=>holds (k r H' t f):=by
 rcases avs with _|⟨xa,_|⟨ya,_|⟨_,_⟩⟩⟩
 ·exact(good.fail h).elim
 ·cases xa<;>exact(good.fail h).elim
 ·cases xa with
  | str s =>
   cases ya with
   | int kd j =>
    have h:holds (A.chk (ops0.inr j (ops0.slen s)) (k (.int .u8 (ops0.sget s j)) H [] [])):=h
    obtain⟨hj,h⟩:=good.chk _ _ h
    have hj:(decide (0≤j) && decide (j<(s.length:Int)))=true:=hj
    simp only[Bool.and_eq_true,decide_eq_true_eq] at hj
    have hlt:j.toNat<s.length:=by omega
    refine⟨_,_,_,_,h,quiet2 fun ρ w a g hv hu _ _=>⟨_,?_,.int _ _⟩⟩
    have hg:(⟨s.toArray⟩:ByteArray)[j.toNat]? = some s[j.toNat]:=by rw[bytes_get,List.getElem?_eq_getElem hlt]
    have he:ops0.sget s j=(s[j.toNat].toNat:Int):=by
     show((s.getD j.toNat 0).toNat:Int)=_
     rw[List.getD_eq_getElem?_getD,List.getElem?_eq_getElem hlt]
     rfl
    rw[he]
    simp only[execOp,ho,inv_str hv,inv_int hu,Instr.index,asIntOf,Sem.run_bind,Sem.run_pure,Result.andThen_ok,run_underlying ht]
    rw[if_pos hj.1,hg]
    simp
   | _=>exact(good.fail h).elim
  | _=>exact(good.fail h).elim
 ·cases xa<;>first|exact(good.fail h).elim|(cases ya<;>exact(good.fail h).elim)
end
end Go.Vm
