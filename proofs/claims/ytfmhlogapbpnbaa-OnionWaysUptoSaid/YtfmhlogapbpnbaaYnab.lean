/-
  A VERIFIED SYMBOLIC MACHINE, PART L: slices that are made, and slices of what there is.
-/
import Derived.Test.YtfmhlogapbpnbaaYnaa
import Derived.Laws.IdiomStrings
import Derived.Laws.Externs
set_option linter.unusedVariables false
set_option linter.unusedSimpArgs false
set_option linter.unusedSectionVars false

namespace Go.Vm
set_option maxRecDepth 100000
theorem ql0{ρ:Rho}{w:World}{g:Hp}(hr:HRel ρ w g)(o:Obj)(n:Nat):Ext n ρ w ρ { w with heap:=w.heap.push o } where
 size:=by simp
 os:=rfl
 tape:=rfl
 output:=rfl
 keep B hB _:=by simp only[Array.getElem?_push]; rw[if_neg (by omega)]
 slot b _ hb := .inl rfl
 fresh b B F hl := .inr ⟨b,F,hl⟩
 rows B hB:=by simp only[rows,Array.getElem?_push]; rw[if_neg (by omega)]
theorem HRel.push{ρ:Rho}{w:World}{g:Hp}(hr:HRel ρ w g)(o:Obj):HRel ρ { w with heap:=w.heap.push o } g where
 unborn:=hr.unborn
 dead:=hr.dead
 inj:=hr.inj
 live b cs h:=by
  rcases hr.live b cs h with h'|⟨B,F,c,e,lo,hi,hl,hh,hs,hf,hc⟩
  ·exact .inl h'
  ·refine .inr ⟨B,F,c,e,lo,hi,hl,?_,hs,hf,qbr (ql0 hr o) hc⟩
   have:=hr.lt hl
   simp only[Array.getElem?_push]
   rw[if_neg (by omega)]
   exact hh
 marks b B F c e lo hi h1 h2:=by
  have:=hr.lt h1
  simp only[Array.getElem?_push] at h2
  rw[if_neg (by omega)] at h2
  exact hr.marks b B F c e lo hi h1 h2
theorem qyx{α:Type}(z:List α)(n i:Nat)(hz:z ≠ []):((List.replicate n z).flatten)[i]? = if i<n*z.length then z[i % z.length]? else none:=by
 have hp:0<z.length:=List.length_pos_iff.2 hz
 induction n generalizing i with
 | zero=>simp
 | succ n ih =>
  simp only[List.replicate_succ,List.flatten_cons]
  by_cases h:i<z.length
  ·rw[List.getElem?_append_left h,if_pos (by rw[Nat.add_mul,Nat.one_mul]; omega),Nat.mod_eq_of_lt h]
  ·rw[List.getElem?_append_right (by omega),ih]
   have e:(i - z.length) % z.length=i % z.length:=by
    conv=>rhs;rw[show i=(i - z.length)+z.length by omega,Nat.add_mod_right]
   rw[e]
   have e2:(n+1)*z.length=n*z.length+z.length:=by rw[Nat.add_mul,Nat.one_mul]
   rw[e2]
   by_cases h2:i - z.length<n*z.length
   ·rw[if_pos h2,if_pos (by omega)]
   ·rw[if_neg h2,if_neg (by omega)]
theorem qpq{z:Array Value}{zs:List AV}(hs:toAVs z.toList=some zs)(n:Nat)(ρ:Rho)(w:World) :
  Lies ρ w (List.replicate n zs).flatten 0 ((Array.range (n*z.size)).map (z[·% z.size]!)):=by
 intro i a hi
 have hl:=(qce hs).1
 by_cases hz:zs = []
 ·subst hz;simp at hi
 ·rw[qyx zs n i hz] at hi
  split at hi
  ·rename_i hlt
   obtain⟨v,h1,h2⟩:=(qce hs).2 _ a hi
   have hsz:zs.length=z.size:=by simpa using hl
   rw[hsz] at hlt h1
   refine⟨v,?_,qlt h2,qlm h2 ρ w⟩
   have hzp:0<z.size:=by
    rw[<-hsz]; exact List.length_pos_iff.2 hz
   have hm:i % z.size<z.size:=Nat.mod_lt _ hzp
   have h1':z[i % z.size]? = some v:=by simpa using h1
   simp only[Nat.zero_add,Array.getElem?_map,Array.getElem?_range,hlt,if_true,Option.map_some]
   rw[getElem!_pos z (i % z.size) hm]
   rw[Array.getElem?_eq_getElem hm] at h1'
   exact h1'
  ·cases hi
theorem qj3{α:Type}(z:List α)(n:Nat):((List.replicate n z).flatten).length=n*z.length:=by
 induction n with
 | zero=>simp
 | succ n ih=>simp only[List.replicate_succ,List.flatten_cons,List.length_append,ih]; rw[Nat.add_mul,Nat.one_mul]; omega
section
variable {R:Type}{A:Alg R}{holds:R->Prop}(good:A.Good holds){P:Program}{o:Oper}{avs:List AV}{H:Hl}{cf:CallF R}{k:ExK R}
include good
theorem s_mks{t e:TypeId}{len:Nat}{parts:Array (Nat × Operand)}{j:TypeInfo}{z:Value}{zs:List AV}{pl:List (Nat × Nat)}(ho:o.op = .buildSlice t len parts)(ht:P.underlying t=some (.slice e))
  (hj:P.info? e=some j) (hsmall:len*j.size<=2 ^ 24) (hz:j.zero=some z) (zc:Array Value) (hzc:zc=if len*j.size=0 then #[] else z.cells)
  (hs:toAVs ((Array.range (len*j.size)).map (zc[·% zc.size]!)).toList=some zs) (hp:qcg (fun i=>some (i*j.size,j.size)) (parts.toList.map (·.1))=some pl)
  (h:holds (ex A ops0 cf H (.mks zs len pl) avs k)):Does P o (parts.toList.map (·.2)) avs H fun r H' t f=>holds (k r H' t f):=by
 have h:holds (fillK A ops0 zs pl avs fun cs=>k (.ros cs 0 len len true) H [] []):=h
 obtain⟨cs,h,hcl,hcs⟩:=qez good h
 refine⟨_,_,_,_,h,⟨Nat.le_refl _,(fun b hb=>by cases hb),fun _ _ _=>rfl,?_⟩⟩
 intro ρ w a g hx _ _ _ hg
 have hzl:=(qce hs).1.symm
 obtain⟨c',h1,h2,h3⟩:=hcs ρ w ((parts.toList.map (·.2)).map a.eval) _ _ (parts.toList.map (·.1)) hx hzl (qev hs ρ w) hp
 have e1:(parts.map fun x=>(match x with|(i,x)=>(i,a.eval x))).toList=(parts.toList.map (·.1)).zip ((parts.toList.map (·.2)).map a.eval):=by
  rw[Array.toList_map]
  induction parts.toList with
  | nil=>rfl
  | cons p l ih=>simp[ih]
 have hrun:(execOp a.eval o).run P w = .ok (.value (.slice (some ⟨w.heap.size,0,none⟩) len len)) { w with heap:=w.heap.push (.cells c'.toArray e) }:=by
  rw[Array.toArray_toList] at h1
  simp only[execOp,ho,Instr.buildSlice,Sem.run_bind,run_underlying ht,qbq hj,Result.andThen_ok]
  rw[if_neg (by omega),e1]
  by_cases h0:len*j.size=0
  ·rw[if_pos h0] at hzc
   subst hzc
   rw[if_pos h0]
   simp only[Sem.run_bind,Sem.run_pure,Result.andThen_ok]
   rw[h1]
   simp[newRow]
  ·rw[if_neg h0] at hzc
   subst hzc
   rw[if_neg h0]
   simp only[Sem.run_bind,Sem.run_pure,Result.andThen_ok,qdk hj hz]
   rw[h1]
   simp[newRow]
 refine OpDo.value hrun ⟨ρ,?_,?_,ql0 hg _⟩
 ·rw[qfs,List.append_nil,qk1]
  exact hg.push _
 ·have E:=ql0 hg (.cells c'.toArray e)
  refine .ros cs 0 len len true w.heap.size 0 _ len c' (fun _=>by simp) (fun _=>hg.unowned (Nat.le_refl _)) (by omega) ?_ ?_ ?_ (Nat.le_refl _) (Nat.le_refl _) (fun _=>rfl) (fun _=>rfl)
  ·have:=qci (h2.trans hcl.symm) h3
   cases this with
   | agg _ _ _ ho _=>exact ho
  ·intro i v hv
   simp[World.cell?,hv]
  ·intro i b v hb hv
   have:=qci (h2.trans hcl.symm) h3
   cases this with
   | agg _ _ _ _ hr=>exact qcf E (hr i b v hb hv)
omit good in
theorem qfx{n:Int}(h0:0<=n)(h:n<=1099511627776):IntKind.i64.wrap n=n:=IntWalk.i64_in n (by omega)
theorem q15{t e:TypeId}{x y:Operand}{j:TypeInfo}{z:Value}{zs:List AV}(ho:o.op = .makeSlice t x y)(ht:P.underlying t=some (.slice e))(hj:P.info? e=some j)(hz:j.zero=some z)
  (hs:toAVs z.cells.toList=some zs) (hsz:z.cells.size=j.size) (h:holds (ex A ops0 cf H (.mksl zs j.bytes) avs k)):Does P o [x,y] avs H fun r H' t f=>holds (k r H' t f):=by
 rcases avs with _|⟨xa,_|⟨ya,_|⟨_,_⟩⟩⟩
 ·exact(good.fail h).elim
 ·cases xa<;>exact(good.fail h).elim
 ·cases xa with
  | int kx l =>
   cases ya with
   | int ky c =>
    obtain⟨hm,h⟩:=good.chk _ _ (show holds (A.chk (ops0.mkr l c j.bytes) (k (.slc (size H) 0 (ops0.nat l) (ops0.nat c) (size zs)) (join H [.cells (ops0.rep (ops0.nat c) zs)]) [] [])) from h)
    obtain⟨hl0,hlc,hb⟩:0<=l/\l<=c/\(c+1)*((j.bytes:Int)+1)<=1099511627776:=by
     have:=hm
     simp only[ops0,Bool.and_eq_true,decide_eq_true_eq] at this
     exact⟨this.1.1,this.1.2,this.2⟩
    have hc1:c+1<=(c+1)*((j.bytes:Int)+1):=by
     have:(c+1)*1<=(c+1)*((j.bytes:Int)+1):=Int.mul_le_mul_of_nonneg_left (by omega) (by omega)
     omega
    have hcb:(j.bytes:Int)*c<=(c+1)*((j.bytes:Int)+1):=by
     have:(c+1)*((j.bytes:Int)+1)=(j.bytes:Int)*c+(c+j.bytes+1):=by
      rw[Int.add_mul,Int.mul_add,Int.mul_comm c]; omega
     omega
    rw[qay,qbx,qay] at h
    refine⟨_,_,_,_,h,.alloc fun ρ w a g hx _ hg=>⟨.slice (some ⟨w.heap.size,0,none⟩) l.toNat c.toNat,w.drawn,(Array.range (c.toNat*z.cells.size)).map (z.cells[·% z.cells.size]!),e,?_,?_,?_,?_⟩⟩
    ·have hxv:=qa1 hx.two.1
     have hyv:=qa1 hx.two.2
     have hwl:=qfx hl0 (by omega)
     have hwc:=qfx (n:=c) (by omega) (by omega)
     simp only[execOp,ho,Instr.makeSlice,Sem.run_bind,run_underlying ht,Result.andThen_ok,hxv,hyv,asInt,asIntOf,Sem.run_pure,typeInfo,run_program,hj,hwl,hwc]
     have e1:(decide (c<0) || decide ((j.bytes:Int)*c>2 ^ 48))=false:=by simp;omega
     have e2:(decide (l<0))=false:=by simp;omega
     have e3:(decide (l>c))=false:=by simp;omega
     simp only[e1,e2,e3,Bool.or_false,Bool.false_eq_true,if_false,Sem.run_bind,run_askRoom,Result.andThen_ok,qbq hj,Sem.run_pure]
     rw[hsz]
     by_cases hc0:c.toNat*j.size=0
     ·have e0:∀ f:Nat->Value,(Array.range 0).map f = #[]:=fun f=>by apply Array.eq_empty_of_size_eq_zero;simp
      simp only[hc0,if_true,Sem.run_bind,Sem.run_pure,Result.andThen_ok,newRow,run_newObj_alloc,e0]
      rfl
     ·simp only[hc0,if_false,Sem.run_bind,Sem.run_pure,Result.andThen_ok,newRow,run_newObj_alloc,qdk hj hz,hsz]
      simp
    ·rw[show ops0.rep (ops0.nat c) zs=(List.replicate c.toNat zs).flatten from rfl,qj3]
     have:=(qce hs).1
     simp at this
     simp[this]
    ·have:=qpq hs c.toNat ρ w
     exact this
    ·intro ρ' w' hl hr
     have hlen:zs.length=z.cells.size:=by have:=(qce hs).1;simpa using this
     refine .slc _ _ _ _ _ _ (by rw[hl]; simp) ⟨_,_,rfl,?_,Nat.le_refl _,fun _=>⟨_,_,rfl⟩⟩ (by rw[hl]; simp) ?_
     ·simp only[ops0]; omega
     ·intro B F hlb
      rw[hl] at hlb
      cases hlb
      refine⟨_,_,Nat.le_refl _,?_,rfl,fun _=>rfl,?_⟩
      ·simp only[ops0]; omega
      ·rw[hr,hlen]; simp[ops0]
   | _=>exact(good.fail h).elim
  | _=>exact(good.fail h).elim
 ·cases xa<;>first|exact(good.fail h).elim|(cases ya<;>exact(good.fail h).elim)
end
end Go.Vm

namespace Go.Vm
set_option maxRecDepth 100000
theorem qc4{P:Program}{w:World}{kd:IntKind}{i:Int}{y:Nat}{code:BoundsCode}(h:0<=i/\i<=y):(Instr.sliceBound (.int kd i) y code).run P w = .ok i.toNat w:=by
 simp[Instr.sliceBound,asIntOf,h]
structure Bds(lo hi mx:Bool)(ys:List AV)(len cap l h m:Nat):Prop where
 le:l<=h
 max:mx=true->h<=m/\m<=cap
 free:mx=false->m=cap/\(h=len∨h<=cap)
 run:∀ (P:Program) (ρ:Rho) (w:World) (isS:Bool) (cap':Nat) (low high mx':Option Value),cap<=cap'->len<=cap'->VRels ρ w ys (low.toList++high.toList++mx'.toList) ->
  low.isSome=lo->high.isSome=hi->mx'.isSome=mx->(Instr.sliceBounds isS len cap' low high mx').run P w = .ok (l,h,if mx then m else cap') w
section
variable {R:Type}{A:Alg R}{holds:R->Prop}(good:A.Good holds)
include good
theorem qc7{lo hi mx:Bool}{ys:List AV}{len cap:Nat}{k:Nat->Nat->Nat->R}(h:holds (qhk A ops0 lo hi mx ys len cap k)) :
  ∃ l h m,holds (k l h m)/\Bds lo hi mx ys len cap l h m:=by
 cases mx with
 | false =>
  cases lo with
  | false =>
   cases hi with
   | false =>
    rcases ys with _|⟨_,_⟩
    ·refine⟨_,_,_,h,Nat.zero_le _,by simp,fun _=>⟨rfl,.inl rfl⟩,?_⟩
     intro P ρ w isS cap' low high mx' hc hl hx h1 h2 h3
     cases low<;>cases high<;>cases mx'<;>simp at h1 h2 h3
     simp[Instr.sliceBounds]
    ·exact(good.fail h).elim
   | true =>
    rcases ys with _|⟨y,_|⟨_,_⟩⟩
    ·exact(good.fail h).elim
    ·cases y with
     | int kd i =>
      obtain⟨hb,h⟩:=good.chk _ _ (show holds (A.chk _ _) from h)
      have hb:=inb0 hb
      refine⟨_,_,_,h,Nat.zero_le _,by simp,fun _=>⟨rfl,.inr (by simp only[ops0]; omega)⟩,?_⟩
      intro P ρ w isS cap' low high mx' hc hl hx h1 h2 h3
      cases low<;>cases high<;>cases mx'<;>simp at h1 h2 h3
      simp at hx
      rw[qa1 hx.one]
      simp[Instr.sliceBounds,qc4 (P:=P) (w:=w) (kd:=kd) (i:=i) (y:=cap') (by omega),ops0]
     | _=>exact(good.fail h).elim
    ·cases y<;>exact(good.fail h).elim
  | true =>
   cases hi with
   | false =>
    rcases ys with _|⟨y,_|⟨_,_⟩⟩
    ·exact(good.fail h).elim
    ·cases y with
     | int kd i =>
      obtain⟨hb,h⟩:=good.chk _ _ (show holds (A.chk _ _) from h)
      have hb:=inb0 hb
      refine⟨_,_,_,h,by simp only[ops0]; omega,by simp,fun _=>⟨rfl,.inl rfl⟩,?_⟩
      intro P ρ w isS cap' low high mx' hc hl hx h1 h2 h3
      cases low<;>cases high<;>cases mx'<;>simp at h1 h2 h3
      simp at hx
      rw[qa1 hx.one]
      simp[Instr.sliceBounds,qc4 (P:=P) (w:=w) (kd:=kd) (i:=i) (y:=len) (by omega),ops0]
     | _=>exact(good.fail h).elim
    ·cases y<;>exact(good.fail h).elim
   | true =>
    rcases ys with _|⟨y,_|⟨y2,_|⟨_,_⟩⟩⟩
    ·exact(good.fail h).elim
    ·cases y<;>exact(good.fail h).elim
    ·cases y with
     | int kd i =>
      cases y2 with
      | int kd2 i2 =>
       obtain⟨hb,h⟩:=good.chk _ _ (show holds (A.chk _ _) from h)
       obtain⟨hb2,h⟩:=good.chk _ _ h
       have hb:=inb0 hb
       have hb2:=inb0 hb2
       have hb2':0<=i/\i<=(i2.toNat:Int):=hb2
       refine⟨_,_,_,h,by simp only[ops0]; omega,by simp,fun _=>⟨rfl,.inr (by simp only[ops0]; omega)⟩,?_⟩
       intro P ρ w isS cap' low high mx' hc hl hx h1 h2 h3
       cases low<;>cases high<;>cases mx'<;>simp at h1 h2 h3
       simp at hx
       rw[qa1 hx.two.1,qa1 hx.two.2]
       simp[Instr.sliceBounds,qc4 (P:=P) (w:=w) (kd:=kd2) (i:=i2) (y:=cap') (by omega),qc4 (P:=P) (w:=w) (kd:=kd) (i:=i) (y:=i2.toNat) (by omega),ops0]
      | _=>exact(good.fail h).elim
     | _=>exact(good.fail h).elim
    ·cases y<;>first|exact(good.fail h).elim|(cases y2<;>exact(good.fail h).elim)
 | true =>
  cases lo with
  | false =>
   cases hi with
   | false=>rcases ys with _|⟨y,_|⟨y2,_⟩⟩<;>exact(good.fail h).elim
   | true =>
    rcases ys with _|⟨y,_|⟨y2,_|⟨_,_⟩⟩⟩
    ·exact(good.fail h).elim
    ·cases y<;>exact(good.fail h).elim
    ·cases y with
     | int kd i =>
      cases y2 with
      | int kd2 i2 =>
       obtain⟨hb,h⟩:=good.chk _ _ (show holds (A.chk _ _) from h)
       obtain⟨hb2,h⟩:=good.chk _ _ h
       have hb:=inb0 hb
       have hb2:=inb0 hb2
       have hb2':0<=i/\i<=(i2.toNat:Int):=hb2
       refine⟨_,_,_,h,Nat.zero_le _,fun _=>by simp only[ops0]; omega,by simp,?_⟩
       intro P ρ w isS cap' low high mx' hc hl hx h1 h2 h3
       cases low<;>cases high<;>cases mx'<;>simp at h1 h2 h3
       simp at hx
       rw[qa1 hx.two.1,qa1 hx.two.2]
       simp[Instr.sliceBounds,qc4 (P:=P) (w:=w) (kd:=kd2) (i:=i2) (y:=cap') (by omega),qc4 (P:=P) (w:=w) (kd:=kd) (i:=i) (y:=i2.toNat) (by omega),ops0]
      | _=>exact(good.fail h).elim
     | _=>exact(good.fail h).elim
    ·cases y<;>first|exact(good.fail h).elim|(cases y2<;>exact(good.fail h).elim)
  | true =>
   cases hi with
   | false=>rcases ys with _|⟨y,_|⟨y2,_|⟨y3,_⟩⟩⟩<;>exact(good.fail h).elim
   | true =>
    rcases ys with _|⟨y,_|⟨y2,_|⟨y3,_|⟨_,_⟩⟩⟩⟩
    ·exact(good.fail h).elim
    ·cases y<;>exact(good.fail h).elim
    ·cases y<;>first|exact(good.fail h).elim|(cases y2<;>exact(good.fail h).elim)
    ·cases y with
     | int kd i =>
      cases y2 with
      | int kd2 i2 =>
       cases y3 with
       | int kd3 i3 =>
        obtain⟨hb,h⟩:=good.chk _ _ (show holds (A.chk _ _) from h)
        obtain⟨hb2,h⟩:=good.chk _ _ h
        obtain⟨hb3,h⟩:=good.chk _ _ h
        have hb:=inb0 hb
        have hb2:=inb0 hb2
        have hb3:=inb0 hb3
        have hb2':0<=i2/\i2<=(i3.toNat:Int):=hb2
        have hb3':0<=i/\i<=(i2.toNat:Int):=hb3
        refine⟨_,_,_,h,by simp only[ops0]; omega,fun _=>by simp only[ops0]; omega,by simp,?_⟩
        intro P ρ w isS cap' low high mx' hc hl hx h1 h2 h3
        cases low<;>cases high<;>cases mx'<;>simp at h1 h2 h3
        simp at hx
        rw[qa1 hx.three.1,qa1 hx.three.2.1,qa1 hx.three.2.2]
        simp[Instr.sliceBounds,qc4 (P:=P) (w:=w) (kd:=kd3) (i:=i3) (y:=cap') (by omega),qc4 (P:=P) (w:=w) (kd:=kd2) (i:=i2) (y:=i3.toNat) (by omega),
         qc4 (P:=P) (w:=w) (kd:=kd) (i:=i) (y:=i2.toNat) (by omega),ops0]
       | _=>exact(good.fail h).elim
      | _=>exact(good.fail h).elim
     | _=>exact(good.fail h).elim
    ·cases y<;>first|exact(good.fail h).elim|(cases y2<;>first|exact(good.fail h).elim|(cases y3<;>exact(good.fail h).elim))
end
section
variable {R:Type}{A:Alg R}{holds:R->Prop}(good:A.Good holds){P:Program}{o:Oper}{avs:List AV}{H:Hl}{cf:CallF R}{k:ExK R}
include good
def slOps(x:Operand)(lo hi mx:Option Operand):List Operand:=x::(lo.toList++hi.toList++mx.toList)
omit good in
theorem qsy(a:Act)(lo hi mx:Option Operand):(lo.toList++hi.toList++mx.toList).map a.eval=(lo.map a.eval).toList++(hi.map a.eval).toList++(mx.map a.eval).toList:=by
 cases lo<;>cases hi<;>cases mx<;>simp
theorem s_slS{t e:TypeId}{x:Operand}{lo hi mx:Option Operand}{i:TypeInfo}(ho:o.op = .slice t x lo hi mx)(ht:P.underlying t=some (.slice e))(hi':P.info? e=some i)
  (h:holds (ex A ops0 cf H (.slS i.size lo.isSome hi.isSome mx.isSome) avs k)):Does P o (slOps x lo hi mx) avs H fun r H' t f=>holds (k r H' t f):=by
 have hrun:∀ (a:Act) (w:World) (ρ:Rho) ys len cap l h m ao cap',Bds lo.isSome hi.isSome mx.isSome ys len cap l h m->VRels ρ w ys ((lo.toList++hi.toList++mx.toList).map a.eval)->cap<=cap'->len<=cap' ->
   a.eval x = .slice ao len cap'->(execOp a.eval o).run P w = .ok (.value (.slice (if(if mx.isSome then m else cap')=l then ao else ao.map (·.add (l*i.size))) (h - l) ((if mx.isSome then m else cap') - l))) w:=by
  intro a w ρ ys len cap l h m ao cap' B hx hc hl hve
  rw[qsy] at hx
  have hb:=B.run P ρ w true cap' _ _ _ hc hl hx (by simp) (by simp) (by simp)
  simp only[execOp,ho,Instr.sliceAt,Sem.run_bind,run_underlying ht,Result.andThen_ok,hve,Instr.slice,hb,qbq hi',Sem.run_pure]
 rcases avs with _|⟨xa,ys⟩
 ·exact(good.fail h).elim
 ·cases xa with
  | slc b of len cap sz =>
   simp only[ex,xSlS] at h
   split at h
   ·rename_i hsz
    have hsz:=Nat.eq_of_beq_eq_true hsz
    subst hsz
    obtain⟨l,hh,m,h,B⟩:=qc7 good h
    refine⟨_,_,_,_,h,.quiet fun ρ w a g hx _ _ => ?_⟩
    have hv:=hx.head
    generalize hve:a.eval x=ve at hv
    have hmx:∀ cap',cap<=cap'->len<=cap'->hh<=(if mx.isSome then m else cap')/\(if mx.isSome then m else cap')<=cap'/\m<=(if mx.isSome then m else cap'):=by
     intro cap' h1 h2
     by_cases hm:mx.isSome=true
     ·have:=B.max hm;simp only[hm,if_true]; omega
     ·have:=B.free (by simpa using hm); simp only[hm]; simp;omega
    cases hv with
    | slc _ _ _ _ _ _ h0 hs hvo hl =>
     obtain⟨ao,cap',rfl,h1,h2,h3⟩:=hs
     have hr:=hrun a w ρ ys len cap l hh m ao cap' B hx.tail h2 h1 hve
     refine⟨_,hr,?_⟩
     obtain⟨g1,g2,g3⟩:=hmx cap' h2 h1
     have hle:=B.le
     generalize (if mx.isSome then m else cap')=m' at *
     refine .slc _ _ _ _ _ _ h0 ⟨_,_,rfl,by simp only[ops0]; omega,by simp only[ops0]; omega,?_⟩ ?_ ?_
     ·intro hc
      obtain⟨B0,F0,rfl⟩:=h3 (by omega)
      rw[if_neg (by omega)]
      exact⟨B0,F0+l*i.size,by simp[qdc]⟩
     ·intro hvd
      obtain⟨ao2,e1,e2,e3⟩:=hvo hvd
      cases e1
      refine⟨if m'=l then ao else ao.map (·.add (l*i.size)),?_,by simp only[ops0]; omega,by simp only[ops0]; omega⟩
      have q1:m' - l=0:=by omega
      have q2:hh - l=0:=by omega
      rw[q1,q2]
     ·intro BB F hlb
      obtain⟨ao2,cap2,e1,e2,e3,e4,e5⟩:=hl BB F hlb
      cases e3
      refine⟨_,_,by simp only[ops0]; omega,by simp only[ops0]; omega,rfl,?_,?_⟩
      ·intro hc
       have:=e4 (by omega)
       subst this
       rw[if_neg (by omega)]
       simp[qdc,ops0,Nat.add_assoc]
      ·have:F+of+m'*i.size<=F+of+cap'*i.size:=Nat.add_le_add_left (Nat.mul_le_mul_right _ g2) _
       have e6:l*i.size+(m' - l)*i.size=m'*i.size:=by rw[<-Nat.add_mul]; congr 1;omega
       simp only[ops0]
       omega
   ·exact(good.fail h).elim
  | ros cells off len cap ex' =>
   simp only[ex,xSlS] at h
   obtain⟨l,hh,m,h,B⟩:=qc7 good h
   refine⟨_,_,_,_,h,.quiet fun ρ w a g hx _ _ => ?_⟩
   have hv:=hx.head
   generalize hve:a.eval x=ve at hv
   cases hv with
   | ros _ _ _ _ _ BB F ao cap' vs hlt hp hl ho' hc hr hcap hlen he ha =>
    have hrr:=hrun a w ρ ys len cap l hh m ao cap' B hx.tail hcap hlen hve
    refine⟨_,hrr,?_⟩
    have hle:=B.le
    by_cases hm:mx.isSome=true
    ·obtain⟨b1,b2⟩:=B.max hm
     simp only[hm,if_true,Bool.or_true]
     refine .ros cells _ _ _ _ BB F _ _ vs hlt hp hl ho' hc hr (by simp only[ops0]; omega) (by simp only[ops0]; omega) (fun _=>rfl) ?_
     intro hn
     rw[if_neg (by omega),ha (by omega)]
     simp[qdc,ops0,Nat.add_assoc]
    ·obtain⟨b1,b2⟩:=B.free (by simpa using hm)
     simp only[hm,Bool.or_false]
     subst b1
     refine .ros cells _ _ _ _ BB F _ _ vs hlt hp hl ho' hc hr (by simp only[ops0]; simp;omega) (by simp only[ops0]; simp;omega) (fun hx=>by have:=he hx;simp only[ops0]; simp;omega) ?_
     intro hn
     simp only[Bool.false_eq_true,if_false] at hn ⊢
     rw[if_neg (by omega),ha (by omega)]
     simp[qdc,ops0,Nat.add_assoc]
  | nils =>
   simp only[ex,xSlS] at h
   obtain⟨l,hh,m,h,B⟩:=qc7 good h
   refine⟨_,_,_,_,h,.quiet fun ρ w a g hx _ _ => ?_⟩
   have hv:=qdz hx.head
   have hrr:=hrun a w ρ ys 0 0 l hh m none 0 B hx.tail (Nat.le_refl _) (Nat.le_refl _) hv
   refine⟨_,hrr,?_⟩
   have hle:=B.le
   have:hh=0:=by
    by_cases hm:mx.isSome=true
    ·have:=B.max hm;omega
    ·have:=(B.free (by simpa using hm)).2;omega
   have:(if mx.isSome=true then m else 0)=0:=by
    split
    ·rename_i hm;have:=B.max hm;omega
    ·rfl
   simp only[*]
   simp
   exact .nils
  | _=>exact(good.fail h).elim
theorem s_slA{t e:TypeId}{x:Operand}{n:Nat}{lo hi:Option Operand}{i:TypeInfo}(ho:o.op = .slice t x lo hi none)(ht:P.underlying t=some (.array n e))(hi':P.info? e=some i)
  (h:holds (ex A ops0 cf H (.slA n i.size lo.isSome hi.isSome) avs k)):Does P o (slOps x lo hi none) avs H fun r H' t f=>holds (k r H' t f):=by
 have hrun:∀ (a:Act) (w:World) (ρ:Rho) ys l h m ad,Bds lo.isSome hi.isSome false ys n n l h m->VRels ρ w ys ((lo.toList++hi.toList++(none:Option Operand).toList).map a.eval) ->
   a.eval x = .pointer (some ad)->(execOp a.eval o).run P w = .ok (.value (.slice (some (if n=l then ad else ad.add (l*i.size))) (h - l) (n - l))) w:=by
  intro a w ρ ys l h m ad B hx hve
  rw[qsy] at hx
  have hb:=B.run P ρ w false n _ _ none (Nat.le_refl _) (Nat.le_refl _) hx (by simp) (by simp) rfl
  simp only[execOp,ho,Instr.sliceAt,Sem.run_bind,run_underlying ht,Result.andThen_ok,hve,Instr.sureAddr,Sem.run_pure,Option.map_none,hb,qbq hi']
  simp
 rcases avs with _|⟨xa,ys⟩
 ·exact(good.fail h).elim
 ·cases xa with
  | ptr b of =>
   obtain⟨cs,hb,h⟩:=qby good (show holds (blkK A H b _) from h)
   obtain⟨hle,h⟩:=good.chk _ _ h
   have hle:of+n*i.size<=cs.length:=by simpa[ops0] using hle
   obtain⟨l,hh,m,h,B⟩:=qc7 good h
   obtain⟨b1,b2⟩:=B.free rfl
   refine⟨_,_,_,_,h,.quiet fun ρ w a g hx hag hg => ?_⟩
   obtain⟨BB,F,c,e',lo',hi'',hl,hve,hc,hsz,hf,hli⟩:=qel hg (qds hag hb) hx.head
   refine⟨_,hrun a w ρ ys l hh m _ B hx.tail hve,?_⟩
   have hbl:=B.le
   refine .slc _ _ _ _ _ _ (by rw[hl]; simp) ⟨_,_,rfl,by simp only[ops0]; omega,by simp only[ops0]; omega,?_⟩ (by rw[hl]; simp) ?_
   ·intro hn
    split
    ·exact⟨_,_,rfl⟩
    ·exact⟨BB,F+of+l*i.size,by simp[qdc]⟩
   ·intro B2 F2 hl2
    rw[hl] at hl2
    cases hl2
    refine⟨_,_,by simp only[ops0]; omega,by simp only[ops0]; omega,rfl,?_,?_⟩
    ·intro hn
     rw[if_neg (by omega)]
     simp[qdc,ops0,Nat.add_assoc]
    ·rw[qb2 hc]
     have e6:l*i.size+(n - l)*i.size=n*i.size:=by rw[<-Nat.add_mul]; congr 1;omega
     simp only[ops0]
     omega
  | rop cells of =>
   simp only[ex,xSlA] at h
   obtain⟨l,hh,m,h,B⟩:=qc7 good h
   obtain⟨b1,b2⟩:=B.free rfl
   refine⟨_,_,_,_,h,.quiet fun ρ w a g hx hag hg => ?_⟩
   have hv:=hx.head
   generalize hve:a.eval x=ve at hv
   have hbl:=B.le
   cases hv with
   | rop _ _ BB F vs hlt hp hl ho' hc hr =>
    refine⟨_,hrun a w ρ ys l hh m _ B hx.tail hve,?_⟩
    subst b1
    refine .ros cells _ _ _ _ BB F _ _ vs hlt hp hl ho' hc hr (Nat.le_refl _) (by simp only[ops0]; omega) (fun _=>rfl) ?_
    intro hn
    rw[if_neg (by omega)]
    simp[qdc,ops0,Nat.add_assoc]
  | _=>exact(good.fail h).elim
end
end Go.Vm

namespace Go.Vm
set_option maxRecDepth 100000
theorem qti(n:Nat):∀ r c,c<=n+(n+768) / 4->Builtin.growBy n r c<=n+(n+768) / 4
 | 0,c,h=>h
 | r+1,c,h=>by
  unfold Builtin.growBy
  split
  ·exact h
  ·exact qti n r _ (by omega)
theorem q1h{n old:Nat}(h:old<n):Builtin.nextslicecap n old<=2*n+192:=by
 unfold Builtin.nextslicecap
 split
 ·omega
 ·split
  ·omega
  ·have:=qti n 4 old (by omega); omega
theorem room0{l n bytes old:Nat}(h:ops0.room l n bytes=true)(ho:old<l+n):¬ Builtin.nextslicecap (l+n) old*bytes>2 ^ 48/\¬ (((l+n:Nat):Int)>IntKind.i64.max):=by
 have h:(l+n+1)*(bytes+1)<=1099511627776:=by simpa[ops0] using h
 have h1:=q1h ho
 have h2:Builtin.nextslicecap (l+n) old*bytes<=(2*(l+n)+192)*(bytes+1):=Nat.mul_le_mul h1 (by omega)
 have h3:(l+n+1)*1<=(l+n+1)*(bytes+1):=Nat.mul_le_mul_left _ (by omega)
 have h4:1*(bytes+1)<=(l+n+1)*(bytes+1):=Nat.mul_le_mul_right _ (by omega)
 have h5:(2*(l+n)+192)*(bytes+1)<=2*((l+n+1)*(bytes+1))+192*(bytes+1):=by
  rw[<-Nat.mul_assoc,<-Nat.add_mul]
  exact Nat.mul_le_mul_right _ (by omega)
 have h6:IntKind.i64.max=9223372036854775807:=by decide
 rw[h6]
 omega
theorem HRel.nothing{ρ:Rho}{w:World}{g:Hp}(hr:HRel ρ w g){N:Nat}(hN:g N=none) :
  HRel (rho1 ρ N .void) w (one g N (.cells []))/\∀ n,Ext n ρ w (rho1 ρ N .void) w:=by
 have E:∀ n,Ext n ρ w (rho1 ρ N .void) w:=fun n=>by
  refine⟨Nat.le_refl _,rfl,rfl,rfl,fun _ _ _=>rfl,fun i _ hi => ?_,fun i B F h => ?_,fun _ _=>rfl⟩
  ·left
   unfold rho1
   split
   ·rename_i h;subst h;exact absurd (hr.unborn _ hN) hi
   ·rfl
  ·unfold rho1 at h
   split at h
   ·cases h
   ·exact .inr ⟨i,F,h⟩
 refine⟨⟨?_,?_,?_,?_,?_⟩,E⟩
 ·intro i hi
  unfold one at hi
  unfold rho1
  split at hi
  ·cases hi
  ·rename_i h;rw[if_neg h]; exact hr.unborn i hi
 ·intro i hi
  unfold one at hi
  unfold rho1
  split at hi
  ·cases hi
  ·rename_i h;rw[if_neg h]; exact hr.dead i hi
 ·intro i j B F F' h h'
  unfold rho1 at h h'
  split at h
  ·cases h
  ·split at h'
   ·cases h'
   ·exact hr.inj i j B F F' h h'
 ·intro i ds hi
  unfold one at hi
  split at hi
  ·rename_i h;subst h
   cases hi
   exact .inl ⟨by simp[rho1],rfl⟩
  ·rename_i h
   rcases hr.live i ds hi with ⟨hv,hd⟩|⟨B',F',c2,e2,lo2,hi2,hl2,hh2,hs2,hf2,hc2⟩
   ·exact .inl ⟨by simp[rho1,h,hv],hd⟩
   ·exact .inr ⟨B',F',c2,e2,lo2,hi2,by simp[rho1,h,hl2],hh2,hs2,hf2,qbr E hc2⟩
 ·intro i B F c e lo hi h1 h2
  unfold rho1 at h1
  split at h1
  ·cases h1
  ·exact hr.marks i B F c e lo hi h1 h2
theorem HRel.move{ρ:Rho}{w w':World}{g:Hp}(hr:HRel ρ w g){b N B F X:Nat}{c c':Array Value}{e:TypeId}{lo hi:Nat}{bs cs':List AV}(hg:g b=some (.cells bs))(hN:g N=none)(hl:ρ b = .live B F)
  (h:w.heap[B]? = some (.cells c e (lo,hi))) (hf:∀ j,X<=j->j<c.size->¬ (lo<=j/\j<hi)) (hw:Wrote w B c' e (lo,hi) w') (hs:c'.size=c.size) (hs':X+cs'.length<=c.size)
  (hc:Lies ρ w cs' X c') :
  HRel (rho1 (rho1 ρ b .dead) N (.live B X)) w' (one (one g b .dead) N (.cells cs'))/\∀ n,Ext n ρ w (rho1 (rho1 ρ b .dead) N (.live B X)) w':=by
 have hbN:b≠N:=by intro h;subst h;rw[hg] at hN;cases hN
 have E:∀ n,Ext n ρ w (rho1 (rho1 ρ b .dead) N (.live B X)) w':=fun n=>by
  have E0:=hw.ext hl h hs n
  refine⟨E0.size,E0.os,E0.tape,E0.output,E0.keep,fun i _ hi => ?_,fun i B' F' h => ?_,E0.rows⟩
  ·unfold rho1
   split
   ·rename_i h;subst h;exact absurd (hr.unborn _ hN) hi
   ·split
    ·exact .inr rfl
    ·exact .inl rfl
  ·unfold rho1 at h
   split at h
   ·cases h;exact .inr ⟨b,F,hl⟩
   ·split at h
    ·cases h
    ·exact .inr ⟨i,F',h⟩
 refine⟨⟨?_,?_,?_,?_,?_⟩,E⟩
 ·intro i hi
  unfold one at hi
  split at hi
  ·cases hi
  ·rename_i h1
   split at hi
   ·cases hi
   ·rename_i h2
    simp only[rho1,if_neg h1,if_neg h2]
    exact hr.unborn i hi
 ·intro i hi
  unfold one at hi
  split at hi
  ·cases hi
  ·rename_i h1
   split at hi
   ·rename_i h2
    simp only[rho1,if_neg h1,if_pos h2]
   ·rename_i h2
    simp only[rho1,if_neg h1,if_neg h2]
    exact hr.dead i hi
 ·intro i j B' F1 F2 h1 h2
  unfold rho1 at h1 h2
  split at h1<;>split at h2
  ·rename_i a b;rw[a,b]
  ·cases h1
   split at h2
   ·cases h2
   ·rename_i _ _ q;exact absurd (hr.inj j b B F2 F h2 hl) q
  ·cases h2
   split at h1
   ·cases h1
   ·rename_i _ _ q;exact absurd (hr.inj i b B F1 F h1 hl) q
  ·split at h1
   ·cases h1
   ·split at h2
    ·cases h2
    ·exact hr.inj i j B' F1 F2 h1 h2
 ·intro i ds hi
  unfold one at hi
  split at hi
  ·rename_i h1;subst h1
   cases hi
   exact .inr ⟨B,X,c',e,lo,_,by simp[rho1],hw.here,by omega,by rw[hs]; exact hf,qbr E hc⟩
  ·rename_i h1
   split at hi
   ·cases hi
   ·rename_i h2
    rcases hr.live i ds hi with ⟨hv,hd⟩|⟨B',F',c2,e2,lo2,hi2,hl2,hh2,hs2,hf2,hc2⟩
    ·exact .inl ⟨by simp[rho1,h1,h2,hv],hd⟩
    ·have hne:B'≠B:=by
      intro hbb;subst hbb
      exact h2 (hr.inj i b B' F' F hl2 hl)
     exact .inr ⟨B',F',c2,e2,lo2,hi2,by simp[rho1,h1,h2,hl2],(hw.other B' hne).trans hh2,hs2,hf2,qbr E hc2⟩
 ·intro i B' F' c2 e2 lo2 hi2 h1 h2
  by_cases hB:B'=B
  ·subst hB
   rw[hw.here] at h2
   cases h2
   rw[hs]
   exact hr.marks b _ F c e _ _ hl h
  ·rw[hw.other B' hB] at h2
   unfold rho1 at h1
   split at h1
   ·cases h1;exact absurd rfl hB
   ·split at h1
    ·cases h1
    ·exact hr.marks i B' F' c2 e2 lo2 hi2 h1 h2
theorem qmc{P:Program}{ρ:Rho}{w:World}{g:Hp}(hg:HRel ρ w g){b o len cap sz sz':Nat}{bs:List AV}(hgb:g b=some (.cells bs)){v:Value}(hv:VRel ρ w (.slc b o len cap sz') v)(hle:o+len*sz<=bs.length) :
    Elems P ρ w sz v ((bs.drop o).take (len*sz)) len:=by
  cases hv with
  | slc _ _ _ _ _ _ h0 hs hvo hh =>
    rcases hg.live b bs hgb with ⟨hvd,hbs⟩|⟨B,F,c,e,lo,hi,hl,hc,hsz,hf,hli⟩
    · obtain⟨ao,rfl,rfl,rfl⟩:=hvo hvd
      subst hbs
      exact qes (B:=0) (X:=0) (vs := []) (by simp) (by simp) (by simp) (fun _=>rfl) (fun i v h=>by simp at h) (fun i a ha=>by simp at ha) (fun v hv=>by simp at hv)
    · obtain⟨ao,cap',h1,h2,rfl,h4,h5⟩:=hh B F hl
      have hsub:=Lies.sub (show Lies ρ w bs F c from hli) o (len*sz)
      obtain⟨vs,hvl,hvc,hvl2,hvo2⟩:=hsub.values
      have hlen:((bs.drop o).take (len*sz)).length=len*sz:=by simp;omega
      refine qes (B:=B) (X:=F+o) (vs:=vs) hvl hlen ?_ ?_ ?_ hvl2 hvo2
      · intro hn
        exact h4 (by intro h; subst h; have : len = 0 := by omega
                     subst this;simp at hn)
      · intro hn
        have:cap'=0:=by
          rcases Nat.eq_zero_or_pos cap' with h|h
          · exact h
          · have:=h4 (by omega); rw[hn] at this;cases this
        omega
      · intro i v hv
        rw[qfq hc]
        exact hvc i v hv
structure AppT(P:Program)(t u e:TypeId)(j:TypeInfo)(z:Value):Prop where
 sl:P.underlying t=some (.slice e)
 el:P.info? e=some j
 zero:j.zero=some z
 zs:z.cells.size=j.size
 src:(∃ e',P.underlying u=some (.slice e'))∨P.underlying u=some .string
section
variable {P:Program}{t u e:TypeId}{j:TypeInfo}{z:Value}{ty:TypeId}{cs:Array Bool}
theorem qdx(T:AppT P t u e j z){w:World}{ao:Option Addr}{len cap n:Nat}{x:Value}{vs:List Value}(hn:(Builtin.lenOf x).run P w = .ok n w)(hf:(Builtin.firstCells j.size n x).run P w = .ok vs.toArray w)
  (hcap:len+n<=cap):(builtin .append #[t,u] ty cs #[.slice ao len cap,x]).run P w =
   (match ao with|some a=>(storeCells (a.add (len*j.size)) vs).run P w|none => .ok () w).andThen fun _ w' => .ok (.value (.slice ao (len+n) cap)) w':=by
 have key:∀ d,P.underlying u=some d->((∃ e',d = .slice e')∨d = .string)->(builtin .append #[t,u] ty cs #[.slice ao len cap,x]).run P w =
   (match ao with|some a=>(storeCells (a.add (len*j.size)) vs).run P w|none => .ok () w).andThen fun _ w' => .ok (.value (.slice ao (len+n) cap)) w':=by
  rintro d hd (⟨e',rfl⟩|rfl) <;>
  ·simp only[builtin,Builtin.append_,List.getElem?_toArray,List.getElem?_cons_zero,List.getElem?_cons_succ,Sem.run_bind,run_underlying T.sl,run_underlying hd,Result.andThen_ok,qbq T.el,Sem.run_pure,
    Bool.false_eq_true,if_false,hn,if_pos hcap,Bool.not_false,if_true,hf]
   cases ao with
   | none=>simp
   | some a=>simp only[Sem.run_bind,Sem.run_pure]; cases (storeCells (a.add (len*j.size)) vs).run P w<;>rfl
 rcases T.src with ⟨e',h⟩|h
 ·exact key _ h (.inl ⟨e',rfl⟩)
 ·exact key _ h (.inr rfl)
theorem qep(T:AppT P t u e j z){w:World}{ao:Option Addr}{len cap n:Nat}{x:Value}{us vs:List Value}(hn:(Builtin.lenOf x).run P w = .ok n w)
  (hf:∀ d,(Builtin.firstCells j.size n x).run P { w with drawn:=d } = .ok vs.toArray { w with drawn:=d }) (hs:∀ d,(Builtin.firstCells j.size len (.slice ao len cap)).run P { w with drawn:=d } = .ok us.toArray { w with drawn:=d })
  (hcap:¬ len+n<=cap) (hroom:ops0.room len n j.bytes=true) :
  ∃ N d,len+n<=N/\(builtin .append #[t,u] ty cs #[.slice ao len cap,x]).run P w =
   .ok (.value (.slice (some ⟨w.heap.size,0,none⟩) (len+n) N)) { w with heap:=w.heap.push (.cells (us.toArray++vs.toArray++Builtin.zeroCells z.cells (N - (len+n))) e),drawn:=d }:=by
 obtain⟨r1,r2⟩:=room0 hroom (old:=cap) (by omega)
 refine⟨(len+n)+w.tape w.drawn (.appendCap (len+n) cap e) % (2 ^ 63 - (len+n)),w.drawn+1,by omega,?_⟩
 have key:∀ d,P.underlying u=some d->((∃ e',d = .slice e')∨d = .string)->(builtin .append #[t,u] ty cs #[.slice ao len cap,x]).run P w =
   .ok (.value (.slice (some ⟨w.heap.size,0,none⟩) (len+n) ((len+n)+w.tape w.drawn (.appendCap (len+n) cap e) % (2 ^ 63 - (len+n)))))
    { w with heap:=w.heap.push (.cells (us.toArray++vs.toArray++Builtin.zeroCells z.cells ((len+n)+w.tape w.drawn (.appendCap (len+n) cap e) % (2 ^ 63 - (len+n)) - (len+n))) e),drawn:=w.drawn+1 }:=by
  rintro d hd (⟨e',rfl⟩|rfl) <;>
  ·simp only[builtin,Builtin.append_,List.getElem?_toArray,List.getElem?_cons_zero,List.getElem?_cons_succ,Sem.run_bind,run_underlying T.sl,run_underlying hd,Result.andThen_ok,qbq T.el,Sem.run_pure,
    Bool.false_eq_true,if_false,hn,if_neg hcap,Bool.not_false,if_true,typeInfo,run_program,T.el,r2,false_and,if_neg r1]
   simp only[run_choose,Question.forced,Bool.false_eq_true,if_false,Question.cut,Result.andThen_ok,run_askRoom]
   rw[hs]
   simp only[Result.andThen_ok]
   rw[hf]
   simp only[Result.andThen_ok,qdk T.el T.zero,newRow,Sem.run_bind,run_newObj_alloc,Sem.run_pure]
   rfl
 rcases T.src with ⟨e',h⟩|h
 ·exact key _ h (.inl ⟨e',rfl⟩)
 ·exact key _ h (.inr rfl)
end
end Go.Vm

namespace Go.Vm
set_option maxRecDepth 100000
theorem qd5{ρ:Rho}{w:World}{xs ys:List AV}{us vs:List Value}{zs:Array Value}(hl:us.length=xs.length)(h1:Lies ρ w xs 0 us.toArray)(h2:Lies ρ w ys 0 vs.toArray) :
  Lies ρ w (xs++ys) 0 (us.toArray++vs.toArray++zs):=by
 intro i a hi
 have hys:∀ i a,ys[i]? = some a->i<vs.length:=by
  intro i a h
  obtain⟨v,hv,_⟩:=h2 i a h
  simp at hv
  exact(List.getElem?_eq_some_iff.1 hv).1
 by_cases h:i<xs.length
 ·rw[List.getElem?_append_left h] at hi
  obtain⟨v,p,q,r⟩:=h1 i a hi
  refine⟨v,?_,q,r⟩
  rw[Array.getElem?_append_left (by simp;omega),Array.getElem?_append_left (by simp;omega)]
  exact p
 ·rw[List.getElem?_append_right (by omega)] at hi
  obtain⟨v,p,q,r⟩:=h2 _ a hi
  have:=hys _ a hi
  refine⟨v,?_,q,r⟩
  rw[Array.getElem?_append_left (by simp;omega),Array.getElem?_append_right (by simp;omega)]
  simp only[List.size_toArray]
  rw[hl,show 0+i - xs.length=0+(i - xs.length) by omega]
  exact p
theorem qqd{α:Type}{l:List α}{n:Nat}(h:l.length=n):l.take n=l:=List.take_of_length_le (by omega)
theorem qcx{P:Program}{ρ:Rho}{w:World}{sz n:Nat}{v:Value}{cs:List AV}(h:∀ d,Elems P ρ { w with drawn:=d } sz v cs n) :
  ∃ vs:List Value,vs.length=n*sz/\(∀ d,(Builtin.firstCells sz n v).run P { w with drawn:=d } = .ok vs.toArray { w with drawn:=d })/\Lies ρ w cs 0 vs.toArray/\∀ v∈vs,vone v=true:=by
 obtain⟨vs,h1,h2,h3,h4⟩:=(h w.drawn).first n (Nat.le_refl _)
 have hcl:=(h w.drawn).len
 refine⟨vs,h1,fun d => ?_,?_,h4⟩
 ·obtain⟨us,g1,g2,_,_⟩:=(h d).first n (Nat.le_refl _)
  have:∀ (d d':Nat) r,(Builtin.firstCells sz n v).run P { w with drawn:=d } = .ok r { w with drawn:=d }->(Builtin.firstCells sz n v).run P { w with drawn:=d' } = .ok r { w with drawn:=d' }:=by
   intro d d' r hr
   cases v with
   | slice ao l c =>
    cases ao with
    | none=>simpa[Builtin.firstCells] using hr
    | some a =>
     simp only[Builtin.firstCells] at hr ⊢
     unfold loadCells at hr ⊢
     have gen:∀ (m i:Nat) (acc:Array Value) r,(loadCellsFrom a i m acc).run P { w with drawn:=d } = .ok r { w with drawn:=d }->(loadCellsFrom a i m acc).run P { w with drawn:=d' } = .ok r { w with drawn:=d' }:=by
      intro m
      induction m with
      | zero=>intro i acc r h;simpa[loadCellsFrom] using h
      | succ m ih =>
       intro i acc r h
       simp only[loadCellsFrom,Sem.run_bind,run_load] at h ⊢
       have hc:({ w with drawn:=d }:World).cell? (a.add i)=({ w with drawn:=d' }:World).cell? (a.add i):=rfl
       have hfar:({ w with drawn:=d }:World).farLoad P (a.add i) (Mode.plain == Mode.atomic)=({ w with drawn:=d' }:World).farLoad P (a.add i) (Mode.plain == Mode.atomic):=rfl
       rw[hc] at h
       cases hcc:({ w with drawn:=d' }:World).cell? (a.add i) with
       | some v =>
        rw[hcc] at h
        simp only[Result.andThen_ok] at h ⊢
        exact ih _ _ _ h
       | none =>
        rw[hcc] at h
        simp only[] at h ⊢
        rw[hfar] at h
        cases hff:({ w with drawn:=d' }:World).farLoad P (a.add i) (Mode.plain == Mode.atomic) with
        | ok x =>
         rw[hff] at h
         obtain⟨v,_⟩:=x
         simp only[Result.andThen_ok] at h ⊢
         exact ih _ _ _ h
        | error e =>
         rw[hff] at h
         simp at h
     exact gen _ _ _ _ hr
   | string s=>simpa[Builtin.firstCells] using hr
   | _=>simp[Builtin.firstCells] at hr
  exact this w.drawn d _ h2
 ·rw[qqd hcl] at h3
  exact h3
section
variable {P:Program}{t u e:TypeId}{j:TypeInfo}{z:Value}
theorem qc3(n:Nat)(zc:Array Value):(Builtin.zeroCells zc n).size=n*zc.size:=by simp[Builtin.zeroCells]
theorem qtz{g:Hp}{H:Hl}{b:Nat}{k k':Blk}(hb:b<H.length):upd g (H.set b k ++ [k']) ([b]++news H.length (H.set b k ++ [k']).length)=one (one g b k) H.length k':=by
 funext i
 simp only[upd,one,List.length_append,List.length_set,List.length_cons,List.length_nil,Nat.zero_add,qnb,List.mem_append,List.mem_singleton]
 by_cases h:i=H.length
 ·subst h
  simp
 ·by_cases h2:i=b
  ·subst h2
   rw[if_pos (.inl rfl),if_neg h,if_pos rfl,List.getElem?_append_left (by simpa using hb)]
   simp[hb]
  ·rw[if_neg (by simp[h,h2]),if_neg h,if_neg h2]
end
section
variable {R:Type}{A:Alg R}{holds:R->Prop}(good:A.Good holds){P:Program}{o:Oper}{avs:List AV}{H:Hl}{cf:CallF R}{k:ExK R}
include good
theorem s_app{x y:Operand}{t u e:TypeId}{j:TypeInfo}{z:Value}(ho:o.op = .call { callee := .builtin .append,args := #[x,y],argTypes := #[t,u] })(T:AppT P t u e j z)
  (h:holds (ex A ops0 cf H (.app j.size j.bytes) avs k)):Does P o [x,y] avs H fun r H' t f=>holds (k r H' t f):=by
 have hex:∀ (a:Act) (w:World),(execOp a.eval o).run P w=(builtin .append #[t,u] o.type (#[x,y].map fun | .const _=>true|_=>false) #[a.eval x,a.eval y]).run P w:=by
  intro a w
  rw[qcj ho]
  first|(simp;done)|(simp;rfl)
 have bare:∀ {xa ya:AV},(∀ ρ w v,VRel ρ w xa v->∃ ao,v = .slice ao 0 0) ->
   holds (qec A ops0 H j.size ya fun cs n ft=>A.chk (ops0.room 0 n j.bytes) (k (.slc (size H) 0 n n j.size) (join H [.cells cs]) [] ft))->Does P o [x,y] [xa,ya] H fun r H' t f=>holds (k r H' t f):=by
  intro xa ya hxa h
  obtain⟨cs,n,ft,h,hel⟩:=qc0 good h
  obtain⟨hroom,h⟩:=good.chk _ _ h
  rw[qay,qbx] at h
  refine⟨_,_,_,_,h,⟨by simp,(fun b hb=>by cases hb),fun b hb _=>by rw[List.getElem?_append_left hb],?_⟩⟩
  intro ρ w a g hx hf _ hn hg
  obtain⟨ao,hve⟩:=hxa ρ w _ hx.two.1
  have E:∀ d,Elems P ρ { w with drawn:=d } j.size (a.eval y) cs n:=fun d=>hel P ρ _ g _ (qcf (qb1 ρ w d) hx.two.2) hf (hg.drew d)
  obtain⟨vs,hvl,hvr,hvli,hvo⟩:=qcx E
  have hcl:=(E w.drawn).len
  have hN:g H.length=none:=hn _ (Nat.le_refl _) (by simp)
  by_cases hn0:n=0
  ·subst hn0
   have hcs:cs = []:=List.eq_nil_of_length_eq_zero (by omega)
   have hvs:vs = []:=List.eq_nil_of_length_eq_zero (by omega)
   subst hcs;subst hvs
   have hrun:(execOp a.eval o).run P w = .ok (.value (.slice ao 0 0)) w:=by
    rw[hex,hve,qdx T (E w.drawn).lenOf (hvr w.drawn) (Nat.le_refl _)]
    cases ao<;>simp[storeCells]
   obtain⟨R,E2⟩:=hg.nothing hN
   refine OpDo.value hrun ⟨_,?_,?_,E2⟩
   ·rw[qgb]; exact R
   ·exact .slc _ _ _ _ _ _ (by simp[rho1]) ⟨ao,0,rfl,Nat.le_refl _,Nat.le_refl _,by simp⟩ (fun _=>⟨ao,rfl,rfl,rfl⟩) (by simp[rho1])
  ·obtain⟨N,d,hNn,hrun⟩:=qep (ty:=o.type) (cs := #[x,y].map fun | .const _=>true|_=>false) T (ao:=ao) (len:=0) (cap:=0) (us := []) (E w.drawn).lenOf hvr
    (fun d=>by cases ao<;>simp[Builtin.firstCells,loadCells,loadCellsFrom]) (by omega) hroom
   rw[Nat.zero_add] at hNn hrun
   have hsz:(([]:List Value).toArray++vs.toArray++Builtin.zeroCells z.cells (N - n)).size=N*j.size:=by
    simp only[List.append_toArray,Array.size_append,List.size_toArray,List.nil_append,qc3,T.zs,hvl]
    rw[<-Nat.add_mul]; congr 1;omega
   have hc:Lies ρ w cs 0 (([]:List Value).toArray++vs.toArray++Builtin.zeroCells z.cells (N - n)):=by
    have:=qd5 (ρ:=ρ) (w:=w) (xs := []) (us := []) (zs:=Builtin.zeroCells z.cells (N - n)) rfl (fun i a h=>by simp at h) hvli
    simpa using this
   have R:=(hg.alloc hN (e:=e) (by rw[hsz,hcl]; exact Nat.mul_le_mul_right _ hNn) hc).drew d
   have E2:∀ n',Ext n' ρ w (rho1 ρ H.length (.live w.heap.size 0)) { w with heap:=w.heap.push (.cells (([]:List Value).toArray++vs.toArray++Builtin.zeroCells z.cells (N - n)) e) }:=qdn hg hN _ _ (by intro B F h;cases h;rfl)
   refine OpDo.value (by rw[hex,hve]; exact hrun) ⟨rho1 ρ H.length (.live w.heap.size 0),?_,?_,fun n'=>(E2 n').trans (qb1 _ _ d n')⟩
   ·rw[qgb]; exact R
   ·refine .slc _ _ _ _ _ _ (by simp[rho1]) ⟨_,N,rfl,hNn,hNn,fun _=>⟨_,_,rfl⟩⟩ (by simp[rho1]) ?_
    intro B F hl
    simp[rho1] at hl
    obtain⟨rfl,rfl⟩:=hl
    refine⟨_,N,hNn,hNn,rfl,fun _=>rfl,?_⟩
    have hrows:rows { w with heap:=w.heap.push (.cells (([]:List Value).toArray++vs.toArray++Builtin.zeroCells z.cells (N - n)) e),drawn:=d } w.heap.size=N*j.size:=by
     rw[<-hsz]; exact qb2 (by simp;exact⟨rfl,rfl⟩)
    rw[hrows]; omega
 have lit:∀ {fs:List AV} {off len:Nat} {ya:AV},0<len ->
   holds (qec A ops0 H j.size (.ros fs off len len true) fun us m ft1=>qec A ops0 H j.size ya fun cs n ft=>A.br (ops0.lt 0 n)
    (A.chk (ops0.room m n j.bytes) (k (.slc (size H) 0 (ops0.add m n) (ops0.add m n) j.size) (join H [.cells (ops0.app us cs)]) [] (join ft1 ft)))
    (k (.ros fs off len len true) H [] (join ft1 ft)))->Does P o [x,y] [.ros fs off len len true,ya] H fun r H' t f=>holds (k r H' t f):=by
  intro fs off len ya hlen h
  obtain⟨es,m,ft1,h,hel1⟩:=qc0 good h
  obtain⟨cs,n,ft,h,hel⟩:=qc0 good h
  rw[qbx] at h
  have main:∀ (ρ:Rho) (w:World) (a:Act) (g:Hp),VRels ρ w [.ros fs off len len true,ya] ([x,y].map a.eval)->agree g H (ft1++ft)->HRel ρ w g ->
    ∃ B X,a.eval x = .slice (some ⟨B,X,none⟩) len len/\m=len/\(∀ d,Elems P ρ { w with drawn:=d } j.size (a.eval x) es m)/\∀ d,Elems P ρ { w with drawn:=d } j.size (a.eval y) cs n:=by
   intro ρ w a g hx hf hg
   have E1:∀ d,Elems P ρ { w with drawn:=d } j.size (a.eval x) es m:=fun d=>hel1 P ρ _ g _ (qcf (qb1 ρ w d) hx.two.1) (fun i hi=>hf i (List.mem_append_left _ hi)) (hg.drew d)
   have E2:∀ d,Elems P ρ { w with drawn:=d } j.size (a.eval y) cs n:=fun d=>hel P ρ _ g _ (qcf (qb1 ρ w d) hx.two.2) (fun i hi=>hf i (List.mem_append_right _ hi)) (hg.drew d)
   have hxv:=hx.two.1
   generalize hve:a.eval x=ve at hxv E1
   cases hxv with
   | ros _ _ _ _ _ B F ao cap' vs hlt hp hl ho' hc hr hcap hlen2 he ha =>
    have:=he rfl
    subst this
    have:=ha (by omega)
    subst this
    refine⟨B,F+off,rfl,?_,E1,E2⟩
    have h1:=(E1 w.drawn).lenOf
    simp[Builtin.lenOf] at h1
    exact h1.symm
  rcases good.br _ _ _ h with ⟨hn,h⟩|⟨hn,hq⟩
  ·have hn:0<n:=by simpa[ops0] using hn
   obtain⟨hroom,h⟩:=good.chk _ _ h
   rw[qay,qbx] at h
   refine⟨_,_,_,_,h,⟨by simp,(fun b hb=>by cases hb),fun b hb _=>by rw[List.getElem?_append_left hb],?_⟩⟩
   intro ρ w a g hx hf _ hnew hg
   obtain⟨B,X,hve,rfl,E1,E⟩:=main ρ w a g hx hf hg
   obtain⟨vs,hvl,hvr,hvli,hvo⟩:=qcx E
   obtain⟨us,hul,hur,huli,huo⟩:=qcx E1
   have hcl:=(E w.drawn).len
   have hsl:=(E1 w.drawn).len
   have hN:g H.length=none:=hnew _ (Nat.le_refl _) (by simp)
   rw[hve] at hur
   obtain⟨N,d,hNn,hrun⟩:=qep (ty:=o.type) (cs := #[x,y].map fun | .const _=>true|_=>false) T (ao:=some ⟨B,X,none⟩) (len:=m) (cap:=m) (E w.drawn).lenOf hvr hur (by omega) hroom
   have hsz:(us.toArray++vs.toArray++Builtin.zeroCells z.cells (N - (m+n))).size=N*j.size:=by
    simp only[List.append_toArray,Array.size_append,List.size_toArray,List.length_append,qc3,T.zs,hvl,hul]
    rw[<-Nat.add_mul,<-Nat.add_mul]; congr 1;omega
   have hc:Lies ρ w (es++cs) 0 (us.toArray++vs.toArray++Builtin.zeroCells z.cells (N - (m+n))):=qd5 (by omega) huli hvli
   have R:=(hg.alloc hN (e:=e) (by rw[hsz,List.length_append,hsl,hcl,<-Nat.add_mul]; exact Nat.mul_le_mul_right _ hNn) hc).drew d
   have E2:∀ n',Ext n' ρ w (rho1 ρ H.length (.live w.heap.size 0)) { w with heap:=w.heap.push (.cells (us.toArray++vs.toArray++Builtin.zeroCells z.cells (N - (m+n))) e) } :=
    qdn hg hN _ _ (by intro B F h;cases h;rfl)
   refine OpDo.value (by rw[hex,hve]; exact hrun) ⟨_,?_,?_,fun n'=>(E2 n').trans (qb1 _ _ d n')⟩
   ·rw[qgb]; exact R
   ·refine .slc _ _ _ _ _ _ (by simp[rho1]) ⟨_,N,rfl,hNn,hNn,fun _=>⟨_,_,rfl⟩⟩ (by simp[rho1]) ?_
    intro B F hl
    simp[rho1] at hl
    obtain⟨rfl,rfl⟩:=hl
    refine⟨_,N,hNn,hNn,rfl,fun _=>rfl,?_⟩
    have hrows:rows { w with heap:=w.heap.push (.cells (us.toArray++vs.toArray++Builtin.zeroCells z.cells (N - (m+n))) e),drawn:=d } w.heap.size=N*j.size:=by
     rw[<-hsz]; exact qb2 (by simp;exact⟨rfl,rfl⟩)
    rw[hrows]; omega
  ·have hn:n=0:=by
    have:¬ 0<n:=by simpa[ops0] using hn
    omega
   subst hn
   refine⟨_,_,_,_,hq,.quiet fun ρ w a g hx hf hg => ?_⟩
   obtain⟨B,X,hve,rfl,E1,E⟩:=main ρ w a g hx (by rw[<-qbx]; exact hf) hg
   obtain⟨vs,hvl,hvr,hvli,hvo⟩:=qcx E
   have hvs:vs = []:=List.eq_nil_of_length_eq_zero (by omega)
   subst hvs
   refine⟨.slice (some ⟨B,X,none⟩) m m,?_,by rw[<-hve]; exact hx.two.1⟩
   rw[hex,hve,qdx T (w:=w) (ao:=some ⟨B,X,none⟩) (len:=m) (cap:=m) (n:=0) (vs := []) (E w.drawn).lenOf (hvr w.drawn) (Nat.le_refl _)]
   simp[storeCells]
 rcases avs with _|⟨xa,_|⟨ya,_|⟨_,_⟩⟩⟩
 ·exact(good.fail h).elim
 ·cases xa with
  | ros cells off len cap exact=>cases len<;>cases cap<;>cases exact<;>exact(good.fail h).elim
  | _=>exact(good.fail h).elim
 ·cases xa with
  | nils=>exact bare (fun ρ w v hv=>⟨none,qdz hv⟩) h
  | ros cells off len cap exact =>
   cases len with
   | succ len =>
    cases cap with
    | zero=>cases exact<;>exact(good.fail h).elim
    | succ cap =>
     cases exact with
     | false=>exact(good.fail h).elim
     | true =>
      simp only[ex,xApp] at h
      split at h
      case h_2=>exact(good.fail h).elim
      rename_i hb
      have hb:=Nat.eq_of_beq_eq_true hb
      rw[hb] at h ⊢
      exact lit (Nat.succ_pos _) h
   | zero =>
    cases cap with
    | succ _=>cases exact<;>exact(good.fail h).elim
    | zero =>
     cases exact with
     | false=>exact(good.fail h).elim
     | true =>
      refine bare (fun ρ w v hv => ?_) h
      cases hv with
      | ros _ _ _ _ _ B F ao cap' vs hlt hp hl ho' hc hr hcap hlen he ha =>
       have:=he rfl
       subst this
       exact⟨ao,rfl⟩
  | slc b of len cap sz' =>
   simp only[ex,xApp] at h
   split at h
   case h_2=>exact(good.fail h).elim
   rename_i hsz
   have hsz:=Nat.eq_of_beq_eq_true hsz
   subst hsz
   obtain⟨bs,hb,h⟩:=qby good h
   obtain⟨hle,h⟩:=good.chk _ _ h
   have hle:of+len*j.size<=bs.length:=by simpa[ops0] using hle
   obtain⟨cs,n,ft,h,hel⟩:=qc0 good h
   rcases good.fit _ _ _ _ _ h with ⟨hfit,h⟩|h
   ·
    obtain⟨hle2,h⟩:=good.chk _ _ h
    have hle2:of+(len+n)*j.size<=bs.length:=by simpa[ops0] using hle2
    have hmul2:(len+n)*j.size=len*j.size+n*j.size:=Nat.add_mul _ _ _
    rw[qdm] at h
    have hbl:=(List.getElem?_eq_some_iff.1 hb).1
    refine⟨_,_,_,_,h,⟨by simp,(fun i hi=>by simp at hi;subst hi;exact hbl),fun i hi hn => ?_,?_⟩⟩
    ·simp at hn
     rw[List.getElem?_set_ne (fun h=>hn h.symm)]
    intro ρ w a g hx hf _ _ hg
    have hgb:g b=some (.cells bs):=(hf b (by simp)).trans hb
    have hft:agree g H ft:=fun i hi=>hf i (by simp[hi])
    have E:=hel P ρ w g _ hx.two.2 hft hg
    obtain⟨vs,hvl,hvr,hvli,hvo⟩:=E.first n (Nat.le_refl _)
    have hcl:=E.len
    rw[qqd hcl] at hvli
    have hspl:(qat bs (of+len*j.size) cs).length=bs.length:=qbi _ _ _ (by omega)
    rw[show ops0.spl bs (ops0.add of (ops0.mul len j.size)) cs=qat bs (of+len*j.size) cs from rfl,qid hbl]
    show OpDo P o a w (fun v w'=>∃ ρ',HRel ρ' w' (one g b (.cells (qat bs (of+len*j.size) cs)))/\VRel ρ' w' (.slc b of (len+n) cap j.size) v/\∀ n,Ext n ρ w ρ' w')
    have hxv:=hx.two.1
    generalize hve:a.eval x=ve at hxv
    have hxv0:=hxv
    cases hxv with
    | slc _ _ _ _ _ _ h0 hs hvo2 hh =>
     obtain⟨ao,cap',rfl,g1,g2,g3⟩:=hs
     have hcap:len+n<=cap':=by omega
     have hrun0:=qdx (ty:=o.type) (cs := #[x,y].map fun | .const _=>true|_=>false) T (w:=w) (ao:=ao) E.lenOf hvr hcap
     by_cases hc0:cap'=0
     ·subst hc0
      have hl0:len=0:=by omega
      have hn0:n=0:=by omega
      subst hl0;subst hn0
      have hcs:cs = []:=List.eq_nil_of_length_eq_zero (by omega)
      have hvs:vs = []:=List.eq_nil_of_length_eq_zero (by omega)
      subst hcs;subst hvs
      have hrun:(execOp a.eval o).run P w = .ok (.value (.slice ao 0 0)) w:=by
       rw[hex,hve,hrun0]
       cases ao<;>simp[storeCells]
      refine OpDo.value hrun ⟨ρ,?_,hxv0,fun n=>Ext.refl n ρ w⟩
      have e1:qat bs (of+0*j.size) ([]:List AV)=bs:=by simp[qat]
      rw[e1]
      have e2:one g b (.cells bs)=g:=by
       funext i
       unfold one
       split
       ·rename_i h;subst h;exact hgb.symm
       ·rfl
      rw[e2]
      exact hg
     ·rcases hg.live b bs hgb with ⟨hvd,_⟩|⟨B,F,c,e',lo,hi,hl,hc,hsz,hfz,hli⟩
      ·obtain⟨ao',q1,_,_⟩:=hvo2 hvd
       cases q1;exact absurd rfl hc0
      ·obtain⟨ao',cap2,q1,q2,q3,q4,q5⟩:=hh B F hl
       cases q3
       have:=q4 hc0
       subst this
       rw[qb2 hc] at q5
       obtain⟨w',hrs,hw⟩:=qbm (P:=P) (X:=F+of+len*j.size) vs 0 c w hc (by omega) (fun i h1 h2=>hfz i (by omega) h2) hvo
       have hrun:(execOp a.eval o).run P w = .ok (.value (.slice (some ⟨B,F+of,none⟩) (len+n) cap')) w':=by
        rw[hex,hve,hrun0]
        simp only[qdc,hrs,Result.andThen_ok]
       have hcs:(qat c.toList (F+of+len*j.size+0) vs).toArray.size=c.size:=by
        have:=qbi c.toList (F+of+len*j.size+0) vs (by simp;omega)
        simpa using this
       have hlies:Lies ρ w (qat bs (of+len*j.size) cs) F (qat c.toList (F+of+len*j.size+0) vs).toArray:=by
        intro i b' hi
        have hg1:=qb4 bs (of+len*j.size) cs (by omega) i
        have hg2:=qb4 c.toList (F+of+len*j.size+0) vs (by simp;omega) (F+i)
        rw[hg1] at hi
        simp only[List.getElem?_toArray]
        rw[hg2]
        by_cases h1:i<of+len*j.size
        ·rw[if_pos h1] at hi
         rw[if_pos (by omega)]
         obtain⟨v,p,q,r⟩:=hli i b' hi
         exact⟨v,by simpa using p,q,r⟩
        ·rw[if_neg h1] at hi
         rw[if_neg (by omega)]
         by_cases h2:i<of+len*j.size+cs.length
         ·rw[if_pos h2] at hi
          rw[if_pos (by omega)]
          obtain⟨v,p,q,r⟩:=hvli _ b' hi
          refine⟨v,?_,q,r⟩
          rw[show F+i - (F+of+len*j.size+0)=0+(i - (of+len*j.size)) by omega]
          simpa using p
         ·rw[if_neg h2] at hi
          rw[if_neg (by omega)]
          obtain⟨v,p,q,r⟩:=hli i b' hi
          exact⟨v,by simpa using p,q,r⟩
       have R:=hg.wrote hgb hl hc hfz hw hcs (by rw[hspl]; exact hsz) hlies
       have EX:=hw.ext hl hc hcs
       refine OpDo.value hrun ⟨ρ,R,?_,EX⟩
       refine .slc _ _ _ _ _ _ h0 ⟨_,cap',rfl,hcap,g2,fun _=>⟨_,_,rfl⟩⟩ (fun hvd=>by rw[hvd] at hl;cases hl) ?_
       intro B2 F2 hl2
       rw[hl] at hl2
       cases hl2
       refine⟨_,cap',q1,hcap,rfl,fun _=>rfl,?_⟩
       rw[qb2 hw.here,hcs]
       omega
   obtain⟨hroom,h⟩:=good.chk _ _ h
   rw[qay,qbx,qdm] at h
   have hbl:=(List.getElem?_eq_some_iff.1 hb).1
   refine⟨_,_,_,_,h,⟨by simp,(fun i hi=>by simp at hi;subst hi;exact hbl),fun i hi hn => ?_,?_⟩⟩
   ·simp at hn
    rw[List.getElem?_append_left (by simpa using hi),List.getElem?_set_ne (fun h=>hn h.symm)]
   intro ρ w a g hx hf _ hn hg
   have hgb:g b=some (.cells bs):=(hf b (by simp)).trans hb
   have hft:agree g H ft:=fun i hi=>hf i (by simp[hi])
   have hN:g H.length=none:=hn _ (Nat.le_refl _) (by simp)
   have hbN:b≠H.length:=by omega
   have E:∀ d,Elems P ρ { w with drawn:=d } j.size (a.eval y) cs n:=fun d=>hel P ρ _ g _ (qcf (qb1 ρ w d) hx.two.2) hft (hg.drew d)
   have S:∀ d,Elems P ρ { w with drawn:=d } j.size (a.eval x) ((bs.drop of).take (len*j.size)) len:=fun d=>qmc (hg.drew d) hgb (qcf (qb1 ρ w d) hx.two.1) hle
   obtain⟨vs,hvl,hvr,hvli,hvo⟩:=qcx E
   obtain⟨us,hul,hur,huli,huo⟩:=qcx S
   have hcl:=(E w.drawn).len
   have hsl:=(S w.drawn).len
   have hxv:=hx.two.1
   generalize hve:a.eval x=ve at hxv hur
   show OpDo P o a w (fun v w'=>∃ ρ',HRel ρ' w' (upd g (H.set b .dead ++ [Blk.cells ((bs.drop of).take (len*j.size)++cs)]) ([b]++news H.length (H.set b .dead ++ [Blk.cells ((bs.drop of).take (len*j.size)++cs)]).length)) /\
    VRel ρ' w' (.slc H.length 0 (len+n) (len+n) j.size) v/\∀ n,Ext n ρ w ρ' w')
   rw[qtz hbl]
   cases hxv with
   | slc _ _ _ _ _ _ h0 hs hvo2 hh =>
    obtain⟨ao,cap',rfl,g1,g2,g3⟩:=hs
    by_cases hcap:len+n<=cap'
    ·
     have hrun0:=qdx (ty:=o.type) (cs := #[x,y].map fun | .const _=>true|_=>false) T (w:=w) (ao:=ao) (E w.drawn).lenOf (hvr w.drawn) hcap
     by_cases hc0:cap'=0
     ·subst hc0
      have hl0:len=0:=by omega
      have hn0:n=0:=by omega
      subst hl0;subst hn0
      have hcs:cs = []:=List.eq_nil_of_length_eq_zero (by omega)
      have hvs:vs = []:=List.eq_nil_of_length_eq_zero (by omega)
      subst hcs;subst hvs
      have hrun:(execOp a.eval o).run P w = .ok (.value (.slice ao 0 0)) w:=by
       rw[hex,hve,hrun0]
       cases ao<;>simp[storeCells]
      obtain⟨R1,E1⟩:=hg.kill hgb
      obtain⟨R2,E2⟩:=R1.nothing (N:=H.length) (by simp only[one,if_neg hbN.symm]; exact hN)
      refine OpDo.value hrun ⟨_,?_,?_,fun m=>(E1 m).trans (E2 m)⟩
      ·simpa using R2
      ·exact .slc _ _ _ _ _ _ (by simp[rho1]) ⟨ao,0,rfl,Nat.le_refl _,Nat.le_refl _,by simp⟩ (fun _=>⟨ao,rfl,rfl,rfl⟩) (by simp[rho1])
     ·rcases hg.live b bs hgb with ⟨hvd,_⟩|⟨B,F,c,e',lo,hi,hl,hc,hsz,hfz,hli⟩
      ·obtain⟨ao',q1,_,_⟩:=hvo2 hvd
       cases q1;exact absurd rfl hc0
      ·obtain⟨ao',cap2,q1,q2,q3,q4,q5⟩:=hh B F hl
       cases q3
       have:=q4 hc0
       subst this
       rw[qb2 hc] at q5
       have hmul:(len+n)*j.size<=cap'*j.size:=Nat.mul_le_mul_right _ hcap
       have hmul2:(len+n)*j.size=len*j.size+n*j.size:=Nat.add_mul _ _ _
       obtain⟨w',hrs,hw⟩:=qbm (P:=P) (X:=F+of+len*j.size) vs 0 c w hc (by omega) (fun i h1 h2=>hfz i (by omega) h2) hvo
       have hrun:(execOp a.eval o).run P w = .ok (.value (.slice (some ⟨B,F+of,none⟩) (len+n) cap')) w':=by
        rw[hex,hve,hrun0]
        simp only[qdc,hrs,Result.andThen_ok]
       have hcs:(qat c.toList (F+of+len*j.size+0) vs).toArray.size=c.size:=by
        have:=qbi c.toList (F+of+len*j.size+0) vs (by simp;omega)
        simpa using this
       have hlies:Lies ρ w ((bs.drop of).take (len*j.size)++cs) (F+of) (qat c.toList (F+of+len*j.size+0) vs).toArray:=by
        intro i b' hi
        have hg2:=qb4 c.toList (F+of+len*j.size+0) vs (by simp;omega) (F+of+i)
        simp only[List.getElem?_toArray]
        rw[hg2]
        by_cases hil:i<len*j.size
        ·rw[List.getElem?_append_left (by omega)] at hi
         rw[if_pos (by omega)]
         obtain⟨v,p,q,r⟩:=(Lies.sub (show Lies ρ w bs F c from hli) of (len*j.size)) i b' hi
         exact⟨v,by simpa using p,q,r⟩
        ·rw[List.getElem?_append_right (by omega),hsl] at hi
         have hin:i - len*j.size<cs.length:=(List.getElem?_eq_some_iff.1 hi).1
         rw[if_neg (by omega),if_pos (by omega)]
         obtain⟨v,p,q,r⟩:=hvli _ b' hi
         refine⟨v,?_,q,r⟩
         rw[show F+of+i - (F+of+len*j.size+0)=0+(i - len*j.size) by omega]
         simpa using p
       obtain⟨R2,E2⟩:=hg.move (X:=F+of) hgb hN hl hc (fun i h1 h2=>hfz i (by omega) h2) hw hcs (by simp only[List.length_append]; omega) hlies
       refine OpDo.value hrun ⟨_,R2,?_,E2⟩
       refine .slc _ _ _ _ _ _ (by simp[rho1]) ⟨_,cap',rfl,hcap,hcap,fun _=>⟨_,_,rfl⟩⟩ (by simp[rho1]) ?_
       intro B2 F2 hl2
       simp[rho1] at hl2
       obtain⟨rfl,rfl⟩:=hl2
       refine⟨_,cap',hcap,hcap,rfl,fun _=>rfl,?_⟩
       rw[qb2 hw.here,hcs]
       omega
    ·
     obtain⟨N,d,hNn,hrun⟩:=qep (ty:=o.type) (cs := #[x,y].map fun | .const _=>true|_=>false) T (ao:=ao) (len:=len) (cap:=cap') (E w.drawn).lenOf hvr hur hcap hroom
     have hsz:(us.toArray++vs.toArray++Builtin.zeroCells z.cells (N - (len+n))).size=N*j.size:=by
      simp only[List.append_toArray,Array.size_append,List.size_toArray,List.length_append,qc3,T.zs,hvl,hul]
      rw[<-Nat.add_mul,<-Nat.add_mul]; congr 1;omega
     obtain⟨R1,E1⟩:=hg.kill hgb
     have hc:Lies (rho1 ρ b .dead) w ((bs.drop of).take (len*j.size)++cs) 0 (us.toArray++vs.toArray++Builtin.zeroCells z.cells (N - (len+n))):=qbr E1 (qd5 (by omega) huli hvli)
     have hN1:one g b .dead H.length=none:=by simp only[one,if_neg hbN.symm]; exact hN
     have R:=(R1.alloc hN1 (e:=e) (by rw[hsz,List.length_append,hsl,hcl,<-Nat.add_mul]; exact Nat.mul_le_mul_right _ hNn) hc).drew d
     have E2:∀ n',Ext n' (rho1 ρ b .dead) w (rho1 (rho1 ρ b .dead) H.length (.live w.heap.size 0)) { w with heap:=w.heap.push (.cells (us.toArray++vs.toArray++Builtin.zeroCells z.cells (N - (len+n))) e) } :=
      qdn R1 hN1 _ _ (by intro B F h;cases h;rfl)
     refine OpDo.value (by rw[hex,hve]; exact hrun) ⟨_,R,?_,fun n'=>((E1 n').trans (E2 n')).trans (qb1 _ _ d n')⟩
     refine .slc _ _ _ _ _ _ (by simp[rho1]) ⟨_,N,rfl,hNn,hNn,fun _=>⟨_,_,rfl⟩⟩ (by simp[rho1]) ?_
     intro B F hl
     simp[rho1] at hl
     obtain⟨rfl,rfl⟩:=hl
     refine⟨_,N,hNn,hNn,rfl,fun _=>rfl,?_⟩
     have hrows:rows { w with heap:=w.heap.push (.cells (us.toArray++vs.toArray++Builtin.zeroCells z.cells (N - (len+n))) e),drawn:=d } w.heap.size=N*j.size:=by
      rw[<-hsz]; exact qb2 (by simp;exact⟨rfl,rfl⟩)
     rw[hrows]; omega
  | _=>exact(good.fail h).elim
 ·cases xa with
  | ros cells off len cap exact=>cases len<;>cases cap<;>cases exact<;>exact(good.fail h).elim
  | _=>exact(good.fail h).elim
omit good in
theorem qvp{t u e:TypeId}{j:TypeInfo}(ht:P.underlying t=some (.slice e))(hj:P.info? e=some j){ty:TypeId}{cs:Array Bool}{w:World}{ao:Option Addr}{len cap n:Nat}{x:Value}{vs:List Value}
  (hn:(Builtin.lenOf x).run P w = .ok n w) (hf:(Builtin.firstCells j.size (Nat.min n len) x).run P w = .ok vs.toArray w) :
  (builtin .copy #[t,u] ty cs #[.slice ao len cap,x]).run P w =
   (match ao with|some a=>(storeCells a vs).run P w|none => .ok () w).andThen fun _ w' => .ok (.value (.int .i64 ((Nat.min n len:Nat):Int))) w':=by
 simp only[builtin,Builtin.copy_,List.getElem?_toArray,List.getElem?_cons_zero,List.getElem?_cons_succ,Sem.run_bind,run_underlying ht,Result.andThen_ok,qbq hj,Sem.run_pure,hn,hf]
 cases ao with
 | none=>simp[goInt]
 | some a=>simp only[Sem.run_bind,Sem.run_pure,goInt]; cases (storeCells a vs).run P w<;>rfl
theorem s_cpy{x y:Operand}{t u e:TypeId}{j:TypeInfo}(ho:o.op = .call { callee := .builtin .copy,args := #[x,y],argTypes := #[t,u] })(ht:P.underlying t=some (.slice e))(hj:P.info? e=some j)
  (h:holds (ex A ops0 cf H (.cpy j.size) avs k)):Does P o [x,y] avs H fun r H' t f=>holds (k r H' t f):=by
 have hex:∀ (a:Act) (w:World),(execOp a.eval o).run P w=(builtin .copy #[t,u] o.type (#[x,y].map fun | .const _=>true|_=>false) #[a.eval x,a.eval y]).run P w:=by
  intro a w
  rw[qcj ho]
  first|(simp;done)|(simp;rfl)
 rcases avs with _|⟨xa,_|⟨ya,_|⟨_,_⟩⟩⟩
 ·exact(good.fail h).elim
 ·cases xa<;>exact(good.fail h).elim
 ·cases xa with
  | slc b of len cap sz' =>
   simp only[ex,xCpy] at h
   split at h
   case h_2=>exact(good.fail h).elim
   rename_i hsz
   have hsz:=Nat.eq_of_beq_eq_true hsz
   subst hsz
   obtain⟨bs,hb,h⟩:=qby good h
   obtain⟨hle,h⟩:=good.chk _ _ h
   have hle:of+len*j.size<=bs.length:=by simpa[ops0] using hle
   obtain⟨cs,n,ft,h,hel⟩:=qc0 good h
   have hmin:ops0.min n len=Nat.min n len:=by simp only[ops0]; rfl
   have hspl:∀ (m:Nat),m<=n->m<=len->cs.length=n*j.size->(qat bs of (cs.take (m*j.size))).length=bs.length:=by
    intro m h1 h2 h3
    have:m*j.size<=n*j.size:=Nat.mul_le_mul_right _ h1
    have:m*j.size<=len*j.size:=Nat.mul_le_mul_right _ h2
    exact qbi _ _ _ (by simp;omega)
   rw[qdm,hmin] at h
   have hbl:=(List.getElem?_eq_some_iff.1 hb).1
   refine⟨_,_,_,_,h,⟨by simp,(fun i hi=>by simp at hi;subst hi;exact hbl),fun i hi hn => ?_,?_⟩⟩
   ·simp at hn
    rw[List.getElem?_set_ne (fun h=>hn h.symm)]
   intro ρ w a g hx hf _ _ hg
   have hgb:g b=some (.cells bs):=(hf b (by simp)).trans hb
   have hft:agree g H ft:=fun i hi=>hf i (by simp[hi])
   have E:=hel P ρ w g _ hx.two.2 hft hg
   have hm1:Nat.min n len<=n:=Nat.min_le_left _ _
   have hm2:Nat.min n len<=len:=Nat.min_le_right _ _
   obtain⟨vs,hvl,hvr,hvli,hvo⟩:=E.first (Nat.min n len) hm1
   have hcl:=E.len
   have hml:Nat.min n len*j.size<=len*j.size:=Nat.mul_le_mul_right _ hm2
   have hmn:Nat.min n len*j.size<=n*j.size:=Nat.mul_le_mul_right _ hm1
   rw[show ops0.spl bs of (ops0.ext cs 0 (ops0.mul (Nat.min n len) j.size))=qat bs of (cs.take (Nat.min n len*j.size)) from rfl,qid hbl]
   have hxv:=hx.two.1
   generalize hve:a.eval x=ve at hxv
   cases hxv with
   | slc _ _ _ _ _ _ h0 hs hvo2 hh =>
    obtain⟨ao,cap',rfl,g1,g2,g3⟩:=hs
    have hrun0:=qvp (ty:=o.type) (cs := #[x,y].map fun | .const _=>true|_=>false) (u:=u) ht hj (w:=w) (ao:=ao) (len:=len) (cap:=cap') E.lenOf hvr
    rcases hg.live b bs hgb with ⟨hvd,hbs⟩|⟨B,F,c,e',lo,hi,hl,hc,hsz,hfz,hli⟩
    ·obtain⟨ao',q1,q2,q3⟩:=hvo2 hvd
     cases q1
     subst hbs
     have hvs:vs = []:=List.eq_nil_of_length_eq_zero (by rw[hvl]; omega)
     subst hvs
     have hrun:(execOp a.eval o).run P w = .ok (.value (.int .i64 ((Nat.min n 0:Nat):Int))) w:=by
      rw[hex,hve,hrun0]
      cases ao<;>simp[storeCells]
     refine OpDo.value hrun ⟨ρ,?_,.int _ _,fun n=>Ext.refl n ρ w⟩
     have e1:qat ([]:List AV) of (cs.take (Nat.min n 0*j.size)) = []:=by
      have:Nat.min n 0=0:=Nat.min_zero n
      simp[qat,this]
     rw[e1]
     have e2:one g b (.cells [])=g:=by
      funext i
      unfold one
      split
      ·rename_i h;subst h;exact hgb.symm
      ·rfl
     rw[e2]
     exact hg
    ·obtain⟨ao',cap2,q1,q2,q3,q4,q5⟩:=hh B F hl
     cases q3
     by_cases hc0:cap'=0
     ·
      subst hc0
      have hl0:len=0:=by omega
      subst hl0
      have hvs:vs = []:=List.eq_nil_of_length_eq_zero (by rw[hvl]; omega)
      subst hvs
      have hrun:(execOp a.eval o).run P w = .ok (.value (.int .i64 ((Nat.min n 0:Nat):Int))) w:=by
       rw[hex,hve,hrun0]
       cases ao<;>simp[storeCells]
      refine OpDo.value hrun ⟨ρ,?_,.int _ _,fun n=>Ext.refl n ρ w⟩
      have e1:qat bs of (cs.take (Nat.min n 0*j.size))=bs:=by
       have:Nat.min n 0=0:=Nat.min_zero n
       simp[qat,this]
      rw[e1]
      have e2:one g b (.cells bs)=g:=by
       funext i
       unfold one
       split
       ·rename_i h;subst h;exact hgb.symm
       ·rfl
      rw[e2]
      exact hg
     ·have:=q4 hc0
      subst this
      obtain⟨w',hrs,hw⟩:=qbm (P:=P) (X:=F+of) vs 0 c w hc (by omega) (fun i h1 h2=>hfz i (by omega) h2) hvo
      have hrun:(execOp a.eval o).run P w = .ok (.value (.int .i64 ((Nat.min n len:Nat):Int))) w':=by
       rw[hex,hve,hrun0]
       simp only[hrs,Result.andThen_ok]
      have hcs:(qat c.toList (F+of+0) vs).toArray.size=c.size:=by
       have:=qbi c.toList (F+of+0) vs (by simp;omega)
       simpa using this
      have htl:(cs.take (Nat.min n len*j.size)).length=Nat.min n len*j.size:=by rw[List.length_take]; omega
      have hlies:Lies ρ w (qat bs of (cs.take (Nat.min n len*j.size))) F (qat c.toList (F+of+0) vs).toArray:=by
       intro i b' hi
       have hg1:=qb4 bs of (cs.take (Nat.min n len*j.size)) (by omega) i
       have hg2:=qb4 c.toList (F+of+0) vs (by simp;omega) (F+i)
       rw[hg1] at hi
       simp only[List.getElem?_toArray]
       rw[hg2]
       by_cases h1:i<of
       ·rw[if_pos h1] at hi
        rw[if_pos (by omega)]
        obtain⟨v,p,q,r⟩:=hli i b' hi
        exact⟨v,by simpa using p,q,r⟩
       ·rw[if_neg h1] at hi
        rw[if_neg (by omega)]
        by_cases h2:i<of+(cs.take (Nat.min n len*j.size)).length
        ·rw[if_pos h2] at hi
         rw[if_pos (by omega)]
         obtain⟨v,p,q,r⟩:=hvli _ b' hi
         refine⟨v,?_,q,r⟩
         rw[show F+i - (F+of+0)=0+(i - of) by omega]
         simpa using p
        ·rw[if_neg h2] at hi
         rw[if_neg (by omega)]
         obtain⟨v,p,q,r⟩:=hli i b' hi
         exact⟨v,by simpa using p,q,r⟩
      have R:=hg.wrote hgb hl hc hfz hw hcs (by rw[hspl _ hm1 hm2 hcl]; exact hsz) hlies
      exact OpDo.value hrun ⟨ρ,R,.int _ _,fun m=>hw.ext hl hc hcs m⟩
  | _=>exact(good.fail h).elim
 ·cases xa<;>exact(good.fail h).elim
end
end Go.Vm

namespace Go.Vm
set_option maxRecDepth 100000
structure StepX(P:Program)(o:Oper)(call:Bool)(xs:List Operand)(avs:List AV)(H:Hl)(r:AV)(H':Hl)(tch ft:List Nat):Prop where
 grow:H.length<=H'.length
 old:∀ b,b∈tch->b<H.length
 keep:∀ b,b<H.length->b ∉ tch->H'[b]? = H[b]?
 does:∀ (ρ:Rho) (w:World) (a:Act) (g:Hp),VRels ρ w avs (xs.map a.eval)->agree g H ft->agree g H tch ->
  (∀ b,H.length<=b->(call=true∨b<H'.length)->g b=none)->HRel ρ w g ->
  OpDo P o a w (fun v w'=>∃ ρ',HRel ρ' w' (upd g H' (tch++news H.length H'.length))/\VRel ρ' w' r v/\∀ n,Ext n ρ w ρ' w')
theorem StepOK.x{P:Program}{o:Oper}{c:Bool}{xs:List Operand}{avs:List AV}{H:Hl}{r:AV}{H':Hl}{tch ft:List Nat}(h:StepOK P o xs avs H r H' tch ft):StepX P o c xs avs H r H' tch ft :=
 ⟨h.grow,h.old,h.keep,fun ρ w a g h1 h2 h3 h4 h5=>h.does ρ w a g h1 h2 h3 (fun b hb hb'=>h4 b hb (.inr hb')) h5⟩
def allT:List Bool->Bool
 | []=>true
 | b::bs=>match b with
  | true=>allT bs
  | false=>false
theorem qw3{l:List Bool}:allT l=true↔∀ b,b∈l->b=true:=by
 induction l with
 | nil=>simp[allT]
 | cons x xs ih =>
  cases x with
  | true=>simp[allT,ih]
  | false=>simp[allT]
def DoesX(P:Program)(o:Oper)(c:Bool)(xs:List Operand)(avs:List AV)(H:Hl)(Q:AV->Hl->List Nat->List Nat->Prop):Prop :=
 ∃ r H' tch ft,Q r H' tch ft/\StepX P o c xs avs H r H' tch ft/\(allT (scL avs H r H')=true->StepX P o false xs avs H r H' tch ft)
theorem Does.x{P:Program}{o:Oper}{c:Bool}{xs:List Operand}{avs:List AV}{H:Hl}{Q:AV->Hl->List Nat->List Nat->Prop}(h:Does P o xs avs H Q):DoesX P o c xs avs H Q :=
 let ⟨r,H',t,f,q,s⟩:=h;⟨r,H',t,f,q,s.x,fun _=>s.x⟩
def qf7{R:Type}(P:Program)(holds:R->Prop)(cf:CallF R):Prop :=
 ∀ f vals H k,holds (cf f vals H k)->∃ r H' lg,CallTo P f vals H r H' lg/\holds (k r H' lg)
theorem Ext.born{m:Nat}{ρ ρ':Rho}{w w':World}(h:Ext m ρ w ρ' w')(hb:∀ b,m<=b->ρ b = .unborn)(n:Nat):Ext n ρ w ρ' w' :=
 ⟨h.size,h.os,h.tape,h.output,h.keep,fun b _ hn=>h.slot b (by
  rcases Nat.lt_or_ge b m with h'|h'
  ·exact h'
  ·exact absurd (hb b h') hn) hn,h.fresh,h.rows⟩
theorem qmj{P:Program}{o:Oper}{xs:List Operand}{avs vals:List AV}{H H':Hl}{f:Nat}{r:AV}{lg:List Nat}(hc:CallTo P f vals H r H' lg)
  (he:∀ (ρ:Rho) (w:World) (a:Act),VRels ρ w avs (xs.map a.eval)->∃ us:List Value,VRels ρ w vals us/\(execOp a.eval o).run P w=(callFunc f us.toArray).run P w) :
  StepX P o true xs avs H r H' (under (size H) lg) (upto (size H)) where
 grow:=hc.grow
 old b hb:=by rw[qd7,qay] at hb;exact hb.2
 keep b hb hn:=by
  rw[qd7,qay] at hn
  exact hc.keep b hb fun h=>hn ⟨h,hb⟩
 does ρ w a g hx hf _ hn hg:=by
  have e:g=fun b=>H[b]? := by
   funext b
   rcases Nat.lt_or_ge b H.length with h|h
   ·exact hf b (by rw[qh9,qay]; exact h)
   ·rw[hn b h (.inl rfl),List.getElem?_eq_none h]
  subst e
  obtain⟨us,hus,hrun⟩:=he ρ w a hx
  intro next Q hnext
  unfold Oper.wp
  rw[hrun,hc.real,Oper.upon_enter]
  refine Calls.mono (hc.does ρ w us hg hus) ?_
  rintro e w' ⟨v,ρ',rfl,h1,h2,h3⟩
  refine hnext v w' ⟨ρ',?_,h2,h3.born (fun b hb=>hg.unborn b (List.getElem?_eq_none hb))⟩
  have:upd (fun b=>H[b]?) H' (under (size H) lg++news H.length H'.length)=fun b=>H'[b]? := by
   funext b
   unfold upd
   split
   ·rfl
   ·rename_i hb
    rw[List.mem_append,qd7,qe1,qay] at hb
    rcases Nat.lt_or_ge b H.length with h|h
    ·exact(hc.keep b h fun hl=>hb (.inl ⟨hl,h⟩)).symm
    ·have h2:H'.length<=b:=by
      rcases Nat.lt_or_ge b H'.length with h'|h'
      ·exact absurd (.inr ⟨h,h'⟩) hb
      ·exact h'
     show H[b]? = H'[b]?
     rw[List.getElem?_eq_none h,List.getElem?_eq_none h2]
  rw[this]
  exact h1
theorem q0t{n:Nat}{cs:List AV}(h:nmL n cs=true):∀ a,a∈cs->nm n a=true:=by
 induction cs with
 | nil=>intro a ha;cases ha
 | cons x xs ih =>
  unfold nmL at h
  split at h
  ·rename_i hx
   intro a ha
   rcases List.mem_cons.1 ha with rfl|ha
   ·exact hx
   ·exact ih h a ha
  ·cases h
theorem qc6{n:Nat}{cs:List AV}(h:nmL n cs=true){i:Nat}{a:AV}(ha:cs[i]? = some a):nm n a=true:=q0t h a (List.mem_of_getElem? ha)
theorem qvj{cs:List AV}(h:ownL cs=true):∀ a,a∈cs->own a=true:=by
 induction cs with
 | nil=>intro a ha;cases ha
 | cons x xs ih =>
  unfold ownL at h
  split at h
  ·rename_i hx
   intro a ha
   rcases List.mem_cons.1 ha with rfl|ha
   ·exact hx
   ·exact ih h a ha
  ·cases h
theorem qg4{cs:List AV}(h:ownL cs=true){i:Nat}{a:AV}(ha:cs[i]? = some a):own a=true:=qvj h a (List.mem_of_getElem? ha)
def lowR(n:Nat)(ρ:Rho):Rho:=fun b=>if b<n then ρ b else .unborn
theorem qf9{n b:Nat}{ρ:Rho}(h:b<n):lowR n ρ b=ρ b:=if_pos h
theorem qt3{n b:Nat}{ρ:Rho}(h:n<=b):lowR n ρ b = .unborn:=if_neg (by omega)
theorem qc9{n b B F:Nat}{ρ:Rho}(h:lowR n ρ b = .live B F):b<n/\ρ b = .live B F:=by
 rcases Nat.lt_or_ge b n with h'|h'
 ·rw[qf9 h'] at h;exact⟨h',h⟩
 ·rw[qt3 h'] at h;cases h
theorem VRel.low{n:Nat}{ρ:Rho}{w:World}{a:AV}{v:Value}(h:VRel ρ w a v)(hn:nm n a=true):VRel (lowR n ρ) w a v:=by
 induction h with
 | top v=>exact .top v
 | bool b=>exact .bool b
 | int k n=>exact .int k n
 | flt k n=>exact .flt k n
 | str s=>exact .str s
 | nilp=>exact .nilp
 | ptr b o v h0 h1 hs h =>
  have hb:b<n:=(qcb _ _).1 (by simpa only[nm] using hn)
  refine .ptr b o v ?_ ?_ hs ?_<;>rw[qf9 hb]
  ·exact h0
  ·exact h1
  ·exact h
 | nils=>exact .nils
 | slc b o len cap sz v h0 hs hv h =>
  have hb:b<n:=(qcb _ _).1 (by simpa only[nm] using hn)
  refine .slc b o len cap sz v ?_ hs ?_ ?_<;>rw[qf9 hb]
  ·exact h0
  ·exact hv
  ·exact h
 | ros cells off len cap exact_ B F ao cap' vs hlt hp hl ho hc hr hcap hlen he ha ih =>
  have hn:nmL n cells=true:=by simpa only[nm] using hn
  exact .ros cells off len cap exact_ B F ao cap' vs hlt (fun h b F' hl=>hp h b F' (qc9 hl).2) hl ho hc (fun i a v ha hv=>ih i a v ha hv (qc6 hn ha)) hcap hlen he ha
 | rop cells off B F vs hlt hp hl ho hc hr ih =>
  have hn:nmL n cells=true:=by simpa only[nm] using hn
  exact .rop cells off B F vs hlt (fun h b F' hl=>hp h b F' (qc9 hl).2) hl ho hc (fun i a v ha hv=>ih i a v ha hv (qc6 hn ha))
 | agg cs vs hl ho hr ih =>
  have hn:nmL n cs=true:=by simpa only[nm] using hn
  exact .agg cs vs hl ho (fun i a v ha hv=>ih i a v ha hv (qc6 hn ha))
 | tup cs vs hl hr ih =>
  have hn:nmL n cs=true:=by simpa only[nm] using hn
  exact .tup cs vs hl (fun i a v ha hv=>ih i a v ha hv (qc6 hn ha))
 | fn f xs ys us vs hl hl' hr hr' ih ih' =>
  have hn:nmL n xs=true/\nmL n ys=true:=by
   simp only[nm] at hn
   split at hn
   ·rename_i h1;exact⟨h1,hn⟩
   ·cases hn
  exact .fn f xs ys us vs hl hl' (fun i a v ha hv=>ih i a v ha hv (qc6 hn.1 ha)) (fun i a v ha hv=>ih' i a v ha hv (qc6 hn.2 ha))
 | nilf=>exact .nilf
 | ifc t a v h ih=>exact .ifc t a v (ih (by simpa only[nm] using hn))
 | nili=>exact .nili
theorem VRel.wide{ρ ρ':Rho}{w:World}(hρ:∀ b,ρ b ≠ .unborn->ρ' b=ρ b){a:AV}{v:Value}(h:VRel ρ w a v)(hn:own a=true):VRel ρ' w a v:=by
 induction h with
 | top v=>exact .top v
 | bool b=>exact .bool b
 | int k n=>exact .int k n
 | flt k n=>exact .flt k n
 | str s=>exact .str s
 | nilp=>exact .nilp
 | ptr b o v h0 h1 hs h =>
  refine .ptr b o v ?_ ?_ hs ?_<;>rw[hρ b h0]
  ·exact h0
  ·exact h1
  ·exact h
 | nils=>exact .nils
 | slc b o len cap sz v h0 hs hv h =>
  refine .slc b o len cap sz v ?_ hs ?_ ?_<;>rw[hρ b h0]
  ·exact h0
  ·exact hv
  ·exact h
 | ros cells off len cap exact_ B F ao cap' vs hlt hp hl ho hc hr hcap hlen he ha ih =>
  cases cells with
  | nil=>exact .ros [] off len cap exact_ B F ao cap' vs (fun h=>absurd rfl h) (fun h=>absurd rfl h) hl ho hc (fun i a v ha _=>by simp at ha) hcap hlen he ha
  | cons x xs=>simp[own] at hn
 | rop cells off B F vs hlt hp hl ho hc hr ih =>
  cases cells with
  | nil=>exact .rop [] off B F vs (fun h=>absurd rfl h) (fun h=>absurd rfl h) hl ho hc (fun i a v ha _=>by simp at ha)
  | cons x xs=>simp[own] at hn
 | agg cs vs hl ho hr ih =>
  have hn:ownL cs=true:=by simpa only[own] using hn
  exact .agg cs vs hl ho (fun i a v ha hv=>ih i a v ha hv (qg4 hn ha))
 | tup cs vs hl hr ih =>
  have hn:ownL cs=true:=by simpa only[own] using hn
  exact .tup cs vs hl (fun i a v ha hv=>ih i a v ha hv (qg4 hn ha))
 | fn f xs ys us vs hl hl' hr hr' ih ih' =>
  have hn:ownL xs=true/\ownL ys=true:=by
   simp only[own] at hn
   split at hn
   ·rename_i h1;exact⟨h1,hn⟩
   ·cases hn
  exact .fn f xs ys us vs hl hl' (fun i a v ha hv=>ih i a v ha hv (qg4 hn.1 ha)) (fun i a v ha hv=>ih' i a v ha hv (qg4 hn.2 ha))
 | nilf=>exact .nilf
 | ifc t a v h ih=>exact .ifc t a v (ih (by simpa only[own] using hn))
 | nili=>exact .nili
theorem q0b{vals:List AV}{H:Hl}{r:AV}{H':Hl}(h:allT (scL vals H r H')=true) :
  own r=true/\(∀ a,a∈vals->nm H.length a=true)/\(∀ (b:Nat) cs,H[b]? = some (.cells cs)->nmL H.length cs=true)/\(∀ (b:Nat) cs,H'[b]? = some (.cells cs)->ownL cs=true):=by
 rw[qw3] at h
 simp only[scL,qbx,qay,List.mem_cons,List.mem_append,List.mem_map] at h
 refine⟨h _ (.inl rfl),fun a ha=>h _ (.inr (.inl ⟨a,ha,rfl⟩)),fun b cs hb => ?_,fun b cs hc => ?_⟩
 ·have:=h _ (.inr (.inr (.inl ⟨_,List.mem_of_getElem? hb,rfl⟩)))
  exact this
 ·have:=h _ (.inr (.inr (.inr ⟨_,List.mem_of_getElem? hc,rfl⟩)))
  exact this
theorem qkb{P:Program}{o:Oper}{xs:List Operand}{avs vals:List AV}{H H':Hl}{f:Nat}{r:AV}{lg:List Nat}(hc:CallTo P f vals H r H' lg)
  (he:∀ (ρ:Rho) (w:World) (a:Act),VRels ρ w avs (xs.map a.eval)->∃ us:List Value,VRels ρ w vals us/\(execOp a.eval o).run P w=(callFunc f us.toArray).run P w)
  (hs:allT (scL avs H r H')=true) :
  StepX P o false xs avs H r H' (under (size H) lg) (upto (size H)) where
 grow:=hc.grow
 old b hb:=by rw[qd7,qay] at hb;exact hb.2
 keep b hb hn:=by
  rw[qd7,qay] at hn
  exact hc.keep b hb fun h=>hn ⟨h,hb⟩
 does ρ w a g hx hf _ hn hg:=by
  obtain⟨o1,o2,o3,o4⟩:=q0b hs
  have hlow:∀ b,b<H.length->g b=H[b]? := fun b h=>hf b (by rw[qh9,qay]; exact h)
  have hmid:∀ b,H.length<=b->b<H'.length->g b=none:=fun b h h'=>hn b h (.inr h')
  have hg1:HRel (lowR H.length ρ) w (fun b=>H[b]?):=by
   refine⟨fun b hb => ?_,fun b hb => ?_,fun b b' B F F' h1 h2=>hg.inj b b' B F F' (qc9 h1).2 (qc9 h2).2,fun b cs hb => ?_,fun b B F c el lo hi h1 h2=>hg.marks b B F c el lo hi (qc9 h1).2 h2⟩
   ·exact qt3 (List.getElem?_eq_none_iff.1 hb)
   ·have hlt:b<H.length:=(List.getElem?_eq_some_iff.1 hb).1
    rw[qf9 hlt]
    exact hg.dead b ((hlow b hlt).trans hb)
   ·have hlt:b<H.length:=(List.getElem?_eq_some_iff.1 hb).1
    rw[qf9 hlt]
    rcases hg.live b cs ((hlow b hlt).trans hb) with h|⟨B,F,c,el,lo,hi,h1,h2,h3,h4,h5⟩
    ·exact .inl h
    ·refine .inr ⟨B,F,c,el,lo,hi,h1,h2,h3,h4,fun i a ha => ?_⟩
     obtain⟨v,k1,k2,k3⟩:=h5 i a ha
     exact⟨v,k1,k2,k3.low (qc6 (o3 b cs hb) ha)⟩
  have hx1:VRels (lowR H.length ρ) w avs (xs.map a.eval):=⟨hx.len,fun i x v hi hv=>(hx.at_ i x v hi hv).low (o2 x (List.mem_of_getElem? hi))⟩
  obtain⟨us,hus,hrun⟩:=he (lowR H.length ρ) w a hx1
  intro next Q hnext
  unfold Oper.wp
  rw[hrun,hc.real,Oper.upon_enter]
  refine Calls.mono (hc.does (lowR H.length ρ) w us hg1 hus) ?_
  rintro e w' ⟨v,ρ',rfl,h1,h2,h3⟩
  have hρ:∀ b,H'.length<=b->ρ' b = .unborn:=fun b hb=>h1.unborn b (List.getElem?_eq_none hb)
  have hge:∀ b,H'.length<=b->H.length<=b:=fun b hb=>Nat.le_trans hc.grow hb
  obtain⟨ρ2,hρ2⟩:∃ ρ2:Rho,ρ2=fun b=>if b<H'.length then ρ' b else ρ b:=⟨_,rfl⟩
  have r_lt:∀ b,b<H'.length->ρ2 b=ρ' b:=fun b hb=>by rw[hρ2]; exact if_pos hb
  have r_ge:∀ b,H'.length<=b->ρ2 b=ρ b:=fun b hb=>by rw[hρ2]; exact if_neg (by omega)
  have hwide:∀ b,ρ' b ≠ .unborn->ρ2 b=ρ' b:=fun b hb=>r_lt b (by
   rcases Nat.lt_or_ge b H'.length with h'|h'
   ·exact h'
   ·exact absurd (hρ b h') hb)
  have hext:∀ n,Ext n ρ w ρ2 w':=by
   intro n
   refine⟨h3.size,h3.os,h3.tape,h3.output,fun B hB hu=>h3.keep B hB (fun b F hl=>hu b F (qc9 hl).2),fun b _ hb => ?_,fun b B F hl => ?_,h3.rows⟩
   ·rcases Nat.lt_or_ge b H.length with h'|h'
    ·rw[r_lt b (Nat.lt_of_lt_of_le h' hc.grow)]
     have:=h3.slot b h' (by rw[qf9 h']; exact hb)
     rwa [qf9 h'] at this
    ·rcases Nat.lt_or_ge b H'.length with h2'|h2'
     ·exact absurd (hg.unborn b (hmid b h' h2')) hb
     ·exact .inl (r_ge b h2')
   ·rcases Nat.lt_or_ge b H'.length with h'|h'
    ·rw[r_lt b h'] at hl
     rcases h3.fresh b B F hl with hf'|⟨b',F',hl'⟩
     ·exact .inl hf'
     ·exact .inr ⟨b',F',(qc9 hl').2⟩
    ·rw[r_ge b h'] at hl
     exact .inr ⟨b,F,hl⟩
  have hbes:∀ b B F,H'.length<=b->ρ b = .live B F->w'.heap[B]? = w.heap[B]? := by
   intro b B F hb hl
   refine h3.keep B (hg.lt hl) fun b' F' hl' => ?_
   obtain⟨h4,h5⟩:=qc9 hl'
   have:=hg.inj b b' B F F' hl h5
   have:=hge b hb
   omega
  have hupd:∀ b,upd g H' (under (size H) lg++news H.length H'.length) b=if b<H'.length then H'[b]? else g b:=by
   intro b
   unfold upd
   by_cases hb:b<H'.length
   ·rw[if_pos hb]
    split
    ·rfl
    ·rename_i hnot
     rw[List.mem_append,qd7,qe1,qay] at hnot
     rcases Nat.lt_or_ge b H.length with h|h
     ·rw[hlow b h]; exact(hc.keep b h fun hl=>hnot (.inl ⟨hl,h⟩)).symm
     ·exact absurd (.inr ⟨h,hb⟩) hnot
   ·rw[if_neg hb,if_neg]
    rw[List.mem_append,qd7,qe1,qay]
    have:=hge b (by omega)
    omega
  refine hnext v w' ⟨ρ2,?_,h2.wide hwide o1,hext⟩
  refine⟨fun b hb => ?_,fun b hb => ?_,fun b b' B F F' hl hl' => ?_,fun b cs hb => ?_,fun b B F c el lo hi hl hh => ?_⟩
  ·rw[hupd] at hb
   split at hb
   ·rename_i h';rw[r_lt b h']; exact h1.unborn b hb
   ·rename_i h';rw[r_ge b (by omega)]; exact hg.unborn b hb
  ·rw[hupd] at hb
   split at hb
   ·rename_i h';rw[r_lt b h']; exact h1.dead b hb
   ·rename_i h';rw[r_ge b (by omega)]; exact hg.dead b hb
  ·have aux:∀ b b' B F F',b<H'.length->H'.length<=b'->ρ' b = .live B F->ρ b' = .live B F'->b=b':=by
    intro b b' B F F' hb hb' hl hl'
    have hBlt:=hg.lt hl'
    rcases h3.fresh b B F hl with hf'|⟨b2,F2,hl2⟩
    ·omega
    ·obtain⟨h4,h5⟩:=qc9 hl2
     have:=hg.inj b2 b' B F2 F' h5 hl'
     have:=hge b' hb'
     omega
   rcases Nat.lt_or_ge b H'.length with hb|hb<;>rcases Nat.lt_or_ge b' H'.length with hb'|hb'
   ·rw[r_lt b hb] at hl;rw[r_lt b' hb'] at hl'
    exact h1.inj b b' B F F' hl hl'
   ·rw[r_lt b hb] at hl;rw[r_ge b' hb'] at hl'
    exact aux b b' B F F' hb hb' hl hl'
   ·rw[r_ge b hb] at hl;rw[r_lt b' hb'] at hl'
    exact(aux b' b B F' F hb' hb hl' hl).symm
   ·rw[r_ge b hb] at hl;rw[r_ge b' hb'] at hl'
    exact hg.inj b b' B F F' hl hl'
  ·rw[hupd] at hb
   split at hb
   ·rename_i h'
    rw[r_lt b h']
    rcases h1.live b cs hb with h|⟨B,F,c,el,lo,hi,k1,k2,k3,k4,k5⟩
    ·exact .inl h
    ·refine .inr ⟨B,F,c,el,lo,hi,k1,k2,k3,k4,fun i x hx' => ?_⟩
     obtain⟨u,q1,q2,q3⟩:=k5 i x hx'
     exact⟨u,q1,q2,q3.wide hwide (qg4 (o4 b cs hb) hx')⟩
   ·rename_i h'
    rw[r_ge b (by omega)]
    rcases hg.live b cs hb with h|⟨B,F,c,el,lo,hi,k1,k2,k3,k4,k5⟩
    ·exact .inl h
    ·refine .inr ⟨B,F,c,el,lo,hi,k1,by rw[hbes b B F (by omega) k1]; exact k2,k3,k4,fun i x hx' => ?_⟩
     obtain⟨u,q1,q2,q3⟩:=k5 i x hx'
     exact⟨u,q1,q2,qcf hext q3⟩
  ·rcases Nat.lt_or_ge b H'.length with hb|hb
   ·rw[r_lt b hb] at hl;exact h1.marks b B F c el lo hi hl hh
   ·rw[r_ge b hb] at hl
    rw[hbes b B F hb hl] at hh
    exact hg.marks b B F c el lo hi hl hh
section
variable {R:Type}{A:Alg R}{holds:R->Prop}(good:A.Good holds){P:Program}{o:Oper}{avs:List AV}{H:Hl}{cf:CallF R}{k:ExK R}(hcf:qf7 P holds cf)
include hcf
theorem qxx{f:Nat}{xs:Array Operand}{ts:Array TypeId}(ho:o.op = .call { callee := .value (.func f),args:=xs,argTypes:=ts })
  (h:holds (ex A ops0 cf H (.call f) avs k)):DoesX P o true xs.toList avs H fun r H' t ft=>holds (k r H' t ft):=by
 have h:holds (cf f avs H fun r H' lg=>k r H' (under (size H) lg) (upto (size H))):=by
  rcases avs with _|⟨x,_⟩<;>exact h
 obtain⟨r,H',lg,hc,h⟩:=hcf _ _ _ _ h
 have he:∀ (ρ:Rho) (w:World) (a:Act),VRels ρ w avs (xs.toList.map a.eval)->∃ us:List Value,VRels ρ w avs us/\(execOp a.eval o).run P w=(callFunc f us.toArray).run P w:=by
  intro ρ w a hx
  refine⟨xs.toList.map a.eval,hx,?_⟩
  have hfe:a.eval (.func f) = .func (.func f) #[] #[]:=rfl
  unfold execOp
  rw[ho]
  simp only[resolve,hfe,Deferred.ofValue,Sem.run_bind,Sem.run_pure,Result.andThen_ok,invoke]
  congr 2
  simp only[Array.empty_append,Array.append_empty]
  rw[<-Array.toList_map,Array.toArray_toList]
 exact⟨_,_,_,_,h,qmj hc he,qkb hc he⟩
include good
theorem qzh{x:Operand}{xs:Array Operand}{ts:Array TypeId}(ho:o.op = .call { callee := .value x,args:=xs,argTypes:=ts })
  (h:holds (ex A ops0 cf H .callv avs k)):DoesX P o true (x::xs.toList) avs H fun r H' t ft=>holds (k r H' t ft):=by
 rcases avs with _|⟨xa,ys⟩
 ·exact(good.fail h).elim
 cases xa with
 | fn f us vs =>
  have h:holds (cf f (join us (join ys vs)) H fun r H' lg=>k r H' (under (size H) lg) (upto (size H))):=h
  obtain⟨r,H',lg,hc,h⟩:=hcf _ _ _ _ h
  have he:∀ (ρ:Rho) (w:World) (a:Act),VRels ρ w (.fn f us vs::ys) ((x::xs.toList).map a.eval)->∃ us':List Value,VRels ρ w (join us (join ys vs)) us'/\(execOp a.eval o).run P w=(callFunc f us'.toArray).run P w:=by
   intro ρ w a hx
   have h1:=hx.head
   have h2:=hx.tail
   generalize hv:a.eval x=v at h1
   cases h1 with
   | fn _ _ _ us' vs' hl hl' hr hr' =>
    refine⟨us'++(xs.toList.map a.eval++vs'),?_,?_⟩
    ·rw[qbx,qbx]
     exact VRels.append ⟨hl,hr⟩ (VRels.append h2 ⟨hl',hr'⟩)
    ·unfold execOp
     rw[ho]
     simp only[resolve,hv,Deferred.ofValue,Sem.run_bind,Sem.run_pure,Result.andThen_ok,invoke]
     congr 2
     simp
  exact⟨_,_,_,_,h,qmj hc he,qkb hc he⟩
 | _=>exact(good.fail h).elim
end
end Go.Vm

namespace Go.Vm
set_option maxRecDepth 100000
def qnf(k:IntKind):Int:=if k.signed then -1 else k.max
section
variable {R:Type}{A:Alg R}{holds:R->Prop}(good:A.Good holds){P:Program}{o:Oper}{avs:List AV}{H:Hl}{cf:CallF R}{k:ExK R}
include good
theorem s_neg{t:TypeId}{x:Operand}{kd:IntKind}(ho:o.op = .unOp .neg t x)(h:holds (ex A ops0 cf H (.bin .sub kd) avs k)) :
  Does P o [.const (.int kd 0),x] avs H fun r H' t f=>holds (k r H' t f):=by
 rcases avs with _|⟨xa,_|⟨ya,_|⟨_,_⟩⟩⟩
 ·exact(good.fail h).elim
 ·cases xa<;>exact(good.fail h).elim
 ·cases xa with
  | int k1 m =>
   cases ya with
   | int k2 n =>
    simp only[ex,xBin] at h
    split at h
    ·rename_i e1 e2
     have e1:=qcp e1
     have e2:=qcp e2
     subst e1;have e2:=e2.symm;subst e2
     refine⟨_,_,_,_,h,qde fun ρ w a g hv hu _ _=>⟨_,?_,.int _ _⟩⟩
     have hm:(.int _ 0:Value) = .int _ m:=qa1 hv
     cases hm
     simp[execOp,ho,qa1 hu,Op.unary,Op.intArith,ops0,bin0]
    ·exact(good.fail h).elim
   | _=>exact(good.fail h).elim
  | _=>exact(good.fail h).elim
 ·cases xa<;>first|exact(good.fail h).elim|(cases ya<;>exact(good.fail h).elim)
theorem s_com{t:TypeId}{x:Operand}{kd:IntKind}(ho:o.op = .unOp .xor t x)(h:holds (ex A ops0 cf H (.bin .xor kd) avs k)) :
  Does P o [.const (.int kd (qnf kd)),x] avs H fun r H' t f=>holds (k r H' t f):=by
 rcases avs with _|⟨xa,_|⟨ya,_|⟨_,_⟩⟩⟩
 ·exact(good.fail h).elim
 ·cases xa<;>exact(good.fail h).elim
 ·cases xa with
  | int k1 m =>
   cases ya with
   | int k2 n =>
    simp only[ex,xBin] at h
    split at h
    ·rename_i e1 e2
     have e1:=qcp e1
     have e2:=qcp e2
     subst e1;have e2:=e2.symm;subst e2
     refine⟨_,_,_,_,h,qde fun ρ w a g hv hu _ _=>⟨_,?_,.int _ _⟩⟩
     have hm:(.int _ (qnf _):Value) = .int _ m:=qa1 hv
     cases hm
     simp[execOp,ho,qa1 hu,Op.unary,Op.intBits,ops0,bin0,qnf]
    ·exact(good.fail h).elim
   | _=>exact(good.fail h).elim
  | _=>exact(good.fail h).elim
 ·cases xa<;>first|exact(good.fail h).elim|(cases ya<;>exact(good.fail h).elim)
theorem s_ixV{t:TypeId}{x y:Operand}{n:Nat}{e:TypeId}{i:TypeInfo}{d:TypeDesc}{kk:Kd}(ho:o.op = .index t x y)(ht:P.underlying t=some (.array n e))(hd:P.underlying e=some d)(ha:qd4 d=false)
  (hi:P.info? e=some i) (h1:i.size=1) (h:holds (ex A ops0 cf H (.ixV n kk) avs k)):Does P o [x,y] avs H fun r H' t f=>holds (k r H' t f):=by
 rcases avs with _|⟨xa,_|⟨ya,_|⟨_,_⟩⟩⟩
 ·exact(good.fail h).elim
 ·cases xa<;>exact(good.fail h).elim
 ·cases xa with
  | agg cs =>
   cases ya with
   | int kd j =>
    have h:holds (A.chk (ops0.inr j n) (A.get kk cs (ops0.nat j) fun v=>k v H [] [])):=h
    obtain⟨hj,h⟩:=good.chk _ _ h
    have hj:=inr0 hj
    obtain⟨r,hr,h⟩:=good.get _ _ _ _ h
    have hr:cs[j.toNat]? = some r:=hr
    refine⟨_,_,_,_,h,qde fun ρ w a g hv hu _ _ => ?_⟩
    obtain⟨vs,hve,hl,_,hli⟩:=qda hv
    obtain⟨v,q1,q2,q3⟩:=hli _ r hr
    refine⟨v,?_,q3⟩
    simp only[Nat.zero_add] at q1
    simp only[execOp,ho,hve,qa1 hu,Instr.index,asIntOf,Sem.run_bind,Sem.run_pure,Result.andThen_ok,run_underlying ht]
    rw[if_pos (by omega)]
    simp only[Sem.run_bind,qbq hi,Result.andThen_ok,h1,Nat.mul_one,qew hd ha _ _ w q1,Sem.run_pure]
   | _=>exact(good.fail h).elim
  | _=>exact(good.fail h).elim
 ·cases xa<;>first|exact(good.fail h).elim|(cases ya<;>exact(good.fail h).elim)
end
end Go.Vm

namespace Go.Vm
set_option maxRecDepth 100000
section
variable {R:Type}{A:Alg R}{holds:R->Prop}(good:A.Good holds){P:Program}{o:Oper}{avs:List AV}{H:Hl}{cf:CallF R}{k:ExK R}
include good
omit good in
theorem qgs{op:BinOp}{t:TypeId}{x y:Operand}{yt:TypeId}{a:Act}{w:World}{k1 k2:FloatKind}{m n:Nat}(ho:o.op = .binOp op t x y yt)(hx:a.eval x = .float k1 m)(hy:a.eval y = .float k2 n){v:Value}
  (h:(binOp op t (.float k1 m) (.float k2 n)).run P w = .ok v w):(execOp a.eval o).run P w = .ok (.value v) w:=by
 simp only[execOp,ho,hx,hy,Sem.run_bind]
 have hg:(eqGuard op t x y (.float k1 m) (.float k2 n)).run P w = .ok () w:=by
  unfold eqGuard
  split<;>rfl
 rw[hg]
 simp only[Result.andThen_ok,h]
 rfl
theorem q4e{op:BinOp}{t:TypeId}{x y:Operand}{yt:TypeId}{kd:FloatKind}(ho:o.op = .binOp op t x y yt)
  (h:holds (ex A ops0 cf H (.fbin op kd) avs k)):Does P o [x,y] avs H fun r H' t f=>holds (k r H' t f):=by
 rcases avs with _|⟨xa,_|⟨ya,_|⟨_,_⟩⟩⟩
 ·exact(good.fail h).elim
 ·cases xa<;>exact(good.fail h).elim
 ·cases xa with
  | flt k1 m =>
   cases ya with
   | flt k2 n =>
    simp only[ex,xFbin] at h
    split at h
    ·rename_i e1 e2
     have e1:=qf4 e1
     have e2:=qf4 e2
     subst e1;subst e2
     obtain⟨r,hr,h⟩:=good.flo _ _ h
     refine⟨_,_,_,_,h,qde fun ρ w a g hv hu _ _=>⟨_,qgs ho (qhl hv) (qhl hu) (run_float_arith w op t _ m n r hr),.flt _ _⟩⟩
    ·exact(good.fail h).elim
   | _=>exact(good.fail h).elim
  | _=>exact(good.fail h).elim
 ·cases xa<;>first|exact(good.fail h).elim|(cases ya<;>exact(good.fail h).elim)
theorem q23{op:BinOp}{t:TypeId}{x y:Operand}{yt:TypeId}{kd:FloatKind}(ho:o.op = .binOp op t x y yt)(hop:op = .eql∨op = .neq∨op = .lss∨op = .leq∨op = .gtr∨op = .geq)
  (h:holds (ex A ops0 cf H (.fcmp op kd) avs k)):Does P o [x,y] avs H fun r H' t f=>holds (k r H' t f):=by
 rcases avs with _|⟨xa,_|⟨ya,_|⟨_,_⟩⟩⟩
 ·exact(good.fail h).elim
 ·cases xa<;>exact(good.fail h).elim
 ·cases xa with
  | flt k1 m =>
   cases ya with
   | flt k2 n =>
    simp only[ex,xFcmp] at h
    split at h
    ·rename_i e1 e2
     have e1:=qf4 e1
     have e2:=qf4 e2
     subst e1;subst e2
     have h:=qir good h
     refine⟨_,_,_,_,h,qde fun ρ w a g hv hu _ _=>⟨_,qgs ho (qhl hv) (qhl hu) ?_,.bool _⟩⟩
     rcases hop with rfl|rfl|rfl|rfl|rfl|rfl<;>simp[binOp,Op.floatCmp,ops0,fcmp0]
    ·exact(good.fail h).elim
   | _=>exact(good.fail h).elim
  | _=>exact(good.fail h).elim
 ·cases xa<;>first|exact(good.fail h).elim|(cases ya<;>exact(good.fail h).elim)
omit good in
theorem qtw{f:Nat}{x:Operand}{ts:Array TypeId}{fn:Func}{e:Array Value->Sem Value}(ho:o.op = .call { callee := .value (.func f),args := #[x],argTypes:=ts })(hf:P.funcs[f]? = some fn)(hn:(fn.name == "runtime.NumGoroutine")=false)
  (hb:fn.body.isNone=true) (h1:Extern.findNext fn=none) (h2:Extern.find fn=some e) (a:Act) (w:World) :
  (execOp a.eval o).run P w=((e #[a.eval x]).run P w).andThen fun v w' => .ok (.value v) w':=by
 have hfe:a.eval (.func f) = .func (.func f) #[] #[]:=rfl
 unfold execOp
 rw[ho]
 simp only[resolve,hfe,Deferred.ofValue,Sem.run_bind,Sem.run_pure,Result.andThen_ok,invoke]
 rw[<-run_callFunc_extern hf hn hb h1 h2]
 simp
theorem s_f2b{f:Nat}{x:Operand}{ts:Array TypeId}{fn:Func}(ho:o.op = .call { callee := .value (.func f),args := #[x],argTypes:=ts })(hf:P.funcs[f]? = some fn)(hn:(fn.name == "runtime.NumGoroutine")=false)
  (hb:fn.body.isNone=true) (h1:Extern.findNext fn=none) (h2:Extern.find fn=some Extern.MathFloatBits.float64bits)
  (h:holds (ex A ops0 cf H .f2b avs k)):Does P o [x] avs H fun r H' t f=>holds (k r H' t f):=by
 rcases avs with _|⟨xa,_|⟨_,_⟩⟩
 ·exact(good.fail h).elim
 ·cases xa with
  | flt k1 m =>
   simp only[ex,xF2b] at h
   split at h
   ·rename_i e1
    have e1:=qf4 e1
    subst e1
    refine⟨_,_,_,_,h,qbv fun ρ w a g hv _ _=>⟨.int .u64 m,?_,.int _ _⟩⟩
    rw[qtw ho hf hn hb h1 h2,qhl hv]
    rfl
   ·exact(good.fail h).elim
  | _=>exact(good.fail h).elim
 ·cases xa<;>exact(good.fail h).elim
theorem s_b2f{f:Nat}{x:Operand}{ts:Array TypeId}{fn:Func}(ho:o.op = .call { callee := .value (.func f),args := #[x],argTypes:=ts })(hf:P.funcs[f]? = some fn)(hn:(fn.name == "runtime.NumGoroutine")=false)
  (hb:fn.body.isNone=true) (h1:Extern.findNext fn=none) (h2:Extern.find fn=some Extern.MathFloatBits.float64frombits)
  (h:holds (ex A ops0 cf H .b2f avs k)):Does P o [x] avs H fun r H' t f=>holds (k r H' t f):=by
 rcases avs with _|⟨xa,_|⟨_,_⟩⟩
 ·exact(good.fail h).elim
 ·cases xa with
  | int k1 m =>
   simp only[ex,xB2f] at h
   split at h
   ·rename_i e1
    have e1:=qcp e1
    subst e1
    refine⟨_,_,_,_,h,qbv fun ρ w a g hv _ _=>⟨.float .f64 m.toNat,?_,.flt _ _⟩⟩
    rw[qtw ho hf hn hb h1 h2,qa1 hv]
    rfl
   ·exact(good.fail h).elim
  | _=>exact(good.fail h).elim
 ·cases xa<;>exact(good.fail h).elim
theorem s_i2f{s t:TypeId}{x:Operand}{k1:IntKind}{kd:FloatKind}(ho:o.op = .convert s t x)(hs:P.underlying s=some (.int k1))(ht:P.underlying t=some (.float kd))
  (h:holds (ex A ops0 cf H (.i2f kd) avs k)):Does P o [x] avs H fun r H' t f=>holds (k r H' t f):=by
 rcases avs with _|⟨xa,_|⟨_,_⟩⟩
 ·exact(good.fail h).elim
 ·cases xa with
  | int k2 m =>
   refine⟨_,_,_,_,h,qbv fun ρ w a g hv _ _=>⟨.float kd (floatOfInt kd m),?_,.flt _ _⟩⟩
   simp only[execOp,ho,qa1 hv,Sem.run_bind,run_convert_int_float w s t k2 kd m (by rw[hs]; rfl) ht,Result.andThen_ok]
   rfl
  | _=>exact(good.fail h).elim
 ·cases xa<;>exact(good.fail h).elim
theorem q4i{s t:TypeId}{x:Operand}{kd:FloatKind}(ho:o.op = .convert s t x)(hs:P.underlying s=some (.float kd))(ht:P.underlying t=some (.float kd))
  (h:holds (ex A ops0 cf H (.fmov kd) avs k)):Does P o [x] avs H fun r H' t f=>holds (k r H' t f):=by
 rcases avs with _|⟨xa,_|⟨_,_⟩⟩
 ·exact(good.fail h).elim
 ·cases xa with
  | flt k1 m =>
   simp only[ex,xFmov] at h
   split at h
   ·rename_i e1
    have e1:=qf4 e1
    subst e1
    refine⟨_,_,_,_,h,qbv fun ρ w a g hv _ _=>⟨.float k1 m,?_,.flt _ _⟩⟩
    simp only[execOp,ho,qhl hv,Sem.run_bind,run_convert_float_float w s t k1 k1 m m (by rw[hs]; rfl) ht (by simp[floatToFloatBits]),Result.andThen_ok]
    rfl
   ·exact(good.fail h).elim
  | _=>exact(good.fail h).elim
 ·cases xa<;>exact(good.fail h).elim
theorem s_mnx{mx:Bool}{x y:Operand}{ts:Array TypeId}(ho:o.op = .call { callee := .builtin (if mx then .max else .min),args := #[x,y],argTypes:=ts })
  (h:holds (ex A ops0 cf H (.mnx mx) avs k)):Does P o [x,y] avs H fun r H' t f=>holds (k r H' t f):=by
 rcases avs with _|⟨xa,_|⟨ya,_|⟨_,_⟩⟩⟩
 ·exact(good.fail h).elim
 ·cases xa<;>exact(good.fail h).elim
 ·cases xa with
  | int k1 m =>
   cases ya with
   | int k2 n =>
    simp only[ex,xMnx] at h
    split at h
    ·rename_i e1
     have e1:=qcp e1
     subst e1
     refine⟨_,_,_,_,h,qde fun ρ w a g hv hu _ _ => ?_⟩
     refine⟨.int k1 (ops0.mnx mx m n),?_,.int _ _⟩
     rw[qcj ho]
     cases mx<;>simp[qa1 hv,qa1 hu,builtin,Builtin.min_,Builtin.max_,Builtin.min2,Builtin.max2,ops0]
    ·exact(good.fail h).elim
   | _=>exact(good.fail h).elim
  | _=>exact(good.fail h).elim
 ·cases xa<;>first|exact(good.fail h).elim|(cases ya<;>exact(good.fail h).elim)
omit good in
theorem HRel.freeze{ρ:Rho}{w:World}{g:Hp}{N:Nat}{c:Array Value}{e:TypeId}{cs:List AV}(hr:HRel (rho1 ρ N (.live w.heap.size 0)) { w with heap:=w.heap.push (.cells c e) } (one g N (.cells cs))) :
  HRel (rho1 ρ N (.live w.heap.size 0)) { w with heap:=w.heap.push (.cells c e (c.size,c.size+1)) } (one g N (.cells cs)):=by
 have cell:∀ (B o:Nat),({ w with heap:=w.heap.push (.cells c e (c.size,c.size+1)) }:World).cell? ⟨B,o,none⟩=({ w with heap:=w.heap.push (.cells c e) }:World).cell? ⟨B,o,none⟩:=by
  intro B o
  simp only[World.cell?,Array.getElem?_push]
  by_cases hB:B=w.heap.size
  ·simp[hB]
  ·simp[hB]
 have size:({ w with heap:=w.heap.push (.cells c e (c.size,c.size+1)) }:World).heap.size=({ w with heap:=w.heap.push (.cells c e) }:World).heap.size:=by simp
 have rw_:∀ B,rows { w with heap:=w.heap.push (.cells c e (c.size,c.size+1)) } B=rows { w with heap:=w.heap.push (.cells c e) } B:=by
  intro B
  simp only[rows,Array.getElem?_push]
  by_cases hB:B=w.heap.size
  ·simp[hB]
  ·simp[hB]
 have V:∀ {a:AV} {v:Value},VRel (rho1 ρ N (.live w.heap.size 0)) { w with heap:=w.heap.push (.cells c e) } a v->VRel (rho1 ρ N (.live w.heap.size 0)) { w with heap:=w.heap.push (.cells c e (c.size,c.size+1)) } a v:=by
  intro a v h
  induction h with
  | slc b o len cap sz v h0 hs hv h =>
   refine .slc b o len cap sz v h0 hs hv fun B F hl => ?_
   obtain⟨ao,cap',h1,h2,h3,h4,h5⟩:=h B F hl
   exact⟨ao,cap',h1,h2,h3,h4,by rw[rw_]; exact h5⟩
  | ros cells off len cap exact B F ao cap' vs hlt hp hl ho hc hr hcap hlen he ha ih =>
   exact .ros cells off len cap exact B F ao cap' vs (by rw[size]; exact hlt) hp hl ho (fun i v hv=>by rw[cell]; exact hc i v hv) ih hcap hlen he ha
  | rop cells off B F vs hlt hp hl ho hc hr ih =>
   exact .rop cells off B F vs (by rw[size]; exact hlt) hp hl ho (fun i v hv=>by rw[cell]; exact hc i v hv) ih
  | top v=>exact .top v
  | bool b=>exact .bool b
  | int k n=>exact .int k n
  | flt k n=>exact .flt k n
  | str s=>exact .str s
  | nilp=>exact .nilp
  | ptr b o v h0 h1 hs h=>exact .ptr b o v h0 h1 hs h
  | nils=>exact .nils
  | agg cs vs hl ho hr ih=>exact .agg cs vs hl ho ih
  | tup cs vs hl hr ih=>exact .tup cs vs hl ih
  | fn f xs ys us vs hl hl' hr hr' ih ih'=>exact .fn f xs ys us vs hl hl' ih ih'
  | nilf=>exact .nilf
  | ifc t a v h ih=>exact .ifc t a v ih
  | nili=>exact .nili
 refine⟨hr.unborn,hr.dead,hr.inj,fun b ds h => ?_,fun b B F c2 e2 lo hi h1 h2 => ?_⟩
 case refine_2 =>
  simp only[Array.getElem?_push] at h2
  split at h2
  ·cases h2
   exact .inr (Nat.le_refl _)
  ·rename_i hB
   exact hr.marks b B F c2 e2 lo hi h1 (by simp only[Array.getElem?_push]; rw[if_neg hB]; exact h2)
 rcases hr.live b ds h with h'|⟨B,F,c2,e2,lo,hi,hl,hh,hs,hf,hc⟩
 ·exact .inl h'
 ·simp only[Array.getElem?_push] at hh
  split at hh
  ·rename_i hB
   cases hh
   refine .inr ⟨B,F,c,e,c.size,c.size+1,hl,by simp only[Array.getElem?_push]; rw[if_pos hB],hs,fun j _ hj=>by omega,fun i a ha => ?_⟩
   obtain⟨v,q1,q2,q3⟩:=hc i a ha
   exact⟨v,q1,q2,V q3⟩
  ·rename_i hB
   refine .inr ⟨B,F,c2,e2,lo,hi,hl,by simp only[Array.getElem?_push]; rw[if_neg hB]; exact hh,hs,hf,fun i a ha => ?_⟩
   obtain⟨v,q1,q2,q3⟩:=hc i a ha
   exact⟨v,q1,q2,V q3⟩
theorem s_s2b{s t e:TypeId}{x:Operand}(ho:o.op = .convert s t x)(hs:P.underlying s=some .string)(ht:P.underlying t=some (.slice e))(he:P.underlying e=some (.int .u8))
  (h:holds (ex A ops0 cf H .s2b avs k)):Does P o [x] avs H fun r H' t f=>holds (k r H' t f):=by
 rcases avs with _|⟨xa,_|⟨_,_⟩⟩
 ·exact(good.fail h).elim
 ·cases xa with
  | str l =>
   have h:holds (k (.slc (size H) 0 l.length l.length 1) (join H [.cells (l.map fun b => .int .u8 b.toNat)]) [] []):=h
   rw[qay,qbx] at h
   refine⟨_,_,_,_,h,⟨by simp,(fun b hb=>by cases hb),fun b hb _=>by rw[List.getElem?_append_left hb],?_⟩⟩
   intro ρ w a g hx hf _ hn hg
   have hN:g H.length=none:=hn _ (Nat.le_refl _) (by simp)
   have hv:=qi1 hx.one
   have hrun:=run_bytes_of_string (P:=P) w s t e ⟨l.toArray⟩ hs ht he
   have hcap:l.length<=grownCap w l.length 0 e:=by
    simp only[grownCap,Question.cut]
    omega
   generalize hN':grownCap w l.length 0 e=N at *
   have hsz:(bytesRow ⟨l.toArray⟩ N).size=N:=by simp[bytesRow,ByteArray.size]; omega
   have hlies:Lies ρ w (l.map fun b=>AV.int .u8 b.toNat) 0 (bytesRow ⟨l.toArray⟩ N):=by
    intro i b hb
    rw[List.getElem?_map] at hb
    obtain⟨c,hc,rfl⟩:=Option.map_eq_some_iff.1 hb
    refine⟨.int .u8 c.toNat,?_,rfl,.int _ _⟩
    have hi:=(List.getElem?_eq_some_iff.1 hc).1
    simp only[bytesRow,Nat.zero_add]
    rw[Array.getElem?_append_left (by simpa using hi)]
    simp[hc]
   have R:=((hg.drew (w.drawn+1)).alloc hN (c:=bytesRow ⟨l.toArray⟩ N) (e:=e) (by simp[hsz]; exact hcap) (qbr (qb1 ρ w _) hlies))
   have R2:=HRel.freeze R
   refine OpDo.value (v := .slice (some ⟨w.heap.size,0,none⟩) l.length N) (w' := { w with heap:=w.heap.push (.cells (bytesRow ⟨l.toArray⟩ N) e ((bytesRow ⟨l.toArray⟩ N).size,(bytesRow ⟨l.toArray⟩ N).size+1)),drawn:=w.drawn+1 }) ?_ ⟨rho1 ρ H.length (.live w.heap.size 0),?_,?_,fun n'=>(qb1 ρ w (w.drawn+1) n').trans (qdn (hg.drew (w.drawn+1)) hN _ _ (by intro B F h;cases h;rfl) n')⟩
   ·have hsize:(⟨l.toArray⟩:ByteArray).size=l.length:=by simp[ByteArray.size]
    rw[hsize] at hrun
    simp only[execOp,ho,hv,Sem.run_bind]
    rw[hN'] at hrun
    rw[hrun]
    rfl
   ·rw[qgb]; exact R2
   ·refine .slc _ _ _ _ _ _ (by simp[rho1]) ⟨_,N,rfl,hcap,hcap,fun _=>⟨_,_,rfl⟩⟩ (by simp[rho1]) ?_
    intro B F hl
    simp[rho1] at hl
    obtain⟨rfl,rfl⟩:=hl
    refine⟨_,N,hcap,hcap,rfl,fun _=>rfl,?_⟩
    have hrows:rows { w with heap:=w.heap.push (.cells (bytesRow ⟨l.toArray⟩ N) e ((bytesRow ⟨l.toArray⟩ N).size,(bytesRow ⟨l.toArray⟩ N).size+1)),drawn:=w.drawn+1 } w.heap.size=N:=by
     simp[rows,hsz]
    rw[hrows]; omega
  | _=>exact(good.fail h).elim
 ·cases xa<;>exact(good.fail h).elim
end
end Go.Vm

namespace Go.Vm
set_option maxRecDepth 100000
section
variable {R:Type}{A:Alg R}{holds:R->Prop}(good:A.Good holds){P:Program}{o:Oper}{avs:List AV}{H:Hl}{cf:CallF R}{k:ExK R}
include good
theorem s_mko{t e:TypeId}{len:Nat}{parts:Array (Nat × Operand)}{j:TypeInfo}{z:Value}{zs:List AV}{pl:List (Nat × Nat)}(ho:o.op = .buildSlice t len parts)(ht:P.underlying t=some (.slice e))
  (hj:P.info? e=some j) (hsmall:len*j.size<=2 ^ 24) (hz:j.zero=some z) (zc:Array Value) (hzc:zc=if len*j.size=0 then #[] else z.cells)
  (hs:toAVs ((Array.range (len*j.size)).map (zc[·% zc.size]!)).toList=some zs) (hp:qcg (fun i=>some (i*j.size,j.size)) (parts.toList.map (·.1))=some pl)
  (h:holds (ex A ops0 cf H (.mko zs len j.size pl) avs k)):Does P o (parts.toList.map (·.2)) avs H fun r H' t f=>holds (k r H' t f):=by
 have h:holds (fillK A ops0 zs pl avs fun cs=>k (.slc (size H) 0 len len j.size) (join H [.cells cs]) [] []):=h
 obtain⟨cs,h,hcl,hcs⟩:=qez good h
 rw[qay,qbx] at h
 have hzl:=(qce hs).1.symm
 have hzn:zs.length=len*j.size:=by rw[<-hzl]; simp
 refine⟨_,_,_,_,h,.alloc fun ρ w a g hx _ hg => ?_⟩
 obtain⟨c',h1,h2,h3⟩:=hcs ρ w ((parts.toList.map (·.2)).map a.eval) _ _ (parts.toList.map (·.1)) hx hzl (qev hs ρ w) hp
 have e1:(parts.map fun x=>(match x with|(i,x)=>(i,a.eval x))).toList=(parts.toList.map (·.1)).zip ((parts.toList.map (·.2)).map a.eval):=by
  rw[Array.toList_map]
  induction parts.toList with
  | nil=>rfl
  | cons p l ih=>simp[ih]
 refine⟨.slice (some ⟨w.heap.size,0,none⟩) len len,w.drawn,c'.toArray,e,?_,?_,?_,?_⟩
 ·rw[Array.toArray_toList] at h1
  simp only[execOp,ho,Instr.buildSlice,Sem.run_bind,run_underlying ht,qbq hj,Result.andThen_ok]
  rw[if_neg (by omega),e1]
  by_cases h0:len*j.size=0
  ·rw[if_pos h0] at hzc
   subst hzc
   rw[if_pos h0]
   simp only[Sem.run_bind,Sem.run_pure,Result.andThen_ok]
   rw[h1]
   simp[newRow]
  ·rw[if_neg h0] at hzc
   subst hzc
   rw[if_neg h0]
   simp only[Sem.run_bind,Sem.run_pure,Result.andThen_ok,qdk hj hz]
   rw[h1]
   simp[newRow]
 ·simp;omega
 ·exact h3
 ·intro ρ' w' hl hr
  refine .slc _ _ _ _ _ _ (by rw[hl]; simp) ⟨_,_,rfl,Nat.le_refl _,Nat.le_refl _,fun _=>⟨_,_,rfl⟩⟩ (by rw[hl]; simp) ?_
  intro B F hlb
  rw[hl] at hlb
  cases hlb
  refine⟨_,_,Nat.le_refl _,Nat.le_refl _,rfl,fun _=>rfl,?_⟩
  rw[hr]
  simp
  omega
end
theorem VRel.same{ρ:Rho}{w w':World}(size:w'.heap.size=w.heap.size)(cell:∀ (B o:Nat),w'.cell? ⟨B,o,none⟩=w.cell? ⟨B,o,none⟩)(rw_:∀ B,rows w' B=rows w B){a:AV}{v:Value}(h:VRel ρ w a v):VRel ρ w' a v:=by
 induction h with
 | slc b o len cap sz v h0 hs hv h =>
  refine .slc b o len cap sz v h0 hs hv fun B F hl => ?_
  obtain⟨ao,cap',h1,h2,h3,h4,h5⟩:=h B F hl
  exact⟨ao,cap',h1,h2,h3,h4,by rw[rw_]; exact h5⟩
 | ros cells off len cap exact B F ao cap' vs hlt hp hl ho hc hr hcap hlen he ha ih =>
  exact .ros cells off len cap exact B F ao cap' vs (by rw[size]; exact hlt) hp hl ho (fun i v hv=>by rw[cell]; exact hc i v hv) ih hcap hlen he ha
 | rop cells off B F vs hlt hp hl ho hc hr ih =>
  exact .rop cells off B F vs (by rw[size]; exact hlt) hp hl ho (fun i v hv=>by rw[cell]; exact hc i v hv) ih
 | top v=>exact .top v
 | bool b=>exact .bool b
 | int k n=>exact .int k n
 | flt k n=>exact .flt k n
 | str s=>exact .str s
 | nilp=>exact .nilp
 | ptr b o v h0 h1 hs h=>exact .ptr b o v h0 h1 hs h
 | nils=>exact .nils
 | agg cs vs hl ho hr ih=>exact .agg cs vs hl ho ih
 | tup cs vs hl hr ih=>exact .tup cs vs hl ih
 | fn f xs ys us vs hl hl' hr hr' ih ih'=>exact .fn f xs ys us vs hl hl' ih ih'
 | nilf=>exact .nilf
 | ifc t a v h ih=>exact .ifc t a v ih
 | nili=>exact .nili
structure Marked(w:World)(B:Nat)(c:Array Value)(e:TypeId)(w':World):Prop where
 here:∃ hi,w'.heap[B]? = some (.cells c e (c.size,hi))
 other:∀ B',B'≠B->w'.heap[B']? = w.heap[B']?
 size:w'.heap.size=w.heap.size
 os:w'.os=w.os
 tape:w'.tape=w.tape
 output:w'.output=w.output
theorem q4g{w:World}{B:Nat}{c:Array Value}{e:TypeId}{lo hi:Nat}(h:w.heap[B]? = some (.cells c e (lo,hi)))(hm:lo=hi∨c.size<=lo):Marked w B c e (w.freeze ⟨B,c.size,none⟩ 1) where
 here:=by
  have e1:(w.freeze ⟨B,c.size,none⟩ 1).heap[B]? = some (.cells c e (if lo == hi then(c.size,c.size+1) else(min lo c.size,max hi (c.size+1)))):=by
   unfold World.freeze
   rw[if_neg (by decide)]
   simp[Array.getElem?_modify,h]
  rw[e1]
  by_cases hlh:lo=hi
  ·subst hlh
   exact⟨c.size+1,by simp⟩
  ·have:(lo == hi)=false:=by simpa using hlh
   rw[this]
   refine⟨max hi (c.size+1),?_⟩
   have:min lo c.size=c.size:=Nat.min_eq_right (by omega)
   simp[this]
 other B' hB:=by
  unfold World.freeze
  rw[if_neg (by decide)]
  simp[Array.getElem?_modify,Ne.symm hB]
 size:=by unfold World.freeze;rw[if_neg (by decide)]; simp
 os:=by unfold World.freeze;rw[if_neg (by decide)]
 tape:=by unfold World.freeze;rw[if_neg (by decide)]
 output:=by unfold World.freeze;rw[if_neg (by decide)]
theorem Marked.rel{w w':World}{B:Nat}{c:Array Value}{e:TypeId}{lo hi:Nat}(hm:Marked w B c e w')(h:w.heap[B]? = some (.cells c e (lo,hi))){ρ:Rho}{g:Hp}{b F:Nat}(hg:HRel ρ w g)(hl:ρ b = .live B F) :
  HRel ρ w' g/\(∀ n,Ext n ρ w ρ w')/\∀ {a:AV} {v:Value},VRel ρ w a v->VRel ρ w' a v:=by
 obtain⟨hi',hh⟩:=hm.here
 have cell:∀ (B' o:Nat),w'.cell? ⟨B',o,none⟩=w.cell? ⟨B',o,none⟩:=by
  intro B' o
  simp only[World.cell?]
  by_cases hB:B'=B
  ·subst hB;rw[hh,h]
  ·rw[hm.other B' hB]
 have rw_:∀ B',rows w' B'=rows w B':=by
  intro B'
  by_cases hB:B'=B
  ·subst hB;simp only[rows,hh,h]
  ·simp only[rows,hm.other B' hB]
 have V:∀ {a:AV} {v:Value},VRel ρ w a v->VRel ρ w' a v:=fun q=>q.same hm.size cell rw_
 refine⟨⟨hg.unborn,hg.dead,hg.inj,fun i ds hi2 => ?_,fun i B' F' c2 e2 lo2 hi2 h1 h2 => ?_⟩,fun n=>⟨by rw[hm.size]; exact Nat.le_refl _,hm.os,hm.tape,hm.output,fun B' hB hu => ?_,fun _ _ _ => .inl rfl,fun i B' F' q => .inr ⟨i,F',q⟩,fun B' _=>rw_ B'⟩,V⟩
 ·rcases hg.live i ds hi2 with h'|⟨B',F',c2,e2,lo2,hi3,hl2,hh2,hs2,hf2,hc2⟩
  ·exact .inl h'
  ·by_cases hB:B'=B
   ·subst hB
    rw[h] at hh2
    cases hh2
    exact .inr ⟨B',F',c,e,c.size,hi',hl2,hh,hs2,fun j _ hj=>by omega,fun i a ha=>let ⟨v,q1,q2,q3⟩:=hc2 i a ha;⟨v,q1,q2,V q3⟩⟩
   ·exact .inr ⟨B',F',c2,e2,lo2,hi3,hl2,(hm.other B' hB).trans hh2,hs2,hf2,fun i a ha=>let ⟨v,q1,q2,q3⟩:=hc2 i a ha;⟨v,q1,q2,V q3⟩⟩
 ·by_cases hB:B'=B
  ·subst hB
   rw[hh] at h2
   cases h2
   exact .inr (Nat.le_refl _)
  ·rw[hm.other B' hB] at h2
   exact hg.marks i B' F' c2 e2 lo2 hi2 h1 h2
 ·exact hm.other B' fun hB=>hu b F (by rw[hB]; exact hl)
section
variable {R:Type}{A:Alg R}{holds:R->Prop}(good:A.Good holds){P:Program}{o:Oper}{avs:List AV}{H:Hl}{cf:CallF R}{k:ExK R}
include good
theorem s_frz{t e:TypeId}{x:Operand}(ho:o.op = .convert t t x)(ht:P.underlying t=some (.slice e))(he:P.underlying e=some (.int .u8))
  (h:holds (ex A ops0 cf H .frz avs k)):Does P o [x] avs H fun r H' t f=>holds (k r H' t f):=by
 rcases avs with _|⟨xa,_|⟨_,_⟩⟩
 ·exact(good.fail h).elim
 ·cases xa with
  | slc b of len cap sz =>
   have h:holds (blkK A H b fun cs=>A.chk (ops0.lt 0 (ops0.len cs)) (A.chk (ops0.lt 0 len) (k (.slc b of len cap sz) H [] [b]))):=h
   obtain⟨cs,hb,h⟩:=qby good h
   obtain⟨hc0,h⟩:=good.chk _ _ h
   obtain⟨hl0,h⟩:=good.chk _ _ h
   have hc0:0<cs.length:=by simpa[ops0] using hc0
   have hl0:0<len:=by simpa[ops0] using hl0
   refine⟨_,_,_,_,h,⟨Nat.le_refl _,(fun b hb=>by cases hb),fun _ _ _=>rfl,?_⟩⟩
   intro ρ w a g hx hf _ _ hg
   have hgb:g b=some (.cells cs):=qds hf hb
   rcases hg.live b cs hgb with ⟨_,hcs⟩|⟨B,F,c,e2,lo,hi,hl,hc,hsz,hf2,hli⟩
   ·subst hcs;cases hc0
   ·have hv:=hx.one
    cases hv with
    | slc _ _ _ _ _ v h0 hs hv hh =>
     obtain⟨ao,cap',h1,h2,h3,h4,h5⟩:=hh B F hl
     have hao:=h4 (by omega)
     subst hao
     have hM:=q4g hc (hg.marks b B F c e2 lo hi hl hc)
     obtain⟨R1,R2,R3⟩:=hM.rel hc hg hl
     refine OpDo.value (v := .slice (some ⟨B,F+of,none⟩) len cap') (w':=w.freeze ⟨B,c.size,none⟩ 1) ?_ ⟨ρ,?_,?_,R2⟩
     ·have hsh:w.shape? B=some (e2,c.size):=by
       unfold World.shape?
       rw[hc]
      simp[execOp,ho,h3,convert,run_underlying ht,run_underlying he,markStringish,hsh]
     ·rw[qfs,List.append_nil,qk1]
      exact R1
     ·rw[<-h3]
      exact R3 hx.one
  | _=>exact(good.fail h).elim
 ·cases xa<;>exact(good.fail h).elim
end
end Go.Vm

namespace Go.Vm
set_option maxRecDepth 100000
structure AppZ(P:Program)(t u e:TypeId)(j:TypeInfo)(z:Value)(zl:List AV):Prop where
 sl:P.underlying t=some (.slice e)
 el:P.info? e=some j
 zero:j.zero=some z
 zs:z.cells.size=j.size
 src:∃ k,P.underlying u=some (.int k)
 avs:toAVs z.cells.toList=some zl
theorem qxz{l:Int}(h:ops0.nn l=true):∃ n:Nat,l=(n:Int):=by
 have h:0<=l:=of_decide_eq_true h
 exact⟨l.toNat,(Int.toNat_of_nonneg h).symm⟩
section
variable {P:Program}{t u e:TypeId}{j:TypeInfo}{z:Value}{zs:List AV}{ty:TypeId}{cs:Array Bool}
theorem qqg(T:AppZ P t u e j z zs)(n:Nat):(ops0.rep n zs).length=n*j.size:=by
 rw[show ops0.rep n zs=(List.replicate n zs).flatten from rfl,qj3]
 have:=(qce T.avs).1
 simp at this
 rw[this,T.zs]
theorem qqc(T:AppZ P t u e j z zs)(n:Nat)(ρ:Rho)(w:World):∃ vs:List Value,vs=(Builtin.zeroCells z.cells n).toList/\vs.length=n*j.size/\Lies ρ w (ops0.rep n zs) 0 vs.toArray:=by
 refine⟨_,rfl,by rw[Array.length_toList,qc3,T.zs],?_⟩
 show Lies ρ w (List.replicate n zs).flatten 0 (Builtin.zeroCells z.cells n).toList.toArray
 rw[Array.toArray_toList]
 exact qpq T.avs n ρ w
theorem qwn(T:AppZ P t u e j z zs){n:Nat}{vs:List Value}(h:vs=(Builtin.zeroCells z.cells n).toList):∀ v∈vs,vone v=true:=by
 subst h
 intro v hv
 simp only[Builtin.zeroCells,Array.toList_map,List.mem_map,Array.mem_toList_iff,Array.mem_range] at hv
 obtain⟨i,hi,rfl⟩:=hv
 have hz:0<z.cells.size:=by
  rcases Nat.eq_zero_or_pos z.cells.size with h|h
  ·rw[h,Nat.mul_zero] at hi;omega
  ·exact h
 have hlt:i % z.cells.size<z.cells.size:=Nat.mod_lt _ hz
 obtain⟨hl,hrel⟩:=qce T.avs
 have ha:i % z.cells.size<zs.length:=by rw[hl]; simpa using hlt
 obtain⟨v,h1,h2⟩:=hrel (i % z.cells.size) zs[i % z.cells.size] (List.getElem?_eq_getElem ha)
 have h3:z.cells[i % z.cells.size]! = v:=by
  have h4:z.cells[i % z.cells.size]? = some v:=by simpa using h1
  rw[getElem!_pos z.cells (i % z.cells.size) hlt]
  exact(Array.getElem?_eq_some_iff.1 h4).2
 rw[h3]
 exact qlt h2
theorem qf6(T:AppZ P t u e j z zs){kd:IntKind}{w:World}{ao:Option Addr}{len cap n:Nat}{vs:List Value}(hvs:vs=(Builtin.zeroCells z.cells n).toList)(hroom:ops0.room len n j.bytes=true)
  (hcap:len+n<=cap):(builtin .append #[t,u] ty cs #[.slice ao len cap,.int kd n]).run P w =
   (match ao with|some a=>(storeCells (a.add (len*j.size)) vs).run P w|none => .ok () w).andThen fun _ w' => .ok (.value (.slice ao (len+n) cap)) w':=by
 obtain⟨k,hu⟩:=T.src
 have hr:(len+n+1)*(j.bytes+1)<=1099511627776:=by simpa[ops0] using hroom
 have hn1:n<=(len+n+1)*(j.bytes+1):=Nat.le_trans (by omega) (Nat.le_mul_of_pos_right _ (by omega))
 have hn2:n*j.bytes<=(len+n+1)*(j.bytes+1):=Nat.mul_le_mul (by omega) (by omega)
 have hw:IntKind.i64.wrap (n:Int)=n:=qfx (by omega) (by omega)
 have c1:¬ ((n:Int)<0):=by omega
 have c2:¬ ((n:Int)*(j.bytes:Int)>2 ^ 48):=by
  have:((n*j.bytes:Nat):Int)=(n:Int)*(j.bytes:Int):=by simp
  omega
 simp only[builtin,Builtin.append_,List.getElem?_toArray,List.getElem?_cons_zero,List.getElem?_cons_succ,Sem.run_bind,run_underlying T.sl,run_underlying hu,Result.andThen_ok,qbq T.el,Sem.run_pure,
  if_true,asInt,asIntOf,hw,if_neg c1,typeInfo,run_program,T.el,if_neg c2,Int.toNat_natCast,if_pos hcap,Bool.not_true,Bool.false_eq_true,if_false]
 have happ:(if n*j.size=0 then(pure #[]:Sem (Array Value)) else do pure (Builtin.zeroCells (<-zeroValue e).cells n)).run P w = .ok vs.toArray w:=by
  by_cases h0:n*j.size=0
  ·rw[if_pos h0]
   have:vs = []:=by
    subst hvs
    apply List.eq_nil_of_length_eq_zero
    rw[Array.length_toList,qc3,T.zs,h0]
   rw[this]; simp
  ·rw[if_neg h0]
   simp only[Sem.run_bind,qdk T.el T.zero,Result.andThen_ok,Sem.run_pure,hvs]
 rw[happ]
 cases ao with
 | none=>simp
 | some a=>simp only[Result.andThen_ok,Sem.run_bind,Sem.run_pure]; cases (storeCells (a.add (len*j.size)) vs).run P w<;>rfl
theorem qfc(T:AppZ P t u e j z zs){kd:IntKind}{w:World}{ao:Option Addr}{len cap n:Nat}{us vs:List Value}(hvs:vs=(Builtin.zeroCells z.cells n).toList)
  (hs:∀ d,(Builtin.firstCells j.size len (.slice ao len cap)).run P { w with drawn:=d } = .ok us.toArray { w with drawn:=d })
  (hcap:¬ len+n<=cap) (hroom:ops0.room len n j.bytes=true) :
  ∃ N d,len+n<=N/\(builtin .append #[t,u] ty cs #[.slice ao len cap,.int kd n]).run P w =
   .ok (.value (.slice (some ⟨w.heap.size,0,none⟩) (len+n) N)) { w with heap:=w.heap.push (.cells (us.toArray++vs.toArray++Builtin.zeroCells z.cells (N - (len+n))) e),drawn:=d }:=by
 obtain⟨r1,r2⟩:=room0 hroom (old:=cap) (by omega)
 refine⟨(len+n)+w.tape w.drawn (.appendCap (len+n) cap e) % (2 ^ 63 - (len+n)),w.drawn+1,by omega,?_⟩
 obtain⟨k,hu⟩:=T.src
 have hr:(len+n+1)*(j.bytes+1)<=1099511627776:=by simpa[ops0] using hroom
 have hn1:n<=(len+n+1)*(j.bytes+1):=Nat.le_trans (by omega) (Nat.le_mul_of_pos_right _ (by omega))
 have hn2:n*j.bytes<=(len+n+1)*(j.bytes+1):=Nat.mul_le_mul (by omega) (by omega)
 have hw:IntKind.i64.wrap (n:Int)=n:=qfx (by omega) (by omega)
 have c1:¬ ((n:Int)<0):=by omega
 have c2:¬ ((n:Int)*(j.bytes:Int)>2 ^ 48):=by
  have:((n*j.bytes:Nat):Int)=(n:Int)*(j.bytes:Int):=by simp
  omega
 have happ:∀ w':World,(if n*j.size=0 then(pure #[]:Sem (Array Value)) else do pure (Builtin.zeroCells (<-zeroValue e).cells n)).run P w' = .ok vs.toArray w':=by
  intro w'
  by_cases h0:n*j.size=0
  ·rw[if_pos h0]
   have:vs = []:=by
    subst hvs
    apply List.eq_nil_of_length_eq_zero
    rw[Array.length_toList,qc3,T.zs,h0]
   rw[this]; simp
  ·rw[if_neg h0]
   simp only[Sem.run_bind,qdk T.el T.zero,Result.andThen_ok,Sem.run_pure,hvs]
 simp only[builtin,Builtin.append_,List.getElem?_toArray,List.getElem?_cons_zero,List.getElem?_cons_succ,Sem.run_bind,run_underlying T.sl,run_underlying hu,Result.andThen_ok,qbq T.el,Sem.run_pure,
  if_true,asInt,asIntOf,hw,if_neg c1,typeInfo,run_program,T.el,if_neg c2,Int.toNat_natCast,if_neg hcap,Bool.not_true,Bool.false_eq_true,if_false,r2,false_and,if_neg r1]
 simp only[run_choose,Question.forced,Bool.false_eq_true,if_false,Question.cut,Result.andThen_ok,run_askRoom]
 rw[hs]
 simp only[Result.andThen_ok]
 rw[happ]
 simp only[Result.andThen_ok,qdk T.el T.zero,newRow,Sem.run_bind,run_newObj_alloc,Sem.run_pure]
 rfl
end
section
variable {R:Type}{A:Alg R}{holds:R->Prop}(good:A.Good holds){P:Program}{o:Oper}{avs:List AV}{H:Hl}{cf:CallF R}{k:ExK R}
include good
theorem q3j{x y:Operand}{t u e:TypeId}{j:TypeInfo}{z:Value}{zs:List AV}(ho:o.op = .call { callee := .builtin .append,args := #[x,y],argTypes := #[t,u] })(T:AppZ P t u e j z zs)
    (h:holds (ex A ops0 cf H (.app0 j.size j.bytes zs) avs k)):Does P o [x,y] avs H fun r H' t f=>holds (k r H' t f):=by
  have hex:∀ (a:Act) (w:World),(execOp a.eval o).run P w=(builtin .append #[t,u] o.type (#[x,y].map fun | .const _=>true|_=>false) #[a.eval x,a.eval y]).run P w:=by
    intro a w
    rw[qcj ho]
    first|(simp;done)|(simp;rfl)
  have bare:∀ {xa:AV} {kd:IntKind} {l:Int},(∀ ρ w v,VRel ρ w xa v->∃ ao,v = .slice ao 0 0) ->
      holds (A.chk (ops0.nn l) (A.chk (ops0.room 0 (ops0.nat l) j.bytes) (k (.slc (size H) 0 (ops0.nat l) (ops0.nat l) j.size) (join H [.cells (ops0.rep (ops0.nat l) zs)]) [] [])))->Does P o [x,y] [xa,.int kd l] H fun r H' t f=>holds (k r H' t f):=by
    intro xa kd l hxa h
    obtain⟨hnn,h⟩:=good.chk _ _ h
    obtain⟨n,rfl⟩:=qxz hnn
    rw[show ops0.nat (n:Int)=n from rfl] at h
    obtain⟨hroom,h⟩:=good.chk _ _ h
    generalize hcsd:ops0.rep n zs=cs at h
    rw[qay,qbx] at h
    refine⟨_,_,_,_,h,⟨by simp,(fun b hb=>by cases hb),fun b hb _=>by rw[List.getElem?_append_left hb],?_⟩⟩
    intro ρ w a g hx hf _ hn hg
    obtain⟨ao,hve⟩:=hxa ρ w _ hx.two.1
    have hyv:=qa1 hx.two.2
    obtain⟨vs,hvs,hvl,hvli⟩:=qqc T n ρ w
    rw[hcsd] at hvli
    have hcl:cs.length=n*j.size:=by rw[<-hcsd]; exact qqg T n
    have hN:g H.length=none:=hn _ (Nat.le_refl _) (by simp)
    by_cases hn0:n=0
    · subst hn0
      have hcs:cs = []:=List.eq_nil_of_length_eq_zero (by omega)
      have hvs:vs = []:=List.eq_nil_of_length_eq_zero (by omega)
      subst hcs;subst hvs
      have hrun:(execOp a.eval o).run P w = .ok (.value (.slice ao 0 0)) w:=by
        rw[hex,hve,hyv,qf6 T hvs hroom (Nat.le_refl _)]
        cases ao<;>simp[storeCells]
      obtain⟨R,E2⟩:=hg.nothing hN
      refine OpDo.value hrun ⟨_,?_,?_,E2⟩
      · rw[qgb]; exact R
      · exact .slc _ _ _ _ _ _ (by simp[rho1]) ⟨ao,0,rfl,Nat.le_refl _,Nat.le_refl _,by simp⟩ (fun _=>⟨ao,rfl,rfl,rfl⟩) (by simp[rho1])
    · obtain⟨N,d,hNn,hrun⟩:=qfc (ty:=o.type) (cs := #[x,y].map fun | .const _=>true|_=>false) T (kd:=kd) (ao:=ao) (len:=0) (cap:=0) (us := []) hvs
        (fun d=>by cases ao<;>simp[Builtin.firstCells,loadCells,loadCellsFrom]) (by omega) hroom
      rw[Nat.zero_add] at hNn hrun
      have hsz:(([]:List Value).toArray++vs.toArray++Builtin.zeroCells z.cells (N - n)).size=N*j.size:=by
        simp only[List.append_toArray,Array.size_append,List.size_toArray,List.nil_append,qc3,T.zs,hvl]
        rw[<-Nat.add_mul]; congr 1;omega
      have hc:Lies ρ w cs 0 (([]:List Value).toArray++vs.toArray++Builtin.zeroCells z.cells (N - n)):=by
        have:=qd5 (ρ:=ρ) (w:=w) (xs := []) (us := []) (zs:=Builtin.zeroCells z.cells (N - n)) rfl (fun i a h=>by simp at h) hvli
        simpa using this
      have R:=(hg.alloc hN (e:=e) (by rw[hsz,hcl]; exact Nat.mul_le_mul_right _ hNn) hc).drew d
      have E2:∀ n',Ext n' ρ w (rho1 ρ H.length (.live w.heap.size 0)) { w with heap:=w.heap.push (.cells (([]:List Value).toArray++vs.toArray++Builtin.zeroCells z.cells (N - n)) e) }:=qdn hg hN _ _ (by intro B F h;cases h;rfl)
      refine OpDo.value (by rw[hex,hve,hyv]; exact hrun) ⟨rho1 ρ H.length (.live w.heap.size 0),?_,?_,fun n'=>(E2 n').trans (qb1 _ _ d n')⟩
      · rw[qgb]; exact R
      · refine .slc _ _ _ _ _ _ (by simp[rho1]) ⟨_,N,rfl,hNn,hNn,fun _=>⟨_,_,rfl⟩⟩ (by simp[rho1]) ?_
        intro B F hl
        simp[rho1] at hl
        obtain⟨rfl,rfl⟩:=hl
        refine⟨_,N,hNn,hNn,rfl,fun _=>rfl,?_⟩
        have hrows:rows { w with heap:=w.heap.push (.cells (([]:List Value).toArray++vs.toArray++Builtin.zeroCells z.cells (N - n)) e),drawn:=d } w.heap.size=N*j.size:=by
          rw[<-hsz]; exact qb2 (by simp;exact⟨rfl,rfl⟩)
        rw[hrows]; omega
  rcases avs with _|⟨xa,_|⟨ya,_|⟨_,_⟩⟩⟩
  · exact(good.fail h).elim
  · cases xa with
    | ros cells off len cap exact=>cases len<;>cases cap<;>cases exact<;>exact(good.fail h).elim
    | _=>exact(good.fail h).elim
  · cases ya with
    | int kd l =>
     cases xa with
     | nils=>exact bare (fun ρ w v hv=>⟨none,qdz hv⟩) h
     | ros cells off len cap exact =>
      cases len with
      | succ len=>cases cap<;>cases exact<;>exact(good.fail h).elim
      | zero =>
        cases cap with
        | succ _=>cases exact<;>exact(good.fail h).elim
        | zero =>
          cases exact with
          | false=>exact(good.fail h).elim
          | true =>
            refine bare (fun ρ w v hv => ?_) h
            cases hv with
            | ros _ _ _ _ _ B F ao cap' vs hlt hp hl ho' hc hr hcap hlen he ha =>
              have:=he rfl
              subst this
              exact⟨ao,rfl⟩
     | slc b of len cap sz' =>
       simp only[ex,xApp0] at h
       split at h
       case h_2=>exact(good.fail h).elim
       rename_i hsz
       have hsz:=Nat.eq_of_beq_eq_true hsz
       subst hsz
       obtain⟨bs,hb,h⟩:=qby good h
       obtain⟨hle,h⟩:=good.chk _ _ h
       have hle:of+len*j.size<=bs.length:=by simpa[ops0] using hle
       obtain⟨hnn,h⟩:=good.chk _ _ h
       obtain⟨n,rfl⟩:=qxz hnn
       rw[show ops0.nat (n:Int)=n from rfl] at h
       obtain⟨hroom,h⟩:=good.chk _ _ h
       generalize hcsd:ops0.rep n zs=cs at h
       rw[qay,qbx,qdm] at h
       have hbl:=(List.getElem?_eq_some_iff.1 hb).1
       refine⟨_,_,_,_,h,⟨by simp,(fun i hi=>by simp at hi;subst hi;exact hbl),fun i hi hn => ?_,?_⟩⟩
       · simp at hn
         rw[List.getElem?_append_left (by simpa using hi),List.getElem?_set_ne (fun h=>hn h.symm)]
       intro ρ w a g hx hf _ hn hg
       have hgb:g b=some (.cells bs):=(hf b (by simp)).trans hb
       have hN:g H.length=none:=hn _ (Nat.le_refl _) (by simp)
       have hbN:b≠H.length:=by omega
       have hyv:=qa1 hx.two.2
       have S:∀ d,Elems P ρ { w with drawn:=d } j.size (a.eval x) ((bs.drop of).take (len*j.size)) len:=fun d=>qmc (hg.drew d) hgb (qcf (qb1 ρ w d) hx.two.1) hle
       obtain⟨vs,hvs,hvl,hvli⟩:=qqc T n ρ w
       have hvo:=qwn T hvs
       rw[hcsd] at hvli
       obtain⟨us,hul,hur,huli,huo⟩:=qcx S
       have hcl:cs.length=n*j.size:=by rw[<-hcsd]; exact qqg T n
       have hsl:=(S w.drawn).len
       have hxv:=hx.two.1
       generalize hve:a.eval x=ve at hxv hur
       show OpDo P o a w (fun v w'=>∃ ρ',HRel ρ' w' (upd g (H.set b .dead ++ [Blk.cells ((bs.drop of).take (len*j.size)++cs)]) ([b]++news H.length (H.set b .dead ++ [Blk.cells ((bs.drop of).take (len*j.size)++cs)]).length)) /\
         VRel ρ' w' (.slc H.length 0 (len+n) (len+n) j.size) v/\∀ n,Ext n ρ w ρ' w')
       rw[qtz hbl]
       cases hxv with
       | slc _ _ _ _ _ _ h0 hs hvo2 hh =>
         obtain⟨ao,cap',rfl,g1,g2,g3⟩:=hs
         by_cases hcap:len+n<=cap'
         ·
           have hrun0:=qf6 (ty:=o.type) (cs := #[x,y].map fun | .const _=>true|_=>false) T (kd:=kd) (w:=w) (ao:=ao) hvs hroom hcap
           by_cases hc0:cap'=0
           · subst hc0
             have hl0:len=0:=by omega
             have hn0:n=0:=by omega
             subst hl0;subst hn0
             have hcs:cs = []:=List.eq_nil_of_length_eq_zero (by omega)
             have hvs:vs = []:=List.eq_nil_of_length_eq_zero (by omega)
             subst hcs;subst hvs
             have hrun:(execOp a.eval o).run P w = .ok (.value (.slice ao 0 0)) w:=by
               rw[hex,hve,hyv,hrun0]
               cases ao<;>simp[storeCells]
             obtain⟨R1,E1⟩:=hg.kill hgb
             obtain⟨R2,E2⟩:=R1.nothing (N:=H.length) (by simp only[one,if_neg hbN.symm]; exact hN)
             refine OpDo.value hrun ⟨_,?_,?_,fun m=>(E1 m).trans (E2 m)⟩
             · simpa using R2
             · exact .slc _ _ _ _ _ _ (by simp[rho1]) ⟨ao,0,rfl,Nat.le_refl _,Nat.le_refl _,by simp⟩ (fun _=>⟨ao,rfl,rfl,rfl⟩) (by simp[rho1])
           · rcases hg.live b bs hgb with ⟨hvd,_⟩|⟨B,F,c,e',lo,hi,hl,hc,hsz,hfz,hli⟩
             · obtain⟨ao',q1,_,_⟩:=hvo2 hvd
               cases q1;exact absurd rfl hc0
             · obtain⟨ao',cap2,q1,q2,q3,q4,q5⟩:=hh B F hl
               cases q3
               have:=q4 hc0
               subst this
               rw[qb2 hc] at q5
               have hmul:(len+n)*j.size<=cap'*j.size:=Nat.mul_le_mul_right _ hcap
               have hmul2:(len+n)*j.size=len*j.size+n*j.size:=Nat.add_mul _ _ _
               obtain⟨w',hrs,hw⟩:=qbm (P:=P) (X:=F+of+len*j.size) vs 0 c w hc (by omega) (fun i h1 h2=>hfz i (by omega) h2) hvo
               have hrun:(execOp a.eval o).run P w = .ok (.value (.slice (some ⟨B,F+of,none⟩) (len+n) cap')) w':=by
                 rw[hex,hve,hyv,hrun0]
                 simp only[qdc,hrs,Result.andThen_ok]
               have hcs:(qat c.toList (F+of+len*j.size+0) vs).toArray.size=c.size:=by
                 have:=qbi c.toList (F+of+len*j.size+0) vs (by simp;omega)
                 simpa using this
               have hlies:Lies ρ w ((bs.drop of).take (len*j.size)++cs) (F+of) (qat c.toList (F+of+len*j.size+0) vs).toArray:=by
                 intro i b' hi
                 have hg2:=qb4 c.toList (F+of+len*j.size+0) vs (by simp;omega) (F+of+i)
                 simp only[List.getElem?_toArray]
                 rw[hg2]
                 by_cases hil:i<len*j.size
                 · rw[List.getElem?_append_left (by omega)] at hi
                   rw[if_pos (by omega)]
                   obtain⟨v,p,q,r⟩:=(Lies.sub (show Lies ρ w bs F c from hli) of (len*j.size)) i b' hi
                   exact⟨v,by simpa using p,q,r⟩
                 · rw[List.getElem?_append_right (by omega),hsl] at hi
                   have hin:i - len*j.size<cs.length:=(List.getElem?_eq_some_iff.1 hi).1
                   rw[if_neg (by omega),if_pos (by omega)]
                   obtain⟨v,p,q,r⟩:=hvli _ b' hi
                   refine⟨v,?_,q,r⟩
                   rw[show F+of+i - (F+of+len*j.size+0)=0+(i - len*j.size) by omega]
                   simpa using p
               obtain⟨R2,E2⟩:=hg.move (X:=F+of) hgb hN hl hc (fun i h1 h2=>hfz i (by omega) h2) hw hcs (by simp only[List.length_append]; omega) hlies
               refine OpDo.value hrun ⟨_,R2,?_,E2⟩
               refine .slc _ _ _ _ _ _ (by simp[rho1]) ⟨_,cap',rfl,hcap,hcap,fun _=>⟨_,_,rfl⟩⟩ (by simp[rho1]) ?_
               intro B2 F2 hl2
               simp[rho1] at hl2
               obtain⟨rfl,rfl⟩:=hl2
               refine⟨_,cap',hcap,hcap,rfl,fun _=>rfl,?_⟩
               rw[qb2 hw.here,hcs]
               omega
         ·
           obtain⟨N,d,hNn,hrun⟩:=qfc (ty:=o.type) (cs := #[x,y].map fun | .const _=>true|_=>false) T (ao:=ao) (kd:=kd) (len:=len) (cap:=cap') hvs hur hcap hroom
           have hsz:(us.toArray++vs.toArray++Builtin.zeroCells z.cells (N - (len+n))).size=N*j.size:=by
             simp only[List.append_toArray,Array.size_append,List.size_toArray,List.length_append,qc3,T.zs,hvl,hul]
             rw[<-Nat.add_mul,<-Nat.add_mul]; congr 1;omega
           obtain⟨R1,E1⟩:=hg.kill hgb
           have hc:Lies (rho1 ρ b .dead) w ((bs.drop of).take (len*j.size)++cs) 0 (us.toArray++vs.toArray++Builtin.zeroCells z.cells (N - (len+n))):=qbr E1 (qd5 (by omega) huli hvli)
           have hN1:one g b .dead H.length=none:=by simp only[one,if_neg hbN.symm]; exact hN
           have R:=(R1.alloc hN1 (e:=e) (by rw[hsz,List.length_append,hsl,hcl,<-Nat.add_mul]; exact Nat.mul_le_mul_right _ hNn) hc).drew d
           have E2:∀ n',Ext n' (rho1 ρ b .dead) w (rho1 (rho1 ρ b .dead) H.length (.live w.heap.size 0)) { w with heap:=w.heap.push (.cells (us.toArray++vs.toArray++Builtin.zeroCells z.cells (N - (len+n))) e) } :=
             qdn R1 hN1 _ _ (by intro B F h;cases h;rfl)
           refine OpDo.value (by rw[hex,hve,hyv]; exact hrun) ⟨_,R,?_,fun n'=>((E1 n').trans (E2 n')).trans (qb1 _ _ d n')⟩
           refine .slc _ _ _ _ _ _ (by simp[rho1]) ⟨_,N,rfl,hNn,hNn,fun _=>⟨_,_,rfl⟩⟩ (by simp[rho1]) ?_
           intro B F hl
           simp[rho1] at hl
           obtain⟨rfl,rfl⟩:=hl
           refine⟨_,N,hNn,hNn,rfl,fun _=>rfl,?_⟩
           have hrows:rows { w with heap:=w.heap.push (.cells (us.toArray++vs.toArray++Builtin.zeroCells z.cells (N - (len+n))) e),drawn:=d } w.heap.size=N*j.size:=by
             rw[<-hsz]; exact qb2 (by simp;exact⟨rfl,rfl⟩)
           rw[hrows]; omega
     | _=>exact(good.fail h).elim
    | _ =>
      cases xa with
      | ros cells off len cap exact=>cases len<;>cases cap<;>cases exact<;>exact(good.fail h).elim
      | _=>exact(good.fail h).elim
  · cases xa with
    | ros cells off len cap exact=>cases len<;>cases cap<;>cases exact<;>cases ya<;>exact(good.fail h).elim
    | slc b o n c s=>cases ya<;>exact(good.fail h).elim
    | nils=>cases ya<;>exact(good.fail h).elim
    | _=>exact(good.fail h).elim
theorem q4w{x:Operand}{t e:TypeId}(ho:o.op = .call { callee := .builtin .cap,args := #[x],argTypes := #[t] })(ht:P.underlying t=some (.slice e))
  (h:holds (ex A ops0 cf H .capN avs k)):Does P o [x] avs H fun r H' t f=>holds (k r H' t f):=by
 have slice:∀ (a:Act) (w:World) ao n c,a.eval x = .slice ao n c->(execOp a.eval o).run P w = .ok (.value (.int .i64 (c:Int))) w:=by
  intro a w ao n c hve
  rw[qcj ho]
  simp[builtin,Builtin.cap_,run_underlying ht,hve,goInt]
 rcases avs with _|⟨xa,_|⟨_,_⟩⟩
 ·exact(good.fail h).elim
 ·cases xa with
  | nils=>exact⟨_,_,_,_,h,qbv fun ρ w a g hv _ _=>⟨_,slice a w _ _ _ (qdz hv),.int _ _⟩⟩
  | ros cs off len cap exact =>
   cases exact with
   | false=>exact(good.fail h).elim
   | true =>
    refine⟨_,_,_,_,h,qbv fun ρ w a g hv _ _ => ?_⟩
    generalize hve:a.eval x=ve at hv
    cases hv with
    | ros _ _ _ _ _ B F ao cap' vs hlt hp hl ho' hc hr hcap hlen he ha =>
     have:=he rfl
     subst this
     exact⟨_,slice a w _ _ _ hve,.int _ _⟩
  | _=>exact(good.fail h).elim
 ·cases xa with
  | ros cs off len cap exact=>cases exact<;>exact(good.fail h).elim
  | _=>exact(good.fail h).elim
end
end Go.Vm
