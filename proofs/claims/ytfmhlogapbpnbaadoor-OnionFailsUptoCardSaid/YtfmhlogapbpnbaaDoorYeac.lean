/-
  A VERIFIED SYMBOLIC MACHINE, PART Ob: append of zeros ('append(x, make(..)...)').
-/
import Derived.Test.YtfmhlogapbpnbaaDoorYeab
set_option linter.unusedVariables false
set_option linter.unusedSimpArgs false
set_option linter.unusedSectionVars false

namespace Go.Vm
set_option maxRecDepth 100000
structure AppZ(P:Program)(t u e:TypeId)(j:TypeInfo)(z:Value)(zl:List AV):Prop where
 sl:P.underlying t=some (.slice e)
 el:P.info? e=some j
 zero:j.zero=some z
 zs:z.cells.size=j.size
 src:∃ k,P.underlying u=some (.int k)
 avs:toAVs z.cells.toList=some zl
theorem nn_nat{l:Int}(h:ops0.nn l=true):∃ n:Nat,l=(n:Int):=by
 have h:0≤l:=of_decide_eq_true h
 exact⟨l.toNat,(Int.toNat_of_nonneg h).symm⟩
section
variable {P:Program}{t u e:TypeId}{j:TypeInfo}{z:Value}{zs:List AV}{ty:TypeId}{cs:Array Bool}
theorem zero_len(T:AppZ P t u e j z zs)(n:Nat):(ops0.rep n zs).length=n*j.size:=by
 rw[show ops0.rep n zs=(List.replicate n zs).flatten from rfl,rep_length]
 have:=(toAVs_rel T.avs).1
 simp at this
 rw[this,T.zs]
theorem zero_src(T:AppZ P t u e j z zs)(n:Nat)(ρ:Rho)(w:World):∃ vs:List Value,vs=(Builtin.zeroCells z.cells n).toList∧vs.length=n*j.size∧Lies ρ w (ops0.rep n zs) 0 vs.toArray:=by
 refine⟨_,rfl,by rw[Array.length_toList,zeros_size,T.zs],?_⟩
 show Lies ρ w (List.replicate n zs).flatten 0 (Builtin.zeroCells z.cells n).toList.toArray
 rw[Array.toArray_toList]
 exact lies_rep T.avs n ρ w
theorem zero_one(T:AppZ P t u e j z zs){n:Nat}{vs:List Value}(h:vs=(Builtin.zeroCells z.cells n).toList):∀ v∈vs,vone v=true:=by
 subst h
 intro v hv
 simp only[Builtin.zeroCells,Array.toList_map,List.mem_map,Array.mem_toList_iff,Array.mem_range] at hv
 obtain⟨i,hi,rfl⟩:=hv
 have hz:0<z.cells.size:=by
  rcases Nat.eq_zero_or_pos z.cells.size with h|h
  ·rw[h,Nat.mul_zero] at hi;omega
  ·exact h
 have hlt:i % z.cells.size<z.cells.size:=Nat.mod_lt _ hz
 obtain⟨hl,hrel⟩:=toAVs_rel T.avs
 have ha:i % z.cells.size<zs.length:=by rw[hl]; simpa using hlt
 obtain⟨v,h1,h2⟩:=hrel (i % z.cells.size) zs[i % z.cells.size] (List.getElem?_eq_getElem ha)
 have h3:z.cells[i % z.cells.size]! = v:=by
  have h4:z.cells[i % z.cells.size]? = some v:=by simpa using h1
  rw[getElem!_pos z.cells (i % z.cells.size) hlt]
  exact(Array.getElem?_eq_some_iff.1 h4).2
 rw[h3]
 exact toAV_one h2
theorem run_append_in0(T:AppZ P t u e j z zs){kd:IntKind}{w:World}{ao:Option Addr}{len cap n:Nat}{vs:List Value}(hvs:vs=(Builtin.zeroCells z.cells n).toList)(hroom:ops0.room len n j.bytes=true)
  (hcap:len+n≤cap):(builtin .append #[t,u] ty cs #[.slice ao len cap,.int kd n]).run P w =
   (match ao with|some a=>(storeCells (a.add (len*j.size)) vs).run P w|none => .ok () w).andThen fun _ w' => .ok (.value (.slice ao (len+n) cap)) w':=by
 obtain⟨k,hu⟩:=T.src
 have hr:(len+n+1)*(j.bytes+1)≤1099511627776:=by simpa[ops0] using hroom
 have hn1:n≤(len+n+1)*(j.bytes+1):=Nat.le_trans (by omega) (Nat.le_mul_of_pos_right _ (by omega))
 have hn2:n*j.bytes≤(len+n+1)*(j.bytes+1):=Nat.mul_le_mul (by omega) (by omega)
 have hw:IntKind.i64.wrap (n:Int)=n:=wrap_small (by omega) (by omega)
 have c1:¬ ((n:Int)<0):=by omega
 have c2:¬ ((n:Int)*(j.bytes:Int)>2 ^ 48):=by
  have:((n*j.bytes:Nat):Int)=(n:Int)*(j.bytes:Int):=by simp
  omega
 simp only[builtin,Builtin.append_,List.getElem?_toArray,List.getElem?_cons_zero,List.getElem?_cons_succ,Sem.run_bind,run_underlying T.sl,run_underlying hu,Result.andThen_ok,run_size T.el,Sem.run_pure,
  if_true,asInt,asIntOf,hw,if_neg c1,typeInfo,run_program,T.el,if_neg c2,Int.toNat_natCast,if_pos hcap,Bool.not_true,Bool.false_eq_true,if_false]
 have happ:(if n*j.size=0 then(pure #[]:Sem (Array Value)) else do pure (Builtin.zeroCells (←zeroValue e).cells n)).run P w = .ok vs.toArray w:=by
  by_cases h0:n*j.size=0
  ·rw[if_pos h0]
   have:vs = []:=by
    subst hvs
    apply List.eq_nil_of_length_eq_zero
    rw[Array.length_toList,zeros_size,T.zs,h0]
   rw[this]; simp
  ·rw[if_neg h0]
   simp only[Sem.run_bind,run_zero T.el T.zero,Result.andThen_ok,Sem.run_pure,hvs]
 rw[happ]
 cases ao with
 | none=>simp
 | some a=>simp only[Result.andThen_ok,Sem.run_bind,Sem.run_pure]; cases (storeCells (a.add (len*j.size)) vs).run P w<;>rfl
theorem run_append_new0(T:AppZ P t u e j z zs){kd:IntKind}{w:World}{ao:Option Addr}{len cap n:Nat}{us vs:List Value}(hvs:vs=(Builtin.zeroCells z.cells n).toList)
  (hs:∀ d,(Builtin.firstCells j.size len (.slice ao len cap)).run P { w with drawn:=d } = .ok us.toArray { w with drawn:=d })
  (hcap:¬ len+n≤cap) (hroom:ops0.room len n j.bytes=true) :
  ∃ N d,len+n≤N∧(builtin .append #[t,u] ty cs #[.slice ao len cap,.int kd n]).run P w =
   .ok (.value (.slice (some ⟨w.heap.size,0,none⟩) (len+n) N)) { w with heap:=w.heap.push (.cells (us.toArray++vs.toArray++Builtin.zeroCells z.cells (N - (len+n))) e),drawn:=d }:=by
 obtain⟨r1,r2⟩:=room0 hroom (old:=cap) (by omega)
 refine⟨(len+n)+w.tape w.drawn (.appendCap (len+n) cap e) % (2 ^ 63 - (len+n)),w.drawn+1,by omega,?_⟩
 obtain⟨k,hu⟩:=T.src
 have hr:(len+n+1)*(j.bytes+1)≤1099511627776:=by simpa[ops0] using hroom
 have hn1:n≤(len+n+1)*(j.bytes+1):=Nat.le_trans (by omega) (Nat.le_mul_of_pos_right _ (by omega))
 have hn2:n*j.bytes≤(len+n+1)*(j.bytes+1):=Nat.mul_le_mul (by omega) (by omega)
 have hw:IntKind.i64.wrap (n:Int)=n:=wrap_small (by omega) (by omega)
 have c1:¬ ((n:Int)<0):=by omega
 have c2:¬ ((n:Int)*(j.bytes:Int)>2 ^ 48):=by
  have:((n*j.bytes:Nat):Int)=(n:Int)*(j.bytes:Int):=by simp
  omega
 have happ:∀ w':World,(if n*j.size=0 then(pure #[]:Sem (Array Value)) else do pure (Builtin.zeroCells (←zeroValue e).cells n)).run P w' = .ok vs.toArray w':=by
  intro w'
  by_cases h0:n*j.size=0
  ·rw[if_pos h0]
   have:vs = []:=by
    subst hvs
    apply List.eq_nil_of_length_eq_zero
    rw[Array.length_toList,zeros_size,T.zs,h0]
   rw[this]; simp
  ·rw[if_neg h0]
   simp only[Sem.run_bind,run_zero T.el T.zero,Result.andThen_ok,Sem.run_pure,hvs]
 simp only[builtin,Builtin.append_,List.getElem?_toArray,List.getElem?_cons_zero,List.getElem?_cons_succ,Sem.run_bind,run_underlying T.sl,run_underlying hu,Result.andThen_ok,run_size T.el,Sem.run_pure,
  if_true,asInt,asIntOf,hw,if_neg c1,typeInfo,run_program,T.el,if_neg c2,Int.toNat_natCast,if_neg hcap,Bool.not_true,Bool.false_eq_true,if_false,r2,false_and,if_neg r1]
 simp only[run_choose,Question.forced,Bool.false_eq_true,if_false,Question.cut,Result.andThen_ok,run_askRoom]
 rw[hs]
 simp only[Result.andThen_ok]
 rw[happ]
 simp only[Result.andThen_ok,run_zero T.el T.zero,newRow,Sem.run_bind,run_newObj_alloc,Sem.run_pure]
 rfl
end
section
variable {R:Type}{A:Alg R}{holds:R→Prop}(good:A.Good holds){P:Program}{o:Oper}{avs:List AV}{H:Hl}{cf:CallF R}{k:ExK R}
include good
theorem s_app0{x y:Operand}{t u e:TypeId}{j:TypeInfo}{z:Value}{zs:List AV}(ho:o.op = .call { callee := .builtin .append,args := #[x,y],argTypes := #[t,u] })(T:AppZ P t u e j z zs)
    (h:holds (ex A ops0 cf H (.app0 j.size j.bytes zs) avs k)):Does P o [x,y] avs H fun r H' t f=>holds (k r H' t f):=by
  have hex:∀ (a:Act) (w:World),(execOp a.eval o).run P w=(builtin .append #[t,u] o.type (#[x,y].map fun | .const _=>true|_=>false) #[a.eval x,a.eval y]).run P w:=by
    intro a w
    rw[run_builtin ho]
    first|(simp;done)|(simp;rfl)
  have bare:∀ {xa:AV} {kd:IntKind} {l:Int},(∀ ρ w v,VRel ρ w xa v→∃ ao,v = .slice ao 0 0) →
      holds (A.chk (ops0.nn l) (A.chk (ops0.room 0 (ops0.nat l) j.bytes) (k (.slc (size H) 0 (ops0.nat l) (ops0.nat l) j.size) (join H [.cells (ops0.rep (ops0.nat l) zs)]) [] [])))→Does P o [x,y] [xa,.int kd l] H fun r H' t f=>holds (k r H' t f):=by
    intro xa kd l hxa h
    obtain⟨hnn,h⟩:=good.chk _ _ h
    obtain⟨n,rfl⟩:=nn_nat hnn
    rw[show ops0.nat (n:Int)=n from rfl] at h
    obtain⟨hroom,h⟩:=good.chk _ _ h
    generalize hcsd:ops0.rep n zs=cs at h
    rw[size_eq,join_eq] at h
    refine⟨_,_,_,_,h,⟨by simp,(fun b hb=>by cases hb),fun b hb _=>by rw[List.getElem?_append_left hb],?_⟩⟩
    intro ρ w a g hx hf _ hn hg
    obtain⟨ao,hve⟩:=hxa ρ w _ hx.two.1
    have hyv:=inv_int hx.two.2
    obtain⟨vs,hvs,hvl,hvli⟩:=zero_src T n ρ w
    rw[hcsd] at hvli
    have hcl:cs.length=n*j.size:=by rw[←hcsd]; exact zero_len T n
    have hN:g H.length=none:=hn _ (Nat.le_refl _) (by simp)
    by_cases hn0:n=0
    · subst hn0
      have hcs:cs = []:=List.eq_nil_of_length_eq_zero (by omega)
      have hvs:vs = []:=List.eq_nil_of_length_eq_zero (by omega)
      subst hcs;subst hvs
      have hrun:(execOp a.eval o).run P w = .ok (.value (.slice ao 0 0)) w:=by
        rw[hex,hve,hyv,run_append_in0 T hvs hroom (Nat.le_refl _)]
        cases ao<;>simp[storeCells]
      obtain⟨R,E2⟩:=hg.nothing hN
      refine OpDo.value hrun ⟨_,?_,?_,E2⟩
      · rw[upd_one]; exact R
      · exact .slc _ _ _ _ _ _ (by simp[rho1]) ⟨ao,0,rfl,Nat.le_refl _,Nat.le_refl _,by simp⟩ (fun _=>⟨ao,rfl,rfl,rfl⟩) (by simp[rho1])
    · obtain⟨N,d,hNn,hrun⟩:=run_append_new0 (ty:=o.type) (cs := #[x,y].map fun | .const _=>true|_=>false) T (kd:=kd) (ao:=ao) (len:=0) (cap:=0) (us := []) hvs
        (fun d=>by cases ao<;>simp[Builtin.firstCells,loadCells,loadCellsFrom]) (by omega) hroom
      rw[Nat.zero_add] at hNn hrun
      have hsz:(([]:List Value).toArray++vs.toArray++Builtin.zeroCells z.cells (N - n)).size=N*j.size:=by
        simp only[List.append_toArray,Array.size_append,List.size_toArray,List.nil_append,zeros_size,T.zs,hvl]
        rw[←Nat.add_mul]; congr 1;omega
      have hc:Lies ρ w cs 0 (([]:List Value).toArray++vs.toArray++Builtin.zeroCells z.cells (N - n)):=by
        have:=lies_append (ρ:=ρ) (w:=w) (xs := []) (us := []) (zs:=Builtin.zeroCells z.cells (N - n)) rfl (fun i a h=>by simp at h) hvli
        simpa using this
      have R:=(hg.alloc hN (e:=e) (by rw[hsz,hcl]; exact Nat.mul_le_mul_right _ hNn) hc).drew d
      have E2:∀ n',Ext n' ρ w (rho1 ρ H.length (.live w.heap.size 0)) { w with heap:=w.heap.push (.cells (([]:List Value).toArray++vs.toArray++Builtin.zeroCells z.cells (N - n)) e) }:=alloc_ext hg hN _ _ (by intro B F h;cases h;rfl)
      refine OpDo.value (by rw[hex,hve,hyv]; exact hrun) ⟨rho1 ρ H.length (.live w.heap.size 0),?_,?_,fun n'=>(E2 n').trans (drew_ext _ _ d n')⟩
      · rw[upd_one]; exact R
      · refine .slc _ _ _ _ _ _ (by simp[rho1]) ⟨_,N,rfl,hNn,hNn,fun _=>⟨_,_,rfl⟩⟩ (by simp[rho1]) ?_
        intro B F hl
        simp[rho1] at hl
        obtain⟨rfl,rfl⟩:=hl
        refine⟨_,N,hNn,hNn,rfl,fun _=>rfl,?_⟩
        have hrows:rows { w with heap:=w.heap.push (.cells (([]:List Value).toArray++vs.toArray++Builtin.zeroCells z.cells (N - n)) e),drawn:=d } w.heap.size=N*j.size:=by
          rw[←hsz]; exact rows_here (by simp;exact⟨rfl,rfl⟩)
        rw[hrows]; omega
  rcases avs with _|⟨xa,_|⟨ya,_|⟨_,_⟩⟩⟩
  · exact(good.fail h).elim
  · cases xa with
    | ros cells off len cap exact=>cases len<;>cases cap<;>cases exact<;>exact(good.fail h).elim
    | _=>exact(good.fail h).elim
  · cases ya with
    | int kd l =>
     cases xa with
     | nils=>exact bare (fun ρ w v hv=>⟨none,inv_nils hv⟩) h
     | ros cells off len cap exact =>
      cases len with
      | succ len=>cases cap<;>cases exact<;>exact(good.fail h).elim
      | zero =>
        cases cap with
        | succ _=>cases exact<;>exact(good.fail h).elim
        | zero =>
          cases exact with
          | false=>exact(good.fail h).elim
          | true =>
            refine bare (fun ρ w v hv => ?_) h
            cases hv with
            | ros _ _ _ _ _ B F ao cap' vs hlt hp hl ho' hc hr hcap hlen he ha =>
              have:=he rfl
              subst this
              exact⟨ao,rfl⟩
     | slc b of len cap sz' =>
       simp only[ex,xApp0] at h
       split at h
       case h_2=>exact(good.fail h).elim
       rename_i hsz
       have hsz:=Nat.eq_of_beq_eq_true hsz
       subst hsz
       obtain⟨bs,hb,h⟩:=blkK_sound good h
       obtain⟨hle,h⟩:=good.chk _ _ h
       have hle:of+len*j.size≤bs.length:=by simpa[ops0] using hle
       obtain⟨hnn,h⟩:=good.chk _ _ h
       obtain⟨n,rfl⟩:=nn_nat hnn
       rw[show ops0.nat (n:Int)=n from rfl] at h
       obtain⟨hroom,h⟩:=good.chk _ _ h
       generalize hcsd:ops0.rep n zs=cs at h
       rw[size_eq,join_eq,put_eq] at h
       have hbl:=(List.getElem?_eq_some_iff.1 hb).1
       refine⟨_,_,_,_,h,⟨by simp,(fun i hi=>by simp at hi;subst hi;exact hbl),fun i hi hn => ?_,?_⟩⟩
       · simp at hn
         rw[List.getElem?_append_left (by simpa using hi),List.getElem?_set_ne (fun h=>hn h.symm)]
       intro ρ w a g hx hf _ hn hg
       have hgb:g b=some (.cells bs):=(hf b (by simp)).trans hb
       have hN:g H.length=none:=hn _ (Nat.le_refl _) (by simp)
       have hbN:b≠H.length:=by omega
       have hyv:=inv_int hx.two.2
       have S:∀ d,Elems P ρ { w with drawn:=d } j.size (a.eval x) ((bs.drop of).take (len*j.size)) len:=fun d=>slc_elems (hg.drew d) hgb (ext_bound (drew_ext ρ w d) hx.two.1) hle
       obtain⟨vs,hvs,hvl,hvli⟩:=zero_src T n ρ w
       have hvo:=zero_one T hvs
       rw[hcsd] at hvli
       obtain⟨us,hul,hur,huli,huo⟩:=drawn_elems S
       have hcl:cs.length=n*j.size:=by rw[←hcsd]; exact zero_len T n
       have hsl:=(S w.drawn).len
       have hxv:=hx.two.1
       generalize hve:a.eval x=ve at hxv hur
       show OpDo P o a w (fun v w'=>∃ ρ',HRel ρ' w' (upd g (H.set b .dead ++ [Blk.cells ((bs.drop of).take (len*j.size)++cs)]) ([b]++news H.length (H.set b .dead ++ [Blk.cells ((bs.drop of).take (len*j.size)++cs)]).length)) ∧
         VRel ρ' w' (.slc H.length 0 (len+n) (len+n) j.size) v∧∀ n,Ext n ρ w ρ' w')
       rw[upd_two hbl]
       cases hxv with
       | slc _ _ _ _ _ _ h0 hs hvo2 hh =>
         obtain⟨ao,cap',rfl,g1,g2,g3⟩:=hs
         by_cases hcap:len+n≤cap'
         ·
           have hrun0:=run_append_in0 (ty:=o.type) (cs := #[x,y].map fun | .const _=>true|_=>false) T (kd:=kd) (w:=w) (ao:=ao) hvs hroom hcap
           by_cases hc0:cap'=0
           · subst hc0
             have hl0:len=0:=by omega
             have hn0:n=0:=by omega
             subst hl0;subst hn0
             have hcs:cs = []:=List.eq_nil_of_length_eq_zero (by omega)
             have hvs:vs = []:=List.eq_nil_of_length_eq_zero (by omega)
             subst hcs;subst hvs
             have hrun:(execOp a.eval o).run P w = .ok (.value (.slice ao 0 0)) w:=by
               rw[hex,hve,hyv,hrun0]
               cases ao<;>simp[storeCells]
             obtain⟨R1,E1⟩:=hg.kill hgb
             obtain⟨R2,E2⟩:=R1.nothing (N:=H.length) (by simp only[one,if_neg hbN.symm]; exact hN)
             refine OpDo.value hrun ⟨_,?_,?_,fun m=>(E1 m).trans (E2 m)⟩
             · simpa using R2
             · exact .slc _ _ _ _ _ _ (by simp[rho1]) ⟨ao,0,rfl,Nat.le_refl _,Nat.le_refl _,by simp⟩ (fun _=>⟨ao,rfl,rfl,rfl⟩) (by simp[rho1])
           · rcases hg.live b bs hgb with ⟨hvd,_⟩|⟨B,F,c,e',lo,hi,hl,hc,hsz,hfz,hli⟩
             · obtain⟨ao',q1,_,_⟩:=hvo2 hvd
               cases q1;exact absurd rfl hc0
             · obtain⟨ao',cap2,q1,q2,q3,q4,q5⟩:=hh B F hl
               cases q3
               have:=q4 hc0
               subst this
               rw[rows_here hc] at q5
               have hmul:(len+n)*j.size≤cap'*j.size:=Nat.mul_le_mul_right _ hcap
               have hmul2:(len+n)*j.size=len*j.size+n*j.size:=Nat.add_mul _ _ _
               obtain⟨w',hrs,hw⟩:=run_storeCells' (P:=P) (X:=F+of+len*j.size) vs 0 c w hc (by omega) (fun i h1 h2=>hfz i (by omega) h2) hvo
               have hrun:(execOp a.eval o).run P w = .ok (.value (.slice (some ⟨B,F+of,none⟩) (len+n) cap')) w':=by
                 rw[hex,hve,hyv,hrun0]
                 simp only[add_at,hrs,Result.andThen_ok]
               have hcs:(spliceL c.toList (F+of+len*j.size+0) vs).toArray.size=c.size:=by
                 have:=splice_length c.toList (F+of+len*j.size+0) vs (by simp;omega)
                 simpa using this
               have hlies:Lies ρ w ((bs.drop of).take (len*j.size)++cs) (F+of) (spliceL c.toList (F+of+len*j.size+0) vs).toArray:=by
                 intro i b' hi
                 have hg2:=splice_get c.toList (F+of+len*j.size+0) vs (by simp;omega) (F+of+i)
                 simp only[List.getElem?_toArray]
                 rw[hg2]
                 by_cases hil:i<len*j.size
                 · rw[List.getElem?_append_left (by omega)] at hi
                   rw[if_pos (by omega)]
                   obtain⟨v,p,q,r⟩:=(Lies.sub (show Lies ρ w bs F c from hli) of (len*j.size)) i b' hi
                   exact⟨v,by simpa using p,q,r⟩
                 · rw[List.getElem?_append_right (by omega),hsl] at hi
                   have hin:i - len*j.size<cs.length:=(List.getElem?_eq_some_iff.1 hi).1
                   rw[if_neg (by omega),if_pos (by omega)]
                   obtain⟨v,p,q,r⟩:=hvli _ b' hi
                   refine⟨v,?_,q,r⟩
                   rw[show F+of+i - (F+of+len*j.size+0)=0+(i - len*j.size) by omega]
                   simpa using p
               obtain⟨R2,E2⟩:=hg.move (X:=F+of) hgb hN hl hc (fun i h1 h2=>hfz i (by omega) h2) hw hcs (by simp only[List.length_append]; omega) hlies
               refine OpDo.value hrun ⟨_,R2,?_,E2⟩
               refine .slc _ _ _ _ _ _ (by simp[rho1]) ⟨_,cap',rfl,hcap,hcap,fun _=>⟨_,_,rfl⟩⟩ (by simp[rho1]) ?_
               intro B2 F2 hl2
               simp[rho1] at hl2
               obtain⟨rfl,rfl⟩:=hl2
               refine⟨_,cap',hcap,hcap,rfl,fun _=>rfl,?_⟩
               rw[rows_here hw.here,hcs]
               omega
         ·
           obtain⟨N,d,hNn,hrun⟩:=run_append_new0 (ty:=o.type) (cs := #[x,y].map fun | .const _=>true|_=>false) T (ao:=ao) (kd:=kd) (len:=len) (cap:=cap') hvs hur hcap hroom
           have hsz:(us.toArray++vs.toArray++Builtin.zeroCells z.cells (N - (len+n))).size=N*j.size:=by
             simp only[List.append_toArray,Array.size_append,List.size_toArray,List.length_append,zeros_size,T.zs,hvl,hul]
             rw[←Nat.add_mul,←Nat.add_mul]; congr 1;omega
           obtain⟨R1,E1⟩:=hg.kill hgb
           have hc:Lies (rho1 ρ b .dead) w ((bs.drop of).take (len*j.size)++cs) 0 (us.toArray++vs.toArray++Builtin.zeroCells z.cells (N - (len+n))):=lies_bound E1 (lies_append (by omega) huli hvli)
           have hN1:one g b .dead H.length=none:=by simp only[one,if_neg hbN.symm]; exact hN
           have R:=(R1.alloc hN1 (e:=e) (by rw[hsz,List.length_append,hsl,hcl,←Nat.add_mul]; exact Nat.mul_le_mul_right _ hNn) hc).drew d
           have E2:∀ n',Ext n' (rho1 ρ b .dead) w (rho1 (rho1 ρ b .dead) H.length (.live w.heap.size 0)) { w with heap:=w.heap.push (.cells (us.toArray++vs.toArray++Builtin.zeroCells z.cells (N - (len+n))) e) } :=
             alloc_ext R1 hN1 _ _ (by intro B F h;cases h;rfl)
           refine OpDo.value (by rw[hex,hve,hyv]; exact hrun) ⟨_,R,?_,fun n'=>((E1 n').trans (E2 n')).trans (drew_ext _ _ d n')⟩
           refine .slc _ _ _ _ _ _ (by simp[rho1]) ⟨_,N,rfl,hNn,hNn,fun _=>⟨_,_,rfl⟩⟩ (by simp[rho1]) ?_
           intro B F hl
           simp[rho1] at hl
           obtain⟨rfl,rfl⟩:=hl
           refine⟨_,N,hNn,hNn,rfl,fun _=>rfl,?_⟩
           have hrows:rows { w with heap:=w.heap.push (.cells (us.toArray++vs.toArray++Builtin.zeroCells z.cells (N - (len+n))) e),drawn:=d } w.heap.size=N*j.size:=by
             rw[←hsz]; exact rows_here (by simp;exact⟨rfl,rfl⟩)
           rw[hrows]; omega
     | _=>exact(good.fail h).elim
    | _ =>
      cases xa with
      | ros cells off len cap exact=>cases len<;>cases cap<;>cases exact<;>exact(good.fail h).elim
      | _=>exact(good.fail h).elim
  · cases xa with
    | ros cells off len cap exact=>cases len<;>cases cap<;>cases exact<;>cases ya<;>exact(good.fail h).elim
    | slc b o n c s=>cases ya<;>exact(good.fail h).elim
    | nils=>cases ya<;>exact(good.fail h).elim
    | _=>exact(good.fail h).elim
theorem s_capN{x:Operand}{t e:TypeId}(ho:o.op = .call { callee := .builtin .cap,args := #[x],argTypes := #[t] })(ht:P.underlying t=some (.slice e))
  (h:holds (ex A ops0 cf H .capN avs k)):Does P o [x] avs H fun r H' t f=>holds (k r H' t f):=by
 have slice:∀ (a:Act) (w:World) ao n c,a.eval x = .slice ao n c→(execOp a.eval o).run P w = .ok (.value (.int .i64 (c:Int))) w:=by
  intro a w ao n c hve
  rw[run_builtin ho]
  simp[builtin,Builtin.cap_,run_underlying ht,hve,goInt]
 rcases avs with _|⟨xa,_|⟨_,_⟩⟩
 ·exact(good.fail h).elim
 ·cases xa with
  | nils=>exact⟨_,_,_,_,h,quiet1 fun ρ w a g hv _ _=>⟨_,slice a w _ _ _ (inv_nils hv),.int _ _⟩⟩
  | ros cs off len cap exact =>
   cases exact with
   | false=>exact(good.fail h).elim
   | true =>
    refine⟨_,_,_,_,h,quiet1 fun ρ w a g hv _ _ => ?_⟩
    generalize hve:a.eval x=ve at hv
    cases hv with
    | ros _ _ _ _ _ B F ao cap' vs hlt hp hl ho' hc hr hcap hlen he ha =>
     have:=he rfl
     subst this
     exact⟨_,slice a w _ _ _ hve,.int _ _⟩
  | _=>exact(good.fail h).elim
 ·cases xa with
  | ros cs off len cap exact=>cases exact<;>exact(good.fail h).elim
  | _=>exact(good.fail h).elim
end
end Go.Vm

namespace Go.Vm
set_option maxRecDepth 100000
def kdOf:TypeDesc→Kd
 | .int k => .int k
 | .bool => .bool
 | .string => .str
 | .slice _ => .slc
 | .float k => .flt k
 | _ => .any
def intsOf(P:Program)(t:TypeId):Option (IntKind × Nat) :=
 match P.underlying t with
 | some (.array n e)=>match P.underlying e,P.info? e with
  | some (.int kd),some i=>if i.size=1 then some (kd,n) else none
  | _,_=>none
 | _=>none
def partOf(P:Program)(t:TypeId):Option (IntKind × Nat) :=
 match P.underlying t with
 | some (.int kd)=>some (kd,1)
 | _=>match intsOf P t,P.info? t with
  | some (kd,n),some j=>if j.size=n then some (kd,n) else none
  | _,_=>none
def segsOf(P:Program):List Field→Option (List (Nat × IntKind × Nat))
 | []=>some []
 | f::fs=>match partOf P f.type,segsOf P fs with
  | some (kd,n),some segs=>if f.name = "_" then none else some ((f.offset,kd,n)::segs)
  | _,_=>none
def rowOf(P:Program)(t:TypeId):Option (Nat × List (Nat × IntKind × Nat)) :=
 match P.underlying t,P.info? t with
 | some (.array _ _),_=>match intsOf P t with
  | some (kd,n)=>some (n,[(0,kd,n)])
  | none=>none
 | some (.struct fs),some i=>if P.stoodInHeld t=false then match segsOf P fs.toList with
   | some segs=>some (i.size,segs)
   | none=>none
  else none
 | _,_=>none
theorem intsOf_ok{P:Program}{t:TypeId}{kd:IntKind}{n:Nat}(h:intsOf P t=some (kd,n)):∃ e i,P.underlying t=some (.array n e)∧P.underlying e=some (.int kd)∧P.info? e=some i∧i.size=1:=by
 unfold intsOf at h
 split at h
 ·rename_i m e he
  split at h
  ·rename_i k i hk hi
   split at h
   ·rename_i h1
    cases h
    exact⟨e,i,he,hk,hi,h1⟩
   ·cases h
  ·cases h
 ·cases h
theorem partOf_ok{P:Program}{t:TypeId}{kd:IntKind}{n:Nat}(h:partOf P t=some (kd,n)):IntsT P t kd n:=by
 unfold partOf at h
 split at h
 ·rename_i k hk;cases h;exact .inl ⟨hk,rfl⟩
 ·split at h
  ·rename_i k m j h1 h2
   split at h
   ·rename_i hs
    cases h
    obtain⟨e,i,a,b,c,d⟩:=intsOf_ok h1
    exact .inr ⟨e,i,j,a,b,c,d,h2,hs⟩
   ·cases h
  ·cases h
theorem segsOf_ok{P:Program}{fs:List Field}{segs:List (Nat × IntKind × Nat)}(h:segsOf P fs=some segs):Segs P fs segs:=by
 induction fs generalizing segs with
 | nil=>cases h;exact .nil
 | cons f fs ih =>
  unfold segsOf at h
  split at h
  ·rename_i kd n sg h1 h2
   split at h
   ·cases h
   ·rename_i hn
    cases h
    exact .cons f fs kd n sg hn (partOf_ok h1) (ih h2)
  ·cases h
theorem rowOf_ok{P:Program}{t:TypeId}{n:Nat}{segs:List (Nat × IntKind × Nat)}(h:rowOf P t=some (n,segs)):RowT P t n segs:=by
 unfold rowOf at h
 split at h
 ·split at h
  ·rename_i kd m hi
   cases h
   obtain⟨e,i,a,b,c,d⟩:=intsOf_ok hi
   exact .arr t e kd n i a b c d
  ·cases h
 ·rename_i fs i ht _
  split at h
  ·rename_i hp
   split at h
   ·rename_i sg hs
    cases h
    exact .str t fs _ _ ht hp (segsOf_ok hs)
   ·cases h
  ·cases h
 ·cases h
def binOf(op:BinOp)(kd:IntKind):Option VOp :=
 match op with
 | .add | .sub | .mul | .and | .or | .xor | .andNot=>some (.bin op kd)
 | .quo | .rem=>some (.div op kd)
 | .shl | .shr=>some (.shf op kd)
 | .eql | .neq | .lss | .leq | .gtr | .geq=>some (.cmp op)
def flOf(op:BinOp)(kd:FloatKind):Option VOp :=
 match op with
 | .add | .sub | .mul | .quo=>some (.fbin op kd)
 | .eql | .neq | .lss | .leq | .gtr | .geq=>some (.fcmp op kd)
 | _=>none
def negOf(op:BinOp):Option Bool :=
 match op with
 | .eql=>some false
 | .neq=>some true
 | _=>none
def extOf(P:Program)(f:Nat):Option Bool :=
 match P.funcs[f]? with
 | some fn=>match fn.body.isNone with
  | true=>if(fn.name == "runtime.NumGoroutine")=false then
    if fn.name = "math.Float64bits" ∧ fn.origin = "" then some true
    else if fn.name = "math.Float64frombits" ∧ fn.origin = "" then some false else none
   else none
  | false=>none
 | none=>none
theorem find_bits(fn:Func)(h1:fn.name = "math.Float64bits")(h2:fn.origin = ""):Extern.findNext fn=none∧Extern.find fn=some Extern.MathFloatBits.float64bits:=by
 unfold Extern.findNext Extern.find
 simp only[h1,h2]
 exact⟨by kernel_rfl,by kernel_rfl⟩
theorem find_from(fn:Func)(h1:fn.name = "math.Float64frombits")(h2:fn.origin = ""):Extern.findNext fn=none∧Extern.find fn=some Extern.MathFloatBits.float64frombits:=by
 unfold Extern.findNext Extern.find
 simp only[h1,h2]
 exact⟨by kernel_rfl,by kernel_rfl⟩
theorem extOf_ok{P:Program}{f:Nat}{b:Bool}(h:extOf P f=some b):∃ fn,P.funcs[f]? = some fn∧(fn.name == "runtime.NumGoroutine")=false∧fn.body.isNone=true∧Extern.findNext fn=none ∧
  Extern.find fn=some (match b with|true=>Extern.MathFloatBits.float64bits|false=>Extern.MathFloatBits.float64frombits):=by
 unfold extOf at h
 split at h
 ·rename_i fn hf
  split at h
  ·rename_i hb
   split at h
   ·rename_i hn
    split at h
    ·rename_i hx
     cases h
     exact⟨fn,hf,hn,hb,(find_bits fn hx.1 hx.2).1,(find_bits fn hx.1 hx.2).2⟩
    ·split at h
     ·rename_i hx
      cases h
      exact⟨fn,hf,hn,hb,(find_from fn hx.1 hx.2).1,(find_from fn hx.1 hx.2).2⟩
     ·cases h
   ·cases h
  ·cases h
 ·cases h
def callOf(P:Program)(c:Call):Option (VOp × List Operand) :=
 match c.callee,c.args.toList,c.argTypes.toList with
 | .builtin .len,[x],[t]=>match P.underlying t with
  | some (.slice _)=>some (.len,[x])
  | some .string=>some (.lenT,[x])
  | some (.array n _)=>some (.lenA n,[x])
  | _=>none
 | .builtin .cap,[x],[t]=>match P.underlying t with
  | some (.slice _)=>some (.capN,[x])
  | _=>none
 | .builtin .append,[x,y],[t,u]=>match P.underlying t,P.underlying u with
  | some (.slice e),some d=>match P.info? e with
   | some j=>match j.zero with
    | some z=>if z.cells.size=j.size then match d with
      | .slice _=>some (.app j.size j.bytes,[x,y])
      | .string=>some (.app j.size j.bytes,[x,y])
      | .int _=>match toAVs z.cells.toList with
       | some zl=>some (.app0 j.size j.bytes zl,[x,y])
       | none=>none
      | _=>none
     else none
    | none=>none
   | none=>none
  | _,_=>none
 | .builtin .copy,[x,y],[t,_]=>match P.underlying t with
  | some (.slice e)=>match P.info? e with
   | some j=>some (.cpy j.size,[x,y])
   | none=>none
  | _=>none
 | .builtin .min,[x,y],_=>some (.mnx false,[x,y])
 | .builtin .max,[x,y],_=>some (.mnx true,[x,y])
 | .value (.func f),[x],_=>match extOf P f with
  | some true=>some (.f2b,[x])
  | some false=>some (.b2f,[x])
  | none=>some (.call f,[x])
 | .value (.func f),xs,_=>some (.call f,xs)
 | .value x,xs,_=>some (.callv,x::xs)
 | _,_,_=>none
def copOf(P:Program):Op→Option (VOp × List Operand)
 | .move x=>some (.mov,[x])
 | .assign x=>some (.mov,[x])
 | .pick c x y=>some (.pick,[c,x,y])
 | .alloc e=>match P.info? e with
  | some i=>match i.zero with
   | some z=>match toAVs z.cells.toList with
    | some zs=>some (.alloc zs,[])
    | none=>none
   | none=>none
  | none=>none
 | .box _ x=>some (.box,[x])
 | .load t x=>match P.underlying t,P.info? t with
  | some d,some i=>match isAggD d with
   | true=>some (.ldn i.size,[x])
   | false=>some (.ld1 (kdOf d),[x])
  | _,_=>none
 | .store t x y=>match P.underlying t,P.info? t with
  | some d,some i=>match isAggD d with
   | true=>some (.stn i.size,[x,y])
   | false=>if i.size=1 then some (.st1,[x,y]) else none
  | _,_=>none
 | .nilCheck x=>some (.nilc,[x])
 | .binOp op t x y _=>match P.underlying t with
  | some (.int kd)=>match binOf op kd with
   | some v=>some (v,[x,y])
   | none=>none
  | some (.float kd)=>match flOf op kd with
   | some v=>some (v,[x,y])
   | none=>none
  | some .string=>match negOf op with
   | some b=>some (.scmp b,[x,y])
   | none=>none
  | some .bool=>match negOf op with
   | some b=>some (.bcmp b,[x,y])
   | none=>none
  | _=>match negOf op,rowOf P t with
   | some b,some (n,segs)=>if P.eqGuardType P.depth t=false then some (.acmp b n segs,[x,y]) else none
   | _,_=>none
 | .unOp u t x=>match u,P.underlying t with
  | .not,_=>some (.not,[x])
  | .neg,some (.int kd)=>some (.bin .sub kd,[.const (.int kd 0),x])
  | .xor,some (.int kd)=>some (.bin .xor kd,[.const (.int kd (onesOf kd)),x])
  | _,_=>none
 | .index t x y=>match P.underlying t with
  | some (.array n e)=>match P.underlying e,P.info? e with
   | some d,some i=>match isAggD d with
    | true=>none
    | false=>if i.size=1 then some (.ixV n (kdOf d),[x,y]) else none
   | _,_=>none
  | some .string=>some (.ixT,[x,y])
  | _=>none
 | .convert s t x=>match P.underlying s,P.underlying t with
  | some _,some (.int kd)=>some (.cvt kd,[x])
  | some (.int _),some (.float kd)=>some (.i2f kd,[x])
  | some (.float k1),some (.float k2)=>if k1=k2 then some (.fmov k2,[x]) else none
  | some .string,some (.slice e)=>match P.underlying e with
   | some (.int .u8)=>some (.s2b,[x])
   | _=>none
  | some (.slice e),some .string=>match P.underlying e with
   | some (.int .u8)=>some (.b2s,[x])
   | _=>none
  | some (.slice _),some (.slice e)=>if s=t then match P.underlying e with
    | some (.int .u8)=>some (.frz,[x])
    | _=>none
   else none
  | _,_=>none
 | .sliceToArrayPointer t x=>match P.underlying t with
  | some (.array n _)=>if n≠0 then some (.s2a n,[x]) else none
  | _=>none
 | .makeInterface t x=>match P.underlying t with
  | some (.interface _)=>none
  | some _=>some (.mkif t,[x])
  | none=>none
 | .makeFunc (.func f) xs ys=>some (.mkfn f xs.size,xs.toList++ys.toList)
 | .makeSlice t x y=>match P.underlying t with
  | some (.slice e)=>match P.info? e with
   | some j=>match j.zero with
    | some z=>match toAVs z.cells.toList with
     | some zs=>if z.cells.size=j.size then some (.mksl zs j.bytes,[x,y]) else none
     | none=>none
    | none=>none
   | none=>none
  | _=>none
 | .slice t x lo hi mx=>match P.underlying t with
  | some (.slice e)=>match P.info? e with
   | some i=>some (.slS i.size lo.isSome hi.isSome mx.isSome,slOps x lo hi mx)
   | none=>none
  | some (.array n e)=>match P.info? e,mx with
   | some i,none=>some (.slA n i.size lo.isSome hi.isSome,slOps x lo hi none)
   | _,_=>none
  | _=>none
 | .fieldAddr s x f=>match P.underlying s with
  | some (.struct fs)=>match fs[f]? with
   | some fd=>match P.info? fd.type with
    | some i=>if i.size≠0 then some (.fld fd.offset,[x]) else none
    | none=>none
   | none=>none
  | _=>none
 | .field s x f=>match P.underlying s with
  | some (.struct fs)=>match fs[f]? with
   | some fd=>match P.underlying fd.type,P.info? fd.type with
    | some d,some i=>match isAggD d with
     | true=>some (.fldn fd.offset i.size,[x])
     | false=>some (.fldv fd.offset (kdOf d),[x])
    | _,_=>none
   | none=>none
  | _=>none
 | .indexAddr t x y=>match P.underlying t with
  | some (.array n e)=>match P.info? e with
   | some i=>some (.ixA n i.size,[x,y])
   | none=>none
  | some (.slice e)=>match P.info? e with
   | some i=>some (.ixS i.size,[x,y])
   | none=>none
  | _=>none
 | .build t parts=>match P.underlying t,P.info? t with
  | some (.struct fs),some i=>match i.zero with
   | some z=>match toAVs z.cells.toList,placesOf (fieldPl P fs) (parts.toList.map (·.1)) with
    | some zs,some pl=>if(fs.toList.all fun f=>(P.info? f.type).isSome)=true then some (.mk zs pl,parts.toList.map (·.2)) else none
    | _,_=>none
   | none=>none
  | some (.array _ e),some i=>match i.zero,P.info? e with
   | some z,some j=>match toAVs z.cells.toList,placesOf (fun i=>some (i*j.size,j.size)) (parts.toList.map (·.1)) with
    | some zs,some pl=>some (.mk zs pl,parts.toList.map (·.2))
    | _,_=>none
   | _,_=>none
  | _,_=>none
 | .buildSlice t len parts=>match P.underlying t with
  | some (.slice e)=>match P.info? e with
   | some j=>if len*j.size≤2 ^ 24 then match j.zero with
     | some z=>match toAVs ((Array.range (len*j.size)).map ((if len*j.size=0 then #[] else z.cells)[·% (if len*j.size=0 then(#[]:Array Value) else z.cells).size]!)).toList,placesOf (fun i=>some (i*j.size,j.size)) (parts.toList.map (·.1)) with
      | some zs,some pl=>match P.underlying e,Nat.ble 2 parts.size with
       | some (.int .u8),true=>some (.mko zs len j.size pl,parts.toList.map (·.2))
       | _,_=>some (.mks zs len pl,parts.toList.map (·.2))
      | _,_=>none
     | none=>none
    else none
   | none=>none
  | _=>none
 | .extract x i=>some (.ext i,[x])
 | .makeMap t none=>match P.underlying t with
  | some (.map k _)=>match P.underlying k with
   | some (.int kd)=>some (.mkset kd,[])
   | _=>none
  | _=>none
 | .lookup t x y false=>match P.underlying t with
  | some (.map k e)=>match P.underlying k,P.info? e with
   | some (.int kd),some i=>match i.zero with
    | some (.bool false)=>some (.look kd,[x,y])
    | _=>none
   | _,_=>none
  | _=>none
 | .mapUpdate t m x y=>match P.underlying t with
  | some (.map k _)=>match P.underlying k with
   | some (.int kd)=>some (.upd kd,[m,x,y])
   | _=>none
  | _=>none
 | .call c=>callOf P c
 | _=>none
section
variable {R:Type}{A:Alg R}{holds:R→Prop}(good:A.Good holds){P:Program}{o:Oper}{avs:List AV}{H:Hl}{cf:CallF R}{k:ExK R}(hcf:CallOK P holds cf)
include good hcf
theorem call_sound{c:Call}(ho:o.op = .call c){vo:VOp}{xs:List Operand}(hc:callOf P c=some (vo,xs))(h:holds (ex A ops0 cf H vo avs k)) :
  DoesX P o (isCall vo) xs avs H fun r H' t f=>holds (k r H' t f):=by
 obtain⟨ca,args,types⟩:=c
 obtain⟨args⟩:=args
 obtain⟨types⟩:=types
 simp only[callOf] at hc
 split at hc
 ·rename_i x t
  split at hc<;>first|cases hc|skip
  ·rename_i e he;exact(s_len good ho he h).x
  ·rename_i he;exact(s_lenT good ho he h).x
  ·rename_i n e he;exact(s_lenA ho he h good).x
 ·rename_i x t
  split at hc<;>cases hc
  rename_i e he
  exact(s_capN good ho he h).x
 ·rename_i x y t u
  split at hc<;>first|cases hc|skip
  rename_i e d he hd
  split at hc<;>first|cases hc|skip
  rename_i j hj
  split at hc<;>first|cases hc|skip
  rename_i z hz
  split at hc<;>first|cases hc|skip
  rename_i hs
  split at hc<;>first|cases hc|skip
  ·rename_i e';exact(s_app good ho ⟨he,hj,hz,hs,.inl ⟨e',hd⟩⟩ h).x
  ·exact(s_app good ho ⟨he,hj,hz,hs,.inr hd⟩ h).x
  ·split at hc<;>first|cases hc|skip
   rename_i zl hzl
   exact(s_app0 good ho ⟨he,hj,hz,hs,⟨_,hd⟩,hzl⟩ h).x
 ·rename_i x y t u
  split at hc<;>first|cases hc|skip
  rename_i e he
  split at hc<;>first|cases hc|skip
  rename_i j hj
  exact(s_cpy good ho he hj h).x
 ·cases hc;exact(s_mnx good (mx:=false) ho h).x
 ·cases hc;exact(s_mnx good (mx:=true) ho h).x
 ·rename_i f x
  split at hc<;>cases hc
  ·rename_i he
   obtain⟨fn,h1,h2,h3,h4,h5⟩:=extOf_ok he
   exact(s_f2b good ho h1 h2 h3 h4 h5 h).x
  ·rename_i he
   obtain⟨fn,h1,h2,h3,h4,h5⟩:=extOf_ok he
   exact(s_b2f good ho h1 h2 h3 h4 h5 h).x
  ·exact s_call hcf ho h
 ·cases hc;exact s_call hcf ho h
 ·cases hc;exact s_callv good hcf ho h
 ·cases hc
theorem ex_sound{vo:VOp}{xs:List Operand}(hc:copOf P o.op=some (vo,xs))(h:holds (ex A ops0 cf H vo avs k)) :
  DoesX P o (isCall vo) xs avs H fun r H' t f=>holds (k r H' t f):=by
 generalize hop:o.op=op at hc
 cases op with
 | move x=>cases hc;exact(s_mov good (.inl hop) h).x
 | assign x=>cases hc;exact(s_mov good (.inr hop) h).x
 | pick c x y=>cases hc;exact(s_pick good hop h).x
 | alloc e =>
  simp only[copOf] at hc
  split at hc<;>first|cases hc|skip
  rename_i i hi
  split at hc<;>first|cases hc|skip
  rename_i z hz
  split at hc<;>first|cases hc|skip
  rename_i zs hs
  exact(s_alloc good hop hi hz hs h).x
 | box e x=>cases hc;exact(s_box good hop h).x
 | load t x =>
  simp only[copOf] at hc
  split at hc<;>first|cases hc|skip
  rename_i d i hd hi
  split at hc<;>first|cases hc|skip
  ·rename_i ha;exact(s_ldn good hop hd ha hi h).x
  ·rename_i ha;exact(s_ld1 good hop hd ha h).x
 | store t x y =>
  simp only[copOf] at hc
  split at hc<;>first|cases hc|skip
  rename_i d i hd hi
  split at hc<;>first|cases hc|skip
  ·exact(s_stn good hop hi h).x
  ·split at hc<;>first|cases hc|skip
   rename_i h1
   exact(s_st1 good hop hi h1 h).x
 | nilCheck x=>cases hc;exact(s_nilc good hop h).x
 | binOp op t x y yt =>
  simp only[copOf] at hc
  split at hc
  ·rename_i kd ht
   split at hc<;>first|cases hc|skip
   rename_i v hv
   unfold binOf at hv
   split at hv<;>cases hv<;>first
    | exact(s_bin good hop (by simp) h).x
    | exact(s_div good hop (by simp) h).x
    | exact(s_shf good hop (by simp) h).x
    | exact(s_cmp good hop (by simp) h).x
  ·rename_i kd ht
   split at hc<;>first|cases hc|skip
   rename_i v hv
   unfold flOf at hv
   split at hv<;>cases hv<;>first
    | exact(s_fbin good hop h).x
    | exact(s_fcmp good hop (by simp) h).x
  ·rename_i ht
   split at hc<;>first|cases hc|skip
   rename_i b hb
   unfold negOf at hb
   split at hb<;>cases hb
   ·exact(s_scmp good (neg:=false) hop h).x
   ·exact(s_scmp good (neg:=true) hop h).x
  ·rename_i ht
   split at hc<;>first|cases hc|skip
   rename_i b hb
   unfold negOf at hb
   split at hb<;>cases hb
   ·exact(s_bcmp good (neg:=false) hop ht h).x
   ·exact(s_bcmp good (neg:=true) hop ht h).x
  ·split at hc<;>first|cases hc|skip
   rename_i b n segs hb hr
   split at hc<;>first|cases hc|skip
   rename_i hg
   unfold negOf at hb
   split at hb<;>cases hb
   ·exact(s_acmp good (neg:=false) hop (rowOf_ok hr) hg h).x
   ·exact(s_acmp good (neg:=true) hop (rowOf_ok hr) hg h).x
 | unOp u t x =>
  simp only[copOf] at hc
  split at hc<;>first|cases hc|skip
  ·exact(s_not good hop h).x
  ·exact(s_neg good hop h).x
  ·exact(s_com good hop h).x
 | index t x y =>
  simp only[copOf] at hc
  split at hc<;>first|cases hc|skip
  ·rename_i n e ht
   split at hc<;>first|cases hc|skip
   rename_i d i hd hi
   split at hc<;>first|cases hc|skip
   rename_i ha
   split at hc<;>first|cases hc|skip
   rename_i h1
   exact(s_ixV good hop ht hd ha hi h1 h).x
  ·rename_i ht
   exact(s_ixT good hop ht h).x
 | convert s t x =>
  simp only[copOf] at hc
  split at hc
  ·rename_i d kd hs ht;cases hc;exact(s_cvt good hop hs ht h).x
  ·rename_i k1 kd hs ht;cases hc;exact(s_i2f good hop hs ht h).x
  ·rename_i k1 k2 hs ht
   split at hc<;>first|cases hc|skip
   rename_i e
   subst e
   exact(s_fmov good hop hs ht h).x
  ·rename_i e hs ht
   split at hc<;>first|cases hc|skip
   rename_i he
   exact(s_s2b good hop hs ht he h).x
  ·rename_i e hs ht
   split at hc<;>first|cases hc|skip
   rename_i he
   exact(s_b2s good hop hs he ht h).x
  ·rename_i e1 e hs ht
   split at hc<;>first|cases hc|skip
   rename_i e2
   subst e2
   split at hc<;>first|cases hc|skip
   rename_i he
   exact(s_frz good hop ht he h).x
  ·cases hc
 | sliceToArrayPointer t x =>
  simp only[copOf] at hc
  split at hc<;>first|cases hc|skip
  rename_i n e ht
  split at hc<;>first|cases hc|skip
  rename_i hn
  exact(s_s2a good hop ht hn h).x
 | makeInterface t x =>
  simp only[copOf] at hc
  split at hc<;>first|cases hc|skip
  rename_i d hd ht
  exact(s_mkif good hop ht (fun ms e=>hd ms e) h).x
 | makeFunc f xs ys =>
  cases f<;>first|cases hc|skip
  exact(s_mkfn hop h).x
 | makeSlice t x y =>
  simp only[copOf] at hc
  split at hc<;>first|cases hc|skip
  rename_i e he
  split at hc<;>first|cases hc|skip
  rename_i j hj
  split at hc<;>first|cases hc|skip
  rename_i z hz
  split at hc<;>first|cases hc|skip
  rename_i zs hs
  split at hc<;>first|cases hc|skip
  rename_i hsz
  exact(s_mksl good hop he hj hz hs hsz h).x
 | slice t x lo hi mx =>
  simp only[copOf] at hc
  split at hc
  ·rename_i e he
   split at hc<;>first|cases hc|skip
   rename_i i hi'
   exact(s_slS good hop he hi' h).x
  ·rename_i n e he
   split at hc<;>first|cases hc|skip
   rename_i i hi'
   exact(s_slA good hop he hi' h).x
  ·cases hc
 | fieldAddr s x f =>
  simp only[copOf] at hc
  split at hc<;>first|cases hc|skip
  rename_i fs hs
  split at hc<;>first|cases hc|skip
  rename_i fd hf
  split at hc<;>first|cases hc|skip
  rename_i i hi
  split at hc<;>first|cases hc|skip
  rename_i h0
  exact(s_fld good hop hs hf hi h0 h).x
 | field s x f =>
  simp only[copOf] at hc
  split at hc<;>first|cases hc|skip
  rename_i fs hs
  split at hc<;>first|cases hc|skip
  rename_i fd hf
  split at hc<;>first|cases hc|skip
  rename_i d i hd hi
  split at hc<;>first|cases hc|skip
  ·rename_i ha;exact(s_fldn good hop hs hf hd ha hi h).x
  ·rename_i ha;exact(s_fldv good hop hs hf hd ha h).x
 | indexAddr t x y =>
  simp only[copOf] at hc
  split at hc
  ·rename_i n e he
   split at hc<;>first|cases hc|skip
   rename_i i hi
   exact(s_ixA good hop he hi h).x
  ·rename_i e he
   split at hc<;>first|cases hc|skip
   rename_i i hi
   exact(s_ixS good hop he hi h).x
  ·cases hc
 | build t parts =>
  simp only[copOf] at hc
  split at hc
  ·rename_i fs i ht hi
   split at hc<;>first|cases hc|skip
   rename_i z hz
   split at hc<;>first|cases hc|skip
   rename_i zs pl hs hp
   split at hc<;>first|cases hc|skip
   rename_i hall
   exact(s_mkS good hop ht hi hz hs (fun f hf=>Option.isSome_iff_exists.1 (List.all_eq_true.1 hall f hf)) hp h).x
  ·rename_i n e i ht hi
   split at hc<;>first|cases hc|skip
   rename_i z j hz hj
   split at hc<;>first|cases hc|skip
   rename_i zs pl hs hp
   exact(s_mkA good hop ht hi hz hs hj hp h).x
  ·cases hc
 | buildSlice t len parts =>
  simp only[copOf] at hc
  split at hc<;>first|cases hc|skip
  rename_i e he
  split at hc<;>first|cases hc|skip
  rename_i j hj
  split at hc<;>first|cases hc|skip
  rename_i hsm
  split at hc<;>first|cases hc|skip
  rename_i z hz
  split at hc<;>first|cases hc|skip
  rename_i zs pl hs hp
  split at hc<;>cases hc
  ·exact(s_mko good hop he hj hsm hz _ rfl hs hp h).x
  ·exact(s_mks good hop he hj hsm hz _ rfl hs hp h).x
 | extract x i=>cases hc;exact(s_ext good hop h).x
 | makeMap t r =>
  cases r with
  | some r=>cases hc
  | none =>
   simp only[copOf] at hc
   split at hc<;>first|cases hc|skip
   split at hc<;>cases hc
   exact(s_mkset good hop h).x
 | lookup t x y b =>
  cases b with
  | true=>cases hc
  | false =>
   simp only[copOf] at hc
   split at hc<;>first|cases hc|skip
   rename_i k e ht
   split at hc<;>first|cases hc|skip
   rename_i kd i hk hi
   split at hc<;>cases hc
   rename_i hz
   exact(s_look good hop ht hk hi hz h).x
 | mapUpdate t m x y =>
  simp only[copOf] at hc
  split at hc<;>first|cases hc|skip
  rename_i k e ht
  split at hc<;>cases hc
  rename_i kd hk
  exact(s_upd good hop ht hk h).x
 | call c=>exact call_sound good hcf hop hc h
 | _=>cases hc
end
end Go.Vm

namespace Go.Vm
set_option maxRecDepth 100000
def badO:VO:=⟨none,none,.bad,[]⟩
def voOf(P:Program)(all:Array Oper)(o:Oper):VO :=
 match copOf P o.op with
 | some (vo,xs)=>match argsOf xs with
  | some as=>match o.guard with
   | none=>⟨o.dst,none,vo,as⟩
   | some (g,want)=>match (all[g]?).bind (·.dst) with
    | some d=>⟨o.dst,some (d,want),vo,as⟩
    | none=>badO
  | none=>badO
 | none=>badO
def vosOf(P:Program)(all:Array Oper):List VO:=all.toList.map (voOf P all)
structure GuardOK(all:Array Oper)(o:Oper)(v:VO):Prop where
 dst:v.dst=o.dst
 guard:(o.guard=none∧v.guard=none)∨∃ g want d,o.guard=some (g,want)∧(all[g]?).bind (·.dst)=some d∧v.guard=some (d,want)
theorem voOf_ok(P:Program)(all:Array Oper)(o:Oper):voOf P all o=badO∨(GuardOK all o (voOf P all o)∧∃ xs,copOf P o.op=some ((voOf P all o).op,xs)∧argsOf xs=some (voOf P all o).args):=by
 unfold voOf
 split
 ·rename_i vo xs hc
  split
  ·rename_i as ha
   split
   ·rename_i hg
    exact .inr ⟨⟨rfl,.inl ⟨hg,rfl⟩⟩,xs,hc,ha⟩
   ·rename_i g want hg
    split
    ·rename_i d hd
     exact .inr ⟨⟨rfl,.inr ⟨g,want,d,hg,hd,rfl⟩⟩,xs,hc,ha⟩
    ·exact .inl rfl
  ·exact .inl rfl
 ·exact .inl rfl
def readsA:List Arg→List Nat
 | [] => []
 | .t n::as=>n::readsA as
 | .c _::as=>readsA as
def readsOf(v:VO):List Nat :=
 match v.guard with
 | some (d,_)=>d::readsA v.args
 | none=>readsA v.args
def hasO:Option Nat→List Nat→Bool
 | some d,l=>has d l
 | none,_=>false
def sameO:Option Nat→Option Nat→Bool
 | some d,some e=>Nat.beq d e
 | _,_=>false
def slotClash(u v:VO):Bool:=hasO u.dst (readsOf v) || sameO u.dst v.dst || hasO v.dst (readsOf u)
def slotsOne(bef:List Nat)(i:Nat)(u:VO):Nat→List VO→Bool
 | _,[]=>true
 | j,v::vs=>match slotClash u v with
  | true=>match (slotN bef j).testBit i with
   | true=>slotsOne bef i u (j+1) vs
   | false=>false
  | false=>slotsOne bef i u (j+1) vs
def slotsOK(bef:List Nat):Nat→List VO→Bool
 | _,[]=>true
 | i,u::vs=>match slotsOne bef i u (i+1) vs with
  | true=>slotsOK bef (i+1) vs
  | false=>false
theorem has_iff(n:Nat)(l:List Nat):has n l=true↔n∈l:=by
 induction l with
 | nil=>simp[has]
 | cons x l ih =>
  unfold has
  cases h:Nat.beq x n
  ·have hx:x≠n:=by intro e;subst e;simp[Nat.beq_refl] at h
   simp only[ih,List.mem_cons]
   exact⟨.inr,fun h=>h.resolve_left (fun e=>hx e.symm)⟩
  ·have hx:=Nat.eq_of_beq_eq_true h
   subst hx;simp
theorem meet_iff(l m:List Nat):meet l m=true↔∃ x,x∈l∧x∈m:=by
 induction l with
 | nil=>simp[meet]
 | cons x l ih =>
  unfold meet
  cases h:has x m
  ·have hx:x ∉ m:=fun hm=>by have:=(has_iff x m).2 hm;simp[h] at this
   simp only[ih,List.mem_cons]
   constructor
   ·rintro⟨y,a,b⟩; exact⟨y,.inr a,b⟩
   ·rintro⟨y,a|a,b⟩
    ·subst a;exact absurd b hx
    ·exact⟨y,a,b⟩
  ·have:=(has_iff x m).1 h
   simp only[true_iff]
   exact⟨x,by simp,this⟩
theorem over_iff(n:Nat)(l:List Nat):over n l=true↔∃ x,x∈l∧n≤x:=by
 induction l with
 | nil=>simp[over]
 | cons x l ih =>
  unfold over
  cases h:Nat.blt x n
  ·have hx:n≤x:=by
    rcases Nat.lt_or_ge x n with h'|h'
    ·have:=(blt_iff _ _).2 h';simp[h] at this
    ·exact h'
   simp only[true_iff]
   exact⟨x,by simp,hx⟩
  ·have hx:x<n:=(blt_iff _ _).1 h
   simp only[ih,List.mem_cons]
   constructor
   ·rintro⟨y,a,b⟩; exact⟨y,.inr a,b⟩
   ·rintro⟨y,a|a,b⟩
    ·subst a;omega
    ·exact⟨y,a,b⟩
theorem slotN_eq(l:List Nat)(i:Nat):slotN l i=l[i]?.getD 0:=by
 induction l generalizing i with
 | nil=>simp[slotN]
 | cons x l ih=>cases i<;>simp[slotN,ih]
theorem slotsOne_ok{bef:List Nat}{i:Nat}{u:VO}:∀ {vs:List VO} {j:Nat},slotsOne bef i u j vs=true→∀ k v,vs[k]? = some v→slotClash u v=true→(slotN bef (j+k)).testBit i=true
 | [],_,_,k,v,hv,_=>by simp at hv
 | x::vs,j,h,k,v,hv,hc=>by
  unfold slotsOne at h
  cases k with
  | zero =>
   simp at hv;subst hv
   rw[hc] at h
   simp only at h
   split at h
   ·assumption
   ·cases h
  | succ k =>
   have:slotsOne bef i u (j+1) vs=true:=by
    split at h
    ·split at h
     ·exact h
     ·cases h
    ·exact h
   have:=slotsOne_ok this k v (by simpa using hv) hc
   rw[show j+(k+1)=j+1+k by omega]; exact this
theorem slotsOK_ok{bef:List Nat}:∀ {vs:List VO} {i:Nat},slotsOK bef i vs=true→∀ j k u v,vs[j]? = some u→vs[k]? = some v→j<k→slotClash u v=true→(slotN bef (i+k)).testBit (i+j)=true
 | [],_,_,j,k,u,v,hu,_,_,_=>by simp at hu
 | x::vs,i,h,j,k,u,v,hu,hv,hjk,hc=>by
  unfold slotsOK at h
  split at h
  ·rename_i h1
   cases k with
   | zero=>omega
   | succ k =>
    cases j with
    | zero =>
     simp at hu;subst hu
     have:=slotsOne_ok h1 k v (by simpa using hv) hc
     rw[show i+(k+1)=i+1+k by omega]; exact this
    | succ j =>
     have:=slotsOK_ok h j k u v (by simpa using hu) (by simpa using hv) (by omega) hc
     rw[show i+(k+1)=i+1+k by omega,show i+(j+1)=i+1+j by omega]; exact this
  ·cases h
structure Tr where
 fr:Nat→Fr
 H:Nat→Hl
 r:Nat→AV
 T:Nat→List Nat
 F:Nat→List Nat
 run:Nat→Bool
structure StepAt(P:Program)(all:Array Oper)(o:Oper)(v:VO)(t:Tr)(j:Nat):Prop where
 gd:GuardOK all o v
 fr:t.fr (j+1)=setD (t.fr j) v.dst (t.r j)
 grow:(t.H j).length≤(t.H (j+1)).length
 keep:∀ b,b ∉ t.T j→(t.H (j+1))[b]? = (t.H j)[b]?
 in_:∀ b,b∈t.T j→b<(t.H (j+1)).length
 ran:t.run j=true→guardOf (t.fr j) v.guard = .run∧∃ tch xs,t.T j=tch++news (t.H j).length (t.H (j+1)).length∧copOf P o.op=some (v.op,xs)∧argsOf xs=some v.args ∧
  StepX P o (isCall v.op) xs (evs (t.fr j) v.args) (t.H j) (t.r j) (t.H (j+1)) tch (t.F j) ∧
  (allT (scL (evs (t.fr j) v.args) (t.H j) (t.r j) (t.H (j+1)))=true→StepX P o false xs (evs (t.fr j) v.args) (t.H j) (t.r j) (t.H (j+1)) tch (t.F j))
 passed:t.run j=false→guardOf (t.fr j) v.guard = .pass∧t.r j = .tup []∧t.T j = []∧t.H (j+1)=t.H j
noncomputable def oksOf(v:VO)(t:Tr)(j:Nat):List Bool:=scL (evs (t.fr j) v.args) (t.H j) (t.r j) (t.H (j+1))
noncomputable def recs(vs:Nat→VO)(t:Tr):Nat→List Rec
 | 0 => []
 | n+1=>if t.run n=true then note n (t.T n) (t.F n) (limOf (vs n).op (t.H n).length (oksOf (vs n) t n)) (recs vs t n) else recs vs t n
theorem recs_congr{vs:Nat→VO}{t u:Tr}{n:Nat}(h:∀ j,j<n→t.run j=u.run j∧t.T j=u.T j∧t.F j=u.F j∧t.H j=u.H j∧t.fr j=u.fr j∧t.r j=u.r j∧t.H (j+1)=u.H (j+1)):recs vs t n=recs vs u n:=by
 induction n with
 | zero=>rfl
 | succ n ih =>
  obtain⟨a,b,c,d,e,f,g⟩:=h n (by omega)
  simp only[recs,oksOf,a,b,c,d,e,f,g,ih (fun j hj=>h j (by omega))]
theorem StepAt.congr{P:Program}{all:Array Oper}{o:Oper}{v:VO}{t u:Tr}{j:Nat}(h:StepAt P all o v t j)(h1:u.fr j=t.fr j)(h2:u.fr (j+1)=t.fr (j+1))(h3:u.H j=t.H j)(h4:u.H (j+1)=t.H (j+1))
  (h5:u.r j=t.r j) (h6:u.T j=t.T j) (h7:u.F j=t.F j) (h8:u.run j=t.run j):StepAt P all o v u j:=by
 obtain⟨a0,a,b,c,d,e,f⟩:=h
 rw[←h1,←h2,←h5] at a
 rw[←h3,←h4] at b
 rw[←h3,←h4,←h6] at c
 rw[←h4,←h6] at d
 rw[←h1,←h3,←h4,←h5,←h6,←h7,←h8] at e
 rw[←h1,←h3,←h4,←h5,←h6,←h8] at f
 exact⟨a0,a,b,c,d,e,f⟩
def Tr.ext(t:Tr)(i:Nat)(fr:Fr)(H:Hl)(r:AV)(T F:List Nat)(run:Bool):Tr where
 fr k:=if k=i+1 then fr else t.fr k
 H k:=if k=i+1 then H else t.H k
 r k:=if k=i then r else t.r k
 T k:=if k=i then T else t.T k
 F k:=if k=i then F else t.F k
 run k:=if k=i then run else t.run k
theorem Tr.ext_old{P:Program}{all:Array Oper}{o:Oper}{v:VO}{t:Tr}{i j:Nat}{fr:Fr}{H:Hl}{r:AV}{T F:List Nat}{run:Bool}(hj:j<i)(h:StepAt P all o v t j):StepAt P all o v (t.ext i fr H r T F run) j :=
 h.congr (by simp[Tr.ext]; omega) (by simp[Tr.ext]; omega) (by simp[Tr.ext]; omega) (by simp[Tr.ext]; omega) (by simp[Tr.ext]; omega) (by simp[Tr.ext]; omega) (by simp[Tr.ext]; omega) (by simp[Tr.ext]; omega)
section
variable {R:Type}{A:Alg R}{holds:R→Prop}(good:A.Good holds){P:Program}{cf:CallF R}(hcf:CallOK P holds cf)
include good hcf
theorem vops_sound{k:Fr→Hl→List Nat→List Rec→R}(all:Array Oper)(vf:Nat→VO)(hvf:∀ j o,all[j]? = some o→vf j=voOf P all o)(H0:Hl)(lg0:List Nat) :
    ∀ (os:List Oper) (i:Nat) (t:Tr) (lg:List Nat),(∀ j,os[j]? = all[i+j]?)→(∀ j o,j<i→all[j]? = some o→StepAt P all o (vf j) t j) →
      (∀ b,b∈lg0→b∈lg)→(∀ b,b<H0.length→b ∉ lg→(t.H i)[b]? = H0[b]?)→H0.length≤(t.H i).length →
      holds (vops A ops0 cf i (os.map (voOf P all)) (t.fr i) (t.H i) lg (recs vf t i) k) →
      ∃ t' lg',t'.fr 0=t.fr 0∧t'.H 0=t.H 0∧(∀ j o,j<i+os.length→all[j]? = some o→StepAt P all o (vf j) t' j)∧(∀ b,b∈lg0→b∈lg') ∧
        (∀ b,b<H0.length→b ∉ lg'→(t'.H (i+os.length))[b]? = H0[b]?)∧H0.length≤(t'.H (i+os.length)).length ∧
        holds (k (t'.fr (i+os.length)) (t'.H (i+os.length)) lg' (recs vf t' (i+os.length)))
  | [],i,t,lg,_,hold,hlg,hkeep,hgrow,h=>⟨t,lg,rfl,rfl,by simpa using hold,hlg,by simpa using hkeep,by simpa using hgrow,h⟩
  | o::os,i,t,lg,hos,hold,hlg,hkeep,hgrow,h=>by
    have ho:all[i]? = some o:=by have:=hos 0;simpa using this.symm
    have hv:vf i=voOf P all o:=hvf i o ho
    have hos':∀ j,os[j]? = all[i+1+j]? := fun j=>by
      have:=hos (j+1)
      rw[show i+(j+1)=i+1+j by omega] at this
      simpa using this
    simp only[List.map_cons] at h
    rw[←hv] at h
    have hlen:i+(o::os).length=i+1+os.length:=by simp;omega
    rw[hlen]
    generalize hgd:guardOf (t.fr i) (vf i).guard=gd at *
    have fin:∀ (fr':Fr) (H':Hl) (r:AV) (T F:List Nat) (run:Bool) (lg':List Nat),StepAt P all o (vf i) (t.ext i fr' H' r T F run) i→(∀ b,b∈lg→b∈lg')→(∀ b,b<H0.length→b ∉ lg'→H'[b]? = H0[b]?)→H0.length≤H'.length →
        holds (vops A ops0 cf (i+1) (os.map (voOf P all)) fr' H' lg' (recs vf (t.ext i fr' H' r T F run) (i+1)) k) →
        ∃ t' lg',t'.fr 0=t.fr 0∧t'.H 0=t.H 0∧(∀ j o,j<i+1+os.length→all[j]? = some o→StepAt P all o (vf j) t' j)∧(∀ b,b∈lg0→b∈lg') ∧
          (∀ b,b<H0.length→b ∉ lg'→(t'.H (i+1+os.length))[b]? = H0[b]?)∧H0.length≤(t'.H (i+1+os.length)).length ∧
          holds (k (t'.fr (i+1+os.length)) (t'.H (i+1+os.length)) lg' (recs vf t' (i+1+os.length))):=by
      intro fr' H' r T F run lg' hst hsub hk hg h
      have e1:(t.ext i fr' H' r T F run).fr (i+1)=fr':=by simp[Tr.ext]
      have e2:(t.ext i fr' H' r T F run).H (i+1)=H':=by simp[Tr.ext]
      obtain⟨t',lg2,a,b,c,d,e,f,g⟩:=vops_sound all vf hvf H0 lg0 os (i+1) (t.ext i fr' H' r T F run) lg' hos' (fun j o' hj ho'=>by
          rcases Nat.lt_or_ge j i with h'|h'
          · exact Tr.ext_old h' (hold j o' h' ho')
          · have:j=i:=by omega
            subst this
            rw[ho] at ho';cases ho'
            exact hst) (fun b hb=>hsub b (hlg b hb)) (by rw[e2]; exact hk) (by rw[e2]; exact hg) (by rw[e1,e2]; exact h)
      refine⟨t',lg2,a.trans (by simp[Tr.ext]),b.trans (by simp[Tr.ext]),c,d,e,f,g⟩
    unfold vops at h
    rw[hgd] at h
    cases gd with
    | bad=>exact(good.fail h).elim
    | pass =>
      have hgk:GuardOK all o (vf i):=by
        rcases voOf_ok P all o with hb|hb
        · rw[hv,hb] at hgd;cases hgd
        · rw[hv]; exact hb.1
      refine fin (setD (t.fr i) (vf i).dst (.tup [])) (t.H i) (.tup []) [] [] false lg ⟨hgk,?_,?_,?_,?_,?_,?_⟩ (fun b hb=>hb) hkeep hgrow ?_
      · simp[Tr.ext]
      · simp[Tr.ext]
      · intro b _;simp[Tr.ext]
      · intro b hb;simp[Tr.ext] at hb
      · intro hr;simp[Tr.ext] at hr
      · intro _;refine⟨?_,?_,?_,?_⟩<;>simp[Tr.ext,hgd]
      · have e:recs vf (t.ext i (setD (t.fr i) (vf i).dst (.tup [])) (t.H i) (.tup []) [] [] false) (i+1)=recs vf t i:=by
          have:recs vf (t.ext i (setD (t.fr i) (vf i).dst (.tup [])) (t.H i) (.tup []) [] [] false) i=recs vf t i:=recs_congr (fun j hj=>by refine⟨?_,?_,?_,?_,?_,?_,?_⟩<;>simp[Tr.ext]<;>omega)
          simp only[recs,this]
          simp[Tr.ext]
        rw[e]; exact h
    | run =>
      obtain⟨hgk,xs,hc,ha⟩:GuardOK all o (vf i)∧∃ xs,copOf P o.op=some ((vf i).op,xs)∧argsOf xs=some (vf i).args:=by
        rcases voOf_ok P all o with hb|hb
        · rw[hv,hb] at h
          exact(good.fail h).elim
        · rw[hv]; exact hb
      obtain⟨r,H',tch,ft,h,hs,hs2⟩:=ex_sound good hcf hc h
      rw[size_eq,size_eq,join_eq,join_eq] at h
      refine fin (setD (t.fr i) (vf i).dst r) H' r (tch++news (t.H i).length H'.length) ft true (tch++lg) ⟨hgk,?_,?_,?_,?_,?_,?_⟩ (fun b hb=>List.mem_append_right _ hb) ?_ (Nat.le_trans hgrow hs.grow) ?_
      · simp[Tr.ext]
      · simpa[Tr.ext] using hs.grow
      · intro b hb
        simp only[Tr.ext,if_true,List.mem_append,mem_news] at hb ⊢
        rw[if_neg (by omega)]
        rcases Nat.lt_or_ge b (t.H i).length with h'|h'
        · exact hs.keep b h' fun hb'=>hb (.inl hb')
        · have:H'.length≤b:=by
            rcases Nat.lt_or_ge b H'.length with h2|h2
            · exact absurd (.inr ⟨h',h2⟩) hb
            · exact h2
          rw[List.getElem?_eq_none h',List.getElem?_eq_none this]
      · intro b hb
        simp only[Tr.ext,if_true,List.mem_append,mem_news] at hb ⊢
        rcases hb with hb|hb
        · exact Nat.lt_of_lt_of_le (hs.old b hb) hs.grow
        · exact hb.2
      · intro _
        refine⟨by simpa[Tr.ext] using hgd,tch,xs,?_,hc,ha,?_,?_⟩
        · simp[Tr.ext]
        · simpa[Tr.ext] using hs
        · simpa[Tr.ext] using hs2
      · intro hr;simp[Tr.ext] at hr
      · intro b hb hn
        rw[List.mem_append] at hn
        rw[hs.keep b (Nat.lt_of_lt_of_le hb hgrow) (fun h'=>hn (.inl h'))]
        exact hkeep b hb fun h'=>hn (.inr h')
      · have e : recs vf (t.ext i (setD (t.fr i) (vf i).dst r) H' r (tch ++ news (t.H i).length H'.length) ft true) (i + 1) =
            note i (tch++news (t.H i).length H'.length) ft (limOf (vf i).op (t.H i).length (scL (evs (t.fr i) (vf i).args) (t.H i) r H')) (recs vf t i):=by
          have:recs vf (t.ext i (setD (t.fr i) (vf i).dst r) H' r (tch++news (t.H i).length H'.length) ft true) i=recs vf t i:=recs_congr (fun j hj=>by refine⟨?_,?_,?_,?_,?_,?_,?_⟩<;>simp[Tr.ext]<;>omega)
          simp only[recs,this,oksOf]
          simp[Tr.ext]
        rw[e]; exact h
end
end Go.Vm

namespace Go.Vm
set_option maxRecDepth 100000
theorem set_get(fr:Fr)(d:Nat)(v:AV)(t:Nat):(fr.set d v)[t]? = if d=t then(if t<fr.length then some v else none) else fr[t]? := by
 by_cases h:d=t
 ·subst h
  simp only[if_true]
  by_cases hl:d<fr.length
  ·simp[hl]
  ·simp[hl]
 ·rw[if_neg h,List.getElem?_set_ne h]
theorem VRels.set{ρ:Rho}{w:World}{as:List AV}{vs:List Value}(h:VRels ρ w as vs)(i:Nat){a:AV}{v:Value}(hv:VRel ρ w a v):VRels ρ w (as.set i a) (vs.set i v) :=
 ⟨by simp[h.len],fun j b u hb hu=>by
  by_cases hj:i=j
  ·subst hj
   have hl:=h.len
   by_cases h1:i<as.length
   ·rw[List.getElem?_set_self h1] at hb
    rw[List.getElem?_set_self (by omega)] at hu
    cases hb;cases hu;exact hv
   ·rw[List.getElem?_eq_none (by simp;omega)] at hb;cases hb
  ·rw[List.getElem?_set_ne hj] at hb hu
   exact h.at_ j b u hb hu⟩
theorem frel_put{ρ:Rho}{w:World}{fr:Fr}{a:Act}(h:FRel ρ w fr a.tmps)(d:Option Nat){x:AV}{v:Value}(hv:VRel ρ w x v):FRel ρ w (setD fr d x) (a.put d v).tmps:=by
 cases d with
 | none=>exact h
 | some d =>
  have:=VRels.set h d hv
  simp only[setD,Act.put,put_eq,FRel]
  rw[Array.toList_setIfInBounds]
  exact this
theorem put_defers(a:Act)(d:Option Nat)(v:Value):(a.put d v).defers=a.defers:=by cases d<;>rfl
theorem slot_congr{f g:Fr}{t:Nat}(h:f[t]? = g[t]?):slot f t=slot g t:=by rw[slot_eq,slot_eq,h]
theorem evs_congr{f g:Fr}:∀ {as:List Arg},(∀ t,t∈readsA as→f[t]? = g[t]?)→evs f as=evs g as
 | [],_=>rfl
 | .t n::as,h=>by
  simp only[evs,ev]
  rw[slot_congr (h n (by simp[readsA])),evs_congr (fun t ht=>h t (by simp[readsA,ht]))]
 | .c v::as,h=>by
  simp only[evs,ev]
  rw[evs_congr (fun t ht=>h t (by simpa[readsA] using ht))]
theorem guard_wanted{ρ:Rho}{w:World}{fr:Fr}{a:Act}{all:Array Oper}{o:Oper}{v:VO}(hf:FRel ρ w fr a.tmps)(hg:GuardOK all o v) :
  (guardOf fr v.guard = .run→Region.wanted o (yielded all a.tmps)=true)∧(guardOf fr v.guard = .pass→Region.wanted o (yielded all a.tmps)=false):=by
 rcases hg.guard with ⟨e1,e2⟩|⟨gi,want,d,e1,e2,e3⟩
 ·rw[e2]
  refine⟨fun _=>by simp[Region.wanted,e1],fun h=>by cases h⟩
 ·rw[e3]
  have hsl:=slot_rel hf d
  have hy:∀ b,a.tmps.getD d undef = .bool b→yielded all a.tmps gi=some b:=by
   intro b hb
   have h3:a.tmps[d]? = some (.bool b):=by
    rw[Array.getD_eq_getD_getElem?] at hb
    cases h3:a.tmps[d]? with
    | none=>rw[h3] at hb;cases hb
    | some v=>rw[h3] at hb;exact congrArg some hb
   simp[yielded,e2,h3]
  have hn:a.tmps.getD d undef = .tuple #[]→yielded all a.tmps gi=none:=by
   intro hb
   unfold yielded
   rw[e2]
   simp only[Option.bind_some]
   have h3:a.tmps[d]? = some (.tuple #[])∨a.tmps[d]? = none:=by
    rw[Array.getD_eq_getD_getElem?] at hb
    cases h3:a.tmps[d]? with
    | none=>exact .inr rfl
    | some v=>rw[h3] at hb;exact .inl (congrArg some hb)
   rcases h3 with h3|h3<;>rw[h3]
  have hw:Region.wanted o (yielded all a.tmps)=(yielded all a.tmps gi == some want):=by simp[Region.wanted,e1]
  rw[hw]
  simp only[guardOf]
  generalize hx:slot fr d=x at hsl
  cases x with
  | bool b =>
   rw[hy b (inv_bool hsl)]
   cases b<;>cases want<;>simp
  | tup l =>
   cases l with
   | nil =>
    have:a.tmps.getD d undef = .tuple #[]:=by
     generalize a.tmps.getD d undef=v at hsl
     cases hsl with
     | tup _ vs hl _ =>
      have:vs = []:=List.eq_nil_of_length_eq_zero (by simpa using hl)
      subst this;rfl
    rw[hn this]
    cases want<;>simp
   | cons=>cases want<;>constructor<;>intro h<;>cases h
  | _=>cases want<;>constructor<;>intro h<;>cases h
structure Inv(n:Nat)(vf:Nat→VO)(t:Tr)(ρ0:Rho)(w0:World)(ds:List Deferred)(D:Nat→Prop)(a:Act)(w:World):Prop where
 ex:∃ (ρ:Rho) (fr:Fr) (g:Hp),HRel ρ w g∧FRel ρ w fr a.tmps∧(∀ m,Ext m ρ0 w0 ρ w) ∧
  (∀ s p,p≤n→(∀ j,j<n→(vf j).dst=some s→(D j↔j<p))→fr[s]? = (t.fr p)[s]?) ∧
  (∀ b p,p≤n→(∀ j,j<n→t.run j=true→b∈t.T j→(D j↔j<p))→g b=(t.H p)[b]?)
 defers:a.defers=ds
structure Settled(n:Nat)(vf:Nat→VO)(t:Tr)(B:Nat→Nat→Prop):Prop where
 slots:∀ i j,i<j→j<n→slotClash (vf i) (vf j)=true→B i j
 blocks:∀ i j,i<j→j<n→t.run i=true→t.run j=true →
  (∃ b,(b∈t.T i∧b∈t.T j)∨(b∈t.T i∧b∈t.F j)∨(b∈t.F i∧b∈t.T j)∨((isCall (vf i).op=true∧allT (oksOf (vf i) t i)=false)∧(t.H i).length≤b∧b∈t.T j))→B i j
theorem slotClash_iff(u v:VO):slotClash u v=true↔(∃ d,u.dst=some d∧d∈readsOf v)∨(∃ d,u.dst=some d∧v.dst=some d)∨∃ d,v.dst=some d∧d∈readsOf u:=by
 have h1:∀ (o:Option Nat) l,hasO o l=true↔∃ d,o=some d∧d∈l:=by
  intro o l
  cases o with
  | none=>simp[hasO]
  | some d=>simp[hasO,has_iff]
 have h2:∀ (o p:Option Nat),sameO o p=true↔∃ d,o=some d∧p=some d:=by
  intro o p
  cases o<;>cases p<;>simp[sameO]
  exact eq_comm
 simp only[slotClash,Bool.or_eq_true,h1,h2,or_assoc]
theorem lens{n:Nat}{P:Program}{all:Array Oper}{vf:Nat→VO}{t:Tr}(hn:n=all.size)(hst:∀ j o,j<n→all[j]? = some o→StepAt P all o (vf j) t j) :
  ∀ d i,i+d≤n→(t.H i).length≤(t.H (i+d)).length
 | 0,i,_=>Nat.le_refl _
 | d+1,i,h=>by
  have hl:i+d<all.size:=by omega
  have:=(hst (i+d) all[i+d] (by omega) (by simp[hl])).grow
  exact Nat.le_trans (lens hn hst d i (by omega)) this
section
variable {P:Program}{all:Array Oper}{vf:Nat→VO}{t:Tr}{n:Nat}{ρ0:Rho}{w0:World}{ds:List Deferred}{B:Nat→Nat→Prop}
 (hn:n=all.size) (hst:∀ j o,j<n→all[j]? = some o→StepAt P all o (vf j) t j) (hB:Settled n vf t B)
include hn hst
theorem len_le{i j:Nat}(hij:i≤j)(hj:j≤n):(t.H i).length≤(t.H j).length:=by
 have:=lens hn hst (j - i) i (by omega)
 rwa [show i+(j - i)=j by omega] at this
include hB
theorem inv_step{Q:Exit→Act→World→Prop}{D:Nat→Prop}{a:Act}{w:World}{j:Nat}(hj:j<n)(hnot:¬ D j)(hbef:∀ i,i<j→B i j→D i)(hclosed:∀ i,i<n→D i→∀ k,k<i→B k i→D k)
  (h:Inv n vf t ρ0 w0 ds D a w) {K:Act→World→Prop} (hK:∀ a' w',Inv n vf t ρ0 w0 ds (fun i=>D i∨i=j) a' w'→K a' w'):wpOp P all Q j K a w:=by
 have hjs:j<all.size:=by omega
 have ho:all[j]? = some all[j]:=by simp[hjs]
 generalize all[j]=o at ho
 have hs:=hst j o hj ho
 obtain⟨⟨ρ,fr,g,hg,hf,hext,hS,hH⟩,hds⟩:=h
 have ahead:∀ s,(s∈readsOf (vf j)∨(vf j).dst=some s)→∀ i,i<n→(vf i).dst=some s→(D i↔i<j):=by
  intro s hs' i hi hd
  rcases Nat.lt_trichotomy i j with hlt|heq|hgt
  ·refine⟨fun _=>hlt,fun _=>hbef i hlt (hB.slots i j hlt hj ((slotClash_iff _ _).2 ?_))⟩
   rcases hs' with hs'|hs'
   ·exact .inl ⟨s,hd,hs'⟩
   ·exact .inr (.inl ⟨s,hd,hs'⟩)
  ·subst heq;exact⟨fun hD=>absurd hD hnot,fun h=>absurd h (Nat.lt_irrefl _)⟩
  ·refine⟨fun hD=>absurd (hclosed i hi hD j hgt (hB.slots j i hgt hi ((slotClash_iff _ _).2 ?_))) hnot,fun h=>absurd h (Nat.lt_asymm hgt)⟩
   rcases hs' with hs'|hs'
   ·exact .inr (.inr ⟨s,hd,hs'⟩)
   ·exact .inr (.inl ⟨s,hs',hd⟩)
 have hread:∀ s,s∈readsOf (vf j)→fr[s]? = (t.fr j)[s]? := fun s hs'=>hS s j (by omega) (ahead s (.inl hs'))
 have after:∀ (x:AV),t.r j=x→∀ s p,p≤n→(∀ i,i<n→(vf i).dst=some s→((D i∨i=j)↔i<p))→(setD fr (vf j).dst x)[s]? = (t.fr p)[s]? := by
  intro x hx s p hp hw
  by_cases hd:(vf j).dst=some s
  ·have hjp:j<p:=(hw j hj hd).1 (.inr rfl)
   have e0:fr[s]? = (t.fr j)[s]? := hS s j (by omega) (ahead s (.inr hd))
   have e1:(setD fr (vf j).dst x)[s]? = (t.fr (j+1))[s]? := by
    rw[hs.fr,hd,hx]
    simp only[setD,put_eq]
    have hl:s<fr.length↔s<(t.fr j).length:=by
     have h1:=List.getElem?_eq_none_iff (l:=fr) (i:=s)
     have h2:=List.getElem?_eq_none_iff (l:=t.fr j) (i:=s)
     rw[e0] at h1
     have:=h1.symm.trans h2
     omega
    rw[set_get,set_get]
    simp only[if_true]
    by_cases h:s<fr.length
    ·rw[if_pos h,if_pos (hl.1 h)]
    ·rw[if_neg h,if_neg (fun h'=>h (hl.2 h'))]
   rw[e1]
   have mid:∀ d,j+1+d≤p→(t.fr (j+1+d))[s]? = (t.fr (j+1))[s]? := by
    intro d
    induction d with
    | zero=>intro _;rfl
    | succ d ih =>
     intro hd'
     have hlt:j+1+d<all.size:=by omega
     have hst':=hst (j+1+d) all[j+1+d] (by omega) (by simp[hlt])
     rw[show j+1+(d+1)=(j+1+d)+1 by omega,hst'.fr]
     have hne:(vf (j+1+d)).dst≠some s:=by
      intro e
      have hD:D (j+1+d)∨j+1+d=j:=(hw (j+1+d) (by omega) e).2 (by omega)
      rcases hD with hD|hD
      ·have:=(ahead s (.inr hd) (j+1+d) (by omega) e).1 hD
       omega
      ·omega
     cases hdd:(vf (j+1+d)).dst with
     | none=>exact ih (by omega)
     | some d2 =>
      simp only[setD,put_eq]
      rw[set_get,if_neg (by intro e;subst e;exact hne hdd)]
      exact ih (by omega)
   have:=mid (p - (j+1)) (by omega)
   rw[show j+1+(p - (j+1))=p by omega] at this
   exact this.symm
  ·have e:(setD fr (vf j).dst x)[s]? = fr[s]? := by
    cases hdd:(vf j).dst with
    | none=>rfl
    | some d2 =>
     simp only[setD,put_eq]
     rw[set_get,if_neg (by intro e;subst e;exact hd hdd)]
   rw[e]
   refine hS s p hp fun i hi hdi => ?_
   have:=hw i hi hdi
   have hne:i≠j:=by intro e;subst e;exact hd hdi
   constructor
   ·intro hD;exact this.1 (.inl hD)
   ·intro hp'
    rcases this.2 hp' with h'|h'
    ·exact h'
    ·exact absurd h' hne
 have hgs:∀ d want,(vf j).guard=some (d,want)→d∈readsOf (vf j):=by
  intro d want e;simp[readsOf,e]
 have hguard:guardOf fr (vf j).guard=guardOf (t.fr j) (vf j).guard:=by
  cases hgd:(vf j).guard with
  | none=>rfl
  | some dw =>
   obtain⟨d,want⟩:=dw
   simp only[guardOf,slot_congr (hread d (hgs d want hgd))]
 have hw:=guard_wanted hf hs.gd
 unfold wpOp
 rw[ho]
 simp only
 cases hrun:t.run j with
 | false =>
  obtain⟨p1,p2,p3,p4⟩:=hs.passed hrun
  rw[hguard] at hw
  rw[hw.2 p1]
  simp only[Bool.false_eq_true,if_false]
  refine hK _ _ ⟨⟨ρ,setD fr (vf j).dst (.tup []),g,hg,?_,hext,after _ p2,?_⟩,by rw[put_defers]; exact hds⟩
  ·rw[←hs.gd.dst]; exact frel_put hf _ (undef_rel ρ w)
  ·intro b p hp hwr
   refine hH b p hp fun i hi hr hb => ?_
   have:=hwr i hi hr hb
   have hne:i≠j:=by intro e;subst e;rw[hrun] at hr;cases hr
   constructor
   ·intro hD;exact this.1 (.inl hD)
   ·intro hp'
    rcases this.2 hp' with h'|h'
    ·exact h'
    ·exact absurd h' hne
 | true =>
  obtain⟨p1,tch,xs,hT,hc,ha,hsx1,hsx2⟩:=hs.ran hrun
  obtain⟨cl,hcl,hsx⟩:∃ cl:Bool,(cl=true→isCall (vf j).op=true∧allT (oksOf (vf j) t j)=false)∧StepX P o cl xs (evs (t.fr j) (vf j).args) (t.H j) (t.r j) (t.H (j+1)) tch (t.F j):=by
   cases hok:allT (oksOf (vf j) t j) with
   | true=>exact⟨false,⟨fun h=>(by cases h),hsx2 hok⟩⟩
   | false=>exact⟨isCall (vf j).op,⟨fun h=>⟨h,rfl⟩,hsx1⟩⟩
  rw[hguard] at hw
  rw[hw.1 p1]
  simp only[if_true]
  refine .inl ?_
  have bl:∀ b,(b∈t.T j∨b∈t.F j∨(cl=true∧(t.H j).length≤b))→∀ i,i<n→t.run i=true→b∈t.T i→(D i↔i<j):=by
   intro b hb i hi hr hbi
   rcases Nat.lt_trichotomy i j with hlt|heq|hgt
   ·refine⟨fun _=>hlt,fun _ => ?_⟩
    rcases hb with hb|hb|⟨hb1,hb2⟩
    ·exact hbef i hlt (hB.blocks i j hlt hj hr hrun ⟨b,.inl ⟨hbi,hb⟩⟩)
    ·exact hbef i hlt (hB.blocks i j hlt hj hr hrun ⟨b,.inr (.inl ⟨hbi,hb⟩)⟩)
    ·have h1:i<all.size:=by omega
     have h2:=(hst i all[i] hi (by simp[h1])).in_ b hbi
     have h3:=len_le hn hst (i:=i+1) (j:=j) (by omega) (by omega)
     omega
   ·subst heq;exact⟨fun hD=>absurd hD hnot,fun h=>absurd h (Nat.lt_irrefl _)⟩
   ·refine⟨fun hD=>absurd (hclosed i hi hD j hgt ?_) hnot,fun h=>absurd h (Nat.lt_asymm hgt)⟩
    rcases hb with hb|hb|⟨hb1,hb2⟩
    ·exact hB.blocks j i hgt hi hrun hr ⟨b,.inl ⟨hb,hbi⟩⟩
    ·exact hB.blocks j i hgt hi hrun hr ⟨b,.inr (.inr (.inl ⟨hb,hbi⟩))⟩
    ·exact hB.blocks j i hgt hi hrun hr ⟨b,.inr (.inr (.inr ⟨hcl hb1,hb2,hbi⟩))⟩
  have hargs:VRels ρ w (evs (t.fr j) (vf j).args) (xs.map a.eval):=by
   rw[←evs_congr (f:=fr) (g:=t.fr j)]
   ·exact args_rel hf ha
   ·intro s hs'
    refine hread s ?_
    unfold readsOf
    split
    ·exact List.mem_cons_of_mem _ hs'
    ·exact hs'
  refine hsx.does ρ w a g hargs (fun b hb=>hH b j (by omega) (bl b (.inr (.inl hb)))) (fun b hb=>hH b j (by omega) (bl b (.inl (by rw[hT]; exact List.mem_append_left _ hb)))) ?_ hg K Q ?_
  ·intro b hb hor
   rw[hH b j (by omega) (bl b ?_),List.getElem?_eq_none hb]
   rcases hor with hc'|hlt
   ·exact .inr (.inr ⟨hc',hb⟩)
   ·exact .inl (by rw[hT]; exact List.mem_append_right _ ((mem_news _ _ _).2 ⟨hb,hlt⟩))
  ·rintro v w' ⟨ρ',h1,h2,h3⟩
   rw[←hT] at h1
   refine hK _ _ ⟨⟨ρ',setD fr (vf j).dst (t.r j),_,h1,?_,fun m=>(hext m).trans (h3 m),after _ rfl,?_⟩,by rw[put_defers]; exact hds⟩
   ·rw[←hs.gd.dst]; exact frel_put (vrels_bound h3 hf) _ h2
   ·intro b p hp hwr
    by_cases hb:b∈t.T j
    ·have hjp:j<p:=(hwr j hj hrun hb).1 (.inr rfl)
     rw[show upd g (t.H (j+1)) (t.T j) b=(t.H (j+1))[b]? by simp[upd,hb]]
     have mid:∀ d,j+1+d≤p→(t.H (j+1+d))[b]? = (t.H (j+1))[b]? := by
      intro d
      induction d with
      | zero=>intro _;rfl
      | succ d ih =>
       intro hd'
       have hlt:j+1+d<all.size:=by omega
       have hst':=hst (j+1+d) all[j+1+d] (by omega) (by simp[hlt])
       rw[show j+1+(d+1)=(j+1+d)+1 by omega,hst'.keep b ?_]
       ·exact ih (by omega)
       ·intro hbd
        have hr:t.run (j+1+d)=true:=by
         cases hr:t.run (j+1+d) with
         | true=>rfl
         | false=>rw[(hst'.passed hr).2.2.1] at hbd;cases hbd
        have hD:D (j+1+d)∨j+1+d=j:=(hwr (j+1+d) (by omega) hr hbd).2 (by omega)
        rcases hD with hD|hD
        ·have:=(bl b (.inl hb) (j+1+d) (by omega) hr hbd).1 hD
         omega
        ·omega
     have:=mid (p - (j+1)) (by omega)
     rw[show j+1+(p - (j+1))=p by omega] at this
     exact this.symm
    ·rw[show upd g (t.H (j+1)) (t.T j) b=g b by simp[upd,hb]]
     refine hH b p hp fun i hi hr hbi => ?_
     have:=hwr i hi hr hbi
     have hne:i≠j:=by intro e;subst e;exact hb hbi
     constructor
     ·intro hD;exact this.1 (.inl hD)
     ·intro hp'
      rcases this.2 hp' with h'|h'
      ·exact h'
      ·exact absurd h' hne
end
end Go.Vm

namespace Go.Vm
set_option maxRecDepth 100000
structure Goes(W:(Exit→Act→World→Prop)→Act→World→Prop)(n0:Nat)(fr:Fr)(H:Hl)(lg:List Nat)(e:Exit)(fr':Fr)(H':Hl)(lg':List Nat):Prop where
 grow:n0≤H'.length
 sub:∀ b,b∈lg→b∈lg'
 keep:∀ b,b<n0→b ∉ lg'→H'[b]? = H[b]?
 does:∀ (ρ:Rho) (w:World) (a:Act) (Q:Exit→Act→World→Prop),HRel ρ w (fun b=>H[b]?)→FRel ρ w fr a.tmps →
  (∀ (a':Act) (w':World) (ρ':Rho),HRel ρ' w' (fun b=>H'[b]?)→FRel ρ' w' fr' a'.tmps→a'.defers=a.defers→Ext n0 ρ w ρ' w'→Q e a' w')→W Q a w
theorem Goes.trans{W V X:(Exit→Act→World→Prop)→Act→World→Prop}{n0:Nat}{fr fr' fr'':Fr}{H H' H'':Hl}{lg lg' lg'':List Nat}{e e':Exit}
  (h:Goes W n0 fr H lg e fr' H' lg') (k:Goes V n0 fr' H' lg' e' fr'' H'' lg'')
  (hX:∀ Q a w,W (fun e1 a1 w1=>(e1=e∧V Q a1 w1)) a w→X Q a w):Goes X n0 fr H lg e' fr'' H'' lg'' where
 grow:=k.grow
 sub b hb:=k.sub b (h.sub b hb)
 keep b hb hn:=(k.keep b hb hn).trans (h.keep b hb fun h'=>hn (k.sub b h'))
 does ρ w a Q hg hf hQ:=hX Q a w (h.does ρ w a _ hg hf fun a' w' ρ' h1 h2 h3 h4 =>
  ⟨rfl,k.does ρ' w' a' Q h1 h2 fun a'' w'' ρ'' g1 g2 g3 g4=>hQ a'' w'' ρ'' g1 g2 (g3.trans h3) (h4.trans g4)⟩)
theorem Goes.weak{W X:(Exit→Act→World→Prop)→Act→World→Prop}{n0:Nat}{fr fr':Fr}{H H':Hl}{lg lg':List Nat}{e e':Exit}(h:Goes W n0 fr H lg e fr' H' lg')
  (hX:∀ (Q:Exit→Act→World→Prop) a w,W (fun e1 a1 w1=>e1=e∧Q e' a1 w1) a w→X Q a w):Goes X n0 fr H lg e' fr' H' lg' where
 grow:=h.grow
 sub:=h.sub
 keep:=h.keep
 does ρ w a Q hg hf hQ:=hX Q a w (h.does ρ w a _ hg hf fun a' w' ρ' h1 h2 h3 h4=>⟨rfl,hQ a' w' ρ' h1 h2 h3 h4⟩)
theorem fold_bits(on:Edge→Bool)(acc:Array Nat):∀ (es:List Edge) (s i:Nat),(es.foldl (fun s e=>if on e then s ||| 2 ^ e.on ||| acc.getD e.on 0 else s) s).testBit i=true →
  s.testBit i=true∨∃ e,e∈es∧on e=true∧(i=e.on∨(acc.getD e.on 0).testBit i=true)
 | [],s,i,h => .inl h
 | e::es,s,i,h=>by
  simp only[List.foldl_cons] at h
  rcases fold_bits on acc es _ i h with h'|⟨e',h1,h2,h3⟩
  ·split at h'
   ·rename_i hon
    rw[Nat.testBit_or,Nat.testBit_or] at h'
    simp only[Bool.or_eq_true] at h'
    rcases h' with (h'|h')|h'
    ·exact .inl h'
    ·rw[Nat.testBit_two_pow] at h'
     exact .inr ⟨e,by simp,hon,.inl (of_decide_eq_true h').symm⟩
    ·exact .inr ⟨e,by simp,hon,.inr h'⟩
   ·exact .inl h'
  ·exact .inr ⟨e',List.mem_cons_of_mem _ h1,h2,h3⟩
theorem before_spec(ops:Array Oper)(j i:Nat)(h:((Region.before ops).getD j 0).testBit i=true) :
  ∃ o e,ops[j]? = some o∧e∈o.after∧Region.binds .any e=true∧(i=e.on∨(e.on<j∧((Region.before ops).getD e.on 0).testBit i=true)):=by
 have key:∀ (l:List Oper) (d:Nat) (acc:Array Nat),acc.size=d→(∀ k,l[k]? = ops[d+k]?) →
   (∀ j i,(acc.getD j 0).testBit i=true→∃ o e,ops[j]? = some o∧e∈o.after∧Region.binds .any e=true∧(i=e.on∨(e.on<j∧(acc.getD e.on 0).testBit i=true))) →
   let r:=l.foldl (fun acc o=>acc.push (o.after.foldl (fun s e=>if Region.binds .any e then s ||| 2 ^ e.on ||| acc.getD e.on 0 else s) 0)) acc
   ∀ j i,(r.getD j 0).testBit i=true→∃ o e,ops[j]? = some o∧e∈o.after∧Region.binds .any e=true∧(i=e.on∨(e.on<j∧(r.getD e.on 0).testBit i=true)):=by
  intro l
  induction l with
  | nil=>intro d acc _ _ h;exact h
  | cons o l ih =>
   intro d acc hd hl hacc
   simp only[List.foldl_cons]
   have h0:ops[d]? = some o:=by have:=hl 0;simpa using this.symm
   refine ih (d+1) _ (by simp[hd]) (fun k=>by have:=hl (k+1); rw[show d+(k+1)=d+1+k by omega] at this;simpa using this) ?_
   intro j i hji
   rcases Nat.lt_trichotomy j d with hlt|heq|hgt
   ·have e1:∀ (x:Nat),j<acc.size→(acc.push x).getD j 0=acc.getD j 0:=by
     intro x hx
     rw[Array.getD_eq_getD_getElem?,Array.getD_eq_getD_getElem?,Array.getElem?_push_lt hx]
     simp[hx]
    rw[e1 _ (by omega)] at hji
    obtain⟨o',e,a,b,c,f⟩:=hacc j i hji
    refine⟨o',e,a,b,c,?_⟩
    rcases f with f|⟨f,g⟩
    ·exact .inl f
    ·refine .inr ⟨f,?_⟩
     have he:e.on<acc.size:=by omega
     rw[Array.getD_eq_getD_getElem?,Array.getElem?_push_lt he]
     rw[Array.getD_eq_getD_getElem?] at g
     simpa[he] using g
   ·subst heq
    have e1:∀ x,(acc.push x).getD j 0=x:=by
     intro x
     rw[Array.getD_eq_getD_getElem?,←hd,Array.getElem?_push_size]
     rfl
    rw[e1,←Array.foldl_toList] at hji
    rcases fold_bits (Region.binds .any) acc _ _ i hji with h'|⟨e,h1,h2,h3⟩
    ·simp at h'
    ·refine⟨o,e,h0,by simpa using h1,h2,?_⟩
     rcases h3 with h3|h3
     ·exact .inl h3
     ·have he:e.on<acc.size:=by
       rcases Nat.lt_or_ge e.on acc.size with h|h
       ·exact h
       ·rw[Array.getD_eq_getD_getElem?,Array.getElem?_eq_none h] at h3;simp at h3
      refine .inr ⟨by omega,?_⟩
      rw[Array.getD_eq_getD_getElem?,Array.getElem?_push_lt he]
      rw[Array.getD_eq_getD_getElem?] at h3
      simpa[he] using h3
   ·have e1:∀ x,(acc.push x).getD j 0=0:=by
     intro x
     rw[Array.getD_eq_getD_getElem?,Array.getElem?_eq_none (by simp;omega)]
     rfl
    rw[e1] at hji
    simp at hji
 have:=key ops.toList 0 #[] rfl (fun k=>by simp) (fun j i h=>by simp at h) j i
 unfold Region.before at h ⊢
 rw[←Array.foldl_toList] at h ⊢
 exact this h
def edgesOK:Nat→List Oper→Bool
 | _,[]=>true
 | j,o::os=>(o.after.all fun e => !(Region.binds .any e) || decide (e.on<j)) && edgesOK (j+1) os
theorem edgesOK_ok:∀ {os:List Oper} {j:Nat},edgesOK j os=true→∀ k o,os[k]? = some o→∀ e,e∈o.after→Region.binds .any e=true→e.on<j+k
 | [],_,_,k,o,ho,_,_,_=>by simp at ho
 | x::os,j,h,k,o,ho,e,he,hb=>by
  simp only[edgesOK,Bool.and_eq_true] at h
  cases k with
  | zero =>
   simp at ho;subst ho
   have:=Array.all_eq_true_iff_forall_mem.1 h.1 e he
   simp[hb] at this
   omega
  | succ k =>
   have:=edgesOK_ok h.2 k o (by simpa using ho) e he hb
   omega
def regOf(P:Program)(ops:Array Oper)(draw:Bool):VC :=
 match draw with
 | false => .reg false [] (vosOf P ops)
 | true=>match (P.follows .mixedOrders || !Region.departs ops) && edgesOK 0 ops.toList && slotsOK (Region.before ops).toList 0 (vosOf P ops) with
  | true => .reg true (Region.before ops).toList (vosOf P ops)
  | false => .reg false [] [badO]
theorem note_cases(i:Nat)(t f:List Nat)(l:Option (Nat × List Bool))(rs:List Rec):(note i t f l rs=rs∧t = []∧f = []∧l=none)∨note i t f l rs=(i,t,f,l)::rs:=by
 unfold note
 split
 ·exact .inl ⟨rfl,rfl,rfl,rfl⟩
 ·exact .inr rfl
def overO(l:Option (Nat × List Bool))(T:List Nat):Bool :=
 match l with
 | none=>false
 | some (n,oks)=>over n T && !(allT oks)
section
variable {R:Type}{A:Alg R}{holds:R→Prop}(good:A.Good holds)
include good
theorem chkAll_out{r:R}:∀ {l:List Bool},holds (chkAll A l r)→allT l=true∧holds r
 | [],h=>⟨rfl,h⟩
 | b::bs,h=>by
  obtain⟨h1,h2⟩:=good.chk _ _ h
  obtain⟨h3,h4⟩:=chkAll_out h2
  subst h1
  exact⟨h3,h4⟩
theorem raceOne_cons{bef:Nat}{T F:List Nat}{i:Nat}{t f:List Nat}{l:Option (Nat × List Bool)}{rest:List Rec}{r:R}(h:holds (raceOneK A bef T F ((i,t,f,l)::rest) r)):holds (raceOneK A bef T F rest r) ∧
  ((meet t T || meet t F || meet f T || overO l T)=true→bef.testBit i=true):=by
 unfold raceOneK at h
 split at h
 ·rename_i hc
  split at h
  ·rename_i hb;exact⟨h,fun _=>hb⟩
  ·exact(good.fail h).elim
 ·rename_i hc
  split at h
  ·refine⟨h,fun h' => ?_⟩
   rw[hc] at h'
   cases h'
  ·rename_i n oks
   split at h
   ·rename_i ho
    refine⟨h,fun h' => ?_⟩
    rw[hc] at h'
    simp only[overO,ho,Bool.false_and,Bool.or_false] at h'
    cases h'
   ·rename_i ho
    split at h
    ·rename_i hb;exact⟨h,fun _=>hb⟩
    ·obtain⟨h1,h2⟩:=chkAll_out good h
     refine⟨h2,fun h' => ?_⟩
     rw[hc] at h'
     simp only[overO,h1,Bool.not_true,Bool.and_false,Bool.or_false] at h'
     cases h'
theorem raceOne_ok{vf:Nat→VO}{t:Tr}{bef:Nat}{T F:List Nat}{r:R}:∀ {n:Nat},holds (raceOneK A bef T F (recs vf t n) r)→holds r∧∀ i,i<n→t.run i=true →
  (meet (t.T i) T || meet (t.T i) F || meet (t.F i) T || overO (limOf (vf i).op (t.H i).length (oksOf (vf i) t i)) T)=true→bef.testBit i=true
 | 0,h=>⟨h,fun i hi _ _=>by omega⟩
 | n+1,h=>by
  unfold recs at h
  by_cases hn:t.run n=true
  ·rw[if_pos hn] at h
   rcases note_cases n (t.T n) (t.F n) (limOf (vf n).op (t.H n).length (oksOf (vf n) t n)) (recs vf t n) with ⟨e,e1,e2,e3⟩|e
   ·rw[e] at h
    obtain⟨k1,k2⟩:=raceOne_ok h
    refine⟨k1,fun i hi hr hc => ?_⟩
    by_cases hin:i=n
    ·subst hin
     rw[e1,e2,e3] at hc
     cases hc
    ·exact k2 i (by omega) hr hc
   ·rw[e] at h
    obtain⟨h1,h2⟩:=raceOne_cons good h
    obtain⟨k1,k2⟩:=raceOne_ok h1
    refine⟨k1,fun i hi hr hc => ?_⟩
    by_cases hin:i=n
    ·subst hin;exact h2 hc
    ·exact k2 i (by omega) hr hc
  ·rw[if_neg hn] at h
   obtain⟨k1,k2⟩:=raceOne_ok h
   refine⟨k1,fun i hi hr hc => ?_⟩
   by_cases hin:i=n
   ·subst hin;exact absurd hr hn
   ·exact k2 i (by omega) hr hc
omit good in
theorem clash_iff(vf:Nat→VO)(t:Tr)(T F:List Nat)(i:Nat):(∃ b,(b∈t.T i∧b∈T)∨(b∈t.T i∧b∈F)∨(b∈t.F i∧b∈T)∨((isCall (vf i).op=true∧allT (oksOf (vf i) t i)=false)∧(t.H i).length≤b∧b∈T)) →
  (meet (t.T i) T || meet (t.T i) F || meet (t.F i) T || overO (limOf (vf i).op (t.H i).length (oksOf (vf i) t i)) T)=true:=by
 rintro⟨b,hb⟩
 simp only[Bool.or_eq_true,meet_iff,or_assoc]
 rcases hb with hb|hb|hb|⟨⟨h1,h4⟩,h2,h3⟩
 ·exact .inl ⟨b,hb⟩
 ·exact .inr (.inl ⟨b,hb⟩)
 ·exact .inr (.inr (.inl ⟨b,hb⟩))
 ·refine .inr (.inr (.inr ?_))
  simp only[limOf,h1,overO,h4,Bool.not_false,Bool.and_true,over_iff]
  exact⟨b,h3,h2⟩
theorem races_ok{vf:Nat→VO}{t:Tr}{bef:List Nat}{r:R}:∀ {n:Nat},holds (racesK A bef (recs vf t n) r)→holds r∧∀ i j,i<j→j<n→t.run i=true→t.run j=true →
  (∃ b,(b∈t.T i∧b∈t.T j)∨(b∈t.T i∧b∈t.F j)∨(b∈t.F i∧b∈t.T j)∨((isCall (vf i).op=true∧allT (oksOf (vf i) t i)=false)∧(t.H i).length≤b∧b∈t.T j))→(slotN bef j).testBit i=true
 | 0,h=>⟨h,fun i j _ hj _ _ _=>by omega⟩
 | n+1,h=>by
  unfold recs at h
  by_cases hn:t.run n=true
  ·rw[if_pos hn] at h
   rcases note_cases n (t.T n) (t.F n) (limOf (vf n).op (t.H n).length (oksOf (vf n) t n)) (recs vf t n) with ⟨e,e1,e2,e3⟩|e
   ·rw[e] at h
    obtain⟨k1,k2⟩:=races_ok h
    refine⟨k1,fun i j hij hj hri hrj hc => ?_⟩
    by_cases hjn:j=n
    ·subst hjn
     obtain⟨b,hb⟩:=hc
     rw[e1,e2] at hb
     simp at hb
    ·exact k2 i j hij (by omega) hri hrj hc
   ·rw[e] at h
    unfold racesK at h
    obtain⟨h1,h2⟩:=raceOne_ok good h
    obtain⟨k1,k2⟩:=races_ok h1
    refine⟨k1,fun i j hij hj hri hrj hc => ?_⟩
    by_cases hjn:j=n
    ·subst hjn
     exact h2 i hij hri (clash_iff vf t _ _ i hc)
    ·exact k2 i j hij (by omega) hri hrj hc
  ·rw[if_neg hn] at h
   obtain⟨k1,k2⟩:=races_ok h
   refine⟨k1,fun i j hij hj hri hrj hc => ?_⟩
   by_cases hjn:j=n
   ·subst hjn;exact absurd hrj hn
   ·exact k2 i j hij (by omega) hri hrj hc
end
def cnt(p:Nat→Bool):Nat→Nat
 | 0=>0
 | n+1=>cnt p n+(if p n then 1 else 0)
theorem cnt_congr{p q:Nat→Bool}{n:Nat}(h:∀ i,i<n→p i=q i):cnt p n=cnt q n:=by
 induction n with
 | zero=>rfl
 | succ n ih=>simp only[cnt,ih (fun i hi=>h i (by omega)),h n (by omega)]
theorem cnt_less{p q:Nat→Bool}{n i:Nat}(hi:i<n)(hp:p i=true)(hq:q i=false)(h:∀ j,j≠i→p j=q j):cnt p n=cnt q n+1:=by
 induction n with
 | zero=>omega
 | succ n ih =>
  by_cases hin:i=n
  ·subst hin
   simp only[cnt,hp,hq,if_true,Bool.false_eq_true,if_false]
   rw[cnt_congr (p:=p) (q:=q) (fun j hj=>h j (by omega))]
  ·simp only[cnt,ih (by omega),h n (by omega)]
   omega
theorem cnt_zero{p:Nat→Bool}{n:Nat}(h:cnt p n=0):∀ i,i<n→p i=false:=by
 induction n with
 | zero=>intro i hi;omega
 | succ n ih =>
  simp only[cnt] at h
  intro i hi
  by_cases hin:i=n
  ·subst hin
   cases hp:p i
   ·rfl
   ·simp[hp] at h
  ·exact ih (by omega) i (by omega)
theorem cnt_all(n:Nat):cnt (fun _=>true) n=n:=by
 induction n with
 | zero=>rfl
 | succ n ih=>simp[cnt,ih]
section
variable {P:Program}{all:Array Oper}{vf:Nat→VO}{t:Tr}{n:Nat}{ρ0:Rho}{w0:World}{ds:List Deferred}{Q:Exit→Act→World→Prop}
 (hn:n=all.size) (hst:∀ j o,j<n→all[j]? = some o→StepAt P all o (vf j) t j)
include hn hst
omit hn hst in
theorem inv_mono{D D':Nat→Prop}(h:∀ i,i<n→(D i↔D' i)){a:Act}{w:World}(hi:Inv n vf t ρ0 w0 ds D a w):Inv n vf t ρ0 w0 ds D' a w:=by
 obtain⟨⟨ρ,fr,g,h1,h2,h3,h4,h5⟩,h6⟩:=hi
 exact⟨⟨ρ,fr,g,h1,h2,h3,fun s p hp hw=>h4 s p hp fun j hj hd=>(h j hj).trans (hw j hj hd),fun b p hp hw=>h5 b p hp fun j hj hr hb=>(h j hj).trans (hw j hj hr hb)⟩,h6⟩
theorem ops_text(hB:Settled n vf t fun i j=>i<j)(hQ:∀ a w,Inv n vf t ρ0 w0 ds (fun _=>True) a w→Q .normal a w) :
  ∀ (d p:Nat) (a:Act) (w:World),p+d=n→Inv n vf t ρ0 w0 ds (fun i=>i<p) a w→wpOps P all Q (List.range' p d) a w
 | 0,p,a,w,hp,h=>hQ a w (inv_mono (fun i hi=>⟨fun _=>trivial,fun _=>by omega⟩) h)
 | d+1,p,a,w,hp,h=>by
  rw[List.range'_succ,wpOps_cons]
  refine inv_step hn hst hB (D:=fun i=>i<p) (j:=p) (by omega) (Nat.lt_irrefl _) (fun i hi _=>hi) (fun i _ hi k hk _=>Nat.lt_trans hk hi) h fun a' w' h' => ?_
  exact ops_text hB hQ d (p+1) a' w' (by omega) (inv_mono (fun i _=>by constructor<;>intro h<;>omega) h')
theorem ops_any{bef:List Nat}(hbef:bef=(Region.before all).toList)(he:∀ j o,all[j]? = some o→∀ e,e∈o.after→Region.binds .any e=true→e.on<j)(hB:Settled n vf t fun i j=>(slotN bef j).testBit i=true)
  (hQ:∀ a w,Inv n vf t ρ0 w0 ds (fun _=>True) a w→Q .normal a w) :
  ∀ (fuel:Nat) (listed:Array Bool) (a:Act) (w:World),listed.size=n→cnt (fun i => !listed.getD i true) n=fuel →
   (∀ j o,all[j]? = some o→listed.getD j false=true→∀ e,e∈o.after→Region.binds .any e=true→listed.getD e.on false=true) →
   Inv n vf t ρ0 w0 ds (fun i=>listed.getD i false=true) a w→wpAny P .any all Q fuel listed a w:=by
 have hbits:∀ (listed:Array Bool),(∀ j o,all[j]? = some o→listed.getD j false=true→∀ e,e∈o.after→Region.binds .any e=true→listed.getD e.on false=true) →
   ∀ (j:Nat) (o:Oper),all[j]? = some o→(∀ e,e∈o.after→Region.binds .any e=true→listed.getD e.on false=true)→∀ i,(slotN bef j).testBit i=true→listed.getD i false=true:=by
  intro listed hcl j
  induction j using Nat.strongRecOn with
  | _ j ih =>
   intro o ho hall i hi
   have:((Region.before all).getD j 0).testBit i=true:=by
    rw[slotN_eq,hbef] at hi
    rw[Array.getD_eq_getD_getElem?]
    simpa using hi
   obtain⟨o',e,h1,h2,h3,h4⟩:=before_spec all j i this
   rw[ho] at h1;cases h1
   have hl:=hall e h2 h3
   rcases h4 with h4|⟨h4,h5⟩
   ·rw[h4]; exact hl
   ·have hes:e.on<all.size:=by
     have:=(Array.getElem?_eq_some_iff.1 ho).1
     omega
    refine ih e.on h4 all[e.on] (by simp[hes]) (hcl e.on all[e.on] (by simp[hes]) hl) i ?_
    rw[slotN_eq,hbef]
    rw[Array.getD_eq_getD_getElem?] at h5
    simpa using h5
 have hf:∀ (listed:Array Bool) (j:Nat),listed.size=n→j<n→listed.getD j false=listed.getD j true:=by
  intro listed j hs hj
  rw[Array.getD_eq_getD_getElem?,Array.getD_eq_getD_getElem?]
  have:j<listed.size:=by omega
  simp[this]
 have hdone:∀ (listed:Array Bool),listed.size=n→Region.ready .any all listed = []→∀ j,j<n→listed.getD j false=true:=by
  intro listed hs hr j
  induction j using Nat.strongRecOn with
  | _ j ih =>
   intro hj
   cases hc:listed.getD j false with
   | true=>rfl
   | false =>
    have hjs:j<all.size:=by omega
    have:j∈Region.ready .any all listed:=by
     refine mem_ready.2 ⟨by rw[←hf listed j hs hj]; exact hc,all[j],by simp[hjs],fun e h1 h2 => ?_⟩
     have:=he j all[j] (by simp[hjs]) e h1 h2
     exact ih e.on this (by omega)
    rw[hr] at this;cases this
 intro fuel
 induction fuel with
 | zero =>
  intro listed a w hs hc hcl hi
  have hall:∀ j,j<n→listed.getD j false=true:=fun j hj=>by
   have:=cnt_zero hc j hj
   rw[hf listed j hs hj]
   simpa using this
  refine⟨?_,hQ a w (inv_mono (fun j hj=>⟨fun _=>trivial,fun _=>hall j hj⟩) hi)⟩
  apply List.eq_nil_iff_forall_not_mem.2
  intro j hj
  obtain⟨h1,o,ho,_⟩:=mem_ready.1 hj
  have hjn:j<n:=by
   have:=(Array.getElem?_eq_some_iff.1 ho).1
   omega
  have:=hall j hjn
  rw[hf listed j hs hjn] at this
  rw[h1] at this;cases this
 | succ fuel ih =>
  intro listed a w hs hc hcl hi
  refine⟨fun hr=>hQ a w (inv_mono (fun j hj=>⟨fun _=>trivial,fun _=>hdone listed hs hr j hj⟩) hi),fun j hj => ?_⟩
  obtain⟨h1,o,ho,hall⟩:=mem_ready.1 hj
  have hjn:j<n:=by
   have:=(Array.getElem?_eq_some_iff.1 ho).1
   omega
  have hjl:listed.getD j false=false:=by rw[hf listed j hs hjn]; exact h1
  refine inv_step hn hst hB (j:=j) hjn (by rw[hjl]; simp) (fun i _ hb=>hbits listed hcl j o ho hall i hb) ?_ hi fun a' w' h' => ?_
  ·intro i hin hil k _ hb
   have his:i<all.size:=by omega
   exact hbits listed hcl i all[i] (by simp[his]) (hcl i all[i] (by simp[his]) hil) k hb
  ·have hset:∀ i d,i<n→(listed.setIfInBounds j true).getD i d=if i=j then true else listed.getD i d:=by
    intro i d hi'
    have:j<listed.size:=by omega
    by_cases h:i=j
    ·subst h
     simp[this]
    ·rw[if_neg h]
     exact getD_set_ne d (fun e=>h e.symm)
   refine ih _ a' w' (by simp[hs]) ?_ ?_ ?_
   ·have:=cnt_less (p:=fun i => !listed.getD i true) (q:=fun i => !(listed.setIfInBounds j true).getD i true) hjn (by simp[←hf listed j hs hjn,hjl]) (by simp[hset j true hjn]) (fun i hi'=>by
     simp only[getD_set_ne true (fun e=>hi' e.symm)])
    omega
   ·intro i o' ho' hil e h2 h3
    have hin:i<n:=by
     have:=(Array.getElem?_eq_some_iff.1 ho').1
     omega
    refine getD_set_true ?_
    rw[hset i false hin] at hil
    split at hil
    ·rename_i e';subst e'
     rw[ho] at ho';cases ho'
     exact hall e h2 h3
    ·exact hcl i o' ho' hil e h2 h3
   ·refine inv_mono (fun i hi' => ?_) h'
    rw[hset i false hi']
    by_cases h:i=j
    ·subst h;simp
    ·simp[h]
end
end Go.Vm

namespace Go.Vm
set_option maxRecDepth 100000
def compile(P:Program):Code→VC
 | .skip => .skip
 | .ret => .ret
 | .exit id => .exit id
 | .region _ ops draw=>regOf P ops draw
 | .seq a b => .seq (compile P a) (compile P b)
 | .cond c a b=>match argOf c with
  | some x => .cond x (compile P a) (compile P b)
  | none => .reg false [] [badO]
 | .block id b => .block id (compile P b)
 | .loop b => .loop (compile P b)
 | _ => .reg false [] [badO]
def exitOf:Ex→Exit
 | .norm => .normal
 | .ret => .ret
 | .exit id => .exit id
def LoopWp(P:Program)(c:Code)(Q:Exit→Act→World→Prop)(a:Act)(w:World):Prop :=
 ∀ (b:Frame) (k:List Item) (cs:List Frame),∃ e a' w',Q e a' w'∧Arrives P (lone (b.at a (.code c :: .inLoop c::k)) cs w) b k cs e a' w'
theorem LoopWp.wp{P:Program}{c:Code}{Q:Exit→Act→World→Prop}{a:Act}{w:World}(h:LoopWp P c Q a w):(Code.loop c).wp P Q a w:=fun b k cs =>
 let ⟨e,a',w',hq,harr⟩:=h b k cs
 ⟨e,a',w',hq,.of_steps (.one step_loop) harr⟩
theorem LoopWp.step{P:Program}{c:Code}{Q:Exit→Act→World→Prop}{a:Act}{w:World}(h:c.wp P (Exit.then (LoopWp P c Q) Q) a w):LoopWp P c Q a w:=by
 intro b k cs
 obtain⟨e,a₁,w₁,hq,harr⟩:=h b (.inLoop c::k) cs
 cases e with
 | normal =>
  obtain⟨e₂,a₂,w₂,hq₂,harr₂⟩:=hq b k cs
  exact⟨e₂,a₂,w₂,hq₂,.of_steps (Steps.trans harr (.one step_inLoop)) harr₂⟩
 | exit id=>exact⟨_,a₁,w₁,hq,.pass (x := .inLoop c) rfl (fun _ _ => .inl (by simp)) harr⟩
 | goto l=>exact⟨_,a₁,w₁,hq,.pass (x := .inLoop c) rfl (fun _ _ => .inl (by simp)) harr⟩
 | ret=>exact⟨_,a₁,w₁,hq,.pass (x := .inLoop c) rfl (fun _ _ => .inl (by simp)) harr⟩
 | panic ch=>exact⟨_,a₁,w₁,hq,.pass (x := .inLoop c) rfl (fun _ _ => .inl (by simp)) harr⟩
 | outgrown=>exact⟨_,a₁,w₁,hq,.pass (x := .inLoop c) rfl (fun _ _ => .inl (by simp)) harr⟩
def LoopTo(P:Program)(n0:Nat)(b:VC)(fr:Fr)(H:Hl)(lg:List Nat)(ex:Ex)(fr':Fr)(H':Hl)(lg':List Nat):Prop :=
 ∀ c,compile P c=b→Goes (LoopWp P c) n0 fr H lg (exitOf ex) fr' H' lg'
structure Alg.Fine{R:Type}(A:Alg R)(P:Program)(holds:R→Prop):Prop extends A.Good holds where
 call:CallOK P holds A.call
 loop:∀ n0 b fr H lg k u,n0≤H.length→holds (A.loop n0 b fr H lg k u)→holds (u ())∨∃ ex fr' H' lg',LoopTo P n0 b fr H lg ex fr' H' lg'∧holds (k ex fr' H' lg')
theorem inv_end{n:Nat}{vf:Nat→VO}{t:Tr}{ρ0:Rho}{w0:World}{ds:List Deferred}{a:Act}{w:World}(h:Inv n vf t ρ0 w0 ds (fun _=>True) a w) :
  ∃ ρ,HRel ρ w (fun b=>(t.H n)[b]?)∧FRel ρ w (t.fr n) a.tmps∧(∀ m,Ext m ρ0 w0 ρ w)∧a.defers=ds:=by
 obtain⟨⟨ρ,fr,g,h1,h2,h3,h4,h5⟩,h6⟩:=h
 have e1:fr=t.fr n:=List.ext_getElem? fun s=>h4 s n (Nat.le_refl _) fun j hj _=>⟨fun _=>hj,fun _=>trivial⟩
 have e2:g=fun b=>(t.H n)[b]? := funext fun b=>h5 b n (Nat.le_refl _) fun j hj _ _=>⟨fun _=>hj,fun _=>trivial⟩
 subst e1;subst e2
 exact⟨ρ,h1,h2,h3,h6⟩
def RegWp(P:Program)(all:Array Oper)(draw:Bool)(Q:Exit→Act→World→Prop)(a:Act)(w:World):Prop :=
 match draw with
 | false=>wpOps P all Q (List.range all.size) a w
 | true=>∀ t,wpOps P all Q (Region.schedule (P.follows .mixedOrders) all t) a { w with drawn:=w.drawn+1 }
theorem upon_mono'{P:Program}{o:Oper}{a:Act}{next next':Act→World→Prop}{Q Q':Exit→Act→World→Prop}(hn:∀ a w,next a w→next' a w)(hq:∀ e a w,Q e a w→Q' e a w){r:Result Next}(h:o.upon P a next Q r):o.upon P a next' Q' r:=by
 unfold Oper.upon at h ⊢
 split at h
 ·exact hn _ _ h
 ·exact hn _ _ h
 ·exact hn _ _ h
 ·refine Calls.mono h ?_
  intro e w hh
  cases e with
  | returned v=>exact hn _ _ hh
  | panicked c=>exact hq _ _ _ hh
  | outgrown=>exact let ⟨a,w,k⟩:=hh;⟨a,w,hq _ _ _ k⟩
 ·exact Rows.mono h fun v w' k=>hn _ _ k
 ·exact hq _ _ _ h
 ·exact h.elim
theorem wpOps_mono'{P:Program}{all:Array Oper}{Q Q':Exit→Act→World→Prop}(hq:∀ e a w,Q e a w→Q' e a w):∀ (l:List Nat) (a:Act) (w:World),wpOps P all Q l a w→wpOps P all Q' l a w
 | [],a,w,h=>hq _ _ _ h
 | i::rest,a,w,h=>by
  simp only[wpOps] at h ⊢
  split at h
  ·exact wpOps_mono' hq rest a w h
  ·split at h
   ·rename_i hw
    rw[if_pos hw]
    rcases h with h|⟨h1,a1,w1,h2⟩
    ·exact .inl (upon_mono' (fun a w k=>wpOps_mono' hq rest a w k) hq h)
    ·exact .inr ⟨h1,a1,w1,hq _ _ _ h2⟩
   ·rename_i hw
    rw[if_neg hw]
    exact wpOps_mono' hq rest _ w h
theorem RegWp.mono{P:Program}{all:Array Oper}{draw:Bool}{Q Q':Exit→Act→World→Prop}{a:Act}{w:World}(h:RegWp P all draw Q a w)(hq:∀ e a w,Q e a w→Q' e a w):RegWp P all draw Q' a w:=by
 cases draw with
 | false=>exact wpOps_mono' hq _ a w h
 | true=>exact fun t=>wpOps_mono' hq _ a _ (h t)
section
variable {R:Type}{A:Alg R}{holds:R→Prop}{P:Program}{cf:CallF R}(good:A.Good holds)(hcf:CallOK P holds cf)
include good
theorem bad_region{i:Nat}{fr:Fr}{H:Hl}{lg:List Nat}{rs:List Rec}{k:Fr→Hl→List Nat→List Rec→R}(h:holds (vops A ops0 cf i [badO] fr H lg rs k)):False:=good.fail h
include hcf
theorem region_ops{all:Array Oper}{draw:Bool}{n0:Nat}{fr:Fr}{H:Hl}{lg:List Nat}{k:Fr→Hl→List Nat→R}(hn0:n0≤H.length)
  (h:∀ d bef vs,regOf P all draw = .reg d bef vs→holds (vops A ops0 cf 0 vs fr H lg [] fun fr H lg rs=>match d with
   | false=>k fr H lg
   | true=>racesK A bef rs (k fr H lg))) :
  ∃ fr' H' lg',Goes (RegWp P all draw) n0 fr H lg .normal fr' H' lg'∧holds (k fr' H' lg'):=by
 let vf:Nat→VO:=fun j=>(vosOf P all).getD j badO
 have hvf:∀ j o,all[j]? = some o→vf j=voOf P all o:=by
  intro j o ho
  simp[vf,vosOf,List.getD_eq_getElem?_getD,ho]
 let t0:Tr:=⟨fun _=>fr,fun _=>H,fun _ => .top,fun _ => [],fun _ => [],fun _=>false⟩
 have main:∀ (k':Fr→Hl→List Nat→List Rec→R),holds (vops A ops0 cf 0 (vosOf P all) fr H lg [] k')→∃ t lg',t.fr 0=fr∧t.H 0=H∧(∀ j o,j<all.size→all[j]? = some o→StepAt P all o (vf j) t j) ∧
   (∀ b,b∈lg→b∈lg')∧(∀ b,b<H.length→b ∉ lg'→(t.H all.size)[b]? = H[b]?)∧H.length≤(t.H all.size).length∧holds (k' (t.fr all.size) (t.H all.size) lg' (recs vf t all.size)):=by
  intro k' hk'
  have:=vops_sound good hcf all vf hvf H lg all.toList 0 t0 lg (fun j=>by simp) (fun j o hj=>by omega) (fun b hb=>hb) (fun b _ _=>rfl) (Nat.le_refl _) hk'
  simpa using this
 have start:∀ (t:Tr) (ρ:Rho) (w w1:World) (a:Act) (D:Nat→Prop),t.fr 0=fr→t.H 0=H→(∀ j o,j<all.size→all[j]? = some o→StepAt P all o (vf j) t j)→(∀ j,j<all.size→¬ D j) →
   HRel ρ w1 (fun b=>H[b]?)→FRel ρ w1 fr a.tmps→(∀ m,Ext m ρ w ρ w1)→Inv all.size vf t ρ w a.defers D a w1:=by
  intro t ρ w w1 a D h1 h2 hst hD hg hf hE
  refine⟨⟨ρ,fr,_,hg,hf,hE,fun s p hp hw => ?_,fun b p hp hw => ?_⟩,rfl⟩
  ·
   have mid:∀ d,d≤p→(t.fr d)[s]? = fr[s]? := by
    intro d
    induction d with
    | zero=>intro _;rw[h1]
    | succ d ih =>
     intro hd
     have hlt:d<all.size:=by omega
     have hst':=hst d all[d] hlt (by simp[hlt])
     rw[hst'.fr]
     have hne:(vf d).dst≠some s:=fun e=>hD d hlt ((hw d hlt e).2 (by omega))
     cases hdd:(vf d).dst with
     | none=>exact ih (by omega)
     | some d2 =>
      simp only[setD,put_eq]
      rw[set_get,if_neg (by intro e;subst e;exact hne hdd)]
      exact ih (by omega)
   exact(mid p (Nat.le_refl _)).symm
  ·have mid:∀ d,d≤p→(t.H d)[b]? = H[b]? := by
    intro d
    induction d with
    | zero=>intro _;rw[h2]
    | succ d ih =>
     intro hd
     have hlt:d<all.size:=by omega
     have hst':=hst d all[d] hlt (by simp[hlt])
     rw[hst'.keep b ?_]
     ·exact ih (by omega)
     ·intro hb
      have hr:t.run d=true:=by
       cases hr:t.run d with
       | true=>rfl
       | false=>rw[(hst'.passed hr).2.2.1] at hb;cases hb
      exact hD d hlt ((hw d hlt hr hb).2 (by omega))
   exact(mid p (Nat.le_refl _)).symm
 cases draw with
 | false =>
  have h:=h false [] (vosOf P all) rfl
  obtain⟨t,lg',t1,t2,hst,s1,s2,s3,h⟩:=main _ h
  refine⟨t.fr all.size,t.H all.size,lg',⟨Nat.le_trans hn0 s3,s1,fun b hb hn=>s2 b (by omega) hn,?_⟩,h⟩
  intro ρ w a Q hg hf hQ
  show wpOps P all Q (List.range all.size) a w
  rw[List.range_eq_range']
  refine ops_text (vf:=vf) (t:=t) (ρ0:=ρ) (w0:=w) (ds:=a.defers) rfl hst ⟨fun i j hij _ _=>hij,fun i j hij _ _ _ _=>hij⟩ ?_ all.size 0 a w (by omega) ?_
  ·intro a' w' hi
   obtain⟨ρ',g1,g2,g3,g4⟩:=inv_end hi
   exact hQ a' w' ρ' g1 g2 g4 (g3 n0)
  ·exact start t ρ w w a _ t1 t2 hst (fun j _=>by omega) hg hf (fun m=>Ext.refl m ρ w)
 | true =>
  unfold regOf at h
  simp only at h
  split at h
  ·rename_i hok
   simp only[Bool.and_eq_true] at hok
   have h:=h true _ _ rfl
   obtain⟨t,lg',t1,t2,hst,s1,s2,s3,h⟩:=main _ h
   obtain⟨h,hr⟩:=races_ok good h
   refine⟨t.fr all.size,t.H all.size,lg',⟨Nat.le_trans hn0 s3,s1,fun b hb hn=>s2 b (by omega) hn,?_⟩,h⟩
   intro ρ w a Q hg hf hQ
   show ∀ t,wpOps P all Q (Region.schedule (P.follows .mixedOrders) all t) a { w with drawn:=w.drawn+1 }
   intro tp
   have hsch:Region.schedule (P.follows .mixedOrders) all tp=Region.linearise .any all tp:=by
    unfold Region.schedule
    rw[if_pos hok.1.1]
   rw[hsch]
   unfold Region.linearise
   have hv:∀ j,j<all.size→(vosOf P all)[j]? = some (vf j):=by
    intro j hj
    simp[vf,vosOf,List.getD_eq_getElem?_getD,hj]
   refine wpAny_sound all.size tp _ a _ ?_
   refine ops_any (vf:=vf) (t:=t) (ρ0:=ρ) (w0:=w) (ds:=a.defers) rfl hst rfl (fun j o ho e h1 h2=>by
     have:=edgesOK_ok hok.1.2 j o (by simpa using ho) e h1 h2
     omega) ⟨fun i j hij hj hc => ?_,fun i j hij hj hri hrj hc=>hr i j hij hj hri hrj hc⟩ ?_ all.size _ a _ (by simp) ?_ ?_ ?_
   ·have:=slotsOK_ok hok.2 i j _ _ (hv i (by omega)) (hv j hj) hij hc
    simpa using this
   ·intro a' w' hi
    obtain⟨ρ',g1,g2,g3,g4⟩:=inv_end hi
    exact hQ a' w' ρ' g1 g2 g4 (g3 n0)
   ·rw[cnt_congr (q:=fun _=>true) (fun i hi=>by simp[hi])]
    exact cnt_all _
   ·intro j o _ hl
    exfalso
    rw[Array.getD_eq_getD_getElem?] at hl
    rcases Nat.lt_or_ge j all.size with h'|h'
    ·simp[h'] at hl
    ·rw[Array.getElem?_eq_none (by simpa using h')] at hl;cases hl
   ·refine start t ρ w _ a _ t1 t2 hst ?_ (hg.drew _) (vrels_bound (drew_ext ρ w _) hf) (drew_ext ρ w _)
    intro j hj
    rw[Array.getD_eq_getD_getElem?]
    simp[hj]
  ·have h:=h false [] [badO] rfl
   exact(bad_region good h).elim
theorem region_sound{id:Nat}{all:Array Oper}{draw:Bool}{n0:Nat}{fr:Fr}{H:Hl}{lg:List Nat}{k:Fr→Hl→List Nat→R}(hn0:n0≤H.length)
  (h:∀ d bef vs,regOf P all draw = .reg d bef vs→holds (vops A ops0 cf 0 vs fr H lg [] fun fr H lg rs=>match d with
   | false=>k fr H lg
   | true=>racesK A bef rs (k fr H lg))) :
  ∃ fr' H' lg',Goes ((Code.region id all draw).wp P) n0 fr H lg .normal fr' H' lg'∧holds (k fr' H' lg') :=
 let ⟨fr',H',lg',hg,hk⟩:=region_ops good hcf hn0 h
 ⟨fr',H',lg',hg.weak fun Q a w hw=>by
  have hw2:RegWp P all draw Q a w:=hw.mono (fun e1 a1 w1 hq=>by obtain⟨rfl,h⟩:=hq;exact h)
  cases draw with
  | false=>exact wp_region hw2
  | true=>exact wp_region_draw hw2,hk⟩
end
end Go.Vm

namespace Go.Vm
set_option maxRecDepth 100000
def resOf(P:Program):List ResultVar→Option (List RV)
 | []=>some []
 | .tmp t::rs=>match resOf P rs with
  | some xs=>some (.tmp t::xs)
  | none=>none
 | .cell a ty::rs=>match resOf P rs,P.underlying ty,P.info? ty with
  | some xs,some d,some i=>match isAggD d with
   | true=>some (.cell a i.size::xs)
   | false=>some (.cell1 a (kdOf d)::xs)
  | _,_,_=>none
structure FnOK(P:Program)(f:Nat)(vf:VF):Prop where
 ex:∃ fn c,P.funcs[f]? = some fn∧fn.body=some c∧(fn.name == "runtime.NumGoroutine")=false∧compile P c=vf.body∧fn.ntmps=vf.ntmps∧resOf P fn.results.toList=some vf.results
theorem FnOK.real{P:Program}{f:Nat}{vf:VF}(h:FnOK P f vf)(args:Array Value)(w:World):(callFunc f args).run P w = .ok (.enter f args) w:=by
 obtain⟨fn,c,h1,h2,h3,_⟩:=h.ex
 have h3:fn.name ≠ "runtime.NumGoroutine" := by simpa using h3
 simp[callFunc,h1,h2,h3]
def resVar(tmps:Array Value):ResultVar→Sem Value
 | .tmp t=>pure (tmps.getD t undef)
 | .cell a t=>do loadVar t (←asAddr (tmps.getD a undef))
section
variable {R:Type}{A:Alg R}{holds:R→Prop}{P:Program}(good:A.Good holds)
include good
theorem results_sound{fr:Fr}{H:Hl}:∀ {rvs:List ResultVar} {rv:List RV} {k:List AV→R},resOf P rvs=some rv→holds (results A ops0 rv fr H k) →
  ∃ vs,holds (k vs)∧∀ (ρ:Rho) (w:World) (tmps:Array Value),HRel ρ w (fun b=>H[b]?)→FRel ρ w fr tmps →
   ∃ us:List Value,(rvs.mapM (resVar tmps)).run P w = .ok us w∧VRels ρ w vs us
 | [],rv,k,hr,h=>by
  cases hr
  exact⟨[],h,fun ρ w tmps _ _=>⟨[],by simp,.nil⟩⟩
 | .tmp t::rs,rv,k,hr,h=>by
  simp only[resOf] at hr
  split at hr<;>first|cases hr|skip
  rename_i xs hx
  obtain⟨vs,h,hv⟩:=results_sound hx (show holds (results A ops0 xs fr H fun vs=>k (slot fr t::vs)) from h)
  refine⟨_,h,fun ρ w tmps hg hf => ?_⟩
  obtain⟨us,h1,h2⟩:=hv ρ w tmps hg hf
  exact⟨_,by simp only[List.mapM_cons,resVar,Sem.run_bind,Sem.run_pure,Result.andThen_ok,h1],.cons (slot_rel hf t) h2⟩
 | .cell t ty::rs,rv,k,hr,h=>by
  simp only[resOf] at hr
  split at hr<;>first|cases hr|skip
  rename_i xs d i hx hd hi
  split at hr<;>cases hr
  ·rename_i ha
   unfold results at h
   split at h
   ·rename_i b o hs
    obtain⟨cs,hb,h⟩:=blkK_sound good h
    obtain⟨hle,h⟩:=good.chk _ _ h
    have hle:o+i.size≤cs.length:=by simpa[ops0] using hle
    obtain⟨vs,h,hv⟩:=results_sound hx h
    refine⟨_,h,fun ρ w tmps hg hf => ?_⟩
    obtain⟨us,h1,h2⟩:=hv ρ w tmps hg hf
    have hp:=slot_rel hf t
    rw[hs] at hp
    obtain⟨B,F,c,e,lo,hi',hl,hve,hc,hsz,hfz,hli⟩:=ptr_live hg hb hp
    obtain⟨ws,hwl,hwc,hwl2,hwo⟩:=(Lies.sub hli o i.size).values
    have hlen:((cs.drop o).take i.size).length=i.size:=by simp;omega
    have hrun:=run_ldn hd ha hi (B:=B) (X:=F+o) (w:=w) (vs:=ws) (by omega) (fun j v hv=>by rw[cell_at hc]; exact hwc j v hv)
    refine⟨.agg ws.toArray::us,?_,.cons (agg_of_lies hwl hwl2) h2⟩
    simp only[List.mapM_cons,resVar,Sem.run_bind,hve,asAddr,Sem.run_pure,Result.andThen_ok,hrun,h1]
   ·exact(good.fail h).elim
  ·rename_i ha
   unfold results at h
   split at h
   ·rename_i b o hs
    obtain⟨cs,hb,h⟩:=blkK_sound good h
    obtain⟨x,hx',h⟩:=good.get _ _ _ _ h
    obtain⟨vs,h,hv⟩:=results_sound hx h
    refine⟨_,h,fun ρ w tmps hg hf => ?_⟩
    obtain⟨us,h1,h2⟩:=hv ρ w tmps hg hf
    have hp:=slot_rel hf t
    rw[hs] at hp
    obtain⟨B,F,c,e,lo,hi',hl,hve,hc,hsz,hfz,hli⟩:=ptr_live hg hb hp
    obtain⟨v,hvc,_,hvr⟩:=hli o x hx'
    have hrun:=run_ld1 hd ha ⟨B,F+o,none⟩ w (v:=v) (by rw[cell_at hc]; exact hvc)
    refine⟨v::us,?_,.cons hvr h2⟩
    simp only[List.mapM_cons,resVar,Sem.run_bind,hve,asAddr,Sem.run_pure,Result.andThen_ok,hrun,h1]
   ·exact(good.fail h).elim
omit good in
theorem pack_rel{ρ:Rho}{w:World}{vs:List AV}{us:List Value}(h:VRels ρ w vs us):VRel ρ w (pack vs) (if h:us.toArray.size=1 then us.toArray[0] else .tuple us.toArray):=by
 have hl:=h.len
 rcases vs with _|⟨x,_|⟨y,vs⟩⟩
 ·have:us = []:=List.eq_nil_of_length_eq_zero (by simpa using hl)
  subst this
  exact .tup [] [] rfl (fun i a v ha _=>by simp at ha)
 ·rcases us with _|⟨u,_|⟨v,us⟩⟩
  ·simp at hl
  ·exact h.one
  ·simp at hl
 ·rcases us with _|⟨u,_|⟨v,us⟩⟩
  ·simp at hl
  ·simp at hl
  ·exact .tup _ _ h.len h.at_
theorem fn_results{fn:Func}{rv:List RV}{fr:Fr}{H:Hl}{k:List AV→R}(hr:resOf P fn.results.toList=some rv)(h:holds (results A ops0 rv fr H k)) :
  ∃ vs,holds (k vs)∧∀ (ρ:Rho) (w:World) (tmps:Array Value),HRel ρ w (fun b=>H[b]?)→FRel ρ w fr tmps→∃ v,(Go.results fn tmps).run P w = .ok v w∧VRel ρ w (pack vs) v:=by
 obtain⟨vs,h,hv⟩:=results_sound good hr h
 refine⟨vs,h,fun ρ w tmps hg hf => ?_⟩
 obtain⟨us,h1,h2⟩:=hv ρ w tmps hg hf
 refine⟨_,?_,pack_rel h2⟩
 have hm:(fn.results.mapM (resVar tmps)).run P w = .ok us.toArray w:=by
  rw[Array.mapM_eq_mapM_toList,Sem.run_map,h1]
  rfl
 show((fn.results.mapM (resVar tmps) >>= fun vs=>pure (if h:vs.size=1 then vs[0] else .tuple vs)):Sem Value).run P w=_
 rw[Sem.run_bind,hm]
 rfl
end
theorem pad_eq(n:Nat):pad n=List.replicate n (.tup []):=by
 induction n with
 | zero=>rfl
 | succ n ih=>simp[pad,ih,List.replicate_succ]
theorem frame0{ρ:Rho}{w:World}{vals:List AV}{us:List Value}(h:VRels ρ w vals us)(n:Nat) :
  FRel ρ w (join vals (pad (n - size vals))) (us.toArray++Array.replicate (n - us.toArray.size) undef):=by
 have hl:=h.len
 rw[join_eq,pad_eq,size_eq]
 have:(us.toArray++Array.replicate (n - us.toArray.size) undef).toList=us++List.replicate (n - vals.length) undef:=by
  simp[hl]
 unfold FRel
 rw[this]
 refine h.append ⟨by simp,fun i a v ha hv => ?_⟩
 rw[List.getElem?_replicate] at ha hv
 split at ha
 ·rename_i hi
  rw[if_pos hi] at hv
  cases ha;cases hv
  exact undef_rel ρ w
 ·cases ha
section
variable {R:Type}{A:Alg R}{holds:R→Prop}{P:Program}(fine:A.Fine P holds){T:Nat→Option VF}(hT:∀ f vf,T f=some vf→FnOK P f vf)
include fine
theorem call_of_body{f:Nat}{vf:VF}(hfn:FnOK P f vf){vals:List AV}{H:Hl}{k:AV→Hl→List Nat→R}{n:Nat}
  (ih:∀ c n0 fr H lg (k:Ex→Fr→Hl→List Nat→R),n0≤H.length→holds (vm A ops0 T n n0 (compile P c) fr H lg k)→∃ ex fr' H' lg',Goes (c.wp P) n0 fr H lg (exitOf ex) fr' H' lg'∧holds (k ex fr' H' lg'))
  (h:holds (vcall A ops0 T n vf vals H k)):∃ r H' lg,CallTo P f vals H r H' lg∧holds (k r H' lg):=by
 have hreal:=hfn.real
 obtain⟨fn,c,hf,hb,hname,hcomp,hnt,hres⟩:=hfn.ex
 unfold vcall at h
 rw[←hcomp,←hnt] at h
 obtain⟨ex,fr',H',lg',hg,h⟩:=ih c (size H) _ H [] _ (by rw[size_eq]; exact Nat.le_refl _) h
 have fin:∀ e,(e = .normal∨e = .ret)→exitOf ex=e→holds (results A ops0 vf.results fr' H' fun vs=>k (pack vs) H' lg')→∃ r H' lg,CallTo P f vals H r H' lg∧holds (k r H' lg):=by
  intro e he hee h
  obtain⟨vs,h,hv⟩:=fn_results fine.toGood hres h
  refine⟨_,_,_,⟨hreal,by have:=hg.grow;rwa [size_eq] at this,fun b hb hn=>hg.keep b (by rw[size_eq]; exact hb) hn,?_⟩,h⟩
  intro ρ w us hgw hvs
  refine calls_of_wp hf hb ?_
  refine hg.does ρ w _ _ hgw (frame0 hvs _) fun a' w' ρ' g1 g2 g3 g4 => ?_
  obtain⟨v,h1,h2⟩:=hv ρ' w' a'.tmps g1 g2
  rw[size_eq] at g4
  rw[hee]
  rcases he with rfl|rfl
  ·exact⟨g3,v,h1,v,ρ',rfl,g1,h2,g4⟩
  ·exact⟨g3,v,h1,v,ρ',rfl,g1,h2,g4⟩
 cases ex with
 | norm=>exact fin .normal (.inl rfl) rfl h
 | ret=>exact fin .ret (.inr rfl) rfl h
 | exit id=>exact(fine.fail h).elim
include hT
theorem vm_sound:∀ (n:Nat),
  (∀ c n0 fr H lg (k:Ex→Fr→Hl→List Nat→R),n0≤H.length→holds (vm A ops0 T n n0 (compile P c) fr H lg k)→∃ ex fr' H' lg',Goes (c.wp P) n0 fr H lg (exitOf ex) fr' H' lg'∧holds (k ex fr' H' lg')) ∧
  (∀ c n0 fr H lg (k:Ex→Fr→Hl→List Nat→R),n0≤H.length→holds (vm A ops0 T n n0 (.loop (compile P c)) fr H lg k)→∃ ex fr' H' lg',Goes (LoopWp P c) n0 fr H lg (exitOf ex) fr' H' lg'∧holds (k ex fr' H' lg'))
 | 0=>⟨fun c n0 fr H lg k _ h=>(fine.fail h).elim,fun c n0 fr H lg k _ h=>(fine.fail h).elim⟩
 | n+1=>by
  obtain⟨ihS,ihL⟩:=vm_sound n
  have hcf:CallOK P holds (fun f vals H k=>match T f with
    | none=>A.call f vals H k
    | some vf=>vm A ops0 T n (size H) vf.body (join vals (pad (vf.ntmps - size vals))) H [] fun ex fr H' lg=>match ex with
     | .exit _=>A.fail
     | _=>results A ops0 vf.results fr H' fun vs=>k (pack vs) H' lg):=by
   intro f vals H k h
   simp only at h
   split at h
   ·exact fine.call f vals H k h
   ·rename_i vf hvf
    exact call_of_body fine (hT f vf hvf) ihS h
  have L:∀ c n0 fr H lg (k:Ex→Fr→Hl→List Nat→R),n0≤H.length→holds (vm A ops0 T (n+1) n0 (.loop (compile P c)) fr H lg k)→∃ ex fr' H' lg',Goes (LoopWp P c) n0 fr H lg (exitOf ex) fr' H' lg'∧holds (k ex fr' H' lg'):=by
   intro c n0 fr H lg k hn0 h
   unfold vm at h
   rcases fine.loop _ _ _ _ _ _ _ hn0 h with h|⟨ex,fr',H',lg',h1,h2⟩
   ·obtain⟨ex,fr',H',lg',hg,h⟩:=ihS c n0 fr H lg _ hn0 h
    cases ex with
    | norm =>
     obtain⟨ex2,fr2,H2,lg2,hg2,h⟩:=ihL c n0 fr' H' lg' k hg.grow h
     exact⟨ex2,fr2,H2,lg2,hg.trans hg2 fun Q a w hw=>LoopWp.step (wp_mono hw (by rintro e a w ⟨rfl,h⟩; exact h)),h⟩
    | ret=>exact⟨.ret,fr',H',lg',hg.weak fun Q a w hw=>LoopWp.step (wp_mono hw (by rintro e a w ⟨rfl,h⟩; exact h)),h⟩
    | exit id=>exact⟨.exit id,fr',H',lg',hg.weak fun Q a w hw=>LoopWp.step (wp_mono hw (by rintro e a w ⟨rfl,h⟩; exact h)),h⟩
   ·exact⟨ex,fr',H',lg',h1 c rfl,h2⟩
  refine⟨?_,L⟩
  intro c n0 fr H lg k hn0 h
  cases c with
  | skip=>exact⟨.norm,fr,H,lg,⟨hn0,fun b hb=>hb,fun b _ _=>rfl,fun ρ w a Q h1 h2 hQ=>wp_skip (hQ a w ρ h1 h2 rfl (Ext.refl _ _ _))⟩,h⟩
  | ret=>exact⟨.ret,fr,H,lg,⟨hn0,fun b hb=>hb,fun b _ _=>rfl,fun ρ w a Q h1 h2 hQ=>wp_ret (hQ a w ρ h1 h2 rfl (Ext.refl _ _ _))⟩,h⟩
  | exit id=>exact⟨.exit id,fr,H,lg,⟨hn0,fun b hb=>hb,fun b _ _=>rfl,fun ρ w a Q h1 h2 hQ=>wp_exit (hQ a w ρ h1 h2 rfl (Ext.refl _ _ _))⟩,h⟩
  | region id ops draw =>
   obtain⟨fr',H',lg',hg,h⟩:=region_sound fine.toGood hcf (id:=id) (all:=ops) (draw:=draw) (n0:=n0) (fr:=fr) (H:=H) (lg:=lg) (k:=fun fr H lg=>k .norm fr H lg) hn0 (fun d bef vs e=>by
    have h:holds (vm A ops0 T (n+1) n0 (regOf P ops draw) fr H lg k):=h
    rw[e] at h
    exact h)
   exact⟨.norm,fr',H',lg',hg,h⟩
  | seq x y =>
   obtain⟨ex,fr',H',lg',hg,h⟩:=ihS x n0 fr H lg _ hn0 h
   cases ex with
   | norm =>
    obtain⟨ex2,fr2,H2,lg2,hg2,h⟩:=ihS y n0 fr' H' lg' k hg.grow h
    exact⟨ex2,fr2,H2,lg2,hg.trans hg2 fun Q a w hw=>wp_seq (wp_mono hw (by rintro e a w ⟨rfl,h⟩; exact h)),h⟩
   | ret=>exact⟨.ret,fr',H',lg',hg.weak fun Q a w hw=>wp_seq (wp_mono hw (by rintro e a w ⟨rfl,h⟩; exact h)),h⟩
   | exit id=>exact⟨.exit id,fr',H',lg',hg.weak fun Q a w hw=>wp_seq (wp_mono hw (by rintro e a w ⟨rfl,h⟩; exact h)),h⟩
  | cond c x y =>
   simp only[compile] at h
   cases hc:argOf c with
   | none=>rw[hc] at h;exact(fine.fail h).elim
   | some z =>
    rw[hc] at h
    have h:holds (match ev fr z with
     | .bool true=>vm A ops0 T n n0 (compile P x) fr H lg k
     | .bool false=>vm A ops0 T n n0 (compile P y) fr H lg k
     | _=>A.fail):=h
    split at h
    ·rename_i hev
     obtain⟨ex,fr',H',lg',hg,h⟩:=ihS x n0 fr H lg k hn0 h
     refine⟨ex,fr',H',lg',⟨hg.grow,hg.sub,hg.keep,fun ρ w a Q h1 h2 hQ => ?_⟩,h⟩
     have:=arg_rel h2 hc
     rw[hev] at this
     exact wp_cond_true (inv_bool this) (hg.does ρ w a Q h1 h2 hQ)
    ·rename_i hev
     obtain⟨ex,fr',H',lg',hg,h⟩:=ihS y n0 fr H lg k hn0 h
     refine⟨ex,fr',H',lg',⟨hg.grow,hg.sub,hg.keep,fun ρ w a Q h1 h2 hQ => ?_⟩,h⟩
     have:=arg_rel h2 hc
     rw[hev] at this
     exact wp_cond_false (inv_bool this) (hg.does ρ w a Q h1 h2 hQ)
    ·exact(fine.fail h).elim
  | block id x =>
   replace h:=ihS x n0 fr H lg _ hn0 h
   obtain⟨ex,fr',H',lg',hg,h⟩:=h
   cases ex with
   | norm=>exact⟨.norm,fr',H',lg',hg.weak fun Q a w hw=>wp_block (wp_mono hw (by rintro e a w ⟨rfl,h⟩; exact h)),h⟩
   | ret=>exact⟨.ret,fr',H',lg',hg.weak fun Q a w hw=>wp_block (wp_mono hw (by rintro e a w ⟨rfl,h⟩; exact h)),h⟩
   | exit j =>
    simp only at h
    split at h
    ·rename_i hj
     have hj:=Nat.eq_of_beq_eq_true hj
     subst hj
     exact⟨.norm,fr',H',lg',hg.weak fun Q a w hw=>wp_block (wp_mono hw (by rintro e a w ⟨rfl,h⟩; simpa[exitOf,Exit.inBlock] using h)),h⟩
    ·rename_i hj
     have hj:j≠id:=by intro e;subst e;simp[Nat.beq_refl] at hj
     exact⟨.exit j,fr',H',lg',hg.weak fun Q a w hw=>wp_block (wp_mono hw (by rintro e a w ⟨rfl,h⟩; simpa[exitOf,Exit.inBlock,hj] using h)),h⟩
  | loop x =>
   obtain⟨ex,fr',H',lg',hg,h⟩:=L x n0 fr H lg k hn0 h
   exact⟨ex,fr',H',lg',hg.weak fun Q a w hw=>LoopWp.wp (by
    have:(fun e1 a1 w1=>e1=exitOf ex∧Q (exitOf ex) a1 w1)=fun e1 a1 w1=>e1=exitOf ex∧Q e1 a1 w1:=by
     funext e1 a1 w1
     exact propext ⟨fun⟨a,b⟩=>⟨a,a ▸ b⟩,fun⟨a,b⟩=>⟨a,a ▸ b⟩⟩
    rw[this] at hw
    intro b k cs
    obtain⟨e,a',w',hq,harr⟩:=hw b k cs
    exact⟨e,a',w',hq.2,harr⟩),h⟩
  | _=>exact(fine.fail h).elim
theorem vcall_sound{n:Nat}{f:Nat}{vf:VF}(hfn:FnOK P f vf){vals:List AV}{H:Hl}{k:AV→Hl→List Nat→R}(h:holds (vcall A ops0 T n vf vals H k)) :
  ∃ r H' lg,CallTo P f vals H r H' lg∧holds (k r H' lg) :=
 call_of_body fine hfn (vm_sound fine hT n).1 h
end
end Go.Vm

namespace Go.Vm
set_option maxRecDepth 100000
noncomputable section
def toInts(kd:IntKind):List AV→Option (List Int)
 | []=>some []
 | .int k n::cs=>match sameK k kd,toInts kd cs with
  | true,some l=>some (n::l)
  | _,_=>none
 | _=>none
def toByts:List AV→Option (List UInt8)
 | []=>some []
 | .int .u8 (.ofNat m)::cs=>match Nat.blt m 256,toByts cs with
  | true,some l=>some (UInt8.ofNat m::l)
  | _,_=>none
 | _=>none
theorem toInts_ok{kd:IntKind}:∀ {cs:List AV} {l:List Int},toInts kd cs=some l→cs=l.map (AV.int kd)
 | [],l,h=>by cases h;rfl
 | c::cs,l,h=>by
  cases c with
  | int k n =>
   simp only[toInts] at h
   split at h<;>first|cases h|skip
   rename_i h1 h2
   rw[sameK_eq h1,toInts_ok h2]
   rfl
  | _=>cases h
theorem toByts_ok:∀ {cs:List AV} {l:List UInt8},toByts cs=some l→cs=l.map (fun b=>AV.int .u8 b.toNat)
 | [],l,h=>by cases h;rfl
 | c::cs,l,h=>by
  cases c with
  | int k n =>
   cases k with
   | u8 =>
    cases n with
    | ofNat m =>
     simp only[toByts] at h
     split at h<;>first|cases h|skip
     rename_i h1 h2
     have h1:=(blt_iff _ _).1 h1
     rw[toByts_ok h2]
     simp only[List.map_cons]
     congr 2
     have:(UInt8.ofNat m).toNat=m:=by simp[UInt8.toNat_ofNat']; omega
     rw[this]
     rfl
    | negSucc m=>cases h
   | _=>cases h
  | _=>cases h
def stdA(R:Type)(ff:R)(call:CallF R):Alg R where
 fail:=ff
 chk b r:=match b with
  | true=>r
  | false=>ff
 br b r s:=match b with
  | true=>r
  | false=>s
 get _ cs i k:=match nth cs i with
  | some v=>k v
  | none=>ff
 flo o k:=match o with
  | some r=>k r
  | none=>ff
 fit _ _ _ _ s:=s
 ints kd cs k:=match toInts kd cs with
  | some l=>k l
  | none=>ff
 byts cs k:=match toByts cs with
  | some l=>k l
  | none=>ff
 call:=call
 loop _ _ _ _ _ _ u:=u ()
theorem stdA_fine{R:Type}{ff:R}{call:CallF R}{P:Program}{holds:R→Prop}(h0:¬ holds ff)(hc:CallOK P holds call):(stdA R ff call).Fine P holds where
 fail:=h0
 chk b r h:=by
  cases b with
  | true=>exact⟨rfl,h⟩
  | false=>exact absurd h h0
 br b r s h:=by
  cases b with
  | true=>exact .inl ⟨rfl,h⟩
  | false=>exact .inr ⟨rfl,h⟩
 get kd cs i k h:=by
  have h:holds (match nth cs i with
   | some v=>k v
   | none=>ff):=h
  rw[nth_eq] at h
  split at h
  ·rename_i v e;exact⟨v,e,h⟩
  ·exact absurd h h0
 fit l n c r s h := .inr h
 flo o k h:=by
  cases o with
  | some r=>exact⟨r,rfl,h⟩
  | none=>exact absurd h h0
 ints kd cs k h:=by
  have h:holds (match toInts kd cs with
   | some l=>k l
   | none=>ff):=h
  split at h
  ·rename_i l e;exact⟨l,toInts_ok e,h⟩
  ·exact absurd h h0
 byts cs k h:=by
  have h:holds (match toByts cs with
   | some l=>k l
   | none=>ff):=h
  split at h
  ·rename_i l e;exact⟨l,toByts_ok e,h⟩
  ·exact absurd h h0
 call:=hc
 loop n0 b fr H lg k u _ h := .inl h
abbrev Con:=Nat→List AV→Hl→Option (AV × Hl × List Nat)
def ConOK(P:Program)(C:Con):Prop:=∀ f vals H r H' lg,C f vals H=some (r,H',lg)→CallTo P f vals H r H' lg
def conF{R:Type}(ff:R)(C:Con):CallF R:=fun f vals H k=>match C f vals H with
 | some (r,H',lg)=>k r H' lg
 | none=>ff
theorem conF_ok{R:Type}{ff:R}{P:Program}{holds:R→Prop}(h0:¬ holds ff){C:Con}(hC:ConOK P C):CallOK P holds (conF ff C):=by
 intro f vals H k h
 unfold conF at h
 split at h
 ·rename_i r H' lg e;exact⟨r,H',lg,hC _ _ _ _ _ _ e,h⟩
 ·exact absurd h h0
def noCon:Con:=fun _ _ _=>none
theorem noCon_ok(P:Program):ConOK P noCon:=fun _ _ _ _ _ _ h=>by cases h
def vfOf(P:Program)(fn:Func):Option VF :=
 match fn.body,resOf P fn.results.toList with
 | some c,some rv=>some ⟨fn.ntmps,rv,compile P c⟩
 | _,_=>none
theorem FnOK.of{P:Program}{f:Nat}{fn:Func}{vf:VF}(h1:P.funcs[f]? = some fn)(h2:(fn.name == "runtime.NumGoroutine")=false)(h3:vfOf P fn=some vf):FnOK P f vf:=by
 unfold vfOf at h3
 split at h3
 ·rename_i c rv hb hr
  cases h3
  exact⟨fn,c,h1,hb,h2,rfl,rfl,hr⟩
 ·cases h3
abbrev Tab:=List (Option VF)
def tabF(t:Tab)(f:Nat):Option VF:=match nth t f with
 | some v=>v
 | none=>none
end
end Go.Vm

namespace Go.Vm
set_option maxRecDepth 100000
noncomputable section
abbrev Out:=AV × Hl × List Nat
def optA(C:Con):Alg (Option Out):=stdA (Option Out) none (conF none C)
def outK:AV→Hl→List Nat→Option Out:=fun r H lg=>some (r,H,lg)
theorem call_opt{P:Program}{C:Con}(hC:ConOK P C){T:Nat→Option VF}(hT:∀ f vf,T f=some vf→FnOK P f vf){f n:Nat}{vf:VF}(hf:T f=some vf){vals:List AV}{H H':Hl}{r:AV}{lg:List Nat}
  (h:vcall (optA C) ops0 T n vf vals H outK=some (r,H',lg)):CallTo P f vals H r H' lg:=by
 have hfine:(optA C).Fine P (fun x=>x=some (r,H',lg)):=stdA_fine (by simp) (conF_ok (by simp) hC)
 obtain⟨r1,H1,lg1,hc,e⟩:=vcall_sound hfine hT (hT f vf hf) (holds:=fun x=>x=some (r,H',lg)) h
 cases e
 exact hc
def opsW(β σ:BinOp→Int→Int→Int):Ops := { ops0 with
  bin:=fun op k x y=>match k with
    | .u64=>β op x y
    | k=>bin0 op k x y
  shf:=fun op k x y=>match k with
    | .u64=>σ op x y
    | k=>shf0 op k x y }
theorem opsW_eq:opsW (fun op=>bin0 op .u64) (fun op=>shf0 op .u64)=ops0:=by
 have h1:(opsW (fun op=>bin0 op .u64) (fun op=>shf0 op .u64)).bin=ops0.bin:=by
  funext op k x y
  cases k<;>rfl
 have h2:(opsW (fun op=>bin0 op .u64) (fun op=>shf0 op .u64)).shf=ops0.shf:=by
  funext op k x y
  cases k<;>rfl
 show { ops0 with bin:=(opsW (fun op=>bin0 op .u64) (fun op=>shf0 op .u64)).bin,shf:=(opsW (fun op=>bin0 op .u64) (fun op=>shf0 op .u64)).shf }=ops0
 rw[h1,h2]
end
end Go.Vm

namespace Go.Vm
set_option maxRecDepth 100000
noncomputable section
mutual
def ren(σ:Nat→Option Nat)(φ:Nat→Option (List AV))(kp:Bool):AV→AV
 | .ptr b o=>match σ b with
  | some c => .ptr c o
  | none => .top
 | .slc b o len cap sz=>match σ b with
  | some c => .slc c o len cap sz
  | none=>match φ b with
   | some cs => .ros cs o len cap false
   | none => .top
 | .ros cs o len cap e=>match kp with
  | true => .ros (renL σ φ true cs) o len cap e
  | false=>match cs with
   | [] => .ros [] o len cap e
   | _ => .top
 | .rop cs o=>match kp with
  | true => .rop (renL σ φ true cs) o
  | false => .top
 | .agg cs => .agg (renL σ φ kp cs)
 | .tup cs => .tup (renL σ φ kp cs)
 | .fn f xs ys => .fn f (renL σ φ kp xs) (renL σ φ kp ys)
 | .ifc t v => .ifc t (ren σ φ kp v)
 | .top => .top
 | .bool b => .bool b
 | .int k n => .int k n
 | .flt k n => .flt k n
 | .str s => .str s
 | .nilp => .nilp
 | .nils => .nils
 | .nilf => .nilf
 | .nili => .nili
 | .mp b=>match σ b with
  | some c => .mp c
  | none => .top
def renL(σ:Nat→Option Nat)(φ:Nat→Option (List AV))(kp:Bool):List AV→List AV
 | [] => []
 | x::xs=>ren σ φ kp x::renL σ φ kp xs
end
theorem renL_get(σ:Nat→Option Nat)(φ:Nat→Option (List AV))(kp:Bool)(cs:List AV)(i:Nat):(renL σ φ kp cs)[i]? = (cs[i]?).map (ren σ φ kp):=by
 induction cs generalizing i with
 | nil=>simp[renL]
 | cons x cs ih=>cases i<;>simp[renL,ih]
theorem renL_length(σ:Nat→Option Nat)(φ:Nat→Option (List AV))(kp:Bool)(cs:List AV):(renL σ φ kp cs).length=cs.length:=by
 induction cs with
 | nil=>simp[renL]
 | cons x cs ih=>simp[renL,ih]
theorem renL_nil(σ:Nat→Option Nat)(φ:Nat→Option (List AV))(kp:Bool)(cs:List AV):renL σ φ kp cs = []↔cs = []:=by
 cases cs<;>simp[renL]
structure Views(ρ ρ':Rho)(w:World)(σ:Nat→Option Nat)(φ:Nat→Option (List AV)):Prop where
 at_:∀ b cs,σ b=none→φ b=some cs→(ρ b = .void∧cs = [])∨ρ b = .dead∨∃ B F,∃ vs:List Value,ρ b = .live B F∧B<w.heap.size∧(∀ c F',ρ' c ≠ .live B F')∧vs.length=cs.length∧(∀ v∈vs,vone v=true) ∧
  (∀ i v,vs[i]? = some v→w.cell? ⟨B,F+i,none⟩=some v)∧(∀ (i:Nat) (a:AV) (v:Value),cs[i]? = some a→vs[i]? = some v→VRel ρ' w a v)
 dead:∀ b cs,φ b=some cs→ρ b ≠ .dead
theorem ren_rel{ρ ρ':Rho}{w:World}{σ:Nat→Option Nat}{φ:Nat→Option (List AV)}{kp:Bool}(hσ:∀ b c,σ b=some c→ρ' c=ρ b)(hown:kp=true→∀ c B F,ρ' c = .live B F→∃ b F',ρ b = .live B F')(hφ:Views ρ ρ' w σ φ){a:AV}{v:Value}
  (h:VRel ρ w a v):VRel ρ' w (ren σ φ kp a) v:=by
 have hlist:∀ (cs:List AV) (vs:List Value),(∀ (i:Nat) (a:AV) (v:Value),cs[i]? = some a→vs[i]? = some v→VRel ρ' w (ren σ φ kp a) v) →
   ∀ (i:Nat) (a:AV) (v:Value),(renL σ φ kp cs)[i]? = some a→vs[i]? = some v→VRel ρ' w a v:=by
  intro cs vs h i a v ha hv
  rw[renL_get] at ha
  obtain⟨x,hx,e⟩:=Option.map_eq_some_iff.1 ha
  subst e
  exact h i x v hx hv
 induction h with
 | top v=>exact .top v
 | bool b=>exact .bool b
 | int k n=>exact .int k n
 | flt k n=>exact .flt k n
 | str s=>exact .str s
 | nilp=>exact .nilp
 | ptr b o v h0 h1 hs h =>
  simp only[ren]
  split
  ·rename_i c hc
   have e:=hσ b c hc
   exact .ptr c o v (by rw[e]; exact h0) (by rw[e]; exact h1) hs (by rw[e]; exact h)
  ·exact .top v
 | nils=>exact .nils
 | slc b o len cap sz v h0 hs hv h =>
  simp only[ren]
  split
  ·rename_i c hc
   have e:=hσ b c hc
   exact .slc c o len cap sz v (by rw[e]; exact h0) hs (by rw[e]; exact hv) (by rw[e]; exact h)
  ·rename_i hc
   split
   ·rename_i cs hcs
    rcases hφ.at_ b cs hc hcs with ⟨g0,g1⟩|g|⟨B,F,vs,g1,g2,g3,g4,g5,g6,g7⟩
    ·obtain⟨ao,rfl,rfl,rfl⟩:=hv g0
     subst g1
     exact .ros [] o 0 0 false 0 0 ao 0 [] (fun h=>absurd rfl h) (fun h=>absurd rfl h) rfl (by simp) (by simp) (by simp) (Nat.le_refl _) (Nat.le_refl _) (fun h=>by cases h) (fun h=>absurd rfl h)
    ·exact absurd g (hφ.dead b cs hcs)
    ·obtain⟨ao,cap',k1,k2,rfl,k4,k5⟩:=h B F g1
     exact .ros cs o len cap false B F ao cap' vs (fun _=>g2) (fun _=>g3) g4 g5 g6 g7 k1 k2 (fun h=>by cases h) k4
   ·exact .top v
 | ros cells off len cap exact B F ao cap' vs hlt hp hl ho hc hr hcap hlen he ha ih =>
  simp only[ren]
  split
  ·refine .ros _ off len cap exact B F ao cap' vs (fun hn=>hlt fun h=>hn ((renL_nil σ φ true cells).2 h)) (fun hn c F' hl' => ?_) (by rw[renL_length]; exact hl) ho hc (hlist _ _ ih) hcap hlen he ha
   obtain⟨b,F2,hb⟩:=hown rfl c B F' hl'
   exact hp (fun h=>hn ((renL_nil σ φ true cells).2 h)) b F2 hb
  ·split
   ·exact .ros [] off len cap exact B F ao cap' vs (fun h=>absurd rfl h) (fun h=>absurd rfl h) hl ho hc (by simp) hcap hlen he ha
   ·exact .top _
 | rop cells off B F vs hlt hp hl ho hc hr ih =>
  simp only[ren]
  split
  ·refine .rop _ off B F vs (fun hn=>hlt fun h=>hn ((renL_nil σ φ true cells).2 h)) (fun hn c F' hl' => ?_) (by rw[renL_length]; exact hl) ho hc (hlist _ _ ih)
   obtain⟨b,F2,hb⟩:=hown rfl c B F' hl'
   exact hp (fun h=>hn ((renL_nil σ φ true cells).2 h)) b F2 hb
  ·exact .top _
 | agg cs vs hl ho hr ih=>simp only[ren]; exact .agg _ vs (by rw[renL_length]; exact hl) ho (hlist _ _ ih)
 | tup cs vs hl hr ih=>simp only[ren]; exact .tup _ vs (by rw[renL_length]; exact hl) (hlist _ _ ih)
 | fn f xs ys us vs hl hl' hr hr' ih ih' =>
  simp only[ren]
  exact .fn f _ _ us vs (by rw[renL_length]; exact hl) (by rw[renL_length]; exact hl') (hlist _ _ ih) (hlist _ _ ih')
 | nilf=>exact .nilf
 | ifc t a v h ih=>simp only[ren]; exact .ifc t _ v ih
 | nili=>exact .nili
 | mp b v h0 hs h =>
  simp only[ren]
  split
  ·rename_i c hc
   have e:=hσ b c hc
   exact .mp c v (by rw[e]; exact h0) hs (by rw[e]; exact h)
  ·exact .top v
theorem rens_rel{ρ ρ':Rho}{w:World}{σ:Nat→Option Nat}{φ:Nat→Option (List AV)}{kp:Bool}(hσ:∀ b c,σ b=some c→ρ' c=ρ b)(hown:kp=true→∀ c B F,ρ' c = .live B F→∃ b F',ρ b = .live B F')(hφ:Views ρ ρ' w σ φ){as:List AV}{vs:List Value}
  (h:VRels ρ w as vs):VRels ρ' w (renL σ φ kp as) vs :=
 ⟨by rw[renL_length]; exact h.len,fun i a v ha hv=>by
  rw[renL_get] at ha
  obtain⟨x,hx,e⟩:=Option.map_eq_some_iff.1 ha
  subst e
  exact ren_rel hσ hown hφ (h.at_ i x v hx hv)⟩
def noView:Nat→Option (List AV):=fun _=>none
theorem noView_ok(ρ ρ':Rho)(w:World)(σ:Nat→Option Nat):Views ρ ρ' w σ noView:=⟨fun b cs _ h=>(by cases h),fun b cs h=>(by cases h)⟩
def renB(σ:Nat→Option Nat)(φ:Nat→Option (List AV))(kp:Bool):Blk→Blk
 | .dead => .dead
 | .set kd ks => .set kd ks
 | .cells cs => .cells (renL σ φ kp cs)
def placeIn(b:Nat):Nat→List Nat→Option Nat
 | _,[]=>none
 | c,x::xs=>match Nat.beq x b with
  | true=>some c
  | false=>placeIn b (c+1) xs
theorem placeIn_some{b:Nat}:∀ {l:List Nat} {c d:Nat},placeIn b c l=some d→c≤d∧l[d - c]? = some b
 | [],_,_,h=>by cases h
 | x::xs,c,d,h=>by
  unfold placeIn at h
  split at h
  ·rename_i e
   have e:=Nat.eq_of_beq_eq_true e
   cases h
   simp[e]
  ·obtain⟨h1,h2⟩:=placeIn_some h
   refine⟨by omega,?_⟩
   rw[show d - c=(d - (c+1))+1 by omega]
   simpa using h2
theorem placeIn_none{b:Nat}:∀ {l:List Nat} {c:Nat},placeIn b c l=none→b ∉ l
 | [],_,_=>by simp
 | x::xs,c,h=>by
  unfold placeIn at h
  split at h
  ·cases h
  ·rename_i e
   have hx:x≠b:=by intro e';subst e';simp[Nat.beq_refl] at e
   have:=placeIn_none h
   simp only[List.mem_cons,not_or]
   exact⟨fun e'=>hx e'.symm,this⟩
theorem placeIn_at{l:List Nat}(hn:l.Nodup){b c:Nat}(h:l[c]? = some b):placeIn b 0 l=some c:=by
 cases hp:placeIn b 0 l with
 | none=>exact absurd (List.mem_of_getElem? h) (placeIn_none hp)
 | some d =>
  have:=(placeIn_some hp).2
  rw[Nat.sub_zero] at this
  obtain⟨h1,e1⟩:=List.getElem?_eq_some_iff.1 h
  obtain⟨h2,e2⟩:=List.getElem?_eq_some_iff.1 this
  have hp:=List.pairwise_iff_getElem.1 hn
  have:c=d:=by
   rcases Nat.lt_trichotomy c d with h|h|h
   ·exact absurd (e1.trans e2.symm) (hp c d h1 h2 h)
   ·exact h
   ·exact absurd (e2.trans e1.symm) (hp d c h2 h1 h)
  rw[this]
def pickN(ids:List Nat):Nat→Option Nat:=fun b=>placeIn b 0 ids
def pickR(ids:List Nat)(ρ:Rho):Rho:=fun c=>match ids[c]? with
 | some b=>ρ b
 | none => .unborn
def pickH(φ:Nat→Option (List AV))(ids:List Nat)(H:Hl):Hl:=ids.map fun b=>match H[b]? with
 | some k=>renB (pickN ids) φ true k
 | none => .dead
theorem pickR_of{ids:List Nat}{ρ:Rho}{b c:Nat}(h:pickN ids b=some c):pickR ids ρ c=ρ b:=by
 have:=(placeIn_some h).2
 rw[Nat.sub_zero] at this
 simp[pickR,this]
theorem pickR_own{ids:List Nat}{ρ:Rho}{c B F:Nat}(h:pickR ids ρ c = .live B F):∃ b,ids[c]? = some b∧ρ b = .live B F:=by
 unfold pickR at h
 split at h
 ·rename_i b hb;exact⟨b,hb,h⟩
 ·cases h
theorem HRel.pick{ρ:Rho}{w:World}{H:Hl}(hg:HRel ρ w (fun b=>H[b]?)){ids:List Nat}(hn:ids.Nodup)(hlt:∀ b,b∈ids→b<H.length){φ:Nat→Option (List AV)}(hφ:Views ρ (pickR ids ρ) w (pickN ids) φ) :
  HRel (pickR ids ρ) w (fun c=>(pickH φ ids H)[c]?) where
 unborn c h:=by
  simp only[pickH,List.getElem?_map,Option.map_eq_none_iff] at h
  simp[pickR,h]
 dead c h:=by
  simp only[pickH,List.getElem?_map] at h
  obtain⟨b,hb,e⟩:=Option.map_eq_some_iff.1 h
  have hbl:=hlt b (List.mem_of_getElem? hb)
  have hH:H[b]? = some H[b]:=by simp[hbl]
  rw[hH] at e
  have e:renB (pickN ids) φ true H[b] = .dead:=e
  have hd:H[b]? = some .dead:=by
   rw[hH]
   cases hk:H[b] with
   | dead=>rfl
   | set kd ks=>rw[hk] at e;cases e
   | cells cs=>rw[hk] at e;cases e
  simp only[pickR,hb]
  exact hg.dead b hd
 inj c c' B F F' h h':=by
  obtain⟨b,hb,e⟩:=pickR_own h
  obtain⟨b',hb',e'⟩:=pickR_own h'
  have:=hg.inj b b' B F F' e e'
  subst this
  have h1:=placeIn_at hn hb
  have h2:=placeIn_at hn hb'
  rw[h1] at h2
  exact Option.some.inj h2
 live c cs h:=by
  simp only[pickH,List.getElem?_map] at h
  obtain⟨b,hb,e⟩:=Option.map_eq_some_iff.1 h
  have hbl:=hlt b (List.mem_of_getElem? hb)
  have hH:H[b]? = some H[b]:=by simp[hbl]
  rw[hH] at e
  have e:renB (pickN ids) φ true H[b] = .cells cs:=e
  cases hk:H[b] with
  | dead=>rw[hk] at e;cases e
  | set kd ks=>rw[hk] at e;cases e
  | cells cs0 =>
   rw[hk] at e hH
   have e:renL (pickN ids) φ true cs0=cs:=by cases e;rfl
   subst e
   have hr:pickR ids ρ c=ρ b:=by simp[pickR,hb]
   rcases hg.live b cs0 hH with ⟨h1,h2⟩|⟨B,F,cc,el,lo,hi,h1,h2,h3,h4,h5⟩
   ·subst h2;exact .inl ⟨hr.trans h1,by simp[renL]⟩
   ·refine .inr ⟨B,F,cc,el,lo,hi,hr.trans h1,h2,by rw[renL_length]; exact h3,h4,fun i a ha => ?_⟩
    rw[renL_get] at ha
    obtain⟨x,hx,e⟩:=Option.map_eq_some_iff.1 ha
    subst e
    obtain⟨v,g1,g2,g3⟩:=h5 i x hx
    exact⟨v,g1,g2,ren_rel (fun b c=>pickR_of) (fun _ c B F h=>let ⟨b,_,e⟩:=pickR_own h;⟨b,F,e⟩) hφ g3⟩
 marks c B F cc e lo hi h1 h2:=by
  obtain⟨b,_,h⟩:=pickR_own h1
  exact hg.marks b B F cc e lo hi h h2
 sets c kd ks h:=by
  simp only[pickH,List.getElem?_map] at h
  obtain⟨b,hb,e⟩:=Option.map_eq_some_iff.1 h
  have hbl:=hlt b (List.mem_of_getElem? hb)
  have hH:H[b]? = some H[b]:=by simp[hbl]
  rw[hH] at e
  have e:renB (pickN ids) φ true H[b] = .set kd ks:=e
  cases hk:H[b] with
  | dead=>rw[hk] at e;cases e
  | cells cs0=>rw[hk] at e;cases e
  | set kd' ks' =>
   rw[hk] at e hH
   cases e
   exact hg.sets_of hH (by simp[pickR,hb]) fun _ _ _ _ _ _=>rfl
end
end Go.Vm

namespace Go.Vm
set_option maxRecDepth 100000
noncomputable section
def cutH(m:Nat)(H:Hl):Hl:=pickH noView (List.range m) H
def cutV(m:Nat)(r:AV):AV:=ren (pickN (List.range m)) noView true r
theorem pickR_range(m:Nat)(ρ:Rho)(b:Nat):pickR (List.range m) ρ b=if b<m then ρ b else .unborn:=by
 unfold pickR
 by_cases h:b<m
 ·simp[h]
 ·simp[h]
theorem CallTo.cut{P:Program}{f:Nat}{vals:List AV}{H H':Hl}{r:AV}{lg lg0:List Nat}(hc:CallTo P f vals H r H' lg)(m:Nat)(h1:H.length≤m)(h2:m≤H'.length)
  (hk:∀ b,b<H.length→b ∉ lg0→(cutH m H')[b]? = H[b]?):CallTo P f vals H (cutV m r) (cutH m H') lg0 where
 real:=hc.real
 grow:=by simpa[cutH,pickH] using h1
 keep:=hk
 does ρ w us hg hv:=(hc.does ρ w us hg hv).mono fun e w' h=>by
  obtain⟨v,ρ',rfl,g1,g2,g3⟩:=h
  refine⟨v,pickR (List.range m) ρ',rfl,g1.pick List.nodup_range (fun b hb=>Nat.lt_of_lt_of_le (List.mem_range.1 hb) h2) (noView_ok _ _ _ _),
   ren_rel (fun b c=>pickR_of) (fun _ c B F h=>let ⟨b,_,e⟩:=pickR_own h;⟨b,F,e⟩) (noView_ok _ _ _ _) g2,⟨g3.size,g3.os,g3.tape,g3.output,g3.keep,fun b hb hn => ?_,fun b B F hl => ?_,g3.rows⟩⟩
  ·rw[pickR_range,if_pos (by omega)]
   exact g3.slot b hb hn
  ·rw[pickR_range] at hl
   split at hl
   ·exact g3.fresh b B F hl
   ·cases hl
def cutK(m:Nat):AV→Hl→List Nat→Option Out:=fun r H _=>match Nat.ble m (size H) with
 | true=>some (cutV m r,cutH m H,[])
 | false=>none
theorem call_cut{P:Program}{C:Con}(hC:ConOK P C){T:Nat→Option VF}(hT:∀ f vf,T f=some vf→FnOK P f vf){f n:Nat}{vf:VF}(hf:T f=some vf){vals:List AV}{H H0:Hl}{r0:AV}(m:Nat)(lg0:List Nat)
  (h:vcall (optA C) ops0 T n vf vals H (cutK m)=some (r0,H0,[])) (h1:H.length≤m) (hk:∀ b,b<H.length→b ∉ lg0→H0[b]? = H[b]?):CallTo P f vals H r0 H0 lg0:=by
 have hfine:(optA C).Fine P (fun x=>x=some (r0,H0,[])):=stdA_fine (by simp) (conF_ok (by simp) hC)
 obtain⟨r,H',lg,hc,e⟩:=vcall_sound hfine hT (hT f vf hf) (holds:=fun x=>x=some (r0,H0,[])) h
 unfold cutK at e
 split at e<;>cases e
 rename_i hm
 rw[size_eq] at hm
 exact hc.cut m h1 (Nat.le_of_ble_eq_true hm) hk
def viewF(H:Hl)(ids:List Nat):Nat→Nat→Option (List AV)
 | 0,_=>none
 | n+1,b=>match H[b]? with
  | some (.cells cs)=>some (renL (pickN ids) (viewF H ids n) true cs)
  | _=>none
theorem viewF_ok{ρ:Rho}{w:World}{H:Hl}(hg:HRel ρ w (fun b=>H[b]?)){ids:List Nat}:∀ n,Views ρ (pickR ids ρ) w (pickN ids) (viewF H ids n)
 | 0=>⟨fun b cs _ h=>(by cases h),fun b cs h=>(by cases h)⟩
 | n+1=>by
  have ih:=viewF_ok hg (ids:=ids) n
  refine⟨fun b cs hb h => ?_,fun b cs h => ?_⟩
  ·unfold viewF at h
   split at h<;>first|cases h|skip
   rename_i cs0 hH
   rcases hg.live b cs0 hH with ⟨h1,h2⟩|⟨B,F,c,el,lo,hi,h1,h2,h3,h4,h5⟩
   ·subst h2;exact .inl ⟨h1,by simp[renL]⟩
   ·refine .inr (.inr ?_)
    obtain⟨vs,k1,k2,k3,k4⟩:=Lies.values (show Lies ρ w cs0 F c from h5)
    refine⟨B,F,vs,h1,hg.lt h1,fun c' F' hl => ?_,by rw[renL_length]; exact k1,k4,fun i v hv => ?_,fun i a v ha hv => ?_⟩
    ·obtain⟨b',hb',e⟩:=pickR_own hl
     have:=hg.inj b b' B F F' h1 e
     subst this
     exact placeIn_none hb (List.mem_of_getElem? hb')
    ·rw[cell_at h2]; exact k2 i v hv
    ·rw[renL_get] at ha
     obtain⟨x,hx,e⟩:=Option.map_eq_some_iff.1 ha
     subst e
     obtain⟨u,q1,_,q3⟩:=k3 i x hx
     have:v=u:=by
      simp only[Nat.zero_add,List.getElem?_toArray] at q1
      exact Option.some.inj (hv.symm.trans q1)
     subst this
     exact ren_rel (fun b c=>pickR_of) (fun _ c B F h=>let ⟨b,_,e⟩:=pickR_own h;⟨b,F,e⟩) ih q3
  ·unfold viewF at h
   split at h<;>first|cases h|skip
   rename_i cs0 hH
   rcases hg.live b cs0 hH with ⟨h1,h2⟩|⟨B,F,c,el,lo,hi,h1,h2,h3,h4,h5⟩<;>rw[h1]<;>simp
def backN(ids:List Nat)(n:Nat):Nat→Option Nat:=fun c=>match ids[c]? with
 | some b=>some b
 | none=>some (n+(c - ids.length))
def backV(ids:List Nat)(n:Nat)(r:AV):AV:=ren (backN ids n) noView false r
def backB(ids:List Nat)(n:Nat)(k:Blk):Blk:=renB (backN ids n) noView false k
def backR(ids:List Nat)(n:Nat)(ρ ρ0:Rho):Rho:=fun b=>match placeIn b 0 ids with
 | some c=>ρ0 c
 | none=>if b<n then ρ b else ρ0 (ids.length+(b - n))
def oldH(ids:List Nat)(n:Nat)(H H0:Hl):Hl:=(List.range n).map fun b=>match placeIn b 0 ids with
 | some c=>backB ids n (H0[c]?.getD .dead)
 | none=>H[b]?.getD .dead
def backH(ids:List Nat)(H H0:Hl):Hl:=oldH ids H.length H H0++(H0.drop ids.length).map (backB ids H.length)
def backL(ids:List Nat)(lg:List Nat):List Nat:=lg.filterMap fun c=>ids[c]?
theorem backH_get(ids:List Nat)(H H0:Hl)(b:Nat):(backH ids H H0)[b]? = if b<H.length then(match placeIn b 0 ids with
  | some c=>some (backB ids H.length (H0[c]?.getD .dead))
  | none=>H[b]?) else(H0[ids.length+(b - H.length)]?).map (backB ids H.length):=by
 unfold backH
 by_cases h:b<H.length
 ·rw[if_pos h,List.getElem?_append_left (by simpa[oldH] using h)]
  simp only[oldH,List.getElem?_map,List.getElem?_range h,Option.map_some]
  cases placeIn b 0 ids with
  | some c=>rfl
  | none=>simp[h]
 ·rw[if_neg h,List.getElem?_append_right (by simpa[oldH] using h)]
  simp[oldH]
theorem CallTo.frame{P:Program}{f:Nat}{vals:List AV}{H H0:Hl}{r0:AV}{lg0:List Nat}(ids:List Nat)(n:Nat)(hn:ids.Nodup)(hlt:∀ b,b∈ids→b<H.length)
  (hc:CallTo P f (renL (pickN ids) (viewF H ids n) true vals) (pickH (viewF H ids n) ids H) r0 H0 lg0)
  (hk:∀ b c,placeIn b 0 ids=some c→c ∉ lg0→some (backB ids H.length (H0[c]?.getD .dead))=H[b]?) :
  CallTo P f vals H (backV ids H.length r0) (backH ids H H0) (backL ids lg0) where
 real:=hc.real
 grow:=by simp[backH,oldH]
 keep b hb hn':=by
  rw[backH_get,if_pos hb]
  split
  ·rename_i c hp
   refine hk b c hp fun h=>hn' ?_
   have:=(placeIn_some hp).2
   rw[Nat.sub_zero] at this
   exact List.mem_filterMap.2 ⟨c,h,this⟩
  ·rfl
 does ρ w us hg hv:=by
  have hV:=viewF_ok hg (ids:=ids) n
  have hlen:(pickH (viewF H ids n) ids H).length=ids.length:=by simp[pickH]
  refine(hc.does (pickR ids ρ) w us (hg.pick hn hlt hV) (rens_rel (fun b c=>pickR_of) (fun _ c B F h=>let ⟨b,_,e⟩:=pickR_own h;⟨b,F,e⟩) hV hv)).mono fun e w' h => ?_
  obtain⟨v,ρ0,rfl,g1,g2,g3⟩:=h
  rw[hlen] at g3
  have grow:ids.length≤H0.length:=by have:=hc.grow;rwa [hlen] at this
  have name:∀ c b,backN ids H.length c=some b→backR ids H.length ρ ρ0 b=ρ0 c:=by
   intro c b h
   unfold backN at h
   split at h
   ·rename_i b' hb'
    cases h
    simp[backR,placeIn_at hn hb']
   ·rename_i hb'
    cases h
    have hcl:ids.length≤c:=by simpa using hb'
    have hp:placeIn (H.length+(c - ids.length)) 0 ids=none:=by
     cases hp:placeIn (H.length+(c - ids.length)) 0 ids with
     | none=>rfl
     | some d =>
      have:=(placeIn_some hp).2
      have:=hlt _ (List.mem_of_getElem? this)
      omega
    simp only[backR,hp]
    rw[if_neg (by omega),show ids.length+(H.length+(c - ids.length) - H.length)=c by omega]
  have own:∀ b B F,backR ids H.length ρ ρ0 b = .live B F→(∃ c,ρ0 c = .live B F∧(placeIn b 0 ids=some c∨(placeIn b 0 ids=none∧H.length≤b∧c=ids.length+(b - H.length))))∨(b<H.length∧placeIn b 0 ids=none∧ρ b = .live B F):=by
   intro b B F h
   unfold backR at h
   split at h
   ·rename_i c hp;exact .inl ⟨c,h,.inl hp⟩
   ·rename_i hp
    split at h
    ·rename_i hb;exact .inr ⟨hb,hp,h⟩
    ·rename_i hb;exact .inl ⟨_,h,.inr ⟨hp,by omega,rfl⟩⟩
  have far:∀ c B F b F',ρ0 c = .live B F→ρ b = .live B F'→placeIn b 0 ids=none→False:=by
   intro c B F b F' h1 h2 h3
   rcases g3.fresh c B F h1 with h|⟨c',F2,h⟩
   ·have:=hg.lt h2;omega
   ·obtain⟨b',hb',e⟩:=pickR_own h
    have:=hg.inj b b' B F' F2 h2 e
    subst this
    exact placeIn_none h3 (List.mem_of_getElem? hb')
  have unown:∀ b B F,b<H.length→placeIn b 0 ids=none→ρ b = .live B F→∀ c F',pickR ids ρ c ≠ .live B F':=by
   intro b B F hb hp hl c F' h
   obtain⟨b',hb',e⟩:=pickR_own h
   have:=hg.inj b b' B F F' hl e
   subst this
   exact placeIn_none hp (List.mem_of_getElem? hb')
  have E:Ext H.length ρ w (backR ids H.length ρ ρ0) w':=by
   refine⟨g3.size,g3.os,g3.tape,g3.output,fun B hB hu=>g3.keep B hB fun c F h => ?_,fun b hb hn' => ?_,fun b B F hl => ?_,g3.rows⟩
   ·obtain⟨b,_,e⟩:=pickR_own h
    exact hu b F e
   ·unfold backR
    split
    ·rename_i c hp
     have hpr:=pickR_of (ρ:=ρ) hp
     have hc':c<ids.length:=by
      have:=(placeIn_some hp).2
      rw[Nat.sub_zero] at this
      exact(List.getElem?_eq_some_iff.1 this).1
     rw[←hpr]
     exact g3.slot c hc' (by rw[hpr]; exact hn')
    ·rw[if_pos hb]; exact .inl rfl
   ·rcases own b B F hl with ⟨c,h,_⟩|⟨_,_,h⟩
    ·rcases g3.fresh c B F h with h'|⟨c',F',h'⟩
     ·exact .inl h'
     ·obtain⟨b',_,e⟩:=pickR_own h'
      exact .inr ⟨b',F',e⟩
    ·exact .inr ⟨b,F,h⟩
  have renv:∀ {a:AV} {v:Value},VRel ρ0 w' a v→VRel (backR ids H.length ρ ρ0) w' (ren (backN ids H.length) noView false a) v:=fun h =>
   ren_rel (fun b c=>name b c) (fun h=>by cases h) (noView_ok _ _ _ _) h
  have monov:∀ {a:AV} {v:Value},VRel ρ w a v→VRel (backR ids H.length ρ ρ0) w' a v:=fun h =>
   h.mono E fun b hb=>by
    rcases Nat.lt_or_ge b H.length with h'|h'
    ·exact h'
    ·exact absurd (hg.unborn b (List.getElem?_eq_none h')) hb
  refine⟨v,backR ids H.length ρ ρ0,rfl,⟨fun b h => ?_,fun b h => ?_,fun b b' B F F' h h' => ?_,fun b cs h => ?_,fun b B F c e lo hi h h' => ?_,fun b kd ks h => ?_⟩,renv g2,E⟩
  case refine_5 =>
   rcases own b B F h with ⟨c',h1,_⟩|⟨h1,h2,h3⟩
   ·exact g1.marks c' B F c e lo hi h1 h'
   ·rw[g3.keep B (hg.lt h3) (unown b B F h1 h2 h3)] at h'
    exact hg.marks b B F c e lo hi h3 h'
  case refine_6 =>
   have key:∀ c k,H0[c]? = some k→backB ids H.length k = .set kd ks→backR ids H.length ρ ρ0 b=ρ0 c→∃ B F es clock,backR ids H.length ρ ρ0 b = .live B F∧w'.heap[B]? = some (.map es clock)∧SetIs kd ks es:=by
    intro c k hk1 hk2 hr
    cases k with
    | dead=>cases hk2
    | cells cs0=>cases hk2
    | set kd' ks' =>
     cases hk2
     exact g1.sets_of hk1 hr fun _ _ _ _ _ _=>rfl
   simp only[backH_get] at h
   split at h
   ·rename_i hb
    split at h
    ·rename_i c hp
     have hc':c<H0.length:=by
      have:=(placeIn_some hp).2
      rw[Nat.sub_zero] at this
      have:=(List.getElem?_eq_some_iff.1 this).1
      omega
     simp only[hc',List.getElem?_eq_getElem,Option.getD_some,Option.some.injEq] at h
     exact key c H0[c] (List.getElem?_eq_getElem hc') h (by simp[backR,hp])
    ·rename_i hp
     exact hg.sets_of h (by simp[backR,hp,hb]) fun B F _ _ h1 _=>g3.keep B (hg.lt h1) (unown b B F hb hp h1)
   ·rename_i hb
    have hp:placeIn b 0 ids=none:=by
     cases hp:placeIn b 0 ids with
     | none=>rfl
     | some d =>
      have:=(placeIn_some hp).2
      have:=hlt _ (List.mem_of_getElem? this)
      omega
    obtain⟨k,hk1,hk2⟩:=Option.map_eq_some_iff.1 h
    exact key _ k hk1 hk2 (by simp[backR,hp,hb])
  ·simp only[backH_get] at h
   unfold backR
   split at h
   ·rename_i hb
    split at h
    ·cases h
    ·rw[if_pos hb]
     exact hg.unborn b h
   ·rename_i hb
    have hp:placeIn b 0 ids=none:=by
     cases hp:placeIn b 0 ids with
     | none=>rfl
     | some d =>
      have:=(placeIn_some hp).2
      have:=hlt _ (List.mem_of_getElem? this)
      omega
    rw[hp]
    simp only
    rw[if_neg hb]
    exact g1.unborn _ (by simpa using h)
  ·simp only[backH_get] at h
   unfold backR
   split at h
   ·rename_i hb
    split at h
    ·rename_i c hp
     have hc':c<H0.length:=by
      have:=(placeIn_some hp).2
      rw[Nat.sub_zero] at this
      have:=(List.getElem?_eq_some_iff.1 this).1
      omega
     simp only[hc',List.getElem?_eq_getElem,Option.getD_some,Option.some.injEq] at h
     apply g1.dead
     rw[List.getElem?_eq_getElem hc']
     cases hk':H0[c] with
     | dead=>rfl
     | set kd ks=>rw[hk'] at h;cases h
     | cells cs=>rw[hk'] at h;cases h
    ·rw[if_pos hb]
     exact hg.dead b h
   ·rename_i hb
    have hp:placeIn b 0 ids=none:=by
     cases hp:placeIn b 0 ids with
     | none=>rfl
     | some d =>
      have:=(placeIn_some hp).2
      have:=hlt _ (List.mem_of_getElem? this)
      omega
    rw[hp]
    simp only
    rw[if_neg hb]
    obtain⟨k,hk1,hk2⟩:=Option.map_eq_some_iff.1 h
    apply g1.dead
    rw[hk1]
    cases k with
    | dead=>rfl
    | set kd ks=>cases hk2
    | cells cs=>cases hk2
  ·rcases own b B F h with ⟨c,h1,h2⟩|⟨h1,h2,h3⟩
   ·rcases own b' B F' h' with ⟨c',k1,k2⟩|⟨k1,k2,k3⟩
    ·have:=g1.inj c c' B F F' h1 k1
     subst this
     rcases h2 with h2|⟨h2,h3,h4⟩
     ·rcases k2 with k2|⟨k2,k3,k4⟩
      ·have a1:=(placeIn_some h2).2
       have a2:=(placeIn_some k2).2
       rw[a1] at a2
       exact Option.some.inj a2
      ·have a1:=(placeIn_some h2).2
       rw[Nat.sub_zero] at a1
       have:=(List.getElem?_eq_some_iff.1 a1).1
       omega
     ·rcases k2 with k2|⟨k2,k3,k4⟩
      ·have a1:=(placeIn_some k2).2
       rw[Nat.sub_zero] at a1
       have:=(List.getElem?_eq_some_iff.1 a1).1
       omega
      ·omega
    ·exact(far c B F b' F' h1 k3 k2).elim
   ·rcases own b' B F' h' with ⟨c',k1,k2⟩|⟨k1,k2,k3⟩
    ·exact(far c' B F' b F k1 h3 h2).elim
    ·exact hg.inj b b' B F F' h3 k3
  ·
   have key:∀ c k,H0[c]? = some k→backB ids H.length k = .cells cs→backR ids H.length ρ ρ0 b=ρ0 c →
     (backR ids H.length ρ ρ0 b = .void∧cs = [])∨∃ B F cc elem lo hi,backR ids H.length ρ ρ0 b = .live B F∧w'.heap[B]? = some (.cells cc elem (lo,hi))∧F+cs.length≤cc.size ∧
      (∀ j,F≤j→j<cc.size→¬ (lo≤j∧j<hi))∧(∀ i a,cs[i]? = some a→∃ v,cc[F+i]? = some v∧vone v=true∧VRel (backR ids H.length ρ ρ0) w' a v):=by
    intro c k hk1 hk2 hr
    cases k with
    | dead=>cases hk2
    | set kd ks=>cases hk2
    | cells cs0 =>
     have e:renL (backN ids H.length) noView false cs0=cs:=by cases hk2;rfl
     subst e
     rcases g1.live c cs0 hk1 with ⟨h1,h2⟩|⟨B,F,cc,el,lo,hi,h1,h2,h3,h4,h5⟩
     ·subst h2;exact .inl ⟨hr.trans h1,by simp[renL]⟩
     ·refine .inr ⟨B,F,cc,el,lo,hi,hr.trans h1,h2,by rw[renL_length]; exact h3,h4,fun i a ha => ?_⟩
      rw[renL_get] at ha
      obtain⟨x,hx,e⟩:=Option.map_eq_some_iff.1 ha
      subst e
      obtain⟨v,q1,q2,q3⟩:=h5 i x hx
      exact⟨v,q1,q2,renv q3⟩
   simp only[backH_get] at h
   split at h
   ·rename_i hb
    split at h
    ·rename_i c hp
     have hc':c<H0.length:=by
      have:=(placeIn_some hp).2
      rw[Nat.sub_zero] at this
      have:=(List.getElem?_eq_some_iff.1 this).1
      omega
     simp only[hc',List.getElem?_eq_getElem,Option.getD_some,Option.some.injEq] at h
     exact key c H0[c] (List.getElem?_eq_getElem hc') h (by simp[backR,hp])
    ·rename_i hp
     have hr:backR ids H.length ρ ρ0 b=ρ b:=by simp[backR,hp,hb]
     rcases hg.live b cs h with ⟨h1,h2⟩|⟨B,F,cc,el,lo,hi,h1,h2,h3,h4,h5⟩
     ·exact .inl ⟨hr.trans h1,h2⟩
     ·refine .inr ⟨B,F,cc,el,lo,hi,hr.trans h1,?_,h3,h4,fun i a ha => ?_⟩
      ·rw[g3.keep B (hg.lt h1) (unown b B F hb hp h1)]
       exact h2
      ·obtain⟨v,q1,q2,q3⟩:=h5 i a ha
       exact⟨v,q1,q2,monov q3⟩
   ·rename_i hb
    have hp:placeIn b 0 ids=none:=by
     cases hp:placeIn b 0 ids with
     | none=>rfl
     | some d =>
      have:=(placeIn_some hp).2
      have:=hlt _ (List.mem_of_getElem? this)
      omega
    obtain⟨k,hk1,hk2⟩:=Option.map_eq_some_iff.1 h
    exact key _ k hk1 hk2 (by simp[backR,hp,hb])
theorem CallTo.pure{P:Program}{f:Nat}{vals:List AV}{r0:AV}{lg:List Nat}(n:Nat){H:Hl}(hc:CallTo P f (renL (pickN []) (viewF H [] n) true vals) [] r0 [] lg):CallTo P f vals H (backV [] H.length r0) H []:=by
 have h:=CallTo.frame (H:=H) (vals:=vals) [] n List.nodup_nil (fun b hb=>by cases hb) hc (fun b c hp=>by cases hp)
 have e1:backH [] H []=H:=by
  apply List.ext_getElem?
  intro b
  rw[backH_get]
  by_cases hb:b<H.length
  ·rw[if_pos hb]; rfl
  ·rw[if_neg hb,List.getElem?_eq_none (Nat.le_of_not_lt hb)]; simp
 have e2:backL [] lg = []:=by simp[backL]
 rw[e1,e2] at h
 exact h
end
end Go.Vm
