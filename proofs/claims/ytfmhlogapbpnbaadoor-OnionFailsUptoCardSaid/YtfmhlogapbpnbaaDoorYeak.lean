/-
  ONION, PART 4: the program's keys at the nodes of a way.
-/
import Derived.Test.YtfmhlogapbpnbaaDoorYeaj
import Derived.Test.YtfmhlogapbpnbaaDoorYeah
import Derived.Test.YtfmhlogapbpnbaaDoorYeaf
import Derived.RangeFuncLeaves
import Derived.RangeFuncCalls
import Derived.RangeFuncMany
set_option linter.unusedVariables false
set_option linter.unusedSimpArgs false
set_option linter.unusedSectionVars false

namespace Go.Proofs.Vm
set_option maxRecDepth 100000
open Go.Vm
noncomputable section
def ln65(Z:KX)(z:Nat→Bool):LnF:=fun n0 b fr H=>match slot fr 8,slot fr 5,H with
 | .ros cs o n c e,.nils,[.cells ns] =>
  some (n0=0∧VCis b lp65∧forget mk65 fr=fr65 cs o n c e .nils 0∧P65 cs o n ns,.cond (z n) (.ok (.exit 0) (fr65 cs o n c e .nils 0) [.cells ns]) (.ok (.exit 0) (fr65 cs o n c e (.slc 1 0 n n 32) n) [.cells (Z.non ns n),.cells (Z.keys ns cs o n)]))
 | _,_,_=>none
theorem vc65(O:OY)(F:HF)(Z:KX)(z:Nat→Bool)(cs ns:List AV)(o n c:Nat)(e:Bool)(Q:Nat→Nat→Nat→Nat→List AV→Prop) :
  (vcall (vcA kdYes (cnO1 O F) (ln65 Z z)) ops0 (tabOne 36 vf36) 200 vf36 [.ros cs o n c e,.agg ns] [] (fun r H lg=>match r with
    | .nils=>Q 1 0 0 0 []
    | r=>endB Q r H lg)) =
 (((((0:Nat)=0) ∧
 ((VCis lp65 lp65) ∧
 ((((tp 3 ((.ptr 0 0) :: .top :: .nils::tp 2 ((.ros cs o n c e)::(.int .i64 (ops0.ofn n))::(.int .i64 (.ofNat 0))::tp 13 ([])))):Fr)=(tp 3 ((.ptr 0 0) :: .top :: .nils::tp 2 ((.ros cs o n c e)::(.int .i64 (.ofNat n))::(.int .i64 (.ofNat 0))::tp 13 ([]))))) ∧
 (P65 cs o n ns)))) ∧
 (Br (z n)
 (Q 1 0 0 0 [])
 ((flatL (KX.keys Z ns cs o n)) ∧
 (Q 0 n n 32 (KX.keys Z ns cs o n)))))):=by kernel_rfl
theorem fr65_ren{σ:Nat→Option Nat}{φ:Nat→Option (List AV)}(h0:σ 0=some 0){cs:List AV}(hcs:flatL cs)(o n c:Nat)(e:Bool)(x:AV)(i:Int) :
  forget mk65 (renL σ φ true (fr65 cs o n c e x i))=fr65 cs o n c e (ren σ φ true x) i:=by
 unfold fr65 mk65
 simp only[renL,ren,h0,forget,renL_flat hcs]
theorem body65a{cs:List AV}{o n:Nat}{L:List (List UInt8)}{nn:List UInt8}(c:Nat)(e:Bool)(hcs:flatL cs)(ho:o+n*32≤cs.length)(h:ShAt cs o n L)(hnn:nn.length=32)(hj:0<n) :
  BodyTo Tryd.prog 0 lp65 (fr65 cs o n c e .nils (Int.ofNat 0)) [.cells (nn.map by8)] .norm (fr65 cs o n c e (.slc 1 0 1 1 32) (Int.ofNat 1)) [.cells ((nonL nn 1).map by8),.cells ((keysL L nn 1).flatten.map by8)]:=by
 have hl:0<L.length:=by rw[h.1]; exact hj
 have hx:=List.getElem?_eq_getElem hl
 obtain⟨h1,h2⟩:=h.2 0 L[0] hx
 rw[keys_succ hx]
 generalize L[0]=x at h1 h2
 have ha:=at_32 x nn
 have hs:=sumL_length nn
 have hb:BodyTo Tryd.prog 0 lp65 (fr65 cs o n c e .nils (Int.ofNat 0)) [.cells (nn.map by8)] .norm (fr65 cs o n c e (.slc 2 0 1 1 32) (Int.ofNat 1)) [.cells ((sumL nn).map by8),.cells (x.map by8),.cells ((atL x nn).map by8)]:=by
  refine body_x cnO1_ok (noLn_ok _) (noTab_ok _) (n:=100) (g:=kdYes) (bs:=mk65) ?_ (by simp)
  have e1:ops0.ext cs (o+0*32) 32=x.map by8:=by rw[nExt]; exact h2
  rw[vcl65a,nAdr,e1,ext32' hnn,spl32 h1,ext32' h1,att_eq,spl32 ha,ext32' ha,hhash_eq,spl_ws hnn hs,add1 (by omega)]
  simp only[chk_and,nLss,nInr,nLe,nPlus,nLen,nEq,List.length_map,ha,hs,h1,hnn,decide_eq_true_eq]
  refine Br.t (decide_eq_true hj) ?_
  repeat' with_reducible apply And.intro
  all_goals first|trivial|omega|exact pkey _ h1|exact pkey _ hnn|rfl
 have h3:=hb.post (Weak.pickV [0,2] mk65 2 (by simp) (by simp) (by simp))
 rw[fr65_ren (show pickN [0,2] 0=some 0 from rfl) hcs] at h3
 have e4:pickH (viewF [.cells ((sumL nn).map by8),.cells (x.map by8),.cells ((atL x nn).map by8)] [0,2] 2) [0,2] [.cells ((sumL nn).map by8),.cells (x.map by8),.cells ((atL x nn).map by8)] = [.cells ((nonL nn 1).map by8),.cells ((keysL L nn 0 ++ [atL x (nonL nn 0)]).flatten.map by8)]:=by
  show [renB _ _ true (.cells ((sumL nn).map by8)),renB _ _ true (.cells ((atL x nn).map by8))]=_
  simp only[renB,renL_flat (flat_by8 _)]
  simp[nonL,keysL]
 have p2:pickN [0,2] 2=some 1:=rfl
 rw[e4] at h3
 simp only[ren,p2] at h3
 exact h3
theorem body65b{cs:List AV}{o n j:Nat}{L:List (List UInt8)}{nn:List UInt8}(c:Nat)(e:Bool)(hcs:flatL cs)(ho:o+n*32≤cs.length)(hn:n<4294967296)(h:ShAt cs o n L)(hnn:nn.length=32)(hj:j<n) :
  BodyTo Tryd.prog 0 lp65 (fr65 cs o n c e (.slc 1 0 j j 32) (Int.ofNat j)) [.cells ((nonL nn j).map by8),.cells ((keysL L nn j).flatten.map by8)] .norm (fr65 cs o n c e (.slc 1 0 (j+1) (j+1) 32) (Int.ofNat (j+1)))
   [.cells ((nonL nn (j+1)).map by8),.cells ((keysL L nn (j+1)).flatten.map by8)]:=by
 have hl:j<L.length:=by rw[h.1]; exact hj
 have hx:=List.getElem?_eq_getElem hl
 obtain⟨h1,h2⟩:=h.2 j L[j] hx
 rw[keys_succ hx]
 generalize L[j]=x at h1 h2
 have hm:=non_32 hnn j
 have hm1:(nonL nn (j+1))=sumL (nonL nn j):=rfl
 rw[hm1]
 generalize nonL nn j=m at hm
 have ha:=at_32 x m
 have hs:=sumL_length m
 have hA:((keysL L nn j).flatten.map by8).length=j*32:=by rw[List.length_map,flat_len (keys_32 L nn j),keys_length]
 have e3:((keysL L nn j ++ [atL x m]).flatten).map by8=(keysL L nn j).flatten.map by8++(atL x m).map by8:=by rw[List.flatten_append,List.map_append]; simp
 rw[e3]
 generalize (keysL L nn j).flatten=l at hA
 have hb:BodyTo Tryd.prog 0 lp65 (fr65 cs o n c e (.slc 1 0 j j 32) (Int.ofNat j)) [.cells (m.map by8),.cells (l.map by8)] .norm (fr65 cs o n c e (.slc 3 0 (j+1) (j+1) 32) (Int.ofNat (j+1))) [.cells ((sumL m).map by8),.dead,.cells (x.map by8),.cells (l.map by8++(atL x m).map by8)]:=by
  refine body_x cnO1_ok (noLn_ok _) (noTab_ok _) (n:=100) (g:=kdYes) (bs:=mk65) ?_ (by simp)
  have e1:ops0.ext cs (o+j*32) 32=x.map by8:=by rw[nExt]; exact h2
  have ee:ops0.ext (l.map by8) 0 (ops0.mul j 32)=l.map by8:=by rw[nExt,nTimes,List.drop_zero,List.take_of_length_le (by omega)]
  rw[List.length_map] at hA
  rw[vcl65b,nAdr,e1,ext32' hm,spl32 h1,ext32' h1,att_eq,spl32 ha,ext32' ha,ee,hhash_eq,spl_ws hm hs,add1 (by omega)]
  simp only[chk_and,nLss,nInr,nLe,nPlus,nTimes,nLen,nEq,nApp,nRoom,List.length_map,ha,hs,h1,hm,hA,decide_eq_true_eq]
  refine Br.t (decide_eq_true hj) ?_
  repeat' with_reducible apply And.intro
  all_goals first|trivial|omega|exact pkey _ h1|exact pkey _ hm|rfl
 have h3:=hb.post (Weak.pickV [0,3] mk65 2 (by simp) (by simp) (by simp))
 rw[fr65_ren (show pickN [0,3] 0=some 0 from rfl) hcs] at h3
 have e4:pickH (viewF [.cells ((sumL m).map by8),.dead,.cells (x.map by8),.cells (l.map by8++(atL x m).map by8)] [0,3] 2) [0,3] [.cells ((sumL m).map by8),.dead,.cells (x.map by8),.cells (l.map by8++(atL x m).map by8)] = [.cells ((sumL m).map by8),.cells (l.map by8++(atL x m).map by8)]:=by
  show [renB _ _ true (.cells ((sumL m).map by8)),renB _ _ true (.cells (l.map by8++(atL x m).map by8))]=_
  simp only[renB,renL_append,renL_flat (flat_by8 _)]
 have p2:pickN [0,3] 3=some 1:=rfl
 rw[e4] at h3
 simp only[ren,p2] at h3
 exact h3
theorem ln65_ok:LnOK Tryd.prog (ln65 kx0 isZ):=by
 intro n0 b fr H p x e hn0 hp lg
 unfold ln65 at e
 split at e<;>cases e
 rename_i cs o n c e ns h1 h2
 obtain⟨rfl,hb,hf,⟨hcs,ho,_,L,hL⟩,hn,⟨nn,hnn,rfl⟩⟩:=hp
 have hb:b=lp65:=hb
 subst hb
 cases n with
 | zero =>
  refine LoopTo.pre (Weak.forget (by simp) mk65) ?_ lg
  rw[hf]
  refine loop_chain (P:=Tryd.prog) (n0:=0) (b:=lp65) (ex := .exit 0) (fr':=fr65 cs o 0 c e .nils (Int.ofNat 0)) (H' := [.cells (nn.map by8)]) (by intro h;cases h) (fun _=>(fr65 cs o 0 c e .nils (Int.ofNat 0),[.cells (nn.map by8)])) 0 0 (fun j h1 h2=>by omega) ?_
  refine body_x cnO1_ok (noLn_ok _) (noTab_ok _) (n:=100) (g:=kdYes) (bs:=mk65) ?_ (by simp)
  rw[vcl65a,nLss]
  exact Br.f (decide_eq_false (by omega)) ⟨rfl,rfl,rfl⟩
 | succ m =>
  have e1:kx0.non (nn.map by8) (m+1)=(nonL nn (m+1)).map by8:=by
   show(nonL (bytesA _) _).map by8=_
   rw[bytesA_by8]
  have e2:kx0.keys (nn.map by8) cs o (m+1)=(keysL L nn (m+1)).flatten.map by8:=by
   show(keysL (shA cs o (m+1)) (bytesA _) _).flatten.map by8=_
   rw[bytesA_by8,shA_eq hL]
  have hz:isZ (m+1)=false:=rfl
  rw[e1,e2,hz]
  refine LoopTo.pre (Weak.forget (by simp) mk65) ?_ lg
  rw[hf]
  have h:=loop_chain (P:=Tryd.prog) (n0:=0) (b:=lp65) (ex := .exit 0) (fr':=fr65 cs o (m+1) c e (.slc 1 0 (m+1) (m+1) 32) (Int.ofNat (m+1))) (H' := [.cells ((nonL nn (m+1)).map by8),.cells ((keysL L nn (m+1)).flatten.map by8)]) (by intro h;cases h)
   (fun i=>match i with
    | 0=>(fr65 cs o (m+1) c e .nils (Int.ofNat 0),[.cells (nn.map by8)])
    | k+1=>(fr65 cs o (m+1) c e (.slc 1 0 (k+1) (k+1) 32) (Int.ofNat (k+1)),[.cells ((nonL nn (k+1)).map by8),.cells ((keysL L nn (k+1)).flatten.map by8)])) (m+1) 0 (fun i _ hi => ?_) ?_
  ·exact h
  ·cases i with
   | zero=>exact body65a c e hcs ho hL hnn (by omega)
   | succ k=>exact body65b c e hcs ho hn hL hnn (by omega)
  ·rw[Nat.zero_add]
   refine body_x cnO1_ok (noLn_ok _) (noTab_ok _) (n:=100) (g:=kdYes) (bs:=mk65) ?_ (by simp)
   show vm _ _ _ _ _ _ (fr65 cs o (m+1) c e (.slc 1 0 (m+1) (m+1) 32) (Int.ofNat (m+1))) [.cells ((nonL nn (m+1)).map by8),.cells ((keysL L nn (m+1)).flatten.map by8)] _ _
   rw[vcl65b,nLss]
   exact Br.f (decide_eq_false (by omega)) ⟨rfl,rfl,rfl⟩
theorem call65{cs:List AV}{o n:Nat}{nn:List UInt8}{L:List (List UInt8)}(c:Nat)(e:Bool)(hP:PSh cs o n)(hL:ShAt cs o n L)(h1:1≤n)(hn:n<4294967296)(hnn:nn.length=32) :
  CallTo Tryd.prog 36 [.ros cs o n c e,.agg (nn.map by8)] [] (.slc 0 0 n n 32) [.cells ((keysL L nn n).flatten.map by8)] []:=by
 have e2:kx0.keys (nn.map by8) cs o n=(keysL L nn n).flatten.map by8:=by
  show(keysL (shA cs o n) (bytesA _) _).flatten.map by8=_
  rw[bytesA_by8,shA_eq hL]
 have hz:isZ n=false:=decide_eq_false (by omega)
 refine call_b cnO1_ok ln65_ok (tabOne_ok ok36) (tabOne_self 36 vf36) (n:=200) (g:=kdYes) ?_
 have hv:vcall (vcA kdYes (cnO1 of1 hf0) (ln65 kx0 isZ)) ops0 (tabOne 36 vf36) 200 vf36 [.ros cs o n c e,.agg (nn.map by8)] [] (fun r H lg=>match r with
  | .nils=>False
  | r=>endB (fun o' m' c' sz' cs'=>o'=0∧m'=n∧c'=n∧sz'=32∧cs'=(keysL L nn n).flatten.map by8) r H lg):=by
  have h:=vc65 of1 hf0 kx0 isZ cs (nn.map by8) o n c e (fun o' m' c' sz' cs'=>o'=0∧m'=n∧c'=n∧sz'=32∧cs'=(keysL L nn n).flatten.map by8)
  rw[hz,e2] at h
  have h2:(vcall (vcA kdYes (cnO1 of1 hf0) (ln65 kx0 isZ)) ops0 (tabOne 36 vf36) 200 vf36 [.ros cs o n c e,.agg (nn.map by8)] [] (fun r H lg=>match r with
   | .nils=>(1=0∧0=n∧0=n∧0=32∧([]:List AV)=(keysL L nn n).flatten.map by8)
   | r=>endB (fun o' m' c' sz' cs'=>o'=0∧m'=n∧c'=n∧sz'=32∧cs'=(keysL L nn n).flatten.map by8) r H lg)):=by
   rw[h]
   exact⟨⟨rfl,rfl,rfl,hP,hn,pkey nn hnn⟩,flat_by8 _,rfl,rfl,rfl,rfl,rfl⟩
  have e3:((1:Nat)=0∧0=n∧0=n∧(0:Nat)=32∧([]:List AV)=(keysL L nn n).flatten.map by8)=False:=eq_false fun h=>by omega
  rw[e3] at h2
  exact h2
 have ee:(fun(r:AV) (H:Hl) (lg:List Nat)=>match r with
  | .nils=>False
  | r=>endB (fun o' m' c' sz' cs'=>o'=0∧m'=n∧c'=n∧sz'=32∧cs'=(keysL L nn n).flatten.map by8) r H lg)=endB (fun o' m' c' sz' cs'=>o'=0∧m'=n∧c'=n∧sz'=32∧cs'=(keysL L nn n).flatten.map by8):=by
  funext r H lg
  cases r<;>rfl
 rw[ee] at hv
 exact hv
end
end Go.Proofs.Vm

namespace Go.Proofs.Vm
set_option maxRecDepth 100000
open Go.Vm
noncomputable section
def byF(n o:Nat)(f:Nat→Int):List AV:=(List.range n).map fun i => .int .u8 (f (o+i))
def hopF(f:Nat→Int):List AV := .int .i64 (f 0) :: .int .i64 (f 1) :: .int .i64 (f 2)::(byF 32 3 f++(.int .i64 (f 35)::(byF 32 36 f++(.int .i64 (f 68)::byF 32 69 f))))
def tabH(f:Nat):Option VF:=match f with
 | 34=>some vf34
 | 35=>some vf35
 | _=>none
theorem vc83(f:Nat→Int)(Q:AV→Hl→Prop) :
  (vcall (vcA kdFit noCn noLn) ops0 tabH 200 vf35 [.agg (hopF f)] [] (endN (fun _=>0) Q)) =
 ((Br (ops0.cmp .geq (f 0) (Int.ofNat 0))
 (Br (ops0.cmp .leq (f 0) (Int.ofNat 65535))
 (Br (ops0.cmp .geq (f 1) (Int.ofNat 0))
 (Br (ops0.cmp .geq (f 35) (Int.ofNat 0))
 (Br (ops0.cmp .geq (f 2) (Int.ofNat 0))
 (Br (ops0.cmp .leq (f 2) (Int.ofNat 2147483647))
 (Br (ops0.cmp .geq (f 68) (Int.ofNat 0))
 (Br (ops0.cmp .leq (f 68) (Int.ofNat 2147483647))
 (Q (.bool Bool.true) [])
 (Q (.bool Bool.false) []))
 (Q (.bool Bool.false) []))
 (Q (.bool Bool.false) []))
 (Q (.bool Bool.false) []))
 (Q (.bool Bool.false) []))
 (Q (.bool Bool.false) []))
 (Q (.bool Bool.false) []))
 (Q (.bool Bool.false) []))):=by kernel_rfl
theorem nGeq'{a:Int}{b:Nat}:ops0.cmp .geq a (Int.ofNat b)=decide (a≥Int.ofNat b):=rfl
theorem nLeq'{a:Int}{b:Nat}:ops0.cmp .leq a (Int.ofNat b)=decide (a≤Int.ofNat b):=rfl
theorem nEql'{a:Int}{b:Nat}:ops0.cmp .eql a (Int.ofNat b)=decide (a=Int.ofNat b):=by
 show(a == Int.ofNat b)=_
 by_cases h:a=Int.ofNat b
 ·rw[decide_eq_true h,h]; simp
 ·rw[decide_eq_false h]; exact beq_eq_false_iff_ne.2 h
structure Hop where
 ch:Int
 am:Int
 ex:Int
 sec:List UInt8
 tot:Int
 set:List UInt8
 idx:Int
 shr:List UInt8
structure Hop.L32(h:Hop):Prop where
 sec:h.sec.length=32
 set:h.set.length=32
 shr:h.shr.length=32
def Hop.may(h:Hop):Bool:=decide (0≤h.ch∧h.ch≤65535∧0≤h.am∧0≤h.tot∧0≤h.ex∧h.ex≤2147483647∧0≤h.idx∧h.idx≤2147483647)
def hopC(h:Hop):List AV := .int .i64 h.ch :: .int .i64 h.am :: .int .i64 h.ex::(h.sec.map by8++(.int .i64 h.tot::(h.set.map by8++(.int .i64 h.idx::h.shr.map by8))))
def b8F(l:List UInt8)(i:Nat):Int:=Int.ofNat (l.getD i 0).toNat
def hopFn(h:Hop)(i:Nat):Int :=
 if i<3 then(if i=0 then h.ch else if i=1 then h.am else h.ex)
 else if i<35 then b8F h.sec (i - 3)
 else if i=35 then h.tot
 else if i<68 then b8F h.set (i - 36)
 else if i=68 then h.idx else b8F h.shr (i - 69)
theorem byF_of{l:List UInt8}{n o:Nat}{f:Nat→Int}(hl:l.length=n)(h:∀ i,i<n→f (o+i)=b8F l i):byF n o f=l.map by8:=by
 apply List.ext_getElem?
 intro i
 unfold byF
 rw[List.getElem?_map,List.getElem?_map]
 by_cases hi:i<n
 ·rw[List.getElem?_range hi,List.getElem?_eq_getElem (by omega)]
  simp only[Option.map_some]
  rw[h i hi]
  unfold b8F by8
  rw[List.getD_eq_getElem?_getD,List.getElem?_eq_getElem (by omega)]
  rfl
 ·rw[List.getElem?_eq_none (by rw[List.length_range]; omega),List.getElem?_eq_none (by omega)]
  rfl
theorem byF_b8{l:List UInt8}{n:Nat}(hl:l.length=n):byF n 0 (b8F l)=l.map by8:=byF_of hl fun i _=>by rw[Nat.zero_add]
theorem hopC_F{h:Hop}(hl:h.L32):hopC h=hopF (hopFn h):=by
 have e1:byF 32 3 (hopFn h)=h.sec.map by8:=byF_of hl.sec fun i hi=>by
  unfold hopFn
  rw[if_neg (by omega),if_pos (by omega),show 3+i - 3=i by omega]
 have e2:byF 32 36 (hopFn h)=h.set.map by8:=byF_of hl.set fun i hi=>by
  unfold hopFn
  rw[if_neg (by omega),if_neg (by omega),if_neg (by omega),if_pos (by omega),show 36+i - 36=i by omega]
 have e3:byF 32 69 (hopFn h)=h.shr.map by8:=byF_of hl.shr fun i hi=>by
  unfold hopFn
  rw[if_neg (by omega),if_neg (by omega),if_neg (by omega),if_neg (by omega),if_neg (by omega),show 69+i - 69=i by omega]
 unfold hopF
 rw[e1,e2,e3]
 rfl
def hopOf(hc:List AV):Hop:=⟨intA (hc.getD 0 .top),intA (hc.getD 1 .top),intA (hc.getD 2 .top),bytesA ((hc.drop 3).take 32),intA (hc.getD 35 .top),bytesA ((hc.drop 36).take 32),intA (hc.getD 68 .top),bytesA ((hc.drop 69).take 32)⟩
theorem hopOf_C{h:Hop}(hl:h.L32):hopOf (hopC h)=h:=by
 obtain⟨ch,am,ex,sec,tot,set,idx,shr⟩:=h
 obtain⟨h1,h2,h3⟩:=hl
 dsimp only at h1 h2 h3
 have l1:(sec.map by8).length=32:=by rw[List.length_map,h1]
 have l2:(set.map by8).length=32:=by rw[List.length_map,h2]
 have l3:(shr.map by8).length=32:=by rw[List.length_map,h3]
 have a3:(hopC ⟨ch,am,ex,sec,tot,set,idx,shr⟩).drop 3=sec.map by8++(.int .i64 tot::(set.map by8++(.int .i64 idx::shr.map by8))):=rfl
 have a35:(hopC ⟨ch,am,ex,sec,tot,set,idx,shr⟩).drop 35 = .int .i64 tot::(set.map by8++(.int .i64 idx::shr.map by8)):=by
  have:(hopC ⟨ch,am,ex,sec,tot,set,idx,shr⟩).drop 35=((hopC ⟨ch,am,ex,sec,tot,set,idx,shr⟩).drop 3).drop 32:=by rw[List.drop_drop]
  rw[this,a3,←l1,List.drop_left]
 have a36:(hopC ⟨ch,am,ex,sec,tot,set,idx,shr⟩).drop 36=set.map by8++(.int .i64 idx::shr.map by8):=by
  have:(hopC ⟨ch,am,ex,sec,tot,set,idx,shr⟩).drop 36=((hopC ⟨ch,am,ex,sec,tot,set,idx,shr⟩).drop 35).drop 1:=by rw[List.drop_drop]
  rw[this,a35]
  rfl
 have a68:(hopC ⟨ch,am,ex,sec,tot,set,idx,shr⟩).drop 68 = .int .i64 idx::shr.map by8:=by
  have:(hopC ⟨ch,am,ex,sec,tot,set,idx,shr⟩).drop 68=((hopC ⟨ch,am,ex,sec,tot,set,idx,shr⟩).drop 36).drop 32:=by rw[List.drop_drop]
  rw[this,a36,←l2,List.drop_left]
 have a69:(hopC ⟨ch,am,ex,sec,tot,set,idx,shr⟩).drop 69=shr.map by8:=by
  have:(hopC ⟨ch,am,ex,sec,tot,set,idx,shr⟩).drop 69=((hopC ⟨ch,am,ex,sec,tot,set,idx,shr⟩).drop 68).drop 1:=by rw[List.drop_drop]
  rw[this,a68]
  rfl
 have g:∀ (cs:List AV) (i:Nat) x r,cs.drop i=x::r→cs.getD i .top=x:=by
  intro cs i x r h
  rw[List.getD_eq_getElem?_getD]
  have:cs[i]? = (cs.drop i)[0]? := by rw[List.getElem?_drop,Nat.add_zero]
  rw[this,h]; rfl
 unfold hopOf
 rw[a3,a36,a69,g _ 35 _ _ a35,g _ 68 _ _ a68]
 rw[show(sec.map by8++(AV.int .i64 tot::(set.map by8++(.int .i64 idx::shr.map by8)))).take 32=sec.map by8 by rw[←l1,List.take_left],
  show(set.map by8++(AV.int .i64 idx::shr.map by8)).take 32=set.map by8 by rw[←l2,List.take_left],List.take_of_length_le (by omega),bytesA_by8,bytesA_by8,bytesA_by8]
 rfl
theorem hopC_length{h:Hop}(hl:h.L32):(hopC h).length=101:=by
 obtain⟨h1,h2,h3⟩:=hl
 unfold hopC
 simp only[List.length_cons,List.length_append,List.length_map,h1,h2,h3]
theorem hopC_flat(h:Hop):flatL (hopC h):=by
 unfold hopC
 intro a ha
 simp only[List.mem_cons,List.mem_append,List.mem_map] at ha
 rcases ha with rfl|rfl|rfl|⟨b,_,rfl⟩|rfl|⟨b,_,rfl⟩|rfl|⟨b,_,rfl⟩<;>rfl
def PHop(hc:List AV):Prop:=∃ h:Hop,h.L32∧hc=hopC h
theorem may_t{h:Hop}(k:0≤h.ch∧h.ch≤65535∧0≤h.am∧0≤h.tot∧0≤h.ex∧h.ex≤2147483647∧0≤h.idx∧h.idx≤2147483647):AV.bool true = .bool h.may:=congrArg AV.bool (Eq.symm (decide_eq_true k))
theorem may_f{h:Hop}(k:¬ (0≤h.ch∧h.ch≤65535∧0≤h.am∧0≤h.tot∧0≤h.ex∧h.ex≤2147483647∧0≤h.idx∧h.idx≤2147483647)):AV.bool false = .bool h.may:=congrArg AV.bool (Eq.symm (decide_eq_false k))
theorem tabH_ok:∀ f vf,tabH f=some vf→FnOK Tryd.prog f vf:=by
 intro f vf h
 unfold tabH at h
 split at h<;>cases h
 ·exact ok34
 ·exact ok35
theorem call83{h:Hop}(hl:h.L32):CallTo Tryd.prog 35 [.agg (hopC h)] [] (.bool h.may) [] []:=by
 rw[hopC_F hl]
 refine call_n (noCn_ok _) (noLn_ok _) tabH_ok (show tabH 35=some vf35 from rfl) (n:=200) (g:=kdFit) (m:=fun _=>0) [] ?_ (Nat.le_refl 0) rfl (fun b hb=>by simp at hb)
 have e0:hopFn h 0=h.ch:=rfl
 have e1:hopFn h 1=h.am:=rfl
 have e2:hopFn h 2=h.ex:=rfl
 have e3:hopFn h 35=h.tot:=rfl
 have e4:hopFn h 68=h.idx:=rfl
 rw[vc83,e0,e1,e2,e3,e4]
 simp only[nGeq',nLeq',br_if,decide_eq_true_eq,decide_eq_false_iff_not]
 simp only[Int.ofNat_eq_natCast]
 repeat' first|with_reducible apply And.intro|with_reducible intro
 all_goals first|trivial|(refine may_t (h:=h) ?_;omega)|(refine may_f (h:=h) ?_;omega)
end
end Go.Proofs.Vm

namespace Go.Proofs.Vm
set_option maxRecDepth 100000
open Go.Vm
noncomputable section
def tabP(f:Nat):Option VF:=match f with
 | 40=>some vf40
 | 56=>some vf56
 | 57=>some vf57
 | 58=>some vf58
 | _=>none
def hiA(n:Nat)(x:Int):List AV:=(List.range n).map fun i => .int .u8 (ops0.cvt .u8 (ops0.shf .shr .i64 x (Int.ofNat (8*(n - 1 - i)))))
def partF(f g:Nat→Int):List AV :=
 hiA 2 (f 0)++(hiA 8 (f 1)++(hiA 4 (f 2)++(byF 32 3 f++(hiA 8 (f 35)++(byF 32 36 f++(hiA 4 (f 68)++(byF 32 69 f++(byF 32 0 g++z8 102))))))))
theorem vc87(f g:Nat→Int)(Q:Nat→Nat→Nat→Nat→List AV→Prop):(vcall (vcA kdFit noCn noLn) ops0 tabP 400 vf40 [.agg (hopF f),.agg (byF 32 0 g)] [] (endB Q))=(flatL (partF f g)∧Q 0 256 256 1 (partF f g)):=by kernel_rfl
theorem tabP_ok:∀ f vf,tabP f=some vf→FnOK Tryd.prog f vf:=by
 intro f vf h
 unfold tabP at h
 split at h<;>cases h
 ·exact ok40
 ·exact ok56
 ·exact ok57
 ·exact ok58
def hiL(n x:Nat):List UInt8:=(List.range n).map fun i=>UInt8.ofNat (x / 2 ^ (8*(n - 1 - i)))
theorem hiL_length(n x:Nat):(hiL n x).length=n:=by unfold hiL;rw[List.length_map,List.length_range]
def partL(h:Hop)(next:List UInt8):List UInt8 :=
 hiL 2 h.ch.toNat++(hiL 8 h.am.toNat++(hiL 4 h.ex.toNat++(h.sec++(hiL 8 h.tot.toNat++(h.set++(hiL 4 h.idx.toNat++(h.shr++(next++List.replicate 102 0))))))))
theorem partL_length{h:Hop}(hl:h.L32){next:List UInt8}(hn:next.length=32):(partL h next).length=256:=by
 obtain⟨h1,h2,h3⟩:=hl
 unfold partL
 simp only[List.length_append,hiL_length,h1,h2,h3,hn,List.length_replicate]
theorem shrI(k s:Nat)(h:s≤64):ops0.cvt .u8 (ops0.shf .shr .i64 (Int.ofNat k) (Int.ofNat s))=Int.ofNat (UInt8.ofNat (k / 2 ^ s)).toNat:=by
 have e1:ops0.shf .shr .i64 (Int.ofNat k) (Int.ofNat s)=Int.ofNat (k / 2 ^ s):=by
  show(Int.ofNat k).fdiv (2 ^ (Nat.min (Int.ofNat s).toNat 64))=_
  have:Nat.min (Int.ofNat s).toNat 64=s:=Nat.min_eq_left h
  rw[this]
  have e2:(2:Int) ^ s=Int.ofNat (2 ^ s):=by simp
  rw[e2]
  exact Int.fdiv_eq_ediv_of_nonneg _ (Int.natCast_nonneg _)
 rw[e1]
 generalize k / 2 ^ s=q
 show IntKind.u8.wrap (Int.ofNat q)=_
 simp[IntKind.wrap,IntKind.bits,IntKind.signed]
theorem hiA_eq{n:Nat}{x:Int}(hx:0≤x)(hn:n≤8):hiA n x=(hiL n x.toNat).map by8:=by
 obtain⟨k,rfl⟩:∃ k:Nat,x=Int.ofNat k:=⟨x.toNat,(Int.toNat_of_nonneg hx).symm⟩
 unfold hiA hiL
 rw[List.map_map]
 apply List.map_congr_left
 intro i _
 show AV.int .u8 _=AV.int .u8 _
 rw[shrI _ _ (by omega)]
 rfl
def Hop.pos(h:Hop):Prop:=0≤h.ch∧0≤h.am∧0≤h.ex∧0≤h.tot∧0≤h.idx
theorem Hop.may_pos{h:Hop}(k:h.may=true):h.pos:=by
 have k:=of_decide_eq_true k
 exact⟨by omega,by omega,by omega,by omega,by omega⟩
theorem partF_eq{h:Hop}(hl:h.L32)(hp:h.pos){next:List UInt8}(hn:next.length=32):partF (hopFn h) (b8F next)=(partL h next).map by8:=by
 obtain⟨p1,p2,p3,p4,p5⟩:=hp
 have e0:hopFn h 0=h.ch:=rfl
 have e1:hopFn h 1=h.am:=rfl
 have e2:hopFn h 2=h.ex:=rfl
 have e3:hopFn h 35=h.tot:=rfl
 have e4:hopFn h 68=h.idx:=rfl
 have s1:byF 32 3 (hopFn h)=h.sec.map by8:=byF_of hl.sec fun i hi=>by
  unfold hopFn
  rw[if_neg (by omega),if_pos (by omega),show 3+i - 3=i by omega]
 have s2:byF 32 36 (hopFn h)=h.set.map by8:=byF_of hl.set fun i hi=>by
  unfold hopFn
  rw[if_neg (by omega),if_neg (by omega),if_neg (by omega),if_pos (by omega),show 36+i - 36=i by omega]
 have s3:byF 32 69 (hopFn h)=h.shr.map by8:=byF_of hl.shr fun i hi=>by
  unfold hopFn
  rw[if_neg (by omega),if_neg (by omega),if_neg (by omega),if_neg (by omega),if_neg (by omega),show 69+i - 69=i by omega]
 unfold partF partL
 rw[e0,e1,e2,e3,e4,s1,s2,s3,byF_b8 hn,hiA_eq p1 (by decide),hiA_eq p2 (by decide),hiA_eq p3 (by decide),hiA_eq p4 (by decide),hiA_eq p5 (by decide),z8_eq]
 simp only[List.map_append]
theorem call87{h:Hop}(hl:h.L32)(hp:h.pos){next:List UInt8}(hn:next.length=32):CallTo Tryd.prog 40 [.agg (hopC h),.agg (next.map by8)] [] (.slc 0 0 256 256 1) [.cells ((partL h next).map by8)] []:=by
 rw[hopC_F hl,←byF_b8 hn]
 refine call_b (noCn_ok _) (noLn_ok _) tabP_ok (show tabP 40=some vf40 from rfl) (n:=400) (g:=kdFit) ?_
 rw[vc87,partF_eq hl hp hn]
 exact⟨flat_by8 _,rfl,rfl,rfl,rfl,rfl⟩
end
end Go.Proofs.Vm

namespace Go.Proofs.Vm
set_option maxRecDepth 100000
open Go.Vm
noncomputable section
def tabA(f:Nat):Option VF:=match f with
 | 61=>some vf61
 | 62=>some vf62
 | 71=>some vf71
 | _=>none
def tabR(f:Nat):Option VF:=match f with
 | 44=>some vf44
 | 56=>some vf56
 | 59=>some vf59
 | 60=>some vf60
 | 17=>some vf17
 | _=>none
def PHp(hc:List AV):Prop:=∃ h:Hop,h.L32∧h.pos∧hc=hopC h
structure RW where
 any:List AV→Nat→Bool
 may:List AV→Bool
 part:List AV→List AV→List AV
def cnR(W:RW):CnF:=fun f vals H=>match f,vals with
 | 61,[.ros pc off 102 c e,.fn 62 [] []]=>some (PB pc off 102,.cond (W.any pc off) (.ok (.bool true) H []) (.ok (.bool false) H []))
 | 35,[.agg hc]=>some (PHop hc,.cond (W.may hc) (.ok (.bool true) H []) (.ok (.bool false) H []))
 | _,_=>none
def brAny(f:Nat→Int)(r s:Prop):List Nat→Prop
 | []=>s
 | i::is=>Br (ops0.cmp .neq (f i) (Int.ofNat 0)) r (brAny f r s is)
theorem vc113(f:Nat→Int)(c:Nat)(e:Bool)(Q:AV→Hl→Prop):(vcall (vcA kdFit noCn noLn) ops0 tabA 400 vf61 [.ros (byF 102 0 f) 0 102 c e,.fn 62 [] []] [] (endN (fun _=>0) Q))=brAny f (Q (.bool true) []) (Q (.bool false) []) (List.range 102):=by kernel_rfl
def orP(f:Nat→Int)(o n:Nat):Int:=(List.range n).foldl (fun x i=>ops0.bin .or .i64 (ops0.shf .shl .i64 x (Int.ofNat 8)) (ops0.cvt .i64 (f (o+i)))) (Int.ofNat 0)
def hopP(nu:Nat→Nat→Int)(f:Nat→Int):List AV := .int .i64 (nu 0 2) :: .int .i64 (nu 2 8) :: .int .i64 (nu 10 4)::(byF 32 14 f++(.int .i64 (nu 46 8)::(byF 32 54 f++(.int .i64 (nu 86 4)::byF 32 90 f))))
def hop0:Hop:=⟨0,0,0,zero32,0,zero32,0,zero32⟩
def noHop:AV := .tup [.agg (hopC hop0),.agg (zero32.map by8),.bool false]
theorem vc97(W:RW)(f:Nat→Int)(Q:AV→Hl→Prop):(vcall (vcA kdFit (cnR W) noLn) ops0 tabR 600 vf44 [.ros (byF 256 0 f) 0 256 256 false] [] (endN (fun _=>0) Q)) =
 (PB (byF 256 0 f) 154 102∧Br (W.any (byF 256 0 f) 154) (Q noHop []) (PHop (hopP (orP f) f)∧Br (W.may (hopP (orP f) f)) (Q (.tup [.agg (hopP (orP f) f),.agg (byF 32 122 f),.bool true]) []) (Q noHop []))):=by kernel_rfl
theorem tabA_ok:∀ f vf,tabA f=some vf→FnOK Tryd.prog f vf:=by
 intro f vf h
 unfold tabA at h
 split at h<;>cases h
 ·exact ok61
 ·exact ok62
 ·exact ok71
theorem tabR_ok:∀ f vf,tabR f=some vf→FnOK Tryd.prog f vf:=by
 intro f vf h
 unfold tabR at h
 split at h<;>cases h
 ·exact ok44
 ·exact ok56
 ·exact ok59
 ·exact ok60
 ·exact ok17
def nuL(b:List UInt8):Nat:=b.foldl (fun x c=>x*256+c.toNat) 0
def sg(n:Nat):Int:=IntKind.i64.wrap (n:Int)
theorem nuL_snoc(b:List UInt8)(c:UInt8):nuL (b ++ [c])=nuL b*256+c.toNat:=by unfold nuL;rw[List.foldl_append]; rfl
theorem fold_lt:∀ (b:List UInt8) (x m:Nat),x<m→b.foldl (fun x c=>x*256+c.toNat) x<m*256 ^ b.length
 | [],x,m,h=>by simpa using h
 | c::b,x,m,h=>by
  have h1:=c.toNat_lt
  have:=fold_lt b (x*256+c.toNat) (m*256) (by omega)
  rw[List.foldl_cons,List.length_cons,Nat.pow_succ,Nat.mul_comm (256 ^ b.length) 256,←Nat.mul_assoc]
  exact this
theorem nuL_lt(b:List UInt8):nuL b<256 ^ b.length:=by
 have:=fold_lt b 0 1 (by omega)
 rwa [Nat.one_mul] at this
theorem wrap_mod(z:Int):(IntKind.i64.wrap z) % 18446744073709551616=z % 18446744073709551616:=by
 simp[IntKind.wrap,IntKind.bits,IntKind.signed]
 omega
theorem wrap_congr{y z:Int}(h:y % 18446744073709551616=z % 18446744073709551616):IntKind.i64.wrap y=IntKind.i64.wrap z:=by
 simp[IntKind.wrap,IntKind.bits,IntKind.signed]
 omega
theorem cvt_byte(c:UInt8):ops0.cvt .i64 (Int.ofNat c.toNat)=Int.ofNat c.toNat:=nCi (by have:=c.toNat_lt;omega)
theorem orP_step(n:Nat)(c:UInt8):ops0.bin .or .i64 (ops0.shf .shl .i64 (sg n) (Int.ofNat 8)) (Int.ofNat c.toNat)=sg (n*256+c.toNat):=by
 have e1:ops0.shf .shl .i64 (sg n) (Int.ofNat 8)=sg (n*256):=by
  show IntKind.i64.wrap (IntKind.i64.wrap (n:Int)*2 ^ (Nat.min (Int.ofNat 8).toNat 64))=IntKind.i64.wrap _
  have:(2:Int) ^ (Nat.min (Int.ofNat 8).toNat 64)=256:=rfl
  rw[this]
  apply wrap_congr
  have h2:=wrap_mod (n:Int)
  generalize IntKind.i64.wrap (n:Int)=a at h2 ⊢
  omega
 rw[e1]
 show IntKind.i64.wrap ((BitVec.ofInt 64 (sg (n*256)) ||| BitVec.ofInt 64 (Int.ofNat c.toNat)).toNat)=IntKind.i64.wrap _
 apply wrap_congr
 have hc:=c.toNat_lt
 have hb:(BitVec.ofInt 64 (sg (n*256)) ||| BitVec.ofInt 64 (Int.ofNat c.toNat))=BitVec.ofNat 64 (n*256+c.toNat):=by
  have a1:BitVec.ofInt 64 (sg (n*256))=BitVec.ofNat 64 (n*256):=by
   apply BitVec.eq_of_toNat_eq
   rw[BitVec.toNat_ofInt,BitVec.toNat_ofNat]
   have:=wrap_mod ((n*256:Nat):Int)
   show(IntKind.i64.wrap ((n*256:Nat):Int) % ((2 ^ 64:Nat):Int)).toNat=n*256 % 2 ^ 64
   omega
  have a2:BitVec.ofInt 64 (Int.ofNat c.toNat)=BitVec.ofNat 64 c.toNat:=rfl
  rw[a1,a2]
  apply BitVec.eq_of_toNat_eq
  rw[BitVec.toNat_or,BitVec.toNat_ofNat,BitVec.toNat_ofNat,BitVec.toNat_ofNat]
  have e2:n*256 % 2 ^ 64=(n % 2 ^ 56)*2 ^ 8:=Nat.mul_mod_mul_right 256 n (2 ^ 56)
  have e3:c.toNat % 2 ^ 64=c.toNat:=Nat.mod_eq_of_lt (Nat.lt_trans hc (by decide))
  have hq:n % 2 ^ 56<72057594037927936:=Nat.mod_lt n (by decide)
  have e4:(n*256+c.toNat) % 2 ^ 64=(n % 2 ^ 56)*2 ^ 8+c.toNat:=by
   rw[Nat.add_mod,e2,e3]
   generalize n % 2 ^ 56=q at hq
   exact Nat.mod_eq_of_lt (show q*256+c.toNat<18446744073709551616 by omega)
  rw[e2,e3,e4,Nat.mul_comm]
  exact(Nat.two_pow_add_eq_or_of_lt (by omega) _).symm
 rw[hb,BitVec.toNat_ofNat]
 omega
theorem fold_num(st:Int→Int→Int)(hst:∀ (n:Nat) (c:UInt8),st (sg n) (Int.ofNat c.toNat)=sg (n*256+c.toNat)){b:List UInt8}{f:Nat→Int}{o:Nat}:∀ n,n≤b.length→(∀ i,i<n→f (o+i)=b8F b i) →
  (List.range n).foldl (fun x i=>st x (ops0.cvt .i64 (f (o+i)))) (Int.ofNat 0)=sg (nuL (b.take n))
 | 0,_,_=>by
  rw[List.take_zero]
  show Int.ofNat 0=IntKind.i64.wrap ((0:Nat):Int)
  rfl
 | n+1,hn,h=>by
  rw[List.range_succ,List.foldl_append,fold_num st hst n (by omega) (fun i hi=>h i (by omega))]
  simp only[List.foldl_cons,List.foldl_nil]
  rw[h n (by omega)]
  have e:b8F b n=Int.ofNat (b[n]'(by omega)).toNat:=by
   unfold b8F
   rw[List.getD_eq_getElem?_getD,List.getElem?_eq_getElem (by omega)]; rfl
  rw[e,cvt_byte,hst,List.take_succ_eq_append_getElem (by omega),nuL_snoc]
theorem sub_b8{b:List UInt8}{o n:Nat}(h:o+n≤b.length):∀ i,i<n→b8F b (o+i)=b8F ((b.drop o).take n) i:=by
 intro i hi
 unfold b8F
 rw[List.getD_eq_getElem?_getD,List.getD_eq_getElem?_getD,List.getElem?_take,if_pos hi,List.getElem?_drop]
theorem orP_eq{b:List UInt8}{o n:Nat}(h:o+n≤b.length):orP (b8F b) o n=sg (nuL ((b.drop o).take n)):=by
 have hl:((b.drop o).take n).length=n:=by rw[List.length_take,List.length_drop]; omega
 have:=fold_num (fun x y=>ops0.bin .or .i64 (ops0.shf .shl .i64 x (Int.ofNat 8)) y) orP_step (b:=(b.drop o).take n) (f:=b8F b) (o:=o) n (by omega) (fun i hi=>sub_b8 h i hi)
 rw[List.take_of_length_le (by omega)] at this
 exact this
def sl(b:List UInt8)(o n:Nat):List UInt8:=(b.drop o).take n
def readH(b:List UInt8):Hop:=⟨sg (nuL (sl b 0 2)),sg (nuL (sl b 2 8)),sg (nuL (sl b 10 4)),sl b 14 32,sg (nuL (sl b 46 8)),sl b 54 32,sg (nuL (sl b 86 4)),sl b 90 32⟩
def readN(b:List UInt8):List UInt8:=sl b 122 32
def readZ(b:List UInt8):Bool:=(b.drop 154).any fun c=>c != 0
def readOk(b:List UInt8):Bool := !readZ b && (readH b).may
theorem sl_length{b:List UInt8}{o n:Nat}(h:o+n≤b.length):(sl b o n).length=n:=by unfold sl;rw[List.length_take,List.length_drop]; omega
theorem readH_32{b:List UInt8}(h:b.length=256):(readH b).L32:=⟨sl_length (by omega),sl_length (by omega),sl_length (by omega)⟩
theorem readN_32{b:List UInt8}(h:b.length=256):(readN b).length=32:=sl_length (by omega)
theorem byF_sl{b:List UInt8}{o n:Nat}(h:o+n≤b.length):byF n o (b8F b)=(sl b o n).map by8:=byF_of (sl_length h) (sub_b8 h)
theorem hopP_or{b:List UInt8}(h:b.length=256):hopP (orP (b8F b)) (b8F b)=hopC (readH b):=by
 unfold hopP
 rw[orP_eq (by omega),orP_eq (by omega),orP_eq (by omega),orP_eq (by omega),orP_eq (by omega),byF_sl (by omega),byF_sl (by omega),byF_sl (by omega)]
 rfl
theorem brAny_mk{f:Nat→Int}{r s:Prop}{b:List UInt8}:∀ (is:List Nat),(∀ i,i∈is→f i=b8F b i)→(brAny f r s is↔if(is.any fun i=>b.getD i 0 != 0) then r else s)
 | [],_=>by simp[brAny]
 | i::is,h=>by
  have ih:=brAny_mk (f:=f) (r:=r) (s:=s) (b:=b) is (fun j hj=>h j (List.mem_cons_of_mem _ hj))
  have e:ops0.cmp .neq (f i) (Int.ofNat 0)=(b.getD i 0 != 0):=by
   rw[h i (List.mem_cons_self ..)]
   unfold b8F
   rw[nNeq]
   by_cases hz:b.getD i 0=0
   ·rw[hz]; rfl
   ·have:(b.getD i 0).toNat≠0:=fun h=>hz (UInt8.toNat_inj.1 h)
    rw[decide_eq_true this]
    exact(bne_iff_ne.2 hz).symm
  show Br _ r (brAny f r s is)↔_
  rw[e,List.any_cons]
  cases hb:(b.getD i 0 != 0)
  ·rw[br_ff,Bool.false_or]; exact ih
  ·rw[br_tt,Bool.true_or,if_pos rfl]
theorem any_range(b:List UInt8):((List.range b.length).any fun i=>b.getD i 0 != 0)=b.any fun c=>c != 0:=by
 rw[Bool.eq_iff_iff,List.any_eq_true,List.any_eq_true]
 constructor
 ·rintro⟨i,hi,h⟩
  have hi:=List.mem_range.1 hi
  exact⟨b[i],List.getElem_mem hi,by rw[List.getD_eq_getElem?_getD,List.getElem?_eq_getElem hi] at h;exact h⟩
 ·rintro⟨c,hc,h⟩
  obtain⟨i,hi,rfl⟩:=List.mem_iff_getElem.1 hc
  exact⟨i,List.mem_range.2 hi,by rw[List.getD_eq_getElem?_getD,List.getElem?_eq_getElem hi]; exact h⟩
theorem call113{b:List UInt8}(h:b.length=102)(c:Nat)(e:Bool):CallTo Tryd.prog 61 [.ros (b.map by8) 0 102 c e,.fn 62 [] []] [] (.bool (b.any fun c=>c != 0)) [] []:=by
 rw[←byF_b8 h]
 refine call_n (noCn_ok _) (noLn_ok _) tabA_ok (show tabA 61=some vf61 from rfl) (n:=400) (g:=kdFit) (m:=fun _=>0) [] ?_ (Nat.le_refl 0) rfl (fun b hb=>by simp at hb)
 rw[vc113,brAny_mk (b:=b) _ (fun i _=>rfl),←h,any_range]
 cases b.any fun c=>c != 0<;>exact⟨rfl,rfl⟩
theorem VLe.sub{pc:List AV}{off len cap:Nat}{e:Bool}(h:off+len≤pc.length):VLe (.ros pc off len cap e) (.ros ((pc.drop off).take len) 0 len cap e):=by
 intro ρ w v hv
 cases hv with
 | ros _ _ _ _ _ B F ao cap' vs hlt hp hl ho hc hr hcap hlen he ha =>
  have hne:((pc.drop off).take len) ≠ []→pc ≠ []:=fun hn h0=>hn (by rw[h0]; simp)
  refine .ros _ 0 len cap e B (F+off) ao cap' ((vs.drop off).take len) (fun hn=>hlt (hne hn)) (fun hn b F' => ?_) (by simp[hl]) (fun v hv=>ho v (List.mem_of_mem_drop (List.mem_of_mem_take hv))) (fun i v hi => ?_) (fun i a v hi hv => ?_) hcap hlen he (fun h0 => ?_)
  ·exact fun hl=>absurd hl (hp (hne hn) b F')
  ·rw[List.getElem?_take] at hi
   split at hi
   ·rw[List.getElem?_drop] at hi
    have:=hc _ v hi
    rw[Nat.add_assoc]
    exact this
   ·cases hi
  ·rw[List.getElem?_take] at hi hv
   split at hi
   ·rename_i h1
    rw[if_pos h1,List.getElem?_drop] at hv
    rw[List.getElem?_drop] at hi
    exact hr _ a v hi hv
   ·cases hi
  ·rw[ha h0,Nat.add_zero]
end
end Go.Proofs.Vm

namespace Go.Proofs.Vm
set_option maxRecDepth 100000
open Go.Vm
noncomputable section
theorem VLe.trans{a b c:AV}(h:VLe a b)(k:VLe b c):VLe a c:=fun ρ w v hv=>k ρ w v (h ρ w v hv)
theorem Vw.le{H:Hl}{x y z:AV}(h:Vw H x y)(k:VLe y z):Vw H x z:=VLe.trans h k
theorem Vw.bytes{H:Hl}{x:AV}{pc:List AV}{off len cap:Nat}{e:Bool}{lb:List UInt8}(hv:vw1 H x = .ros pc off len cap e)(hf:flatL pc)(ho:off+len≤pc.length)(hb:BytesAt pc off len lb):Vw H x (.ros (lb.map by8) 0 len cap e):=by
 have h:=Vw.le (Vw.one hv hf) (VLe.sub ho)
 rw[hb.2] at h
 exact h
def rw0:RW:=⟨fun pc off=>(rdB pc off 102).any fun c=>c != 0,fun hc=>(hopOf hc).may,fun hc ns=>(partL (hopOf hc) (bytesA ns)).map by8⟩
theorem rw_may{h:Hop}(hl:h.L32):rw0.may (hopC h)=h.may:=by
 show(hopOf (hopC h)).may=_
 rw[hopOf_C hl]
theorem rw_part{h:Hop}(hl:h.L32)(next:List UInt8):rw0.part (hopC h) (next.map by8)=(partL h next).map by8:=by
 show(partL (hopOf (hopC h)) (bytesA _)).map by8=_
 rw[hopOf_C hl,bytesA_by8]
theorem vwHop(H:Hl)(h:Hop):Vw H (.agg (hopC h)) (.agg (hopC h)):=Vw.agg H (Still.flat (hopC_flat h))
theorem cnR_ok:CnOK Tryd.prog (cnR rw0):=by
 intro f vals H p x e hp
 unfold cnR at e
 split at e
 ·rename_i pc off c e2
  cases e
  obtain⟨hf,ho,_,lb,hb⟩:=hp
  have h:=CallTo.lookV (H:=H) (call113 (b:=lb) hb.1 c e2) (.cons (Vw.bytes (x := .ros pc off 102 c e2) rfl hf ho hb) (.cons (Vw.same fun _ _=>rfl) .nil))
  have e1:rw0.any pc off=lb.any fun c=>c != 0:=by
   show(rdB pc off 102).any _=_
   rw[rdB_eq hb]
  rw[e1]
  generalize (lb.any fun c=>c != 0)=z at h
  cases z<;>exact h
 ·rename_i hc
  cases e
  obtain⟨h,hl,rfl⟩:=hp
  have h1:=CallTo.lookV (H:=H) (call83 hl) (.cons (vwHop H h) .nil)
  rw[rw_may hl]
  generalize h.may=z at h1
  cases z<;>exact h1
 ·cases e
theorem hiL_succ(n x:Nat):hiL (n+1) x=hiL n (x / 256) ++ [UInt8.ofNat x]:=by
 unfold hiL
 rw[List.range_succ,List.map_append]
 congr 1
 ·apply List.map_congr_left
  intro i hi
  have hi:=List.mem_range.1 hi
  rw[Nat.div_div_eq_div_mul,show 8*(n+1 - 1 - i)=8+8*(n - 1 - i) by omega,Nat.pow_add]
 ·simp
theorem hiL_nuL:∀ (n:Nat) (b:List UInt8),b.length=n→hiL n (nuL b)=b
 | 0,b,h=>by
  have:b = []:=List.eq_nil_of_length_eq_zero h
  subst this;rfl
 | n+1,b,h=>by
  have hb:b ≠ []:=fun h0=>by rw[h0] at h;simp at h
  have e:=List.dropLast_concat_getLast hb
  rw[hiL_succ]
  have hl:b.dropLast.length=n:=by rw[List.length_dropLast]; omega
  have hc:=(b.getLast hb).toNat_lt
  have e2:nuL b=nuL b.dropLast*256+(b.getLast hb).toNat:=by rw[←nuL_snoc,e]
  have e3:nuL b / 256=nuL b.dropLast:=by omega
  have e4:UInt8.ofNat (nuL b)=b.getLast hb:=by
   apply UInt8.toNat_inj.1
   rw[UInt8.toNat_ofNat']
   omega
  rw[e3,e4,hiL_nuL n _ hl,e]
theorem sg_small{n:Nat}(h:n<9223372036854775808):sg n=(n:Int):=by
 show IntKind.i64.wrap (n:Int)=_
 exact i64_wrap (by omega) (by omega)
theorem sg_nn{n:Nat}(h:n<18446744073709551616)(h0:0≤sg n):(sg n).toNat=n:=by
 by_cases hs:n<9223372036854775808
 ·rw[sg_small hs]; omega
 ·exfalso
  have h1:sg n=(n:Int) - 18446744073709551616:=by
   show IntKind.i64.wrap (n:Int)=_
   simp[IntKind.wrap,IntKind.bits,IntKind.signed]
   omega
  omega
theorem drop_sl(b:List UInt8)(o n:Nat):b.drop o=sl b o n++b.drop (o+n):=by
 unfold sl
 rw[←List.drop_drop,List.take_append_drop]
theorem hiL_field{b:List UInt8}{o n:Nat}(h:o+n≤b.length)(hn:n≤8)(h0:0≤sg (nuL (sl b o n))):hiL n (sg (nuL (sl b o n))).toNat=sl b o n:=by
 have hl:=sl_length h
 have h1:=nuL_lt (sl b o n)
 rw[hl] at h1
 have h2:256 ^ n≤256 ^ 8:=Nat.pow_le_pow_right (by decide) hn
 have h3:(256:Nat) ^ 8=18446744073709551616:=rfl
 rw[sg_nn (by omega) h0,hiL_nuL n _ hl]
theorem any_zeros{l:List UInt8}{n:Nat}(hl:l.length=n):(l.any fun c=>c != 0)=false↔l=List.replicate n 0:=by
 constructor
 ·intro h
  rw[List.eq_replicate_iff]
  refine⟨hl,fun b hb => ?_⟩
  have:=List.any_eq_false.1 h b hb
  simpa using this
 ·rintro rfl
  rw[List.any_eq_false]
  intro b hb
  rw[(List.mem_replicate.1 hb).2]
  simp
theorem part_read{b:List UInt8}(hb:b.length=256)(hm:(readH b).may=true):(partL (readH b) (readN b)=b)↔readZ b=false:=by
 obtain⟨p1,p2,p3,p4,p5⟩:=Hop.may_pos hm
 have e:b=sl b 0 2++(sl b 2 8++(sl b 10 4++(sl b 14 32++(sl b 46 8++(sl b 54 32++(sl b 86 4++(sl b 90 32++(sl b 122 32++b.drop 154)))))))):=by
  have h0:b=b.drop 0:=rfl
  rw[←drop_sl b 122 32,←drop_sl b 90 32,←drop_sl b 86 4,←drop_sl b 54 32,←drop_sl b 46 8,←drop_sl b 14 32,←drop_sl b 10 4,←drop_sl b 2 8,←drop_sl b 0 2]
  rfl
 have e2:partL (readH b) (readN b)=sl b 0 2++(sl b 2 8++(sl b 10 4++(sl b 14 32++(sl b 46 8++(sl b 54 32++(sl b 86 4++(sl b 90 32++(sl b 122 32++List.replicate 102 0)))))))):=by
  unfold partL
  rw[show hiL 2 (readH b).ch.toNat=sl b 0 2 from hiL_field (by omega) (by omega) p1,show hiL 8 (readH b).am.toNat=sl b 2 8 from hiL_field (by omega) (by omega) p2,show hiL 4 (readH b).ex.toNat=sl b 10 4 from hiL_field (by omega) (by omega) p3,
   show hiL 8 (readH b).tot.toNat=sl b 46 8 from hiL_field (by omega) (by omega) p4,show hiL 4 (readH b).idx.toNat=sl b 86 4 from hiL_field (by omega) (by omega) p5]
  rfl
 have hz:(b.drop 154).length=102:=by rw[List.length_drop]; omega
 rw[e2]
 generalize b.drop 154=z at e hz
 have hz2:readZ b=z.any fun c=>c != 0:=by
  have:b.drop 154=z:=by
   have h1:(sl b 0 2++(sl b 2 8++(sl b 10 4++(sl b 14 32++(sl b 46 8++(sl b 54 32++(sl b 86 4++(sl b 90 32++sl b 122 32))))))))++z=b.take 154++b.drop 154:=by
    rw[List.take_append_drop]
    simp only[List.append_assoc]
    exact e.symm
   exact(List.append_inj_right' h1 (by rw[List.length_drop]; omega)).symm
  unfold readZ
  rw[this]
 have key:∀ (r:List UInt8),sl b 0 2++(sl b 2 8++(sl b 10 4++(sl b 14 32++(sl b 46 8++(sl b 54 32++(sl b 86 4++(sl b 90 32++(sl b 122 32++r))))))))=b↔r=z:=by
  intro r
  constructor
  ·intro h
   have h2:=h.trans e
   generalize sl b 0 2=a1,sl b 2 8=a2,sl b 10 4=a3,sl b 14 32=a4,sl b 46 8=a5,sl b 54 32=a6,sl b 86 4=a7,sl b 90 32=a8,sl b 122 32=a9 at h2
   exact List.append_cancel_left (List.append_cancel_left (List.append_cancel_left (List.append_cancel_left (List.append_cancel_left (List.append_cancel_left (List.append_cancel_left (List.append_cancel_left (List.append_cancel_left h2))))))))
  ·rintro rfl
   exact e.symm
 rw[hz2,key,any_zeros hz]
 exact⟨Eq.symm,Eq.symm⟩
def rdRes(b:List UInt8):AV:=if readOk b then .tup [.agg (hopC (readH b)),.agg ((readN b).map by8),.bool true] else noHop
theorem cutV_hop(h:Hop)(n:List UInt8)(z:Bool):cutV 0 (.tup [.agg (hopC h),.agg (n.map by8),.bool z]) = .tup [.agg (hopC h),.agg (n.map by8),.bool z]:=by
 unfold cutV
 simp only[ren,renL,renL_flat (hopC_flat h),renL_flat (flat_by8 n)]
theorem cutV_rd(b:List UInt8):cutV 0 (rdRes b)=rdRes b:=by
 unfold rdRes
 split
 ·exact cutV_hop _ _ _
 ·exact cutV_hop _ _ _
theorem call97{b:List UInt8}(hb:b.length=256):CallTo Tryd.prog 44 [.ros (b.map by8) 0 256 256 false] [] (rdRes b) [] []:=by
 refine call_n cnR_ok (noLn_ok _) tabR_ok (show tabR 44=some vf44 from rfl) (n:=600) (g:=kdFit) (m:=fun _=>0) [] ?_ (Nat.le_refl 0) (cutV_rd b) (fun b hb=>by simp at hb)
 rw[←byF_b8 hb,vc97,hopP_or hb,byF_b8 hb,byF_sl (by omega),rw_may (readH_32 hb)]
 have hz:BytesAt (b.map by8) 154 102 (b.drop 154):=⟨by rw[List.length_drop]; omega,by rw[←List.map_drop,List.take_of_length_le (by rw[List.length_map,List.length_drop]; omega)]⟩
 have ha:rw0.any (b.map by8) 154=readZ b:=by
  show(rdB (b.map by8) 154 102).any _=_
  rw[rdB_eq hz]
  rfl
 rw[ha]
 refine⟨⟨flat_by8 _,by rw[List.length_map]; omega,by omega,_,hz⟩,Br.mk (fun h => ?_) (fun h=>⟨⟨_,readH_32 hb,rfl⟩,Br.mk (fun hm => ?_) (fun hm => ?_)⟩)⟩
 ·unfold rdRes readOk
  rw[h]
  exact⟨rfl,rfl⟩
 ·unfold rdRes readOk
  rw[h,hm]
  exact⟨rfl,rfl⟩
 ·unfold rdRes readOk
  rw[h,hm]
  exact⟨rfl,rfl⟩
end
end Go.Proofs.Vm

namespace Go.Proofs.Vm
set_option maxRecDepth 100000
open Go.Vm
noncomputable section
def tabB(f:Nat):Option VF:=match f with
 | 17=>some vf17
 | _=>none
structure OZ where
 keys:List AV→List AV→Nat→Nat→List AV
 ok:List AV→Nat→Bool
 hop:List AV→Nat→List AV
 nxt:List AV→Nat→List AV
 may:List AV→Bool
 part:List AV→List AV→List AV
 cut:List AV→Nat→List AV
def cnO2(Z:OZ)(O:OY)(F:HF):CnF:=cnOr (fun f vals H=>match f,vals with
 | 36,[x,.agg ns]=>match vw1 H x with
  | .ros cs o n _ _=>some (P65 cs o n ns∧1≤n,.ok (.slc (size H) 0 n n 32) (join H [.cells (Z.keys ns cs o n)]) [])
  | _=>none
 | 44,[x]=>match vw1 H x with
  | .ros pc off 256 c _=>some (PB pc off 256∧256≤c,.cond (Z.ok pc off) (.ok (.tup [.agg (Z.hop pc off),.agg (Z.nxt pc off),.bool true]) H []) (.ok noHop H []))
  | _=>none
 | 17,[x]=>match vw1 H x with
  | .ros pc off 32 c _=>some (PB pc off 32,.ok (.agg (Z.cut pc off)) H [])
  | _=>none
 | 35,[.agg hc]=>some (PHop hc,.cond (Z.may hc) (.ok (.bool true) H []) (.ok (.bool false) H []))
 | 40,[.agg hc,.agg ns]=>some (PHp hc∧PKey ns,.ok (.slc (size H) 0 256 256 1) (join H [.cells (Z.part hc ns)]) [])
 | _,_=>none) (cnO1 O F)
theorem vc98(f:Nat→Int)(c:Nat)(e:Bool)(Q:AV→Hl→Prop):(vcall (vcA kdFit noCn noLn) ops0 tabB 200 vf17 [.ros (byF 32 0 f) 0 32 c e] [] (endN (fun _=>0) Q))=Q (.agg (byF 32 0 f)) []:=by kernel_rfl
theorem tabB_ok:∀ f vf,tabB f=some vf→FnOK Tryd.prog f vf:=by
 intro f vf h
 unfold tabB at h
 split at h<;>cases h
 exact ok17
theorem call98{b:List UInt8}(hb:b.length=32)(c:Nat)(e:Bool):CallTo Tryd.prog 17 [.ros (b.map by8) 0 32 c e] [] (.agg (b.map by8)) [] []:=by
 refine call_n (noCn_ok _) (noLn_ok _) tabB_ok (show tabB 17=some vf17 from rfl) (n:=200) (g:=kdFit) (m:=fun _=>0) [] ?_ (Nat.le_refl 0) flat0 (fun b hb=>by simp at hb)
 rw[←byF_b8 hb,vc98]
 exact⟨rfl,rfl⟩
theorem VLe.cap{cs:List AV}{o n c c':Nat}{e:Bool}(h:c'≤c):VLe (.ros cs o n c e) (.ros cs o n c' false):=by
 intro ρ w v hv
 cases hv with
 | ros _ _ _ _ _ B F ao cap' vs hlt hp hl ho hc hr hcap hlen he ha =>
  exact .ros cs o n c' false B F ao cap' vs hlt hp hl ho hc hr (by omega) hlen (fun h=>by cases h) ha
def oz0:OZ where
 keys ns cs o n:=(keysL (shA cs o n) (bytesA ns) n).flatten.map by8
 ok pc off:=readOk (rdB pc off 256)
 hop pc off:=hopC (readH (rdB pc off 256))
 nxt pc off:=(readN (rdB pc off 256)).map by8
 may:=rw0.may
 part:=rw0.part
 cut pc off:=(rdB pc off 32).map by8
theorem back_rd(H:Hl)(h:Hop)(n:List UInt8)(z:Bool):backV [] H.length (.tup [.agg (hopC h),.agg (n.map by8),.bool z]) = .tup [.agg (hopC h),.agg (n.map by8),.bool z]:=by
 unfold backV
 simp only[ren,renL,renL_flat (hopC_flat h),renL_flat (flat_by8 n)]
theorem rd_look{f:Nat}{b:List UInt8}(hc:CallTo Tryd.prog f [.ros (b.map by8) 0 256 256 false] [] (rdRes b) [] []){H:Hl}{x:AV}(hv:Vws H [x] [.ros (b.map by8) 0 256 256 false]) :
  CallTo Tryd.prog f [x] H (CRes.cond (readOk b) (.ok (.tup [.agg (hopC (readH b)),.agg ((readN b).map by8),.bool true]) H []) (.ok noHop H [])).fin.1 H []:=by
 have h:=CallTo.lookV (H:=H) hc hv
 unfold rdRes at h
 cases hr:readOk b with
 | true =>
  rw[hr,if_pos rfl,back_rd] at h
  exact h
 | false =>
  rw[hr,if_neg (by simp)] at h
  unfold noHop at h
  rw[back_rd] at h
  exact h
theorem cnO2_ok:CnOK Tryd.prog (cnO2 oz0 of1 hf0):=by
 refine cnOr_ok ?_ cnO1_ok
 intro f vals H p x e hp
 dsimp only at e
 split at e
 ·rename_i y ns
  split at e<;>cases e
  rename_i cs o n c ex hv
  obtain⟨⟨hP,hn,nn,hnn,rfl⟩,h1⟩:=hp
  have hP0:=hP
  obtain⟨hcs,ho,_,L,hL⟩:=hP
  have h:=CallTo.lookS (call65 c ex hP0 hL h1 hn hnn) (flat_by8 _) (.cons (Vw.one hv hcs) (.cons (vwA H nn) .nil))
  show CallTo _ _ _ _ _ (join H [.cells ((keysL (shA cs o n) (bytesA (nn.map by8)) n).flatten.map by8)]) _
  rw[bytesA_by8,shA_eq hL]
  exact h
 ·rename_i y
  split at e<;>cases e
  rename_i pc off c ex hv
  obtain⟨⟨hf,ho,_,lb,hb⟩,hc⟩:=hp
  have h:=rd_look (call97 (b:=lb) hb.1) (.cons (Vw.le (Vw.bytes hv hf ho hb) (VLe.cap hc)) .nil)
  show CallTo _ _ _ _ (CRes.cond (readOk (rdB pc off 256)) (.ok (.tup [.agg (hopC (readH (rdB pc off 256))),.agg ((readN (rdB pc off 256)).map by8),.bool true]) H []) (.ok noHop H [])).fin.1
   (CRes.cond (readOk (rdB pc off 256)) (.ok (.tup [.agg (hopC (readH (rdB pc off 256))),.agg ((readN (rdB pc off 256)).map by8),.bool true]) H []) (.ok noHop H [])).fin.2.1 (CRes.cond (readOk (rdB pc off 256)) (.ok (.tup [.agg (hopC (readH (rdB pc off 256))),.agg ((readN (rdB pc off 256)).map by8),.bool true]) H []) (.ok noHop H [])).fin.2.2
  rw[rdB_eq hb]
  cases hr:readOk lb with
  | true=>rw[hr] at h;exact h
  | false=>rw[hr] at h;exact h
 ·rename_i y
  split at e<;>cases e
  rename_i pc off c ex hv
  obtain⟨hf,ho,_,lb,hb⟩:=hp
  have h:=CallTo.lookV (H:=H) (call98 (b:=lb) hb.1 c ex) (.cons (Vw.bytes hv hf ho hb) .nil)
  rw[backV_flat (flat_by8 _)] at h
  show CallTo _ _ _ _ (.agg ((rdB pc off 32).map by8)) _ _
  rw[rdB_eq hb]
  exact h
 ·rename_i hc
  cases e
  obtain⟨h,hl,rfl⟩:=hp
  have h1:=CallTo.lookV (H:=H) (call83 hl) (.cons (vwHop H h) .nil)
  show CallTo _ _ _ _ (CRes.cond (rw0.may (hopC h)) (.ok (.bool true) H []) (.ok (.bool false) H [])).fin.1 (CRes.cond (rw0.may (hopC h)) (.ok (.bool true) H []) (.ok (.bool false) H [])).fin.2.1 (CRes.cond (rw0.may (hopC h)) (.ok (.bool true) H []) (.ok (.bool false) H [])).fin.2.2
  rw[rw_may hl]
  generalize h.may=z at h1
  cases z<;>exact h1
 ·rename_i hc ns
  cases e
  obtain⟨⟨h,hl,hpos,rfl⟩,⟨n,hn,rfl⟩⟩:=hp
  show CallTo _ _ _ _ _ (join H [.cells (rw0.part (hopC h) (n.map by8))]) _
  rw[rw_part hl]
  exact CallTo.lookS (call87 hl hpos hn) (flat_by8 _) (.cons (vwHop H h) (.cons (vwA H n) .nil))
 ·cases e
end
end Go.Proofs.Vm

namespace Go.Proofs.Vm
set_option maxRecDepth 100000
open Go.Vm
noncomputable section
def hopZ:List AV:=hopC hop0
def tabL(f:Nat):Option VF:=match f with
 | 20=>some vf20
 | 39=>some vf39
 | 42=>some vf42
 | 23=>some vf23
 | 47=>some vf47
 | _=>none
def endPl(R:AV→Prop)(Q:Nat→Nat→Nat→Nat→List AV→List AV→Prop):AV→Hl→List Nat→Prop:=fun r H _=>match r with
 | .tup [.agg hc,.slc b o n c sz,.int .i64 0]=>match nth H b with
  | some (.cells cs)=>flatL cs∧flatL hc∧Q o n c sz cs hc
  | _=>False
 | r=>R r
theorem vc63n(ks pk hs:List AV)(o n c:Nat)(e:Bool)(Q:AV→Hl→Prop) :
  (vcall (vcA kdYes noCn noLn) ops0 tabL 400 vf20 [.agg ks,.ros pk o n c e,.agg hs] [] (endN (fun _=>0) Q)) =
 ((Br (ops0.cmp .neq (ops0.ofn n) (Int.ofNat 2112))
 (Q (.tup [(.agg hopZ),.nils,(.int .i64 (.ofNat 10))]) [])
 (Chk (ops0.le 32 n)
 (Chk (ops0.le (ops0.add o 32) (ops0.len pk))
 (Chk (ops0.inb (Int.ofNat 64) n)
 (Chk (ops0.eq (ops0.len (ops0.ext pk o 32)) 32)
 (Chk (ops0.le 32 (ops0.len ks))
 (Chk (ops0.le 32 (ops0.len (ops0.spl (z8 32) 0 (ops0.ext pk o 32))))
 False)))))))):=by kernel_rfl
theorem vc63(Z:OZ)(O:OY)(F:HF)(ks pk hs:List AV)(R:AV→Prop)(Q:Nat→Nat→Nat→Nat→List AV→List AV→Prop) :
  (vcall (vcA kdS (cnO2 Z O F) noLn) ops0 tabL 400 vf20 [.agg ks,.ros pk 0 2112 2112 false,.agg hs] [] (endPl R Q)) =
 ((Chk (ops0.le 32 (ops0.len pk))
 (Chk (ops0.eq (ops0.len (ops0.ext pk 0 32)) 32)
 (Chk (ops0.le 32 (ops0.len ks))
 (Chk (ops0.le 32 (ops0.len (ops0.spl (z8 32) 0 (ops0.ext pk 0 32))))
 (((PKey (ops0.ext ks 0 32)) ∧
 (PKey (ops0.ext (ops0.spl (z8 32) 0 (ops0.ext pk 0 32)) 0 32))) ∧
 (Chk (ops0.eq (ops0.len (OY.att O (ops0.ext ks 0 32) (ops0.ext (ops0.spl (z8 32) 0 (ops0.ext pk 0 32)) 0 32))) 32)
 (Chk (ops0.le 32 (ops0.len (ops0.spl (z8 32) 0 (OY.att O (ops0.ext ks 0 32) (ops0.ext (ops0.spl (z8 32) 0 (ops0.ext pk 0 32)) 0 32)))))
 (Chk (ops0.le 32 (ops0.len hs))
 (((PKey (ops0.ext (ops0.spl (z8 32) 0 (OY.att O (ops0.ext ks 0 32) (ops0.ext (ops0.spl (z8 32) 0 (ops0.ext pk 0 32)) 0 32))) 0 32)) ∧
 ((PKey (ops0.ext hs 0 32)) ∧
 (PBd pk 64 2048))) ∧
 (Chk (ops0.eq (ops0.len (OY.btg O (ops0.ext (ops0.spl (z8 32) 0 (OY.att O (ops0.ext ks 0 32) (ops0.ext (ops0.spl (z8 32) 0 (ops0.ext pk 0 32)) 0 32))) 0 32) (rdB pk 64 2048) (ops0.ext hs 0 32))) 32)
 (Chk (ops0.le 32 (ops0.len (ops0.spl (z8 32) 0 (OY.btg O (ops0.ext (ops0.spl (z8 32) 0 (OY.att O (ops0.ext ks 0 32) (ops0.ext (ops0.spl (z8 32) 0 (ops0.ext pk 0 32)) 0 32))) 0 32) (rdB pk 64 2048) (ops0.ext hs 0 32)))))
 (((PB (ops0.spl (z8 32) 0 (OY.btg O (ops0.ext (ops0.spl (z8 32) 0 (OY.att O (ops0.ext ks 0 32) (ops0.ext (ops0.spl (z8 32) 0 (ops0.ext pk 0 32)) 0 32))) 0 32) (rdB pk 64 2048) (ops0.ext hs 0 32))) 0 32) ∧
 (PB pk 32 32)) ∧
 (Br (HF.eq F (rdB (ops0.spl (z8 32) 0 (OY.btg O (ops0.ext (ops0.spl (z8 32) 0 (OY.att O (ops0.ext ks 0 32) (ops0.ext (ops0.spl (z8 32) 0 (ops0.ext pk 0 32)) 0 32))) 0 32) (rdB pk 64 2048) (ops0.ext hs 0 32))) 0 32) (rdB pk 32 32))
 (Chk (ops0.le 32 (ops0.len (ops0.spl (z8 32) 0 (OY.att O (ops0.ext ks 0 32) (ops0.ext (ops0.spl (z8 32) 0 (ops0.ext pk 0 32)) 0 32)))))
 (Chk (ops0.le 2112 (ops0.len pk))
 (Chk (ops0.le 2048 (ops0.len (ops0.app [] (ops0.ext pk 64 2048))))
 (Chk (ops0.le 32 (ops0.len (ops0.ext (ops0.spl (z8 32) 0 (OY.att O (ops0.ext ks 0 32) (ops0.ext (ops0.spl (z8 32) 0 (ops0.ext pk 0 32)) 0 32))) 0 32)))
 (((PKey (ops0.ext (ops0.ext (ops0.spl (z8 32) 0 (OY.att O (ops0.ext ks 0 32) (ops0.ext (ops0.spl (z8 32) 0 (ops0.ext pk 0 32)) 0 32))) 0 32) 0 32)) ∧
 (PB (ops0.app (ops0.ext (ops0.app [] (ops0.ext pk 64 2048)) 0 2048) (z8 256)) 0 2304)) ∧
 (((PB (HF.mask F (ops0.ext (ops0.ext (ops0.spl (z8 32) 0 (OY.att O (ops0.ext ks 0 32) (ops0.ext (ops0.spl (z8 32) 0 (ops0.ext pk 0 32)) 0 32))) 0 32) 0 32) [98,111,100,121] (rdB (ops0.app (ops0.ext (ops0.app [] (ops0.ext pk 64 2048)) 0 2048) (z8 256)) 0 2304)) 0 256) ∧
 (256≤2304)) ∧
 (Br (OZ.ok Z (HF.mask F (ops0.ext (ops0.ext (ops0.spl (z8 32) 0 (OY.att O (ops0.ext ks 0 32) (ops0.ext (ops0.spl (z8 32) 0 (ops0.ext pk 0 32)) 0 32))) 0 32) 0 32) [98,111,100,121] (rdB (ops0.app (ops0.ext (ops0.app [] (ops0.ext pk 64 2048)) 0 2048) (z8 256)) 0 2304)) 0)
 (Chk (ops0.eq (ops0.len (OZ.hop Z (HF.mask F (ops0.ext (ops0.ext (ops0.spl (z8 32) 0 (OY.att O (ops0.ext ks 0 32) (ops0.ext (ops0.spl (z8 32) 0 (ops0.ext pk 0 32)) 0 32))) 0 32) 0 32) [98,111,100,121] (rdB (ops0.app (ops0.ext (ops0.app [] (ops0.ext pk 64 2048)) 0 2048) (z8 256)) 0 2304)) 0)) 101)
 (Chk (ops0.eq (ops0.len (OZ.nxt Z (HF.mask F (ops0.ext (ops0.ext (ops0.spl (z8 32) 0 (OY.att O (ops0.ext ks 0 32) (ops0.ext (ops0.spl (z8 32) 0 (ops0.ext pk 0 32)) 0 32))) 0 32) 0 32) [98,111,100,121] (rdB (ops0.app (ops0.ext (ops0.app [] (ops0.ext pk 64 2048)) 0 2048) (z8 256)) 0 2304)) 0)) 32)
 (∃ n:Int,((Nth (ops0.spl hopZ 0 (OZ.hop Z (HF.mask F (ops0.ext (ops0.ext (ops0.spl (z8 32) 0 (OY.att O (ops0.ext ks 0 32) (ops0.ext (ops0.spl (z8 32) 0 (ops0.ext pk 0 32)) 0 32))) 0 32) 0 32) [98,111,100,121] (rdB (ops0.app (ops0.ext (ops0.app [] (ops0.ext pk 64 2048)) 0 2048) (z8 256)) 0 2304)) 0)) 0 (.int .i64 n)) ∧
 (Br (ops0.cmp .eql n (Int.ofNat 0))
 (Chk (ops0.le 101 (ops0.len (ops0.spl hopZ 0 (OZ.hop Z (HF.mask F (ops0.ext (ops0.ext (ops0.spl (z8 32) 0 (OY.att O (ops0.ext ks 0 32) (ops0.ext (ops0.spl (z8 32) 0 (ops0.ext pk 0 32)) 0 32))) 0 32) 0 32) [98,111,100,121] (rdB (ops0.app (ops0.ext (ops0.app [] (ops0.ext pk 64 2048)) 0 2048) (z8 256)) 0 2304)) 0))))
 (Chk (ops0.eq (ops0.len (ops0.ext (ops0.spl hopZ 0 (OZ.hop Z (HF.mask F (ops0.ext (ops0.ext (ops0.spl (z8 32) 0 (OY.att O (ops0.ext ks 0 32) (ops0.ext (ops0.spl (z8 32) 0 (ops0.ext pk 0 32)) 0 32))) 0 32) 0 32) [98,111,100,121] (rdB (ops0.app (ops0.ext (ops0.app [] (ops0.ext pk 64 2048)) 0 2048) (z8 256)) 0 2304)) 0)) 0 101)) 101)
 (Chk (ops0.le 101 (ops0.len (ops0.spl hopZ 0 (ops0.ext (ops0.spl hopZ 0 (OZ.hop Z (HF.mask F (ops0.ext (ops0.ext (ops0.spl (z8 32) 0 (OY.att O (ops0.ext ks 0 32) (ops0.ext (ops0.spl (z8 32) 0 (ops0.ext pk 0 32)) 0 32))) 0 32) 0 32) [98,111,100,121] (rdB (ops0.app (ops0.ext (ops0.app [] (ops0.ext pk 64 2048)) 0 2048) (z8 256)) 0 2304)) 0)) 0 101))))
 (R (.tup [(.agg (ops0.ext (ops0.spl hopZ 0 (ops0.ext (ops0.spl hopZ 0 (OZ.hop Z (HF.mask F (ops0.ext (ops0.ext (ops0.spl (z8 32) 0 (OY.att O (ops0.ext ks 0 32) (ops0.ext (ops0.spl (z8 32) 0 (ops0.ext pk 0 32)) 0 32))) 0 32) 0 32) [98,111,100,121] (rdB (ops0.app (ops0.ext (ops0.app [] (ops0.ext pk 64 2048)) 0 2048) (z8 256)) 0 2304)) 0)) 0 101)) 0 101)),.nils,(.int .i64 (.ofNat 0))])))))
 (Chk (ops0.le 101 (ops0.len (ops0.spl hopZ 0 (OZ.hop Z (HF.mask F (ops0.ext (ops0.ext (ops0.spl (z8 32) 0 (OY.att O (ops0.ext ks 0 32) (ops0.ext (ops0.spl (z8 32) 0 (ops0.ext pk 0 32)) 0 32))) 0 32) 0 32) [98,111,100,121] (rdB (ops0.app (ops0.ext (ops0.app [] (ops0.ext pk 64 2048)) 0 2048) (z8 256)) 0 2304)) 0))))
 (Chk (ops0.le 32 (ops0.len (ops0.spl (z8 32) 0 (ops0.ext pk 0 32))))
 ((PKey (ops0.ext (ops0.spl (z8 32) 0 (ops0.ext pk 0 32)) 0 32)) ∧
 (Chk (ops0.le 32 (ops0.len (ops0.spl (z8 32) 0 (OZ.nxt Z (HF.mask F (ops0.ext (ops0.ext (ops0.spl (z8 32) 0 (OY.att O (ops0.ext ks 0 32) (ops0.ext (ops0.spl (z8 32) 0 (ops0.ext pk 0 32)) 0 32))) 0 32) 0 32) [98,111,100,121] (rdB (ops0.app (ops0.ext (ops0.app [] (ops0.ext pk 64 2048)) 0 2048) (z8 256)) 0 2304)) 0))))
 (Chk (ops0.le 32 (ops0.len (HF.hash F (ops0.ext (ops0.spl (z8 32) 0 (ops0.ext pk 0 32)) 0 32))))
 (Chk (ops0.le 32 (ops0.len (ops0.ext (ops0.spl (z8 32) 0 (OZ.nxt Z (HF.mask F (ops0.ext (ops0.ext (ops0.spl (z8 32) 0 (OY.att O (ops0.ext ks 0 32) (ops0.ext (ops0.spl (z8 32) 0 (ops0.ext pk 0 32)) 0 32))) 0 32) 0 32) [98,111,100,121] (rdB (ops0.app (ops0.ext (ops0.app [] (ops0.ext pk 64 2048)) 0 2048) (z8 256)) 0 2304)) 0)) 0 32)))
 (Chk (ops0.le 32 (ops0.len (HF.hash F (ops0.ext (ops0.spl (z8 32) 0 (ops0.ext pk 0 32)) 0 32))))
 (Chk (ops0.le 32 (ops0.len (ops0.app [] (ops0.ext (HF.hash F (ops0.ext (ops0.spl (z8 32) 0 (ops0.ext pk 0 32)) 0 32)) 0 32))))
 (Chk (ops0.le 32 (ops0.len (ops0.ext (ops0.spl (z8 32) 0 (OZ.nxt Z (HF.mask F (ops0.ext (ops0.ext (ops0.spl (z8 32) 0 (OY.att O (ops0.ext ks 0 32) (ops0.ext (ops0.spl (z8 32) 0 (ops0.ext pk 0 32)) 0 32))) 0 32) 0 32) [98,111,100,121] (rdB (ops0.app (ops0.ext (ops0.app [] (ops0.ext pk 64 2048)) 0 2048) (z8 256)) 0 2304)) 0)) 0 32)))
 (Chk (ops0.le 64 (ops0.len (ops0.app (ops0.ext (ops0.app [] (ops0.ext (HF.hash F (ops0.ext (ops0.spl (z8 32) 0 (ops0.ext pk 0 32)) 0 32)) 0 32)) 0 32) (ops0.ext (ops0.ext (ops0.spl (z8 32) 0 (OZ.nxt Z (HF.mask F (ops0.ext (ops0.ext (ops0.spl (z8 32) 0 (OY.att O (ops0.ext ks 0 32) (ops0.ext (ops0.spl (z8 32) 0 (ops0.ext pk 0 32)) 0 32))) 0 32) 0 32) [98,111,100,121] (rdB (ops0.app (ops0.ext (ops0.app [] (ops0.ext pk 64 2048)) 0 2048) (z8 256)) 0 2304)) 0)) 0 32) 0 32))))
 (Chk (ops0.le 2304 (ops0.len (HF.mask F (ops0.ext (ops0.ext (ops0.spl (z8 32) 0 (OY.att O (ops0.ext ks 0 32) (ops0.ext (ops0.spl (z8 32) 0 (ops0.ext pk 0 32)) 0 32))) 0 32) 0 32) [98,111,100,121] (rdB (ops0.app (ops0.ext (ops0.app [] (ops0.ext pk 64 2048)) 0 2048) (z8 256)) 0 2304))))
 (Chk (ops0.eq (ops0.len (ops0.ext (ops0.spl hopZ 0 (OZ.hop Z (HF.mask F (ops0.ext (ops0.ext (ops0.spl (z8 32) 0 (OY.att O (ops0.ext ks 0 32) (ops0.ext (ops0.spl (z8 32) 0 (ops0.ext pk 0 32)) 0 32))) 0 32) 0 32) [98,111,100,121] (rdB (ops0.app (ops0.ext (ops0.app [] (ops0.ext pk 64 2048)) 0 2048) (z8 256)) 0 2304)) 0)) 0 101)) 101)
 (Chk (ops0.le 101 (ops0.len (ops0.spl hopZ 0 (ops0.ext (ops0.spl hopZ 0 (OZ.hop Z (HF.mask F (ops0.ext (ops0.ext (ops0.spl (z8 32) 0 (OY.att O (ops0.ext ks 0 32) (ops0.ext (ops0.spl (z8 32) 0 (ops0.ext pk 0 32)) 0 32))) 0 32) 0 32) [98,111,100,121] (rdB (ops0.app (ops0.ext (ops0.app [] (ops0.ext pk 64 2048)) 0 2048) (z8 256)) 0 2304)) 0)) 0 101))))
 ((flatL (ops0.app (ops0.ext (ops0.app (ops0.ext (ops0.app [] (ops0.ext (HF.hash F (ops0.ext (ops0.spl (z8 32) 0 (ops0.ext pk 0 32)) 0 32)) 0 32)) 0 32) (ops0.ext (ops0.ext (ops0.spl (z8 32) 0 (OZ.nxt Z (HF.mask F (ops0.ext (ops0.ext (ops0.spl (z8 32) 0 (OY.att O (ops0.ext ks 0 32) (ops0.ext (ops0.spl (z8 32) 0 (ops0.ext pk 0 32)) 0 32))) 0 32) 0 32) [98,111,100,121] (rdB (ops0.app (ops0.ext (ops0.app [] (ops0.ext pk 64 2048)) 0 2048) (z8 256)) 0 2304)) 0)) 0 32) 0 32)) 0 64) (ops0.ext (HF.mask F (ops0.ext (ops0.ext (ops0.spl (z8 32) 0 (OY.att O (ops0.ext ks 0 32) (ops0.ext (ops0.spl (z8 32) 0 (ops0.ext pk 0 32)) 0 32))) 0 32) 0 32) [98,111,100,121] (rdB (ops0.app (ops0.ext (ops0.app [] (ops0.ext pk 64 2048)) 0 2048) (z8 256)) 0 2304)) 256 2048))) ∧
 ((flatL (ops0.ext (ops0.spl hopZ 0 (ops0.ext (ops0.spl hopZ 0 (OZ.hop Z (HF.mask F (ops0.ext (ops0.ext (ops0.spl (z8 32) 0 (OY.att O (ops0.ext ks 0 32) (ops0.ext (ops0.spl (z8 32) 0 (ops0.ext pk 0 32)) 0 32))) 0 32) 0 32) [98,111,100,121] (rdB (ops0.app (ops0.ext (ops0.app [] (ops0.ext pk 64 2048)) 0 2048) (z8 256)) 0 2304)) 0)) 0 101)) 0 101)) ∧
 (Q 0 2112 2112 1 (ops0.app (ops0.ext (ops0.app (ops0.ext (ops0.app [] (ops0.ext (HF.hash F (ops0.ext (ops0.spl (z8 32) 0 (ops0.ext pk 0 32)) 0 32)) 0 32)) 0 32) (ops0.ext (ops0.ext (ops0.spl (z8 32) 0 (OZ.nxt Z (HF.mask F (ops0.ext (ops0.ext (ops0.spl (z8 32) 0 (OY.att O (ops0.ext ks 0 32) (ops0.ext (ops0.spl (z8 32) 0 (ops0.ext pk 0 32)) 0 32))) 0 32) 0 32) [98,111,100,121] (rdB (ops0.app (ops0.ext (ops0.app [] (ops0.ext pk 64 2048)) 0 2048) (z8 256)) 0 2304)) 0)) 0 32) 0 32)) 0 64) (ops0.ext (HF.mask F (ops0.ext (ops0.ext (ops0.spl (z8 32) 0 (OY.att O (ops0.ext ks 0 32) (ops0.ext (ops0.spl (z8 32) 0 (ops0.ext pk 0 32)) 0 32))) 0 32) 0 32) [98,111,100,121] (rdB (ops0.app (ops0.ext (ops0.app [] (ops0.ext pk 64 2048)) 0 2048) (z8 256)) 0 2304)) 256 2048)) (ops0.ext (ops0.spl hopZ 0 (ops0.ext (ops0.spl hopZ 0 (OZ.hop Z (HF.mask F (ops0.ext (ops0.ext (ops0.spl (z8 32) 0 (OY.att O (ops0.ext ks 0 32) (ops0.ext (ops0.spl (z8 32) 0 (ops0.ext pk 0 32)) 0 32))) 0 32) 0 32) [98,111,100,121] (rdB (ops0.app (ops0.ext (ops0.app [] (ops0.ext pk 64 2048)) 0 2048) (z8 256)) 0 2304)) 0)) 0 101)) 0 101))))))))))))))))))))))
 (R (.tup [(.agg hopZ),.nils,(.int .i64 (.ofNat 10))])))))))))
 (R (.tup [(.agg hopZ),.nils,(.int .i64 (.ofNat 70))])))))))))))))))):=by kernel_rfl
def bodyW:List UInt8 := [98,111,100,121]
theorem ext_sl{p:List UInt8}{o n:Nat}:ops0.ext (p.map by8) o n=(sl p o n).map by8:=by
 rw[nExt,←List.map_drop,←List.map_take]
 rfl
theorem rd_sl{p:List UInt8}{o n:Nat}:rdB (p.map by8) o n=sl p o n:=by
 unfold rdB
 rw[←List.map_drop,←List.map_take,bytesA_by8]
 rfl
theorem sl_all{p:List UInt8}{n:Nat}(h:p.length=n):sl p 0 n=p:=by
 unfold sl
 rw[List.drop_zero,List.take_of_length_le (by omega)]
theorem btg_eq(k b h:List UInt8):of1.btg (k.map by8) b (h.map by8)=(btagL k b h).map by8:=by
 show(btagL (bytesA _) _ (bytesA _)).map by8=_
 rw[bytesA_by8,bytesA_by8]
theorem btag_32(k b h:List UInt8):(btagL k b h).length=32:=tagL_length _ _ _
theorem app_by8(a b:List UInt8):ops0.app (a.map by8) (b.map by8)=(a++b).map by8:=by rw[nApp,List.map_append]
theorem app_nil(a:List AV):ops0.app [] a=a:=by rw[nApp,List.nil_append]
theorem hop0_32:hop0.L32:=⟨rfl,rfl,rfl⟩
theorem spl_hop{h:Hop}(hl:h.L32):ops0.spl hopZ 0 (hopC h)=hopC h:=by
 rw[nSpl,List.take_zero,List.nil_append,List.drop_of_length_le (by rw[hopC_length hl,show hopZ.length=101 from hopC_length hop0_32]; omega),List.append_nil]
theorem ext_hop{h:Hop}(hl:h.L32):ops0.ext (hopC h) 0 101=hopC h:=by
 rw[nExt,List.drop_zero,List.take_of_length_le (by rw[hopC_length hl]; omega)]
theorem oz_ok(b:List UInt8)(o:Nat):oz0.ok (b.map by8) o=readOk (sl b o 256):=by
 show readOk (rdB _ _ _)=_
 rw[rd_sl]
theorem oz_hop(b:List UInt8)(o:Nat):oz0.hop (b.map by8) o=hopC (readH (sl b o 256)):=by
 show hopC (readH (rdB _ _ _))=_
 rw[rd_sl]
theorem oz_nxt(b:List UInt8)(o:Nat):oz0.nxt (b.map by8) o=(readN (sl b o 256)).map by8:=by
 show(readN (rdB _ _ _)).map by8=_
 rw[rd_sl]
theorem nth_hop{h:Hop}{R:Int→Prop}(k:R h.ch):∃ n:Int,Nth (hopC h) 0 (.int .i64 n)∧R n:=⟨h.ch,rfl,k⟩
theorem endPl_val{g:Kd→Bool}{C:CnF}(hC:CnOK Tryd.prog C){E:LnF}(hE:LnOK Tryd.prog E){T:Nat→Option VF}(hT:∀ f vf,T f=some vf→FnOK Tryd.prog f vf){f n:Nat}{vf:VF}(hf:T f=some vf){vals:List AV}{r0:AV}
  (hr:cutV 0 r0=r0) (h:vcall (vcA g C E) ops0 T n vf vals [] (endPl (fun r=>r=r0) fun _ _ _ _ _ _=>False)):CallTo Tryd.prog f vals [] r0 [] []:=by
 obtain⟨r,H',lg,hc,e⟩:=call_vcx hC hE hT hf h
 have e:r=r0:=by
  unfold endPl at e
  split at e
  ·split at e
   ·exact e.2.2.elim
   ·exact e.elim
  ·exact e
 subst e
 have:=hc.cut 0 (Nat.le_refl 0) (Nat.zero_le _) (lg0 := []) (fun b hb=>by simp at hb)
 rw[hr] at this
 exact this
theorem endPl_slc{g:Kd→Bool}{C:CnF}(hC:CnOK Tryd.prog C){E:LnF}(hE:LnOK Tryd.prog E){T:Nat→Option VF}(hT:∀ f vf,T f=some vf→FnOK Tryd.prog f vf){f n:Nat}{vf:VF}(hf:T f=some vf){vals:List AV}{o m c sz:Nat}{cs hc:List AV}
  (h:vcall (vcA g C E) ops0 T n vf vals [] (endPl (fun _=>False) fun o' m' c' sz' cs' hc'=>o'=o∧m'=m∧c'=c∧sz'=sz∧cs'=cs∧hc'=hc)):CallTo Tryd.prog f vals [] (.tup [.agg hc,.slc 0 o m c sz,.int .i64 0]) [.cells cs] []:=by
 obtain⟨r,H',lg,hcall,e⟩:=call_vcx hC hE hT hf h
 unfold endPl at e
 split at e
 ·rename_i hc' b o' m' c' sz'
  split at e
  ·rename_i cs' hb
   obtain⟨hfl,hfh,rfl,rfl,rfl,rfl,rfl,rfl⟩:=e
   rw[nth_eq] at hb
   have hlt:b<H'.length:=(List.getElem?_eq_some_iff.1 hb).1
   have h1:=hcall.pick [b] (by simp) (by simpa using hlt) (by simp) (lg0 := []) (by simp)
   have e1:ren (pickN [b]) Go.Vm.noView true (.tup [.agg hc',.slc b o' m' c' sz',.int .i64 0]) = .tup [.agg hc',.slc 0 o' m' c' sz',.int .i64 0]:=by
    simp only[ren,renL,renL_flat hfh,pickN_self]
   have e2:wkH [b] H' = [.cells cs']:=by
    unfold wkH pickH
    simp only[List.map_cons,List.map_nil,hb,renB,renL_flat hfl]
   rw[e1,e2] at h1
   exact h1
  ·exact e.elim
 ·exact e.elim
theorem cutV_fail(h:Hop)(e:Int):cutV 0 (.tup [.agg (hopC h),.nils,.int .i64 e]) = .tup [.agg (hopC h),.nils,.int .i64 e]:=by
 unfold cutV
 simp only[ren,renL,renL_flat (hopC_flat h)]
theorem tabL_ok:∀ f vf,tabL f=some vf→FnOK Tryd.prog f vf:=by
 intro f vf h
 unfold tabL at h
 split at h<;>cases h
 ·exact ok20
 ·exact ok39
 ·exact ok42
 ·exact ok23
 ·exact ok47
def lkL(key p:List UInt8):List UInt8:=atL key (sl p 0 32)
def allL(key p:List UInt8):List UInt8:=maskL (lkL key p) bodyW (sl p 64 2048++List.replicate 256 0)
def tagOK(key p hash:List UInt8):Bool:=decide (btagL (lkL key p) (sl p 64 2048) hash=sl p 32 32)
def hdL(key p:List UInt8):List UInt8:=sl (allL key p) 0 256
def nextL(key p:List UInt8):List UInt8:=sumL (sl p 0 32)++(readN (hdL key p)++sl (allL key p) 256 2048)
theorem allL_length{key p:List UInt8}(hp:p.length=2112):(allL key p).length=2304:=by
 unfold allL
 rw[maskL_length,List.length_append,sl_length (by omega),List.length_replicate]
theorem hdL_length{key p:List UInt8}(hp:p.length=2112):(hdL key p).length=256:=sl_length (by rw[allL_length hp]; omega)
theorem nextL_length{key p:List UInt8}(hp:p.length=2112):(nextL key p).length=2112:=by
 unfold nextL
 rw[List.length_append,List.length_append,sumL_length,readN_32 (hdL_length hp),sl_length (by rw[allL_length hp]; omega)]
theorem nmL_by8(n:Nat)(l:List UInt8):nmL n (l.map by8)=true:=by
 induction l with
 | nil=>rfl
 | cons b l ih=>simp only[List.map_cons,nmL,by8,nm]; exact ih
theorem ownL_by8(l:List UInt8):ownL (l.map by8)=true:=by
 induction l with
 | nil=>rfl
 | cons b l ih=>simp only[List.map_cons,ownL,by8,own]; exact ih
theorem nmB8(n:Nat)(l:List UInt8):nmB n (.cells (l.map by8))=true:=nmL_by8 n l
theorem ownB8(l:List UInt8):ownB (.cells (l.map by8))=true:=ownL_by8 l
theorem peelVC{key p hash:List UInt8}(hk:key.length=32)(hp:p.length=2112)(hh:hash.length=32)(R:AV→Prop)(Q:Nat→Nat→Nat→Nat→List AV→List AV→Prop)
  (h1:tagOK key p hash=false→R (.tup [.agg (hopC hop0),.nils,.int .i64 70]))
  (h2:tagOK key p hash=true→readOk (hdL key p)=false→R (.tup [.agg (hopC hop0),.nils,.int .i64 10]))
  (h3:tagOK key p hash=true→readOk (hdL key p)=true→(readH (hdL key p)).ch=0→R (.tup [.agg (hopC (readH (hdL key p))),.nils,.int .i64 0]))
  (h4:tagOK key p hash=true→readOk (hdL key p)=true→(readH (hdL key p)).ch≠0→Q 0 2112 2112 1 ((nextL key p).map by8) (hopC (readH (hdL key p)))) :
  vcall (vcA kdS (cnO2 oz0 of1 hf0) noLn) ops0 tabL 400 vf20 [.agg (key.map by8),.ros (p.map by8) 0 2112 2112 false,.agg (hash.map by8)] [] (endPl R Q):=by
 have l0:(sl p 0 32).length=32:=sl_length (by omega)
 have l1:(sl p 32 32).length=32:=sl_length (by omega)
 have l2:(sl p 64 2048).length=2048:=sl_length (by omega)
 have l3:=at_32 key (sl p 0 32)
 have l4:=btag_32 (atL key (sl p 0 32)) (sl p 64 2048) hash
 have l5:=allL_length (key:=key) hp
 have l6:=hdL_length (key:=key) hp
 have l7:=readH_32 l6
 have l8:=readN_32 l6
 have l9:=sumL_length (sl p 0 32)
 have la:(sl (allL key p) 256 2048).length=2048:=sl_length (by omega)
 have lb:(sl p 64 2048++List.replicate 256 0).length=2304:=by rw[List.length_append,l2,List.length_replicate]
 have lc:(sumL (sl p 0 32)++readN (hdL key p)).length=64:=by rw[List.length_append,l9,l8]
 have em:maskL (atL key (sl p 0 32)) [98,111,100,121] (sl p 64 2048++List.replicate 256 0)=allL key p:=rfl
 have eh:sl (allL key p) 0 256=hdL key p:=rfl
 have s1:=sl_all hk
 have s2:=sl_all hh
 have s3:=sl_all l0
 have s4:=sl_all l2
 have s5:=sl_all l3
 have s6:=sl_all l4
 have s7:=sl_all l8
 have s8:=sl_all l9
 have s9:=sl_all lb
 have sa:=sl_all lc
 rw[vc63]
 simp only[ext_sl,rd_sl,s1,s2,s3,s4,s5,s6,s7,s8,s9,sa,spl32 l0,spl32 l3,spl32 l4,spl32 l8,att_eq,btg_eq,heq_eq,app_nil,z8_eq 256,app_by8,hmask_eq,em,oz_ok,oz_hop,oz_nxt,eh,spl_hop l7,ext_hop l7,hhash_eq]
 simp only[chk_and,nLe,nLen,nEq,List.length_map,decide_eq_true_eq,hopC_length l7,l0,l1,l2,l3,l4,l5,l8,l9,la,lb,lc,hk,hp,hh,List.length_append,List.length_replicate]
 simp only[Nat.reduceLeDiff,Nat.le_refl,true_and,and_true]
 have b1:BytesAt (p.map by8) 64 2048 (sl p 64 2048):=⟨l2,by rw[←List.map_drop,←List.map_take]; rfl⟩
 have b2:BytesAt (p.map by8) 32 32 (sl p 32 32):=⟨l1,by rw[←List.map_drop,←List.map_take]; rfl⟩
 have b3:BytesAt ((allL key p).map by8) 0 256 (hdL key p):=⟨l6,by rw[←List.map_drop,←List.map_take]; rfl⟩
 have lp:(p.map by8).length=2112:=by rw[List.length_map,hp]
 have la2:((allL key p).map by8).length=2304:=by rw[List.length_map,l5]
 refine⟨⟨pkey _ hk,pkey _ l0⟩,⟨pkey _ l3,pkey _ hh,flat_by8 _,by omega,by omega,_,b1⟩,⟨pb_whole _ 32 l4.symm (by omega),flat_by8 _,by omega,by omega,_,b2⟩,Br.mk (fun ht=>⟨⟨pkey _ l3,pb_whole _ 2304 lb.symm (by omega)⟩,⟨flat_by8 _,by omega,by omega,_,b3⟩,Br.mk (fun hr=>nth_hop ?_) (fun hr=>h2 ht hr)⟩) (fun ht=>h1 ht)⟩
 rw[nEql']
 refine Br.mk (fun hc=>h3 ht hr (of_decide_eq_true hc)) (fun hc=>⟨pkey _ l0,flat_by8 _,hopC_flat _,?_⟩)
 have:=h4 ht hr (of_decide_eq_false hc)
 unfold nextL at this
 rw[←List.append_assoc] at this
 exact this
theorem call63n{ks hs pc:List AV}{off len cap:Nat}{e:Bool}(hne:len≠2112):CallTo Tryd.prog 20 [.agg ks,.ros pc off len cap e,.agg hs] [] (.tup [.agg (hopC hop0),.nils,.int .i64 10]) [] []:=by
 refine call_n (noCn_ok _) (noLn_ok _) tabL_ok (show tabL 20=some vf20 from rfl) (n:=400) (g:=kdYes) (m:=fun _=>0) [] ?_ (Nat.le_refl 0) (cutV_fail _ _) (fun b hb=>by simp at hb)
 rw[vc63n,nOfn,nNeq]
 exact Br.t (decide_eq_true hne) ⟨rfl,rfl⟩
def peelL(key p hash:List UInt8):Int × Hop × List UInt8 :=
 if tagOK key p hash=false then(70,hop0,[])
 else if readOk (hdL key p)=false then(10,hop0,[])
 else if(readH (hdL key p)).ch=0 then(0,readH (hdL key p),[])
 else(0,readH (hdL key p),nextL key p)
theorem call63v{key p hash:List UInt8}(hk:key.length=32)(hp:p.length=2112)(hh:hash.length=32)(hn:(peelL key p hash).2.2 = []) :
  CallTo Tryd.prog 20 [.agg (key.map by8),.ros (p.map by8) 0 2112 2112 false,.agg (hash.map by8)] [] (.tup [.agg (hopC (peelL key p hash).2.1),.nils,.int .i64 (peelL key p hash).1]) [] []:=by
 refine endPl_val cnO2_ok (noLn_ok _) tabL_ok (show tabL 20=some vf20 from rfl) (n:=400) (g:=kdS) (cutV_fail _ _) (peelVC hk hp hh _ _ (fun h => ?_) (fun h1 h2 => ?_) (fun h1 h2 h3 => ?_) (fun h1 h2 h3 => ?_))
 ·unfold peelL;rw[if_pos h]
 ·unfold peelL;rw[if_neg (by rw[h1]; simp),if_pos h2]
 ·unfold peelL;rw[if_neg (by rw[h1]; simp),if_neg (by rw[h2]; simp),if_pos h3]
 ·unfold peelL at hn
  rw[if_neg (by rw[h1]; simp),if_neg (by rw[h2]; simp),if_neg h3] at hn
  have hl:=nextL_length (key:=key) hp
  have hn:nextL key p = []:=hn
  rw[hn] at hl
  cases hl
theorem call63s{key p hash:List UInt8}(hk:key.length=32)(hp:p.length=2112)(hh:hash.length=32)(hn:(peelL key p hash).2.2 ≠ []) :
  CallTo Tryd.prog 20 [.agg (key.map by8),.ros (p.map by8) 0 2112 2112 false,.agg (hash.map by8)] [] (.tup [.agg (hopC (peelL key p hash).2.1),.slc 0 0 2112 2112 1,.int .i64 0]) [.cells ((peelL key p hash).2.2.map by8)] []:=by
 have key':∀ (f:Prop),(tagOK key p hash=true∧readOk (hdL key p)=true∧(readH (hdL key p)).ch≠0→f)→f:=by
  intro f h
  unfold peelL at hn
  split at hn
  ·exact absurd rfl hn
  ·rename_i h1
   split at hn
   ·exact absurd rfl hn
   ·rename_i h2
    split at hn
    ·exact absurd rfl hn
    ·rename_i h3
     exact h ⟨by simpa using h1,by simpa using h2,h3⟩
 refine endPl_slc cnO2_ok (noLn_ok _) tabL_ok (show tabL 20=some vf20 from rfl) (n:=400) (g:=kdS) (peelVC hk hp hh _ _ (fun h => ?_) (fun h1 h2 => ?_) (fun h1 h2 h3 => ?_) (fun h1 h2 h3 => ?_))
 ·exact key' _ fun⟨a,_,_⟩=>by rw[h] at a;cases a
 ·exact key' _ fun⟨_,a,_⟩=>by rw[h2] at a;cases a
 ·exact key' _ fun⟨_,_,a⟩=>absurd h3 a
 ·unfold peelL;rw[if_neg (by rw[h1]; simp),if_neg (by rw[h2]; simp),if_neg h3]; exact⟨rfl,rfl,rfl,rfl,rfl,rfl⟩
end
end Go.Proofs.Vm

namespace Go.Proofs.Vm
set_option maxRecDepth 100000
open Go.Vm
noncomputable section
def tabF(f:Nat):Option VF:=match f with
 | 37=>some vf37
 | 39=>some vf39
 | _=>none
noncomputable def lp84:VC:=vp [1,1,0,1,0,0] vf37.body
def fr84(x:AV)(cs:List AV)(o m c:Nat)(e:Bool)(i:Int):Fr := [.top,.top,.top,x,.top,.top,.top,.top,.top,.top,.top,.ros cs o m c e,.int .i64 (Int.ofNat m),.int .i64 i,.top,.top,.top,.top,.top,.top,.top,.top,.top,.top,.top,.top,.top,.top,.top,.top,.top,.top,.top,.top,.top]
def mk84:List Bool := [true,true,true,false,true,true,true,true,true,true,true,false,false,false,true,true,true,true,true,true,true,true,true,true,true,true,true,true,true,true,true,true,true,true,true]
structure VF7 where
 fil:List AV→Nat→Nat→List AV
def P84(cs:List AV)(o m:Nat):Prop:=flatL cs∧m≤7∧o+m*32≤cs.length∧∃ L,ShAt cs o m L
def ln84(V:VF7)(z:Nat→Bool):LnF:=fun n0 b fr H=>match slot fr 11,slot fr 12,slot fr 3,H with
 | .ros cs o m c e,.int .i64 (.ofNat _),.nils,[] =>
  some (n0=0∧VCis b lp84∧forget mk84 fr=fr84 .nils cs o m c e 0∧P84 cs o m,.cond (z m) (.ok (.exit 0) (fr84 .nils cs o m c e 0) []) (.ok (.exit 0) (fr84 (.slc 0 (2304 - 256*m) (256*m) (256*m) 1) cs o m c e m) [.cells (V.fil cs o m)]))
 | _,_,_,_=>none
theorem vc84(Z:OZ)(O:OY)(F:HF)(V:VF7)(z:Nat→Bool)(cs:List AV)(o m c:Nat)(e:Bool)(R:AV→Prop)(Q:Nat→Nat→Nat→Nat→List AV→Prop) :
  (vcall (vcA kdS (cnO2 Z O F) (ln84 V z)) ops0 tabF 100 vf37 [.ros cs o (m+1) c e] [] (fun r H lg=>match r with
    | .nils=>R .nils
    | r=>endB Q r H lg)) =
 ((Chk (ops0.inb (ops0.bin .sub .i64 (ops0.ofn (m+1)) (Int.ofNat 1)) c)
 ((((0:Nat)=0) ∧
 ((VCis lp84 lp84) ∧
 ((((tp 3 (.nils::tp 7 ((.ros cs o (ops0.sub (ops0.nat (ops0.bin .sub .i64 (ops0.ofn (m+1)) (Int.ofNat 1))) 0) c (Bool.or e Bool.false))::(.int .i64 (ops0.ofn (ops0.sub (ops0.nat (ops0.bin .sub .i64 (ops0.ofn (m+1)) (Int.ofNat 1))) 0)))::(.int .i64 (.ofNat 0))::tp 21 ([])))):Fr)=(tp 3 (.nils::tp 7 ((.ros cs o (ops0.sub (ops0.nat (ops0.bin .sub .i64 (ops0.ofn (m+1)) (Int.ofNat 1))) 0) c (Bool.or e Bool.false))::(.int .i64 (.ofNat (ops0.sub (ops0.nat (ops0.bin .sub .i64 (ops0.ofn (m+1)) (Int.ofNat 1))) 0)))::(.int .i64 (.ofNat 0))::tp 21 ([]))))) ∧
 (P84 cs o (ops0.sub (ops0.nat (ops0.bin .sub .i64 (ops0.ofn (m+1)) (Int.ofNat 1))) 0))))) ∧
 (Br (z (ops0.sub (ops0.nat (ops0.bin .sub .i64 (ops0.ofn (m+1)) (Int.ofNat 1))) 0))
 (R .nils)
 ((flatL (VF7.fil V cs o (ops0.sub (ops0.nat (ops0.bin .sub .i64 (ops0.ofn (m+1)) (Int.ofNat 1))) 0))) ∧
 (Q (2304 - (256*(ops0.sub (ops0.nat (ops0.bin .sub .i64 (ops0.ofn (m+1)) (Int.ofNat 1))) 0))) (256*(ops0.sub (ops0.nat (ops0.bin .sub .i64 (ops0.ofn (m+1)) (Int.ofNat 1))) 0)) (256*(ops0.sub (ops0.nat (ops0.bin .sub .i64 (ops0.ofn (m+1)) (Int.ofNat 1))) 0)) 1 (VF7.fil V cs o (ops0.sub (ops0.nat (ops0.bin .sub .i64 (ops0.ofn (m+1)) (Int.ofNat 1))) 0)))))))):=by kernel_rfl
theorem vcl84a(Z:OZ)(O:OY)(F:HF)(cs:List AV)(o m c:Nat)(e:Bool)(i:Int)(Q:Ex→Fr→Hl→Prop) :
  (vm (vcA kdS (cnO2 Z O F) noLn) ops0 tabF 100 0 lp84 (fr84 .nils cs o m c e i) [] [] (bodyX mk84 Q)) =
 ((Br (ops0.cmp .lss i (Int.ofNat m))
 (Chk (ops0.inr i m)
 (Chk (ops0.le (ops0.add (ops0.adr o i 32) 32) (ops0.len cs))
 (Chk (ops0.eq (ops0.len (ops0.ext cs (ops0.adr o i 32) 32)) 32)
 (Chk (ops0.le 32 (ops0.len (ops0.spl (z8 32) 0 (ops0.ext cs (ops0.adr o i 32) 32))))
 (Chk (ops0.le 32 (ops0.len (ops0.ext (ops0.spl (z8 32) 0 (ops0.ext cs (ops0.adr o i 32) 32)) 0 32)))
 (((PKey (ops0.ext (ops0.ext (ops0.spl (z8 32) 0 (ops0.ext cs (ops0.adr o i 32) 32)) 0 32) 0 32)) ∧
 (PB (z8 2304) 0 2304)) ∧
 (Q Ex.norm (tp 3 ((.slc 3 2048 256 256 1)::tp 7 ((.ros cs o m c e)::(.int .i64 (.ofNat m))::(.int .i64 (ops0.bin .add .i64 i (Int.ofNat 1)))::tp 21 ([])))) [(.cells (ops0.spl (z8 32) 0 (ops0.ext cs (ops0.adr o i 32) 32))),(.cells (z8 2304)),(.cells (ops0.ext (ops0.spl (z8 32) 0 (ops0.ext cs (ops0.adr o i 32) 32)) 0 32)),(.cells (HF.mask F (ops0.ext (ops0.ext (ops0.spl (z8 32) 0 (ops0.ext cs (ops0.adr o i 32) 32)) 0 32) 0 32) [98,111,100,121] (List.replicate 2304 (0:UInt8))))])))))))
 (Q (Ex.exit 0) (tp 3 (.nils::tp 7 ((.ros cs o m c e)::(.int .i64 (.ofNat m))::(.int .i64 i)::tp 21 ([])))) []))):=by kernel_rfl
theorem vcl84b(Z:OZ)(O:OY)(F:HF)(os cs:List AV)(of n o m c:Nat)(e:Bool)(i:Int)(Q:Ex→Fr→Hl→Prop) :
  (vm (vcA kdS (cnO2 Z O F) noLn) ops0 tabF 100 0 lp84 (fr84 (.slc 0 of n n 1) cs o m c e i) [.cells os] [] (bodyX mk84 Q)) =
 ((Br (ops0.cmp .lss i (Int.ofNat m))
 (Chk (ops0.inr i m)
 (Chk (ops0.le (ops0.add (ops0.adr o i 32) 32) (ops0.len cs))
 (Chk (ops0.eq (ops0.len (ops0.ext cs (ops0.adr o i 32) 32)) 32)
 (Chk (ops0.inb (ops0.bin .sub .i64 (Int.ofNat 2048) (ops0.ofn n)) 2304)
 (Chk (ops0.le (ops0.add (ops0.add 0 (ops0.mul (ops0.nat (ops0.bin .sub .i64 (Int.ofNat 2048) (ops0.ofn n))) 1)) (ops0.mul (ops0.sub 2304 (ops0.nat (ops0.bin .sub .i64 (Int.ofNat 2048) (ops0.ofn n)))) 1)) 2304)
 (Chk (ops0.le (ops0.add of (ops0.mul n 1)) (ops0.len os))
 (Chk (ops0.le 32 (ops0.len (ops0.spl (z8 32) 0 (ops0.ext cs (ops0.adr o i 32) 32))))
 (Chk (ops0.le 32 (ops0.len (ops0.ext (ops0.spl (z8 32) 0 (ops0.ext cs (ops0.adr o i 32) 32)) 0 32)))
 (((PKey (ops0.ext (ops0.ext (ops0.spl (z8 32) 0 (ops0.ext cs (ops0.adr o i 32) 32)) 0 32) 0 32)) ∧
 (PB (ops0.spl (z8 2304) (ops0.add 0 (ops0.mul (ops0.nat (ops0.bin .sub .i64 (Int.ofNat 2048) (ops0.ofn n))) 1)) (ops0.ext (ops0.ext os of (ops0.mul n 1)) 0 (ops0.mul (ops0.min n (ops0.sub 2304 (ops0.nat (ops0.bin .sub .i64 (Int.ofNat 2048) (ops0.ofn n))))) 1))) 0 2304)) ∧
 (Chk (ops0.inb (ops0.bin .sub .i64 (Int.ofNat 2048) (ops0.ofn n)) 2304)
 (Q Ex.norm (tp 3 ((.slc 4 (ops0.add 0 (ops0.mul (ops0.nat (ops0.bin .sub .i64 (Int.ofNat 2048) (ops0.ofn n))) 1)) (ops0.sub 2304 (ops0.nat (ops0.bin .sub .i64 (Int.ofNat 2048) (ops0.ofn n)))) (ops0.sub 2304 (ops0.nat (ops0.bin .sub .i64 (Int.ofNat 2048) (ops0.ofn n)))) 1)::tp 7 ((.ros cs o m c e)::(.int .i64 (.ofNat m))::(.int .i64 (ops0.bin .add .i64 i (Int.ofNat 1)))::tp 21 ([])))) [(.cells os),(.cells (ops0.spl (z8 32) 0 (ops0.ext cs (ops0.adr o i 32) 32))),(.cells (ops0.spl (z8 2304) (ops0.add 0 (ops0.mul (ops0.nat (ops0.bin .sub .i64 (Int.ofNat 2048) (ops0.ofn n))) 1)) (ops0.ext (ops0.ext os of (ops0.mul n 1)) 0 (ops0.mul (ops0.min n (ops0.sub 2304 (ops0.nat (ops0.bin .sub .i64 (Int.ofNat 2048) (ops0.ofn n))))) 1)))),(.cells (ops0.ext (ops0.spl (z8 32) 0 (ops0.ext cs (ops0.adr o i 32) 32)) 0 32)),(.cells (HF.mask F (ops0.ext (ops0.ext (ops0.spl (z8 32) 0 (ops0.ext cs (ops0.adr o i 32) 32)) 0 32) 0 32) [98,111,100,121] (rdB (ops0.spl (z8 2304) (ops0.add 0 (ops0.mul (ops0.nat (ops0.bin .sub .i64 (Int.ofNat 2048) (ops0.ofn n))) 1)) (ops0.ext (ops0.ext os of (ops0.mul n 1)) 0 (ops0.mul (ops0.min n (ops0.sub 2304 (ops0.nat (ops0.bin .sub .i64 (Int.ofNat 2048) (ops0.ofn n))))) 1))) 0 2304)))])))))))))))
 (Q (Ex.exit 0) (tp 3 ((.slc 0 of n n 1)::tp 7 ((.ros cs o m c e)::(.int .i64 (.ofNat m))::(.int .i64 i)::tp 21 ([])))) [(.cells os)]))):=by kernel_rfl
def zs(n:Nat):List UInt8:=List.replicate n 0
theorem zs_length(n:Nat):(zs n).length=n:=List.length_replicate
def fillIn(i:Nat)(x:List UInt8):List UInt8:=zs (2048 - 256*i)++(x++zs 256)
def fillA(L:List (List UInt8)):Nat→List UInt8
 | 0=>zs 2304
 | i+1=>maskL (L.getD i []) bodyW (fillIn i ((fillA L i).drop (2304 - 256*i)))
def fillL(L:List (List UInt8))(i:Nat):List UInt8:=(fillA L i).drop (2304 - 256*i)
theorem fill_lengths(L:List (List UInt8)):∀ i,i≤8→(fillA L i).length=2304
 | 0,_=>zs_length _
 | i+1,h=>by
  have ih:=fill_lengths L i (by omega)
  show(maskL _ _ _).length=_
  rw[maskL_length]
  unfold fillIn
  simp only[List.length_append,zs_length,List.length_drop,ih]
  omega
theorem fillL_length{L:List (List UInt8)}{i:Nat}(h:i≤8):(fillL L i).length=256*i:=by
 unfold fillL
 rw[List.length_drop,fill_lengths L i h]
 omega
theorem fillIn_length{i:Nat}(hi:i≤8){x:List UInt8}(h:x.length=256*i):(fillIn i x).length=2304:=by
 unfold fillIn
 simp only[List.length_append,zs_length,h]
 omega
theorem spl_z8{n o:Nat}{x:List UInt8}(h:o+x.length≤n):ops0.spl (z8 n) o (x.map by8)=(zs o++(x++zs (n - o - x.length))).map by8:=by
 rw[nSpl,z8_eq,←List.map_take,←List.map_drop,List.length_map,←List.map_append,←List.map_append,List.take_replicate,List.drop_replicate,Nat.min_eq_left (by omega),Nat.sub_sub]
 rfl
theorem zs_add(a b:Nat):zs a++zs b=zs (a+b):=by
 unfold zs
 rw[List.replicate_append_replicate]
theorem subN{a b:Nat}(h:b≤a)(h2:a<9223372036854775808):ops0.bin .sub .i64 (Int.ofNat a) (ops0.ofn b)=Int.ofNat (a - b):=by rw[nOfn]; exact nSub h h2
theorem tabF_ok:∀ f vf,tabF f=some vf→FnOK Tryd.prog f vf:=by
 intro f vf h
 unfold tabF at h
 split at h<;>cases h
 ·exact ok37
 ·exact ok39
theorem fr84_ren{σ:Nat→Option Nat}{φ:Nat→Option (List AV)}{cs:List AV}(hcs:flatL cs)(o m c:Nat)(e:Bool)(x:AV)(i:Int) :
  forget mk84 (renL σ φ true (fr84 x cs o m c e i))=fr84 (ren σ φ true x) cs o m c e i:=by
 unfold fr84 mk84
 simp only[renL,ren,forget,renL_flat hcs]
theorem body84a{cs:List AV}{o m:Nat}{L:List (List UInt8)}(c:Nat)(e:Bool)(hcs:flatL cs)(ho:o+m*32≤cs.length)(h:ShAt cs o m L)(hm:m≤7)(hj:0<m) :
  BodyTo Tryd.prog 0 lp84 (fr84 .nils cs o m c e (Int.ofNat 0)) [] .norm (fr84 (.slc 0 (2304 - 256*1) (256*1) (256*1) 1) cs o m c e (Int.ofNat 1)) [.cells ((fillA L 1).map by8)]:=by
 have hl:0<L.length:=by rw[h.1]; exact hj
 have hx:=List.getElem?_eq_getElem hl
 obtain⟨h1,h2⟩:=h.2 0 L[0] hx
 have hg:L.getD 0 []=L[0]:=by rw[List.getD_eq_getElem?_getD,hx]; rfl
 have ef:fillA L 1=maskL L[0] bodyW (zs 2304):=by
  show maskL (L.getD 0 []) bodyW (fillIn 0 ((zs 2304).drop 2304))=_
  rw[hg]
  have:(zs 2304).drop 2304 = []:=List.drop_of_length_le (by rw[zs_length]; omega)
  rw[this]
  have e3:fillIn 0 []=zs 2304:=by
   show zs 2048++([]++zs 256)=_
   rw[List.nil_append,zs_add]
  rw[e3]
 rw[ef]
 generalize L[0]=x at h1 h2
 have s1:=sl_all h1
 have hb:BodyTo Tryd.prog 0 lp84 (fr84 .nils cs o m c e (Int.ofNat 0)) [] .norm (fr84 (.slc 3 2048 256 256 1) cs o m c e (Int.ofNat 1)) [.cells (x.map by8),.cells (z8 2304),.cells (x.map by8),.cells ((maskL x bodyW (zs 2304)).map by8)]:=by
  refine body_x cnO2_ok (noLn_ok _) tabF_ok (n:=100) (g:=kdS) (bs:=mk84) ?_ (by simp)
  have e1:ops0.ext cs (o+0*32) 32=x.map by8:=by rw[nExt]; exact h2
  have hmk:maskL x [98,111,100,121] (List.replicate 2304 0)=maskL x bodyW (zs 2304):=rfl
  rw[vcl84a]
  simp only[nAdr,e1,spl32 h1,ext_sl,s1,hmask_eq,hmk,add1 (show 0<9223372036854775807 by omega)]
  simp only[chk_and,nLss,nInr,nLe,nPlus,nLen,nEq,List.length_map,h1,decide_eq_true_eq]
  refine Br.t (decide_eq_true hj) ?_
  repeat' with_reducible apply And.intro
  all_goals first|exact True.intro|omega|exact pkey _ h1|exact⟨z8_flat _,by rw[z8_length]; omega,by omega,zs 2304,zs_length _,by rw[z8_eq,List.drop_zero,List.take_of_length_le (by rw[List.length_map,List.length_replicate]; omega)]; rfl⟩|with_reducible rfl|rfl
 have h3:=hb.post (Weak.pickV [3] mk84 2 (by simp) (by simp) (by simp))
 rw[fr84_ren hcs] at h3
 have e4:pickH (viewF [.cells (x.map by8),.cells (z8 2304),.cells (x.map by8),.cells ((maskL x bodyW (zs 2304)).map by8)] [3] 2) [3] [.cells (x.map by8),.cells (z8 2304),.cells (x.map by8),.cells ((maskL x bodyW (zs 2304)).map by8)] = [.cells ((maskL x bodyW (zs 2304)).map by8)]:=by
  show [renB _ _ true (.cells ((maskL x bodyW (zs 2304)).map by8))]=_
  simp only[renB,renL_flat (flat_by8 _)]
 have p2:pickN [3] 3=some 0:=rfl
 rw[e4] at h3
 simp only[ren,p2] at h3
 exact h3
theorem body84b{cs:List AV}{o m i:Nat}{L:List (List UInt8)}(c:Nat)(e:Bool)(hcs:flatL cs)(ho:o+m*32≤cs.length)(h:ShAt cs o m L)(hm:m≤7)(hi:1≤i)(hj:i<m) :
  BodyTo Tryd.prog 0 lp84 (fr84 (.slc 0 (2304 - 256*i) (256*i) (256*i) 1) cs o m c e (Int.ofNat i)) [.cells ((fillA L i).map by8)] .norm
   (fr84 (.slc 0 (2304 - 256*(i+1)) (256*(i+1)) (256*(i+1)) 1) cs o m c e (Int.ofNat (i+1))) [.cells ((fillA L (i+1)).map by8)]:=by
 have hl:i<L.length:=by rw[h.1]; exact hj
 have hx:=List.getElem?_eq_getElem hl
 obtain⟨h1,h2⟩:=h.2 i L[i] hx
 have hg:L.getD i []=L[i]:=by rw[List.getD_eq_getElem?_getD,hx]; rfl
 have hA:=fill_lengths L i (by omega)
 have hF:=fillL_length (L:=L) (i:=i) (by omega)
 have ef:fillA L (i+1)=maskL L[i] bodyW (fillIn i (fillL L i)):=by
  show maskL (L.getD i []) bodyW _=_
  rw[hg]
  rfl
 rw[ef]
 generalize L[i]=x at h1 h2
 have s1:=sl_all h1
 have es:sl (fillA L i) (2304 - 256*i) (256*i)=fillL L i:=by
  unfold sl fillL
  rw[List.take_of_length_le (by rw[List.length_drop]; omega)]
 have hI:=fillIn_length (i:=i) (by omega) hF
 have ei:zs (2048 - 256*i)++(fillL L i++zs (2304 - (2048 - 256*i) - (fillL L i).length))=fillIn i (fillL L i):=by
  rw[hF,show 2304 - (2048 - 256*i) - 256*i=256 by omega]
  rfl
 have s2:=sl_all hI
 have s3:=sl_all hF
 have hmin:ops0.min (256*i) (2304 - (2048 - 256*i))=256*i:=by rw[nMin,if_pos (by omega)]
 have en:2304 - (2048 - 256*i)=256*(i+1):=by omega
 have eo:2048 - 256*i=2304 - 256*(i+1):=by omega
 have hsp:ops0.spl (z8 2304) (2048 - 256*i) ((fillL L i).map by8)=(fillIn i (fillL L i)).map by8:=by rw[spl_z8 (by omega),ei]
 have hb:BodyTo Tryd.prog 0 lp84 (fr84 (.slc 0 (2304 - 256*i) (256*i) (256*i) 1) cs o m c e (Int.ofNat i)) [.cells ((fillA L i).map by8)] .norm (fr84 (.slc 4 (2304 - 256*(i+1)) (256*(i+1)) (256*(i+1)) 1) cs o m c e (Int.ofNat (i+1)))
   [.cells ((fillA L i).map by8),.cells (x.map by8),.cells ((fillIn i (fillL L i)).map by8),.cells (x.map by8),.cells ((maskL x bodyW (fillIn i (fillL L i))).map by8)]:=by
  refine body_x cnO2_ok (noLn_ok _) tabF_ok (n:=100) (g:=kdS) (bs:=mk84) ?_ (by simp)
  have e1:ops0.ext cs (o+i*32) 32=x.map by8:=by rw[nExt]; exact h2
  have hmk:∀ y,maskL x [98,111,100,121] y=maskL x bodyW y:=fun _=>rfl
  rw[vcl84b]
  simp only[nAdr,e1,spl32 h1,ext_sl,s1,subN (show 256*i≤2048 by omega) (by omega),nNat,nPlus,nMinus,nTimes,Nat.mul_one,Nat.zero_add,es,hmin,s3,hsp,rd_sl,s2,hmask_eq,hmk,add1 (show i<9223372036854775807 by omega)]
  rw[en,eo]
  simp only[chk_and,nLss,nInr,nInb,nLe,nLen,nEq,List.length_map,h1,hA,decide_eq_true_eq]
  refine Br.t (decide_eq_true hj) ?_
  repeat' with_reducible apply And.intro
  all_goals first|exact True.intro|omega|exact pkey _ h1|exact pb_whole _ 2304 hI.symm (by omega)|with_reducible rfl|rfl
 have h3:=hb.post (Weak.pickV [4] mk84 2 (by simp) (by simp) (by simp))
 rw[fr84_ren hcs] at h3
 have e4:∀ A B C D E:List UInt8,pickH (viewF [.cells (A.map by8),.cells (B.map by8),.cells (C.map by8),.cells (D.map by8),.cells (E.map by8)] [4] 2) [4] [.cells (A.map by8),.cells (B.map by8),.cells (C.map by8),.cells (D.map by8),.cells (E.map by8)] = [.cells (E.map by8)]:=by
  intro A B C D E
  show [renB _ _ true (.cells (E.map by8))]=_
  simp only[renB,renL_flat (flat_by8 _)]
 have p2:pickN [4] 4=some 0:=rfl
 rw[e4] at h3
 simp only[ren,p2] at h3
 exact h3
def fil0:VF7:=⟨fun cs o m=>(fillA (shA cs o m) m).map by8⟩
theorem ln84_ok:LnOK Tryd.prog (ln84 fil0 isZ):=by
 intro n0 b fr H p x e hn0 hp lg
 unfold ln84 at e
 split at e<;>cases e
 rename_i cs o m c e mm h1 h2 h3
 obtain⟨rfl,hb,hf,hcs,hm,ho,L,hL⟩:=hp
 have hb:b=lp84:=hb
 subst hb
 cases m with
 | zero =>
  refine LoopTo.pre (Weak.forget (by simp) mk84) ?_ lg
  rw[hf]
  refine loop_chain (P:=Tryd.prog) (n0:=0) (b:=lp84) (ex := .exit 0) (fr':=fr84 .nils cs o 0 c e (Int.ofNat 0)) (H' := []) (by intro h;cases h) (fun _=>(fr84 .nils cs o 0 c e (Int.ofNat 0),[])) 0 0 (fun j h1 h2=>by omega) ?_
  refine body_x cnO2_ok (noLn_ok _) tabF_ok (n:=100) (g:=kdS) (bs:=mk84) ?_ (by simp)
  rw[vcl84a,nLss]
  exact Br.f (decide_eq_false (by omega)) ⟨rfl,rfl,rfl⟩
 | succ k =>
  have e2:fil0.fil cs o (k+1)=(fillA L (k+1)).map by8:=by
   show(fillA (shA cs o (k+1)) _).map by8=_
   rw[shA_eq hL]
  have hz:isZ (k+1)=false:=rfl
  rw[e2,hz]
  refine LoopTo.pre (Weak.forget (by simp) mk84) ?_ lg
  rw[hf]
  have h:=loop_chain (P:=Tryd.prog) (n0:=0) (b:=lp84) (ex := .exit 0) (fr':=fr84 (.slc 0 (2304 - 256*(k+1)) (256*(k+1)) (256*(k+1)) 1) cs o (k+1) c e (Int.ofNat (k+1))) (H' := [.cells ((fillA L (k+1)).map by8)]) (by intro h;cases h)
   (fun i=>match i with
    | 0=>(fr84 .nils cs o (k+1) c e (Int.ofNat 0),[])
    | j+1=>(fr84 (.slc 0 (2304 - 256*(j+1)) (256*(j+1)) (256*(j+1)) 1) cs o (k+1) c e (Int.ofNat (j+1)),[.cells ((fillA L (j+1)).map by8)])) (k+1) 0 (fun i _ hi => ?_) ?_
  ·exact h
  ·cases i with
   | zero=>exact body84a c e hcs ho hL hm (by omega)
   | succ j=>exact body84b c e hcs ho hL hm (by omega) (by omega)
  ·rw[Nat.zero_add]
   refine body_x cnO2_ok (noLn_ok _) tabF_ok (n:=100) (g:=kdS) (bs:=mk84) ?_ (by simp)
   show vm _ _ _ _ _ _ (fr84 (.slc 0 (2304 - 256*(k+1)) (256*(k+1)) (256*(k+1)) 1) cs o (k+1) c e (Int.ofNat (k+1))) [.cells ((fillA L (k+1)).map by8)] _ _
   rw[vcl84b,nLss]
   exact Br.f (decide_eq_false (by omega)) ⟨rfl,rfl,rfl⟩
theorem endN_val{g:Kd→Bool}{C:CnF}(hC:CnOK Tryd.prog C){E:LnF}(hE:LnOK Tryd.prog E){T:Nat→Option VF}(hT:∀ f vf,T f=some vf→FnOK Tryd.prog f vf){f n:Nat}{vf:VF}(hf:T f=some vf){vals:List AV}
  (h:vcall (vcA g C E) ops0 T n vf vals [] (fun r H lg=>match r with
   | .nils=>(AV.nils = .nils)
   | r=>endB (fun _ _ _ _ _=>False) r H lg)):CallTo Tryd.prog f vals [] .nils [] []:=by
 obtain⟨r,H',lg,hc,e⟩:=call_vcx hC hE hT hf h
 have e:r = .nils:=by
  split at e
  ·rfl
  ·unfold endB at e
   split at e
   ·split at e
    ·exact e.2.elim
    ·exact e.elim
   ·exact e.elim
 subst e
 have:=hc.cut 0 (Nat.le_refl 0) (Nat.zero_le _) (lg0 := []) (fun b hb=>by simp at hb)
 exact this
theorem endN_slc{g:Kd→Bool}{C:CnF}(hC:CnOK Tryd.prog C){E:LnF}(hE:LnOK Tryd.prog E){T:Nat→Option VF}(hT:∀ f vf,T f=some vf→FnOK Tryd.prog f vf){f n:Nat}{vf:VF}(hf:T f=some vf){vals:List AV}{o m c sz:Nat}{cs:List AV}
  (h:vcall (vcA g C E) ops0 T n vf vals [] (fun r H lg=>match r with
   | .nils=>False
   | r=>endB (fun o' m' c' sz' cs'=>o'=o∧m'=m∧c'=c∧sz'=sz∧cs'=cs) r H lg)):CallTo Tryd.prog f vals [] (.slc 0 o m c sz) [.cells cs] []:=by
 refine call_b hC hE hT hf (n:=n) (g:=g) ?_
 have ee:(fun(r:AV) (H:Hl) (lg:List Nat)=>match r with
  | .nils=>False
  | r=>endB (fun o' m' c' sz' cs'=>o'=o∧m'=m∧c'=c∧sz'=sz∧cs'=cs) r H lg)=endB (fun o' m' c' sz' cs'=>o'=o∧m'=m∧c'=c∧sz'=sz∧cs'=cs):=by
  funext r H lg
  cases r<;>rfl
 rw[ee] at h
 exact h
theorem call84{cs:List AV}{o m:Nat}(c:Nat)(e:Bool){L:List (List UInt8)}(hcs:flatL cs)(hm:m≤7)(ho:o+m*32≤cs.length)(hL:ShAt cs o m L)(hc:m+1≤c) :
  (m=0→CallTo Tryd.prog 37 [.ros cs o (m+1) c e] [] .nils [] [])∧(m≠0→CallTo Tryd.prog 37 [.ros cs o (m+1) c e] [] (.slc 0 (2304 - 256*m) (256*m) (256*m) 1) [.cells ((fillA L m).map by8)] []):=by
 have e1:ops0.nat (ops0.bin .sub .i64 (ops0.ofn (m+1)) (Int.ofNat 1))=m:=by
  rw[nOfn,nSub (by omega) (by omega)]
  rfl
 have e0:ops0.sub m 0=m:=rfl
 have e2:ops0.inb (ops0.bin .sub .i64 (ops0.ofn (m+1)) (Int.ofNat 1)) c=true:=by
  rw[nOfn,nSub (by omega) (by omega),nInb]
  exact decide_eq_true (by omega)
 have e3:fil0.fil cs o m=(fillA L m).map by8:=by
  show(fillA (shA cs o m) _).map by8=_
  rw[shA_eq hL]
 constructor
 ·intro h0
  refine endN_val cnO2_ok ln84_ok tabF_ok (show tabF 37=some vf37 from rfl) (n:=100) (g:=kdS) ?_
  rw[vc84 oz0 of1 hf0 fil0 isZ cs o m c e (fun _=>AV.nils = .nils) (fun _ _ _ _ _=>False),e1,e0]
  refine Chk.mk e2 ⟨⟨rfl,rfl,rfl,hcs,hm,ho,L,hL⟩,Br.t (decide_eq_true h0) rfl⟩
 ·intro h0
  refine endN_slc cnO2_ok ln84_ok tabF_ok (show tabF 37=some vf37 from rfl) (n:=100) (g:=kdS) ?_
  rw[vc84 oz0 of1 hf0 fil0 isZ cs o m c e (fun _=>False) (fun o' m' c' sz' cs'=>o'=2304 - 256*m∧m'=256*m∧c'=256*m∧sz'=1∧cs'=(fillA L m).map by8),e1,e0,e3]
  exact Chk.mk e2 ⟨⟨rfl,rfl,rfl,hcs,hm,ho,L,hL⟩,Br.f (decide_eq_false h0) ⟨flat_by8 _,rfl,rfl,rfl,rfl,rfl⟩⟩
end
end Go.Proofs.Vm

namespace Go.Vm
set_option maxRecDepth 100000
noncomputable section
abbrev FR(l:Nat):Fence:=Fence.wide.inRound l
theorem fr_all(l:Nat)(P:Program)(m:Machine):Machine.fenced P (FR l) m:=fenced_wide P m
def okR:Code→Bool
 | .region _ ops _=>ops.toList.all fun o=>match o.op with
  | .defer _=>false
  | _=>true
 | .seq a b=>okR a && okR b
 | .cond _ a b=>okR a && okR b
 | .block _ b=>okR b
 | .skip | .exit _ | .ret=>true
 | _=>false
theorem rows_wide{F:Fence}{n:Nat}{P:Program}{row:String}{args:Array Value}{w:World}{R:Value→World→Prop}(hF:∀ m,Machine.fenced P F m)(h:Rows P row args w R):RowsIn F n P row args w R:=by
 intro c cs _
 obtain⟨v,w',r,s⟩:=h c cs
 exact⟨v,w',r,(StepsIn.of_steps s).mono fun m _=>hF m⟩
theorem upon_in{l:Nat}{P:Program}{o:Oper}{a:Act}{next next':Act→World→Prop}{Q:Exit→Act→World→Prop}(hn:∀ a w,next a w→next' a w){r:Result Next}(h:o.upon P a next Q r):o.uponIn (FR l) 0 P a next' Q r:=by
 have hd:(FR l).depth.isSome=true→1≤0:=fun h=>by cases h
 unfold Oper.upon at h
 split at h
 ·exact hn _ _ h
 ·exact hn _ _ h
 ·exact hn _ _ h
 ·refine⟨hd,CallsIn.inRound l (callsIn_wide.2 (Calls.mono h ?_))⟩
  intro e w hh
  cases e with
  | returned v=>exact hn _ _ hh
  | panicked c=>exact hh
  | outgrown=>exact hh
 ·exact⟨hd,rows_wide (fr_all l P) (Rows.mono h fun v w' k=>hn _ _ k)⟩
 ·exact h
 ·exact h.elim
theorem wpOps_in{l:Nat}{P:Program}{all:Array Oper}{Q:Exit→Act→World→Prop}(hQ:¬ LetsOut Q)(hd:∀ o,o∈all.toList→∀ c,o.op ≠ .defer c) :
  ∀ (is:List Nat) (a:Act) (w:World),wpOps P all Q is a w→wpOpsIn (FR l) 0 P all Q is a w
 | [],a,w,h=>h
 | i::rest,a,w,h=>by
  simp only[wpOps,wpOpsIn] at h ⊢
  cases ho:all[i]? with
  | none =>
   simp only[ho] at h ⊢
   exact wpOps_in hQ hd rest a w h
  | some o =>
   simp only[ho] at h ⊢
   by_cases hw:Region.wanted o (yielded all a.tmps)=true
   ·rw[if_pos hw] at h ⊢
    rcases h with h|⟨_,h2⟩
    ·refine⟨fun _ _=>trivial,?_⟩
     rw[Oper.semAt_eq _ _ _ (hd o (List.mem_of_getElem? (by rw[Array.getElem?_toList]; exact ho)))]
     exact upon_in (fun a w k=>wpOps_in hQ hd rest a w k) h
    ·exact absurd h2 hQ
   ·rw[if_neg hw] at h ⊢
    exact⟨fun _ _=>trivial,wpOps_in hQ hd rest _ w h⟩
theorem region_in{l id:Nat}{P:Program}{all:Array Oper}{draw:Bool}{Q:Exit→Act→World→Prop}{a:Act}{w:World}(hd:okR (.region id all draw)=true)(h:RegWp P all draw (fun e1 a1 w1=>e1 = .normal∧Q .normal a1 w1) a w) :
  (Code.region id all draw).wpIn (FR l) 0 P Q a w:=by
 have hQ:¬ LetsOut (fun e1 a1 w1=>e1=Exit.normal∧Q .normal a1 w1):=fun⟨_,_,h,_⟩=>by cases h
 have hdd:∀ o,o∈all.toList→∀ c,o.op ≠ .defer c:=by
  intro o ho c e
  have:=(List.all_eq_true.1 (show(all.toList.all fun o=>match o.op with
   | .defer _=>false
   | _=>true)=true from hd)) o ho
  rw[e] at this
  cases this
 have hm:∀ (e:Exit) (a:Act) (w:World),(fun e1 a1 w1=>e1=Exit.normal∧Q .normal a1 w1) e a w→Q e a w:=fun e a w ⟨h1,h2⟩=>h1 ▸ h2
 cases draw with
 | false=>exact wpIn_mono (wpIn_region (wpOps_in hQ hdd _ a w h)) hm
 | true=>exact wpIn_mono (wpIn_region_draw fun t=>wpOps_in hQ hdd _ a _ (h t)) hm
section
variable {R:Type}{A:Alg R}{holds:R→Prop}{P:Program}(fine:A.Fine P holds){T:Nat→Option VF}(hT:∀ f vf,T f=some vf→FnOK P f vf)
include fine hT
theorem vm_sound_r(l:Nat):∀ (n:Nat) (c:Code),okR c=true→∀ n0 fr H lg (k:Ex→Fr→Hl→List Nat→R),n0≤H.length→holds (vm A ops0 T n n0 (compile P c) fr H lg k) →
  ∃ ex fr' H' lg',Goes (c.wpIn (FR l) 0 P) n0 fr H lg (exitOf ex) fr' H' lg'∧holds (k ex fr' H' lg')
 | 0,c,_,n0,fr,H,lg,k,_,h=>(fine.fail h).elim
 | n+1,c,hc,n0,fr,H,lg,k,hn0,h=>by
  have ihS:=vm_sound_r l n
  have hcf:CallOK P holds (fun f vals H k=>match T f with
    | none=>A.call f vals H k
    | some vf=>vm A ops0 T n (size H) vf.body (join vals (pad (vf.ntmps - size vals))) H [] fun ex fr H' lg=>match ex with
     | .exit _=>A.fail
     | _=>results A ops0 vf.results fr H' fun vs=>k (pack vs) H' lg):=by
   intro f vals H k h
   simp only at h
   split at h
   ·exact fine.call f vals H k h
   ·rename_i vf hvf
    exact call_of_body fine (hT f vf hvf) (vm_sound fine hT n).1 h
  cases c with
  | skip=>exact⟨.norm,fr,H,lg,⟨hn0,fun b hb=>hb,fun b _ _=>rfl,fun ρ w a Q h1 h2 hQ=>wpIn_skip (hQ a w ρ h1 h2 rfl (Ext.refl _ _ _))⟩,h⟩
  | ret=>exact⟨.ret,fr,H,lg,⟨hn0,fun b hb=>hb,fun b _ _=>rfl,fun ρ w a Q h1 h2 hQ=>wpIn_ret (hQ a w ρ h1 h2 rfl (Ext.refl _ _ _))⟩,h⟩
  | exit id=>exact⟨.exit id,fr,H,lg,⟨hn0,fun b hb=>hb,fun b _ _=>rfl,fun ρ w a Q h1 h2 hQ=>wpIn_exit (hQ a w ρ h1 h2 rfl (Ext.refl _ _ _))⟩,h⟩
  | region id ops draw =>
   obtain⟨fr',H',lg',hg,h⟩:=region_ops fine.toGood hcf (all:=ops) (draw:=draw) (n0:=n0) (fr:=fr) (H:=H) (lg:=lg) (k:=fun fr H lg=>k .norm fr H lg) hn0 (fun d bef vs e=>by
    have h:holds (vm A ops0 T (n+1) n0 (regOf P ops draw) fr H lg k):=h
    rw[e] at h
    exact h)
   exact⟨.norm,fr',H',lg',hg.weak fun Q a w hw=>region_in hc hw,h⟩
  | seq x y =>
   have hc:okR x=true∧okR y=true:=by simpa[okR] using hc
   obtain⟨ex,fr',H',lg',hg,h⟩:=ihS x hc.1 n0 fr H lg _ hn0 h
   cases ex with
   | norm =>
    obtain⟨ex2,fr2,H2,lg2,hg2,h⟩:=ihS y hc.2 n0 fr' H' lg' k hg.grow h
    exact⟨ex2,fr2,H2,lg2,hg.trans hg2 fun Q a w hw=>wpIn_seq (wpIn_mono hw (by rintro e a w ⟨rfl,h⟩; exact h)),h⟩
   | ret=>exact⟨.ret,fr',H',lg',hg.weak fun Q a w hw=>wpIn_seq (wpIn_mono hw (by rintro e a w ⟨rfl,h⟩; exact h)),h⟩
   | exit id=>exact⟨.exit id,fr',H',lg',hg.weak fun Q a w hw=>wpIn_seq (wpIn_mono hw (by rintro e a w ⟨rfl,h⟩; exact h)),h⟩
  | cond c x y =>
   have hc2:okR x=true∧okR y=true:=by simpa[okR] using hc
   simp only[compile] at h
   cases hc:argOf c with
   | none=>rw[hc] at h;exact(fine.fail h).elim
   | some z =>
    rw[hc] at h
    have h:holds (match ev fr z with
     | .bool true=>vm A ops0 T n n0 (compile P x) fr H lg k
     | .bool false=>vm A ops0 T n n0 (compile P y) fr H lg k
     | _=>A.fail):=h
    split at h
    ·rename_i hev
     obtain⟨ex,fr',H',lg',hg,h⟩:=ihS x hc2.1 n0 fr H lg k hn0 h
     refine⟨ex,fr',H',lg',⟨hg.grow,hg.sub,hg.keep,fun ρ w a Q h1 h2 hQ => ?_⟩,h⟩
     have:=arg_rel h2 hc
     rw[hev] at this
     exact wpIn_cond_true (inv_bool this) (hg.does ρ w a Q h1 h2 hQ)
    ·rename_i hev
     obtain⟨ex,fr',H',lg',hg,h⟩:=ihS y hc2.2 n0 fr H lg k hn0 h
     refine⟨ex,fr',H',lg',⟨hg.grow,hg.sub,hg.keep,fun ρ w a Q h1 h2 hQ => ?_⟩,h⟩
     have:=arg_rel h2 hc
     rw[hev] at this
     exact wpIn_cond_false (inv_bool this) (hg.does ρ w a Q h1 h2 hQ)
    ·exact(fine.fail h).elim
  | block id x =>
   replace h:=ihS x hc n0 fr H lg _ hn0 h
   obtain⟨ex,fr',H',lg',hg,h⟩:=h
   cases ex with
   | norm=>exact⟨.norm,fr',H',lg',hg.weak fun Q a w hw=>wpIn_block (wpIn_mono hw (by rintro e a w ⟨rfl,h⟩; exact h)),h⟩
   | ret=>exact⟨.ret,fr',H',lg',hg.weak fun Q a w hw=>wpIn_block (wpIn_mono hw (by rintro e a w ⟨rfl,h⟩; exact h)),h⟩
   | exit j =>
    simp only at h
    split at h
    ·rename_i hj
     have hj:=Nat.eq_of_beq_eq_true hj
     subst hj
     exact⟨.norm,fr',H',lg',hg.weak fun Q a w hw=>wpIn_block (wpIn_mono hw (by rintro e a w ⟨rfl,h⟩; simpa[exitOf,Exit.inBlock] using h)),h⟩
    ·rename_i hj
     have hj:j≠id:=by intro e;subst e;simp[Nat.beq_refl] at hj
     exact⟨.exit j,fr',H',lg',hg.weak fun Q a w hw=>wpIn_block (wpIn_mono hw (by rintro e a w ⟨rfl,h⟩; simpa[exitOf,Exit.inBlock,hj] using h)),h⟩
  | _=>cases hc
omit fine hT in
def SeqWp(P:Program):List Code→(Exit→Act→World→Prop)→Act→World→Prop
 | [],Q,a,w=>Q .normal a w
 | c::cs,Q,a,w=>c.wp P (fun e a w=>e = .normal∧SeqWp P cs Q a w) a w
def vcSeq(P:Program):List Code→VC
 | [] => .skip
 | c::cs => .seq (compile P c) (vcSeq P cs)
theorem seq_sound:∀ (cs:List Code) (n n0:Nat) (fr:Fr) (H:Hl) (lg:List Nat) (k:Fr→Hl→R),n0≤H.length →
  holds (vm A ops0 T n n0 (vcSeq P cs) fr H lg fun ex fr H _=>match ex with
   | .norm=>k fr H
   | _=>A.fail)→∃ fr' H' lg',Goes (SeqWp P cs) n0 fr H lg .normal fr' H' lg'∧holds (k fr' H')
 | _,0,n0,fr,H,lg,k,_,h=>(fine.fail h).elim
 | [],n+1,n0,fr,H,lg,k,hn0,h=>⟨fr,H,lg,⟨hn0,fun b hb=>hb,fun b _ _=>rfl,fun ρ w a Q h1 h2 hQ=>hQ a w ρ h1 h2 rfl (Ext.refl _ _ _)⟩,h⟩
 | c::cs,n+1,n0,fr,H,lg,k,hn0,h=>by
  obtain⟨ex,fr',H',lg',hg,h⟩:=(vm_sound fine hT n).1 c n0 fr H lg _ hn0 h
  cases ex with
  | norm =>
   obtain⟨fr2,H2,lg2,hg2,h⟩:=seq_sound cs n n0 fr' H' lg' k hg.grow h
   exact⟨fr2,H2,lg2,hg.trans hg2 fun Q a w hw=>hw,h⟩
  | ret=>exact(fine.fail h).elim
  | exit id=>exact(fine.fail h).elim
end
theorem VRel.monoN{n:Nat}{ρ ρ':Rho}{w w':World}(e:Ext n ρ w ρ' w'){a:AV}{v:Value}(h:VRel ρ w a v)(hn:nm n a=true):VRel ρ' w' a v:=by
 induction h with
 | top v=>exact .top v
 | bool b=>exact .bool b
 | int k n=>exact .int k n
 | flt k n=>exact .flt k n
 | str s=>exact .str s
 | nilp=>exact .nilp
 | ptr b o v h0 h1 hs h =>
  have hb:b<n:=(blt_iff _ _).1 (by simpa only[nm] using hn)
  refine .ptr b o v ?_ ?_ hs ?_
  ·rcases e.slot b hb h0 with s|s<;>rw[s]
   ·exact h0
   ·simp
  ·rcases e.slot b hb h0 with s|s<;>rw[s]
   ·exact h1
   ·simp
  ·intro B F hl
   rcases e.slot b hb h0 with s|s
   ·exact h B F (s ▸ hl)
   ·rw[s] at hl;cases hl
 | nils=>exact .nils
 | slc b o len cap sz v h0 hs hv h =>
  have hb:b<n:=(blt_iff _ _).1 (by simpa only[nm] using hn)
  refine .slc b o len cap sz v ?_ hs ?_ ?_
  ·rcases e.slot b hb h0 with s|s<;>rw[s]
   ·exact h0
   ·simp
  ·intro hl
   rcases e.slot b hb h0 with s|s
   ·exact hv (s ▸ hl)
   ·rw[s] at hl;cases hl
  ·intro B F hl
   rcases e.slot b hb h0 with s|s
   ·obtain⟨ao,cap',h1,h2,h3,h4,h5⟩:=h B F (s ▸ hl)
    refine⟨ao,cap',h1,h2,h3,h4,?_⟩
    by_cases hB:B<w.heap.size
    ·rw[e.rows B hB]; exact h5
    ·rw[rows_zero (w:=w) (by omega)] at h5;omega
   ·rw[s] at hl;cases hl
 | ros cells off len cap exact B F ao cap' vs hlt hp hl ho hc hr hcap hlen he ha ih =>
  have hn:nmL n cells=true:=by simpa only[nm] using hn
  refine .ros cells off len cap exact B F ao cap' vs (fun hn=>Nat.lt_of_lt_of_le (hlt hn) e.size) (fun hn=>e.unowned (hlt hn) (hp hn)) hl ho ?_ (fun i a v ha hv=>ih i a v ha hv (nmL_get hn ha)) hcap hlen he ha
  intro i v hv
  have hn:cells ≠ []:=by
   intro h;subst h;simp at hl;subst hl;simp at hv
  rw[cell_keep (e.keep B (hlt hn) (hp hn))]
  exact hc i v hv
 | rop cells off B F vs hlt hp hl ho hc hr ih =>
  have hn:nmL n cells=true:=by simpa only[nm] using hn
  refine .rop cells off B F vs (fun hn=>Nat.lt_of_lt_of_le (hlt hn) e.size) (fun hn=>e.unowned (hlt hn) (hp hn)) hl ho ?_ (fun i a v ha hv=>ih i a v ha hv (nmL_get hn ha))
  intro i v hv
  have hn:cells ≠ []:=by
   intro h;subst h;simp at hl;subst hl;simp at hv
  rw[cell_keep (e.keep B (hlt hn) (hp hn))]
  exact hc i v hv
 | agg cs vs hl ho hr ih =>
  have hn:nmL n cs=true:=by simpa only[nm] using hn
  exact .agg cs vs hl ho (fun i a v ha hv=>ih i a v ha hv (nmL_get hn ha))
 | tup cs vs hl hr ih =>
  have hn:nmL n cs=true:=by simpa only[nm] using hn
  exact .tup cs vs hl (fun i a v ha hv=>ih i a v ha hv (nmL_get hn ha))
 | fn f xs ys us vs hl hl' hr hr' ih ih' =>
  have hn:nmL n xs=true∧nmL n ys=true:=by
   simp only[nm] at hn
   split at hn
   ·rename_i h1;exact⟨h1,hn⟩
   ·cases hn
  exact .fn f xs ys us vs hl hl' (fun i a v ha hv=>ih i a v ha hv (nmL_get hn.1 ha)) (fun i a v ha hv=>ih' i a v ha hv (nmL_get hn.2 ha))
 | nilf=>exact .nilf
 | ifc t a v h ih=>exact .ifc t a v (ih (by simpa only[nm] using hn))
 | nili=>exact .nili
 | mp b v h0 hs h =>
  have hb:b<n:=(blt_iff _ _).1 (by simpa only[nm] using hn)
  refine .mp b v ?_ hs ?_
  ·rcases e.slot b hb h0 with s|s<;>rw[s]
   ·exact h0
   ·simp
  ·intro B F hl
   rcases e.slot b hb h0 with s|s
   ·exact h B F (s ▸ hl)
   ·rw[s] at hl;cases hl
theorem VRels.monoN{n:Nat}{ρ ρ':Rho}{w w':World}(e:Ext n ρ w ρ' w'){az:List AV}{vs:List Value}(h:VRels ρ w az vs)(hn:nmL n az=true):VRels ρ' w' az vs :=
 ⟨h.len,fun i a v ha hv=>(h.at_ i a v ha hv).monoN e (nmL_get hn ha)⟩
theorem VRel.obj{ρ:Rho}{w w':World}(size:w'.heap.size=w.heap.size)(cell:∀ (B o:Nat) (v:Value),w.cell? ⟨B,o,none⟩=some v→w'.cell? ⟨B,o,none⟩=some v)(rw_:∀ B,rows w' B=rows w B){a:AV}{v:Value}(h:VRel ρ w a v):VRel ρ w' a v:=by
 induction h with
 | slc b o len cap sz v h0 hs hv h =>
  refine .slc b o len cap sz v h0 hs hv fun B F hl => ?_
  obtain⟨ao,cap',h1,h2,h3,h4,h5⟩:=h B F hl
  exact⟨ao,cap',h1,h2,h3,h4,by rw[rw_]; exact h5⟩
 | ros cells off len cap exact B F ao cap' vs hlt hp hl ho hc hr hcap hlen he ha ih =>
  exact .ros cells off len cap exact B F ao cap' vs (by rw[size]; exact hlt) hp hl ho (fun i v hv=>cell _ _ _ (hc i v hv)) ih hcap hlen he ha
 | rop cells off B F vs hlt hp hl ho hc hr ih =>
  exact .rop cells off B F vs (by rw[size]; exact hlt) hp hl ho (fun i v hv=>cell _ _ _ (hc i v hv)) ih
 | top v=>exact .top v
 | bool b=>exact .bool b
 | int k n=>exact .int k n
 | flt k n=>exact .flt k n
 | str s=>exact .str s
 | nilp=>exact .nilp
 | ptr b o v h0 h1 hs h=>exact .ptr b o v h0 h1 hs h
 | nils=>exact .nils
 | agg cs vs hl ho hr ih=>exact .agg cs vs hl ho ih
 | tup cs vs hl hr ih=>exact .tup cs vs hl ih
 | fn f xs ys us vs hl hl' hr hr' ih ih'=>exact .fn f xs ys us vs hl hl' ih ih'
 | nilf=>exact .nilf
 | ifc t a v h ih=>exact .ifc t a v ih
 | nili=>exact .nili
 | mp b v h0 hs h=>exact .mp b v h0 hs h
def noRow:Obj→Bool
 | .loop _ | .deferred _=>true
 | _=>false
theorem put_cell{w:World}{l:Nat}{o o':Obj}(h:w.heap[l]? = some o)(ho:noRow o=true)(B x:Nat)(v:Value)(hc:w.cell? ⟨B,x,none⟩=some v):(w.putObj l o').cell? ⟨B,x,none⟩=some v:=by
 by_cases hB:B=l
 ·subst hB
  simp only[World.cell?,h] at hc
  cases o<;>cases ho<;>cases hc
 ·have e:(w.putObj l o').heap[B]? = w.heap[B]? := World.putObj_heap_other hB
  rw[cell_keep e]
  exact hc
section
variable {w:World}{l:Nat}{o o':Obj}(h:w.heap[l]? = some o)(ho:noRow o=true)(ho':noRow o'=true)
include h ho ho'
theorem put_rows(B:Nat):rows (w.putObj l o') B=rows w B:=by
 by_cases hB:B=l
 ·subst hB
  have hlt:B<w.heap.size:=(Array.getElem?_eq_some_iff.1 h).1
  simp only[rows,h,World.putObj_heap_same hlt]
  cases o<;>cases ho<;>cases o'<;>cases ho'<;>rfl
 ·simp only[rows,World.putObj_heap_other hB]
theorem put_rel{ρ:Rho}{a:AV}{v:Value}(hv:VRel ρ w a v):VRel ρ (w.putObj l o') a v:=hv.obj World.putObj_size (put_cell h ho) (put_rows h ho ho')
theorem put_hrel{ρ:Rho}{g:Hp}(hg:HRel ρ w g):HRel ρ (w.putObj l o') g where
 unborn:=hg.unborn
 dead:=hg.dead
 inj:=hg.inj
 live b cs hb:=by
  rcases hg.live b cs hb with h'|⟨B,F,c,e,lo,hi,h1,h2,h3,h4,h5⟩
  ·exact .inl h'
  ·have hB:B≠l:=by
    intro e';subst e';rw[h] at h2;cases h2;cases ho
   exact .inr ⟨B,F,c,e,lo,hi,h1,(World.putObj_heap_other hB).trans h2,h3,h4,fun i a ha=>let ⟨v,q1,q2,q3⟩:=h5 i a ha;⟨v,q1,q2,put_rel h ho ho' q3⟩⟩
 marks b B F c e lo hi hl hh:=by
  by_cases hB:B=l
  ·subst hB
   have hlt:B<w.heap.size:=(Array.getElem?_eq_some_iff.1 h).1
   rw[World.putObj_heap_same hlt] at hh
   cases hh;cases ho'
  ·rw[World.putObj_heap_other hB] at hh
   exact hg.marks b B F c e lo hi hl hh
 sets b kd ks hb:=hg.sets_of hb rfl fun B F es clock _ hm=>World.putObj_heap_other (fun e=>by subst e;rw[h] at hm;cases hm;cases ho)
theorem put_ext{n:Nat}{ρ0 ρ:Rho}{w0:World}(hl:w0.heap.size≤l)(E:Ext n ρ0 w0 ρ w):Ext n ρ0 w0 ρ (w.putObj l o') where
 size:=by rw[World.putObj_size]; exact E.size
 os:=E.os
 tape:=E.tape
 output:=E.output
 keep B hB hu:=(World.putObj_heap_other (by omega)).trans (E.keep B hB hu)
 slot:=E.slot
 fresh:=E.fresh
 rows B hB:=(put_rows h ho ho' B).trans (E.rows B hB)
end
theorem alloc_noRow{ρ:Rho}{w:World}{g:Hp}{o:Obj}(ho:noRow o=true)(hg:HRel ρ w g):HRel ρ (w.alloc o) g∧(∀ n,Ext n ρ w ρ (w.alloc o))∧∀ {a:AV} {v:Value},VRel ρ w a v→VRel ρ (w.alloc o) a v:=by
 have old:∀ B,B<w.heap.size→(w.alloc o).heap[B]? = w.heap[B]? := fun B hB=>by simp only[World.alloc,Array.getElem?_push]; rw[if_neg (by omega)]
 have E:∀ n,Ext n ρ w ρ (w.alloc o):=fun n=>⟨by rw[World.size_alloc]; omega,rfl,rfl,rfl,fun B hB _=>old B hB,fun _ _ _ => .inl rfl,fun b B F h => .inr ⟨b,F,h⟩,fun B hB=>by simp only[rows,old B hB]⟩
 have hb:∀ {a:AV} {v:Value},VRel ρ w a v→VRel ρ (w.alloc o) a v:=fun hv=>ext_bound E hv
 exact⟨⟨hg.unborn,hg.dead,hg.inj,fun b cs hb'=>by
  rcases hg.live b cs hb' with h'|⟨B,F,c,e,lo,hi,h1,h2,h3,h4,h5⟩
  ·exact .inl h'
  ·exact .inr ⟨B,F,c,e,lo,hi,h1,(old B (hg.lt h1)).trans h2,h3,h4,fun i a ha=>let ⟨v,q1,q2,q3⟩:=h5 i a ha;⟨v,q1,q2,hb q3⟩⟩,
  fun b B F c e lo hi hl hh=>hg.marks b B F c e lo hi hl (by rw[old B (hg.lt hl)] at hh;exact hh),fun b kd ks hb=>hg.sets_of hb rfl fun B F es clock h1 _=>old B (hg.lt h1)⟩,E,hb⟩
end
end Go.Vm

namespace Go.Vm
set_option maxRecDepth 100000
noncomputable section
theorem upon_wide{P:Program}{o:Oper}{a:Act}{next:Act→World→Prop}{Q:Exit→Act→World→Prop}{r:Result Next}(h:o.upon P a next Q r):o.uponIn Fence.wide 0 P a next Q r:=by
 have hd:Fence.wide.depth.isSome=true→1≤0:=fun h=>by cases h
 unfold Oper.upon at h
 split at h
 ·exact h
 ·exact h
 ·exact h
 ·exact⟨hd,callsIn_wide.2 h⟩
 ·exact⟨hd,rows_wide (fenced_wide P) h⟩
 ·exact h
 ·exact h.elim
section
variable {P:Program}{all:Array Oper}{Q:Exit→Act→World→Prop}{i:Nat}{rest:List Nat}{o:Oper}{a:Act}{w:World}
theorem op_take(ho:all[i]? = some o)(hg:o.guard=none)(h:o.uponIn Fence.wide 0 P a (wpOpsIn Fence.wide 0 P all Q rest) Q ((execOp a.eval o).run P w)):wpOpsIn Fence.wide 0 P all Q (i::rest) a w:=by
 simp only[wpOpsIn,ho]
 have hw:Region.wanted o (yielded all a.tmps)=true:=by unfold Region.wanted;rw[hg]
 rw[if_pos hw]
 exact⟨fun _ _=>trivial,h⟩
theorem op_move{x:Operand}{d:Nat}(ho:all[i]? = some o)(hg:o.guard=none)(hd:o.dst=some d)(hm:o.op = .move x∨o.op = .assign x)(h:wpOpsIn Fence.wide 0 P all Q rest (a.put (some d) (a.eval x)) w) :
  wpOpsIn Fence.wide 0 P all Q (i::rest) a w:=by
 refine op_take ho hg ?_
 have e:(execOp a.eval o).run P w = .ok (.value (a.eval x)) w:=by
  rcases hm with hm|hm<;>simp[execOp,hm]
 rw[e,Oper.uponIn_value,hd]
 exact h
def noCall:CallF Prop:=fun _ _ _ _=>False
theorem noCall_ok(P:Program):CallOK P (fun p=>p) noCall:=fun _ _ _ _ h=>h.elim
theorem op_quiet{vo:VOp}{xs:List Operand}{avs:List AV}{H:Hl}{r:AV}{ρ:Rho}{d:Nat}(ho:all[i]? = some o)(hg:o.guard=none)(hd:o.dst=some d)(hc:copOf P o.op=some (vo,xs))(hn:isCall vo=false)
  (h:ex (vcA kdNo noCn noLn) ops0 noCall H vo avs fun r' H' t _=>r'=r∧H'=H∧t = []) (hH:HRel ρ w (fun b=>H[b]?)) (hx:VRels ρ w avs (xs.map a.eval))
  (k:∀ v w' ρ',HRel ρ' w' (fun b=>H[b]?)→VRel ρ' w' r v→(∀ n,Ext n ρ w ρ' w')→wpOpsIn Fence.wide 0 P all Q rest (a.put (some d) v) w'):wpOpsIn Fence.wide 0 P all Q (i::rest) a w:=by
 have good:(vcA kdNo noCn noLn).Good (fun p=>p):=(vcA_fine (noCn_ok P) (noLn_ok P)).toGood
 obtain⟨r',H',t,f,⟨rfl,rfl,rfl⟩,hs,_⟩:=ex_sound good (noCall_ok P) (holds:=fun p=>p) hc h
 have hdo:=hs.does ρ w a (fun b=>H'[b]?) hx (fun _ _=>rfl) (fun _ _=>rfl) (fun b hb _=>List.getElem?_eq_none hb) hH
 refine op_take ho hg ?_
 have:=hdo (wpOpsIn Fence.wide 0 P all Q rest) Q (fun v w' ⟨ρ',h1,h2,h3⟩=>by
  rw[hd]
  refine k v w' ρ' ?_ h2 h3
  have e:upd (fun b=>H'[b]?) H' ([]++news H'.length H'.length)=fun b=>H'[b]? := by rw[List.nil_append,news_self,upd_nil]
  rw[e] at h1
  exact h1)
 exact upon_wide this
theorem op_yield{f x y:Operand}{ts:Array TypeId}{d l:Nat}{rec:Loop}{S:World→Prop}(ho:all[i]? = some o)(hg:o.guard=none)(hd:o.dst=some d)(hop:o.op = .call { callee := .value f,args := #[x,y],argTypes:=ts })
  (hf:a.eval f = .func (.yield l) #[] #[]) (hl:w.heap[l]? = some (.loop rec)) (hs:rec.params.size=2)
  (hr:RoundIn Fence.wide 0 P l rec.fn ((rec.params.zip #[a.eval x,a.eval y]).foldl (fun t (p,v)=>t.setIfInBounds p v) rec.tmps) rec.assign rec.body w fun e w'=>e = .returned (.bool true)∧S w')
  (k:∀ w',S w'→wpOpsIn Fence.wide 0 P all Q rest (a.put (some d) (.bool true)) w'):wpOpsIn Fence.wide 0 P all Q (i::rest) a w:=by
 refine op_take ho hg ?_
 have hy:=run_yield (P:=P) (args := #[a.eval x,a.eval y]) hl (by rw[hs]; rfl)
 have e:(execOp a.eval o).run P w = .ok (.round l rec.fn ((rec.params.zip #[a.eval x,a.eval y]).foldl (fun t (p,v)=>t.setIfInBounds p v) rec.tmps) rec.assign rec.body) w:=by
  rw[←hy]
  simp only[execOp,hop,resolve,hf]
  simp[go_sem,invoke]
 rw[e,Oper.uponIn_round]
 refine⟨(fun h=>by cases h),hr.mono ?_⟩
 rintro e' w' ⟨rfl,h⟩
 rw[hd]
 exact k w' h
end
theorem eval_put_eq{a:Act}{d:Nat}{v:Value}(h:d<a.tmps.size):(a.put (some d) v).eval (.tmp d)=v:=by
 simp[Act.put,Act.eval,h]
theorem eval_put_ne{a:Act}{d k:Nat}{v:Value}(h:k≠d):(a.put (some d) v).eval (.tmp k)=a.eval (.tmp k):=by
 simp[Act.put,Act.eval,Ne.symm h]
theorem size_put{a:Act}{d:Nat}{v:Value}:(a.put (some d) v).tmps.size=a.tmps.size:=by simp[Act.put]
structure St(n0:Nat)(ρ0:Rho)(w0:World)(l:Nat)(rec:Loop)(H:Hl)(ρ:Rho)(W:World):Prop where
 mem:HRel ρ W (fun b=>H[b]?)
 ext:Ext n0 ρ0 w0 ρ W
 rec_:W.heap[l]? = some (.loop rec)
 def_:W.heap[rec.defers]? = some (.deferred (some []))
theorem HRel.noLoop{ρ:Rho}{w:World}{g:Hp}(h:HRel ρ w g)(hb:∀ b F B,ρ b = .live B F→∃ k,g b=some k){l:Nat}{o:Obj}(hl:w.heap[l]? = some o)(ho:noRow o=true):∀ b F,ρ b ≠ .live l F:=by
 intro b F hr
 obtain⟨k,hk⟩:=hb b F l hr
 cases k with
 | dead=>rw[h.dead b hk] at hr;cases hr
 | set kd ks =>
  obtain⟨B,F',es,clock,h1,h2,_⟩:=h.sets b kd ks hk
  rw[h1] at hr
  cases hr
  rw[hl] at h2
  cases h2
  cases ho
 | cells cs =>
  rcases h.live b cs hk with ⟨hv,_⟩|⟨B,F',c,e,lo,hi,h1,h2,_⟩
  ·rw[hv] at hr;cases hr
  ·rw[h1] at hr
   cases hr
   rw[hl] at h2
   cases h2
   cases ho
theorem HRel.bound{ρ:Rho}{w:World}{H:Hl}(h:HRel ρ w (fun b=>H[b]?)):∀ b F B,ρ b = .live B F→∃ k,(fun b=>H[b]?) b=some k:=by
 intro b F B hr
 rcases Nat.lt_or_ge b H.length with hb|hb
 ·exact⟨H[b],List.getElem?_eq_getElem hb⟩
 ·have:=h.unborn b (List.getElem?_eq_none hb)
  rw[this] at hr;cases hr
theorem St.step{n0:Nat}{ρ0 ρ ρ':Rho}{w0 W W':World}{l:Nat}{rec:Loop}{H H':Hl}(h:St n0 ρ0 w0 l rec H ρ W)(h1:HRel ρ' W' (fun b=>H'[b]?))(E:Ext n0 ρ W ρ' W'):St n0 ρ0 w0 l rec H' ρ' W' where
 mem:=h1
 ext:=h.ext.trans E
 rec_:=(E.keep l (Array.getElem?_eq_some_iff.1 h.rec_).1 (h.mem.noLoop h.mem.bound h.rec_ rfl)).trans h.rec_
 def_:=(E.keep rec.defers (Array.getElem?_eq_some_iff.1 h.def_).1 (h.mem.noLoop h.mem.bound h.def_ rfl)).trans h.def_
theorem St.turn{n0:Nat}{ρ0 ρ:Rho}{w0 W:World}{l:Nat}{rec rec':Loop}{H:Hl}(h:St n0 ρ0 w0 l rec H ρ W)(hl:w0.heap.size≤l)(hd:rec'.defers=rec.defers):St n0 ρ0 w0 l rec' H ρ (W.putObj l (.loop rec')) where
 mem:=put_hrel h.rec_ rfl rfl h.mem
 ext:=put_ext h.rec_ rfl rfl hl h.ext
 rec_:=World.putObj_heap_same (Array.getElem?_eq_some_iff.1 h.rec_).1
 def_:=by
  have hne:rec'.defers≠l:=by
   intro e
   have h2:=h.def_
   rw[←hd,e,h.rec_] at h2
   cases h2
  rw[World.putObj_heap_other hne,hd]
  exact h.def_
theorem round_st{P:Program}{n0:Nat}{ρ0 ρ:Rho}{w0 W:World}{l:Nat}{rec:Loop}{tmps:Array Value}{fr fr1 fr2 fr3:Fr}{H H1 H2 H3:Hl}{lg1 lg2:List Nat}(hl:w0.heap.size≤l)(hready:rec.state = .ready)(hpend:rec.pending=none)
  (ha:Goes (rec.assign.wpIn (FR l) 0 P) n0 fr H [] .normal fr1 H1 lg1) (hb:Goes (rec.body.wpIn (FR l) 0 P) n0 fr1 H1 [] .normal fr2 H2 lg2) (hw:Weak n0 fr2 H2 fr3 H3)
  (h:St n0 ρ0 w0 l rec H ρ W) (hf:FRel ρ W fr tmps) :
  RoundIn Fence.wide 0 P l rec.fn tmps rec.assign rec.body W fun e W'=>e = .returned (.bool true)∧∃ ρ',St n0 ρ0 w0 l rec H3 ρ' W':=by
 refine roundIn_of_wpIn (F:=Fence.wide) (n:=0) trivial ?_
 refine ha.does ρ W { tmps:=tmps,defers := [] } _ h.mem hf fun a1 w1 ρ1 g1 f1 _ E1 => ?_
 have h1:=h.step g1 E1
 refine⟨_,run_beginRound h1.rec_ hready,?_⟩
 have h2:=h1.turn (rec' := { rec with state := .busy }) hl rfl
 have f2:FRel ρ1 (w1.putObj l (.loop { rec with state := .busy })) fr1 a1.tmps:=⟨f1.len,fun i x v hx hv=>put_rel h1.rec_ rfl rfl (f1.at_ i x v hx hv)⟩
 refine hb.does ρ1 _ a1 _ h2.mem f2 fun a2 w2 ρ2 g2 f3 _ E2 => ?_
 have h3:=h2.step g2 E2
 obtain⟨ρ3,g3,E3,_⟩:=hw.does ρ2 w2 g2
 have h4:=h3.step g3 E3
 refine⟨.bool true,_,run_endRound none h4.rec_,rfl,ρ3,?_⟩
 have h5:=h4.turn (rec' := { { rec with state := .busy } with state := .ready,pending:=none }) hl rfl
 have e:({ { rec with state := .busy } with state := .ready,pending:=none }:Loop)=rec:=by
  obtain⟨s,p,f,t,ps,az,bd,df⟩:=rec
  dsimp only at hready hpend
  subst hready;subst hpend
  rfl
 show St n0 ρ0 w0 l rec H3 ρ3 (w2.putObj l (.loop { { rec with state := .busy } with state:=if(none:Option Code).isNone then .ready else .done,pending:=none }))
 rw[e] at h5
 have e2:({ { rec with state := .busy } with state:=if(none:Option Code).isNone then .ready else .done,pending:=none }:Loop)=rec:=by
  obtain⟨s,p,f,t,ps,az,bd,df⟩:=rec
  dsimp only at hready hpend
  subst hready;subst hpend
  rfl
 rw[e2]
 exact h5
end
end Go.Vm

namespace Go.Proofs.Vm
set_option maxRecDepth 100000
open Go.Vm
noncomputable section
noncomputable def lc:Code→Code
 | .seq a _=>a
 | .block _ b=>b
 | .loop b=>b
 | c=>c
noncomputable def rc:Code→Code
 | .seq _ b=>b
 | c=>c
noncomputable def rgO:Code→Array Oper
 | .region _ o _=>o
 | _ => #[]
noncomputable def c105:Code:=Tryd.f55.body.getD .skip
noncomputable def a105:Array Oper:=rgO (lc c105)
noncomputable def l105:Code:=lc (lc (rc c105))
noncomputable def b105:Array Oper:=rgO (lc (lc l105))
noncomputable def d105:Array Oper:=rgO (lc (lc (lc (rc l105))))
noncomputable def e105:Array Oper:=rgO (rc (rc l105))
theorem body105:Tryd.f55.body=some (.seq (.region 0 a105 false) (.block 0 (.loop (.seq (.seq (.region 1 b105 false) (.cond (.tmp 8) .skip (.exit 0))) (.seq (.block 1 (.seq (.region 3 d105 false) (.cond (.tmp 18) .ret .skip))) (.region 2 e105 false)))))):=by kernel_rfl
noncomputable def opA(ops:Array Oper)(i:Nat):Oper:=ops.getD i default
theorem ex_ld1{H:Hl}{b o:Nat}{cs:List AV}{v:AV}{kd:Kd}(hb:H[b]? = some (.cells cs))(hv:cs[o]? = some v):ex (vcA kdNo noCn noLn) ops0 noCall H (.ld1 kd) [.ptr b o] fun r' H' t _=>r'=v∧H'=H∧t = []:=by
 show(match nth H b with
  | some (.cells cs)=>(match nth cs o with
   | some v'=>(v'=v∧H=H∧([]:List Nat) = [])
   | none=>False)
  | _=>False)
 rw[nth_eq,hb]
 show(match nth cs o with
   | some v'=>(v'=v∧H=H∧([]:List Nat) = [])
   | none=>False)
 rw[nth_eq,hv]
 exact⟨rfl,rfl,rfl⟩
theorem ex_ldn{H:Hl}{b o n:Nat}{cs:List AV}{v:List AV}(hb:H[b]? = some (.cells cs))(hl:o+n≤cs.length)(hv:(cs.drop o).take n=v):ex (vcA kdNo noCn noLn) ops0 noCall H (.ldn n) [.ptr b o] fun r' H' t _=>r' = .agg v∧H'=H∧t = []:=by
 show(match nth H b with
  | some (.cells cs)=>(match ops0.le (o+n) cs.length with
   | true=>(AV.agg ((cs.drop o).take n) = .agg v∧H=H∧([]:List Nat) = [])
   | false=>False)
  | _=>False)
 rw[nth_eq,hb]
 show(match ops0.le (o+n) cs.length with
   | true=>(AV.agg ((cs.drop o).take n) = .agg v∧H=H∧([]:List Nat) = [])
   | false=>False)
 rw[nLe,decide_eq_true hl]
 exact⟨by rw[hv],rfl,rfl⟩
theorem ex_ixS{H:Hl}{b o n c sz i:Nat}(hi:i<n):ex (vcA kdNo noCn noLn) ops0 noCall H (.ixS sz) [.slc b o n c sz,.int .i64 (Int.ofNat i)] fun r' H' t _=>r' = .ptr b (o+i*sz)∧H'=H∧t = []:=by
 show(match ops0.inr (Int.ofNat i) n with
  | true=>(AV.ptr b (o+i*sz) = .ptr b (o+i*sz)∧H=H∧([]:List Nat) = [])
  | false=>False)
 rw[nInr,decide_eq_true hi]
 exact⟨rfl,rfl,rfl⟩
theorem ex_cmp{H:Hl}{op:BinOp}{x y:Int}{b:Bool}(h:ops0.cmp op x y=b):ex (vcA kdNo noCn noLn) ops0 noCall H (.cmp op) [.int .i64 x,.int .i64 y] fun r' H' t _=>r' = .bool b∧H'=H∧t = []:=by
 show(match ops0.cmp op x y with
  | true=>(AV.bool true = .bool b∧H=H∧([]:List Nat) = [])
  | false=>(AV.bool false = .bool b∧H=H∧([]:List Nat) = []))
 rw[h]
 cases b<;>exact⟨rfl,rfl,rfl⟩
theorem ex_bin{H:Hl}{op:BinOp}{x y z:Int}(h:ops0.bin op .i64 x y=z):ex (vcA kdNo noCn noLn) ops0 noCall H (.bin op .i64) [.int .i64 x,.int .i64 y] fun r' H' t _=>r' = .int .i64 z∧H'=H∧t = [] :=
 ⟨by rw[h],rfl,rfl⟩
theorem ex_len{H:Hl}{b o n c sz:Nat}:ex (vcA kdNo noCn noLn) ops0 noCall H .len [.slc b o n c sz] fun r' H' t _=>r' = .int .i64 (Int.ofNat n)∧H'=H∧t = []:=⟨rfl,rfl,rfl⟩
theorem ex_not{H:Hl}:ex (vcA kdNo noCn noLn) ops0 noCall H .not [.bool true] fun r' H' t _=>r' = .bool false∧H'=H∧t = []:=⟨rfl,rfl,rfl⟩
theorem vr1{ρ:Rho}{w:World}{x:AV}{v:Value}(h:VRel ρ w x v):VRels ρ w [x] [v] := .cons h .nil
theorem vr2{ρ:Rho}{w:World}{x y:AV}{u v:Value}(h:VRel ρ w x u)(k:VRel ρ w y v):VRels ρ w [x,y] [u,v] := .cons h (.cons k .nil)
structure Back(H:Nat→Hl)(n0 bs bk n:Nat)(kcs:List AV):Prop where
 box:∀ j,j≤n→(H j)[bs]? = some (.cells [.slc bk 0 n n 32])
 keys:∀ j,j≤n→(H j)[bk]? = some (.cells kcs)
 len:n*32≤kcs.length
 bs_lt:bs<n0
 n_lt:n<4294967296
set_option maxRecDepth 100000 in
theorem iter105{H:Nat→Hl}{n0 bs bk n:Nat}{kcs:List AV}(hB:Back H n0 bs bk n kcs){ρ0:Rho}{w0:World}{l:Nat}{rec:Loop}{pv:Value}(hps:rec.params.size=2)
  (hpv:∀ ρ W,Ext n0 ρ0 w0 ρ W→VRel ρ W (.ptr bs 0) pv)
  (hround:∀ j,j<n→∀ ρ W kv,St n0 ρ0 w0 l rec (H j) ρ W→VRel ρ W (.agg ((kcs.drop ((n - 1 - j)*32)).take 32)) kv →
   RoundIn Fence.wide 0 Tryd.prog l rec.fn ((rec.params.zip #[.int .i64 (Int.ofNat (n - 1 - j)),kv]).foldl (fun t (p,v)=>t.setIfInBounds p v) rec.tmps) rec.assign rec.body W fun e W'=>e = .returned (.bool true)∧∃ ρ',St n0 ρ0 w0 l rec (H (j+1)) ρ' W')
  {ρ:Rho} {W:World} (h0:St n0 ρ0 w0 l rec (H 0) ρ W) :
  CallsIn Fence.wide 0 Tryd.prog 55 #[.func (.yield l) #[] #[],pv] W fun e W'=>(∃ v,e = .returned v)∧∃ ρ',St n0 ρ0 w0 l rec (H n) ρ' W':=by
 refine callsIn_of_wp Tryd.func55 body105 trivial ?_
 let I:Act→World→Prop:=fun a w=>a.tmps.size=19∧a.defers = []∧a.eval (.tmp 0) = .func (.yield l) #[] #[]∧a.eval (.tmp 1)=pv∧∃ j,j≤n∧a.eval (.tmp 3) = .int .i64 ((n:Int) - 1 - j)∧∃ ρ,St n0 ρ0 w0 l rec (H j) ρ w
 let μ:Act→World→Nat:=fun a _=>match a.eval (.tmp 3) with
  | .int _ z=>(z+1).toNat
  | _=>0
 have ra:List.range a105.size = [0,1,2,3]:=by kernel_rfl
 have rb:List.range b105.size = [0,1]:=by kernel_rfl
 have rd:List.range d105.size = [0,1,2,3,4,5,6,7]:=by kernel_rfl
 have re:List.range e105.size = [0,1,2]:=by kernel_rfl
 refine wpIn_seq (wpIn_region ?_)
 rw[ra]
 generalize hact:({ tmps := #[.func (.yield l) #[] #[],pv]++Array.replicate (Tryd.f55.ntmps - (#[Value.func (.yield l) #[] #[],pv]:Array Value).size) undef,defers := [] }:Act)=a0
 have hnt:Tryd.f55.ntmps=19:=by kernel_rfl
 have s0:a0.tmps.size=19:=by rw[←hact,hnt]; simp
 have d0:a0.defers = []:=by rw[←hact]
 have t0:a0.eval (.tmp 0) = .func (.yield l) #[] #[]:=by rw[←hact,hnt]; simp[Act.eval]
 have t1:a0.eval (.tmp 1)=pv:=by rw[←hact,hnt]; simp[Act.eval]
 clear hact
 refine op_quiet (o:=opA a105 0) (d:=4) (H:=H 0) (r := .slc bk 0 n n 32) (vo := .ld1 .slc) (xs := [.tmp 1]) (by kernel_rfl) (by kernel_rfl) (by kernel_rfl) (by kernel_rfl) rfl (ex_ld1 (hB.box 0 (Nat.zero_le _)) rfl) h0.mem (vr1 (by show VRel ρ W _ (a0.eval (.tmp 1)); rw[t1]; exact hpv ρ W h0.ext)) ?_
 intro v4 W4 ρ4 m4 x4 E4
 have h4:=h0.step m4 (E4 n0)
 refine op_quiet (o:=opA a105 1) (d:=5) (H:=H 0) (r := .int .i64 (Int.ofNat n)) (vo := .len) (xs := [.tmp 4]) (by kernel_rfl) (by kernel_rfl) (by kernel_rfl) (by kernel_rfl) rfl ex_len h4.mem (vr1 (by show VRel ρ4 W4 _ ((a0.put (some 4) v4).eval (.tmp 4)); rw[eval_put_eq (by omega)]; exact x4)) ?_
 intro v5 W5 ρ5 m5 x5 E5
 have h5:=h4.step m5 (E5 n0)
 have hv5:=inv_int x5
 subst hv5
 refine op_quiet (o:=opA a105 2) (d:=6) (H:=H 0) (r := .int .i64 ((n:Int) - 1)) (vo := .bin .sub .i64) (xs := [.tmp 5,.const (.int .i64 1)]) (by kernel_rfl) (by kernel_rfl) (by kernel_rfl) (by kernel_rfl) rfl (ex_bin (y:=1) (by
   show IntKind.i64.wrap (Int.ofNat n - 1)=_
   have:=hB.n_lt
   exact i64_wrap (by simp only[Int.ofNat_eq_natCast]; omega) (by simp only[Int.ofNat_eq_natCast]; omega))) h5.mem (vr2 (by show VRel ρ5 W5 _ (((a0.put (some 4) v4).put (some 5) _).eval (.tmp 5)); rw[eval_put_eq (by rw[size_put]; omega)]; exact .int _ _) (.int _ _)) ?_
 intro v6 W6 ρ6 m6 x6 E6
 have h6:=h5.step m6 (E6 n0)
 have hv6:=inv_int x6
 subst hv6
 refine op_move (o:=opA a105 3) (x := .tmp 6) (d:=3) (by kernel_rfl) (by kernel_rfl) (by kernel_rfl) (.inr (by kernel_rfl)) ?_
 generalize ha3:(((a0.put (some 4) v4).put (some 5) (.int .i64 (Int.ofNat n))).put (some 6) (.int .i64 ((n:Int) - 1)))=a3
 have e36:a3.eval (.tmp 6) = .int .i64 ((n:Int) - 1):=by rw[←ha3]; exact eval_put_eq (by rw[size_put,size_put]; omega)
 have e30:a3.eval (.tmp 0) = .func (.yield l) #[] #[]:=by rw[←ha3,eval_put_ne (by omega),eval_put_ne (by omega),eval_put_ne (by omega),t0]
 have e31:a3.eval (.tmp 1)=pv:=by rw[←ha3,eval_put_ne (by omega),eval_put_ne (by omega),eval_put_ne (by omega),t1]
 have s3:a3.tmps.size=19:=by rw[←ha3,size_put,size_put,size_put,s0]
 have d3:a3.defers = []:=by rw[←ha3]; exact d0
 rw[e36]
 show(Code.block 0 _).wpIn _ _ _ _ _ _
 refine wpIn_block (wpIn_loop I μ ⟨by rw[size_put]; exact s3,d3,by rw[eval_put_ne (by omega)]; exact e30,by rw[eval_put_ne (by omega)]; exact e31,0,Nat.zero_le _,by rw[eval_put_eq (by omega)]; simp,_,h6⟩ ?_)
 rintro a w ⟨sz,df,q0,q1,j,hj,q3,ρj,hst⟩
 refine wpIn_seq (wpIn_seq (wpIn_region ?_))
 rw[rb]
 refine op_move (o:=opA b105 0) (x := .tmp 3) (d:=7) (by kernel_rfl) (by kernel_rfl) (by kernel_rfl) (.inl (by kernel_rfl)) ?_
 rw[q3]
 have hcmp:ops0.cmp .geq ((n:Int) - 1 - j) (Int.ofNat 0)=decide (j<n):=by
  rw[nGeq']
  by_cases h:j<n
  ·rw[decide_eq_true h]; exact decide_eq_true (by simp only[Int.ofNat_eq_natCast]; omega)
  ·rw[decide_eq_false h]; exact decide_eq_false (by simp only[Int.ofNat_eq_natCast]; omega)
 refine op_quiet (o:=opA b105 1) (d:=8) (H:=H j) (r := .bool (decide (j<n))) (vo := .cmp .geq) (xs := [.tmp 7,.const (.int .i64 0)]) (by kernel_rfl) (by kernel_rfl) (by kernel_rfl) (by kernel_rfl) rfl (ex_cmp (y:=Int.ofNat 0) hcmp) hst.mem (vr2 (by show VRel ρj w _ ((a.put (some 7) _).eval (.tmp 7)); rw[eval_put_eq (by omega)]; exact .int _ _) (.int _ _)) ?_
 intro v8 W8 ρ8 m8 x8 E8
 have h8:=hst.step m8 (E8 n0)
 have hv8:=inv_bool x8
 subst hv8
 show(Code.cond (.tmp 8) .skip (.exit 0)).wpIn _ _ _ _ _ _
 have c8:((a.put (some 7) (.int .i64 ((n:Int) - 1 - j))).put (some 8) (.bool (decide (j<n)))).eval (.tmp 8) = .bool (decide (j<n)):=eval_put_eq (by rw[size_put]; omega)
 refine wpIn_cond c8 ?_
 by_cases hjn:j<n
 ·
  rw[decide_eq_true hjn,if_pos rfl]
  refine wpIn_skip ?_
  show(Code.seq _ _).wpIn _ _ _ _ _ _
  generalize hb:((a.put (some 7) (.int .i64 ((n:Int) - 1 - j))).put (some 8) (.bool true))=b0
  have sb:b0.tmps.size=19:=by rw[←hb,size_put,size_put,sz]
  have db:b0.defers = []:=by rw[←hb]; exact df
  have b00:b0.eval (.tmp 0) = .func (.yield l) #[] #[]:=by rw[←hb,eval_put_ne (by omega),eval_put_ne (by omega),q0]
  have b01:b0.eval (.tmp 1)=pv:=by rw[←hb,eval_put_ne (by omega),eval_put_ne (by omega),q1]
  have b03:b0.eval (.tmp 3) = .int .i64 (Int.ofNat (n - 1 - j)):=by
   rw[←hb,eval_put_ne (by omega),eval_put_ne (by omega),q3]
   congr 1
   simp only[Int.ofNat_eq_natCast]
   omega
  clear hb
  refine wpIn_seq (wpIn_block (wpIn_seq (wpIn_region ?_)))
  rw[rd]
  refine op_move (o:=opA d105 0) (x := .tmp 0) (d:=11) (by kernel_rfl) (by kernel_rfl) (by kernel_rfl) (.inl (by kernel_rfl)) ?_
  refine op_move (o:=opA d105 1) (x := .tmp 3) (d:=12) (by kernel_rfl) (by kernel_rfl) (by kernel_rfl) (.inl (by kernel_rfl)) ?_
  rw[eval_put_ne (by omega),b00,b03]
  generalize hb:((b0.put (some 11) (.func (.yield l) #[] #[])).put (some 12) (.int .i64 (Int.ofNat (n - 1 - j))))=b1
  have sb1:b1.tmps.size=19:=by rw[←hb,size_put,size_put,sb]
  have db1:b1.defers = []:=by rw[←hb]; exact db
  have b10:b1.eval (.tmp 0) = .func (.yield l) #[] #[]:=by rw[←hb,eval_put_ne (by omega),eval_put_ne (by omega),b00]
  have b11:b1.eval (.tmp 1)=pv:=by rw[←hb,eval_put_ne (by omega),eval_put_ne (by omega),b01]
  have b13:b1.eval (.tmp 3) = .int .i64 (Int.ofNat (n - 1 - j)):=by rw[←hb,eval_put_ne (by omega),eval_put_ne (by omega),b03]
  have bb1:b1.eval (.tmp 11) = .func (.yield l) #[] #[]:=by rw[←hb,eval_put_ne (by omega),eval_put_eq (by omega)]
  have bb2:b1.eval (.tmp 12) = .int .i64 (Int.ofNat (n - 1 - j)):=by rw[←hb,eval_put_eq (by rw[size_put]; omega)]
  clear hb
  refine op_quiet (o:=opA d105 2) (d:=13) (H:=H j) (r := .slc bk 0 n n 32) (vo := .ld1 .slc) (xs := [.tmp 1]) (by kernel_rfl) (by kernel_rfl) (by kernel_rfl) (by kernel_rfl) rfl (ex_ld1 (hB.box j hj) rfl) h8.mem (vr1 (by show VRel ρ8 W8 _ (b1.eval (.tmp 1)); rw[b11]; exact hpv ρ8 W8 h8.ext)) ?_
  intro v13 W13 ρ13 m13 x13 E13
  have h13:=h8.step m13 (E13 n0)
  refine op_move (o:=opA d105 3) (x := .tmp 3) (d:=14) (by kernel_rfl) (by kernel_rfl) (by kernel_rfl) (.inl (by kernel_rfl)) ?_
  rw[eval_put_ne (by omega),b13]
  refine op_quiet (o:=opA d105 4) (d:=15) (H:=H j) (r := .ptr bk (0+(n - 1 - j)*32)) (vo := .ixS 32) (xs := [.tmp 13,.tmp 14]) (by kernel_rfl) (by kernel_rfl) (by kernel_rfl) (by kernel_rfl) rfl (ex_ixS (b:=bk) (o:=0) (n:=n) (c:=n) (i:=n - 1 - j) (by omega)) h13.mem (vr2
   (by show VRel ρ13 W13 _ (((b1.put (some 13) v13).put (some 14) _).eval (.tmp 13)); rw[eval_put_ne (by omega),eval_put_eq (by omega)]; exact x13)
   (by show VRel ρ13 W13 _ (((b1.put (some 13) v13).put (some 14) _).eval (.tmp 14)); rw[eval_put_eq (by rw[size_put]; omega)]; exact .int _ _)) ?_
  intro v15 W15 ρ15 m15 x15 E15
  have h15:=h13.step m15 (E15 n0)
  have hlen:=hB.len
  refine op_quiet (o:=opA d105 5) (d:=16) (H:=H j) (r := .agg ((kcs.drop ((n - 1 - j)*32)).take 32)) (vo := .ldn 32) (xs := [.tmp 15]) (by kernel_rfl) (by kernel_rfl) (by kernel_rfl) (by kernel_rfl) rfl (ex_ldn (o:=0+(n - 1 - j)*32) (hB.keys j hj) (by omega) (by rw[Nat.zero_add])) h15.mem (vr1
   (by show VRel ρ15 W15 _ ((((b1.put (some 13) v13).put (some 14) _).put (some 15) v15).eval (.tmp 15)); rw[eval_put_eq (by rw[size_put,size_put]; omega)]; exact x15)) ?_
  intro v16 W16 ρ16 m16 x16 E16
  have h16:=h15.step m16 (E16 n0)
  generalize hb:((((b1.put (some 13) v13).put (some 14) (.int .i64 (Int.ofNat (n - 1 - j)))).put (some 15) v15).put (some 16) v16)=b2
  have sb2:b2.tmps.size=19:=by rw[←hb,size_put,size_put,size_put,size_put,sb1]
  have db2:b2.defers = []:=by rw[←hb]; exact db1
  have b20:b2.eval (.tmp 0) = .func (.yield l) #[] #[]:=by rw[←hb,eval_put_ne (by omega),eval_put_ne (by omega),eval_put_ne (by omega),eval_put_ne (by omega),b10]
  have b21:b2.eval (.tmp 1)=pv:=by rw[←hb,eval_put_ne (by omega),eval_put_ne (by omega),eval_put_ne (by omega),eval_put_ne (by omega),b11]
  have b23:b2.eval (.tmp 3) = .int .i64 (Int.ofNat (n - 1 - j)):=by rw[←hb,eval_put_ne (by omega),eval_put_ne (by omega),eval_put_ne (by omega),eval_put_ne (by omega),b13]
  have b2b:b2.eval (.tmp 11) = .func (.yield l) #[] #[]:=by rw[←hb,eval_put_ne (by omega),eval_put_ne (by omega),eval_put_ne (by omega),eval_put_ne (by omega),bb1]
  have b2c:b2.eval (.tmp 12) = .int .i64 (Int.ofNat (n - 1 - j)):=by rw[←hb,eval_put_ne (by omega),eval_put_ne (by omega),eval_put_ne (by omega),eval_put_ne (by omega),bb2]
  have b2d:b2.eval (.tmp 16)=v16:=by rw[←hb,eval_put_eq (by rw[size_put,size_put,size_put]; omega)]
  clear hb
  refine op_yield (o:=opA d105 6) (f := .tmp 11) (x := .tmp 12) (y := .tmp 16) (ts := #[3,24]) (d:=17) (l:=l) (rec:=rec) (S:=fun W'=>∃ ρ',St n0 ρ0 w0 l rec (H (j+1)) ρ' W') (by kernel_rfl) (by kernel_rfl) (by kernel_rfl) (by kernel_rfl) b2b h16.rec_ hps
   (by rw[b2c,b2d]; exact hround j hjn ρ16 W16 v16 h16 x16) ?_
  rintro W17 ⟨ρ17,h17⟩
  refine op_quiet (o:=opA d105 7) (d:=18) (H:=H (j+1)) (r := .bool false) (vo := .not) (xs := [.tmp 17]) (by kernel_rfl) (by kernel_rfl) (by kernel_rfl) (by kernel_rfl) rfl ex_not h17.mem (vr1 (by show VRel ρ17 W17 _ ((b2.put (some 17) _).eval (.tmp 17)); rw[eval_put_eq (by omega)]; exact .bool _)) ?_
  intro v18 W18 ρ18 m18 x18 E18
  have h18:=h17.step m18 (E18 n0)
  have hv18:=inv_bool x18
  subst hv18
  show(Code.cond (.tmp 18) .ret .skip).wpIn _ _ _ _ _ _
  refine wpIn_cond_false (eval_put_eq (by rw[size_put]; omega)) (wpIn_skip ?_)
  show(Code.region 2 e105 false).wpIn _ _ _ _ _ _
  generalize hb:((b2.put (some 17) (.bool true)).put (some 18) (.bool false))=b3
  have sb3:b3.tmps.size=19:=by rw[←hb,size_put,size_put,sb2]
  have db3:b3.defers = []:=by rw[←hb]; exact db2
  have b30:b3.eval (.tmp 0) = .func (.yield l) #[] #[]:=by rw[←hb,eval_put_ne (by omega),eval_put_ne (by omega),b20]
  have b31:b3.eval (.tmp 1)=pv:=by rw[←hb,eval_put_ne (by omega),eval_put_ne (by omega),b21]
  have b33:b3.eval (.tmp 3) = .int .i64 (Int.ofNat (n - 1 - j)):=by rw[←hb,eval_put_ne (by omega),eval_put_ne (by omega),b23]
  clear hb
  refine wpIn_region ?_
  rw[re]
  refine op_move (o:=opA e105 0) (x := .tmp 3) (d:=9) (by kernel_rfl) (by kernel_rfl) (by kernel_rfl) (.inl (by kernel_rfl)) ?_
  rw[b33]
  refine op_quiet (o:=opA e105 1) (d:=10) (H:=H (j+1)) (r := .int .i64 ((n:Int) - 1 - ((j+1:Nat):Int))) (vo := .bin .sub .i64) (xs := [.tmp 9,.const (.int .i64 1)]) (by kernel_rfl) (by kernel_rfl) (by kernel_rfl) (by kernel_rfl) rfl (ex_bin (y:=1) (by
    show IntKind.i64.wrap (Int.ofNat (n - 1 - j) - 1)=_
    have:=hB.n_lt
    rw[i64_wrap (by simp only[Int.ofNat_eq_natCast]; omega) (by simp only[Int.ofNat_eq_natCast]; omega)]
    simp only[Int.ofNat_eq_natCast]
    omega)) h18.mem (vr2 (by show VRel ρ18 W18 _ ((b3.put (some 9) _).eval (.tmp 9)); rw[eval_put_eq (by omega)]; exact .int _ _) (.int _ _)) ?_
  intro v10 W10 ρ10 m10 x10 E10
  have h10:=h18.step m10 (E10 n0)
  have hv10:=inv_int x10
  subst hv10
  refine op_move (o:=opA e105 2) (x := .tmp 10) (d:=3) (by kernel_rfl) (by kernel_rfl) (by kernel_rfl) (.inr (by kernel_rfl)) ?_
  rw[eval_put_eq (by rw[size_put]; omega)]
  refine⟨⟨by rw[size_put,size_put,size_put]; exact sb3,db3,by rw[eval_put_ne (by omega),eval_put_ne (by omega),eval_put_ne (by omega)]; exact b30,by rw[eval_put_ne (by omega),eval_put_ne (by omega),eval_put_ne (by omega)]; exact b31,j+1,hjn,by rw[eval_put_eq (by rw[size_put,size_put]; omega)],_,h10⟩,?_⟩
  show μ _ W10<μ a w
  have m1:μ a w=n - j:=by
   show(match a.eval (.tmp 3) with
    | .int _ z=>(z+1).toNat
    | _=>0)=_
   rw[q3]
   show(((n:Int) - 1 - j)+1).toNat=_
   omega
  have m2:∀ (x:Act) W,x.eval (.tmp 3) = .int .i64 ((n:Int) - 1 - ((j+1:Nat):Int))→μ x W=n - (j+1):=by
   intro x W h
   show(match x.eval (.tmp 3) with
    | .int _ z=>(z+1).toNat
    | _=>0)=_
   rw[h]
   show(((n:Int) - 1 - ((j+1:Nat):Int))+1).toNat=_
   omega
  rw[m1,m2 _ W10 (eval_put_eq (by rw[size_put,size_put]; omega))]
  omega
 ·
  rw[decide_eq_false hjn,if_neg (by simp)]
  refine wpIn_exit ?_
  have hjn:j=n:=by omega
  subst hjn
  simp only[Exit.then,Exit.inBlock,if_true]
  have hres:(results Tryd.f55 (((a.put (some 7) (.int .i64 ((j:Int) - 1 - j))).put (some 8) (.bool false))).tmps).run Tryd.prog W8 = .ok (.tuple #[]) W8:=by
   have:Tryd.f55.results = #[]:=by kernel_rfl
   simp[results,this]
  exact⟨df,_,hres,⟨_,rfl⟩,_,h8⟩
end
end Go.Proofs.Vm
