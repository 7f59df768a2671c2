/-
  SHARE, PART 9: share.Check, its loop and its contract.
-/
import Derived.Test.YtfmhlogapbpnbaaYsak
import Derived.Test.YtfmhlogapbpnbaaYsaj
import Derived.Test.YtfmhlogapbpnbaaRows
import Derived.ProofKit
import Derived.OpenShut
import Derived.JoinedCond
import Derived.Test.YtfmhlogapbpnbaaYsaf

namespace Go.Proofs.Vm
set_option maxRecDepth 100000
open Go.Vm
noncomputable section
def fr58r:Fr := [.top,.top,.top,.top,.top,.top,.top,.top,.nils,.bool false,.top,.top,.top,.top,.top,.top,.top,.top,.top,.top,.top,.top,.top,.top,.top,.top,.top,.top,.top,.top,.top,.top,.top,.top,.top,.top,.top,.top,.top,.top,.top,.top,.top,.top,.top,.top,.top,.top,.top,.top,.top,.top,.top,.top,.top,.top,.top,.top,.top,.top,.top,.top,.top,.top,.top,.top,.top,.top,.top,.top,.top,.top,.top,.top,.top,.top]
def mk58r:List Bool := [true,true,true,true,true,true,true,true,false,false,true,true,true,true,true,true,true,true,true,true,true,true,true,true,true,true,true,true,true,true,true,true,true,true,true,true,true,true,true,true,true,true,true,true,true,true,true,true,true,true,true,true,true,true,true,true,true,true,true,true,true,true,true,true,true,true,true,true,true,true,true,true,true,true,true,true]
def fr58x(n:Nat):Fr := [.top,.top,.top,.top,.top,.top,.top,.top,.top,.top,.top,.top,.top,.slc 0 0 n n 32,.top,.top,.top,.top,.top,.top,.top,.top,.top,.top,.top,.top,.top,.top,.top,.top,.top,.top,.top,.top,.top,.top,.top,.top,.top,.top,.top,.top,.top,.top,.top,.top,.top,.top,.top,.top,.top,.top,.top,.top,.top,.top,.top,.top,.top,.top,.top,.top,.top,.top,.top,.top,.top,.top,.top,.top,.top,.top,.top,.top,.top,.top]
def mk58x:List Bool := [true,true,true,true,true,true,true,true,true,true,true,true,true,false,true,true,true,true,true,true,true,true,true,true,true,true,true,true,true,true,true,true,true,true,true,true,true,true,true,true,true,true,true,true,true,true,true,true,true,true,true,true,true,true,true,true,true,true,true,true,true,true,true,true,true,true,true,true,true,true,true,true,true,true,true,true]
def P58(ss rs hs:List AV)(q n:Nat)(ds:List AV)(p:Nat):Prop:=PKey ss/\PKey rs/\PSh hs q n/\PIx ds p n/\1<=n/\n<=16
structure CK where
 ok:List AV->List AV->List AV->Nat->Nat->List AV->Nat->Bool
 sec:List AV->List AV->Nat->List AV->Nat->List AV
def ln58(K:CK):LnF:=fun n0 b fr H=>match slot fr 3,slot fr 40,slot fr 13,H with
 | .ros hs q _ c3 e3,.ros ds p n c2 e2,.nils,[.cells ss,.cells rs,.set .i64 []]=>some (n0=0/\VCis b lp58/\forget mk58 fr=fr58 hs q n c3 e3 ds p c2 e2 .nils 0/\P58 ss rs hs q n ds p,
  .cond (K.ok ss rs hs q n ds p) (.ok (.exit 0) (fr58x n) [.cells (K.sec ss rs n ds p)]) (.ok .ret fr58r []))
 | _,_,_,_=>none
theorem vc58(Y:JY)(S:JX)(F:HF)(K:CK)(ss cs:List AV)(o n c:Nat)(e:Bool)(ds:List AV)(p c2:Nat)(e2:Bool)(hs:List AV)(q c3:Nat)(e3:Bool)(Q:AV->Hl->Prop) :
  (vcall (vcA kdYes (cnJ3 S Y F) (ln58 K)) ops0 (tab81 58 vf58) 200 vf58 [.agg ss,.ros cs o n c e,.ros ds p n c2 e2,.ros hs q n c3 e3] [] (fun r H _=>Q r H)) =
 ((Br (ops0.cmp .lss (ops0.ofn n) (Int.ofNat 1))
 (Q (.tup [.nils,(.bool Bool.false)]) [(.cells ss)])
 (Br (ops0.cmp .gtr (ops0.ofn n) (Int.ofNat 16))
 (Q (.tup [.nils,(.bool Bool.false)]) [(.cells ss)])
 (Br (ops0.cmp .neq (ops0.ofn n) (ops0.ofn n))
 (Q (.tup [.nils,(.bool Bool.false)]) [(.cells ss)])
 (Br (ops0.cmp .neq (ops0.ofn n) (ops0.ofn n))
 (Q (.tup [.nils,(.bool Bool.false)]) [(.cells ss)])
 ((PSh cs o n) /\
 (Chk (ops0.eq (ops0.len (JX.jn S cs o n)) 32)
 ((((0:Nat)=0) /\
 ((VCis lp58 lp58) /\
 ((((tp 3 ((.ros hs q n c3 e3)::(.ptr 0 0)::tp 3 (.nils::(.bool Bool.false) :: .top::(.ptr 1 0)::(.mp 2) :: .nils::tp 26 ((.ros ds p n c2 e2)::(.int .i64 (ops0.ofn n))::(.int .i64 (.ofNat 0))::tp 33 ([]))))):Fr)=(tp 3 ((.ros hs q n c3 e3)::(.ptr 0 0)::tp 3 (.nils::(.bool Bool.false) :: .top::(.ptr 1 0)::(.mp 2) :: .nils::tp 26 ((.ros ds p n c2 e2)::(.int .i64 (.ofNat n))::(.int .i64 (.ofNat 0))::tp 33 ([])))))) /\
 (P58 ss (ops0.spl (z8 32) 0 (JX.jn S cs o n)) hs q n ds p)))) /\
 (Br (CK.ok K ss (ops0.spl (z8 32) 0 (JX.jn S cs o n)) hs q n ds p)
 (Q (.tup [(.slc 0 0 n n 32),(.bool Bool.true)]) [(.cells (CK.sec K ss (ops0.spl (z8 32) 0 (JX.jn S cs o n)) n ds p))])
 (Q (.tup [.nils,(.bool Bool.false)]) [])))))))))):=by kernel_rfl
theorem q5a{P:Program}{g:Kd->Bool}{C:CnF}(hC:CnOK P C){E:LnF}(hE:LnOK P E){T:Nat->Option VF}(hT:∀ f vf,T f=some vf->FnOK P f vf){n n0:Nat}{b:VC}{fr fr0:Fr}{H H0:Hl}{ex0:Ex}{bs:List Bool}{Q:Ex->Fr->Hl->Prop}
  (h:vm (vcA g C E) ops0 T n n0 b fr H [] (bodyX bs Q)) (h0:n0<=H.length) (hw:∀ ex fr1 H1,n0<=H1.length->Q ex fr1 H1->ex=ex0/\Weak n0 fr1 H1 fr0 H0):qap P n0 b fr H ex0 fr0 H0:=by
 intro c hc
 subst hc
 obtain⟨ex,fr1,H1,lg1,hg,e⟩:=(qdy (qct hC hE) hT n).1 c n0 fr H [] _ h0 h
 obtain⟨rfl,hk⟩:=hw ex (forget bs fr1) H1 hg.grow e
 exact⟨_,hg.post ((Weak.forget hg.grow bs).trans hk)⟩
section
variable {R S:List UInt8}{hs:List AV}{q n:Nat}{ds:List AV}{p:Nat}{I:List Int}{HL:List (List UInt8)}
theorem q6u{σ:Nat->Option Nat}{φ:Nat->Option (List AV)}{b:Nat}(h0:σ 0=some 0)(h1:σ 1=some 1)(h2:σ 2=some 2)(hb:σ b=some 3)(hh:flatL hs)(hd:flatL ds)(c3:Nat)(e3:Bool)(c2:Nat)(e2:Bool)(k i:Nat) :
  forget mk58 (renL σ φ true (fr58 hs q n c3 e3 ds p c2 e2 (.slc b 0 k k 32) i))=fr58 hs q n c3 e3 ds p c2 e2 (.slc 3 0 k k 32) i:=by
 unfold fr58 mk58
 simp only[renL,ren,h0,h1,h2,hb,forget,qaa hh,qaa hd]
theorem q79(c:C58 R S hs q n ds p I HL)(c3:Nat)(e3:Bool)(c2:Nat)(e2:Bool){i:Nat}(hi:i<n)(hok:okH R S I HL i=true) :
  qap Try.prog 0 lp58 (fr58 hs q n c3 e3 ds p c2 e2 (x58 3 i) i) (H58 R S I i) .norm (fr58 hs q n c3 e3 ds p c2 e2 (x58 3 (i+1)) (i+1)) (H58 R S I (i+1)):=by
 obtain⟨x,y,hx,hy,_⟩:=c.at_ hi
 have hok:hshL R S x=y:=by
  have h:=of_decide_eq_true hok
  rw[List.getD_eq_getElem?_getD,List.getD_eq_getElem?_getD,hx,hy] at h
  exact h
 have hv:=vm58 c c3 e3 c2 e2 hi hx hy (fun ex fr H=>ex = .norm/\((i=0/\∃ X,fr=fr58 hs q n c3 e3 ds p c2 e2 (.slc 4 0 1 1 32) (i+1)/\H = [.cells (S.map by8),.cells (R.map by8),.set .i64 (I.take (i+1)),.cells X,.cells ((secsL R S I (i+1)).flatten.map by8)]) ∨
   (i≠0/\∃ X,fr=fr58 hs q n c3 e3 ds p c2 e2 (.slc 5 0 (i+1) (i+1) 32) (i+1)/\H = [.cells (S.map by8),.cells (R.map by8),.set .i64 (I.take (i+1)),.dead,.cells X,.cells ((secsL R S I (i+1)).flatten.map by8)])))
  (fun _ h0 X=>⟨rfl,.inl ⟨h0,X,rfl,rfl⟩⟩) (fun _ h0 X=>⟨rfl,.inr ⟨h0,X,rfl,rfl⟩⟩) (fun h=>absurd hok h)
 refine q5a q46 (qai _) (q48 ok58) hv (Nat.zero_le _) fun ex fr1 H1 _ hq => ?_
 obtain⟨rfl,hq⟩:=hq
 refine⟨rfl,?_⟩
 have e0:x58 3 (i+1) = .slc 3 0 (i+1) (i+1) 32:=if_neg (by omega)
 have eH:H58 R S I (i+1) = [.cells (S.map by8),.cells (R.map by8),.set .i64 (I.take (i+1)),.cells ((secsL R S I (i+1)).flatten.map by8)]:=by unfold H58 o58;rw[if_neg (by omega)]; rfl
 rw[e0,eH]
 rcases hq with ⟨hi0,X,rfl,rfl⟩|⟨_,X,rfl,rfl⟩
 ·subst hi0
  have h3:=Weak.pickV (n0:=0) (fr:=fr58 hs q n c3 e3 ds p c2 e2 (.slc 4 0 1 1 32) (0+1)) (H := [.cells (S.map by8),.cells (R.map by8),.set .i64 (I.take (0+1)),.cells X,.cells ((secsL R S I (0+1)).flatten.map by8)]) [0,1,2,4] mk58 0 (by simp) (by simp) (by simp)
  rw[q6u (show pickN [0,1,2,4] 0=some 0 from rfl) (show pickN [0,1,2,4] 1=some 1 from rfl) (show pickN [0,1,2,4] 2=some 2 from rfl) (show pickN [0,1,2,4] 4=some 3 from rfl) c.hf c.df] at h3
  have e4:pickH (viewF [.cells (S.map by8),.cells (R.map by8),.set .i64 (I.take (0+1)),.cells X,.cells ((secsL R S I (0+1)).flatten.map by8)] [0,1,2,4] 0) [0,1,2,4] [.cells (S.map by8),.cells (R.map by8),.set .i64 (I.take (0+1)),.cells X,.cells ((secsL R S I (0+1)).flatten.map by8)] = [.cells (S.map by8),.cells (R.map by8),.set .i64 (I.take (0+1)),.cells ((secsL R S I (0+1)).flatten.map by8)]:=by
   show [renB _ _ true (.cells _),renB _ _ true (.cells _),renB _ _ true (.set _ _),renB _ _ true (.cells _)]=_
   simp only[renB,qaa (qac _)]
  rw[e4] at h3
  exact h3
 ·have h3:=Weak.pickV (n0:=0) (fr:=fr58 hs q n c3 e3 ds p c2 e2 (.slc 5 0 (i+1) (i+1) 32) (i+1)) (H := [.cells (S.map by8),.cells (R.map by8),.set .i64 (I.take (i+1)),.dead,.cells X,.cells ((secsL R S I (i+1)).flatten.map by8)]) [0,1,2,5] mk58 0 (by simp) (by simp) (by simp)
  rw[q6u (show pickN [0,1,2,5] 0=some 0 from rfl) (show pickN [0,1,2,5] 1=some 1 from rfl) (show pickN [0,1,2,5] 2=some 2 from rfl) (show pickN [0,1,2,5] 5=some 3 from rfl) c.hf c.df] at h3
  have e4:pickH (viewF [.cells (S.map by8),.cells (R.map by8),.set .i64 (I.take (i+1)),.dead,.cells X,.cells ((secsL R S I (i+1)).flatten.map by8)] [0,1,2,5] 0) [0,1,2,5] [.cells (S.map by8),.cells (R.map by8),.set .i64 (I.take (i+1)),.dead,.cells X,.cells ((secsL R S I (i+1)).flatten.map by8)] = [.cells (S.map by8),.cells (R.map by8),.set .i64 (I.take (i+1)),.cells ((secsL R S I (i+1)).flatten.map by8)]:=by
   show [renB _ _ true (.cells _),renB _ _ true (.cells _),renB _ _ true (.set _ _),renB _ _ true (.cells _)]=_
   simp only[renB,qaa (qac _)]
  rw[e4] at h3
  exact h3
theorem q61(c3:Nat)(e3:Bool)(c2:Nat)(e2:Bool)(x:AV)(i:Nat)(H:Hl):Weak 0 (fr58 hs q n c3 e3 ds p c2 e2 x i) H fr58r []:=by
 have h3:=Weak.pickV (n0:=0) (fr:=fr58 hs q n c3 e3 ds p c2 e2 x i) (H:=H) [] mk58r 0 (by simp) (by simp) (by simp)
 have e1:Go.Vm.forget mk58r (renL (pickN []) (viewF H [] 0) true (fr58 hs q n c3 e3 ds p c2 e2 x i))=fr58r:=by
  unfold fr58 mk58r fr58r
  simp only[renL,ren,forget]
 rw[e1] at h3
 exact h3
theorem q81(c:C58 R S hs q n ds p I HL)(c3:Nat)(e3:Bool)(c2:Nat)(e2:Bool){i:Nat}(hi:i<n)(hok:okH R S I HL i=false) :
  qap Try.prog 0 lp58 (fr58 hs q n c3 e3 ds p c2 e2 (x58 3 i) i) (H58 R S I i) .ret fr58r []:=by
 obtain⟨x,y,hx,hy,_⟩:=c.at_ hi
 have hok:hshL R S x≠y:=by
  have h:=of_decide_eq_false hok
  rw[List.getD_eq_getElem?_getD,List.getD_eq_getElem?_getD,hx,hy] at h
  exact h
 have hv:=vm58 c c3 e3 c2 e2 hi hx hy (fun ex fr H=>ex = .ret/\fr=fr58 hs q n c3 e3 ds p c2 e2 (x58 3 i) i) (fun h=>absurd h hok) (fun h=>absurd h hok) (fun _ X=>⟨rfl,rfl⟩)
 refine q5a q46 (qai _) (q48 ok58) hv (Nat.zero_le _) fun ex fr1 H1 _ hq => ?_
 obtain⟨rfl,rfl⟩:=hq
 exact⟨rfl,q61 c3 e3 c2 e2 _ i H1⟩
theorem q8y(c:C58 R S hs q n ds p I HL)(c3:Nat)(e3:Bool)(c2:Nat)(e2:Bool) :
  qap Try.prog 0 lp58 (fr58 hs q n c3 e3 ds p c2 e2 (x58 3 n) n) (H58 R S I n) (.exit 0) (fr58x n) [.cells ((secsL R S I n).flatten.map by8)]:=by
 have n1:=c.n1
 have e0:x58 3 n = .slc 3 0 n n 32:=if_neg (by omega)
 have eH:H58 R S I n = [.cells (S.map by8),.cells (R.map by8),.set .i64 (I.take n),.cells ((secsL R S I n).flatten.map by8)]:=by unfold H58 o58;rw[if_neg (by omega)]; rfl
 rw[e0,eH]
 refine q5a (Q:=fun ex fr H=>ex = .exit 0/\fr=fr58 hs q n c3 e3 ds p c2 e2 (.slc 3 0 n n 32) n/\H = [.cells (S.map by8),.cells (R.map by8),.set .i64 (I.take n),.cells ((secsL R S I n).flatten.map by8)]) (bs:=mk58) (n:=100) (g:=kdYes) q46 (qai _) (q48 ok58) ?_ (Nat.zero_le _) fun ex fr1 H1 _ hq => ?_
 ·rw[q75,nLss]
  exact Br.f (decide_eq_false (by omega)) ⟨rfl,rfl,rfl⟩
 ·obtain⟨rfl,rfl,rfl⟩:=hq
  refine⟨rfl,?_⟩
  have h3:=Weak.pickV (n0:=0) (fr:=fr58 hs q n c3 e3 ds p c2 e2 (.slc 3 0 n n 32) n) (H := [.cells (S.map by8),.cells (R.map by8),.set .i64 (I.take n),.cells ((secsL R S I n).flatten.map by8)]) [3] mk58x 0 (by simp) (by simp) (by simp)
  have e1:Go.Vm.forget mk58x (renL (pickN [3]) (viewF [.cells (S.map by8),.cells (R.map by8),.set .i64 (I.take n),.cells ((secsL R S I n).flatten.map by8)] [3] 0) true (fr58 hs q n c3 e3 ds p c2 e2 (.slc 3 0 n n 32) n))=fr58x n:=by
   have h:pickN [3] 3=some 0:=rfl
   unfold fr58 mk58x fr58x
   simp only[renL,ren,h,forget]
  have e4:pickH (viewF [.cells (S.map by8),.cells (R.map by8),.set .i64 (I.take n),.cells ((secsL R S I n).flatten.map by8)] [3] 0) [3] [.cells (S.map by8),.cells (R.map by8),.set .i64 (I.take n),.cells ((secsL R S I n).flatten.map by8)] = [.cells ((secsL R S I n).flatten.map by8)]:=by
   show [renB _ _ true (.cells _)]=_
   simp only[renB,qaa (qac _)]
  rw[e1,e4] at h3
  exact h3
def fstB(h:Nat->Bool):Nat->Nat->Nat
 | i,0=>i
 | i,d+1=>match h i with
  | true=>fstB h (i+1) d
  | false=>i
theorem q5e(h:Nat->Bool):∀ (d i:Nat),i<=fstB h i d/\fstB h i d<=i+d/\(∀ j,i<=j->j<fstB h i d->h j=true)/\(fstB h i d<i+d->h (fstB h i d)=false)
 | 0,i=>⟨Nat.le_refl _,Nat.le_refl _,fun j h1 h2=>by simp only[fstB] at h2;omega,fun h=>by simp only[fstB] at h;omega⟩
 | d+1,i=>by
  obtain⟨h1,h2,h3,h4⟩:=q5e h d (i+1)
  cases hi:h i with
  | true =>
   simp only[fstB,hi]
   refine⟨by omega,by omega,fun j k1 k2 => ?_,fun hl=>h4 (by omega)⟩
   rcases Nat.eq_or_lt_of_le k1 with rfl|k1
   ·exact hi
   ·exact h3 j k1 k2
  | false =>
   simp only[fstB,hi]
   exact⟨Nat.le_refl _,by omega,fun j k1 k2=>by omega,fun _=>by first|exact hi|trivial⟩
def allB(R S:List UInt8)(I:List Int)(HL:List (List UInt8))(n:Nat):Bool:=decide (fstB (okH R S I HL) 0 n=n)
theorem q9u(c:C58 R S hs q n ds p I HL)(c3:Nat)(e3:Bool)(c2:Nat)(e2:Bool)(ha:allB R S I HL n=true):∀ lg,qam Try.prog 0 lp58 (fr58 hs q n c3 e3 ds p c2 e2 .nils 0) [.cells (S.map by8),.cells (R.map by8),.set .i64 []] lg (.exit 0) (fr58x n) [.cells ((secsL R S I n).flatten.map by8)] (List.range 0++lg):=by
 intro lg
 have ha:fstB (okH R S I HL) 0 n=n:=of_decide_eq_true ha
 obtain⟨_,_,h3,_⟩:=q5e (okH R S I HL) n 0
 rw[ha] at h3
 have h:=qal (P:=Try.prog) (n0:=0) (b:=lp58) (ex := .exit 0) (fr':=fr58x n) (H' := [.cells ((secsL R S I n).flatten.map by8)]) (by intro h;cases h) (fun i=>(fr58 hs q n c3 e3 ds p c2 e2 (x58 3 i) i,H58 R S I i)) n 0 (fun j _ hj=>q79 c c3 e3 c2 e2 (by omega) (h3 j (Nat.zero_le _) (by omega))) (by rw[Nat.zero_add]; exact q8y c c3 e3 c2 e2) lg
 exact h
theorem q8m(c:C58 R S hs q n ds p I HL)(c3:Nat)(e3:Bool)(c2:Nat)(e2:Bool)(ha:allB R S I HL n=false):∀ lg,qam Try.prog 0 lp58 (fr58 hs q n c3 e3 ds p c2 e2 .nils 0) [.cells (S.map by8),.cells (R.map by8),.set .i64 []] lg .ret fr58r [] (List.range 0++lg):=by
 intro lg
 have ha:fstB (okH R S I HL) 0 n≠n:=of_decide_eq_false ha
 obtain⟨_,h2,h3,h4⟩:=q5e (okH R S I HL) n 0
 have h:=qal (P:=Try.prog) (n0:=0) (b:=lp58) (ex := .ret) (fr':=fr58r) (H' := []) (by intro h;cases h) (fun i=>(fr58 hs q n c3 e3 ds p c2 e2 (x58 3 i) i,H58 R S I i)) (fstB (okH R S I HL) 0 n) 0 (fun j _ hj=>q79 c c3 e3 c2 e2 (by omega) (h3 j (Nat.zero_le _) (by omega))) (by rw[Nat.zero_add]; exact q81 c c3 e3 c2 e2 (by omega) (h4 (by omega))) lg
 exact h
end
def ixA(ds:List AV)(p n:Nat):List Int:=(List.range n).map fun j=>match ds[p+j]? with
 | some (.int _ x)=>x
 | _=>0
theorem q77{ds:List AV}{p n:Nat}{I:List Int}(h:IxAt ds p n I):ixA ds p n=I:=by
 apply List.ext_getElem?
 intro j
 unfold ixA
 rw[List.getElem?_map]
 by_cases hj:j<n
 ·have hl:j<I.length:=by rw[h.1]; exact hj
  rw[List.getElem?_range hj,List.getElem?_eq_getElem hl,Option.map_some,h.2 j _ (List.getElem?_eq_getElem hl)]
 ·rw[List.getElem?_eq_none (by rw[List.length_range]; omega),List.getElem?_eq_none (by rw[h.1]; omega)]
  rfl
def ck0:CK where
 ok ss rs hs q n ds p:=allB (qag rs) (qag ss) (ixA ds p n) (shA hs q n) n
 sec ss rs n ds p:=(secsL (qag rs) (qag ss) (ixA ds p n) n).flatten.map by8
theorem q8d{ss rs hs:List AV}{q n:Nat}{ds:List AV}{p:Nat}(h:P58 ss rs hs q n ds p):∃ S R I HL,ss=S.map by8/\rs=R.map by8/\ixA ds p n=I/\shA hs q n=HL/\C58 R S hs q n ds p I HL:=by
 obtain⟨⟨S,hS,rfl⟩,⟨R,hR,rfl⟩,⟨hf,hrm,_,HL,hHL⟩,⟨df,I,hI,nd,rg⟩,n1,n16⟩:=h
 exact⟨S,R,I,HL,rfl,rfl,q77 hI,qcr hHL,⟨hR,hS,hI,nd,rg,hHL,hrm,hf,df,n1,n16⟩⟩
theorem q63:LnOK Try.prog (ln58 ck0):=by
 intro n0 b fr H p x e hn0 hp lg
 unfold ln58 at e
 split at e<;>cases e
 rename_i hs q n0 c3 e3 ds p n c2 e2 ss rs h1 h2 h3
 obtain⟨rfl,hb,hf,hP⟩:=hp
 have hb:b=lp58:=hb
 subst hb
 refine qam.pre (Weak.forget (by simp) mk58) (fun lg => ?_) lg
 rw[hf]
 obtain⟨S,R,I,HL,rfl,rfl,e1,e2',c⟩:=q8d hP
 have ek:ck0.ok (S.map by8) (R.map by8) hs q n ds p=allB R S I HL n:=by
  show allB (qag (R.map by8)) (qag (S.map by8)) (ixA ds p n) (shA hs q n) n=_
  rw[e1,e2',qab,qab]
 have es:ck0.sec (S.map by8) (R.map by8) n ds p=(secsL R S I n).flatten.map by8:=by
  show(secsL (qag (R.map by8)) (qag (S.map by8)) (ixA ds p n) n).flatten.map by8=_
  rw[e1,qab,qab]
 rw[ek,es]
 cases ha:allB R S I HL n with
 | true=>exact q9u c c3 e3 c2 e2 ha lg
 | false=>exact q8m c c3 e3 c2 e2 ha lg
end
end Go.Proofs.Vm

namespace Go.Proofs.Vm
set_option maxRecDepth 100000
open Go.Vm
noncomputable section
def fr59r:Fr := [.top,.top,.top,.top,.top,.top,.top,.top,.nils,.bool false,.top,.top,.top,.top,.top,.top,.top,.top,.top,.top,.top,.top,.top,.top,.top,.top,.top,.top,.top,.top,.top,.top,.top,.top,.top,.top,.top,.top,.top,.top,.top,.top,.top,.top,.top,.top,.top,.top,.top,.top,.top,.top,.top,.top,.top,.top,.top,.top,.top,.top,.top,.top,.top,.top,.top,.top,.top,.top,.top,.top,.top,.top,.top,.top,.top,.top,.top,.top,.top,.top,.top,.top,.top,.top,.top,.top,.top,.top,.top,.top,.top,.top,.top]
def mk59r:List Bool := [true,true,true,true,true,true,true,true,false,false,true,true,true,true,true,true,true,true,true,true,true,true,true,true,true,true,true,true,true,true,true,true,true,true,true,true,true,true,true,true,true,true,true,true,true,true,true,true,true,true,true,true,true,true,true,true,true,true,true,true,true,true,true,true,true,true,true,true,true,true,true,true,true,true,true,true,true,true,true,true,true,true,true,true,true,true,true,true,true,true,true,true,true]
def fr59x(n:Nat):Fr := [.top,.top,.top,.top,.top,.top,.top,.top,.top,.top,.top,.top,.slc 0 0 n n 32,.top,.top,.top,.top,.top,.top,.top,.top,.top,.top,.top,.top,.top,.top,.top,.top,.top,.top,.top,.top,.top,.top,.top,.top,.top,.top,.top,.top,.top,.top,.top,.top,.top,.top,.top,.top,.top,.top,.top,.top,.top,.top,.top,.top,.top,.top,.top,.top,.top,.top,.top,.top,.top,.top,.top,.top,.top,.top,.top,.top,.top,.top,.top,.top,.top,.top,.top,.top,.top,.top,.top,.top,.top,.top,.top,.top,.top,.top,.top,.top]
def mk59x:List Bool := [true,true,true,true,true,true,true,true,true,true,true,true,false,true,true,true,true,true,true,true,true,true,true,true,true,true,true,true,true,true,true,true,true,true,true,true,true,true,true,true,true,true,true,true,true,true,true,true,true,true,true,true,true,true,true,true,true,true,true,true,true,true,true,true,true,true,true,true,true,true,true,true,true,true,true,true,true,true,true,true,true,true,true,true,true,true,true,true,true,true,true,true,true]
def ln59o(K:CK):LnF:=fun n0 b fr H=>match slot fr 2,slot fr 3,slot fr 12,slot fr 13,H with
 | .ros ds p n c2 e2,.ros hs q _ c3 e3,.nils,.int .i64 (.ofNat 0),[.cells ss,.cells rs]=>some (n0=0/\VCis b lp59/\forget mk59 fr=fr59 hs q n c3 e3 ds p c2 e2 .nils 0/\P58 ss rs hs q n ds p,
  .cond (K.ok ss rs hs q n ds p) (.ok (.exit 0) (fr59x n) [.cells (K.sec ss rs n ds p)]) (.ok .ret fr59r []))
 | _,_,_,_,_=>none
theorem vc59(Y:JY)(S:JX)(F:HF)(J:JS)(K:CK)(ss cs:List AV)(o n c:Nat)(e:Bool)(ds:List AV)(p c2:Nat)(e2:Bool)(hs:List AV)(q c3:Nat)(e3:Bool)(Q:AV->Hl->Prop) :
  (vcall (vcA kdYes (cnJ4 S Y F J) (ln59o K)) ops0 (qah 59 vf59) 200 vf59 [.agg ss,.ros cs o n c e,.ros ds p n c2 e2,.ros hs q n c3 e3] [] (fun r H _=>Q r H)) =
 ((Br (ops0.cmp .lss (ops0.ofn n) (Int.ofNat 1))
 (Q (.tup [.nils,(.bool Bool.false)]) [(.cells ss)])
 (Br (ops0.cmp .gtr (ops0.ofn n) (Int.ofNat 16))
 (Q (.tup [.nils,(.bool Bool.false)]) [(.cells ss)])
 (Br (ops0.cmp .neq (ops0.ofn n) (ops0.ofn n))
 (Q (.tup [.nils,(.bool Bool.false)]) [(.cells ss)])
 (Br (ops0.cmp .neq (ops0.ofn n) (ops0.ofn n))
 (Q (.tup [.nils,(.bool Bool.false)]) [(.cells ss)])
 ((PSh cs o n) /\
 (Chk (ops0.eq (ops0.len (JX.jn S cs o n)) 32)
 ((((0:Nat)=0) /\
 ((VCis lp59 lp59) /\
 ((((tp 2 ((.ros ds p n c2 e2)::(.ros hs q n c3 e3)::(.ptr 0 0)::tp 3 (.nils::(.bool Bool.false)::(.int .i64 (ops0.ofn n))::(.ptr 1 0) :: .nils::(.int .i64 (.ofNat 0))::tp 79 ([])))):Fr)=(tp 2 ((.ros ds p n c2 e2)::(.ros hs q n c3 e3)::(.ptr 0 0)::tp 3 (.nils::(.bool Bool.false)::(.int .i64 (.ofNat n))::(.ptr 1 0) :: .nils::(.int .i64 (.ofNat 0))::tp 79 ([]))))) /\
 (P58 ss (ops0.spl (z8 32) 0 (JX.jn S cs o n)) hs q n ds p)))) /\
 (Br (CK.ok K ss (ops0.spl (z8 32) 0 (JX.jn S cs o n)) hs q n ds p)
 (Q (.tup [(.slc 0 0 n n 32),(.bool Bool.true)]) [(.cells (CK.sec K ss (ops0.spl (z8 32) 0 (JX.jn S cs o n)) n ds p))])
 (Q (.tup [.nils,(.bool Bool.false)]) [])))))))))):=by kernel_rfl
section
variable {R S:List UInt8}{hs:List AV}{q n:Nat}{ds:List AV}{p:Nat}{I:List Int}{HL:List (List UInt8)}
theorem q8c{I:List Int}(hd:I.Nodup){k i:Nat}{x y:Int}(hx:I[k]? = some x)(hy:I[i]? = some y)(h:k<i):x≠y:=by
 obtain⟨a1,rfl⟩:=List.getElem?_eq_some_iff.1 hx
 obtain⟨b1,rfl⟩:=List.getElem?_eq_some_iff.1 hy
 exact(List.pairwise_iff_getElem.1 hd) k i a1 b1 h
theorem q9a(hI:IxAt ds p n I)(nd:I.Nodup)(c3:Nat)(e3:Bool)(c2:Nat)(e2:Bool){ss rs:List AV}{i:Nat}(hi:i<n)(h16:n<=16):∀ lg,qam Try.prog 0 lp59k (fr59k hs q n c3 e3 ds p c2 e2 .nils i 0) [.cells ss,.cells rs] lg (.exit 2) (fr59k hs q n c3 e3 ds p c2 e2 .nils i i) [.cells ss,.cells rs] (List.range 0++lg):=by
 intro lg
 refine qal (P:=Try.prog) (n0:=0) (b:=lp59k) (ex := .exit 2) (fr':=fr59k hs q n c3 e3 ds p c2 e2 .nils i i) (H' := [.cells ss,.cells rs]) (by intro h;cases h) (fun k=>(fr59k hs q n c3 e3 ds p c2 e2 .nils i k,[.cells ss,.cells rs])) i 0 (fun k _ hk => ?_) ?_ lg
 ·have hl:=hI.1
  have hx:=List.getElem?_eq_getElem (l:=I) (i:=k) (by omega)
  have hy:=List.getElem?_eq_getElem (l:=I) (i:=i) (by omega)
  refine qa2 (qa3 _) (qai _) (qak _) (n:=100) (g:=kdYes) (bs:=mk59k) ?_ (Nat.zero_le _)
  rw[q8h,nLss,nInr,nInr,nAdr,nAdr,Nat.mul_one,Nat.mul_one,add1 (by omega)]
  exact Br.t (decide_eq_true (by omega)) (Chk.mk (decide_eq_true (by omega)) ⟨_,Nth.mk (hI.2 k _ hx),Chk.mk (decide_eq_true hi) ⟨_,Nth.mk (hI.2 i _ hy),Br.f (beq_eq_false_iff_ne.2 (q8c nd hx hy (by omega))) ⟨rfl,rfl,rfl⟩⟩⟩)
 ·rw[Nat.zero_add]
  refine qa2 (qa3 _) (qai _) (qak _) (n:=100) (g:=kdYes) (bs:=mk59k) ?_ (Nat.zero_le _)
  rw[q8h,nLss]
  exact Br.f (decide_eq_false (by omega)) ⟨rfl,rfl,rfl⟩
theorem q89(hI:IxAt ds p n I)(nd:I.Nodup)(c3:Nat)(e3:Bool)(c2:Nat)(e2:Bool){ss rs os:List AV}{m i:Nat}(hi:i<n)(h16:n<=16):∀ lg,qam Try.prog 0 lp59k (fr59k hs q n c3 e3 ds p c2 e2 (.slc 2 0 m m 32) i 0) [.cells ss,.cells rs,.cells os] lg (.exit 2) (fr59k hs q n c3 e3 ds p c2 e2 (.slc 2 0 m m 32) i i) [.cells ss,.cells rs,.cells os] (List.range 0++lg):=by
 intro lg
 refine qal (P:=Try.prog) (n0:=0) (b:=lp59k) (ex := .exit 2) (fr':=fr59k hs q n c3 e3 ds p c2 e2 (.slc 2 0 m m 32) i i) (H' := [.cells ss,.cells rs,.cells os]) (by intro h;cases h) (fun k=>(fr59k hs q n c3 e3 ds p c2 e2 (.slc 2 0 m m 32) i k,[.cells ss,.cells rs,.cells os])) i 0 (fun k _ hk => ?_) ?_ lg
 ·have hl:=hI.1
  have hx:=List.getElem?_eq_getElem (l:=I) (i:=k) (by omega)
  have hy:=List.getElem?_eq_getElem (l:=I) (i:=i) (by omega)
  refine qa2 (qa3 _) (qai _) (qak _) (n:=100) (g:=kdYes) (bs:=mk59k) ?_ (Nat.zero_le _)
  rw[q8b,nLss,nInr,nInr,nAdr,nAdr,Nat.mul_one,Nat.mul_one,add1 (by omega)]
  exact Br.t (decide_eq_true (by omega)) (Chk.mk (decide_eq_true (by omega)) ⟨_,Nth.mk (hI.2 k _ hx),Chk.mk (decide_eq_true hi) ⟨_,Nth.mk (hI.2 i _ hy),Br.f (beq_eq_false_iff_ne.2 (q8c nd hx hy (by omega))) ⟨rfl,rfl,rfl⟩⟩⟩)
 ·rw[Nat.zero_add]
  refine qa2 (qa3 _) (qai _) (qak _) (n:=100) (g:=kdYes) (bs:=mk59k) ?_ (Nat.zero_le _)
  rw[q8b,nLss]
  exact Br.f (decide_eq_false (by omega)) ⟨rfl,rfl,rfl⟩
theorem q6d:LnOK Try.prog ln59k:=by
 intro n0 b fr H p x e hn0 hp lg
 unfold ln59k at e
 split at e<;>cases e
 ·obtain⟨rfl,hb,hf,⟨_,I,hI,nd,_⟩,hi,h16⟩:=hp
  have hb:b=lp59k:=hb
  subst hb
  refine qam.pre (Weak.forget (by simp) mk59k) (fun lg => ?_) lg
  rw[hf]
  exact q9a hI nd _ _ _ _ hi h16 lg
 ·obtain⟨rfl,hb,hf,⟨_,I,hI,nd,_⟩,hi,h16⟩:=hp
  have hb:b=lp59k:=hb
  subst hb
  refine qam.pre (Weak.forget (by simp) mk59k) (fun lg => ?_) lg
  rw[hf]
  exact q89 hI nd _ _ _ _ hi h16 lg
def H59(R S:List UInt8)(I:List Int)(i:Nat):Hl := [.cells (S.map by8),.cells (R.map by8)]++o58 R S I i
theorem C58.pix(c:C58 R S hs q n ds p I HL):PIx ds p n:=⟨c.df,I,c.hI,c.nd,c.rg⟩
theorem q9h{R S:List UInt8}(hR:R.length=32)(hS:S.length=32)(x:Int):jy0.hsh (ops0.ext (R.map by8) 0 32) (ops0.ext (S.map by8) 0 32) x=(hshL R S x).map by8:=by
 rw[qa5 hR,qa5 hS]
 show(hshL (qag _) (qag _) x).map by8=_
 rw[qab,qab]
theorem vm59(c:C58 R S hs q n ds p I HL)(c3:Nat)(e3:Bool)(c2:Nat)(e2:Bool){i:Nat}(hi:i<n){x:Int}{y:List UInt8}(hx:I[i]? = some x)(hy:HL[i]? = some y)(Q:Ex->Fr->Hl->Prop)
  (h1:hshL R S x=y->i=0->Q .norm (fr59 hs q n c3 e3 ds p c2 e2 (.slc 2 0 1 1 32) (i+1)) [.cells (S.map by8),.cells (R.map by8),.cells ((secsL R S I (i+1)).flatten.map by8)])
  (h2:hshL R S x=y->i≠0->Q .norm (fr59 hs q n c3 e3 ds p c2 e2 (.slc 3 0 (i+1) (i+1) 32) (i+1)) [.cells (S.map by8),.cells (R.map by8),.dead,.cells ((secsL R S I (i+1)).flatten.map by8)])
  (h3:hshL R S x≠y->Q .ret (fr59 hs q n c3 e3 ds p c2 e2 (x58 2 i) i) (H59 R S I i)) :
  vm (vcA kdYes (cnJ4 jx0 jy0 hf0 js0) ln59k) ops0 noTab 100 0 lp59 (fr59 hs q n c3 e3 ds p c2 e2 (x58 2 i) i) (H59 R S I i) [] (bodyX mk59 Q):=by
 obtain⟨x',y',hx',hy',hd,r0,r1,hy32,hext,hroom⟩:=c.at_ hi
 obtain rfl:x=x':=Option.some.inj (hx.symm.trans hx')
 obtain rfl:y=y':=Option.some.inj (hy.symm.trans hy')
 have hR:=c.hR
 have hS:=c.hS
 have s1:=(q6s hR hS x).1
 have s3:=q9h hR hS x
 have l1:=q45 R S x
 have l2:=q5c R S x
 have h16:=c.n16
 have hIl:=c.hI.1
 have hd':Nth ds (ops0.adr p (Int.ofNat i) 1) (.int .i64 x):=Nth.mk (by rw[nAdr,Nat.mul_one]; exact hd)
 have hinr:ops0.inr (Int.ofNat i) n=true:=by rw[nInr]; exact decide_eq_true hi
 have hlss:ops0.cmp .lss (Int.ofNat i) (ops0.ofn n)=true:=by rw[nOfn,nLss]; exact decide_eq_true hi
 have hlss':ops0.cmp .lss (Int.ofNat i) (Int.ofNat n)=true:=by rw[nLss]; exact decide_eq_true hi
 have pR:PKey (ops0.ext (R.map by8) 0 32):=by rw[qa5 hR]; exact pkey R hR
 have pS:PKey (ops0.ext (S.map by8) 0 32):=by rw[qa5 hS]; exact pkey S hS
 have kR:32<=ops0.len (R.map by8):=by rw[nLen,List.length_map]; omega
 have kS:32<=ops0.len (S.map by8):=by rw[nLen,List.length_map]; omega
 have g1:ops0.cmp .lss x (Int.ofNat 0)=false:=decide_eq_false (by simp;omega)
 have g2:ops0.cmp .gtr x (Int.ofNat 2147483647)=false:=decide_eq_false (by simp;omega)
 by_cases h0:i=0
 ·subst h0
  have e0:x58 2 0 = .nils:=rfl
  have eH:H59 R S I 0 = [.cells (S.map by8),.cells (R.map by8)]:=rfl
  have es:secsL R S I (0+1) = [secL R S x]:=by rw[q5n R S hx]; rfl
  rw[eH] at h3
  rw[e0] at h3 ⊢
  rw[eH,q95]
  refine Br.t (by first|exact hlss|exact hlss') ⟨⟨rfl,rfl,rfl,c.pix,hi,h16⟩,Chk.mk hinr ⟨x,hd',Br.f g1 (Chk.mk hinr ⟨x,hd',Br.f g2 (ckle kR (ckle kS (Chk.mk hinr ⟨x,hd',⟨pR,pS⟩,?_⟩)))⟩)⟩⟩
  rw[s3,hext]
  refine Chk.mk hinr (ckle (by rw[nAdr,nPlus,nLen]; omega) (ckeq (by rw[nLen,List.length_map]; omega) (ckeq (by rw[nLen,List.length_map]; omega) (ckle (by rw[nLen,List.length_map]; omega) (ckle (by rw[nLen,List.length_map]; omega) ?_)))))
  rw[qa5 l2,qa5 hy32]
  by_cases hok:hshL R S x=y
  ·subst hok
   refine q52 (ckle kR (ckle kS (Chk.mk hinr ⟨x,hd',⟨pR,pS⟩,?_⟩)))
   rw[s1,spl32 l1,qa5 l1,add1 (by omega)]
   refine ckeq (by rw[nLen,List.length_map]; omega) (ckle (by rw[nLen,List.length_map]; omega) ?_)
   have:=h1 rfl rfl
   rw[es,List.flatten_singleton] at this
   exact this
  ·exact neEx hok (h3 hok)
 ·have e0:x58 2 i = .slc 2 0 i i 32:=if_neg h0
  have eH:H59 R S I i = [.cells (S.map by8),.cells (R.map by8),.cells ((secsL R S I i).flatten.map by8)]:=by unfold H59 o58;rw[if_neg h0]; rfl
  have es:secsL R S I (i+1)=secsL R S I i ++ [secL R S x]:=q5n R S hx
  have lf:(secsL R S I i).flatten.length=i*32:=by rw[qdb (q6f R S I i),q5l R S (by omega)]
  have ea:ops0.app (ops0.ext ((secsL R S I i).flatten.map by8) 0 (ops0.mul i 32)) ((secL R S x).map by8)=(secsL R S I (i+1)).flatten.map by8:=by
   rw[qbw,nExt,List.drop_zero,List.take_of_length_le (by rw[List.length_map]; omega),nApp,es,List.flatten_append,List.flatten_singleton,List.map_append]
  rw[eH] at h3
  rw[e0] at h3 ⊢
  rw[eH,q76]
  refine Br.t (by first|exact hlss|exact hlss') ⟨⟨rfl,rfl,rfl,c.pix,hi,h16⟩,Chk.mk hinr ⟨x,hd',Br.f g1 (Chk.mk hinr ⟨x,hd',Br.f g2 (ckle kR (ckle kS (Chk.mk hinr ⟨x,hd',⟨pR,pS⟩,?_⟩)))⟩)⟩⟩
  rw[s3,hext]
  refine Chk.mk hinr (ckle (by rw[nAdr,nPlus,nLen]; omega) (ckeq (by rw[nLen,List.length_map]; omega) (ckeq (by rw[nLen,List.length_map]; omega) (ckle (by rw[nLen,List.length_map]; omega) (ckle (by rw[nLen,List.length_map]; omega) ?_)))))
  rw[qa5 l2,qa5 hy32]
  by_cases hok:hshL R S x=y
  ·subst hok
   refine q52 (ckle kR (ckle kS (Chk.mk hinr ⟨x,hd',⟨pR,pS⟩,?_⟩)))
   rw[s1,spl32 l1,qa5 l1,ea,nPlus,nPlus,add1 (by omega)]
   exact ckeq (by rw[nLen,List.length_map]; omega) (ckle (by rw[qbw,nLen,List.length_map]; omega) (ckle (by rw[nLen,List.length_map]; omega) (q6j (by omega) (h2 rfl h0))))
  ·exact neEx hok (h3 hok)
end
end
end Go.Proofs.Vm

namespace Go.Proofs.Vm
set_option maxRecDepth 100000
open Go.Vm
noncomputable section
section
variable {R S:List UInt8}{hs:List AV}{q n:Nat}{ds:List AV}{p:Nat}{I:List Int}{HL:List (List UInt8)}
theorem q72{σ:Nat->Option Nat}{φ:Nat->Option (List AV)}{b:Nat}(h0:σ 0=some 0)(h1:σ 1=some 1)(hb:σ b=some 2)(hh:flatL hs)(hd:flatL ds)(c3:Nat)(e3:Bool)(c2:Nat)(e2:Bool)(k i:Nat) :
  forget mk59 (renL σ φ true (fr59 hs q n c3 e3 ds p c2 e2 (.slc b 0 k k 32) i))=fr59 hs q n c3 e3 ds p c2 e2 (.slc 2 0 k k 32) i:=by
 unfold fr59 mk59
 simp only[renL,ren,h0,h1,hb,forget,qaa hh,qaa hd]
theorem q8e(c:C58 R S hs q n ds p I HL)(c3:Nat)(e3:Bool)(c2:Nat)(e2:Bool){i:Nat}(hi:i<n)(hok:okH R S I HL i=true) :
  qap Try.prog 0 lp59 (fr59 hs q n c3 e3 ds p c2 e2 (x58 2 i) i) (H59 R S I i) .norm (fr59 hs q n c3 e3 ds p c2 e2 (x58 2 (i+1)) (i+1)) (H59 R S I (i+1)):=by
 obtain⟨x,y,hx,hy,_⟩:=c.at_ hi
 have hok:hshL R S x=y:=by
  have h:=of_decide_eq_true hok
  rw[List.getD_eq_getElem?_getD,List.getD_eq_getElem?_getD,hx,hy] at h
  exact h
 have hv:=vm59 c c3 e3 c2 e2 hi hx hy (fun ex fr H=>ex = .norm/\((i=0/\fr=fr59 hs q n c3 e3 ds p c2 e2 (.slc 2 0 1 1 32) (i+1)/\H = [.cells (S.map by8),.cells (R.map by8),.cells ((secsL R S I (i+1)).flatten.map by8)]) ∨
   (i≠0/\fr=fr59 hs q n c3 e3 ds p c2 e2 (.slc 3 0 (i+1) (i+1) 32) (i+1)/\H = [.cells (S.map by8),.cells (R.map by8),.dead,.cells ((secsL R S I (i+1)).flatten.map by8)])))
  (fun _ h0=>⟨rfl,.inl ⟨h0,rfl,rfl⟩⟩) (fun _ h0=>⟨rfl,.inr ⟨h0,rfl,rfl⟩⟩) (fun h=>absurd hok h)
 refine q5a q5j q6d (qak _) hv (Nat.zero_le _) fun ex fr1 H1 _ hq => ?_
 obtain⟨rfl,hq⟩:=hq
 refine⟨rfl,?_⟩
 have e0:x58 2 (i+1) = .slc 2 0 (i+1) (i+1) 32:=if_neg (by omega)
 have eH:H59 R S I (i+1) = [.cells (S.map by8),.cells (R.map by8),.cells ((secsL R S I (i+1)).flatten.map by8)]:=by unfold H59 o58;rw[if_neg (by omega)]; rfl
 rw[e0,eH]
 rcases hq with ⟨hi0,rfl,rfl⟩|⟨_,rfl,rfl⟩
 ·subst hi0
  exact Weak.refl (by simp)
 ·have h3:=Weak.pickV (n0:=0) (fr:=fr59 hs q n c3 e3 ds p c2 e2 (.slc 3 0 (i+1) (i+1) 32) (i+1)) (H := [.cells (S.map by8),.cells (R.map by8),.dead,.cells ((secsL R S I (i+1)).flatten.map by8)]) [0,1,3] mk59 0 (by simp) (by simp) (by simp)
  rw[q72 (show pickN [0,1,3] 0=some 0 from rfl) (show pickN [0,1,3] 1=some 1 from rfl) (show pickN [0,1,3] 3=some 2 from rfl) c.hf c.df] at h3
  have e4:pickH (viewF [.cells (S.map by8),.cells (R.map by8),.dead,.cells ((secsL R S I (i+1)).flatten.map by8)] [0,1,3] 0) [0,1,3] [.cells (S.map by8),.cells (R.map by8),.dead,.cells ((secsL R S I (i+1)).flatten.map by8)] = [.cells (S.map by8),.cells (R.map by8),.cells ((secsL R S I (i+1)).flatten.map by8)]:=by
   show [renB _ _ true (.cells _),renB _ _ true (.cells _),renB _ _ true (.cells _)]=_
   simp only[renB,qaa (qac _)]
  rw[e4] at h3
  exact h3
theorem q62(c3:Nat)(e3:Bool)(c2:Nat)(e2:Bool)(x:AV)(i:Nat)(H:Hl):Weak 0 (fr59 hs q n c3 e3 ds p c2 e2 x i) H fr59r []:=by
 have h3:=Weak.pickV (n0:=0) (fr:=fr59 hs q n c3 e3 ds p c2 e2 x i) (H:=H) [] mk59r 0 (by simp) (by simp) (by simp)
 have e1:Go.Vm.forget mk59r (renL (pickN []) (viewF H [] 0) true (fr59 hs q n c3 e3 ds p c2 e2 x i))=fr59r:=by
  unfold fr59 mk59r fr59r
  simp only[renL,ren,forget]
 rw[e1] at h3
 exact h3
theorem q84(c:C58 R S hs q n ds p I HL)(c3:Nat)(e3:Bool)(c2:Nat)(e2:Bool){i:Nat}(hi:i<n)(hok:okH R S I HL i=false) :
  qap Try.prog 0 lp59 (fr59 hs q n c3 e3 ds p c2 e2 (x58 2 i) i) (H59 R S I i) .ret fr59r []:=by
 obtain⟨x,y,hx,hy,_⟩:=c.at_ hi
 have hok:hshL R S x≠y:=by
  have h:=of_decide_eq_false hok
  rw[List.getD_eq_getElem?_getD,List.getD_eq_getElem?_getD,hx,hy] at h
  exact h
 have hv:=vm59 c c3 e3 c2 e2 hi hx hy (fun ex fr H=>ex = .ret/\fr=fr59 hs q n c3 e3 ds p c2 e2 (x58 2 i) i) (fun h=>absurd h hok) (fun h=>absurd h hok) (fun _=>⟨rfl,rfl⟩)
 refine q5a q5j q6d (qak _) hv (Nat.zero_le _) fun ex fr1 H1 _ hq => ?_
 obtain⟨rfl,rfl⟩:=hq
 exact⟨rfl,q62 c3 e3 c2 e2 _ i H1⟩
theorem q9d(c:C58 R S hs q n ds p I HL)(c3:Nat)(e3:Bool)(c2:Nat)(e2:Bool) :
  qap Try.prog 0 lp59 (fr59 hs q n c3 e3 ds p c2 e2 (x58 2 n) n) (H59 R S I n) (.exit 0) (fr59x n) [.cells ((secsL R S I n).flatten.map by8)]:=by
 have n1:=c.n1
 have e0:x58 2 n = .slc 2 0 n n 32:=if_neg (by omega)
 have eH:H59 R S I n = [.cells (S.map by8),.cells (R.map by8),.cells ((secsL R S I n).flatten.map by8)]:=by unfold H59 o58;rw[if_neg (by omega)]; rfl
 rw[e0,eH]
 refine q5a (Q:=fun ex fr H=>ex = .exit 0/\fr=fr59 hs q n c3 e3 ds p c2 e2 (.slc 2 0 n n 32) n/\H = [.cells (S.map by8),.cells (R.map by8),.cells ((secsL R S I n).flatten.map by8)]) (bs:=mk59) (n:=100) (g:=kdYes) q5j q6d (qak _) ?_ (Nat.zero_le _) fun ex fr1 H1 _ hq => ?_
 ·have hl:ops0.cmp .lss (Int.ofNat n) (ops0.ofn n)=false:=by rw[nOfn,nLss]; exact decide_eq_false (by omega)
  have hl':ops0.cmp .lss (Int.ofNat n) (Int.ofNat n)=false:=by rw[nLss]; exact decide_eq_false (by omega)
  rw[q76]
  exact Br.f (by first|exact hl|exact hl') ⟨rfl,rfl,rfl⟩
 ·obtain⟨rfl,rfl,rfl⟩:=hq
  refine⟨rfl,?_⟩
  have h3:=Weak.pickV (n0:=0) (fr:=fr59 hs q n c3 e3 ds p c2 e2 (.slc 2 0 n n 32) n) (H := [.cells (S.map by8),.cells (R.map by8),.cells ((secsL R S I n).flatten.map by8)]) [2] mk59x 0 (by simp) (by simp) (by simp)
  have e1:Go.Vm.forget mk59x (renL (pickN [2]) (viewF [.cells (S.map by8),.cells (R.map by8),.cells ((secsL R S I n).flatten.map by8)] [2] 0) true (fr59 hs q n c3 e3 ds p c2 e2 (.slc 2 0 n n 32) n))=fr59x n:=by
   have h:pickN [2] 2=some 0:=rfl
   unfold fr59 mk59x fr59x
   simp only[renL,ren,h,forget]
  have e4:pickH (viewF [.cells (S.map by8),.cells (R.map by8),.cells ((secsL R S I n).flatten.map by8)] [2] 0) [2] [.cells (S.map by8),.cells (R.map by8),.cells ((secsL R S I n).flatten.map by8)] = [.cells ((secsL R S I n).flatten.map by8)]:=by
   show [renB _ _ true (.cells _)]=_
   simp only[renB,qaa (qac _)]
  rw[e1,e4] at h3
  exact h3
theorem q8v(c:C58 R S hs q n ds p I HL)(c3:Nat)(e3:Bool)(c2:Nat)(e2:Bool)(ha:allB R S I HL n=true):∀ lg,qam Try.prog 0 lp59 (fr59 hs q n c3 e3 ds p c2 e2 .nils 0) [.cells (S.map by8),.cells (R.map by8)] lg (.exit 0) (fr59x n) [.cells ((secsL R S I n).flatten.map by8)] (List.range 0++lg):=by
 intro lg
 have ha:fstB (okH R S I HL) 0 n=n:=of_decide_eq_true ha
 obtain⟨_,_,h3,_⟩:=q5e (okH R S I HL) n 0
 rw[ha] at h3
 exact qal (P:=Try.prog) (n0:=0) (b:=lp59) (ex := .exit 0) (fr':=fr59x n) (H' := [.cells ((secsL R S I n).flatten.map by8)]) (by intro h;cases h) (fun i=>(fr59 hs q n c3 e3 ds p c2 e2 (x58 2 i) i,H59 R S I i)) n 0 (fun j _ hj=>q8e c c3 e3 c2 e2 (by omega) (h3 j (Nat.zero_le _) (by omega))) (by rw[Nat.zero_add]; exact q9d c c3 e3 c2 e2) lg
theorem q8n(c:C58 R S hs q n ds p I HL)(c3:Nat)(e3:Bool)(c2:Nat)(e2:Bool)(ha:allB R S I HL n=false):∀ lg,qam Try.prog 0 lp59 (fr59 hs q n c3 e3 ds p c2 e2 .nils 0) [.cells (S.map by8),.cells (R.map by8)] lg .ret fr59r [] (List.range 0++lg):=by
 intro lg
 have ha:fstB (okH R S I HL) 0 n≠n:=of_decide_eq_false ha
 obtain⟨_,h2,h3,h4⟩:=q5e (okH R S I HL) n 0
 exact qal (P:=Try.prog) (n0:=0) (b:=lp59) (ex := .ret) (fr':=fr59r) (H' := []) (by intro h;cases h) (fun i=>(fr59 hs q n c3 e3 ds p c2 e2 (x58 2 i) i,H59 R S I i)) (fstB (okH R S I HL) 0 n) 0 (fun j _ hj=>q8e c c3 e3 c2 e2 (by omega) (h3 j (Nat.zero_le _) (by omega))) (by rw[Nat.zero_add]; exact q84 c c3 e3 c2 e2 (by omega) (h4 (by omega))) lg
end
theorem q9l{S R:List UInt8}{hs:List AV}{q n:Nat}{ds:List AV}{p:Nat}{I:List Int}{HL:List (List UInt8)}(e1:ixA ds p n=I)(e2:shA hs q n=HL) :
  ck0.ok (S.map by8) (R.map by8) hs q n ds p=allB R S I HL n/\ck0.sec (S.map by8) (R.map by8) n ds p=(secsL R S I n).flatten.map by8:=by
 refine⟨?_,?_⟩
 ·show allB (qag (R.map by8)) (qag (S.map by8)) (ixA ds p n) (shA hs q n) n=_
  rw[e1,e2,qab,qab]
 ·show(secsL (qag (R.map by8)) (qag (S.map by8)) (ixA ds p n) n).flatten.map by8=_
  rw[e1,qab,qab]
theorem q6v:LnOK Try.prog (ln59o ck0):=by
 intro n0 b fr H p x e hn0 hp lg
 unfold ln59o at e
 split at e<;>cases e
 obtain⟨rfl,hb,hf,hP⟩:=hp
 have hb:b=lp59:=hb
 subst hb
 refine qam.pre (Weak.forget (by simp) mk59) (fun lg => ?_) lg
 rw[hf]
 obtain⟨S,R,I,HL,rfl,rfl,e1,e2',c⟩:=q8d hP
 obtain⟨ek,es⟩:=q9l (S:=S) (R:=R) e1 e2'
 rw[ek,es]
 cases ha:allB R S I HL _ with
 | true=>exact q8v c _ _ _ _ ha lg
 | false=>exact q8n c _ _ _ _ ha lg
theorem q5i{P:Program}{f:Nat}{vals:List AV}{r:AV}{H':Hl}{lg:List Nat}(hc:CallTo P f vals [] r H' lg):CallTo P f vals [] r H' []:=⟨hc.real,hc.grow,fun b hb=>by simp at hb,hc.does⟩
theorem q6l{P:Program}{f:Nat}{vals:List AV}{H':Hl}{lg:List Nat}{z:Bool}(hc:CallTo P f vals [] (.tup [.nils,.bool z]) H' lg):CallTo P f vals [] (.tup [.nils,.bool z]) [] []:=by
 have h:=hc.pick (lg0 := []) [] List.nodup_nil (fun b hb=>by cases hb) (fun b hb=>by simp at hb) (fun b hb=>by simp at hb)
 simpa only[ren,renL,wkH,pickH,List.map_nil] using h
def P58c(ss cs:List AV)(o n:Nat)(ds:List AV)(p n2:Nat)(hs:List AV)(q n3:Nat):Prop:=n2=n/\n3=n/\PKey ss/\PSh cs o n/\PIx ds p n/\PSh hs q n/\n<=16
structure CK2 where
 ok:List AV->List AV->Nat->Nat->List AV->Nat->List AV->Nat->Bool
 sec:List AV->List AV->Nat->Nat->List AV->Nat->List AV
def rootL(cs:List AV)(o n:Nat):List UInt8:=joinL (shA cs o n)
def ck2:CK2 where
 ok ss cs o n ds p hs q:=decide (1<=n) && allB (rootL cs o n) (qag ss) (ixA ds p n) (shA hs q n) n
 sec ss cs o n ds p:=(secsL (rootL cs o n) (qag ss) (ixA ds p n) n).flatten.map by8
def cnJ6(S:JX)(Y:JY)(F:HF)(K:JS)(G:CK2):CnF:=cnOr (fun f vals H=>match f,vals with
 | 58,[.agg ss,x,y,z]=>match vw1 H x,vw1 H y,vw1 H z with
  | .ros cs o n _ _,.ros ds p n2 _ _,.ros hs q n3 _ _=>some (P58c ss cs o n ds p n2 hs q n3,.cond (G.ok ss cs o n ds p hs q) (.ok (.tup [.slc (size H) 0 n n 32,.bool true]) (join H [.cells (G.sec ss cs o n ds p)]) []) (.ok (.tup [.nils,.bool false]) H []))
  | _,_,_=>none
 | 59,[.agg ss,x,y,z]=>match vw1 H x,vw1 H y,vw1 H z with
  | .ros cs o n _ _,.ros ds p n2 _ _,.ros hs q n3 _ _=>some (P58c ss cs o n ds p n2 hs q n3,.cond (G.ok ss cs o n ds p hs q) (.ok (.tup [.slc (size H) 0 n n 32,.bool true]) (join H [.cells (G.sec ss cs o n ds p)]) []) (.ok (.tup [.nils,.bool false]) H []))
  | _,_,_=>none
 | _,_=>none) (cnJ5 S Y F K)
section
variable {S:List UInt8}{cs:List AV}{o n:Nat}{ds:List AV}{p:Nat}{hs:List AV}{q:Nat}
theorem q8t{L:List (List UInt8)}(h:∀ x,x∈L->x.length=32):(joinL L).length=32:=by
 have:∀ (L:List (List UInt8)) (a:List UInt8),(∀ x,x∈L->x.length=32)->a.length=32->(L.foldl xorL a).length=32:=by
  intro L
  induction L with
  | nil=>intro a _ ha;exact ha
  | cons x L ih=>intro a hx ha;exact ih _ (fun y hy=>hx y (by simp[hy])) (q5u ha (hx x (by simp)))
 exact this L qiw h rfl
theorem q53(h:PSh cs o n):(rootL cs o n).length=32:=by
 obtain⟨_,_,_,L,hL⟩:=h
 unfold rootL
 rw[qcr hL]
 refine q8t fun x hx => ?_
 obtain⟨i,hi,rfl⟩:=List.mem_iff_getElem.1 hx
 exact(hL.2 i _ (List.getElem?_eq_getElem hi)).1
theorem q7r(h:PSh cs o n):ops0.spl (z8 32) 0 (jx0.jn cs o n)=(rootL cs o n).map by8:=spl32 (q53 h)
theorem q6o(hsh:PSh cs o n)(h1:1<=n):ck2.ok (S.map by8) cs o n ds p hs q=ck0.ok (S.map by8) ((rootL cs o n).map by8) hs q n ds p/\ck2.sec (S.map by8) cs o n ds p=ck0.sec (S.map by8) ((rootL cs o n).map by8) n ds p:=by
 refine⟨?_,?_⟩
 ·show(decide (1<=n) && allB (rootL cs o n) (qag _) _ _ n)=allB (qag ((rootL cs o n).map by8)) (qag _) _ _ n
  rw[decide_eq_true h1,Bool.true_and,qab (rootL cs o n)]
 ·show(secsL (rootL cs o n) (qag _) _ n).flatten.map by8=(secsL (qag ((rootL cs o n).map by8)) (qag _) _ n).flatten.map by8
  rw[qab (rootL cs o n)]
theorem q86(hS:S.length=32)(hsh:PSh cs o n)(hx:PIx ds p n)(hh:PSh hs q n)(h16:n<=16)(c:Nat)(e:Bool)(c2:Nat)(e2:Bool)(c3:Nat)(e3:Bool) :
  (ck2.ok (S.map by8) cs o n ds p hs q=true->CallTo Try.prog 58 [.agg (S.map by8),.ros cs o n c e,.ros ds p n c2 e2,.ros hs q n c3 e3] [] (.tup [.slc 0 0 n n 32,.bool true]) [.cells (ck2.sec (S.map by8) cs o n ds p)] []) /\
  (ck2.ok (S.map by8) cs o n ds p hs q=false->CallTo Try.prog 58 [.agg (S.map by8),.ros cs o n c e,.ros ds p n c2 e2,.ros hs q n c3 e3] [] (.tup [.nils,.bool false]) [] []):=by
 by_cases h1:1<=n
 ·obtain⟨k1,k2⟩:=q6o (S:=S) (ds:=ds) (p:=p) (hs:=hs) (q:=q) hsh h1
  rw[k1,k2]
  have key:∀ Q:AV->Hl->Prop,(ck0.ok (S.map by8) ((rootL cs o n).map by8) hs q n ds p=true->Q (.tup [.slc 0 0 n n 32,.bool true]) [.cells (ck0.sec (S.map by8) ((rootL cs o n).map by8) n ds p)])->(ck0.ok (S.map by8) ((rootL cs o n).map by8) hs q n ds p=false->Q (.tup [.nils,.bool false]) []) ->
    ∃ r H' lg,CallTo Try.prog 58 [.agg (S.map by8),.ros cs o n c e,.ros ds p n c2 e2,.ros hs q n c3 e3] [] r H' lg/\Q r H':=by
   intro Q q1 q2
   refine qcu q46 q63 (q48 ok58) (q49 58 vf58) (n:=200) (g:=kdYes) ?_
   rw[vc58,q7r hsh]
   refine Br.f (by rw[nOfn,nLss]; exact decide_eq_false (by omega)) (Br.f (by rw[nOfn,nGtr]; exact decide_eq_false (by omega)) (Br.f (by rw[nOfn,nNeq]; simp) (Br.f (by rw[nOfn,nNeq]; simp) ⟨hsh,ckeq (by
    have:ops0.len (jx0.jn cs o n)=((rootL cs o n).map by8).length:=rfl
    rw[this,List.length_map,q53 hsh]) ⟨⟨rfl,rfl,rfl,pkey S hS,pkey _ (q53 hsh),hh,hx,h1,h16⟩,Br.mk q1 q2⟩⟩)))
  refine⟨fun ht => ?_,fun hf => ?_⟩
  ·obtain⟨r,H',lg,hc,rfl,rfl⟩:=key (fun r H=>r=_/\H=_) (fun _=>⟨rfl,rfl⟩) (fun h=>by rw[ht] at h;cases h)
   exact q5i hc
  ·obtain⟨r,H',lg,hc,rfl,rfl⟩:=key (fun r H=>r=_/\H=_) (fun h=>by rw[hf] at h;cases h) (fun _=>⟨rfl,rfl⟩)
   exact q5i hc
 ·have hz:ck2.ok (S.map by8) cs o n ds p hs q=false:=by
   show(decide (1<=n) && _)=false
   rw[decide_eq_false h1,Bool.false_and]
  rw[hz]
  refine⟨fun h=>(by cases h),fun _ => ?_⟩
  obtain⟨r,H',lg,hc,rfl⟩:=qcu (Q:=fun r H lg=>r = .tup [.nils,.bool false]) q46 q63 (q48 ok58) (q49 58 vf58) (n:=200) (g:=kdYes) (vals := [.agg (S.map by8),.ros cs o n c e,.ros ds p n c2 e2,.ros hs q n c3 e3]) (H := []) (by
   have hv:=vc58 jy0 jx0 hf0 ck0 (S.map by8) cs o n c e ds p c2 e2 hs q c3 e3 (fun r _=>r = .tup [.nils,.bool false])
   refine hv.mpr (Br.t (by rw[nOfn,nLss]; exact decide_eq_true (by omega)) rfl))
  exact q6l hc
theorem q87(hS:S.length=32)(hsh:PSh cs o n)(hx:PIx ds p n)(hh:PSh hs q n)(h16:n<=16)(c:Nat)(e:Bool)(c2:Nat)(e2:Bool)(c3:Nat)(e3:Bool) :
  (ck2.ok (S.map by8) cs o n ds p hs q=true->CallTo Try.prog 59 [.agg (S.map by8),.ros cs o n c e,.ros ds p n c2 e2,.ros hs q n c3 e3] [] (.tup [.slc 0 0 n n 32,.bool true]) [.cells (ck2.sec (S.map by8) cs o n ds p)] []) /\
  (ck2.ok (S.map by8) cs o n ds p hs q=false->CallTo Try.prog 59 [.agg (S.map by8),.ros cs o n c e,.ros ds p n c2 e2,.ros hs q n c3 e3] [] (.tup [.nils,.bool false]) [] []):=by
 by_cases h1:1<=n
 ·obtain⟨k1,k2⟩:=q6o (S:=S) (ds:=ds) (p:=p) (hs:=hs) (q:=q) hsh h1
  rw[k1,k2]
  have key:∀ Q:AV->Hl->Prop,(ck0.ok (S.map by8) ((rootL cs o n).map by8) hs q n ds p=true->Q (.tup [.slc 0 0 n n 32,.bool true]) [.cells (ck0.sec (S.map by8) ((rootL cs o n).map by8) n ds p)])->(ck0.ok (S.map by8) ((rootL cs o n).map by8) hs q n ds p=false->Q (.tup [.nils,.bool false]) []) ->
    ∃ r H' lg,CallTo Try.prog 59 [.agg (S.map by8),.ros cs o n c e,.ros ds p n c2 e2,.ros hs q n c3 e3] [] r H' lg/\Q r H':=by
   intro Q q1 q2
   refine qcu q5j q6v (qaj ok59) (qad 59 vf59) (n:=200) (g:=kdYes) ?_
   rw[vc59,q7r hsh]
   refine Br.f (by rw[nOfn,nLss]; exact decide_eq_false (by omega)) (Br.f (by rw[nOfn,nGtr]; exact decide_eq_false (by omega)) (Br.f (by rw[nOfn,nNeq]; simp) (Br.f (by rw[nOfn,nNeq]; simp) ⟨hsh,ckeq (by
    have:ops0.len (jx0.jn cs o n)=((rootL cs o n).map by8).length:=rfl
    rw[this,List.length_map,q53 hsh]) ⟨⟨rfl,rfl,rfl,pkey S hS,pkey _ (q53 hsh),hh,hx,h1,h16⟩,Br.mk q1 q2⟩⟩)))
  refine⟨fun ht => ?_,fun hf => ?_⟩
  ·obtain⟨r,H',lg,hc,rfl,rfl⟩:=key (fun r H=>r=_/\H=_) (fun _=>⟨rfl,rfl⟩) (fun h=>by rw[ht] at h;cases h)
   exact q5i hc
  ·obtain⟨r,H',lg,hc,rfl,rfl⟩:=key (fun r H=>r=_/\H=_) (fun h=>by rw[hf] at h;cases h) (fun _=>⟨rfl,rfl⟩)
   exact q5i hc
 ·have hz:ck2.ok (S.map by8) cs o n ds p hs q=false:=by
   show(decide (1<=n) && _)=false
   rw[decide_eq_false h1,Bool.false_and]
  rw[hz]
  refine⟨fun h=>(by cases h),fun _ => ?_⟩
  obtain⟨r,H',lg,hc,rfl⟩:=qcu (Q:=fun r H lg=>r = .tup [.nils,.bool false]) q5j q6v (qaj ok59) (qad 59 vf59) (n:=200) (g:=kdYes) (vals := [.agg (S.map by8),.ros cs o n c e,.ros ds p n c2 e2,.ros hs q n c3 e3]) (H := []) (by
   have hv:=vc59 jy0 jx0 hf0 js0 ck0 (S.map by8) cs o n c e ds p c2 e2 hs q c3 e3 (fun r _=>r = .tup [.nils,.bool false])
   refine hv.mpr (Br.t (by rw[nOfn,nLss]; exact decide_eq_true (by omega)) rfl))
  exact q6l hc
end
end
end Go.Proofs.Vm

namespace Go.Proofs.Vm
set_option maxRecDepth 100000
open Go.Vm
noncomputable section
def sp19(K:JS)(rs sd:List AV)(n:Nat):List AV:=K.spl (ops0.ext rs 0 32) (ops0.ext sd 0 32) (Int.ofNat n)
def tw19(K:JS)(rs sd tn:List AV)(n:Nat):List AV:=ops0.spl (ops0.spl (z8 64) 0 (ops0.ext (sp19 K rs sd n) 0 32)) 32 (ops0.ext tn 0 32)
def ot19(S:JX)(K:JS)(rs sd tn:List AV)(n:Nat):List AV:=ops0.spl (ops0.ext (sp19 K rs sd n) 0 (ops0.mul n 32)) 0 (S.jn (tw19 K rs sd tn n) 0 2)
noncomputable def lp19a:VC:=vp [1,1,1,1,1,0,1,0,0] vf19.body
def fr19a(n:Nat)(x y:AV)(i:Nat):Fr := [.top,.top,.top,.int .i64 (Int.ofNat n),.top,.ptr 0 0,.top,.ptr 2 0,.top,.ptr 3 0,.top,.slc 4 0 n n 32,.top,x,y,.int .i64 (Int.ofNat i),.top,.top,.top,.top,.top,.top,.top,.top,.top,.top,.top,.top,.top,.top,.top,.top,.top,.top,.top,.top,.top,.top,.top,.top,.top,.top,.top,.top,.top,.top,.top,.top,.top,.top,.top,.top,.top,.top,.top,.top,.top,.top,.top,.top,.top,.top,.top,.top,.top,.top,.top,.top,.top,.top,.top,.top,.top,.top,.top,.top,.top,.top,.top,.top,.top,.top,.top,.top,.top,.top,.top,.top,.top,.top,.top,.top,.top,.top,.top,.top,.top,.top,.top,.top,.top,.top,.top,.top,.top,.top,.top,.top,.top,.top,.top,.top,.top,.top,.top,.top,.top,.top,.top,.top,.top,.top,.top,.top,.top,.top,.top,.top,.top,.top,.top,.top,.top,.top,.top,.top,.top,.top,.top,.top,.top,.top,.top,.top,.top,.top,.top,.top]
def mk19a:List Bool := [true,true,true,false,true,false,true,false,true,false,true,false,true,false,false,false,true,true,true,true,true,true,true,true,true,true,true,true,true,true,true,true,true,true,true,true,true,true,true,true,true,true,true,true,true,true,true,true,true,true,true,true,true,true,true,true,true,true,true,true,true,true,true,true,true,true,true,true,true,true,true,true,true,true,true,true,true,true,true,true,true,true,true,true,true,true,true,true,true,true,true,true,true,true,true,true,true,true,true,true,true,true,true,true,true,true,true,true,true,true,true,true,true,true,true,true,true,true,true,true,true,true,true,true,true,true,true,true,true,true,true,true,true,true,true,true,true,true,true,true,true,true,true,true,true,true,true,true]
noncomputable def lp19b:VC:=vp [1,1,1,1,1,1,1,1,0,1,0,0] vf19.body
def fr19c(n i:Nat):Fr := [.top,.top,.top,.int .i64 (Int.ofNat n),.top,.ptr 0 0,.top,.ptr 2 0,.top,.ptr 3 0,.top,.slc 4 0 n n 32,.top,.slc 5 0 n n 1,.slc 6 0 n n 32,.top,.slc 7 0 n n 32,.top,.int .i64 (Int.ofNat i),.top,.top,.top,.top,.top,.top,.top,.top,.top,.top,.top,.top,.top,.top,.top,.top,.top,.top,.top,.top,.top,.top,.top,.top,.top,.top,.top,.top,.top,.top,.top,.top,.top,.top,.top,.top,.top,.top,.top,.top,.top,.top,.top,.top,.top,.top,.top,.top,.top,.top,.top,.top,.top,.top,.top,.top,.top,.top,.top,.top,.top,.top,.top,.top,.top,.top,.top,.top,.top,.top,.top,.top,.top,.top,.top,.top,.top,.top,.top,.top,.top,.top,.top,.top,.top,.top,.top,.top,.top,.top,.top,.top,.top,.top,.top,.top,.top,.top,.top,.top,.top,.top,.top,.top,.top,.top,.top,.top,.top,.top,.top,.top,.top,.top,.top,.top,.top,.top,.top,.top,.top,.top,.top,.top,.top,.top,.top,.top,.top]
def mk19c:List Bool := [true,true,true,false,true,false,true,false,true,false,true,false,true,false,false,true,false,true,false,true,true,true,true,true,true,true,true,true,true,true,true,true,true,true,true,true,true,true,true,true,true,true,true,true,true,true,true,true,true,true,true,true,true,true,true,true,true,true,true,true,true,true,true,true,true,true,true,true,true,true,true,true,true,true,true,true,true,true,true,true,true,true,true,true,true,true,true,true,true,true,true,true,true,true,true,true,true,true,true,true,true,true,true,true,true,true,true,true,true,true,true,true,true,true,true,true,true,true,true,true,true,true,true,true,true,true,true,true,true,true,true,true,true,true,true,true,true,true,true,true,true,true,true,true,true,true,true,true]
def PW19(rs sd st tn ls:List AV)(n:Nat):Prop:=PKey rs/\flatL sd/\PKey st/\flatL tn/\flatL ls/\1<=n/\n<=16
structure VS where
 ix:Nat->List AV
 hh:List AV->List AV->Nat->List AV
def PV19(V:VS)(G:CK2)(n:Nat)(rs sd st tn ls ds hs sc:List AV):Prop:=PW19 rs sd st tn ls n/\ds=V.ix n/\hs=V.hh rs st n/\sc=G.sec st ls 0 n ds 0/\G.ok st ls 0 n ds 0 hs 0=true
def ln19a(V:VS):LnF:=fun n0 b fr H=>match slot fr 3,slot fr 13,H with
 | .int .i64 (.ofNat n),.nils,[.cells rs,.cells sd,.cells st,.cells tn,.cells ls]=>some (n0=0/\VCis b lp19a/\forget mk19a fr=fr19a n .nils .nils 0/\PW19 rs sd st tn ls n,
  .ok (.exit 0) (fr19a n (.slc 5 0 n n 1) (.slc 6 0 n n 32) n) [.cells rs,.cells sd,.cells st,.cells tn,.cells ls,.cells (V.ix n),.cells (V.hh rs st n)])
 | _,_,_=>none
def ln19c(V:VS)(G:CK2):LnF:=fun n0 b fr H=>match slot fr 3,slot fr 16,H with
 | .int .i64 (.ofNat n),.slc 7 _ _ _ _,[.cells rs,.cells sd,.cells st,.cells tn,.cells ls,.cells ds,.cells hs,.cells sc]=>some (n0=0/\VCis b lp19b/\forget mk19c fr=fr19c n 0/\PV19 V G n rs sd st tn ls ds hs sc,
  .ok (.exit 2) (fr19c n n) [.cells rs,.cells sd,.cells st,.cells tn,.cells ls,.cells ds,.cells hs,.cells sc])
 | _,_,_=>none
def pO19(S:JX)(K:JS)(V:VS)(rs sd st tn:List AV)(n:Nat):Prop:=P58c (ops0.ext st 0 32) (ot19 S K rs sd tn n) 0 n (V.ix n) 0 n (V.hh rs st n) 0 n
def bO19(S:JX)(K:JS)(G:CK2)(V:VS)(rs sd st tn:List AV)(n:Nat):Bool:=G.ok (ops0.ext st 0 32) (ot19 S K rs sd tn n) 0 n (V.ix n) 0 (V.hh rs st n) 0
def pL19(K:JS)(V:VS)(rs sd st:List AV)(n:Nat):Prop:=P58c (ops0.ext st 0 32) (sp19 K rs sd n) 32 (ops0.sub n 1) (V.ix n) 1 (ops0.sub n 1) (V.hh rs st n) 32 (ops0.sub n 1)
def bL19(K:JS)(G:CK2)(V:VS)(rs sd st:List AV)(n:Nat):Bool:=G.ok (ops0.ext st 0 32) (sp19 K rs sd n) 32 (ops0.sub n 1) (V.ix n) 1 (V.hh rs st n) 32
def ln19(V:VS)(G:CK2):LnF:=lnOr (ln19a V) (ln19c V G)
theorem q94(S:JX)(Y:JY)(F:HF)(K:JS)(n i:Nat)(rs sd st tn ls:List AV)(Q:Ex->Fr->Hl->Prop) :
  (vm (vcA kdYes (cnJ5 S Y F K) noLn) ops0 noTab 100 0 lp19a (fr19a n .nils .nils i) [.cells rs,.cells sd,.cells st,.cells tn,.cells ls] [] (bodyX mk19a Q)) =
 ((Br (ops0.cmp .lss (Int.ofNat i) (Int.ofNat n))
 (Chk (ops0.le 32 (ops0.len rs))
 (Chk (ops0.le 32 (ops0.len st))
 (((PKey (ops0.ext rs 0 32)) /\
 (PKey (ops0.ext st 0 32))) /\
 (Chk (ops0.eq (ops0.len (JY.hsh Y (ops0.ext rs 0 32) (ops0.ext st 0 32) (ops0.bin .mul .i64 (Int.ofNat 3) (Int.ofNat i)))) 32)
 (Chk (ops0.le 32 (ops0.len (ops0.spl (z8 32) 0 (JY.hsh Y (ops0.ext rs 0 32) (ops0.ext st 0 32) (ops0.bin .mul .i64 (Int.ofNat 3) (Int.ofNat i))))))
 (Q Ex.norm (tp 3 ((.int .i64 (.ofNat n)) :: .top::(.ptr 0 0) :: .top::(.ptr 2 0) :: .top::(.ptr 3 0) :: .top::(.slc 4 0 n n 32) :: .top::(.slc 5 0 1 1 1)::(.slc 6 0 1 1 32)::(.int .i64 (ops0.bin .add .i64 (Int.ofNat i) (Int.ofNat 1)))::tp 132 ([]))) [(.cells rs),(.cells sd),(.cells st),(.cells tn),(.cells ls),(.cells [(.int .i64 (ops0.bin .mul .i64 (Int.ofNat 3) (Int.ofNat i)))]),(.cells (ops0.ext (ops0.spl (z8 32) 0 (JY.hsh Y (ops0.ext rs 0 32) (ops0.ext st 0 32) (ops0.bin .mul .i64 (Int.ofNat 3) (Int.ofNat i)))) 0 32))]))))))
 (Q (Ex.exit 0) (tp 3 ((.int .i64 (.ofNat n)) :: .top::(.ptr 0 0) :: .top::(.ptr 2 0) :: .top::(.ptr 3 0) :: .top::(.slc 4 0 n n 32) :: .top :: .nils :: .nils::(.int .i64 (.ofNat i))::tp 132 ([]))) [(.cells rs),(.cells sd),(.cells st),(.cells tn),(.cells ls)]))):=by kernel_rfl
theorem q8k(S:JX)(Y:JY)(F:HF)(K:JS)(n i:Nat)(rs sd st tn ls ds hs:List AV)(Q:Ex->Fr->Hl->Prop) :
  (vm (vcA kdYes (cnJ5 S Y F K) noLn) ops0 noTab 100 0 lp19a (fr19a n (.slc 5 0 i i 1) (.slc 6 0 i i 32) i) [.cells rs,.cells sd,.cells st,.cells tn,.cells ls,.cells ds,.cells hs] [] (bodyX mk19a Q)) =
 ((Br (ops0.cmp .lss (Int.ofNat i) (Int.ofNat n))
 (Chk (ops0.le (ops0.add 0 (ops0.mul i 1)) (ops0.len ds))
 (Chk (ops0.room i 1 8)
 (Chk (ops0.le 32 (ops0.len rs))
 (Chk (ops0.le 32 (ops0.len st))
 (((PKey (ops0.ext rs 0 32)) /\
 (PKey (ops0.ext st 0 32))) /\
 (Chk (ops0.eq (ops0.len (JY.hsh Y (ops0.ext rs 0 32) (ops0.ext st 0 32) (ops0.bin .mul .i64 (Int.ofNat 3) (Int.ofNat i)))) 32)
 (Chk (ops0.le (ops0.add 0 (ops0.mul i 32)) (ops0.len hs))
 (Chk (ops0.le 32 (ops0.len (ops0.spl (z8 32) 0 (JY.hsh Y (ops0.ext rs 0 32) (ops0.ext st 0 32) (ops0.bin .mul .i64 (Int.ofNat 3) (Int.ofNat i))))))
 (Chk (ops0.room i 1 32)
 (Q Ex.norm (tp 3 ((.int .i64 (.ofNat n)) :: .top::(.ptr 0 0) :: .top::(.ptr 2 0) :: .top::(.ptr 3 0) :: .top::(.slc 4 0 n n 32) :: .top::(.slc 7 0 (ops0.add i 1) (ops0.add i 1) 1)::(.slc 8 0 (ops0.add i 1) (ops0.add i 1) 32)::(.int .i64 (ops0.bin .add .i64 (Int.ofNat i) (Int.ofNat 1)))::tp 132 ([]))) [(.cells rs),(.cells sd),(.cells st),(.cells tn),(.cells ls),.dead,.dead,(.cells (ops0.app (ops0.ext ds 0 (ops0.mul i 1)) [(.int .i64 (ops0.bin .mul .i64 (Int.ofNat 3) (Int.ofNat i)))])),(.cells (ops0.app (ops0.ext hs 0 (ops0.mul i 32)) (ops0.ext (ops0.spl (z8 32) 0 (JY.hsh Y (ops0.ext rs 0 32) (ops0.ext st 0 32) (ops0.bin .mul .i64 (Int.ofNat 3) (Int.ofNat i)))) 0 32)))]))))))))))
 (Q (Ex.exit 0) (tp 3 ((.int .i64 (.ofNat n)) :: .top::(.ptr 0 0) :: .top::(.ptr 2 0) :: .top::(.ptr 3 0) :: .top::(.slc 4 0 n n 32) :: .top::(.slc 5 0 i i 1)::(.slc 6 0 i i 32)::(.int .i64 (.ofNat i))::tp 132 ([]))) [(.cells rs),(.cells sd),(.cells st),(.cells tn),(.cells ls),(.cells ds),(.cells hs)]))):=by kernel_rfl
theorem q74(S:JX)(Y:JY)(F:HF)(K:JS)(n i:Nat)(rs sd st tn ls ds hs sc:List AV)(Q:Ex->Fr->Hl->Prop) :
  (vm (vcA kdYes (cnJ5 S Y F K) noLn) ops0 noTab 100 0 lp19b (fr19c n i) [.cells rs,.cells sd,.cells st,.cells tn,.cells ls,.cells ds,.cells hs,.cells sc] [] (bodyX mk19c Q)) =
 ((Br (ops0.cmp .lss (Int.ofNat i) (Int.ofNat n))
 (Chk (ops0.inr (Int.ofNat i) n)
 (Chk (ops0.le (ops0.add (ops0.adr 0 (Int.ofNat i) 32) 32) (ops0.len sc))
 ((PKey (ops0.ext sc (ops0.adr 0 (Int.ofNat i) 32) 32)) /\
 (Chk (ops0.inr (Int.ofNat i) n)
 (Chk (ops0.le (ops0.add (ops0.adr 0 (Int.ofNat i) 32) 32) (ops0.len hs))
 (Chk (ops0.eq (ops0.len (HF.hash F (ops0.ext sc (ops0.adr 0 (Int.ofNat i) 32) 32))) 32)
 (Chk (ops0.eq (ops0.len (ops0.ext hs (ops0.adr 0 (Int.ofNat i) 32) 32)) 32)
 (Chk (ops0.le 32 (ops0.len (HF.hash F (ops0.ext sc (ops0.adr 0 (Int.ofNat i) 32) 32))))
 (Chk (ops0.le 32 (ops0.len (ops0.ext hs (ops0.adr 0 (Int.ofNat i) 32) 32)))
 (∃ l:(List Int),((((ops0.ext (HF.hash F (ops0.ext sc (ops0.adr 0 (Int.ofNat i) 32) 32)) 0 32):(List AV))=(List.map (.int .u8) l)) /\
 (∃ l1:(List Int),((((ops0.ext (ops0.ext hs (ops0.adr 0 (Int.ofNat i) 32) 32) 0 32):(List AV))=(List.map (.int .u8) l1)) /\
 (Br (ops0.eqi l l1)
 (Q Ex.norm (tp 3 ((.int .i64 (.ofNat n)) :: .top::(.ptr 0 0) :: .top::(.ptr 2 0) :: .top::(.ptr 3 0) :: .top::(.slc 4 0 n n 32) :: .top::(.slc 5 0 n n 1)::(.slc 6 0 n n 32) :: .top::(.slc 7 0 n n 32) :: .top::(.int .i64 (ops0.bin .add .i64 (Int.ofNat i) (Int.ofNat 1)))::tp 129 ([]))) [(.cells rs),(.cells sd),(.cells st),(.cells tn),(.cells ls),(.cells ds),(.cells hs),(.cells sc)])
 (Q Ex.ret (tp 3 ((.int .i64 (.ofNat n)) :: .top::(.ptr 0 0) :: .top::(.ptr 2 0) :: .top::(.ptr 3 0) :: .top::(.slc 4 0 n n 32) :: .top::(.slc 5 0 n n 1)::(.slc 6 0 n n 32) :: .top::(.slc 7 0 n n 32) :: .top::(.int .i64 (.ofNat i))::tp 129 ([]))) [(.cells rs),(.cells sd),(.cells st),(.cells tn),(.cells ls),(.cells ds),(.cells hs),(.cells sc)])))))))))))))))
 (Q (Ex.exit 2) (tp 3 ((.int .i64 (.ofNat n)) :: .top::(.ptr 0 0) :: .top::(.ptr 2 0) :: .top::(.ptr 3 0) :: .top::(.slc 4 0 n n 32) :: .top::(.slc 5 0 n n 1)::(.slc 6 0 n n 32) :: .top::(.slc 7 0 n n 32) :: .top::(.int .i64 (.ofNat i))::tp 129 ([]))) [(.cells rs),(.cells sd),(.cells st),(.cells tn),(.cells ls),(.cells ds),(.cells hs),(.cells sc)]))):=by kernel_rfl
theorem vc19n(S:JX)(Y:JY)(F:HF)(K:JS)(G:CK2)(rs sd st tn:List AV)(n:Int)(Q:AV->Prop) :
  (vcall (vcA kdYes (cnJ6 S Y F K G) lnX) ops0 (qah 19 vf19) 200 vf19 [.agg rs,.agg sd,.agg st,.int .i64 n,.agg tn] [] (fun r _ _=>Q r)) =
 ((Chk (ops0.le 32 (ops0.len rs))
 (Chk (ops0.le 32 (ops0.len sd))
 (((PKey (ops0.ext rs 0 32)) /\
 (PKey (ops0.ext sd 0 32))) /\
 (Br (JS.inN K n)
 (True /\
 (False /\
 (Chk (ops0.le 32 (ops0.len st))
 ((P58c (ops0.ext st 0 32) (JS.spl K (ops0.ext rs 0 32) (ops0.ext sd 0 32) n) 0 (ops0.nat n) [] 0 0 [] 0 0) /\
 (Br (CK2.ok G (ops0.ext st 0 32) (JS.spl K (ops0.ext rs 0 32) (ops0.ext sd 0 32) n) 0 (ops0.nat n) [] 0 [] 0)
 (Br (ops0.cmp .neq (ops0.ofn (ops0.nat n)) n)
 (Q (.bool Bool.false))
 (False /\
 (Chk (ops0.le 32 (ops0.len st))
 (Chk (ops0.inb (Int.ofNat 1) (ops0.nat n))
 False))))
 (Q (.bool Bool.false)))))))
 (True /\
 (True /\
 (Q (.bool Bool.true))))))))):=by kernel_rfl
theorem vc19(S:JX)(Y:JY)(F:HF)(K:JS)(G:CK2)(V:VS)(rs sd st tn:List AV)(n:Nat)(Q:AV->Prop) :
  (vcall (vcA kdYes (cnJ6 S Y F K G) (ln19 V G)) ops0 (qah 19 vf19) 200 vf19 [.agg rs,.agg sd,.agg st,.int .i64 (Int.ofNat n),.agg tn] [] (fun r _ _=>Q r)) =
 ((Chk (ops0.le 32 (ops0.len rs))
 (Chk (ops0.le 32 (ops0.len sd))
 (((PKey (ops0.ext rs 0 32)) /\
 (PKey (ops0.ext sd 0 32))) /\
 (Br (JS.inN K (Int.ofNat n))
 (True /\
 ((((0:Nat)=0) /\
 ((VCis lp19a lp19a) /\
 ((((tp 3 ((.int .i64 (.ofNat n)) :: .top::(.ptr 0 0) :: .top::(.ptr 2 0) :: .top::(.ptr 3 0) :: .top::(.slc 4 0 n n 32) :: .top :: .nils :: .nils::(.int .i64 (.ofNat 0))::tp 132 ([]))):Fr)=(tp 3 ((.int .i64 (.ofNat n)) :: .top::(.ptr 0 0) :: .top::(.ptr 2 0) :: .top::(.ptr 3 0) :: .top::(.slc 4 0 n n 32) :: .top :: .nils :: .nils::(.int .i64 (.ofNat 0))::tp 132 ([])))) /\
 (PW19 rs sd st tn (sp19 K rs sd n) n)))) /\
 (Chk (ops0.le 32 (ops0.len st))
 ((P58c (ops0.ext st 0 32) (sp19 K rs sd n) 0 n (VS.ix V n) 0 n (VS.hh V rs st n) 0 n) /\
 (Br (CK2.ok G (ops0.ext st 0 32) (sp19 K rs sd n) 0 n (VS.ix V n) 0 (VS.hh V rs st n) 0)
 (Br (ops0.cmp .neq (ops0.ofn n) (Int.ofNat n))
 (Q (.bool Bool.false))
 ((((0:Nat)=0) /\
 ((VCis lp19b lp19b) /\
 ((((tp 3 ((.int .i64 (.ofNat n)) :: .top::(.ptr 0 0) :: .top::(.ptr 2 0) :: .top::(.ptr 3 0) :: .top::(.slc 4 0 n n 32) :: .top::(.slc 5 0 n n 1)::(.slc 6 0 n n 32) :: .top::(.slc 7 0 n n 32) :: .top::(.int .i64 (.ofNat 0))::tp 129 ([]))):Fr)=(tp 3 ((.int .i64 (.ofNat n)) :: .top::(.ptr 0 0) :: .top::(.ptr 2 0) :: .top::(.ptr 3 0) :: .top::(.slc 4 0 n n 32) :: .top::(.slc 5 0 n n 1)::(.slc 6 0 n n 32) :: .top::(.slc 7 0 n n 32) :: .top::(.int .i64 (.ofNat 0))::tp 129 ([])))) /\
 (PV19 V G n rs sd st tn (sp19 K rs sd n) (VS.ix V n) (VS.hh V rs st n) (CK2.sec G (ops0.ext st 0 32) (sp19 K rs sd n) 0 n (VS.ix V n) 0))))) /\
 (Chk (ops0.le 32 (ops0.len st))
 (Chk (ops0.inb (Int.ofNat 1) n)
 (Chk (ops0.inb (Int.ofNat 1) n)
 (Chk (ops0.inb (Int.ofNat 1) n)
 ((pL19 K V rs sd st n) /\
 (Br (bL19 K G V rs sd st n)
 (Chk (ops0.le 32 (ops0.len st))
 (Chk (ops0.inb (Int.ofNat 1) n)
 (Chk (ops0.inb (Int.ofNat 1) n)
 (Chk (ops0.inb (Int.ofNat 1) n)
 ((pL19 K V rs sd st n) /\
 (Br (bL19 K G V rs sd st n)
 (Chk (ops0.le (ops0.add 0 (ops0.mul n 32)) (ops0.len (sp19 K rs sd n)))
 (Chk (ops0.room 0 n 32)
 (Chk (ops0.inr (Int.ofNat 0) n)
 (Chk (ops0.le 32 (ops0.len (sp19 K rs sd n)))
 (Chk (ops0.le 32 (ops0.len tn))
 (Chk (ops0.eq (ops0.len (ops0.ext (sp19 K rs sd n) 0 32)) 32)
 (Chk (ops0.eq (ops0.len (ops0.ext tn 0 32)) 32)
 (Chk (ops0.le 64 (ops0.len (ops0.spl (z8 64) 0 (ops0.ext (sp19 K rs sd n) 0 32))))
 ((PSh (tw19 K rs sd tn n) 0 2) /\
 (Chk (ops0.inr (Int.ofNat 0) n)
 (Chk (ops0.eq (ops0.len (JX.jn S (tw19 K rs sd tn n) 0 2)) 32)
 (Chk (ops0.le 32 (ops0.len (ops0.ext (sp19 K rs sd n) 0 (ops0.mul n 32))))
 (Chk (ops0.le 32 (ops0.len st))
 ((pO19 S K V rs sd st tn n) /\
 (Br (bO19 S K G V rs sd st tn n)
 (Chk (ops0.le 32 (ops0.len st))
 ((pO19 S K V rs sd st tn n) /\
 (Br (bO19 S K G V rs sd st tn n)
 (Q (.bool Bool.true))
 (Q (.bool Bool.false)))))
 (Chk (ops0.le 32 (ops0.len st))
 ((pO19 S K V rs sd st tn n) /\
 (Br (bO19 S K G V rs sd st tn n)
 (Q (.bool Bool.false))
 (Q (.bool Bool.true))))))))))))))))))))
 (Chk (ops0.le (ops0.add 0 (ops0.mul n 32)) (ops0.len (sp19 K rs sd n)))
 (Chk (ops0.room 0 n 32)
 (Chk (ops0.inr (Int.ofNat 0) n)
 (Chk (ops0.le 32 (ops0.len (sp19 K rs sd n)))
 (Chk (ops0.le 32 (ops0.len tn))
 (Chk (ops0.eq (ops0.len (ops0.ext (sp19 K rs sd n) 0 32)) 32)
 (Chk (ops0.eq (ops0.len (ops0.ext tn 0 32)) 32)
 (Chk (ops0.le 64 (ops0.len (ops0.spl (z8 64) 0 (ops0.ext (sp19 K rs sd n) 0 32))))
 ((PSh (tw19 K rs sd tn n) 0 2) /\
 (Chk (ops0.inr (Int.ofNat 0) n)
 (Chk (ops0.eq (ops0.len (JX.jn S (tw19 K rs sd tn n) 0 2)) 32)
 (Chk (ops0.le 32 (ops0.len (ops0.ext (sp19 K rs sd n) 0 (ops0.mul n 32))))
 (Chk (ops0.le 32 (ops0.len st))
 ((pO19 S K V rs sd st tn n) /\
 (Br (bO19 S K G V rs sd st tn n)
 (Chk (ops0.le 32 (ops0.len st))
 ((pO19 S K V rs sd st tn n) /\
 (Br (bO19 S K G V rs sd st tn n)
 (Q (.bool Bool.false))
 (Q (.bool Bool.false)))))
 (Chk (ops0.le 32 (ops0.len st))
 ((pO19 S K V rs sd st tn n) /\
 (Br (bO19 S K G V rs sd st tn n)
 (Q (.bool Bool.false))
 (Q (.bool Bool.false))))))))))))))))))))))))))
 (Chk (ops0.le 32 (ops0.len st))
 (Chk (ops0.inb (Int.ofNat 1) n)
 (Chk (ops0.inb (Int.ofNat 1) n)
 (Chk (ops0.inb (Int.ofNat 1) n)
 ((pL19 K V rs sd st n) /\
 (Br (bL19 K G V rs sd st n)
 (Chk (ops0.le (ops0.add 0 (ops0.mul n 32)) (ops0.len (sp19 K rs sd n)))
 (Chk (ops0.room 0 n 32)
 (Chk (ops0.inr (Int.ofNat 0) n)
 (Chk (ops0.le 32 (ops0.len (sp19 K rs sd n)))
 (Chk (ops0.le 32 (ops0.len tn))
 (Chk (ops0.eq (ops0.len (ops0.ext (sp19 K rs sd n) 0 32)) 32)
 (Chk (ops0.eq (ops0.len (ops0.ext tn 0 32)) 32)
 (Chk (ops0.le 64 (ops0.len (ops0.spl (z8 64) 0 (ops0.ext (sp19 K rs sd n) 0 32))))
 ((PSh (tw19 K rs sd tn n) 0 2) /\
 (Chk (ops0.inr (Int.ofNat 0) n)
 (Chk (ops0.eq (ops0.len (JX.jn S (tw19 K rs sd tn n) 0 2)) 32)
 (Chk (ops0.le 32 (ops0.len (ops0.ext (sp19 K rs sd n) 0 (ops0.mul n 32))))
 (Chk (ops0.le 32 (ops0.len st))
 ((pO19 S K V rs sd st tn n) /\
 (Br (bO19 S K G V rs sd st tn n)
 (Chk (ops0.le 32 (ops0.len st))
 ((pO19 S K V rs sd st tn n) /\
 (Br (bO19 S K G V rs sd st tn n)
 (Q (.bool Bool.false))
 (Q (.bool Bool.false)))))
 (Chk (ops0.le 32 (ops0.len st))
 ((pO19 S K V rs sd st tn n) /\
 (Br (bO19 S K G V rs sd st tn n)
 (Q (.bool Bool.false))
 (Q (.bool Bool.false))))))))))))))))))))
 (Chk (ops0.le (ops0.add 0 (ops0.mul n 32)) (ops0.len (sp19 K rs sd n)))
 (Chk (ops0.room 0 n 32)
 (Chk (ops0.inr (Int.ofNat 0) n)
 (Chk (ops0.le 32 (ops0.len (sp19 K rs sd n)))
 (Chk (ops0.le 32 (ops0.len tn))
 (Chk (ops0.eq (ops0.len (ops0.ext (sp19 K rs sd n) 0 32)) 32)
 (Chk (ops0.eq (ops0.len (ops0.ext tn 0 32)) 32)
 (Chk (ops0.le 64 (ops0.len (ops0.spl (z8 64) 0 (ops0.ext (sp19 K rs sd n) 0 32))))
 ((PSh (tw19 K rs sd tn n) 0 2) /\
 (Chk (ops0.inr (Int.ofNat 0) n)
 (Chk (ops0.eq (ops0.len (JX.jn S (tw19 K rs sd tn n) 0 2)) 32)
 (Chk (ops0.le 32 (ops0.len (ops0.ext (sp19 K rs sd n) 0 (ops0.mul n 32))))
 (Chk (ops0.le 32 (ops0.len st))
 ((pO19 S K V rs sd st tn n) /\
 (Br (bO19 S K G V rs sd st tn n)
 (Chk (ops0.le 32 (ops0.len st))
 ((pO19 S K V rs sd st tn n) /\
 (Br (bO19 S K G V rs sd st tn n)
 (Q (.bool Bool.true))
 (Q (.bool Bool.false)))))
 (Chk (ops0.le 32 (ops0.len st))
 ((pO19 S K V rs sd st tn n) /\
 (Br (bO19 S K G V rs sd st tn n)
 (Q (.bool Bool.false))
 (Q (.bool Bool.true))))))))))))))))))))))))))))))))))
 (Q (.bool Bool.false)))))))
 (True /\
 (True /\
 (Q (.bool Bool.true))))))))):=by kernel_rfl
end
end Go.Proofs.Vm

namespace Go.Proofs.Vm
set_option maxRecDepth 100000
open Go.Vm
noncomputable section
theorem lookJ{P:Program}{f:Nat}{vals vals0:List AV}{r0:AV}{cs:List AV}{H:Hl}{lg:List Nat}(hc:CallTo P f vals0 [] r0 [.cells cs] lg)(h1:flatL cs)(h:Vws H vals vals0) :
  CallTo P f vals H (backV [] H.length r0) (join H [.cells cs]) []:=by
 have hc':CallTo P f (renL (pickN []) (viewF H [] 3) true vals) (pickH (viewF H [] 3) [] H) r0 [.cells cs] lg:=hc.le fun ρ w us hv=>qnn h hv
 have h:=CallTo.frame (H:=H) (vals:=vals) [] 3 List.nodup_nil (fun b hb=>by cases hb) hc' (fun b c hp=>by cases hp)
 have e1:backH [] H [.cells cs]=join H [.cells cs]:=by
  apply List.ext_getElem?
  intro b
  rw[qck,qbx]
  by_cases hb:b<H.length
  ·rw[if_pos hb,List.getElem?_append_left hb]; rfl
  ·rw[if_neg hb,List.getElem?_append_right (by omega)]
   simp only[List.length_nil,Nat.zero_add]
   cases b - H.length with
   | zero=>simp[backB,renB,qaa h1]
   | succ d=>simp
 have e2:backL [] lg = []:=by simp[backL]
 rw[e1,e2] at h
 exact h
theorem q7v(H:Hl)(n:Nat):backV [] H.length (.tup [.slc 0 0 n n 32,.bool true]) = .tup [.slc (size H) 0 n n 32,.bool true]:=by
 unfold backV
 simp[ren,renL,backN,qay]
theorem q7t(H:Hl):backV [] H.length (.tup [.nils,.bool false]) = .tup [.nils,.bool false]:=by
 unfold backV
 simp only[ren,renL]
theorem q6a {f : Nat} (hv : ∀ {S : List UInt8} {cs : List AV} {o n : Nat} {ds : List AV} {p : Nat} {hs : List AV} {q : Nat}, S.length = 32 -> PSh cs o n -> PIx ds p n -> PSh hs q n -> n <= 16 -> ∀ (c : Nat) (e : Bool) (c2 : Nat) (e2 : Bool) (c3 : Nat) (e3 : Bool),
      (ck2.ok (S.map by8) cs o n ds p hs q=true->CallTo Try.prog f [.agg (S.map by8),.ros cs o n c e,.ros ds p n c2 e2,.ros hs q n c3 e3] [] (.tup [.slc 0 0 n n 32,.bool true]) [.cells (ck2.sec (S.map by8) cs o n ds p)] []) /\
      (ck2.ok (S.map by8) cs o n ds p hs q=false->CallTo Try.prog f [.agg (S.map by8),.ros cs o n c e,.ros ds p n c2 e2,.ros hs q n c3 e3] [] (.tup [.nils,.bool false]) [] []))
    {H:Hl} {x y z:AV} {ss cs ds hs:List AV} {o n c p n2 c2 q n3 c3:Nat} {e e2 e3:Bool} (hx:vw1 H x = .ros cs o n c e) (hy:vw1 H y = .ros ds p n2 c2 e2) (hz:vw1 H z = .ros hs q n3 c3 e3) (hP:P58c ss cs o n ds p n2 hs q n3) :
    CallTo Try.prog f [.agg ss,x,y,z] H (CRes.cond (ck2.ok ss cs o n ds p hs q) (.ok (.tup [.slc (size H) 0 n n 32,.bool true]) (join H [.cells (ck2.sec ss cs o n ds p)]) []) (.ok (.tup [.nils,.bool false]) H [])).fin.1
      (CRes.cond (ck2.ok ss cs o n ds p hs q) (.ok (.tup [.slc (size H) 0 n n 32,.bool true]) (join H [.cells (ck2.sec ss cs o n ds p)]) []) (.ok (.tup [.nils,.bool false]) H [])).fin.2.1
      (CRes.cond (ck2.ok ss cs o n ds p hs q) (.ok (.tup [.slc (size H) 0 n n 32,.bool true]) (join H [.cells (ck2.sec ss cs o n ds p)]) []) (.ok (.tup [.nils,.bool false]) H [])).fin.2.2:=by
  obtain⟨e4,e5,⟨S,hS,rfl⟩,hsh,hpx,hq,h16⟩:=hP
  subst e4
  subst e5
  obtain⟨h1,h2⟩:=hv hS hsh hpx hq h16 c e c2 e2 c3 e3
  have hV:=Vws.cons (vwA H S) (.cons (Vw.one hx hsh.1) (.cons (Vw.one hy hpx.1) (.cons (Vw.one hz hq.1) .nil)))
  cases hk:ck2.ok (S.map by8) cs o _ ds p hs q with
  | true =>
    have h:=lookJ (H:=H) (h1 hk) (qac _) hV
    rw[q7v] at h
    exact h
  | false =>
    have h:=CallTo.lookV (H:=H) (h2 hk) hV
    rw[q7t] at h
    exact h
theorem q7h:CnOK Try.prog (cnJ6 jx0 jy0 hf0 js0 ck2):=by
 refine qfl ?_ q5t
 intro f vals H p x e hp
 dsimp only at e
 split at e
 ·split at e<;>cases e
  rename_i hx hy hz
  exact q6a (fun h1 h2 h3 h4 h5 c e c2 e2 c3 e3=>q86 h1 h2 h3 h4 h5 c e c2 e2 c3 e3) hx hy hz hp
 ·split at e<;>cases e
  rename_i hx hy hz
  exact q6a (fun h1 h2 h3 h4 h5 c e c2 e2 c3 e3=>q87 h1 h2 h3 h4 h5 c e c2 e2 c3 e3) hx hy hz hp
 ·cases e
def ixL(n:Nat):List Int:=(List.range n).map fun i=>Int.ofNat (3*i)
def ixC(n:Nat):List AV:=(ixL n).map (AV.int .i64)
def hshs(r t:List UInt8)(n:Nat):List (List UInt8):=(List.range n).map fun i=>hshL r t (Int.ofNat (3*i))
def vs0:VS:=⟨ixC,fun rs st n=>(hshs (qag rs) (qag st) n).flatten.map by8⟩
theorem q5r(n:Nat):(ixL n).length=n:=by unfold ixL;rw[List.length_map,List.length_range]
theorem q6c(n:Nat):(ixC n).length=n:=by unfold ixC;rw[List.length_map,q5r]
theorem q70(n:Nat):ixC (n+1)=ixC n ++ [.int .i64 (Int.ofNat (3*n))]:=by
 unfold ixC ixL
 rw[List.range_succ,List.map_append,List.map_append]
 rfl
theorem q8i{n i:Nat}(h:i<n):(ixL n)[i]? = some (Int.ofNat (3*i)):=by
 unfold ixL
 rw[List.getElem?_map,List.getElem?_range h]
 rfl
theorem q5d(r t:List UInt8)(n:Nat):(hshs r t n).length=n:=by unfold hshs;rw[List.length_map,List.length_range]
theorem q6n(r t:List UInt8)(n:Nat):hshs r t (n+1)=hshs r t n ++ [hshL r t (Int.ofNat (3*n))]:=by
 unfold hshs
 rw[List.range_succ,List.map_append]
 rfl
theorem q7m{r t:List UInt8}{n i:Nat}(h:i<n):(hshs r t n)[i]? = some (hshL r t (Int.ofNat (3*i))):=by
 unfold hshs
 rw[List.getElem?_map,List.getElem?_range h]
 rfl
theorem q51(r t:List UInt8)(n:Nat):∀ x,x∈hshs r t n->x.length=32:=by
 intro x hx
 obtain⟨i,_,rfl⟩:=List.mem_map.1 hx
 exact q5c r t _
theorem q6g(r t:List UInt8){n:Nat}(h:n<=16):PSh ((hshs r t n).flatten.map by8) 0 n:=qp7 (q51 r t n) (by rw[q5d]; omega) (q5d r t n).symm
theorem q8a(n:Nat):IxAt (ixC n) 0 n (ixL n):=⟨q5r n,fun j x h=>by
 unfold ixC
 rw[Nat.zero_add,List.getElem?_map,h]
 rfl⟩
theorem q7a(n:Nat):(ixL n).Nodup:=by
 unfold ixL List.Nodup
 rw[List.pairwise_map]
 exact(List.nodup_range (n:=n)).imp (fun h he=>h (by have:=Int.ofNat.inj he;omega))
theorem q6q{n:Nat}(h:n<=16):PIx (ixC n) 0 n:=⟨qaz _ _,ixL n,q8a n,q7a n,fun x hx=>by
 obtain⟨i,hi,rfl⟩:=List.mem_map.1 hx
 have:=List.mem_range.1 hi
 simp only[Int.ofNat_eq_natCast]
 omega⟩
theorem q6z{cs:List AV}{o n:Nat}(h:PSh cs o n)(h1:1<=n):PSh cs (o+32) (n - 1):=by
 obtain⟨hf,hl,hn,L,e1,e2⟩:=h
 refine⟨hf,by omega,by omega,L.tail,by rw[List.length_tail,e1],fun i x hx => ?_⟩
 rw[List.getElem?_tail] at hx
 have:=e2 (i+1) x hx
 rw[show o+32+i*32=o+(i+1)*32 by omega]
 exact this
theorem q7s{ds:List AV}{p n:Nat}(h:PIx ds p n):PIx ds (p+1) (n - 1):=by
 obtain⟨hf,I,⟨e1,e2⟩,nd,rg⟩:=h
 refine⟨hf,I.tail,⟨by rw[List.length_tail,e1],fun j x hx => ?_⟩,nd.sublist (List.tail_sublist _),fun x hx=>rg x (List.mem_of_mem_tail hx)⟩
 rw[List.getElem?_tail] at hx
 have:=e2 (j+1) x hx
 rw[show p+1+j=p+(j+1) by omega]
 exact this
section
variable {r t:List UInt8}{sd tn ls:List AV}{n:Nat}
def x19(b z i:Nat):AV:=if i=0 then .nils else .slc b 0 i i z
def o19(r t:List UInt8)(i:Nat):Hl:=if i=0 then [] else [.cells (ixC i),.cells ((hshs r t i).flatten.map by8)]
def H19(r t:List UInt8)(sd tn ls:List AV)(i:Nat):Hl := [.cells (r.map by8),.cells sd,.cells (t.map by8),.cells tn,.cells ls]++o19 r t i
theorem q7j{σ:Nat->Option Nat}{φ:Nat->Option (List AV)}(h0:σ 0=some 0)(h2:σ 2=some 2)(h3:σ 3=some 3)(h4:σ 4=some 4)(h7:σ 7=some 5)(h8:σ 8=some 6)(k i:Nat) :
  forget mk19a (renL σ φ true (fr19a n (.slc 7 0 k k 1) (.slc 8 0 k k 32) i))=fr19a n (.slc 5 0 k k 1) (.slc 6 0 k k 32) i:=by
 unfold fr19a mk19a
 simp only[renL,ren,h0,h2,h3,h4,h7,h8,forget]
theorem hs19(r t:List UInt8)(i:Int):jy0.hsh (r.map by8) (t.map by8) i=(hshL r t i).map by8:=by
 show(hshL (qag _) (qag _) i).map by8=_
 rw[qab,qab]
theorem q8x(hr:r.length=32)(ht:t.length=32)(fd:flatL sd)(fn:flatL tn)(fl:flatL ls)(h16:n<=16){i:Nat}(hi:i<n) :
  qap Try.prog 0 lp19a (fr19a n (x19 5 1 i) (x19 6 32 i) i) (H19 r t sd tn ls i) .norm (fr19a n (x19 5 1 (i+1)) (x19 6 32 (i+1)) (i+1)) (H19 r t sd tn ls (i+1)):=by
 have hl:=q5c r t (Int.ofNat (3*i))
 have eX:x19 5 1 (i+1) = .slc 5 0 (i+1) (i+1) 1:=if_neg (by omega)
 have eY:x19 6 32 (i+1) = .slc 6 0 (i+1) (i+1) 32:=if_neg (by omega)
 have eH:H19 r t sd tn ls (i+1) = [.cells (r.map by8),.cells sd,.cells (t.map by8),.cells tn,.cells ls,.cells (ixC (i+1)),.cells ((hshs r t (i+1)).flatten.map by8)]:=by unfold H19 o19;rw[if_neg (by omega)]; rfl
 rw[eX,eY,eH]
 by_cases h0:i=0
 ·subst h0
  have e1:x19 5 1 0 = .nils:=rfl
  have e2:x19 6 32 0 = .nils:=rfl
  have e3:H19 r t sd tn ls 0 = [.cells (r.map by8),.cells sd,.cells (t.map by8),.cells tn,.cells ls]:=rfl
  have e4:(hshs r t (0+1)).flatten=hshL r t (Int.ofNat (3*0)):=by rw[q6n]; show([] ++ [_]).flatten=_;simp
  rw[e1,e2,e3,e4]
  refine q5a (Q:=fun ex fr H=>ex = .norm/\fr=fr19a n (.slc 5 0 (0+1) (0+1) 1) (.slc 6 0 (0+1) (0+1) 32) (0+1)/\H = [.cells (r.map by8),.cells sd,.cells (t.map by8),.cells tn,.cells ls,.cells (ixC (0+1)),.cells ((hshL r t (Int.ofNat (3*0))).map by8)]) (bs:=mk19a) (n:=100) (g:=kdYes) q5t (qai _) (qak _) ?_ (Nat.zero_le _) fun ex fr1 H1 _ hq => ?_
  ·rw[q94,nMul (by omega),qa5 hr,qa5 ht,hs19,spl32 hl,qa5 hl,add1 (by omega),nLss]
   exact Br.t (decide_eq_true hi) (ckle (by rw[nLen,List.length_map]; omega) (ckle (by rw[nLen,List.length_map]; omega) ⟨⟨pkey r hr,pkey t ht⟩,ckeq (by rw[nLen,List.length_map]; omega) (ckle (by rw[nLen,List.length_map]; omega) ⟨rfl,rfl,rfl⟩)⟩))
  ·obtain⟨rfl,rfl,rfl⟩:=hq
   exact⟨rfl,Weak.refl (by simp)⟩
 ·have e1:x19 5 1 i = .slc 5 0 i i 1:=if_neg h0
  have e2:x19 6 32 i = .slc 6 0 i i 32:=if_neg h0
  have e3:H19 r t sd tn ls i = [.cells (r.map by8),.cells sd,.cells (t.map by8),.cells tn,.cells ls,.cells (ixC i),.cells ((hshs r t i).flatten.map by8)]:=by unfold H19 o19;rw[if_neg h0]; rfl
  have lf:(hshs r t i).flatten.length=i*32:=by rw[qdb (q51 r t i),q5d]
  have ea:ops0.app (ops0.ext ((hshs r t i).flatten.map by8) 0 (ops0.mul i 32)) ((hshL r t (Int.ofNat (3*i))).map by8)=(hshs r t (i+1)).flatten.map by8:=by
   rw[qbw,nExt,List.drop_zero,List.take_of_length_le (by rw[List.length_map]; omega),nApp,q6n,List.flatten_append,List.flatten_singleton,List.map_append]
  have ec:ops0.app (ops0.ext (ixC i) 0 (ops0.mul i 1)) [.int .i64 (Int.ofNat (3*i))]=ixC (i+1):=by
   rw[qbw,nExt,List.drop_zero,List.take_of_length_le (by rw[q6c]; omega),nApp,q70]
  rw[e1,e2,e3]
  refine q5a (Q:=fun ex fr H=>ex = .norm/\fr=fr19a n (.slc 7 0 (i+1) (i+1) 1) (.slc 8 0 (i+1) (i+1) 32) (i+1)/\H = [.cells (r.map by8),.cells sd,.cells (t.map by8),.cells tn,.cells ls,.dead,.dead,.cells (ixC (i+1)),.cells ((hshs r t (i+1)).flatten.map by8)]) (bs:=mk19a) (n:=100) (g:=kdYes) q5t (qai _) (qak _) ?_ (Nat.zero_le _) fun ex fr1 H1 _ hq => ?_
  ·rw[q8k,nMul (by omega),qa5 hr,qa5 ht,hs19,spl32 hl,qa5 hl,add1 (by omega),nLss,ea,ec,nPlus (a:=i) (b:=1)]
   exact Br.t (decide_eq_true hi) (ckle (by rw[nPlus,qbw,nLen,q6c]; omega) (q6j (by omega) (ckle (by rw[nLen,List.length_map]; omega) (ckle (by rw[nLen,List.length_map]; omega) ⟨⟨pkey r hr,pkey t ht⟩,ckeq (by rw[nLen,List.length_map]; omega) (ckle (by rw[nPlus,qbw,nLen,List.length_map]; omega) (ckle (by rw[nLen,List.length_map]; omega) (q6j (by omega) ⟨rfl,rfl,rfl⟩)))⟩))))
  ·obtain⟨rfl,rfl,rfl⟩:=hq
   refine⟨rfl,?_⟩
   have h3:=Weak.pickV (n0:=0) (fr:=fr19a n (.slc 7 0 (i+1) (i+1) 1) (.slc 8 0 (i+1) (i+1) 32) (i+1)) (H := [.cells (r.map by8),.cells sd,.cells (t.map by8),.cells tn,.cells ls,.dead,.dead,.cells (ixC (i+1)),.cells ((hshs r t (i+1)).flatten.map by8)]) [0,1,2,3,4,7,8] mk19a 0 (by simp) (by simp) (by simp)
   rw[q7j (show pickN [0,1,2,3,4,7,8] 0=some 0 from rfl) (show pickN [0,1,2,3,4,7,8] 2=some 2 from rfl) (show pickN [0,1,2,3,4,7,8] 3=some 3 from rfl) (show pickN [0,1,2,3,4,7,8] 4=some 4 from rfl) (show pickN [0,1,2,3,4,7,8] 7=some 5 from rfl) (show pickN [0,1,2,3,4,7,8] 8=some 6 from rfl)] at h3
   have e4:pickH (viewF [.cells (r.map by8),.cells sd,.cells (t.map by8),.cells tn,.cells ls,.dead,.dead,.cells (ixC (i+1)),.cells ((hshs r t (i+1)).flatten.map by8)] [0,1,2,3,4,7,8] 0) [0,1,2,3,4,7,8] [.cells (r.map by8),.cells sd,.cells (t.map by8),.cells tn,.cells ls,.dead,.dead,.cells (ixC (i+1)),.cells ((hshs r t (i+1)).flatten.map by8)] = [.cells (r.map by8),.cells sd,.cells (t.map by8),.cells tn,.cells ls,.cells (ixC (i+1)),.cells ((hshs r t (i+1)).flatten.map by8)]:=by
    show [renB _ _ true (.cells _),renB _ _ true (.cells _),renB _ _ true (.cells _),renB _ _ true (.cells _),renB _ _ true (.cells _),renB _ _ true (.cells _),renB _ _ true (.cells _)]=_
    simp only[renB,qaa (qac _),qaa fd,qaa fn,qaa fl,qaa (show flatL (ixC (i+1)) from qaz _ _)]
   rw[e4] at h3
   exact h3
theorem q8w(h1:1<=n):qap Try.prog 0 lp19a (fr19a n (x19 5 1 n) (x19 6 32 n) n) (H19 r t sd tn ls n) (.exit 0) (fr19a n (.slc 5 0 n n 1) (.slc 6 0 n n 32) n) [.cells (r.map by8),.cells sd,.cells (t.map by8),.cells tn,.cells ls,.cells (ixC n),.cells ((hshs r t n).flatten.map by8)]:=by
 have e1:x19 5 1 n = .slc 5 0 n n 1:=if_neg (by omega)
 have e2:x19 6 32 n = .slc 6 0 n n 32:=if_neg (by omega)
 have e3:H19 r t sd tn ls n = [.cells (r.map by8),.cells sd,.cells (t.map by8),.cells tn,.cells ls,.cells (ixC n),.cells ((hshs r t n).flatten.map by8)]:=by unfold H19 o19;rw[if_neg (by omega)]; rfl
 rw[e1,e2,e3]
 refine q5a (Q:=fun ex fr H=>ex = .exit 0/\fr=fr19a n (.slc 5 0 n n 1) (.slc 6 0 n n 32) n/\H = [.cells (r.map by8),.cells sd,.cells (t.map by8),.cells tn,.cells ls,.cells (ixC n),.cells ((hshs r t n).flatten.map by8)]) (bs:=mk19a) (n:=100) (g:=kdYes) q5t (qai _) (qak _) ?_ (Nat.zero_le _) fun ex fr1 H1 _ hq => ?_
 ·rw[q8k,nLss]
  exact Br.f (decide_eq_false (by omega)) ⟨rfl,rfl,rfl⟩
 ·obtain⟨rfl,rfl,rfl⟩:=hq
  exact⟨rfl,Weak.refl (by simp)⟩
end
theorem q7y:LnOK Try.prog (ln19a vs0):=by
 intro n0 b fr H p x e hn0 hp lg
 unfold ln19a at e
 split at e<;>cases e
 rename_i n rs sd st tn ls q1 q2
 obtain⟨rfl,hb,hf,⟨r,hr,rfl⟩,fd,⟨t,ht,rfl⟩,fn,fl,h1,h16⟩:=hp
 have hb:b=lp19a:=hb
 subst hb
 refine qam.pre (Weak.forget (by simp) mk19a) (fun lg => ?_) lg
 rw[hf]
 have eh:∀ n,vs0.hh (r.map by8) (t.map by8) n=(hshs r t n).flatten.map by8:=fun n=>by
  show(hshs (qag _) (qag _) n).flatten.map by8=_
  rw[qab,qab]
 rw[eh]
 exact qal (P:=Try.prog) (n0:=0) (b:=lp19a) (ex := .exit 0) (by intro h;cases h) (fun i=>(fr19a _ (x19 5 1 i) (x19 6 32 i) i,H19 r t sd tn ls i)) n 0 (fun j _ hj=>q8x hr ht fd fn fl h16 (by omega)) (by rw[Nat.zero_add]; exact q8w h1) lg
end
end Go.Proofs.Vm

namespace Go.Proofs.Vm
set_option maxRecDepth 100000
open Go.Vm
noncomputable section
theorem q64{h:Nat->Bool}:∀ (d i:Nat),(∀ j,i<=j->j<i+d->h j=true)->fstB h i d=i+d
 | 0,i,_=>rfl
 | d+1,i,hh=>by
  simp only[fstB,hh i (Nat.le_refl _) (by omega)]
  rw[q64 d (i+1) (fun j h1 h2=>hh j (by omega) (by omega))]
  omega
theorem q6w(r t:List UInt8)(n:Nat):shA ((hshs r t n).flatten.map by8) 0 n=hshs r t n:=q5g (q51 r t n) (q5d r t n).symm
theorem q60{R r t:List UInt8}{n i:Nat}(hi:i<n):okH R t (ixL n) (hshs r t n) i=decide (hshL R t (Int.ofNat (3*i))=hshL r t (Int.ofNat (3*i))):=by
 unfold okH
 rw[List.getD_eq_getElem?_getD,List.getD_eq_getElem?_getD,q8i hi,q7m hi]
 rfl
section
variable {R r t:List UInt8}{rs sd tn ls:List AV}{n:Nat}
theorem q8o(h16:n<=16)(hok:∀ i,i<n->hshL R t (Int.ofNat (3*i))=hshL r t (Int.ofNat (3*i))){i:Nat}(hi:i<n) :
  qap Try.prog 0 lp19b (fr19c n i) [.cells rs,.cells sd,.cells (t.map by8),.cells tn,.cells ls,.cells (ixC n),.cells ((hshs r t n).flatten.map by8),.cells ((secsL R t (ixL n) n).flatten.map by8)] .norm (fr19c n (i+1)) [.cells rs,.cells sd,.cells (t.map by8),.cells tn,.cells ls,.cells (ixC n),.cells ((hshs r t n).flatten.map by8),.cells ((secsL R t (ixL n) n).flatten.map by8)]:=by
 have lS:=q45 R t (Int.ofNat (3*i))
 have lH:=q5c r t (Int.ofNat (3*i))
 have l1:(secsL R t (ixL n) n).length=n:=q5l R t (by rw[q5r]; exact Nat.le_refl _)
 have gS:(secsL R t (ixL n) n)[i]? = some (secL R t (Int.ofNat (3*i))):=by
  unfold secsL
  rw[List.getElem?_map,List.getElem?_take_of_lt hi,q8i hi]
  rfl
 have f1:(secsL R t (ixL n) n).flatten.length=n*32:=by rw[qdb (q6f R t (ixL n) n),l1]
 have f2:(hshs r t n).flatten.length=n*32:=by rw[qdb (q51 r t n),q5d]
 have s1:=q0w (q6f R t (ixL n) n) []
 have s2:=q0w (q51 r t n) []
 rw[List.append_nil] at s1 s2
 have x1:ops0.ext ((secsL R t (ixL n) n).flatten.map by8) (ops0.adr 0 (Int.ofNat i) 32) 32=(secL R t (Int.ofNat (3*i))).map by8:=by rw[nAdr,nExt]; exact(s1.2 i _ gS).2
 have x2:ops0.ext ((hshs r t n).flatten.map by8) (ops0.adr 0 (Int.ofNat i) 32) 32=(hshL r t (Int.ofNat (3*i))).map by8:=by rw[nAdr,nExt]; exact(s2.2 i _ (q7m hi)).2
 have x3:hf0.hash ((secL R t (Int.ofNat (3*i))).map by8)=(hshL r t (Int.ofNat (3*i))).map by8:=by
  show(sumL (qag _)).map by8=_
  rw[qab,<-q7l (x:=Int.ofNat (3*i)) (Int.natCast_nonneg _) (by simp only[Int.ofNat_eq_natCast]; omega),hok i hi]
 have:(i+1)*32<=n*32:=Nat.mul_le_mul_right 32 hi
 refine q5a (Q:=fun ex fr H=>ex = .norm/\fr=fr19c n (i+1)/\H = [.cells rs,.cells sd,.cells (t.map by8),.cells tn,.cells ls,.cells (ixC n),.cells ((hshs r t n).flatten.map by8),.cells ((secsL R t (ixL n) n).flatten.map by8)]) (bs:=mk19c) (n:=100) (g:=kdYes) q5t (qai _) (qak _) ?_ (Nat.zero_le _) fun ex fr1 H1 _ hq => ?_
 ·rw[q74,x1,x2,x3,qa5 lH,add1 (by omega),nLss,nInr,nAdr]
  exact Br.t (decide_eq_true hi) (Chk.mk (decide_eq_true hi) (ckle (by rw[nPlus,nLen,List.length_map]; omega) ⟨pkey _ lS,Chk.mk (decide_eq_true hi) (ckle (by rw[nPlus,nLen,List.length_map]; omega) (ckeq (by rw[nLen,List.length_map]; omega) (ckeq (by rw[nLen,List.length_map]; omega) (ckle (by rw[nLen,List.length_map]; omega) (ckle (by rw[nLen,List.length_map]; omega) (q52 ⟨rfl,rfl,rfl⟩))))))⟩))
 ·obtain⟨rfl,rfl,rfl⟩:=hq
  exact⟨rfl,Weak.refl (by simp)⟩
theorem q9b{H:Hl}{st ds hs sc:List AV}(e:H = [.cells rs,.cells sd,.cells st,.cells tn,.cells ls,.cells ds,.cells hs,.cells sc]):qap Try.prog 0 lp19b (fr19c n n) H (.exit 2) (fr19c n n) H:=by
 subst e
 refine q5a (Q:=fun ex fr H=>ex = .exit 2/\fr=fr19c n n/\H = [.cells rs,.cells sd,.cells st,.cells tn,.cells ls,.cells ds,.cells hs,.cells sc]) (bs:=mk19c) (n:=100) (g:=kdYes) q5t (qai _) (qak _) ?_ (Nat.zero_le _) fun ex fr1 H1 _ hq => ?_
 ·rw[q74,nLss]
  exact Br.f (decide_eq_false (by omega)) ⟨rfl,rfl,rfl⟩
 ·obtain⟨rfl,rfl,rfl⟩:=hq
  exact⟨rfl,Weak.refl (by simp)⟩
end
theorem vs_hh(r t:List UInt8)(n:Nat):vs0.hh (r.map by8) (t.map by8) n=(hshs r t n).flatten.map by8:=by
 show(hshs (qag _) (qag _) n).flatten.map by8=_
 rw[qab,qab]
theorem q6t(n:Nat):ixA (ixC n) 0 n=ixL n:=q77 (q8a n)
theorem q7z:LnOK Try.prog (ln19c vs0 ck2):=by
 intro n0 b fr H p x e hn0 hp lg
 unfold ln19c at e
 split at e<;>cases e
 rename_i n _ _ _ _ rs sd st tn ls ds hs sc q1 q2
 obtain⟨rfl,hb,hf,⟨⟨r,hr,rfl⟩,fd,⟨t,ht,rfl⟩,fn,fl,h1,h16⟩,e1,e2,e3,hok⟩:=hp
 have hb:b=lp19b:=hb
 subst hb
 refine qam.pre (Weak.forget (by simp) mk19c) (fun lg => ?_) lg
 rw[hf]
 rw[vs_hh] at e2
 have e1:ds=ixC n:=e1
 subst e1
 subst e2
 have e3:sc=(secsL (rootL ls 0 n) t (ixL n) n).flatten.map by8:=by
  rw[e3]
  show(secsL (rootL ls 0 n) (qag _) (ixA (ixC n) 0 n) n).flatten.map by8=_
  rw[qab,q6t]
 subst e3
 have hok:allB (rootL ls 0 n) t (ixL n) (hshs r t n) n=true:=by
  have h:(decide (1<=n) && allB (rootL ls 0 n) (qag (t.map by8)) (ixA (ixC n) 0 n) (shA ((hshs r t n).flatten.map by8) 0 n) n)=true:=hok
  rw[qab,q6t,q6w] at h
  exact(Bool.and_eq_true _ _ ▸ h).2
 have hok:fstB (okH (rootL ls 0 n) t (ixL n) (hshs r t n)) 0 n=n:=of_decide_eq_true hok
 obtain⟨_,_,h3,_⟩:=q5e (okH (rootL ls 0 n) t (ixL n) (hshs r t n)) n 0
 rw[hok] at h3
 have hok:∀ i,i<n->hshL (rootL ls 0 n) t (Int.ofNat (3*i))=hshL r t (Int.ofNat (3*i)):=fun i hi=>by
  have h:=h3 i (Nat.zero_le _) hi
  rw[q60 hi] at h
  exact of_decide_eq_true h
 exact qal (P:=Try.prog) (n0:=0) (b:=lp19b) (ex := .exit 2) (by intro h;cases h) (fun i=>(fr19c n i,[.cells (r.map by8),.cells sd,.cells (t.map by8),.cells tn,.cells ls,.cells (ixC n),.cells ((hshs r t n).flatten.map by8),.cells ((secsL (rootL ls 0 n) t (ixL n) n).flatten.map by8)])) n 0 (fun j _ hj=>q8o h16 hok (by omega)) (by rw[Nat.zero_add]; exact q9b rfl) lg
theorem q88:LnOK Try.prog (ln19 vs0 ck2):=qs7 q7y q7z
section
variable {r s t w:List UInt8}{n:Nat}
theorem q5k(hr:r.length=32)(hs:s.length=32)(n:Nat):sp19 js0 (r.map by8) (s.map by8) n=(splL r s n).flatten.map by8:=by
 unfold sp19
 rw[qa5 hr,qa5 hs,q6x]
def otL(L:List (List UInt8))(w:List UInt8):List (List UInt8):=match L with
 | [] => []
 | a::M=>xorL a w::M
theorem q6y(r s:List UInt8){n:Nat}(h1:1<=n):∃ a M,splL r s n=a::M:=by
 cases h:splL r s n with
 | nil =>
  have:=q47 r s h1
  rw[h] at this
  simp at this
  omega
 | cons a M=>exact⟨a,M,rfl⟩
theorem q7c(hr:r.length=32)(hs:s.length=32)(hw:w.length=32){a:List UInt8}{M:List (List UInt8)}(e:splL r s n=a::M):ops0.ext (sp19 js0 (r.map by8) (s.map by8) n) 0 32=a.map by8/\tw19 js0 (r.map by8) (s.map by8) (w.map by8) n=(([a,w]:List (List UInt8)).flatten.map by8):=by
 have ha:a.length=32:=q5o hr s n a (by rw[e]; simp)
 have h1:ops0.ext (sp19 js0 (r.map by8) (s.map by8) n) 0 32=a.map by8:=by
  rw[q5k hr hs,e,nExt,List.drop_zero,List.flatten_cons,List.map_append,List.take_append_of_le_length (by rw[List.length_map]; omega),List.take_of_length_le (by rw[List.length_map]; omega)]
 refine⟨h1,?_⟩
 unfold tw19
 rw[h1,qa5 hw]
 have h2:=q5h (A := []) (d:=a) (p:=0) (k:=64) rfl ha
 rw[List.map_nil,List.nil_append,List.nil_append] at h2
 rw[h2,q5h ha hw]
 show _ ++ []=_
 simp
theorem q8u(hr:r.length=32)(hs:s.length=32)(hw:w.length=32)(h1:1<=n):ot19 jx0 js0 (r.map by8) (s.map by8) (w.map by8) n=(otL (splL r s n) w).flatten.map by8:=by
 obtain⟨a,M,e⟩:=q6y r s h1
 have ha:a.length=32:=q5o hr s n a (by rw[e]; simp)
 have hL:=q47 r s h1
 have hf:=qdb (q5o hr s n)
 unfold ot19
 rw[(q7c hr hs hw e).2,jn_of (n:=2) (q5x ha hw) rfl,q50 ha,q5k hr hs,qbw,nExt,List.drop_zero,List.take_of_length_le (by rw[List.length_map,hf,hL]; omega),e]
 show ops0.spl ((a::M).flatten.map by8) 0 ((xorL a w).map by8)=(xorL a w::M).flatten.map by8
 have hx:=q5u ha hw
 rw[nSpl,List.take_zero,List.nil_append,List.flatten_cons,List.flatten_cons,List.map_append,List.map_append,List.length_map,hx,Nat.zero_add,List.drop_append_of_le_length (by rw[List.length_map]; omega),List.drop_of_length_le (by rw[List.length_map]; omega),List.nil_append]
theorem q9p(hr:r.length=32)(hw:w.length=32)(n:Nat):∀ x,x∈otL (splL r s n) w->x.length=32:=by
 intro x hx
 have h:=q5o hr s n
 cases e:splL r s n with
 | nil=>rw[e] at hx;cases hx
 | cons a M =>
  rw[e] at hx h
  rcases List.mem_cons.1 hx with rfl|hx
  ·exact q5u (h a (by simp)) hw
  ·exact h x (by simp[hx])
theorem q56{L:List (List UInt8)}:(otL L w).length=L.length:=by
 cases L with
 | nil=>rfl
 | cons a M=>rfl
theorem q9q(hr:r.length=32)(hs:s.length=32)(ht:t.length=32)(h1:1<=n)(h16:n<=16):P58c (t.map by8) (sp19 js0 (r.map by8) (s.map by8) n) 0 n (vs0.ix n) 0 n (vs0.hh (r.map by8) (t.map by8) n) 0 n:=by
 rw[q5k hr hs,vs_hh]
 exact⟨rfl,rfl,pkey t ht,q54 hr h1 h16,q6q h16,q6g r t h16,h16⟩
theorem p_ot(hr:r.length=32)(hs:s.length=32)(ht:t.length=32)(hw:w.length=32)(h1:1<=n)(h16:n<=16):pO19 jx0 js0 vs0 (r.map by8) (s.map by8) (t.map by8) (w.map by8) n:=by
 unfold pO19
 rw[q8u hr hs hw h1,vs_hh,qa5 ht]
 exact⟨rfl,rfl,pkey t ht,qp7 (q9p hr hw n) (by rw[q56,q47 r s h1]; omega) (by rw[q56,q47 r s h1]),q6q h16,q6g r t h16,h16⟩
theorem q9t(hr:r.length=32)(hs:s.length=32)(ht:t.length=32)(h1:1<=n)(h16:n<=16):pL19 js0 vs0 (r.map by8) (s.map by8) (t.map by8) n:=by
 unfold pL19
 rw[q5k hr hs,vs_hh,qa5 ht]
 exact⟨rfl,rfl,pkey t ht,q6z (q54 hr h1 h16) h1,q7s (q6q h16),q6z (q6g r t h16) h1,by rw[qs6]; omega⟩
theorem q7b(hr:r.length=32)(hs:s.length=32)(h1:1<=n):ck2.ok (t.map by8) (sp19 js0 (r.map by8) (s.map by8) n) 0 n (vs0.ix n) 0 (vs0.hh (r.map by8) (t.map by8) n) 0=true:=by
 rw[q5k hr hs,vs_hh]
 show(decide (1<=n) && allB (rootL ((splL r s n).flatten.map by8) 0 n) (qag (t.map by8)) (ixA (ixC n) 0 n) (shA ((hshs r t n).flatten.map by8) 0 n) n)=true
 have e:rootL ((splL r s n).flatten.map by8) 0 n=r:=by
  unfold rootL
  rw[q5g (q5o hr s n) (q47 r s h1).symm,q58 hr]
 rw[e,qab,q6t,q6w,decide_eq_true h1,Bool.true_and]
 refine decide_eq_true ?_
 rw[q64 n 0 (fun j _ hj=>by rw[q60 (by omega)]; exact decide_eq_true rfl),Nat.zero_add]
theorem q8g(hr:r.length=32)(hs:s.length=32)(ht:t.length=32)(hw:w.length=32)(h1:1<=n)(h16:n<=16){A B C D:Prop}(hA:A)(hD:D) :
 (Chk (ops0.le (ops0.add 0 (ops0.mul n 32)) (ops0.len (sp19 js0 (r.map by8) (s.map by8) n)))
 (Chk (ops0.room 0 n 32)
 (Chk (ops0.inr (Int.ofNat 0) n)
 (Chk (ops0.le 32 (ops0.len (sp19 js0 (r.map by8) (s.map by8) n)))
 (Chk (ops0.le 32 (ops0.len (w.map by8)))
 (Chk (ops0.eq (ops0.len (ops0.ext (sp19 js0 (r.map by8) (s.map by8) n) 0 32)) 32)
 (Chk (ops0.eq (ops0.len (ops0.ext (w.map by8) 0 32)) 32)
 (Chk (ops0.le 64 (ops0.len (ops0.spl (z8 64) 0 (ops0.ext (sp19 js0 (r.map by8) (s.map by8) n) 0 32))))
 ((PSh (tw19 js0 (r.map by8) (s.map by8) (w.map by8) n) 0 2) /\
 (Chk (ops0.inr (Int.ofNat 0) n)
 (Chk (ops0.eq (ops0.len (JX.jn jx0 (tw19 js0 (r.map by8) (s.map by8) (w.map by8) n) 0 2)) 32)
 (Chk (ops0.le 32 (ops0.len (ops0.ext (sp19 js0 (r.map by8) (s.map by8) n) 0 (ops0.mul n 32))))
 (Chk (ops0.le 32 (ops0.len (t.map by8)))
 ((pO19 jx0 js0 vs0 (r.map by8) (s.map by8) (t.map by8) (w.map by8) n) /\
 (Br (bO19 jx0 js0 ck2 vs0 (r.map by8) (s.map by8) (t.map by8) (w.map by8) n)
 (Chk (ops0.le 32 (ops0.len (t.map by8)))
 ((pO19 jx0 js0 vs0 (r.map by8) (s.map by8) (t.map by8) (w.map by8) n) /\
 (Br (bO19 jx0 js0 ck2 vs0 (r.map by8) (s.map by8) (t.map by8) (w.map by8) n)
 A
 B)))
 (Chk (ops0.le 32 (ops0.len (t.map by8)))
 ((pO19 jx0 js0 vs0 (r.map by8) (s.map by8) (t.map by8) (w.map by8) n) /\
 (Br (bO19 jx0 js0 ck2 vs0 (r.map by8) (s.map by8) (t.map by8) (w.map by8) n)
 C
 D)))))))))))))))))):=by
  obtain⟨a,M,e⟩:=q6y r s h1
  have ha:a.length=32:=q5o hr s n a (by rw[e]; simp)
  obtain⟨t1,t2⟩:=q7c (n:=n) hr hs hw e
  have lsp:(sp19 js0 (r.map by8) (s.map by8) n).length=n*32:=by rw[q5k hr hs,List.length_map,qdb (q5o hr s n),q47 r s h1]
  have hp:=p_ot hr hs ht hw h1 h16
  rw[t1,t2,qa5 hw,jn_of (n:=2) (q5x ha hw) rfl,q50 ha]
  have h2:=q5h (A := []) (d:=a) (p:=0) (k:=64) rfl ha
  rw[List.map_nil,List.nil_append,List.nil_append] at h2
  rw[h2]
  have l64:(a.map by8++z8 (64 - 32)).length=64:=by rw[List.length_append,List.length_map,qer,ha]
  have lx:=q5u ha hw
  refine ckle (by rw[nPlus,qbw,nLen,lsp]; omega) (q6j (by omega) (ckinr h1 (ckle (by rw[nLen,lsp]; omega) (ckle (by rw[nLen,List.length_map]; omega) (ckeq (by rw[nLen,List.length_map]; omega) (ckeq (by rw[nLen,List.length_map]; omega) (ckle (by rw[nLen,l64]; exact Nat.le_refl _) ⟨qp7 (q5x ha hw) (by simp) rfl,ckinr h1 (ckeq (by rw[nLen,List.length_map]; omega) (ckle (by rw[qbw,nExt,List.drop_zero,nLen,List.length_take,lsp]; omega) (ckle (by rw[nLen,List.length_map]; omega) ⟨hp,?_⟩)))⟩)))))))
  have c:32<=ops0.len (t.map by8):=by rw[nLen,List.length_map]; omega
  exact Br.mk (fun k=>ckle c ⟨hp,Br.t k hA⟩) (fun k=>ckle c ⟨hp,Br.f k hD⟩)
end
theorem law19{r s t w:List UInt8}(hr:r.length=32)(hs:s.length=32)(ht:t.length=32)(n:Int)(hw:w.length=32):∃ H' lg,CallTo Try.prog 19 [.agg (r.map by8),.agg (s.map by8),.agg (t.map by8),.int .i64 n,.agg (w.map by8)] [] (.bool true) H' lg:=by
 rcases q5w n with ⟨h,N,rfl,h1,h16⟩|⟨h,h1⟩
 ·have hv:vcall (vcA kdYes (cnJ6 jx0 jy0 hf0 js0 ck2) (ln19 vs0 ck2)) ops0 (qah 19 vf19) 200 vf19 [.agg (r.map by8),.agg (s.map by8),.agg (t.map by8),.int .i64 (Int.ofNat N),.agg (w.map by8)] [] (fun r _ _=>r = .bool true):=by
   rw[vc19,qa5 hr,qa5 hs,qa5 ht]
   have cr:32<=ops0.len (r.map by8):=by rw[nLen,List.length_map]; omega
   have cs:32<=ops0.len (s.map by8):=by rw[nLen,List.length_map]; omega
   have ct:32<=ops0.len (t.map by8):=by rw[nLen,List.length_map]; omega
   have c1:ops0.inb (Int.ofNat 1) N=true:=by rw[nInb]; exact decide_eq_true h1
   have hL:=q9t (s:=s) hr hs ht h1 h16
   have hW:PW19 (r.map by8) (s.map by8) (t.map by8) (w.map by8) (sp19 js0 (r.map by8) (s.map by8) N) N:=⟨pkey r hr,qac _,pkey t ht,qac _,by rw[q5k hr hs]; exact qac _,h1,h16⟩
   refine ckle cr (ckle cs ⟨⟨pkey r hr,pkey s hs⟩,Br.t h ⟨trivial,⟨rfl,rfl,rfl,hW⟩,ckle ct ⟨q9q hr hs ht h1 h16,Br.t (q7b hr hs h1) (Br.f (by rw[nOfn,nNeq]; simp) ⟨⟨rfl,rfl,rfl,hW,rfl,rfl,rfl,q7b hr hs h1⟩,ckle ct (Chk.mk c1 (Chk.mk c1 (Chk.mk c1 ⟨hL,?_⟩)))⟩)⟩⟩⟩)
   refine Br.mk (fun k=>ckle ct (Chk.mk c1 (Chk.mk c1 (Chk.mk c1 ⟨hL,Br.t k ?_⟩)))) (fun k=>ckle ct (Chk.mk c1 (Chk.mk c1 (Chk.mk c1 ⟨hL,Br.f k ?_⟩))))
   ·exact q8g hr hs ht hw h1 h16 rfl rfl
   ·exact q8g hr hs ht hw h1 h16 rfl rfl
  obtain⟨r',H',lg,hc,rfl⟩:=qcu q7h q88 (qaj ok19) (qad 19 vf19) hv
  exact⟨H',lg,hc⟩
 ·have hv:vcall (vcA kdYes (cnJ6 jx0 jy0 hf0 js0 ck2) lnX) ops0 (qah 19 vf19) 200 vf19 [.agg (r.map by8),.agg (s.map by8),.agg (t.map by8),.int .i64 n,.agg (w.map by8)] [] (fun r _ _=>r = .bool true):=by
   rw[vc19n,qa5 hr,qa5 hs]
   have cr:32<=ops0.len (r.map by8):=by rw[nLen,List.length_map]; omega
   have cs:32<=ops0.len (s.map by8):=by rw[nLen,List.length_map]; omega
   exact ckle cr (ckle cs ⟨⟨pkey r hr,pkey s hs⟩,Br.f h ⟨trivial,trivial,rfl⟩⟩)
  obtain⟨r',H',lg,hc,rfl⟩:=qcu q7h (qpf _) (qaj ok19) (qad 19 vf19) hv
  exact⟨H',lg,hc⟩
end
end Go.Proofs.Vm

namespace Go.Proofs.Vm
set_option maxRecDepth 100000
open Go.Vm Go.ChangeShapes Go.WideShapes Go.ChangeAt Go.RowKit
theorem Try.own:ownKnob Try.prog.godebug=none:=by kernel_rfl
theorem Try.laidOut:laidOutB Try.prog=true:=by kernel_rfl
theorem qg6{H:Type}{enc:TypeId × Value->H}{P:Program}(hl:laidOutB P=true){W W':World}(hb:Below W.heap.size W W'):∀ {ts:List TypeId} {vs:List Value} {ds:List (DataW H)} {ps:List MemPlace},
  (∀ t∈ts,P.readableRec t=true/\t<P.types.size)->DataW.TrodAll enc P W 0 (fun _=>true) true ts vs ds ps->(∀ x∈ps,x.block<W.heap.size)->DataW.TrodAll enc P W' 0 (fun b=>decide (b<W.heap.size)) true ts vs ds ps
 | [],vs,ds,ps,_,h,_=>by
  obtain⟨rfl,rfl,rfl⟩:=trodAll_nil h
  exact trodAll_mk0
 | t::ts,vs,ds,ps,ht,h,hlt=>by
  obtain⟨v,vs1,d,ds1,a,b,rfl,rfl,rfl,h1,h2⟩:=trodAll_cons h
  refine trodAll_cons_mk (Below.trod hl (ht t (by simp)).1 (ht t (by simp)).2 h1 hb (fun x hx=>hlt x (by simp[hx]))) (qg6 hl hb (fun t h=>ht t (by simp[h])) h2 (fun x hx=>hlt x (by simp[hx])))
theorem qh4{H:Type}{enc:TypeId × Value->H}{f:Func}{s:ChangeSpec}{n:Nat}{W:World}{args:Array Value}{ds gs:List (DataW H)}{before:List MemPlace}(hres:f.resultTypes.toList = [4])
  (hts:∀ t∈f.params.toList,Try.prog.readableRec t=true/\t<Try.prog.types.size) (hvars:s.vars = []) (hW:DataW.Whole enc Try.prog f.params.toList s.vars false W args.toList ds gs before)
  (hfn:s.fn H (ds ++ []) = { results := [.lit (.bool true)],args:=ds }) (hcall:Calls Try.prog n args W fun e W'=>e = .returned (.bool true)/\Below W.heap.size W W') :
  Calls Try.prog n args W fun e W'=>∃ v,e = .returned v/\s.post enc Try.prog f false true false false W args v W':=by
 have hW':=hW
 obtain⟨p,q,hA,hV,rfl,hfz,hnd⟩:=hW
 rw[hvars] at hV
 obtain⟨rfl,rfl⟩:=trodVars_none hV
 have hlt:∀ x∈p,x.block<W.heap.size:=fun x hx=>by
  have:=hW'.lt x (by simp[hx])
  simpa using this
 refine hcall.mono fun e W' ⟨he,hb⟩ => ?_
 subst he
 have h2:f.resultTypes.size=1:=by rw[<-Array.length_toList,hres]; rfl
 refine⟨_,rfl,ds,[],p ++ [],[],p,[],hW',?_,?_,?_,hb.frame _,fun h=>by cases h⟩
 ·rw[hfn,hres,h2]
  exact trodAll_cons_mk (shut_bool Try.underlying4 _) trodAll_mk0
 ·rw[hfn]
  exact qg6 Try.laidOut hb hts hA hlt
 ·rw[hfn,hvars]
  exact rfl
theorem qha{n:Nat}{vals:List AV}{H':Hl}{lg:List Nat}(hc:CallTo Try.prog n vals [] (.bool true) H' lg){w:World}{us:List Value}(hv:VRels noRho w vals us) :
  Calls Try.prog n us.toArray w fun e w'=>e = .returned (.bool true)/\Below w.heap.size w w' :=
 (hc.enter hv).mono fun e w' ⟨v,ρ',he,h2,h3⟩=>by
  have:=qca h2
  subst this
  exact⟨he,h3⟩
end Go.Proofs.Vm

namespace Go.Proofs.Vm
set_option maxRecDepth 100000
open Go.Vm Go.ChangeShapes Go.WideShapes Go.ChangeAt Go.RowKit
theorem qzn{n:Int}(h:(Lit.int .u8 n).wf=true):by8 (UInt8.ofNat n.toNat) = .int .u8 n:=by
 have hx:0<=n/\n<=255:=by simpa[Lit.wf,IntKind.min,IntKind.max,IntKind.signed,IntKind.bits] using h
 unfold by8
 congr 1
 rw[UInt8.toNat_ofNat_of_lt' (by show _<256;omega)]
 simp only[Int.ofNat_eq_natCast]
 omega
def intA':Value->Int
 | .int _ n=>n
 | _=>0
set_option maxRecDepth 100000
theorem qb0{W:World}{base:Nat}{t e n:Nat}{k:IntKind}{v:Value}(ht:Try.prog.underlying t=some (.array n e))(he:Try.prog.underlying e=some (.int k))(hc:Try.prog.cellsOf t=n)(hts:Try.prog.cellTypes Try.prog.depth t=some (List.replicate n e))
  (hval:Value.okWide Try.prog W .any base t v):∃ zs:List Int,v = .agg (zs.map (Value.int k)).toArray/\zs.length=n/\∀ z∈zs,k.has z:=by
 simp only[Value.okWide,ht] at hval
 obtain⟨cs,rfl,hsz,ts,h1,_,h3⟩:=hval
 rw[hts] at h1
 cases h1
 rw[hc] at hsz
 have each:∀ (i:Nat) (v:Value),cs[i]? = some v->∃ z,v=Value.int k z/\k.has z:=by
  intro i v hv
  obtain⟨u,hu,hx⟩:=h3 i v hv
  have hue:u=e:=by
   rw[List.getElem?_replicate] at hu
   split at hu<;>cases hu
   rfl
  subst hue
  simp only[Cell.okWide,he,Cell.ok] at hx
  cases v<;>simp_all
 refine⟨cs.toList.map intA',?_,by simp[hsz],?_⟩
 ·congr 1
  apply Array.ext
  ·simp
  ·intro i h1 h2
   have hi:cs[i]? = some cs[i]:=by simp[h1]
   obtain⟨z,hz,_⟩:=each i _ hi
   simp[intA',hz]
 ·intro z hz
  obtain⟨v,hv,rfl⟩:=List.mem_map.1 hz
  obtain⟨i,hi,e⟩:=List.mem_iff_getElem.1 hv
  have hi':cs[i]? = some v:=by
   rw[<-e]
   have:i<cs.size:=by simpa using hi
   simp[this]
  obtain⟨z,hz,hh⟩:=each i v hi'
  rw[hz]
  exact hh
theorem qzy(w:World)(k:IntKind)(zs:List Int):VRel noRho w (.agg (zs.map (AV.int k))) (.agg (zs.map (Value.int k)).toArray):=by
 refine .agg _ _ (by simp) (fun v hv => ?_) (fun i a v ha hv => ?_)
 ·obtain⟨n,_,rfl⟩:=List.mem_map.1 hv
  rfl
 ·rw[List.getElem?_map] at ha hv
  obtain⟨n,hn,rfl⟩:=Option.map_eq_some_iff.1 ha
  rw[hn] at hv
  cases hv
  exact .int _ _
end Go.Proofs.Vm

namespace Go.Proofs.Vm
set_option maxRecDepth 100000
open Go.Vm Go.ChangeShapes Go.WideShapes Go.ChangeAt Go.RowKit
set_option maxRecDepth 100000
theorem qh2{zs:List Int}{n:Nat}(hz:zs.length=n)(hw:∀ z∈zs,IntKind.u8.has z)(W:World):∃ key:List UInt8,key.length=n/\VRel noRho W (.agg (key.map by8)) (.agg (zs.map (Value.int .u8)).toArray):=by
 refine⟨zs.map fun z=>UInt8.ofNat z.toNat,by simp[hz],?_⟩
 have e:(zs.map fun z=>UInt8.ofNat z.toNat).map by8=zs.map (AV.int .u8):=by
  rw[List.map_map]
  apply List.map_congr_left
  intro z hz'
  refine qzn ?_
  have:=hw z hz'
  simp only[Lit.wf]
  simpa[IntKind.has,IntKind.min,IntKind.max,IntKind.signed,IntKind.bits] using this
 rw[e]
 exact qzy W .u8 zs
end Go.Proofs.Vm

namespace Go.Proofs.Vm
set_option maxRecDepth 100000
def quj:List Char := [.ofNat 104,.ofNat 97,.ofNat 114,.ofNat 110,.ofNat 101,.ofNat 115,.ofNat 115,.ofNat 32,.ofNat 100,.ofNat 54,.ofNat 52,.ofNat 53,.ofNat 48,.ofNat 50,.ofNat 49,.ofNat 51,.ofNat 48,.ofNat 98,.ofNat 53,.ofNat 98,.ofNat 101,.ofNat 48,.ofNat 48,.ofNat 99,.ofNat 98,.ofNat 48,.ofNat 100,.ofNat 97,.ofNat 57,.ofNat 49,.ofNat 98,.ofNat 102,.ofNat 56,.ofNat 55,.ofNat 97,.ofNat 52,.ofNat 102,.ofNat 48,.ofNat 102,.ofNat 100,.ofNat 51,.ofNat 99,.ofNat 56,.ofNat 102,.ofNat 49,.ofNat 52,.ofNat 102,.ofNat 101,.ofNat 98,.ofNat 50,.ofNat 53,.ofNat 53,.ofNat 99,.ofNat 97,.ofNat 51,.ofNat 57,.ofNat 55,.ofNat 54,.ofNat 57,.ofNat 54,.ofNat 50,.ofNat 55,.ofNat 51,.ofNat 50,.ofNat 102,.ofNat 100,.ofNat 99,.ofNat 56,.ofNat 54,.ofNat 56,.ofNat 100,.ofNat 97,.ofNat 32,.ofNat 99,.ofNat 117,.ofNat 116,.ofNat 32,.ofNat 97,.ofNat 116,.ofNat 32,.ofNat 116,.ofNat 111,.ofNat 108,.ofNat 108,.ofNat 104,.ofNat 111,.ofNat 117,.ofNat 115,.ofNat 101,.ofNat 47,.ofNat 116,.ofNat 111,.ofNat 108,.ofNat 108,.ofNat 104,.ofNat 111,.ofNat 117,.ofNat 115,.ofNat 101,.ofNat 108,.ofNat 97,.ofNat 119,.ofNat 48,.ofNat 51,.ofNat 46,.ofNat 75,.ofNat 101,.ofNat 99,.ofNat 99,.ofNat 97,.ofNat 107,.ofNat 83,.ofNat 117,.ofNat 109,.ofNat 115,.ofNat 32,.ofNat 116,.ofNat 111,.ofNat 108,.ofNat 108,.ofNat 104,.ofNat 111,.ofNat 117,.ofNat 115,.ofNat 101,.ofNat 47,.ofNat 116,.ofNat 111,.ofNat 108,.ofNat 108,.ofNat 104,.ofNat 111,.ofNat 117,.ofNat 115,.ofNat 101,.ofNat 108,.ofNat 97,.ofNat 119,.ofNat 48,.ofNat 51,.ofNat 46,.ofNat 75,.ofNat 101,.ofNat 99,.ofNat 99,.ofNat 97,.ofNat 107,.ofNat 83,.ofNat 116,.ofNat 114,.ofNat 101,.ofNat 97,.ofNat 109,.ofNat 115,.ofNat 32,.ofNat 116,.ofNat 111,.ofNat 108,.ofNat 108,.ofNat 104,.ofNat 111,.ofNat 117,.ofNat 115,.ofNat 101,.ofNat 47,.ofNat 116,.ofNat 111,.ofNat 108,.ofNat 108,.ofNat 104,.ofNat 111,.ofNat 117,.ofNat 115,.ofNat 101,.ofNat 108,.ofNat 97,.ofNat 119,.ofNat 48,.ofNat 51,.ofNat 46,.ofNat 75,.ofNat 101,.ofNat 99,.ofNat 99,.ofNat 97,.ofNat 107,.ofNat 76,.ofNat 101,.ofNat 110,.ofNat 103,.ofNat 116,.ofNat 104,.ofNat 115,.ofNat 32,.ofNat 116,.ofNat 111,.ofNat 108,.ofNat 108,.ofNat 104,.ofNat 111,.ofNat 117,.ofNat 115,.ofNat 101,.ofNat 47,.ofNat 116,.ofNat 111,.ofNat 108,.ofNat 108,.ofNat 104,.ofNat 111,.ofNat 117,.ofNat 115,.ofNat 101,.ofNat 108,.ofNat 97,.ofNat 119,.ofNat 48,.ofNat 51,.ofNat 46,.ofNat 75,.ofNat 101,.ofNat 99,.ofNat 99,.ofNat 97,.ofNat 107,.ofNat 80,.ofNat 105,.ofNat 101,.ofNat 99,.ofNat 101,.ofNat 115,.ofNat 32,.ofNat 116,.ofNat 111,.ofNat 108,.ofNat 108,.ofNat 104,.ofNat 111,.ofNat 117,.ofNat 115,.ofNat 101,.ofNat 47,.ofNat 116,.ofNat 111,.ofNat 108,.ofNat 108,.ofNat 104,.ofNat 111,.ofNat 117,.ofNat 115,.ofNat 101,.ofNat 108,.ofNat 97,.ofNat 119,.ofNat 48,.ofNat 51,.ofNat 46,.ofNat 75,.ofNat 101,.ofNat 99,.ofNat 99,.ofNat 97,.ofNat 107,.ofNat 80,.ofNat 97,.ofNat 114,.ofNat 116,.ofNat 115,.ofNat 32,.ofNat 116,.ofNat 111,.ofNat 108,.ofNat 108,.ofNat 104,.ofNat 111,.ofNat 117,.ofNat 115,.ofNat 101,.ofNat 47,.ofNat 116,.ofNat 111,.ofNat 108,.ofNat 108,.ofNat 104,.ofNat 111,.ofNat 117,.ofNat 115,.ofNat 101,.ofNat 108,.ofNat 97,.ofNat 119,.ofNat 48,.ofNat 51,.ofNat 46,.ofNat 75,.ofNat 101,.ofNat 99,.ofNat 99,.ofNat 97,.ofNat 107,.ofNat 82,.ofNat 111,.ofNat 117,.ofNat 110,.ofNat 100,.ofNat 115,.ofNat 32,.ofNat 116,.ofNat 111,.ofNat 108,.ofNat 108,.ofNat 104,.ofNat 111,.ofNat 117,.ofNat 115,.ofNat 101,.ofNat 47,.ofNat 116,.ofNat 111,.ofNat 108,.ofNat 108,.ofNat 104,.ofNat 111,.ofNat 117,.ofNat 115,.ofNat 101,.ofNat 108,.ofNat 97,.ofNat 119,.ofNat 48,.ofNat 51,.ofNat 46,.ofNat 75,.ofNat 101,.ofNat 99,.ofNat 99,.ofNat 97,.ofNat 107,.ofNat 84,.ofNat 117,.ofNat 114,.ofNat 110,.ofNat 115,.ofNat 32,.ofNat 116,.ofNat 111,.ofNat 108,.ofNat 108,.ofNat 104,.ofNat 111,.ofNat 117,.ofNat 115,.ofNat 101,.ofNat 47,.ofNat 116,.ofNat 111,.ofNat 108,.ofNat 108,.ofNat 104,.ofNat 111,.ofNat 117,.ofNat 115,.ofNat 101,.ofNat 108,.ofNat 97,.ofNat 119,.ofNat 48,.ofNat 52,.ofNat 46,.ofNat 77,.ofNat 97,.ofNat 99,.ofNat 77,.ofNat 97,.ofNat 115,.ofNat 107,.ofNat 115,.ofNat 32,.ofNat 116,.ofNat 111,.ofNat 108,.ofNat 108,.ofNat 104,.ofNat 111,.ofNat 117,.ofNat 115,.ofNat 101,.ofNat 47,.ofNat 116,.ofNat 111,.ofNat 108,.ofNat 108,.ofNat 104,.ofNat 111,.ofNat 117,.ofNat 115,.ofNat 101,.ofNat 108,.ofNat 97,.ofNat 119,.ofNat 48,.ofNat 52,.ofNat 46,.ofNat 77,.ofNat 97,.ofNat 99,.ofNat 80,.ofNat 97,.ofNat 114,.ofNat 116,.ofNat 115,.ofNat 32,.ofNat 116,.ofNat 111,.ofNat 108,.ofNat 108,.ofNat 104,.ofNat 111,.ofNat 117,.ofNat 115,.ofNat 101,.ofNat 47,.ofNat 116,.ofNat 111,.ofNat 108,.ofNat 108,.ofNat 104,.ofNat 111,.ofNat 117,.ofNat 115,.ofNat 101,.ofNat 108,.ofNat 97,.ofNat 119,.ofNat 48,.ofNat 52,.ofNat 46,.ofNat 77,.ofNat 97,.ofNat 99,.ofNat 77,.ofNat 97,.ofNat 115,.ofNat 107,.ofNat 69,.ofNat 97,.ofNat 99,.ofNat 104,.ofNat 32,.ofNat 116,.ofNat 111,.ofNat 108,.ofNat 108,.ofNat 104,.ofNat 111,.ofNat 117,.ofNat 115,.ofNat 101,.ofNat 47,.ofNat 116,.ofNat 111,.ofNat 108,.ofNat 108,.ofNat 104,.ofNat 111,.ofNat 117,.ofNat 115,.ofNat 101,.ofNat 108,.ofNat 97,.ofNat 119,.ofNat 48,.ofNat 52,.ofNat 46,.ofNat 77,.ofNat 97,.ofNat 99,.ofNat 84,.ofNat 97,.ofNat 103,.ofNat 115,.ofNat 32,.ofNat 116,.ofNat 111,.ofNat 108,.ofNat 108,.ofNat 104,.ofNat 111,.ofNat 117,.ofNat 115,.ofNat 101,.ofNat 47,.ofNat 116,.ofNat 111,.ofNat 108,.ofNat 108,.ofNat 104,.ofNat 111,.ofNat 117,.ofNat 115,.ofNat 101,.ofNat 108,.ofNat 97,.ofNat 119,.ofNat 48,.ofNat 52,.ofNat 46,.ofNat 77,.ofNat 97,.ofNat 99,.ofNat 69,.ofNat 113,.ofNat 117,.ofNat 97,.ofNat 108,.ofNat 32,.ofNat 116,.ofNat 111,.ofNat 108,.ofNat 108,.ofNat 104,.ofNat 111,.ofNat 117,.ofNat 115,.ofNat 101,.ofNat 47,.ofNat 116,.ofNat 111,.ofNat 108,.ofNat 108,.ofNat 104,.ofNat 111,.ofNat 117,.ofNat 115,.ofNat 101,.ofNat 108,.ofNat 97,.ofNat 119,.ofNat 48,.ofNat 52,.ofNat 46,.ofNat 77,.ofNat 97,.ofNat 99,.ofNat 66,.ofNat 121,.ofNat 116,.ofNat 101,.ofNat 115,.ofNat 32,.ofNat 116,.ofNat 111,.ofNat 108,.ofNat 108,.ofNat 104,.ofNat 111,.ofNat 117,.ofNat 115,.ofNat 101,.ofNat 47,.ofNat 116,.ofNat 111,.ofNat 108,.ofNat 108,.ofNat 104,.ofNat 111,.ofNat 117,.ofNat 115,.ofNat 101,.ofNat 108,.ofNat 97,.ofNat 119,.ofNat 48,.ofNat 56,.ofNat 46,.ofNat 83,.ofNat 104,.ofNat 97,.ofNat 114,.ofNat 101,.ofNat 83,.ofNat 112,.ofNat 108,.ofNat 105,.ofNat 116,.ofNat 115,.ofNat 32,.ofNat 116,.ofNat 111,.ofNat 108,.ofNat 108,.ofNat 104,.ofNat 111,.ofNat 117,.ofNat 115,.ofNat 101,.ofNat 47,.ofNat 116,.ofNat 111,.ofNat 108,.ofNat 108,.ofNat 104,.ofNat 111,.ofNat 117,.ofNat 115,.ofNat 101,.ofNat 108,.ofNat 97,.ofNat 119,.ofNat 48,.ofNat 56,.ofNat 46,.ofNat 83,.ofNat 104,.ofNat 97,.ofNat 114,.ofNat 101,.ofNat 76,.ofNat 97,.ofNat 119,.ofNat 115,.ofNat 32,.ofNat 116,.ofNat 111,.ofNat 108,.ofNat 108,.ofNat 104,.ofNat 111,.ofNat 117,.ofNat 115,.ofNat 101,.ofNat 47,.ofNat 116,.ofNat 111,.ofNat 108,.ofNat 108,.ofNat 104,.ofNat 111,.ofNat 117,.ofNat 115,.ofNat 101,.ofNat 108,.ofNat 97,.ofNat 119,.ofNat 48,.ofNat 56,.ofNat 46,.ofNat 83,.ofNat 104,.ofNat 97,.ofNat 114,.ofNat 101,.ofNat 80,.ofNat 97,.ofNat 114,.ofNat 116,.ofNat 115,.ofNat 32,.ofNat 116,.ofNat 111,.ofNat 108,.ofNat 108,.ofNat 104,.ofNat 111,.ofNat 117,.ofNat 115,.ofNat 101,.ofNat 47,.ofNat 116,.ofNat 111,.ofNat 108,.ofNat 108,.ofNat 104,.ofNat 111,.ofNat 117,.ofNat 115,.ofNat 101,.ofNat 108,.ofNat 97,.ofNat 119,.ofNat 48,.ofNat 56,.ofNat 46,.ofNat 83,.ofNat 104,.ofNat 97,.ofNat 114,.ofNat 101,.ofNat 83,.ofNat 101,.ofNat 116,.ofNat 115,.ofNat 32,.ofNat 116,.ofNat 111,.ofNat 108,.ofNat 108,.ofNat 104,.ofNat 111,.ofNat 117,.ofNat 115,.ofNat 101,.ofNat 47,.ofNat 116,.ofNat 111,.ofNat 108,.ofNat 108,.ofNat 104,.ofNat 111,.ofNat 117,.ofNat 115,.ofNat 101,.ofNat 108,.ofNat 97,.ofNat 119,.ofNat 48,.ofNat 55,.ofNat 46,.ofNat 79,.ofNat 110,.ofNat 105,.ofNat 111,.ofNat 110,.ofNat 66,.ofNat 117,.ofNat 105,.ofNat 108,.ofNat 100,.ofNat 115,.ofNat 32,.ofNat 116,.ofNat 111,.ofNat 108,.ofNat 108,.ofNat 104,.ofNat 111,.ofNat 117,.ofNat 115,.ofNat 101,.ofNat 47,.ofNat 116,.ofNat 111,.ofNat 108,.ofNat 108,.ofNat 104,.ofNat 111,.ofNat 117,.ofNat 115,.ofNat 101,.ofNat 108,.ofNat 97,.ofNat 119,.ofNat 48,.ofNat 55,.ofNat 46,.ofNat 79,.ofNat 110,.ofNat 105,.ofNat 111,.ofNat 110,.ofNat 84,.ofNat 117,.ofNat 114,.ofNat 110,.ofNat 101,.ofNat 100,.ofNat 32,.ofNat 116,.ofNat 111,.ofNat 108,.ofNat 108,.ofNat 104,.ofNat 111,.ofNat 117,.ofNat 115,.ofNat 101,.ofNat 47,.ofNat 116,.ofNat 111,.ofNat 108,.ofNat 108,.ofNat 104,.ofNat 111,.ofNat 117,.ofNat 115,.ofNat 101,.ofNat 108,.ofNat 97,.ofNat 119,.ofNat 48,.ofNat 55,.ofNat 46,.ofNat 79,.ofNat 110,.ofNat 105,.ofNat 111,.ofNat 110,.ofNat 83,.ofNat 105,.ofNat 122,.ofNat 101,.ofNat 115,.ofNat 32,.ofNat 116,.ofNat 111,.ofNat 108,.ofNat 108,.ofNat 104,.ofNat 111,.ofNat 117,.ofNat 115,.ofNat 101,.ofNat 47,.ofNat 116,.ofNat 111,.ofNat 108,.ofNat 108,.ofNat 104,.ofNat 111,.ofNat 117,.ofNat 115,.ofNat 101,.ofNat 108,.ofNat 97,.ofNat 119,.ofNat 48,.ofNat 55,.ofNat 46,.ofNat 79,.ofNat 110,.ofNat 105,.ofNat 111,.ofNat 110,.ofNat 87,.ofNat 97,.ofNat 121,.ofNat 115]
theorem qv3:Try.prog.initOrder=String.ofList quj:=by kernel_rfl
theorem qua:Try.prog.initOrder.toList=quj:=by rw[qv3]; exact String.toList_ofList
theorem qgd:∃ rest,behindMainWord (wordsSigns Try.prog.initOrder.toList) = "cut".toList::rest :=
 ⟨(behindMainWord (wordsSigns quj)).tail,by rw[qua]; kernel_rfl⟩
theorem qm4(rest:List (List Char)):stripLifts liftWords ("cut".toList::rest)=([], "cut".toList::rest):=by kernel_rfl
theorem qz8{P:Program}{rest:List (List Char)}(h:behindMainWord (wordsSigns P.initOrder.toList) = "cut".toList::rest):P.make=some .cut:=by
 unfold Program.make
 rw[h]
 have e1:("cut".toList == "gc".toList || "cut".toList == "spec".toList)=false:=by kernel_rfl
 have e2:("cut".toList == "cut".toList)=true:=by kernel_rfl
 simp only[e1,e2,Bool.true_or,if_true]
 rfl
theorem qop{P:Program}{rest:List (List Char)}(h:behindMainWord (wordsSigns P.initOrder.toList) = "cut".toList::rest)(h1:P.laysLater=false)(h2:P.bearsReflect=false)(h3:P.doorFits []=true):P.mayEnter=true:=by
 unfold Program.mayEnter
 rw[h]
 simp only[qm4,h1,h2,h3]
 have e2:(List.head? ("cut".toList::rest) == some "cut".toList)=true:=by kernel_rfl
 simp only[e2]
 simp
theorem qku{P:Program}{rest:List (List Char)}(h:behindMainWord (wordsSigns P.initOrder.toList) = "cut".toList::rest):P.liftsFinal=false:=by
 unfold Program.liftsFinal Program.headLifts
 rw[h]
 simp only[qm4]
 have e2:(List.head? ("cut".toList::rest) == some "cut".toList)=true:=by kernel_rfl
 have e3:(List.head? ("cut".toList::rest) == some "carried".toList)=false:=by kernel_rfl
 simp only[e2,e3]
 simp
theorem qof:Try.prog.laysLater=false:=by kernel_rfl
theorem qjr:Try.prog.bearsReflect=false:=by kernel_rfl
theorem qrd:Try.prog.doorFits []=true:=by kernel_rfl
theorem qf2:Try.prog.mayEnter=true:=qgd.elim fun _ h=>qop h qof qjr qrd
theorem qef:Try.prog.liftsFinal=false:=qgd.elim fun _ h=>qku h
theorem qov:Try.prog.make=some .cut:=qgd.elim fun _ h=>qz8 h
theorem qgl{P:Program}{b:Bool}(h:P.liftsFinal=false)(hb:b=false):(b == P.liftsFinal)=true:=by rw[h,hb]; rfl
theorem qkp{P:Program}{m:Make}(h:P.make=some .cut)(hm:m = .cut):(P.make == some m)=true:=by rw[h,hm]; rfl
end Go.Proofs.Vm
