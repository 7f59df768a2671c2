/-
  MAC, PART 5: laws of layer 4: masks; cut another way; equal bytes.
-/
import Derived.Test.YtfmhlogapbpnbaaYsaj
import Derived.Test.YtfmhlogapbpnbaaYsac
import Derived.Test.YtfmhlogapbpnbaaProg
import Derived.KernelRfl

namespace Go.Proofs.Vm
set_option maxRecDepth 100000
open Go.Vm
noncomputable section
theorem ckle{a b:Nat}{r:Prop}(h:a<=b)(k:r):Chk (ops0.le a b) r:=Chk.mk (by rw[nLe]; exact decide_eq_true h) k
theorem ckeq{a b:Nat}{r:Prop}(h:a=b)(k:r):Chk (ops0.eq a b) r:=Chk.mk (by rw[nEq]; exact decide_eq_true h) k
theorem q6j{a b c:Nat}{r:Prop}(h:(a+b+1)*(c+1)<=1099511627776)(k:r):Chk (ops0.room a b c) r:=Chk.mk (by rw[nRoom]; exact decide_eq_true h) k
theorem ckinr{a n:Nat}{r:Prop}(h:a<n)(k:r):Chk (ops0.inr (Int.ofNat a) n) r:=Chk.mk (by rw[nInr]; exact decide_eq_true h) k
theorem rdW{l:List UInt8}{n:Nat}(h:l.length=n):rdB (l.map by8) 0 n=l:=by subst h;exact qch (qax l)
theorem qic(key:List UInt8):HF.hash hf0 (key.map by8)=(sumL key).map by8:=by
 show(sumL (qag (key.map by8))).map by8=_
 rw[qab]
theorem qol(l:List UInt8):KF.sum (AF.toKF (NF.toAF (NG.toNF (HF.toNG hf0)))) l=(sumL l).map by8:=rfl
theorem sum32(l:List UInt8):((sumL l).map by8).length=32:=by rw[List.length_map,qbu]
end
end Go.Proofs.Vm

namespace Go.Proofs.Vm
set_option maxRecDepth 100000
open Go.Vm
noncomputable section
structure XF where
 rows:List AV->Nat->Nat->List AV
theorem qo8{pa:List AV}{oa la:Nat}(ca:Nat)(ea:Bool){pb:List AV}{ob lb:Nat}(cb:Nat)(eb:Bool){al bl:List UInt8}(hfa:flatL pa)(ha:qan pa oa la al)(hoa:oa+la<=pa.length)(hla:la<=1048576)
  (hfb:flatL pb) (hb:qan pb ob lb bl) (hob:ob+lb<=pb.length) (hlb:lb<=1048576):PTag [.ros pa oa la ca ea,.ros pb ob lb cb eb] 0 2:=by
 have h1:=ha.1
 have h2:=hb.1
 refine⟨⟨fun p hp => ?_,[al,bl],rfl,by omega,fun j x hx => ?_⟩,fun j hj pc off len cap ex hp => ?_,?_⟩
 ·simp only[List.mem_cons,List.not_mem_nil,or_false] at hp
  rcases hp with rfl|rfl
  ·exact⟨_,_,_,_,_,rfl,hfa⟩
  ·exact⟨_,_,_,_,_,rfl,hfb⟩
 ·cases j with
  | zero =>
   obtain rfl:al=x:=Option.some.inj hx
   exact⟨by omega,_,_,_,_,_,rfl,ha⟩
  | succ j =>
   cases j with
   | zero =>
    obtain rfl:bl=x:=Option.some.inj hx
    exact⟨by omega,_,_,_,_,_,rfl,hb⟩
   | succ j=>cases hx
 ·cases j with
  | zero=>cases hp;exact hoa
  | succ j =>
   cases j with
   | zero=>cases hp;exact hob
   | succ j=>omega
 ·have e:qa6 [.ros pa oa la ca ea,.ros pb ob lb cb eb] 0 2 = [al,bl]:=by
   show [partA (.ros pa oa la ca ea),partA (.ros pb ob lb cb eb)]=_
   rw[qdp ha,qdp hb]
  rw[e]
  unfold textL
  simp[qbh]
  omega
end
end Go.Proofs.Vm

namespace Go.Proofs.Vm
set_option maxRecDepth 100000
open Go.Vm
noncomputable section
noncomputable def vf19:VF:=⟨148,[(.tmp 10)],qaf Try.prog (Try.f19.body.getD .skip)⟩
theorem ok19:FnOK Try.prog 19 vf19 := .of Try.func19 (by kernel_rfl) (by kernel_rfl)
noncomputable def vf48:VF:=⟨46,[(.tmp 6),(.tmp 7)],qaf Try.prog (Try.f48.body.getD .skip)⟩
theorem ok48:FnOK Try.prog 48 vf48 := .of Try.func48 (by kernel_rfl) (by kernel_rfl)
noncomputable def vf49:VF:=⟨39,[(.tmp 6),(.tmp 7)],qaf Try.prog (Try.f49.body.getD .skip)⟩
theorem ok49:FnOK Try.prog 49 vf49 := .of Try.func49 (by kernel_rfl) (by kernel_rfl)
noncomputable def vf50:VF:=⟨41,[(.tmp 0)],qaf Try.prog (Try.f50.body.getD .skip)⟩
theorem ok50:FnOK Try.prog 50 vf50 := .of Try.func50 (by kernel_rfl) (by kernel_rfl)
noncomputable def vf51:VF:=⟨26,[(.tmp 4)],qaf Try.prog (Try.f51.body.getD .skip)⟩
theorem ok51:FnOK Try.prog 51 vf51 := .of Try.func51 (by kernel_rfl) (by kernel_rfl)
noncomputable def vf52:VF:=⟨28,[(.cell 2 32)],qaf Try.prog (Try.f52.body.getD .skip)⟩
theorem ok52:FnOK Try.prog 52 vf52 := .of Try.func52 (by kernel_rfl) (by kernel_rfl)
noncomputable def vf53:VF:=⟨18,[(.cell 6 32)],qaf Try.prog (Try.f53.body.getD .skip)⟩
theorem ok53:FnOK Try.prog 53 vf53 := .of Try.func53 (by kernel_rfl) (by kernel_rfl)
noncomputable def vf54:VF:=⟨21,[(.cell 6 32)],qaf Try.prog (Try.f54.body.getD .skip)⟩
theorem ok54:FnOK Try.prog 54 vf54 := .of Try.func54 (by kernel_rfl) (by kernel_rfl)
noncomputable def vf55:VF:=⟨16,[(.cell 6 32)],qaf Try.prog (Try.f55.body.getD .skip)⟩
theorem ok55:FnOK Try.prog 55 vf55 := .of Try.func55 (by kernel_rfl) (by kernel_rfl)
noncomputable def vf56:VF:=⟨21,[(.cell 6 32)],qaf Try.prog (Try.f56.body.getD .skip)⟩
theorem ok56:FnOK Try.prog 56 vf56 := .of Try.func56 (by kernel_rfl) (by kernel_rfl)
noncomputable def vf57:VF:=⟨29,[(.cell 2 32)],qaf Try.prog (Try.f57.body.getD .skip)⟩
theorem ok57:FnOK Try.prog 57 vf57 := .of Try.func57 (by kernel_rfl) (by kernel_rfl)
noncomputable def vf58:VF:=⟨76,[(.tmp 8),(.tmp 9)],qaf Try.prog (Try.f58.body.getD .skip)⟩
theorem ok58:FnOK Try.prog 58 vf58 := .of Try.func58 (by kernel_rfl) (by kernel_rfl)
noncomputable def vf59:VF:=⟨93,[(.tmp 8),(.tmp 9)],qaf Try.prog (Try.f59.body.getD .skip)⟩
theorem ok59:FnOK Try.prog 59 vf59 := .of Try.func59 (by kernel_rfl) (by kernel_rfl)
noncomputable def vf81:VF:=⟨9,[(.tmp 2)],qaf Try.prog (Try.f81.body.getD .skip)⟩
theorem ok81:FnOK Try.prog 81 vf81 := .of Try.func81 (by kernel_rfl) (by kernel_rfl)
end
end Go.Proofs.Vm

namespace Go.Proofs.Vm
set_option maxRecDepth 100000
open Go.Vm
noncomputable section
def ShAt(cs:List AV)(o n:Nat)(L:List (List UInt8)):Prop:=L.length=n/\∀ (i:Nat) (x:List UInt8),L[i]? = some x->x.length=32/\(cs.drop (o+i*32)).take 32=x.map by8
def PSh(cs:List AV)(o n:Nat):Prop:=flatL cs/\o+n*32<=cs.length/\n<1099511627776/\∃ L,ShAt cs o n L
def qiw:List UInt8:=List.replicate 32 0
def joinL(L:List (List UInt8)):List UInt8:=L.foldl xorL qiw
def shA(cs:List AV)(o n:Nat):List (List UInt8):=(List.range n).map fun i=>qag ((cs.drop (o+i*32)).take 32)
structure JX where
 xr:List AV->List AV->List AV
 jn:List AV->Nat->Nat->List AV
def jx0:JX:=⟨fun s t=>(xorL (qag s) (qag t)).map by8,fun cs o n=>(joinL (shA cs o n)).map by8⟩
def P52(ss ts:List AV):Prop:=PKey ss/\PKey ts
def P57(cs:List AV)(o n:Nat)(i:Int)(ss:List AV):Prop:=PSh cs o n/\0<=i/\i<n/\PKey ss
noncomputable def lpJi:VC:=vp [1,1,0,1,0,0,1,1,0,0,1,1,0,0] vf52.body
def frJi(cs:List AV)(o n c:Nat)(e:Bool)(i:Int)(ts:List AV)(k:Int):Fr := [.top,.top,.ptr 0 0,.ptr 1 0,.top,.top,.top,.top,.ros cs o n c e,.int .i64 (Int.ofNat n),.int .i64 i,.top,.top,.top,.agg ts,.int .i64 k,.top,.top,.top,.top,.top,.top,.top,.top,.top,.top,.top,.top]
def mkJi:List Bool := [true,true,false,false,true,true,true,true,false,false,false,true,true,true,false,false,true,true,true,true,true,true,true,true,true,true,true,true]
def lnJi(S:JX):LnF:=fun n0 b fr H=>match slot fr 8,slot fr 10,slot fr 14,H with
 | .ros cs o n c e,.int .i64 i,.agg ts,[.cells rs,.cells ss,.cells us]=>some (n0=0/\VCis b lpJi/\forget mkJi fr=frJi cs o n c e i ts 0/\P52 ss ts,.ok (.exit 2) (frJi cs o n c e i ts 32) [.cells rs,.cells (S.xr ss ts),.cells us])
 | _,_,_,_=>none
noncomputable def lpJ:VC:=vp [1,1,0,1,0,0] vf52.body
def frJ(cs:List AV)(o n c:Nat)(e:Bool)(i:Int):Fr := [.top,.top,.ptr 0 0,.ptr 1 0,.top,.top,.top,.top,.ros cs o n c e,.int .i64 (Int.ofNat n),.int .i64 i,.top,.top,.top,.top,.top,.top,.top,.top,.top,.top,.top,.top,.top,.top,.top,.top,.top]
def mkJ:List Bool := [true,true,false,false,true,true,true,true,false,false,false,true,true,true,true,true,true,true,true,true,true,true,true,true,true,true,true,true]
def lnJ(S:JX):LnF:=fun n0 b fr H=>match slot fr 8,H with
 | .ros cs o n c e,[.cells rs,.cells ss]=>some (n0=0/\VCis b lpJ/\forget mkJ fr=frJ cs o n c e 0/\flatL rs/\PSh cs o n/\ss=z8 32,.ok (.exit 0) (frJ cs o n c e n) [.cells rs,.cells (S.jn cs o n)])
 | _,_=>none
noncomputable def lpRi:VC:=vp [1,1,0,1,0,0,1,0,0,1,0,0] vf57.body
def frRi(cs:List AV)(o n c:Nat)(e:Bool)(i k:Int):Fr := [.ros cs o n c e,.top,.ptr 0 0,.ptr 1 0,.int .i64 i,.int .i64 k,.top,.top,.top,.top,.top,.top,.top,.top,.top,.top,.top,.top,.top,.top,.top,.top,.top,.top,.top,.top,.top,.top,.top]
def mkRi:List Bool := [false,true,false,false,false,false,true,true,true,true,true,true,true,true,true,true,true,true,true,true,true,true,true,true,true,true,true,true,true]
def lnRi(S:JX):LnF:=fun n0 b fr H=>match slot fr 0,slot fr 4,H with
 | .ros cs o n c e,.int .i64 i,[.cells rs,.cells ss]=>some (n0=0/\VCis b lpRi/\forget mkRi fr=frRi cs o n c e i 0/\P57 cs o n i ss,.ok (.exit 2) (frRi cs o n c e i 32) [.cells rs,.cells (S.xr ss (ops0.ext cs (ops0.adr o i 32) 32))])
 | _,_,_=>none
noncomputable def lpR:VC:=vp [1,1,0,1,0,0] vf57.body
def frR(cs:List AV)(o n c:Nat)(e:Bool)(i:Int):Fr := [.ros cs o n c e,.top,.ptr 0 0,.ptr 1 0,.int .i64 i,.top,.top,.top,.top,.top,.top,.top,.top,.top,.top,.top,.top,.top,.top,.top,.top,.top,.top,.top,.top,.top,.top,.top,.top]
def mkR:List Bool := [false,true,false,false,false,true,true,true,true,true,true,true,true,true,true,true,true,true,true,true,true,true,true,true,true,true,true,true,true]
def lnR(S:JX):LnF:=fun n0 b fr H=>match slot fr 0,H with
 | .ros cs o n c e,[.cells rs,.cells ss]=>some (n0=0/\VCis b lpR/\forget mkR fr=frR cs o n c e 0/\flatL rs/\PSh cs o n/\ss=z8 32,.ok (.exit 0) (frR cs o n c e n) [.cells rs,.cells (S.jn cs o n)])
 | _,_=>none
theorem vclJi(rs ss us cs:List AV)(o n c:Nat)(e:Bool)(i:Int)(ts:List AV)(k:Int)(Q:Ex->Fr->Hl->Prop) :
  (vm (vcA kdYes noCn noLn) ops0 noTab 100 0 lpJi (frJi cs o n c e i ts k) [.cells rs,.cells ss,.cells us] [] (bodyX mkJi Q)) =
 ((Br (ops0.cmp .lss k (Int.ofNat 32))
 (Chk (ops0.inr k 32)
 (∃ n1:Int,((Nth ts (ops0.nat k) (.int .u8 n1)) /\
 (Chk (ops0.inr k 32)
 (∃ n2:Int,((Nth ss (ops0.adr 0 k 1) (.int .u8 n2)) /\
 (Chk (ops0.inr k 32)
 (Chk (ops0.lt (ops0.adr 0 k 1) (ops0.len ss))
 (Q Ex.norm (tp 2 ((.ptr 0 0)::(.ptr 1 0)::tp 4 ((.ros cs o n c e)::(.int .i64 (.ofNat n))::(.int .i64 i)::tp 3 ((.agg ts)::(.int .i64 (ops0.bin .add .i64 k (Int.ofNat 1)))::tp 12 ([]))))) [(.cells rs),(.cells (ops0.set ss (ops0.adr 0 k 1) (.int .u8 (ops0.bin .xor .u8 n2 n1)))),(.cells us)])))))))))
 (Q (Ex.exit 2) (tp 2 ((.ptr 0 0)::(.ptr 1 0)::tp 4 ((.ros cs o n c e)::(.int .i64 (.ofNat n))::(.int .i64 i)::tp 3 ((.agg ts)::(.int .i64 k)::tp 12 ([]))))) [(.cells rs),(.cells ss),(.cells us)]))):=by kernel_rfl
theorem vclJ(S:JX)(rs ss cs:List AV)(o n c:Nat)(e:Bool)(i:Int)(Q:Ex->Fr->Hl->Prop) :
  (vm (vcA kdYes noCn (lnJi S)) ops0 noTab 100 0 lpJ (frJ cs o n c e i) [.cells rs,.cells ss] [] (bodyX mkJ Q)) =
 ((Br (ops0.cmp .lss i (Int.ofNat n))
 (Chk (ops0.inr i n)
 (Chk (ops0.le (ops0.add (ops0.adr o i 32) 32) (ops0.len cs))
 (Chk (ops0.eq (ops0.len (ops0.ext cs (ops0.adr o i 32) 32)) 32)
 (Chk (ops0.le 32 (ops0.len (ops0.spl (z8 32) 0 (ops0.ext cs (ops0.adr o i 32) 32))))
 ((((0:Nat)=0) /\
 ((VCis lpJi lpJi) /\
 ((((tp 2 ((.ptr 0 0)::(.ptr 1 0)::tp 4 ((.ros cs o n c e)::(.int .i64 (.ofNat n))::(.int .i64 i)::tp 3 ((.agg (ops0.ext (ops0.spl (z8 32) 0 (ops0.ext cs (ops0.adr o i 32) 32)) 0 32))::(.int .i64 (.ofNat 0))::tp 12 ([]))))):Fr)=(tp 2 ((.ptr 0 0)::(.ptr 1 0)::tp 4 ((.ros cs o n c e)::(.int .i64 (.ofNat n))::(.int .i64 i)::tp 3 ((.agg (ops0.ext (ops0.spl (z8 32) 0 (ops0.ext cs (ops0.adr o i 32) 32)) 0 32))::(.int .i64 (.ofNat 0))::tp 12 ([])))))) /\
 (P52 ss (ops0.ext (ops0.spl (z8 32) 0 (ops0.ext cs (ops0.adr o i 32) 32)) 0 32))))) /\
 (Q Ex.norm (tp 2 ((.ptr 0 0)::(.ptr 1 0)::tp 4 ((.ros cs o n c e)::(.int .i64 (.ofNat n))::(.int .i64 (ops0.bin .add .i64 i (Int.ofNat 1)))::tp 17 ([])))) [(.cells rs),(.cells (JX.xr S ss (ops0.ext (ops0.spl (z8 32) 0 (ops0.ext cs (ops0.adr o i 32) 32)) 0 32))),(.cells (ops0.spl (z8 32) 0 (ops0.ext cs (ops0.adr o i 32) 32)))]))))))
 (Q (Ex.exit 0) (tp 2 ((.ptr 0 0)::(.ptr 1 0)::tp 4 ((.ros cs o n c e)::(.int .i64 (.ofNat n))::(.int .i64 i)::tp 17 ([])))) [(.cells rs),(.cells ss)]))):=by kernel_rfl
theorem vc52(S:JX)(cs:List AV)(o n c:Nat)(e:Bool)(Q:AV->Hl->Prop) :
  (vcall (vcA kdYes noCn (lnJ S)) ops0 (qah 52 vf52) 200 vf52 [.ros cs o n c e] [] (endN (fun _=>0) Q)) =
 (((((0:Nat)=0) /\
 ((VCis lpJ lpJ) /\
 ((((tp 2 ((.ptr 0 0)::(.ptr 1 0)::tp 4 ((.ros cs o n c e)::(.int .i64 (ops0.ofn n))::(.int .i64 (.ofNat 0))::tp 17 ([])))):Fr)=(tp 2 ((.ptr 0 0)::(.ptr 1 0)::tp 4 ((.ros cs o n c e)::(.int .i64 (.ofNat n))::(.int .i64 (.ofNat 0))::tp 17 ([]))))) /\
 ((flatL (z8 32)) /\
 ((PSh cs o n) /\
 (((z8 32):(List AV))=(z8 32))))))) /\
 (Chk (ops0.le 32 (ops0.len (JX.jn S cs o n)))
 (Chk (ops0.eq (ops0.len (ops0.ext (JX.jn S cs o n) 0 32)) 32)
 (Chk (ops0.le 32 (ops0.len (ops0.spl (z8 32) 0 (ops0.ext (JX.jn S cs o n) 0 32))))
 (Q (.agg (ops0.ext (ops0.spl (z8 32) 0 (ops0.ext (JX.jn S cs o n) 0 32)) 0 32)) [])))))):=by kernel_rfl
theorem vclRi(rs ss cs:List AV)(o n c:Nat)(e:Bool)(i k:Int)(Q:Ex->Fr->Hl->Prop) :
  (vm (vcA kdYes noCn noLn) ops0 noTab 100 0 lpRi (frRi cs o n c e i k) [.cells rs,.cells ss] [] (bodyX mkRi Q)) =
 ((Br (ops0.cmp .lss k (Int.ofNat 32))
 (Chk (ops0.inr k 32)
 (∃ n1:Int,((Nth ss (ops0.adr 0 k 1) (.int .u8 n1)) /\
 (Chk (ops0.inr i n)
 (Chk (ops0.inr k 32)
 (∃ n2:Int,((Nth cs (ops0.adr (ops0.adr o i 32) k 1) (.int .u8 n2)) /\
 (Chk (ops0.inr k 32)
 (Chk (ops0.lt (ops0.adr 0 k 1) (ops0.len ss))
 (Q Ex.norm ((.ros cs o n c e) :: .top::(.ptr 0 0)::(.ptr 1 0)::(.int .i64 i)::(.int .i64 (ops0.bin .add .i64 k (Int.ofNat 1)))::tp 23 ([])) [(.cells rs),(.cells (ops0.set ss (ops0.adr 0 k 1) (.int .u8 (ops0.bin .xor .u8 n1 n2))))]))))))))))
 (Q (Ex.exit 2) ((.ros cs o n c e) :: .top::(.ptr 0 0)::(.ptr 1 0)::(.int .i64 i)::(.int .i64 k)::tp 23 ([])) [(.cells rs),(.cells ss)]))):=by kernel_rfl
theorem vclR(S:JX)(rs ss cs:List AV)(o n c:Nat)(e:Bool)(i:Int)(Q:Ex->Fr->Hl->Prop) :
  (vm (vcA kdYes noCn (lnRi S)) ops0 noTab 100 0 lpR (frR cs o n c e i) [.cells rs,.cells ss] [] (bodyX mkR Q)) =
 ((Br (ops0.cmp .lss i (ops0.ofn n))
 ((((0:Nat)=0) /\
 ((VCis lpRi lpRi) /\
 (((((.ros cs o n c e) :: .top::(.ptr 0 0)::(.ptr 1 0)::(.int .i64 i)::(.int .i64 (.ofNat 0))::tp 23 ([])):Fr)=((.ros cs o n c e) :: .top::(.ptr 0 0)::(.ptr 1 0)::(.int .i64 i)::(.int .i64 (.ofNat 0))::tp 23 ([]))) /\
 (P57 cs o n i ss)))) /\
 (Q Ex.norm ((.ros cs o n c e) :: .top::(.ptr 0 0)::(.ptr 1 0)::(.int .i64 (ops0.bin .add .i64 i (Int.ofNat 1)))::tp 24 ([])) [(.cells rs),(.cells (JX.xr S ss (ops0.ext cs (ops0.adr o i 32) 32)))]))
 (Q (Ex.exit 0) ((.ros cs o n c e) :: .top::(.ptr 0 0)::(.ptr 1 0)::(.int .i64 i)::tp 24 ([])) [(.cells rs),(.cells ss)]))):=by kernel_rfl
theorem vc57(S:JX)(cs:List AV)(o n c:Nat)(e:Bool)(Q:AV->Hl->Prop) :
  (vcall (vcA kdYes noCn (lnR S)) ops0 (qah 57 vf57) 200 vf57 [.ros cs o n c e] [] (endN (fun _=>0) Q)) =
 (((((0:Nat)=0) /\
 ((VCis lpR lpR) /\
 (((((.ros cs o n c e) :: .top::(.ptr 0 0)::(.ptr 1 0)::(.int .i64 (.ofNat 0))::tp 24 ([])):Fr)=((.ros cs o n c e) :: .top::(.ptr 0 0)::(.ptr 1 0)::(.int .i64 (.ofNat 0))::tp 24 ([]))) /\
 ((flatL (z8 32)) /\
 ((PSh cs o n) /\
 (((z8 32):(List AV))=(z8 32))))))) /\
 (Chk (ops0.le 32 (ops0.len (JX.jn S cs o n)))
 (Chk (ops0.eq (ops0.len (ops0.ext (JX.jn S cs o n) 0 32)) 32)
 (Chk (ops0.le 32 (ops0.len (ops0.spl (z8 32) 0 (ops0.ext (JX.jn S cs o n) 0 32))))
 (Q (.agg (ops0.ext (ops0.spl (z8 32) 0 (ops0.ext (JX.jn S cs o n) 0 32)) 0 32)) [])))))):=by kernel_rfl
def mixL(s t:List UInt8)(k:Nat):List UInt8:=xorL (s.take k) (t.take k)++s.drop k
theorem qw7(s t:List UInt8):mixL s t 0=s:=by unfold mixL xorL;simp
theorem q65{s t:List UInt8}(hs:s.length=32)(ht:t.length=32):mixL s t 32=xorL s t:=by
 unfold mixL
 rw[List.take_of_length_le (by omega),List.take_of_length_le (by omega),List.drop_of_length_le (by omega),List.append_nil]
theorem q6h{s t:List UInt8}(hs:s.length=32)(ht:t.length=32){k:Nat}(hk:k<=32):(xorL (s.take k) (t.take k)).length=k:=by
 rw[qe6,List.length_take,List.length_take]; omega
theorem q55{s t:List UInt8}(hs:s.length=32)(ht:t.length=32){k:Nat}(hk:k<=32):(mixL s t k).length=32:=by
 unfold mixL
 rw[List.length_append,q6h hs ht hk,List.length_drop]; omega
theorem q7e{s t:List UInt8}(hs:s.length=32)(ht:t.length=32){k:Nat}(hk:k<32):(mixL s t k)[k]? = some (s[k]'(by omega)):=by
 unfold mixL
 rw[List.getElem?_append_right (by rw[q6h hs ht (by omega)]; exact Nat.le_refl _),q6h hs ht (by omega),Nat.sub_self,List.getElem?_drop,Nat.add_zero,List.getElem?_eq_getElem]
theorem q7d{s t:List UInt8}(hs:s.length=32)(ht:t.length=32){k:Nat}(hk:k<32):(mixL s t k).set k (s[k]'(by omega) ^^^ t[k]'(by omega))=mixL s t (k+1):=by
 unfold mixL
 rw[qio (show k<s.length by omega) (show k<t.length by omega),List.set_append_right _ _ (by rw[q6h hs ht (by omega)]; exact Nat.le_refl _),q6h hs ht (by omega),Nat.sub_self,List.drop_eq_getElem_cons (show k<s.length by omega),List.set_cons_zero,List.append_assoc]
 rfl
theorem qoz(l:List UInt8)(k:Nat)(v:UInt8):(l.map by8).set k (by8 v)=(l.set k v).map by8:=by rw[List.map_set]
theorem lt32{k:Nat}(h:k<32):ops0.inr (Int.ofNat k) 32=true:=by rw[nInr]; exact decide_eq_true h
theorem nth8{l:List UInt8}{k:Nat}{b:UInt8}(h:l[k]? = some b):Nth (l.map by8) k (.int .u8 (Int.ofNat b.toNat)):=Nth.mk (by rw[List.getElem?_map,h]; rfl)
theorem add1{k:Nat}(h:k<9223372036854775807):ops0.bin .add .i64 (Int.ofNat k) (Int.ofNat 1)=Int.ofNat (k+1):=nAdd (by omega)
theorem q9x{s t:List UInt8}(hs:s.length=32)(ht:t.length=32){k:Nat}(hk:k<32)(rs us cs:List AV)(o n c:Nat)(e:Bool)(i:Int) :
  qap Try.prog 0 lpJi (frJi cs o n c e i (t.map by8) (Int.ofNat k)) [.cells rs,.cells ((mixL s t k).map by8),.cells us] .norm (frJi cs o n c e i (t.map by8) (Int.ofNat (k+1))) [.cells rs,.cells ((mixL s t (k+1)).map by8),.cells us]:=by
 refine qa2 (qa3 _) (qai _) (qak _) (n:=100) (g:=kdYes) (bs:=mkJi) ?_ (by simp)
 have hl:=q55 hs ht (show k<=32 by omega)
 rw[vclJi,add1 (by omega),nLss,lt32 hk,nNat,nAdr,Nat.zero_add,Nat.mul_one,nLen,nLt]
 refine Br.t (decide_eq_true hk) (Chk.mk rfl ⟨_,nth8 (List.getElem?_eq_getElem (show k<t.length by omega)),Chk.mk rfl ⟨_,nth8 (q7e hs ht hk),Chk.mk rfl (Chk.mk (decide_eq_true (by rw[List.length_map]; omega)) ?_)⟩⟩)
 rw[qm3,nSet]
 have e1:((mixL s t k).map by8).set k (.int .u8 (Int.ofNat (s[k] ^^^ t[k]).toNat))=(mixL s t (k+1)).map by8:=by
  rw[<-q7d hs ht hk]
  exact qoz _ _ _
 rw[e1]
 exact⟨rfl,rfl,rfl⟩
theorem q7p:LnOK Try.prog (lnJi jx0):=by
 intro n0 b fr H p x e hn0 hp lg
 unfold lnJi at e
 split at e<;>cases e
 rename_i cs o n c e i ts rs ss us h1 h2 h3
 obtain⟨rfl,hb,hf,⟨s,hs,rfl⟩,⟨t,ht,rfl⟩⟩:=hp
 have hb:b=lpJi:=hb
 subst hb
 refine qam.pre (Weak.forget (by simp) mkJi) ?_ lg
 rw[hf]
 have ex:jx0.xr (s.map by8) (t.map by8)=(mixL s t 32).map by8:=by
  show(xorL (qag _) (qag _)).map by8=_
  rw[qab,qab,q65 hs ht]
 rw[ex]
 have h:=qal (P:=Try.prog) (n0:=0) (b:=lpJi) (ex := .exit 2) (fr':=frJi cs o n c e i (t.map by8) (Int.ofNat 32)) (H' := [.cells rs,.cells ((mixL s t 32).map by8),.cells us]) (by intro h;cases h)
  (fun k=>(frJi cs o n c e i (t.map by8) (Int.ofNat k),[.cells rs,.cells ((mixL s t k).map by8),.cells us])) 32 0 (fun k _ hk=>q9x hs ht (by omega) rs us cs o n c e i) ?_
 ·simp only[qw7] at h
  exact h
 ·refine qa2 (qa3 _) (qai _) (qak _) (n:=100) (g:=kdYes) (bs:=mkJi) ?_ (by simp)
  show vm _ _ _ _ _ _ (frJi cs o n c e i (t.map by8) (Int.ofNat 32)) [.cells rs,.cells ((mixL s t 32).map by8),.cells us] _ _
  rw[vclJi,nLss]
  exact Br.f (decide_eq_false (by omega)) ⟨rfl,rfl,rfl⟩
theorem qcr{cs:List AV}{o n:Nat}{L:List (List UInt8)}(h:ShAt cs o n L):shA cs o n=L:=by
 unfold shA
 apply List.ext_getElem?
 intro i
 rw[List.getElem?_map]
 rcases Nat.lt_or_ge i n with hi|hi
 ·have hl:i<L.length:=by rw[h.1]; exact hi
  obtain⟨_,h2⟩:=h.2 i L[i] (List.getElem?_eq_getElem hl)
  rw[List.getElem?_range hi,Option.map_some,h2,qab,List.getElem?_eq_getElem hl]
 ·rw[List.getElem?_eq_none (by simpa using hi),List.getElem?_eq_none (by rw[h.1]; exact hi)]
  rfl
def upto(L:List (List UInt8))(j:Nat):List UInt8:=joinL (L.take j)
theorem q5u{a b:List UInt8}(ha:a.length=32)(hb:b.length=32):(xorL a b).length=32:=by rw[qe6,ha,hb]; rfl
theorem q6m{L:List (List UInt8)}{j:Nat}{x:List UInt8}(h:L[j]? = some x):upto L (j+1)=xorL (upto L j) x:=by
 unfold upto joinL
 rw[List.take_add_one,h,List.foldl_append,Option.toList_some,List.foldl_cons,List.foldl_nil]
theorem q5b{L:List (List UInt8)}(h:∀ x,x∈L->x.length=32):(joinL L).length=32:=by
 unfold joinL
 have key:∀ (L:List (List UInt8)) (s:List UInt8),s.length=32->(∀ x,x∈L->x.length=32)->(L.foldl xorL s).length=32:=by
  intro L
  induction L with
  | nil=>intro s hs _;exact hs
  | cons y L ih=>intro s hs h;rw[List.foldl_cons]; exact ih _ (q5u hs (h y List.mem_cons_self)) fun x hx=>h x (List.mem_cons_of_mem _ hx)
 exact key L qiw (by unfold qiw;rw[List.length_replicate]) h
theorem q7g{cs:List AV}{o n:Nat}{L:List (List UInt8)}(h:ShAt cs o n L):∀ x,x∈L->x.length=32:=by
 intro x hx
 obtain⟨i,hi⟩:=List.getElem?_of_mem hx
 exact(h.2 i x hi).1
theorem q5z{cs:List AV}{o n:Nat}{L:List (List UInt8)}(h:ShAt cs o n L)(j:Nat):(upto L j).length=32 :=
 q5b fun x hx=>q7g h x (List.mem_of_mem_take hx)
theorem q44:z8 32=qiw.map by8:=z8_eq 32
theorem spl32{x:List UInt8}(h:x.length=32):ops0.spl (z8 32) 0 (x.map by8)=x.map by8:=by
 rw[nSpl,List.take_zero,List.nil_append,List.drop_of_length_le (by rw[qer,List.length_map]; omega),List.append_nil]
theorem q8p{σ:Nat->Option Nat}{φ:Nat->Option (List AV)}(h0:σ 0=some 0)(h1:σ 1=some 1){cs:List AV}(hcs:flatL cs)(o n c:Nat)(e:Bool)(i:Int) :
  forget mkJ (renL σ φ true (frJ cs o n c e i))=frJ cs o n c e i:=by
 unfold frJ mkJ
 simp only[renL,ren,h0,h1,forget,qaa hcs]
theorem bodyJ{rs cs:List AV}{o n j:Nat}{L:List (List UInt8)}(c:Nat)(e:Bool)(hrs:flatL rs)(hcs:flatL cs)(ho:o+n*32<=cs.length)(hn:n<1099511627776)(h:ShAt cs o n L)(hj:j<n) :
  qap Try.prog 0 lpJ (frJ cs o n c e (Int.ofNat j)) [.cells rs,.cells ((upto L j).map by8)] .norm (frJ cs o n c e (Int.ofNat (j+1))) [.cells rs,.cells ((upto L (j+1)).map by8)]:=by
 have hl:j<L.length:=by rw[h.1]; exact hj
 have hx:=List.getElem?_eq_getElem hl
 obtain⟨h1,h2⟩:=h.2 j L[j] hx
 rw[q6m hx]
 have hu:=q5z h j
 generalize L[j]=x at h1 h2
 have hb:qap Try.prog 0 lpJ (frJ cs o n c e (Int.ofNat j)) [.cells rs,.cells ((upto L j).map by8)] .norm (frJ cs o n c e (Int.ofNat (j+1))) [.cells rs,.cells ((xorL (upto L j) x).map by8),.cells (x.map by8)]:=by
  refine qa2 (qa3 _) q7p (qak _) (n:=100) (g:=kdYes) (bs:=mkJ) ?_ (by simp)
  have e1:ops0.ext cs (ops0.adr o (Int.ofNat j) 32) 32=x.map by8:=by rw[nExt,nAdr]; exact h2
  have e2:jx0.xr ((upto L j).map by8) (x.map by8)=(xorL (upto L j) x).map by8:=by
   show(xorL (qag _) (qag _)).map by8=_
   rw[qab,qab]
  have hm:(x.map by8).length=32:=by rw[List.length_map,h1]
  rw[vclJ,e1,spl32 h1,ext32 hm,e2,add1 (by omega),nLss,nInr,nLe,nLe,nPlus,nAdr,nLen,nLen]
  refine Br.t (decide_eq_true hj) (Chk.mk (decide_eq_true hj) (Chk.mk (decide_eq_true (by omega)) (Chk.mk (by rw[nEq]; exact decide_eq_true hm) (Chk.mk (decide_eq_true (by omega)) ⟨⟨rfl,rfl,rfl,pkey _ hu,pkey _ h1⟩,rfl,rfl,rfl⟩))))
 have h3:=hb.post (Weak.pickV [0,1] mkJ 2 (by simp) (by simp) (by simp))
 rw[q8p (show pickN [0,1] 0=some 0 from rfl) (show pickN [0,1] 1=some 1 from rfl) hcs] at h3
 have e3:pickH (viewF [.cells rs,.cells ((xorL (upto L j) x).map by8),.cells (x.map by8)] [0,1] 2) [0,1] [.cells rs,.cells ((xorL (upto L j) x).map by8),.cells (x.map by8)] = [.cells rs,.cells ((xorL (upto L j) x).map by8)]:=by
  show [renB _ _ true (.cells rs),renB _ _ true (.cells ((xorL (upto L j) x).map by8))]=_
  simp only[renB,qaa hrs,qaa (qac _)]
 rw[e3] at h3
 exact h3
theorem q92:LnOK Try.prog (lnJ jx0):=by
 intro n0 b fr H p x e hn0 hp lg
 unfold lnJ at e
 split at e<;>cases e
 rename_i cs o n c e rs ss h1
 obtain⟨rfl,hb,hf,hrs,⟨hcs,ho,hn,L,hL⟩,rfl⟩:=hp
 have hb:b=lpJ:=hb
 subst hb
 refine qam.pre (Weak.forget (by simp) mkJ) ?_ lg
 rw[hf]
 have ej:jx0.jn cs o n=(upto L n).map by8:=by
  show(joinL (shA cs o n)).map by8=_
  unfold upto
  rw[qcr hL,List.take_of_length_le (by rw[hL.1]; exact Nat.le_refl _)]
 rw[ej,q44]
 refine qal (P:=Try.prog) (n0:=0) (b:=lpJ) (ex := .exit 0) (fr':=frJ cs o n c e (Int.ofNat n)) (H' := [.cells rs,.cells ((upto L n).map by8)]) (by intro h;cases h)
  (fun j=>(frJ cs o n c e (Int.ofNat j),[.cells rs,.cells ((upto L j).map by8)])) n 0 (fun j _ hj=>bodyJ c e hrs hcs ho hn hL (by omega)) ?_
 rw[Nat.zero_add]
 refine qa2 (qa3 _) q7p (qak _) (n:=100) (g:=kdYes) (bs:=mkJ) ?_ (by simp)
 rw[vclJ,nLss]
 exact Br.f (decide_eq_false (by omega)) ⟨rfl,rfl,rfl⟩
theorem q9i{cs:List AV}{o n:Nat}(c:Nat)(e:Bool)(h:PSh cs o n):CallTo Try.prog 52 [.ros cs o n c e] [] (.agg ((joinL (shA cs o n)).map by8)) [] []:=by
 refine qb7 (qa3 _) q92 (qaj ok52) (qad 52 vf52) (n:=200) (g:=kdYes) (m:=fun _=>0) [] ?_ (Nat.le_refl 0) ?_ (fun b hb=>by simp at hb)
 ·have ej:jx0.jn cs o n=(joinL (shA cs o n)).map by8:=rfl
  have hl:(joinL (shA cs o n)).length=32:=by
   obtain⟨_,_,_,L,hL⟩:=h
   rw[qcr hL]
   exact q5b (q7g hL)
  have hm:((joinL (shA cs o n)).map by8).length=32:=by rw[List.length_map,hl]
  rw[vc52,ej,ext32 hm,spl32 hl,ext32 hm,nLen,nLe,nEq]
  exact⟨⟨rfl,rfl,rfl,qnm 32,h,rfl⟩,Chk.mk (decide_eq_true (by omega)) (Chk.mk (decide_eq_true hm) (Chk.mk (decide_eq_true (by omega)) ⟨rfl,rfl⟩))⟩
 ·unfold cutV
  rw[ren,qaa (qac _)]
theorem q91{cs:List AV}{o n i:Nat}{s t:List UInt8}(c:Nat)(e:Bool)(hs:s.length=32)(ht:t.length=32)(h:(cs.drop (o+i*32)).take 32=t.map by8)(hi:i<n){k:Nat}(hk:k<32)(rs:List AV) :
  qap Try.prog 0 lpRi (frRi cs o n c e (Int.ofNat i) (Int.ofNat k)) [.cells rs,.cells ((mixL s t k).map by8)] .norm (frRi cs o n c e (Int.ofNat i) (Int.ofNat (k+1))) [.cells rs,.cells ((mixL s t (k+1)).map by8)]:=by
 refine qa2 (qa3 _) (qai _) (qak _) (n:=100) (g:=kdYes) (bs:=mkRi) ?_ (by simp)
 have hl:=q55 hs ht (show k<=32 by omega)
 have hc:Nth cs (o+i*32+k) (.int .u8 (Int.ofNat (t[k]'(by omega)).toNat)):=by
  refine Nth.mk ?_
  have e1:((cs.drop (o+i*32)).take 32)[k]? = cs[o+i*32+k]? := by rw[List.getElem?_take,if_pos hk,List.getElem?_drop]
  rw[<-e1,h,List.getElem?_map,List.getElem?_eq_getElem (show k<t.length by omega)]
  rfl
 rw[vclRi,add1 (by omega),nLss,lt32 hk,nAdr,nAdr,nAdr,Nat.zero_add,Nat.mul_one,nLen,nLt,nInr]
 refine Br.t (decide_eq_true hk) (Chk.mk rfl ⟨_,nth8 (q7e hs ht hk),Chk.mk (decide_eq_true hi) (Chk.mk rfl ⟨_,hc,Chk.mk rfl (Chk.mk (decide_eq_true (by rw[List.length_map]; omega)) ?_)⟩)⟩)
 rw[qm3,nSet]
 have e1:((mixL s t k).map by8).set k (.int .u8 (Int.ofNat (s[k] ^^^ t[k]).toNat))=(mixL s t (k+1)).map by8:=by
  rw[<-q7d hs ht hk]
  exact qoz _ _ _
 rw[e1]
 exact⟨rfl,rfl,rfl⟩
theorem q68:LnOK Try.prog (lnRi jx0):=by
 intro n0 b fr H p x e hn0 hp lg
 unfold lnRi at e
 split at e<;>cases e
 rename_i cs o n c e i rs ss h1 h2
 obtain⟨rfl,hb,hf,⟨hcs,ho,hn,L,hL⟩,hi0,hin,⟨s,hs,rfl⟩⟩:=hp
 have hb:b=lpRi:=hb
 subst hb
 obtain⟨m,rfl⟩:∃ m:Nat,i=Int.ofNat m:=⟨i.toNat,(Int.toNat_of_nonneg hi0).symm⟩
 have hm:m<n:=by simp only[Int.ofNat_eq_natCast] at hin;omega
 have hl:m<L.length:=by rw[hL.1]; exact hm
 obtain⟨ht,h2⟩:=hL.2 m L[m] (List.getElem?_eq_getElem hl)
 generalize L[m]=t at ht h2
 refine qam.pre (Weak.forget (by simp) mkRi) ?_ lg
 rw[hf]
 have ex:jx0.xr (s.map by8) (ops0.ext cs (ops0.adr o (Int.ofNat m) 32) 32)=(mixL s t 32).map by8:=by
  rw[nExt,nAdr,h2]
  show(xorL (qag _) (qag _)).map by8=_
  rw[qab,qab,q65 hs ht]
 rw[ex]
 have h:=qal (P:=Try.prog) (n0:=0) (b:=lpRi) (ex := .exit 2) (fr':=frRi cs o n c e (Int.ofNat m) (Int.ofNat 32)) (H' := [.cells rs,.cells ((mixL s t 32).map by8)]) (by intro h;cases h)
  (fun k=>(frRi cs o n c e (Int.ofNat m) (Int.ofNat k),[.cells rs,.cells ((mixL s t k).map by8)])) 32 0 (fun k _ hk=>q91 c e hs ht h2 hm (by omega) rs) ?_
 ·simp only[qw7] at h
  exact h
 ·refine qa2 (qa3 _) (qai _) (qak _) (n:=100) (g:=kdYes) (bs:=mkRi) ?_ (by simp)
  show vm _ _ _ _ _ _ (frRi cs o n c e (Int.ofNat m) (Int.ofNat 32)) [.cells rs,.cells ((mixL s t 32).map by8)] _ _
  rw[vclRi,nLss]
  exact Br.f (decide_eq_false (by omega)) ⟨rfl,rfl,rfl⟩
theorem q90:LnOK Try.prog (lnR jx0):=by
 intro n0 b fr H p x e hn0 hp lg
 unfold lnR at e
 split at e<;>cases e
 rename_i cs o n c e rs ss h1
 obtain⟨rfl,hb,hf,hrs,⟨hcs,ho,hn,L,hL⟩,rfl⟩:=hp
 have hb:b=lpR:=hb
 subst hb
 refine qam.pre (Weak.forget (by simp) mkR) ?_ lg
 rw[hf]
 have ej:jx0.jn cs o n=(upto L n).map by8:=by
  show(joinL (shA cs o n)).map by8=_
  unfold upto
  rw[qcr hL,List.take_of_length_le (by rw[hL.1]; exact Nat.le_refl _)]
 rw[ej,q44]
 refine qal (P:=Try.prog) (n0:=0) (b:=lpR) (ex := .exit 0) (fr':=frR cs o n c e (Int.ofNat n)) (H' := [.cells rs,.cells ((upto L n).map by8)]) (by intro h;cases h)
  (fun j=>(frR cs o n c e (Int.ofNat j),[.cells rs,.cells ((upto L j).map by8)])) n 0 (fun j _ hj => ?_) ?_
 ·have hl:j<L.length:=by rw[hL.1]; omega
  have hx:=List.getElem?_eq_getElem hl
  obtain⟨_,h2⟩:=hL.2 j L[j] hx
  have hu:=q5z hL j
  show qap _ _ _ (frR cs o n c e (Int.ofNat j)) [.cells rs,.cells ((upto L j).map by8)] _ (frR cs o n c e (Int.ofNat (j+1))) [.cells rs,.cells ((upto L (j+1)).map by8)]
  rw[q6m hx]
  refine qa2 (qa3 _) q68 (qak _) (n:=100) (g:=kdYes) (bs:=mkR) ?_ (by simp)
  have e2:jx0.xr ((upto L j).map by8) (ops0.ext cs (ops0.adr o (Int.ofNat j) 32) 32)=(xorL (upto L j) L[j]).map by8:=by
   rw[nExt,nAdr,h2]
   show(xorL (qag _) (qag _)).map by8=_
   rw[qab,qab]
  rw[vclR,e2,add1 (by omega),nOfn,nLss]
  exact Br.t (decide_eq_true (by omega)) ⟨⟨rfl,rfl,rfl,⟨hcs,ho,hn,L,hL⟩,Int.natCast_nonneg _,by simp only[Int.ofNat_eq_natCast]; omega,pkey _ hu⟩,rfl,rfl,rfl⟩
 ·rw[Nat.zero_add]
  refine qa2 (qa3 _) q68 (qak _) (n:=100) (g:=kdYes) (bs:=mkR) ?_ (by simp)
  rw[vclR,nOfn,nLss]
  exact Br.f (decide_eq_false (by omega)) ⟨rfl,rfl,rfl⟩
theorem q9r{cs:List AV}{o n:Nat}(c:Nat)(e:Bool)(h:PSh cs o n):CallTo Try.prog 57 [.ros cs o n c e] [] (.agg ((joinL (shA cs o n)).map by8)) [] []:=by
 refine qb7 (qa3 _) q90 (qaj ok57) (qad 57 vf57) (n:=200) (g:=kdYes) (m:=fun _=>0) [] ?_ (Nat.le_refl 0) ?_ (fun b hb=>by simp at hb)
 ·have ej:jx0.jn cs o n=(joinL (shA cs o n)).map by8:=rfl
  have hl:(joinL (shA cs o n)).length=32:=by
   obtain⟨_,_,_,L,hL⟩:=h
   rw[qcr hL]
   exact q5b (q7g hL)
  have hm:((joinL (shA cs o n)).map by8).length=32:=by rw[List.length_map,hl]
  rw[vc57,ej,ext32 hm,spl32 hl,ext32 hm,nLen,nLe,nEq]
  exact⟨⟨rfl,rfl,rfl,qnm 32,h,rfl⟩,Chk.mk (decide_eq_true (by omega)) (Chk.mk (decide_eq_true hm) (Chk.mk (decide_eq_true (by omega)) ⟨rfl,rfl⟩))⟩
 ·unfold cutV
  rw[ren,qaa (qac _)]
end
end Go.Proofs.Vm

namespace Go.Proofs.Vm
set_option maxRecDepth 100000
open Go.Vm
noncomputable section
def cnJ1(S:JX):CnF:=fun f vals H=>match f,vals with
 | 52,[x]=>match vw1 H x with
  | .ros cs o n _ _=>some (PSh cs o n,.ok (.agg (S.jn cs o n)) H [])
  | _=>none
 | 57,[x]=>match vw1 H x with
  | .ros cs o n _ _=>some (PSh cs o n,.ok (.agg (S.jn cs o n)) H [])
  | _=>none
 | _,_=>none
def cnJ2(S:JX)(F:HF):CnF:=cnOr (cnJ1 S) (cnM F)
def tab81(k:Nat)(vf:VF)(f:Nat):Option VF:=match Nat.beq f k with
 | true=>some vf
 | false=>match f with
  | 81=>some vf81
  | _=>none
theorem q48{k:Nat}{vf:VF}(h:FnOK Try.prog k vf):∀ f v,tab81 k vf f=some v->FnOK Try.prog f v:=by
 intro f v e
 unfold tab81 at e
 split at e
 ·rename_i hb
  have:=Nat.eq_of_beq_eq_true hb
  subst this
  cases e
  exact h
 ·split at e<;>cases e
  exact ok81
theorem q49(k:Nat)(vf:VF):tab81 k vf k=some vf:=by unfold tab81;rw[Nat.beq_refl]
structure JY where
 sec:List AV->List AV->Int->List AV
 hsh:List AV->List AV->Int->List AV
def secL(r s:List UInt8)(i:Int):List UInt8:=if 0<=i then(if i<=2147483647 then tagL r [112,97,114,116] [s,qar i.toNat] else qiw) else qiw
def hshL(r s:List UInt8)(i:Int):List UInt8:=if 0<=i then(if i<=2147483647 then sumL (secL r s i) else qiw) else qiw
def jy0:JY:=⟨fun r s i=>(secL (qag r) (qag s) i).map by8,fun r s i=>(hshL (qag r) (qag s) i).map by8⟩
def cnJ3(S:JX)(Y:JY)(F:HF):CnF:=cnOr (fun f vals H=>match f,vals with
 | 53,[.agg rs,.agg ss,.int .i64 i]=>some (PKey rs/\PKey ss,.ok (.agg (Y.sec rs ss i)) H [])
 | 54,[.agg rs,.agg ss,.int .i64 i]=>some (PKey rs/\PKey ss,.ok (.agg (Y.sec rs ss i)) H [])
 | _,_=>none) (cnJ2 S F)
theorem vc55(S:JX)(Y:JY)(F:HF)(rs ss:List AV)(i:Int)(Q:AV->Hl->Prop) :
  (vcall (vcA kdYes (cnJ3 S Y F) noLn) ops0 (tab81 55 vf55) 200 vf55 [.agg rs,.agg ss,.int .i64 i] [] (endN (fun _=>0) Q)) =
 ((Br (ops0.cmp .geq i (Int.ofNat 0))
 (Br (ops0.cmp .leq i (Int.ofNat 2147483647))
 (Chk (ops0.le 32 (ops0.len rs))
 (Chk (ops0.le 32 (ops0.len ss))
 (((PKey (ops0.ext rs 0 32)) /\
 (PKey (ops0.ext ss 0 32))) /\
 ((PKey (JY.sec Y (ops0.ext rs 0 32) (ops0.ext ss 0 32) i)) /\
 (Chk (ops0.eq (ops0.len (HF.hash F (JY.sec Y (ops0.ext rs 0 32) (ops0.ext ss 0 32) i))) 32)
 (Chk (ops0.le 32 (ops0.len (ops0.spl (z8 32) 0 (HF.hash F (JY.sec Y (ops0.ext rs 0 32) (ops0.ext ss 0 32) i)))))
 (Q (.agg (ops0.ext (ops0.spl (z8 32) 0 (HF.hash F (JY.sec Y (ops0.ext rs 0 32) (ops0.ext ss 0 32) i))) 0 32)) [])))))))
 (Q (.agg (z8 32)) []))
 (Q (.agg (z8 32)) []))):=by kernel_rfl
theorem vc56(S:JX)(Y:JY)(F:HF)(rs ss:List AV)(i:Int)(Q:AV->Hl->Prop) :
  (vcall (vcA kdYes (cnJ3 S Y F) noLn) ops0 (tab81 56 vf56) 200 vf56 [.agg rs,.agg ss,.int .i64 i] [] (endN (fun _=>0) Q)) =
 ((Br (ops0.cmp .lss i (Int.ofNat 0))
 (Q (.agg (z8 32)) [])
 (Br (ops0.cmp .gtr i (Int.ofNat 2147483647))
 (Q (.agg (z8 32)) [])
 (Chk (ops0.le 32 (ops0.len rs))
 (Chk (ops0.le 32 (ops0.len ss))
 (((PKey (ops0.ext rs 0 32)) /\
 (PKey (ops0.ext ss 0 32))) /\
 (Chk (ops0.eq (ops0.len (JY.sec Y (ops0.ext rs 0 32) (ops0.ext ss 0 32) i)) 32)
 (Chk (ops0.le 32 (ops0.len (ops0.spl (z8 32) 0 (JY.sec Y (ops0.ext rs 0 32) (ops0.ext ss 0 32) i))))
 ((PB (ops0.spl (z8 32) 0 (JY.sec Y (ops0.ext rs 0 32) (ops0.ext ss 0 32) i)) 0 32) /\
 (Chk (ops0.eq (ops0.len (KF.sum (AF.toKF (NF.toAF (NG.toNF (HF.toNG F)))) (rdB (ops0.spl (z8 32) 0 (JY.sec Y (ops0.ext rs 0 32) (ops0.ext ss 0 32) i)) 0 32))) 32)
 (Chk (ops0.le 32 (ops0.len (ops0.spl (z8 32) 0 (KF.sum (AF.toKF (NF.toAF (NG.toNF (HF.toNG F)))) (rdB (ops0.spl (z8 32) 0 (JY.sec Y (ops0.ext rs 0 32) (ops0.ext ss 0 32) i)) 0 32)))))
 (Q (.agg (ops0.ext (ops0.spl (z8 32) 0 (KF.sum (AF.toKF (NF.toAF (NG.toNF (HF.toNG F)))) (rdB (ops0.spl (z8 32) 0 (JY.sec Y (ops0.ext rs 0 32) (ops0.ext ss 0 32) i)) 0 32))) 0 32)) [])))))))))))):=by kernel_rfl
theorem vc53(S:JX)(F:HF)(rs ss:List AV)(i:Int)(Q:AV->Hl->Prop) :
  (vcall (vcA kdYes (cnJ2 S F) noLn) ops0 (tab81 53 vf53) 200 vf53 [.agg rs,.agg ss,.int .i64 i] [] (endN (fun _=>0) Q)) =
 ((Br (ops0.cmp .geq i (Int.ofNat 0))
 (Br (ops0.cmp .leq i (Int.ofNat 2147483647))
 (Chk (ops0.le 32 (ops0.len rs))
 (Chk (ops0.le 32 (ops0.len ss))
 (((Int.ofNat 0)<=(ops0.cvt .u64 i)) /\
 (((PKey (ops0.ext rs 0 32)) /\
 (PTag [(.ros ss 0 32 32 Bool.false),(.ros (MF.bytes (NF.toMF (NG.toNF (HF.toNG F))) (ops0.cvt .u64 i)) 0 8 8 Bool.false)] 0 2)) /\
 (Chk (ops0.eq (ops0.len (GF.tag (NG.toGF (HF.toNG F)) (ops0.ext rs 0 32) [112,97,114,116] [(partA (.ros ss 0 32 32 Bool.false)),(partA (.ros (MF.bytes (NF.toMF (NG.toNF (HF.toNG F))) (ops0.cvt .u64 i)) 0 8 8 Bool.false))])) 32)
 (Chk (ops0.le 32 (ops0.len (ops0.spl (z8 32) 0 (GF.tag (NG.toGF (HF.toNG F)) (ops0.ext rs 0 32) [112,97,114,116] [(partA (.ros ss 0 32 32 Bool.false)),(partA (.ros (MF.bytes (NF.toMF (NG.toNF (HF.toNG F))) (ops0.cvt .u64 i)) 0 8 8 Bool.false))]))))
 (Q (.agg (ops0.ext (ops0.spl (z8 32) 0 (GF.tag (NG.toGF (HF.toNG F)) (ops0.ext rs 0 32) [112,97,114,116] [(partA (.ros ss 0 32 32 Bool.false)),(partA (.ros (MF.bytes (NF.toMF (NG.toNF (HF.toNG F))) (ops0.cvt .u64 i)) 0 8 8 Bool.false))])) 0 32)) [])))))))
 (Q (.agg (z8 32)) []))
 (Q (.agg (z8 32)) []))):=by kernel_rfl
theorem vc54(S:JX)(F:HF)(rs ss:List AV)(i:Int)(Q:AV->Hl->Prop) :
  (vcall (vcA kdYes (cnJ2 S F) noLn) ops0 (tab81 54 vf54) 200 vf54 [.agg rs,.agg ss,.int .i64 i] [] (endN (fun _=>0) Q)) =
 ((Br (ops0.cmp .lss i (Int.ofNat 0))
 (Q (.agg (z8 32)) [])
 (Br (ops0.cmp .gtr i (Int.ofNat 2147483647))
 (Q (.agg (z8 32)) [])
 (Chk (ops0.le 32 (ops0.len rs))
 (Chk (ops0.le 32 (ops0.len ss))
 (((Int.ofNat 0)<=(ops0.cvt .u64 i)) /\
 (((PKey (ops0.ext rs 0 32)) /\
 (PTag [(.ros ss 0 32 32 Bool.false),(.ros (MF.bytes (NF.toMF (NG.toNF (HF.toNG F))) (ops0.cvt .u64 i)) 0 8 8 Bool.false)] 0 2)) /\
 (Chk (ops0.eq (ops0.len (GF.tag (NG.toGF (HF.toNG F)) (ops0.ext rs 0 32) [112,97,114,116] [(partA (.ros ss 0 32 32 Bool.false)),(partA (.ros (MF.bytes (NF.toMF (NG.toNF (HF.toNG F))) (ops0.cvt .u64 i)) 0 8 8 Bool.false))])) 32)
 (Chk (ops0.le 32 (ops0.len (ops0.spl (z8 32) 0 (GF.tag (NG.toGF (HF.toNG F)) (ops0.ext rs 0 32) [112,97,114,116] [(partA (.ros ss 0 32 32 Bool.false)),(partA (.ros (MF.bytes (NF.toMF (NG.toNF (HF.toNG F))) (ops0.cvt .u64 i)) 0 8 8 Bool.false))]))))
 (Q (.agg (ops0.ext (ops0.spl (z8 32) 0 (GF.tag (NG.toGF (HF.toNG F)) (ops0.ext rs 0 32) [112,97,114,116] [(partA (.ros ss 0 32 32 Bool.false)),(partA (.ros (MF.bytes (NF.toMF (NG.toNF (HF.toNG F))) (ops0.cvt .u64 i)) 0 8 8 Bool.false))])) 0 32)) [])))))))))):=by kernel_rfl
theorem q80:CnOK Try.prog (cnJ1 jx0):=by
 intro f vals H p x e hp
 unfold cnJ1 at e
 split at e
 ·split at e
  ·rename_i cs o n c ex hv
   cases e
   have h:=CallTo.lookV (H:=H) (q9i c ex hp) (.cons (Vw.one hv hp.1) .nil)
   rw[qbo (qac _)] at h
   exact h
  ·cases e
 ·split at e
  ·rename_i cs o n c ex hv
   cases e
   have h:=CallTo.lookV (H:=H) (q9r c ex hp) (.cons (Vw.one hv hp.1) .nil)
   rw[qbo (qac _)] at h
   exact h
  ·cases e
 ·cases e
theorem q6p:CnOK Try.prog (cnJ2 jx0 hf0):=qfl q80 qna
theorem q45(r s:List UInt8)(i:Int):(secL r s i).length=32:=by
 unfold secL
 split
 ·split
  ·exact qcw _ _ _
  ·unfold qiw;rw[List.length_replicate]
 ·unfold qiw;rw[List.length_replicate]
theorem q5c(r s:List UInt8)(i:Int):(hshL r s i).length=32:=by
 unfold hshL
 split
 ·split
  ·exact qbu _
  ·unfold qiw;rw[List.length_replicate]
 ·unfold qiw;rw[List.length_replicate]
theorem iGeq'{a b:Int}:ops0.cmp .geq a b=decide (b<=a):=rfl
theorem iLeq'{a b:Int}:ops0.cmp .leq a b=decide (a<=b):=rfl
theorem iLss'{a b:Int}:ops0.cmp .lss a b=decide (a<b):=rfl
theorem iGtr'{a b:Int}:ops0.cmp .gtr a b=decide (b<a):=rfl
theorem flat0{l:List UInt8}:cutV 0 (.agg (l.map by8)) = .agg (l.map by8):=by
 unfold cutV
 rw[ren,qaa (qac _)]
theorem q73{r s:List UInt8}(hr:r.length=32)(hs:s.length=32){i:Int}(h0:0<=i)(h1:i<=2147483647){Q:AV->Hl->Prop}(hQ:Q (.agg ((secL r s i).map by8)) []) :
  Chk (ops0.le 32 (ops0.len (r.map by8))) (Chk (ops0.le 32 (ops0.len (s.map by8))) ((Int.ofNat 0<=ops0.cvt .u64 i)/\((PKey (ops0.ext (r.map by8) 0 32) /\
   PTag [.ros (s.map by8) 0 32 32 false,.ros (MF.bytes (NF.toMF (NG.toNF (HF.toNG hf0))) (ops0.cvt .u64 i)) 0 8 8 false] 0 2) /\
   Chk (ops0.eq (ops0.len (GF.tag (NG.toGF (HF.toNG hf0)) (ops0.ext (r.map by8) 0 32) [112,97,114,116] [partA (.ros (s.map by8) 0 32 32 false),partA (.ros (MF.bytes (NF.toMF (NG.toNF (HF.toNG hf0))) (ops0.cvt .u64 i)) 0 8 8 false)])) 32)
   (Chk (ops0.le 32 (ops0.len (ops0.spl (z8 32) 0 (GF.tag (NG.toGF (HF.toNG hf0)) (ops0.ext (r.map by8) 0 32) [112,97,114,116] [partA (.ros (s.map by8) 0 32 32 false),partA (.ros (MF.bytes (NF.toMF (NG.toNF (HF.toNG hf0))) (ops0.cvt .u64 i)) 0 8 8 false)]))))
   (Q (.agg (ops0.ext (ops0.spl (z8 32) 0 (GF.tag (NG.toGF (HF.toNG hf0)) (ops0.ext (r.map by8) 0 32) [112,97,114,116] [partA (.ros (s.map by8) 0 32 32 false),partA (.ros (MF.bytes (NF.toMF (NG.toNF (HF.toNG hf0))) (ops0.cvt .u64 i)) 0 8 8 false)])) 0 32)) []))))):=by
 obtain⟨m,rfl⟩:∃ m:Nat,i=Int.ofNat m:=⟨i.toNat,(Int.toNat_of_nonneg h0).symm⟩
 have hm:m<=2147483647:=by simp only[Int.ofNat_eq_natCast] at h1;omega
 have hb:MF.bytes (NF.toMF (NG.toNF (HF.toNG hf0))) (Int.ofNat m)=(qar m).map by8:=rfl
 have hbl:(qar m).length=8:=qbh _
 have ht:GF.tag (NG.toGF (HF.toNG hf0)) (r.map by8) [112,97,114,116] [s,qar m]=(tagL r [112,97,114,116] [s,qar m]).map by8:=qhe _ _ _
 have hl:=qcw r [112,97,114,116] [s,qar m]
 have hlm:((tagL r [112,97,114,116] [s,qar m]).map by8).length=32:=by rw[List.length_map,hl]
 have hsec:secL r s (Int.ofNat m)=tagL r [112,97,114,116] [s,qar m]:=by
  unfold secL
  rw[if_pos h0,if_pos h1]
  rfl
 rw[hsec] at hQ
 rw[nC64 (by omega),hb,qhj hr,qb8 s 32 32 hs.symm,qb8 (qar m) 8 8 hbl.symm,ht,spl32 hl,ext32 hlm,nEq,nLe,nLe,nLe,nLen,nLen,nLen,List.length_map,List.length_map,List.length_map]
 refine Chk.mk (decide_eq_true (by omega)) (Chk.mk (decide_eq_true (by omega)) ⟨Int.natCast_nonneg _,⟨pkey r hr,?_⟩,Chk.mk (decide_eq_true (by omega)) (Chk.mk (decide_eq_true (by omega)) hQ)⟩)
 have a1:qan (s.map by8) 0 32 s:=by have:=qax s;rw[hs] at this;exact this
 have a2:qan ((qar m).map by8) 0 8 (qar m):=by have:=qax (qar m); rw[hbl] at this;exact this
 exact qo8 32 false 8 false (qac _) a1 (by rw[List.length_map]; omega) (by omega) (qac _) a2 (by rw[List.length_map]; omega) (by omega)
theorem q9e{r s:List UInt8}(hr:r.length=32)(hs:s.length=32)(i:Int):CallTo Try.prog 53 [.agg (r.map by8),.agg (s.map by8),.int .i64 i] [] (.agg ((secL r s i).map by8)) [] []:=by
 refine qb7 q6p (qai _) (q48 ok53) (q49 53 vf53) (n:=200) (g:=kdYes) (m:=fun _=>0) [] ?_ (Nat.le_refl 0) flat0 (fun b hb=>by simp at hb)
 rw[vc53,iGeq',iLeq',q44]
 refine Br.mk (fun h => ?_) (fun h => ?_)
 ·have h:0<=i:=of_decide_eq_true h
  refine Br.mk (fun h1 => ?_) (fun h1 => ?_)
  ·have h1:i<=2147483647:=of_decide_eq_true h1
   rw[<-q44]
   exact q73 hr hs h h1 (Q:=fun x H'=>x = .agg ((secL r s i).map by8)/\H' = []) ⟨rfl,rfl⟩
  ·have h1:¬ i<=2147483647:=of_decide_eq_false h1
   unfold secL
   rw[if_pos h,if_neg h1]
   exact⟨rfl,rfl⟩
 ·have h:¬ 0<=i:=of_decide_eq_false h
  unfold secL
  rw[if_neg h]
  exact⟨rfl,rfl⟩
theorem q93{r s:List UInt8}(hr:r.length=32)(hs:s.length=32)(i:Int):CallTo Try.prog 54 [.agg (r.map by8),.agg (s.map by8),.int .i64 i] [] (.agg ((secL r s i).map by8)) [] []:=by
 refine qb7 q6p (qai _) (q48 ok54) (q49 54 vf54) (n:=200) (g:=kdYes) (m:=fun _=>0) [] ?_ (Nat.le_refl 0) flat0 (fun b hb=>by simp at hb)
 rw[vc54,iLss',iGtr',q44]
 refine Br.mk (fun h => ?_) (fun h => ?_)
 ·have h:i<0:=of_decide_eq_true h
  unfold secL
  rw[if_neg (by omega)]
  exact⟨rfl,rfl⟩
 ·have h:¬ i<0:=of_decide_eq_false h
  refine Br.mk (fun h1 => ?_) (fun h1 => ?_)
  ·have h1:2147483647<i:=of_decide_eq_true h1
   unfold secL
   rw[if_pos (by omega),if_neg (by omega)]
   exact⟨rfl,rfl⟩
  ·have h1:¬ 2147483647<i:=of_decide_eq_false h1
   rw[<-q44]
   exact q73 hr hs (by omega) (by omega) (Q:=fun x H'=>x = .agg ((secL r s i).map by8)/\H' = []) ⟨rfl,rfl⟩
theorem vwA(H:Hl)(l:List UInt8):Vw H (.agg (l.map by8)) (.agg (l.map by8)):=Vw.agg H (Still.flat (qac l))
theorem q46:CnOK Try.prog (cnJ3 jx0 jy0 hf0):=by
 refine qfl ?_ q6p
 intro f vals H p x e hp
 dsimp only at e
 split at e<;>cases e
 ·rename_i rs ss i
  obtain⟨⟨r,hr,rfl⟩,⟨s,hs,rfl⟩⟩:=hp
  have h:=CallTo.lookV (H:=H) (q9e hr hs i) (.cons (vwA H r) (.cons (vwA H s) (.cons (Vw.int H _ _) .nil)))
  rw[qbo (qac _)] at h
  show CallTo _ _ _ _ (.agg ((secL (qag (r.map by8)) (qag (s.map by8)) _).map by8)) _ _
  rw[qab,qab]
  exact h
 ·rename_i rs ss i
  obtain⟨⟨r,hr,rfl⟩,⟨s,hs,rfl⟩⟩:=hp
  have h:=CallTo.lookV (H:=H) (q93 hr hs i) (.cons (vwA H r) (.cons (vwA H s) (.cons (Vw.int H _ _) .nil)))
  rw[qbo (qac _)] at h
  show CallTo _ _ _ _ (.agg ((secL (qag (r.map by8)) (qag (s.map by8)) _).map by8)) _ _
  rw[qab,qab]
  exact h
theorem q9y{r s:List UInt8}(hr:r.length=32)(hs:s.length=32)(i:Int):CallTo Try.prog 55 [.agg (r.map by8),.agg (s.map by8),.int .i64 i] [] (.agg ((hshL r s i).map by8)) [] []:=by
 refine qb7 q46 (qai _) (q48 ok55) (q49 55 vf55) (n:=200) (g:=kdYes) (m:=fun _=>0) [] ?_ (Nat.le_refl 0) flat0 (fun b hb=>by simp at hb)
 have e1:jy0.sec (r.map by8) (s.map by8) i=(secL r s i).map by8:=by
  show(secL (qag _) (qag _) i).map by8=_
  rw[qab,qab]
 rw[vc55,iGeq',iLeq',qhj hr,qhj hs,e1,qic,spl32 (qbu _),ext32 (sum32 _)]
 unfold hshL
 refine Br.mk (fun h => ?_) (fun h => ?_)
 ·have h:0<=i:=of_decide_eq_true h
  rw[if_pos h]
  refine Br.mk (fun h1 => ?_) (fun h1 => ?_)
  ·have h1:i<=2147483647:=of_decide_eq_true h1
   rw[if_pos h1]
   exact Chk.mk (qbk hr) (Chk.mk (qbk hs) ⟨⟨pkey r hr,pkey s hs⟩,pkey _ (q45 r s i),Chk.mk (eq32 (sum32 _)) (Chk.mk (qbk (qbu _)) ⟨rfl,rfl⟩)⟩)
  ·have h1:¬ i<=2147483647:=of_decide_eq_false h1
   rw[if_neg h1,q44]
   exact⟨rfl,rfl⟩
 ·have h:¬ 0<=i:=of_decide_eq_false h
  rw[if_neg h,q44]
  exact⟨rfl,rfl⟩
theorem q9s{r s:List UInt8}(hr:r.length=32)(hs:s.length=32)(i:Int):CallTo Try.prog 56 [.agg (r.map by8),.agg (s.map by8),.int .i64 i] [] (.agg ((hshL r s i).map by8)) [] []:=by
 refine qb7 q46 (qai _) (q48 ok56) (q49 56 vf56) (n:=200) (g:=kdYes) (m:=fun _=>0) [] ?_ (Nat.le_refl 0) flat0 (fun b hb=>by simp at hb)
 have e1:jy0.sec (r.map by8) (s.map by8) i=(secL r s i).map by8:=by
  show(secL (qag _) (qag _) i).map by8=_
  rw[qab,qab]
 have hl:=q45 r s i
 rw[vc56,iLss',iGtr',qhj hr,qhj hs,e1,spl32 hl,rdW hl,qol,spl32 (qbu _),ext32 (sum32 _)]
 unfold hshL
 refine Br.mk (fun h => ?_) (fun h => ?_)
 ·have h:i<0:=of_decide_eq_true h
  rw[if_neg (by omega),q44]
  exact⟨rfl,rfl⟩
 ·have h:¬ i<0:=of_decide_eq_false h
  rw[if_pos (by omega)]
  refine Br.mk (fun h1 => ?_) (fun h1 => ?_)
  ·have h1:2147483647<i:=of_decide_eq_true h1
   rw[if_neg (by omega),q44]
   exact⟨rfl,rfl⟩
  ·have h1:¬ 2147483647<i:=of_decide_eq_false h1
   rw[if_pos (by omega)]
   exact Chk.mk (qbk hr) (Chk.mk (qbk hs) ⟨⟨pkey r hr,pkey s hs⟩,Chk.mk (eq32 (by rw[List.length_map,hl])) (Chk.mk (qbk hl) ⟨qbz _ 32 hl.symm (by omega),Chk.mk (eq32 (sum32 _)) (Chk.mk (qbk (qbu _)) ⟨rfl,rfl⟩)⟩)⟩)
end
end Go.Proofs.Vm

namespace Go.Proofs.Vm
set_option maxRecDepth 100000
open Go.Vm
noncomputable section
def endT(Q:Nat->Nat->Nat->Nat->List AV->Int->Prop)(N:Int->Prop):AV->Hl->List Nat->Prop:=fun r H _=>match r with
 | .tup [.slc b o n c sz,.int .i64 v]=>match nth H b with
  | some (.cells cs)=>flatL cs/\Q o n c sz cs v
  | _=>False
 | .tup [.nils,.int .i64 v]=>N v
 | _=>False
structure JZ where
 out:List AV->List AV->Int->List AV
 wnt:List AV->List AV->Int->List AV
def P48(rs ss os ws:List AV)(n m:Int)(N:Nat):Prop:=flatL rs/\PKey ss/\PKey ws/\os=(z8 (N*32))/\1<=n/\n<=16/\n=N/\m=n - 1
noncomputable def lp48:VC:=vp [1,1,1,1,0,1,0,0] vf48.body
def fr48(n m:Int)(N:Nat)(i:Int):Fr := [.top,.top,.int .i64 n,.top,.ptr 1 0,.top,.top,.top,.slc 2 0 N N 32,.ptr 3 0,.top,.top,.top,.top,.top,.top,.top,.top,.top,.top,.top,.int .i64 m,.int .i64 i,.top,.top,.top,.top,.top,.top,.top,.top,.top,.top,.top,.top,.top,.top,.top,.top,.top,.top,.top,.top,.top,.top,.top]
def mk48:List Bool := [true,true,false,true,false,true,true,true,false,false,true,true,true,true,true,true,true,true,true,true,true,false,false,true,true,true,true,true,true,true,true,true,true,true,true,true,true,true,true,true,true,true,true,true,true,true]
def ln48(Z:JZ):LnF:=fun n0 b fr H=>match slot fr 2,slot fr 21,slot fr 8,H with
 | .int .i64 n,.int .i64 m,.slc 2 0 N _ 32,[.cells rs,.cells ss,.cells os,.cells ws] =>
  some (n0=0/\VCis b lp48/\forget mk48 fr=fr48 n m N 0/\P48 rs ss os ws n m N,.ok (.exit 0) (fr48 n m N m) [.cells rs,.cells ss,.cells (Z.out ss os m),.cells (Z.wnt ws ss m)])
 | _,_,_,_=>none
theorem vcl48(S:JX)(Y:JY)(F:HF)(rs ss os ws:List AV)(n m:Int)(N:Nat)(i:Int)(Q:Ex->Fr->Hl->Prop) :
  (vm (vcA kdYes (cnJ3 S Y F) noLn) ops0 noTab 100 0 lp48 (fr48 n m N i) [.cells rs,.cells ss,.cells os,.cells ws] [] (bodyX mk48 Q)) =
 ((Br (ops0.cmp .lss i m)
 (Chk (ops0.le 32 (ops0.len ss))
 (((PKey (ops0.ext ss 0 32)) /\
 ((Int.ofNat 0)<=(ops0.cvt .u64 i))) /\
 (Chk (ops0.inr i N)
 (Chk (ops0.eq (ops0.len (HF.drv F (ops0.ext ss 0 32) [115,104,97,114,101] (ops0.cvt .u64 i))) 32)
 (Chk (ops0.le (ops0.add (ops0.adr 0 i 32) 32) (ops0.len os))
 (Chk (ops0.le 32 (ops0.len ws))
 (Chk (ops0.inr i N)
 (Chk (ops0.le (ops0.add (ops0.adr 0 i 32) 32) (ops0.len (ops0.spl os (ops0.adr 0 i 32) (HF.drv F (ops0.ext ss 0 32) [115,104,97,114,101] (ops0.cvt .u64 i)))))
 (Chk (ops0.eq (ops0.len (ops0.ext ws 0 32)) 32)
 (Chk (ops0.eq (ops0.len (ops0.ext (ops0.spl os (ops0.adr 0 i 32) (HF.drv F (ops0.ext ss 0 32) [115,104,97,114,101] (ops0.cvt .u64 i))) (ops0.adr 0 i 32) 32)) 32)
 (Chk (ops0.le 64 (ops0.len (ops0.spl (z8 64) 0 (ops0.ext ws 0 32))))
 ((PSh (ops0.spl (ops0.spl (z8 64) 0 (ops0.ext ws 0 32)) 32 (ops0.ext (ops0.spl os (ops0.adr 0 i 32) (HF.drv F (ops0.ext ss 0 32) [115,104,97,114,101] (ops0.cvt .u64 i))) (ops0.adr 0 i 32) 32)) 0 2) /\
 (Chk (ops0.eq (ops0.len (JX.jn S (ops0.spl (ops0.spl (z8 64) 0 (ops0.ext ws 0 32)) 32 (ops0.ext (ops0.spl os (ops0.adr 0 i 32) (HF.drv F (ops0.ext ss 0 32) [115,104,97,114,101] (ops0.cvt .u64 i))) (ops0.adr 0 i 32) 32)) 0 2)) 32)
 (Chk (ops0.le 32 (ops0.len ws))
 (Q Ex.norm (tp 2 ((.int .i64 n) :: .top::(.ptr 1 0)::tp 3 ((.slc 2 0 N N 32)::(.ptr 3 0)::tp 11 ((.int .i64 m)::(.int .i64 (ops0.bin .add .i64 i (Int.ofNat 1)))::tp 23 ([]))))) [(.cells rs),(.cells ss),(.cells (ops0.spl os (ops0.adr 0 i 32) (HF.drv F (ops0.ext ss 0 32) [115,104,97,114,101] (ops0.cvt .u64 i)))),(.cells (ops0.spl ws 0 (JX.jn S (ops0.spl (ops0.spl (z8 64) 0 (ops0.ext ws 0 32)) 32 (ops0.ext (ops0.spl os (ops0.adr 0 i 32) (HF.drv F (ops0.ext ss 0 32) [115,104,97,114,101] (ops0.cvt .u64 i))) (ops0.adr 0 i 32) 32)) 0 2)))])))))))))))))))
 (Q (Ex.exit 0) (tp 2 ((.int .i64 n) :: .top::(.ptr 1 0)::tp 3 ((.slc 2 0 N N 32)::(.ptr 3 0)::tp 11 ((.int .i64 m)::(.int .i64 i)::tp 23 ([]))))) [(.cells rs),(.cells ss),(.cells os),(.cells ws)]))):=by kernel_rfl
theorem vc48(S:JX)(Y:JY)(F:HF)(Z:JZ)(rs ss:List AV)(n:Int)(Q:Nat->Nat->Nat->Nat->List AV->Int->Prop)(QN:Int->Prop) :
  (vcall (vcA kdYes (cnJ3 S Y F) (ln48 Z)) ops0 (qah 48 vf48) 200 vf48 [.agg rs,.agg ss,.int .i64 n] [] (endT Q QN)) =
 ((Br (ops0.cmp .lss n (Int.ofNat 1))
 (QN (Int.ofNat 1))
 (Br (ops0.cmp .gtr n (Int.ofNat 16))
 (QN (Int.ofNat 1))
 (Chk (ops0.mkr n n 32)
 (Chk (ops0.le 32 (ops0.len rs))
 (Chk (ops0.eq (ops0.len (ops0.ext rs 0 32)) 32)
 ((((0:Nat)=0) /\
 ((VCis lp48 lp48) /\
 ((((tp 2 ((.int .i64 n) :: .top::(.ptr 1 0)::tp 3 ((.slc 2 0 (ops0.nat n) (ops0.nat n) 32)::(.ptr 3 0)::tp 11 ((.int .i64 (ops0.bin .sub .i64 n (Int.ofNat 1)))::(.int .i64 (.ofNat 0))::tp 23 ([]))))):Fr)=(tp 2 ((.int .i64 n) :: .top::(.ptr 1 0)::tp 3 ((.slc 2 0 (ops0.nat n) (ops0.nat n) 32)::(.ptr 3 0)::tp 11 ((.int .i64 (ops0.bin .sub .i64 n (Int.ofNat 1)))::(.int .i64 (.ofNat 0))::tp 23 ([])))))) /\
 (P48 rs ss (ops0.rep (ops0.nat n) (z8 32)) (ops0.spl (z8 32) 0 (ops0.ext rs 0 32)) n (ops0.bin .sub .i64 n (Int.ofNat 1)) (ops0.nat n))))) /\
 (Chk (ops0.le 32 (ops0.len (JZ.wnt Z (ops0.spl (z8 32) 0 (ops0.ext rs 0 32)) ss (ops0.bin .sub .i64 n (Int.ofNat 1)))))
 (Chk (ops0.inr (ops0.bin .sub .i64 n (Int.ofNat 1)) (ops0.nat n))
 (Chk (ops0.eq (ops0.len (ops0.ext (JZ.wnt Z (ops0.spl (z8 32) 0 (ops0.ext rs 0 32)) ss (ops0.bin .sub .i64 n (Int.ofNat 1))) 0 32)) 32)
 (Chk (ops0.le (ops0.add (ops0.adr 0 (ops0.bin .sub .i64 n (Int.ofNat 1)) 32) 32) (ops0.len (JZ.out Z ss (ops0.rep (ops0.nat n) (z8 32)) (ops0.bin .sub .i64 n (Int.ofNat 1)))))
 ((flatL (ops0.spl (JZ.out Z ss (ops0.rep (ops0.nat n) (z8 32)) (ops0.bin .sub .i64 n (Int.ofNat 1))) (ops0.adr 0 (ops0.bin .sub .i64 n (Int.ofNat 1)) 32) (ops0.ext (JZ.wnt Z (ops0.spl (z8 32) 0 (ops0.ext rs 0 32)) ss (ops0.bin .sub .i64 n (Int.ofNat 1))) 0 32))) /\
 (Q 0 (ops0.nat n) (ops0.nat n) 32 (ops0.spl (JZ.out Z ss (ops0.rep (ops0.nat n) (z8 32)) (ops0.bin .sub .i64 n (Int.ofNat 1))) (ops0.adr 0 (ops0.bin .sub .i64 n (Int.ofNat 1)) 32) (ops0.ext (JZ.wnt Z (ops0.spl (z8 32) 0 (ops0.ext rs 0 32)) ss (ops0.bin .sub .i64 n (Int.ofNat 1))) 0 32)) (Int.ofNat 0)))))))))))))):=by kernel_rfl
theorem qdb{L:List (List UInt8)}(h:∀ x,x∈L->x.length=32):L.flatten.length=L.length*32:=by
 induction L with
 | nil=>rfl
 | cons y L ih =>
  have:=ih fun x hx=>h x (List.mem_cons_of_mem _ hx)
  rw[List.flatten_cons,List.length_append,this,h y List.mem_cons_self,List.length_cons]
  omega
theorem qlu(rest:List AV):∀ (L:List (List UInt8)) (i:Nat) (x:List UInt8),(∀ x,x∈L->x.length=32)->L[i]? = some x->((L.flatten.map by8++rest).drop (i*32)).take 32=x.map by8
 | [],i,x,_,hx=>by cases hx
 | y::L,i,x,h,hx=>by
  have hy:=h y List.mem_cons_self
  have hym:(y.map by8).length=32:=by rw[List.length_map,hy]
  rw[List.flatten_cons,List.map_append,List.append_assoc]
  cases i with
  | zero =>
   cases hx
   rw[Nat.zero_mul,List.drop_zero,List.take_append_of_le_length (by omega),List.take_of_length_le (by omega)]
  | succ i =>
   have ih:=qlu rest L i x (fun x hx=>h x (List.mem_cons_of_mem _ hx)) hx
   have e0:(y.map by8++(L.flatten.map by8++rest)).drop 32=L.flatten.map by8++rest:=by
    rw[List.drop_append_of_le_length (by omega),List.drop_of_length_le (by omega),List.nil_append]
   rw[show(i+1)*32=32+i*32 by omega,<-List.drop_drop,e0]
   exact ih
theorem q0w{L:List (List UInt8)}(h:∀ x,x∈L->x.length=32)(rest:List AV):ShAt (L.flatten.map by8++rest) 0 L.length L :=
 ⟨rfl,fun i x hx=>⟨h x (List.mem_of_getElem? hx),by rw[Nat.zero_add]; exact qlu rest L i x h hx⟩⟩
theorem qp7{L:List (List UInt8)}(h:∀ x,x∈L->x.length=32)(hn:L.length<1099511627776){n:Nat}(hl:n=L.length):PSh (L.flatten.map by8) 0 n:=by
 subst hl
 have e:=q0w h []
 rw[List.append_nil] at e
 exact⟨qac _,by rw[List.length_map,qdb h]; omega,hn,L,e⟩
theorem q5g{L:List (List UInt8)}(h:∀ x,x∈L->x.length=32){n:Nat}(hl:n=L.length):shA (L.flatten.map by8) 0 n=L:=by
 subst hl
 have e:=q0w h []
 rw[List.append_nil] at e
 exact qcr e
theorem zero_xor{a:List UInt8}(h:a.length=32):xorL qiw a=a:=by
 unfold xorL qiw
 apply List.ext_getElem
 ·simp[h]
 ·intro i h1 h2
  simp only[List.getElem_zipWith,List.getElem_replicate,UInt8.zero_xor]
theorem q5v(a b:List UInt8):xorL a b=xorL b a:=by
 unfold xorL
 rw[List.zipWith_comm]
 congr 1
 funext x y
 exact UInt8.xor_comm _ _
theorem q6b(a b c:List UInt8):xorL (xorL a b) c=xorL a (xorL b c):=by
 unfold xorL
 apply List.ext_getElem
 ·first|(simp;done)|(simp;omega)
 ·intro i h1 h2
  simp only[List.getElem_zipWith,UInt8.xor_assoc]
theorem q7k{a:List UInt8}(h:a.length=32):xorL a a=qiw:=by
 unfold xorL qiw
 apply List.ext_getElem
 ·simp[h]
 ·intro i h1 h2
  simp only[List.getElem_zipWith,List.getElem_replicate,UInt8.xor_self]
theorem q5p{L:List (List UInt8)}(h:∀ x,x∈L->x.length=32):∀ a:List UInt8,a.length=32->L.foldl xorL a=xorL a (joinL L):=by
 induction L with
 | nil=>intro a ha;unfold joinL;rw[List.foldl_nil,List.foldl_nil,q5v,zero_xor ha]
 | cons x L ih =>
  intro a ha
  have hx:=h x List.mem_cons_self
  have ih:=ih fun y hy=>h y (List.mem_cons_of_mem _ hy)
  have e:joinL (x::L)=xorL x (joinL L):=by
   show L.foldl xorL (xorL qiw x)=_
   rw[zero_xor hx,ih x hx]
  rw[List.foldl_cons,ih _ (q5u ha hx),e,q6b]
def q9k:List UInt8 := [115,104,97,114,101]
def dL(s:List UInt8)(i:Nat):List UInt8:=tagL s q9k [qar i]
def dsL(s:List UInt8)(k:Nat):List (List UInt8):=(List.range k).map (dL s)
def splL(r s:List UInt8)(n:Nat):List (List UInt8):=dsL s (n - 1) ++ [(dsL s (n - 1)).foldl xorL r]
theorem q5m(s:List UInt8)(i:Nat):(dL s i).length=32:=qcw _ _ _
theorem ds_32(s:List UInt8)(k:Nat):∀ x,x∈dsL s k->x.length=32:=by
 intro x hx
 obtain⟨i,_,rfl⟩:=List.mem_map.1 hx
 exact q5m s i
theorem q5f(s:List UInt8)(k:Nat):(dsL s k).length=k:=by unfold dsL;rw[List.length_map,List.length_range]
theorem q6e(s:List UInt8)(k:Nat):dsL s (k+1)=dsL s k ++ [dL s k]:=by unfold dsL;rw[List.range_succ,List.map_append]; rfl
theorem q5q{r:List UInt8}(h:r.length=32)(s:List UInt8)(k:Nat):((dsL s k).foldl xorL r).length=32:=by
 rw[q5p (ds_32 s k) r h]
 exact q5u h (q5b (ds_32 s k))
theorem q5o{r:List UInt8}(h:r.length=32)(s:List UInt8)(n:Nat):∀ x,x∈splL r s n->x.length=32:=by
 intro x hx
 unfold splL at hx
 rcases List.mem_append.1 hx with hx|hx
 ·exact ds_32 _ _ x hx
 ·rw[List.mem_singleton] at hx
  rw[hx]; exact q5q h s _
theorem q47(r s:List UInt8){n:Nat}(h:1<=n):(splL r s n).length=n:=by
 unfold splL
 rw[List.length_append,q5f,List.length_singleton]; omega
theorem q6r(a b:Nat):(z8 a).drop b=z8 (a - b):=by unfold z8;rw[List.drop_replicate]
def jz0:JZ:=⟨fun ss os m=>(dsL (qag ss) m.toNat).flatten.map by8++os.drop (m.toNat*32),fun ws ss m=>((dsL (qag ss) m.toNat).foldl xorL (qag ws)).map by8⟩
theorem q7n(s:List UInt8)(i:Nat):HF.drv hf0 (s.map by8) [115,104,97,114,101] (Int.ofNat i)=(dL s i).map by8:=by
 show(tagL (qag (s.map by8)) _ [qar (Int.ofNat i).toNat]).map by8=_
 rw[qab]
 rfl
theorem q5h{A d:List UInt8}{p k:Nat}(hA:A.length=p)(hd:d.length=32):ops0.spl (A.map by8++z8 k) p (d.map by8)=(A++d).map by8++z8 (k - 32):=by
 have hAm:(A.map by8).length=p:=by rw[List.length_map,hA]
 rw[nSpl,List.take_append_of_le_length (by omega),List.take_of_length_le (by omega),List.length_map,hd,List.drop_append,List.drop_of_length_le (by omega),List.nil_append,hAm,q6r,show p+32 - p=32 by omega,List.map_append,List.append_assoc]
theorem q83{A d:List UInt8}{p k:Nat}(hA:A.length=p)(hd:d.length=32):ops0.ext ((A++d).map by8++z8 k) p 32=d.map by8:=by
 have hAm:(A.map by8).length=p:=by rw[List.length_map,hA]
 have hdm:(d.map by8).length=32:=by rw[List.length_map,hd]
 rw[nExt,List.map_append,List.append_assoc,List.drop_append_of_le_length (by omega),List.drop_of_length_le (by omega),List.nil_append,List.take_append_of_le_length (by omega),List.take_of_length_le (by omega)]
theorem q66{w d:List UInt8}(hw:w.length=32)(hd:d.length=32):ops0.spl (ops0.spl (z8 64) 0 (w.map by8)) 32 (d.map by8)=([w,d]:List (List UInt8)).flatten.map by8:=by
 have h1:=q5h (A := []) (d:=w) (p:=0) (k:=64) rfl hw
 rw[List.map_nil,List.nil_append,List.nil_append] at h1
 rw[h1,q5h hw hd]
 show _++z8 0=_
 rw[show z8 0 = [] from rfl,List.append_nil]
 simp
theorem q5x{w d:List UInt8}(hw:w.length=32)(hd:d.length=32):∀ x,x∈([w,d]:List (List UInt8))->x.length=32:=by
 intro x hx
 simp at hx
 rcases hx with rfl|rfl
 ·exact hw
 ·exact hd
theorem q50{w d:List UInt8}(hw:w.length=32):joinL [w,d]=xorL w d:=by
 show xorL (xorL qiw w) d=_
 rw[zero_xor hw]
theorem qgg{a b:List UInt8}(ha:a.length=32)(hb:b.length=32):ops0.spl (a.map by8) 0 (b.map by8)=b.map by8:=by
 rw[nSpl,List.take_zero,List.nil_append,List.drop_of_length_le (by rw[List.length_map,List.length_map]; omega),List.append_nil]
theorem q9n{rs:List AV}{r s:List UInt8}{N i:Nat}(hr:r.length=32)(hs:s.length=32)(hN:N<=16)(hi:i+1<N) :
  qap Try.prog 0 lp48 (fr48 (Int.ofNat N) (Int.ofNat (N - 1)) N (Int.ofNat i)) [.cells rs,.cells (s.map by8),.cells ((dsL s i).flatten.map by8++z8 ((N - i)*32)),.cells (((dsL s i).foldl xorL r).map by8)] .norm
   (fr48 (Int.ofNat N) (Int.ofNat (N - 1)) N (Int.ofNat (i+1))) [.cells rs,.cells (s.map by8),.cells ((dsL s (i+1)).flatten.map by8++z8 ((N - (i+1))*32)),.cells (((dsL s (i+1)).foldl xorL r).map by8)]:=by
 refine qa2 q46 (qai _) (qak _) (n:=100) (g:=kdYes) (bs:=mk48) ?_ (by simp)
 have hw:=q5q hr s i
 have hd:=q5m s i
 have hA:(dsL s i).flatten.length=i*32:=by rw[qdb (ds_32 s i),q5f]
 have e1:(dsL s (i+1)).flatten=(dsL s i).flatten++dL s i:=by rw[q6e,List.flatten_append]; simp
 have e2:(dsL s (i+1)).foldl xorL r=xorL ((dsL s i).foldl xorL r) (dL s i):=by rw[q6e,List.foldl_append]; rfl
 have e3:(N - i)*32 - 32=(N - (i+1))*32:=by omega
 rw[e1,e2]
 generalize (dsL s i).foldl xorL r=w at hw
 generalize (dsL s i).flatten=A at hA
 have ej:jx0.jn (([w,dL s i]:List (List UInt8)).flatten.map by8) 0 2=(xorL w (dL s i)).map by8:=by
  show(joinL (shA _ 0 2)).map by8=_
  rw[q5g (n:=2) (q5x hw hd) rfl,q50 hw]
 have hx:=q5u hw hd
 have hin:ops0.inr (Int.ofNat i) N=true:=by rw[nInr]; exact decide_eq_true (by omega)
 rw[vcl48,nC64 (by omega),qhj hs,q7n,nAdr,Nat.zero_add,q5h hA hd,q83 hA hd,ext32 (by rw[List.length_map,hw]),q66 hw hd,ej,qgg hw hx,add1 (by omega),nLss,hin,e3]
 refine Br.t (decide_eq_true (by omega)) (Chk.mk (qbk hs) ⟨⟨pkey s hs,Int.natCast_nonneg _⟩,Chk.mk rfl (Chk.mk (eq32 (by rw[List.length_map,hd])) (Chk.mk ?_ (Chk.mk (qbk hw) (Chk.mk rfl (Chk.mk ?_ (Chk.mk (eq32 (by rw[List.length_map,hw])) (Chk.mk (eq32 (by rw[List.length_map,hd])) (Chk.mk ?_ ⟨qp7 (q5x hw hd) (by simp) rfl,Chk.mk (eq32 (by rw[List.length_map,hx])) (Chk.mk (qbk hw) ⟨rfl,rfl,rfl⟩)⟩))))))))⟩)
 ·rw[nLe,nPlus,nLen,List.length_append,List.length_map,qer]; exact decide_eq_true (by omega)
 ·rw[nLe,nPlus,nLen,List.length_append,List.length_map,List.length_append,qer]; exact decide_eq_true (by omega)
 ·have h1:=q5h (A := []) (d:=w) (p:=0) (k:=64) rfl hw
  rw[List.map_nil,List.nil_append,List.nil_append] at h1
  rw[h1,nLe,nLen,List.length_append,List.length_map,qer]; exact decide_eq_true (by omega)
theorem q7o:LnOK Try.prog (ln48 jz0):=by
 intro n0 b fr H p x e hn0 hp lg
 unfold ln48 at e
 split at e<;>cases e
 rename_i n m N c rs ss os ws h1 h2 h3
 obtain⟨rfl,hb,hf,hrs,⟨s,hs,rfl⟩,⟨r,hr,rfl⟩,rfl,hn1,hn2,rfl,rfl⟩:=hp
 have hb:b=lp48:=hb
 subst hb
 have hN1:1<=N:=by omega
 have hN2:N<=16:=by omega
 have em:((N:Nat):Int) - 1=Int.ofNat (N - 1):=by simp only[Int.ofNat_eq_natCast]; omega
 rw[em] at hf ⊢
 refine qam.pre (Weak.forget (by simp) mk48) ?_ lg
 rw[hf]
 have eo:jz0.out (s.map by8) (z8 (N*32)) (Int.ofNat (N - 1))=(dsL s (N - 1)).flatten.map by8++z8 ((N - (N - 1))*32):=by
  show(dsL (qag (s.map by8)) (N - 1)).flatten.map by8++(z8 (N*32)).drop ((N - 1)*32)=_
  rw[qab,q6r,show N*32 - (N - 1)*32=(N - (N - 1))*32 by omega]
 have ew:jz0.wnt (r.map by8) (s.map by8) (Int.ofNat (N - 1))=((dsL s (N - 1)).foldl xorL r).map by8:=by
  show((dsL (qag (s.map by8)) (N - 1)).foldl xorL (qag (r.map by8))).map by8=_
  rw[qab,qab]
 rw[eo,ew]
 have h:=qal (P:=Try.prog) (n0:=0) (b:=lp48) (ex := .exit 0) (fr':=fr48 (Int.ofNat N) (Int.ofNat (N - 1)) N (Int.ofNat (N - 1))) (H' := [.cells rs,.cells (s.map by8),.cells ((dsL s (N - 1)).flatten.map by8++z8 ((N - (N - 1))*32)),.cells (((dsL s (N - 1)).foldl xorL r).map by8)]) (by intro h;cases h)
  (fun i=>(fr48 (Int.ofNat N) (Int.ofNat (N - 1)) N (Int.ofNat i),[.cells rs,.cells (s.map by8),.cells ((dsL s i).flatten.map by8++z8 ((N - i)*32)),.cells (((dsL s i).foldl xorL r).map by8)])) (N - 1) 0 (fun i _ hi=>q9n hr hs hN2 (by omega)) ?_
 ·exact h
 ·rw[Nat.zero_add]
  refine qa2 q46 (qai _) (qak _) (n:=100) (g:=kdYes) (bs:=mk48) ?_ (by simp)
  rw[vcl48,nLss]
  exact Br.f (decide_eq_false (by omega)) ⟨rfl,rfl,rfl⟩
theorem q8f{P:Program}{g:Kd->Bool}{C:CnF}(hC:CnOK P C){E:LnF}(hE:LnOK P E){T:Nat->Option VF}(hT:∀ f vf,T f=some vf->FnOK P f vf){f n:Nat}{vf:VF}(hf:T f=some vf){vals:List AV}
  {o m c sz:Nat} {cs:List AV} {v:Int} (h:vcall (vcA g C E) ops0 T n vf vals [] (endT (fun o' m' c' sz' cs' v'=>o'=o/\m'=m/\c'=c/\sz'=sz/\cs'=cs/\v'=v) fun _=>False)) :
  CallTo P f vals [] (.tup [.slc 0 o m c sz,.int .i64 v]) [.cells cs] []:=by
 obtain⟨r,H',lg,hc,e⟩:=qcu hC hE hT hf h
 unfold endT at e
 split at e
 ·rename_i b o' m' c' sz' v'
  split at e
  ·rename_i cs' hb
   obtain⟨hfl,rfl,rfl,rfl,rfl,rfl,rfl⟩:=e
   rw[qb5] at hb
   have hlt:b<H'.length:=(List.getElem?_eq_some_iff.1 hb).1
   have h1:=hc.pick [b] (by simp) (by simpa using hlt) (by simp) (lg0 := []) (by simp)
   have e1:ren (pickN [b]) Go.Vm.noView true (.tup [.slc b o' m' c' sz',.int .i64 v']) = .tup [.slc 0 o' m' c' sz',.int .i64 v']:=by
    simp only[ren,renL,qhu]
   have e2:wkH [b] H' = [.cells cs']:=by
    simp only[wkH,pickH,List.map_cons,List.map_nil,hb,renB,qaa hfl]
   rw[e1,e2] at h1
   exact h1
  ·exact e.elim
 ·exact e.elim
 ·exact e.elim
theorem q69{P:Program}{g:Kd->Bool}{C:CnF}(hC:CnOK P C){E:LnF}(hE:LnOK P E){T:Nat->Option VF}(hT:∀ f vf,T f=some vf->FnOK P f vf){f n:Nat}{vf:VF}(hf:T f=some vf){vals:List AV}
  {v:Int} (h:vcall (vcA g C E) ops0 T n vf vals [] (endT (fun _ _ _ _ _ _=>False) fun v'=>v'=v)):CallTo P f vals [] (.tup [.nils,.int .i64 v]) [] []:=by
 obtain⟨r,H',lg,hc,e⟩:=qcu hC hE hT hf h
 unfold endT at e
 split at e
 ·split at e
  ·exact e.2.elim
  ·exact e.elim
 ·subst e
  have h1:=hc.pick [] (by simp) (by simp) (by simp) (lg0 := []) (by simp)
  simpa[wkH,pickH,ren,renL] using h1
 ·exact e.elim
theorem q9f(N:Nat):ops0.rep N (z8 32)=z8 (N*32):=by
 rw[nRep]
 unfold z8
 rw[List.flatten_replicate_replicate]
theorem q9o{r s:List UInt8}(hr:r.length=32)(hs:s.length=32){N:Nat}(h1:1<=N)(h2:N<=16) :
  CallTo Try.prog 48 [.agg (r.map by8),.agg (s.map by8),.int .i64 (Int.ofNat N)] [] (.tup [.slc 0 0 N N 32,.int .i64 0]) [.cells ((splL r s N).flatten.map by8)] []:=by
 refine q8f q46 q7o (qaj ok48) (qad 48 vf48) (n:=200) (g:=kdYes) ?_
 have hw:=q5q hr s (N - 1)
 have hA:(dsL s (N - 1)).flatten.length=(N - 1)*32:=by rw[qdb (ds_32 s (N - 1)),q5f]
 have hb:ops0.bin .sub .i64 (Int.ofNat N) (Int.ofNat 1)=Int.ofNat (N - 1):=nSub h1 (by omega)
 have eo:jz0.out (s.map by8) (z8 (N*32)) (Int.ofNat (N - 1))=(dsL s (N - 1)).flatten.map by8++z8 32:=by
  show(dsL (qag (s.map by8)) (N - 1)).flatten.map by8++(z8 (N*32)).drop ((N - 1)*32)=_
  rw[qab,q6r,show N*32 - (N - 1)*32=32 by omega]
 have ew:jz0.wnt (r.map by8) (s.map by8) (Int.ofNat (N - 1))=((dsL s (N - 1)).foldl xorL r).map by8:=by
  show((dsL (qag (s.map by8)) (N - 1)).foldl xorL (qag (r.map by8))).map by8=_
  rw[qab,qab]
 have ef:((dsL s (N - 1)).flatten++(dsL s (N - 1)).foldl xorL r).map by8++z8 (32 - 32)=(splL r s N).flatten.map by8:=by
  unfold splL
  rw[show z8 (32 - 32) = [] from rfl,List.append_nil,List.flatten_append]
  simp
 rw[vc48,hb,nNat,q9f,qhj hr,spl32 hr,eo,ew,ext32 (by rw[List.length_map,hw]),nAdr,Nat.zero_add,q5h hA hw,ef,nLss,nGtr,nMkr,nInr]
 refine Br.f (decide_eq_false (by omega)) (Br.f (decide_eq_false (by omega)) (Chk.mk (by simp;omega) (Chk.mk (qbk hr) (Chk.mk (eq32 (by rw[List.length_map,hr])) ⟨⟨rfl,rfl,rfl,?_⟩,Chk.mk (qbk hw) (Chk.mk (decide_eq_true (by omega)) (Chk.mk (eq32 (by rw[List.length_map,hw])) (Chk.mk ?_ ⟨qac _,rfl,rfl,rfl,rfl,rfl,rfl⟩)))⟩))))
 ·exact⟨qac _,pkey s hs,pkey r hr,rfl,by simp only[Int.ofNat_eq_natCast]; omega,by simp only[Int.ofNat_eq_natCast]; omega,rfl,by simp only[Int.ofNat_eq_natCast]; omega⟩
 ·rw[nLe,nPlus,nLen,List.length_append,List.length_map,qer]; exact decide_eq_true (by omega)
theorem q9c{r s:List UInt8}{n:Int}(h:n<1∨16<n):CallTo Try.prog 48 [.agg (r.map by8),.agg (s.map by8),.int .i64 n] [] (.tup [.nils,.int .i64 1]) [] []:=by
 refine q69 q46 q7o (qaj ok48) (qad 48 vf48) (n:=200) (g:=kdYes) ?_
 rw[vc48,iLss',iGtr']
 refine Br.mk (fun _=>rfl) (fun h1 => ?_)
 have h1:¬ n<1:=of_decide_eq_false h1
 exact Br.t (decide_eq_true (show(16:Int)<n by omega)) rfl
end
end Go.Proofs.Vm

namespace Go.Proofs.Vm
set_option maxRecDepth 100000
open Go.Vm
noncomputable section
structure JW where
 out:List AV->Int->List AV
def P49(rs ss:List AV)(n:Int):Prop:=flatL rs/\PKey ss/\1<=n/\n<=16
noncomputable def lp49:VC:=vp [1,1,1,0,1,0,0] vf49.body
def fr49(n:Int)(x:AV)(i:Int):Fr := [.top,.top,.int .i64 n,.ptr 0 0,.ptr 1 0,.top,.top,.top,x,.int .i64 i,.top,.top,.top,.top,.top,.top,.top,.top,.top,.top,.top,.top,.top,.top,.top,.top,.top,.top,.top,.top,.top,.top,.top,.top,.top,.top,.top,.top,.top]
def mk49:List Bool := [true,true,false,false,false,true,true,true,false,false,true,true,true,true,true,true,true,true,true,true,true,true,true,true,true,true,true,true,true,true,true,true,true,true,true,true,true,true,true]
def ln49(Z:JW)(z:Int->Bool):LnF:=fun n0 b fr H=>match slot fr 2,slot fr 8,H with
 | .int .i64 n,.nils,[.cells rs,.cells ss] =>
  some (n0=0/\VCis b lp49/\forget mk49 fr=fr49 n .nils 0/\P49 rs ss n,.cond (z n) (.ok (.exit 0) (fr49 n .nils 0) [.cells rs,.cells ss]) (.ok (.exit 0) (fr49 n (.slc 2 0 (ops0.nat (ops0.bin .sub .i64 n 1)) (ops0.nat (ops0.bin .sub .i64 n 1)) 32) (ops0.bin .sub .i64 n 1)) [.cells rs,.cells ss,.cells (Z.out ss n)]))
 | _,_,_=>none
theorem q78(S:JX)(Y:JY)(F:HF)(rs ss:List AV)(n:Int)(i:Int)(Q:Ex->Fr->Hl->Prop) :
  (vm (vcA kdYes (cnJ3 S Y F) noLn) ops0 noTab 100 0 lp49 (fr49 n .nils i) [.cells rs,.cells ss] [] (bodyX mk49 Q)) =
 ((Br (ops0.cmp .lss i (ops0.bin .sub .i64 n (Int.ofNat 1)))
 (Chk (ops0.le 32 (ops0.len ss))
 (((PKey (ops0.ext ss 0 32)) /\
 ((Int.ofNat 0)<=(ops0.cvt .u64 i))) /\
 (Chk (ops0.eq (ops0.len (HF.drv F (ops0.ext ss 0 32) [115,104,97,114,101] (ops0.cvt .u64 i))) 32)
 (Chk (ops0.le 32 (ops0.len (ops0.spl (z8 32) 0 (HF.drv F (ops0.ext ss 0 32) [115,104,97,114,101] (ops0.cvt .u64 i)))))
 (Q Ex.norm (tp 2 ((.int .i64 n)::(.ptr 0 0)::(.ptr 1 0)::tp 3 ((.slc 2 0 1 1 32)::(.int .i64 (ops0.bin .add .i64 i (Int.ofNat 1)))::tp 29 ([])))) [(.cells rs),(.cells ss),(.cells (ops0.ext (ops0.spl (z8 32) 0 (HF.drv F (ops0.ext ss 0 32) [115,104,97,114,101] (ops0.cvt .u64 i))) 0 32))])))))
 (Q (Ex.exit 0) (tp 2 ((.int .i64 n)::(.ptr 0 0)::(.ptr 1 0)::tp 3 (.nils::(.int .i64 i)::tp 29 ([])))) [(.cells rs),(.cells ss)]))):=by kernel_rfl
theorem q8j(S:JX)(Y:JY)(F:HF)(rs ss os:List AV)(n:Int)(N:Nat)(i:Int)(Q:Ex->Fr->Hl->Prop) :
  (vm (vcA kdYes (cnJ3 S Y F) noLn) ops0 noTab 100 0 lp49 (fr49 n (.slc 2 0 N N 32) i) [.cells rs,.cells ss,.cells os] [] (bodyX mk49 Q)) =
 ((Br (ops0.cmp .lss i (ops0.bin .sub .i64 n (Int.ofNat 1)))
 (Chk (ops0.le 32 (ops0.len ss))
 (((PKey (ops0.ext ss 0 32)) /\
 ((Int.ofNat 0)<=(ops0.cvt .u64 i))) /\
 (Chk (ops0.eq (ops0.len (HF.drv F (ops0.ext ss 0 32) [115,104,97,114,101] (ops0.cvt .u64 i))) 32)
 (Chk (ops0.le (ops0.add 0 (ops0.mul N 32)) (ops0.len os))
 (Chk (ops0.le 32 (ops0.len (ops0.spl (z8 32) 0 (HF.drv F (ops0.ext ss 0 32) [115,104,97,114,101] (ops0.cvt .u64 i)))))
 (Chk (ops0.room N 1 32)
 (Q Ex.norm (tp 2 ((.int .i64 n)::(.ptr 0 0)::(.ptr 1 0)::tp 3 ((.slc 3 0 (ops0.add N 1) (ops0.add N 1) 32)::(.int .i64 (ops0.bin .add .i64 i (Int.ofNat 1)))::tp 29 ([])))) [(.cells rs),(.cells ss),.dead,(.cells (ops0.app (ops0.ext os 0 (ops0.mul N 32)) (ops0.ext (ops0.spl (z8 32) 0 (HF.drv F (ops0.ext ss 0 32) [115,104,97,114,101] (ops0.cvt .u64 i))) 0 32)))])))))))
 (Q (Ex.exit 0) (tp 2 ((.int .i64 n)::(.ptr 0 0)::(.ptr 1 0)::tp 3 ((.slc 2 0 N N 32)::(.int .i64 i)::tp 29 ([])))) [(.cells rs),(.cells ss),(.cells os)]))):=by kernel_rfl
theorem vc49(S:JX)(Y:JY)(F:HF)(Z:JW)(z:Int->Bool)(rs ss:List AV)(n:Int)(Q:Nat->Nat->Nat->Nat->List AV->Int->Prop)(QN:Int->Prop) :
  (vcall (vcA kdYes (cnJ3 S Y F) (ln49 Z z)) ops0 (qah 49 vf49) 200 vf49 [.agg rs,.agg ss,.int .i64 n] [] (endT Q QN)) =
 ((Br (ops0.cmp .lss n (Int.ofNat 1))
 (QN (Int.ofNat 1))
 (Br (ops0.cmp .gtr n (Int.ofNat 16))
 (QN (Int.ofNat 1))
 ((((0:Nat)=0) /\
 ((VCis lp49 lp49) /\
 ((((tp 2 ((.int .i64 n)::(.ptr 0 0)::(.ptr 1 0)::tp 3 (.nils::(.int .i64 (.ofNat 0))::tp 29 ([])))):Fr)=(tp 2 ((.int .i64 n)::(.ptr 0 0)::(.ptr 1 0)::tp 3 (.nils::(.int .i64 (.ofNat 0))::tp 29 ([]))))) /\
 (P49 rs ss n)))) /\
 (Br (z n)
 (Chk (ops0.le 32 (ops0.len rs))
 (Chk (ops0.eq (ops0.len (ops0.ext rs 0 32)) 32)
 (Chk (ops0.le 32 (ops0.len (ops0.spl (z8 32) 0 (ops0.ext rs 0 32))))
 ((PSh (ops0.app [] (ops0.ext (ops0.spl (z8 32) 0 (ops0.ext rs 0 32)) 0 32)) 0 1) /\
 (Chk (ops0.eq (ops0.len (JX.jn S (ops0.app [] (ops0.ext (ops0.spl (z8 32) 0 (ops0.ext rs 0 32)) 0 32)) 0 1)) 32)
 (Chk (ops0.le 32 (ops0.len (ops0.spl (z8 32) 0 (JX.jn S (ops0.app [] (ops0.ext (ops0.spl (z8 32) 0 (ops0.ext rs 0 32)) 0 32)) 0 1))))
 ((flatL (ops0.ext (ops0.spl (z8 32) 0 (JX.jn S (ops0.app [] (ops0.ext (ops0.spl (z8 32) 0 (ops0.ext rs 0 32)) 0 32)) 0 1)) 0 32)) /\
 (Q 0 1 1 32 (ops0.ext (ops0.spl (z8 32) 0 (JX.jn S (ops0.app [] (ops0.ext (ops0.spl (z8 32) 0 (ops0.ext rs 0 32)) 0 32)) 0 1)) 0 32) (Int.ofNat 0)))))))))
 (Chk (ops0.le (ops0.add 0 (ops0.mul (ops0.nat (ops0.bin .sub .i64 n (Int.ofNat 1))) 32)) (ops0.len (JW.out Z ss n)))
 (Chk (ops0.room 0 (ops0.nat (ops0.bin .sub .i64 n (Int.ofNat 1))) 32)
 (Chk (ops0.le 32 (ops0.len rs))
 (Chk (ops0.eq (ops0.len (ops0.ext rs 0 32)) 32)
 (Chk (ops0.le (ops0.add 0 (ops0.mul (ops0.nat (ops0.bin .sub .i64 n (Int.ofNat 1))) 32)) (ops0.len (ops0.ext (JW.out Z ss n) 0 (ops0.mul (ops0.nat (ops0.bin .sub .i64 n (Int.ofNat 1))) 32))))
 (Chk (ops0.le 32 (ops0.len (ops0.spl (z8 32) 0 (ops0.ext rs 0 32))))
 (Chk (ops0.room (ops0.nat (ops0.bin .sub .i64 n (Int.ofNat 1))) 1 32)
 ((PSh (ops0.app (ops0.ext (ops0.ext (JW.out Z ss n) 0 (ops0.mul (ops0.nat (ops0.bin .sub .i64 n (Int.ofNat 1))) 32)) 0 (ops0.mul (ops0.nat (ops0.bin .sub .i64 n (Int.ofNat 1))) 32)) (ops0.ext (ops0.spl (z8 32) 0 (ops0.ext rs 0 32)) 0 32)) 0 (ops0.add (ops0.nat (ops0.bin .sub .i64 n (Int.ofNat 1))) 1)) /\
 (Chk (ops0.eq (ops0.len (JX.jn S (ops0.app (ops0.ext (ops0.ext (JW.out Z ss n) 0 (ops0.mul (ops0.nat (ops0.bin .sub .i64 n (Int.ofNat 1))) 32)) 0 (ops0.mul (ops0.nat (ops0.bin .sub .i64 n (Int.ofNat 1))) 32)) (ops0.ext (ops0.spl (z8 32) 0 (ops0.ext rs 0 32)) 0 32)) 0 (ops0.add (ops0.nat (ops0.bin .sub .i64 n (Int.ofNat 1))) 1))) 32)
 (Chk (ops0.le (ops0.add 0 (ops0.mul (ops0.nat (ops0.bin .sub .i64 n (Int.ofNat 1))) 32)) (ops0.len (JW.out Z ss n)))
 (Chk (ops0.le 32 (ops0.len (ops0.spl (z8 32) 0 (JX.jn S (ops0.app (ops0.ext (ops0.ext (JW.out Z ss n) 0 (ops0.mul (ops0.nat (ops0.bin .sub .i64 n (Int.ofNat 1))) 32)) 0 (ops0.mul (ops0.nat (ops0.bin .sub .i64 n (Int.ofNat 1))) 32)) (ops0.ext (ops0.spl (z8 32) 0 (ops0.ext rs 0 32)) 0 32)) 0 (ops0.add (ops0.nat (ops0.bin .sub .i64 n (Int.ofNat 1))) 1)))))
 (Chk (ops0.room (ops0.nat (ops0.bin .sub .i64 n (Int.ofNat 1))) 1 32)
 ((flatL (ops0.app (ops0.ext (JW.out Z ss n) 0 (ops0.mul (ops0.nat (ops0.bin .sub .i64 n (Int.ofNat 1))) 32)) (ops0.ext (ops0.spl (z8 32) 0 (JX.jn S (ops0.app (ops0.ext (ops0.ext (JW.out Z ss n) 0 (ops0.mul (ops0.nat (ops0.bin .sub .i64 n (Int.ofNat 1))) 32)) 0 (ops0.mul (ops0.nat (ops0.bin .sub .i64 n (Int.ofNat 1))) 32)) (ops0.ext (ops0.spl (z8 32) 0 (ops0.ext rs 0 32)) 0 32)) 0 (ops0.add (ops0.nat (ops0.bin .sub .i64 n (Int.ofNat 1))) 1))) 0 32))) /\
 (Q 0 (ops0.add (ops0.nat (ops0.bin .sub .i64 n (Int.ofNat 1))) 1) (ops0.add (ops0.nat (ops0.bin .sub .i64 n (Int.ofNat 1))) 1) 32 (ops0.app (ops0.ext (JW.out Z ss n) 0 (ops0.mul (ops0.nat (ops0.bin .sub .i64 n (Int.ofNat 1))) 32)) (ops0.ext (ops0.spl (z8 32) 0 (JX.jn S (ops0.app (ops0.ext (ops0.ext (JW.out Z ss n) 0 (ops0.mul (ops0.nat (ops0.bin .sub .i64 n (Int.ofNat 1))) 32)) 0 (ops0.mul (ops0.nat (ops0.bin .sub .i64 n (Int.ofNat 1))) 32)) (ops0.ext (ops0.spl (z8 32) 0 (ops0.ext rs 0 32)) 0 32)) 0 (ops0.add (ops0.nat (ops0.bin .sub .i64 n (Int.ofNat 1))) 1))) 0 32)) (Int.ofNat 0)))))))))))))))))))):=by kernel_rfl
def jw0:JW:=⟨fun ss n=>(dsL (qag ss) (n.toNat - 1)).flatten.map by8⟩
def isOne(n:Int):Bool:=decide (n=1)
theorem q5s{N:Nat}(h1:1<=N)(h2:N<=16):ops0.bin .sub .i64 (Int.ofNat N) (Int.ofNat 1)=Int.ofNat (N - 1):=nSub h1 (by omega)
theorem q7x{σ:Nat->Option Nat}{φ:Nat->Option (List AV)}(h0:σ 0=some 0)(h1:σ 1=some 1)(n:Int)(x:AV)(i:Int) :
  forget mk49 (renL σ φ true (fr49 n x i))=fr49 n (ren σ φ true x) i:=by
 unfold fr49 mk49
 simp only[renL,ren,h0,h1,forget]
theorem q85{rs:List AV}{s:List UInt8}{N:Nat}(hs:s.length=32)(h1:2<=N)(h2:N<=16) :
  qap Try.prog 0 lp49 (fr49 (Int.ofNat N) .nils (Int.ofNat 0)) [.cells rs,.cells (s.map by8)] .norm (fr49 (Int.ofNat N) (.slc 2 0 1 1 32) (Int.ofNat 1)) [.cells rs,.cells (s.map by8),.cells ((dsL s 1).flatten.map by8)]:=by
 refine qa2 q46 (qai _) (qak _) (n:=100) (g:=kdYes) (bs:=mk49) ?_ (by simp)
 have hd:=q5m s 0
 have e1:(dsL s 1).flatten=dL s 0:=by rw[q6e,List.flatten_append]; simp[dsL]
 rw[q78,q5s (by omega) h2,nC64 (by omega),qhj hs,q7n,spl32 hd,ext32 (by rw[List.length_map,hd]),add1 (by omega),nLss,e1]
 exact Br.t (decide_eq_true (by omega)) (Chk.mk (qbk hs) ⟨⟨pkey s hs,Int.natCast_nonneg _⟩,Chk.mk (eq32 (by rw[List.length_map,hd])) (Chk.mk (qbk hd) ⟨rfl,rfl,rfl⟩)⟩)
theorem q8z{rs:List AV}{s:List UInt8}{N i:Nat}(hrs:flatL rs)(hs:s.length=32)(hi:i+1<N)(h2:N<=16) :
  qap Try.prog 0 lp49 (fr49 (Int.ofNat N) (.slc 2 0 i i 32) (Int.ofNat i)) [.cells rs,.cells (s.map by8),.cells ((dsL s i).flatten.map by8)] .norm (fr49 (Int.ofNat N) (.slc 2 0 (i+1) (i+1) 32) (Int.ofNat (i+1))) [.cells rs,.cells (s.map by8),.cells ((dsL s (i+1)).flatten.map by8)]:=by
 have hd:=q5m s i
 have hA:((dsL s i).flatten.map by8).length=i*32:=by rw[List.length_map,qdb (ds_32 s i),q5f]
 have e1:(dsL s (i+1)).flatten.map by8=(dsL s i).flatten.map by8++(dL s i).map by8:=by rw[q6e,List.flatten_append,List.map_append]; simp
 have hb:qap Try.prog 0 lp49 (fr49 (Int.ofNat N) (.slc 2 0 i i 32) (Int.ofNat i)) [.cells rs,.cells (s.map by8),.cells ((dsL s i).flatten.map by8)] .norm (fr49 (Int.ofNat N) (.slc 3 0 (i+1) (i+1) 32) (Int.ofNat (i+1)))
   [.cells rs,.cells (s.map by8),.dead,.cells ((dsL s (i+1)).flatten.map by8)]:=by
  refine qa2 q46 (qai _) (qak _) (n:=100) (g:=kdYes) (bs:=mk49) ?_ (by simp)
  have ee:ops0.ext ((dsL s i).flatten.map by8) 0 (ops0.mul i 32)=(dsL s i).flatten.map by8:=by rw[nExt,qbw,List.drop_zero,List.take_of_length_le (by omega)]
  rw[q8j,ee,q5s (by omega) h2,nC64 (by omega),qhj hs,q7n,spl32 hd,ext32 (by rw[List.length_map,hd]),add1 (by omega),nLss,nApp,e1]
  refine Br.t (decide_eq_true (by omega)) (Chk.mk (qbk hs) ⟨⟨pkey s hs,Int.natCast_nonneg _⟩,Chk.mk (eq32 (by rw[List.length_map,hd])) (Chk.mk ?_ (Chk.mk (qbk hd) (Chk.mk ?_ ⟨rfl,rfl,rfl⟩)))⟩)
  ·rw[nLe,nPlus,qbw,nLen]; exact decide_eq_true (by omega)
  ·rw[nRoom]; exact decide_eq_true (by omega)
 have h3:=hb.post (Weak.pickV [0,1,3] mk49 2 (by simp) (by simp) (by simp))
 rw[q7x (show pickN [0,1,3] 0=some 0 from rfl) (show pickN [0,1,3] 1=some 1 from rfl)] at h3
 have e3:pickH (viewF [.cells rs,.cells (s.map by8),.dead,.cells ((dsL s (i+1)).flatten.map by8)] [0,1,3] 2) [0,1,3] [.cells rs,.cells (s.map by8),.dead,.cells ((dsL s (i+1)).flatten.map by8)] = [.cells rs,.cells (s.map by8),.cells ((dsL s (i+1)).flatten.map by8)]:=by
  show [renB _ _ true (.cells rs),renB _ _ true (.cells (s.map by8)),renB _ _ true (.cells ((dsL s (i+1)).flatten.map by8))]=_
  simp only[renB,qaa hrs,qaa (qac _)]
 have p3:pickN [0,1,3] 3=some 2:=rfl
 rw[e3] at h3
 simp only[ren,p3] at h3
 exact h3
theorem q7q:LnOK Try.prog (ln49 jw0 isOne):=by
 intro n0 b fr H p x e hn0 hp lg
 unfold ln49 at e
 split at e<;>cases e
 rename_i n rs ss h1 h2
 obtain⟨rfl,hb,hf,hrs,⟨s,hs,rfl⟩,hn1,hn2⟩:=hp
 have hb:b=lp49:=hb
 subst hb
 obtain⟨N,rfl⟩:∃ N:Nat,n=Int.ofNat N:=⟨n.toNat,(Int.toNat_of_nonneg (by omega)).symm⟩
 have hN1:1<=N:=by simp only[Int.ofNat_eq_natCast] at hn1;omega
 have hN2:N<=16:=by simp only[Int.ofNat_eq_natCast] at hn2;omega
 by_cases h:N=1
 ·subst h
  refine qam.pre (Weak.forget (by simp) mk49) ?_ lg
  rw[hf]
  refine qal (P:=Try.prog) (n0:=0) (b:=lp49) (ex := .exit 0) (fr':=fr49 (Int.ofNat 1) .nils (Int.ofNat 0)) (H' := [.cells rs,.cells (s.map by8)]) (by intro h;cases h) (fun _=>(fr49 (Int.ofNat 1) .nils (Int.ofNat 0),[.cells rs,.cells (s.map by8)])) 0 0 (fun j h1 h2=>by omega) ?_
  refine qa2 q46 (qai _) (qak _) (n:=100) (g:=kdYes) (bs:=mk49) ?_ (by simp)
  rw[q78,q5s (by omega) hN2,nLss]
  exact Br.f (decide_eq_false (by omega)) ⟨rfl,rfl,rfl⟩
 ·have hz:isOne (Int.ofNat N)=false:=decide_eq_false (by simp only[Int.ofNat_eq_natCast]; omega)
  rw[hz]
  have eo:jw0.out (s.map by8) (Int.ofNat N)=(dsL s (N - 1)).flatten.map by8:=by
   show(dsL (qag (s.map by8)) (N - 1)).flatten.map by8=_
   rw[qab]
  show qam _ _ _ _ _ _ _ (fr49 (Int.ofNat N) (.slc 2 0 (ops0.nat (ops0.bin .sub .i64 (Int.ofNat N) (Int.ofNat 1))) (ops0.nat (ops0.bin .sub .i64 (Int.ofNat N) (Int.ofNat 1))) 32) (ops0.bin .sub .i64 (Int.ofNat N) (Int.ofNat 1))) [.cells rs,.cells (s.map by8),.cells (jw0.out (s.map by8) (Int.ofNat N))] _
  rw[eo,q5s hN1 hN2,nNat]
  refine qam.pre (Weak.forget (by simp) mk49) ?_ lg
  rw[hf]
  have h:=qal (P:=Try.prog) (n0:=0) (b:=lp49) (ex := .exit 0) (fr':=fr49 (Int.ofNat N) (.slc 2 0 (N - 1) (N - 1) 32) (Int.ofNat (N - 1))) (H' := [.cells rs,.cells (s.map by8),.cells ((dsL s (N - 1)).flatten.map by8)]) (by intro h;cases h)
   (fun i=>match i with
    | 0=>(fr49 (Int.ofNat N) .nils (Int.ofNat 0),[.cells rs,.cells (s.map by8)])
    | k+1=>(fr49 (Int.ofNat N) (.slc 2 0 (k+1) (k+1) 32) (Int.ofNat (k+1)),[.cells rs,.cells (s.map by8),.cells ((dsL s (k+1)).flatten.map by8)])) (N - 1) 0 (fun i _ hi => ?_) ?_
  ·exact h
  ·cases i with
   | zero=>exact q85 hs (by omega) hN2
   | succ k=>exact q8z hrs hs (by omega) hN2
  ·rw[Nat.zero_add]
   obtain⟨k,rfl⟩:∃ k,N=k+2:=⟨N - 2,by omega⟩
   show qap _ _ _ (fr49 (Int.ofNat (k+2)) (.slc 2 0 (k+1) (k+1) 32) (Int.ofNat (k+1))) [.cells rs,.cells (s.map by8),.cells ((dsL s (k+1)).flatten.map by8)] _ _ _
   refine qa2 q46 (qai _) (qak _) (n:=100) (g:=kdYes) (bs:=mk49) ?_ (by simp)
   rw[q8j,q5s (by omega) hN2,nLss]
   exact Br.f (decide_eq_false (by omega)) ⟨rfl,rfl,rfl⟩
theorem q7i{r:List UInt8}(hr:r.length=32):∀ x,x∈([r]:List (List UInt8))->x.length=32:=by
 intro x hx
 rw[List.mem_singleton] at hx
 rw[hx]; exact hr
theorem q71{r:List UInt8}(hr:r.length=32):joinL [r]=r:=by
 show xorL qiw r=r
 exact zero_xor hr
theorem q6k{L:List (List UInt8)}(h:∀ x,x∈L->x.length=32){r:List UInt8}(hr:r.length=32):joinL (L ++ [r])=L.foldl xorL r:=by
 rw[q5p h r hr]
 unfold joinL
 rw[List.foldl_append,List.foldl_cons,List.foldl_nil,q5v]
theorem q9w{r s:List UInt8}(hr:r.length=32)(hs:s.length=32){N:Nat}(h1:1<=N)(h2:N<=16) :
  CallTo Try.prog 49 [.agg (r.map by8),.agg (s.map by8),.int .i64 (Int.ofNat N)] [] (.tup [.slc 0 0 N N 32,.int .i64 0]) [.cells ((splL r s N).flatten.map by8)] []:=by
 refine q8f q46 q7q (qaj ok49) (qad 49 vf49) (n:=200) (g:=kdYes) ?_
 have hP:P49 (r.map by8) (s.map by8) (Int.ofNat N):=⟨qac _,pkey s hs,by simp only[Int.ofNat_eq_natCast]; omega,by simp only[Int.ofNat_eq_natCast]; omega⟩
 have hrm:(r.map by8).length=32:=by rw[List.length_map,hr]
 rw[vc49,qhj hr,spl32 hr,ext32 hrm,nLss,nGtr]
 refine Br.f (decide_eq_false (by omega)) (Br.f (decide_eq_false (by omega)) ⟨⟨rfl,rfl,rfl,hP⟩,?_⟩)
 by_cases h:N=1
 ·subst h
  refine Br.t rfl ?_
  have e1:ops0.app [] (r.map by8)=([r]:List (List UInt8)).flatten.map by8:=by rw[nApp]; simp
  have ej:jx0.jn (([r]:List (List UInt8)).flatten.map by8) 0 1=r.map by8:=by
   show(joinL (shA _ 0 1)).map by8=_
   rw[q5g (n:=1) (q7i hr) rfl,q71 hr]
  have ef:(splL r s 1).flatten=r:=by unfold splL;simp[dsL]
  rw[e1,ej,spl32 hr,ext32 hrm,ef]
  exact Chk.mk (qbk hr) (Chk.mk (eq32 hrm) (Chk.mk (qbk hr) ⟨qp7 (q7i hr) (by simp) rfl,Chk.mk (eq32 hrm) (Chk.mk (qbk hr) ⟨qac _,rfl,rfl,rfl,rfl,rfl,rfl⟩)⟩))
 ·have hz:isOne (Int.ofNat N)=false:=decide_eq_false (by simp only[Int.ofNat_eq_natCast]; omega)
  refine Br.f hz ?_
  have hw:=q5q hr s (N - 1)
  have hwm:(((dsL s (N - 1)).foldl xorL r).map by8).length=32:=by rw[List.length_map,hw]
  have hA:((dsL s (N - 1)).flatten.map by8).length=(N - 1)*32:=by rw[List.length_map,qdb (ds_32 s (N - 1)),q5f]
  have eo:jw0.out (s.map by8) (Int.ofNat N)=(dsL s (N - 1)).flatten.map by8:=by
   show(dsL (qag (s.map by8)) (N - 1)).flatten.map by8=_
   rw[qab]
  have ee:ops0.ext ((dsL s (N - 1)).flatten.map by8) 0 (ops0.mul (N - 1) 32)=(dsL s (N - 1)).flatten.map by8:=by rw[nExt,qbw,List.drop_zero,List.take_of_length_le (by omega)]
  have ea:ops0.app ((dsL s (N - 1)).flatten.map by8) (r.map by8)=(dsL s (N - 1) ++ [r]).flatten.map by8:=by rw[nApp,List.flatten_append,List.map_append]; simp
  have h32:∀ x,x∈dsL s (N - 1) ++ [r]->x.length=32:=by
   intro x hx
   rcases List.mem_append.1 hx with hx|hx
   ·exact ds_32 _ _ x hx
   ·exact q7i hr x hx
  have hlen:(dsL s (N - 1) ++ [r]).length=N - 1+1:=by rw[List.length_append,q5f,List.length_singleton]
  have ej:jx0.jn ((dsL s (N - 1) ++ [r]).flatten.map by8) 0 (N - 1+1)=((dsL s (N - 1)).foldl xorL r).map by8:=by
   show(joinL (shA _ 0 (N - 1+1))).map by8=_
   rw[q5g h32 hlen.symm,q6k (ds_32 s (N - 1)) hr]
  have ef:ops0.app ((dsL s (N - 1)).flatten.map by8) (((dsL s (N - 1)).foldl xorL r).map by8)=(splL r s N).flatten.map by8:=by
   unfold splL
   rw[nApp,List.flatten_append,List.map_append]; simp
  rw[q5s h1 h2,nNat,eo,ee,ee,ea,nPlus,nPlus,ej,spl32 hw,ext32 hwm,ef,qbw,Nat.zero_add,show N - 1+1=N by omega]
  have c1:ops0.le ((N - 1)*32) (ops0.len ((dsL s (N - 1)).flatten.map by8))=true:=by rw[nLe,nLen]; exact decide_eq_true (by omega)
  have c2:ops0.room (N - 1) 1 32=true:=by rw[nRoom]; exact decide_eq_true (by omega)
  have c3:ops0.room 0 (N - 1) 32=true:=by rw[nRoom]; exact decide_eq_true (by omega)
  refine Chk.mk c1 (Chk.mk c3 (Chk.mk (qbk hr) (Chk.mk (eq32 hrm) (Chk.mk c1 (Chk.mk (qbk hr) (Chk.mk c2 ⟨qp7 h32 (by rw[hlen]; omega) (by rw[hlen]; omega),Chk.mk (eq32 hwm) (Chk.mk c1 (Chk.mk (qbk hw) (Chk.mk c2 ⟨qac _,rfl,rfl,rfl,rfl,rfl,rfl⟩)))⟩))))))
theorem q82{r s:List UInt8}{n:Int}(h:n<1∨16<n):CallTo Try.prog 49 [.agg (r.map by8),.agg (s.map by8),.int .i64 n] [] (.tup [.nils,.int .i64 1]) [] []:=by
 refine q69 q46 q7q (qaj ok49) (qad 49 vf49) (n:=200) (g:=kdYes) ?_
 rw[vc49,iLss',iGtr']
 refine Br.mk (fun _=>rfl) (fun h1 => ?_)
 have h1:¬ n<1:=of_decide_eq_false h1
 exact Br.t (decide_eq_true (show(16:Int)<n by omega)) rfl
end
end Go.Proofs.Vm

namespace Go.Proofs.Vm
set_option maxRecDepth 100000
open Go.Vm
noncomputable section
def b1(k:Nat):List AV := .int .u8 (Int.ofNat k)::z8 31
def P51(pa:List AV)(oa la:Nat)(pb:List AV)(ob lb:Nat):Prop:=PSh pa oa la/\PSh pb ob lb/\la=lb/\shA pa oa la=shA pb ob lb
structure JS where
 spl:List AV->List AV->Int->List AV
 inN:Int->Bool
def js0:JS:=⟨fun rs ss n=>(splL (qag rs) (qag ss) n.toNat).flatten.map by8,fun n=>decide (1<=n) && decide (n<=16)⟩
def cnJ4(S:JX)(Y:JY)(F:HF)(K:JS):CnF:=cnOr (fun f vals H=>match f,vals with
 | 48,[.agg rs,.agg ss,.int .i64 n]=>some (PKey rs/\PKey ss,.cond (K.inN n) (.ok (.tup [.slc (size H) 0 (ops0.nat n) (ops0.nat n) 32,.int .i64 0]) (join H [.cells (K.spl rs ss n)]) []) (.ok (.tup [.nils,.int .i64 1]) H []))
 | 49,[.agg rs,.agg ss,.int .i64 n]=>some (PKey rs/\PKey ss,.cond (K.inN n) (.ok (.tup [.slc (size H) 0 (ops0.nat n) (ops0.nat n) 32,.int .i64 0]) (join H [.cells (K.spl rs ss n)]) []) (.ok (.tup [.nils,.int .i64 1]) H []))
 | 55,[.agg rs,.agg ss,.int .i64 i]=>some (PKey rs/\PKey ss,.ok (.agg (Y.hsh rs ss i)) H [])
 | 56,[.agg rs,.agg ss,.int .i64 i]=>some (PKey rs/\PKey ss,.ok (.agg (Y.hsh rs ss i)) H [])
 | 51,[x,y]=>match vw1 H x,vw1 H y with
  | .ros pa oa la _ _,.ros pb ob lb _ _=>some (P51 pa oa la pb ob lb,.ok (.bool true) H [])
  | _,_=>none
 | _,_=>none) (cnJ3 S Y F)
def cnJ5(S:JX)(Y:JY)(F:HF)(K:JS):CnF:=cnOr (fun f vals H=>match f,vals with
 | 50,[]=>some (True,.ok (.bool true) H [])
 | _,_=>none) (cnJ4 S Y F K)
noncomputable def lp51:VC:=vp [1,1,0,1,0,0] vf51.body
def fr51(pa:List AV)(oa la ca:Nat)(ea:Bool)(pb:List AV)(ob lb cb:Nat)(eb:Bool)(i:Int):Fr := [.ros pa oa la ca ea,.ros pb ob lb cb eb,.top,.top,.top,.int .i64 i,.top,.top,.top,.top,.top,.top,.top,.top,.top,.top,.top,.top,.top,.top,.top,.top,.top,.top,.top,.top]
def mk51:List Bool := [false,false,true,true,true,false,true,true,true,true,true,true,true,true,true,true,true,true,true,true,true,true,true,true,true,true]
def ln51:LnF:=fun n0 b fr H=>match slot fr 0,slot fr 1,H with
 | .ros pa oa la ca ea,.ros pb ob lb cb eb,[]=>some (n0=0/\VCis b lp51/\forget mk51 fr=fr51 pa oa la ca ea pb ob lb cb eb 0/\P51 pa oa la pb ob lb,.ok (.exit 0) (fr51 pa oa la ca ea pb ob lb cb eb la) [])
 | _,_,_=>none
theorem vcl51(pa:List AV)(oa la ca:Nat)(ea:Bool)(pb:List AV)(ob lb cb:Nat)(eb:Bool)(i:Int)(Q:Ex->Fr->Hl->Prop) :
  (vm (vcA kdYes noCn noLn) ops0 noTab 100 0 lp51 (fr51 pa oa la ca ea pb ob lb cb eb i) [] [] (bodyX mk51 Q)) =
 ((Br (ops0.cmp .lss i (ops0.ofn la))
 (Chk (ops0.inr i la)
 (Chk (ops0.le (ops0.add (ops0.adr oa i 32) 32) (ops0.len pa))
 (Chk (ops0.inr i lb)
 (Chk (ops0.le (ops0.add (ops0.adr ob i 32) 32) (ops0.len pb))
 (Chk (ops0.eq (ops0.len (ops0.ext pa (ops0.adr oa i 32) 32)) 32)
 (Chk (ops0.eq (ops0.len (ops0.ext pb (ops0.adr ob i 32) 32)) 32)
 (Chk (ops0.le 32 (ops0.len (ops0.ext pa (ops0.adr oa i 32) 32)))
 (Chk (ops0.le 32 (ops0.len (ops0.ext pb (ops0.adr ob i 32) 32)))
 (∃ l:(List Int),((((ops0.ext (ops0.ext pa (ops0.adr oa i 32) 32) 0 32):(List AV))=(List.map (.int .u8) l)) /\
 (∃ l1:(List Int),((((ops0.ext (ops0.ext pb (ops0.adr ob i 32) 32) 0 32):(List AV))=(List.map (.int .u8) l1)) /\
 (Br (ops0.eqi l l1)
 (Q Ex.norm ((.ros pa oa la ca ea)::(.ros pb ob lb cb eb)::tp 3 ((.int .i64 (ops0.bin .add .i64 i (Int.ofNat 1)))::tp 20 ([]))) [])
 (Q Ex.ret ((.ros pa oa la ca ea)::(.ros pb ob lb cb eb)::tp 3 ((.int .i64 i)::tp 20 ([]))) []))))))))))))))
 (Q (Ex.exit 0) ((.ros pa oa la ca ea)::(.ros pb ob lb cb eb)::tp 3 ((.int .i64 i)::tp 20 ([]))) []))):=by kernel_rfl
theorem vc51(pa:List AV)(oa la ca:Nat)(ea:Bool)(pb:List AV)(ob lb cb:Nat)(eb:Bool)(Q:AV->Hl->Prop) :
  (vcall (vcA kdYes noCn ln51) ops0 (qah 51 vf51) 200 vf51 [.ros pa oa la ca ea,.ros pb ob lb cb eb] [] (endN (fun _=>0) Q)) =
 ((Br (ops0.cmp .neq (ops0.ofn la) (ops0.ofn lb))
 (Q (.bool Bool.false) [])
 ((((0:Nat)=0) /\
 ((VCis lp51 lp51) /\
 (((((.ros pa oa la ca ea)::(.ros pb ob lb cb eb)::tp 3 ((.int .i64 (.ofNat 0))::tp 20 ([]))):Fr)=((.ros pa oa la ca ea)::(.ros pb ob lb cb eb)::tp 3 ((.int .i64 (.ofNat 0))::tp 20 ([])))) /\
 (P51 pa oa la pb ob lb)))) /\
 (Q (.bool Bool.true) [])))):=by kernel_rfl
theorem vc50(S:JX)(Y:JY)(F:HF)(K:JS)(Q:AV->Hl->Prop) :
  (vcall (vcA kdYes (cnJ4 S Y F K) noLn) ops0 (qah 50 vf50) 200 vf50 [] [] (endN (fun _=>0) Q)) =
 ((((PKey (b1 1)) /\
 (PKey (b1 2))) /\
 (Br (JS.inN K (Int.ofNat 3))
 (((PKey (b1 1)) /\
 (PKey (b1 2))) /\
 (Br (JS.inN K (Int.ofNat 17))
 (Q (.bool Bool.false) [])
 ((PSh (JS.spl K (b1 1) (b1 2) (Int.ofNat 3)) 0 3) /\
 (Chk (ops0.eq (ops0.len (JX.jn S (JS.spl K (b1 1) (b1 2) (Int.ofNat 3)) 0 3)) 32)
 (Chk (ops0.le 32 (ops0.len (JX.jn S (JS.spl K (b1 1) (b1 2) (Int.ofNat 3)) 0 3)))
 (∃ l:(List Int),((((ops0.ext (JX.jn S (JS.spl K (b1 1) (b1 2) (Int.ofNat 3)) 0 3) 0 32):(List AV))=(List.map (.int .u8) l)) /\
 (∃ l1:(List Int),((((b1 1):(List AV))=(List.map (.int .u8) l1)) /\
 (Br (ops0.eqi l l1)
 (((PKey (b1 1)) /\
 (PKey (b1 2))) /\
 (Chk (ops0.eq (ops0.len (JY.sec Y (b1 1) (b1 2) (Int.ofNat 0))) 32)
 (Chk (ops0.le 32 (ops0.len (JY.sec Y (b1 1) (b1 2) (Int.ofNat 0))))
 (∃ l2:(List Int),((((ops0.ext (JY.sec Y (b1 1) (b1 2) (Int.ofNat 0)) 0 32):(List AV))=(List.map (.int .u8) l2)) /\
 (∃ l3:(List Int),((((z8 32):(List AV))=(List.map (.int .u8) l3)) /\
 (Br (ops0.eqi l2 l3)
 (Q (.bool Bool.false) [])
 (Q (.bool Bool.true) [])))))))))
 (Q (.bool Bool.false) [])))))))))))
 (((PKey (b1 1)) /\
 (PKey (b1 2))) /\
 (Br (JS.inN K (Int.ofNat 17))
 (Q (.bool Bool.false) [])
 (Q (.bool Bool.false) [])))))):=by kernel_rfl
theorem q52{x:List UInt8}{r t:Prop}(h:r):∃ l:List Int,(x.map by8=List.map (AV.int .u8) l)/\∃ l1:List Int,(x.map by8=List.map (AV.int .u8) l1)/\Br (ops0.eqi l l1) r t :=
 ⟨_,qfw x,_,qfw x,Br.t (by rw[nEqi]; exact decide_eq_true rfl) h⟩
theorem neEx{x y:List UInt8}(hne:¬ x=y){r t:Prop}(h:t):∃ l:List Int,(x.map by8=List.map (AV.int .u8) l)/\∃ l1:List Int,(y.map by8=List.map (AV.int .u8) l1)/\Br (ops0.eqi l l1) r t :=
 ⟨_,qfw x,_,qfw y,Br.f (by rw[nEqi]; exact decide_eq_false fun h=>hne (qwx h)) h⟩
theorem le32'{x:List UInt8}(h:x.length=32):ops0.le 32 (ops0.len (x.map by8))=true:=qbk h
theorem eq32'{x:List UInt8}(h:x.length=32):ops0.eq (ops0.len (x.map by8)) 32=true:=eq32 (by rw[List.length_map,h])
theorem qa5{x:List UInt8}(h:x.length=32):ops0.ext (x.map by8) 0 32=x.map by8:=ext32 (by rw[List.length_map,h])
theorem q96{pa pb:List AV}{oa ob n i:Nat}{L:List (List UInt8)}(ca:Nat)(ea:Bool)(cb:Nat)(eb:Bool)(ha:ShAt pa oa n L)(hb:ShAt pb ob n L)(hoa:oa+n*32<=pa.length)(hob:ob+n*32<=pb.length)(hn:n<1099511627776)(hi:i<n) :
  qap Try.prog 0 lp51 (fr51 pa oa n ca ea pb ob n cb eb (Int.ofNat i)) [] .norm (fr51 pa oa n ca ea pb ob n cb eb (Int.ofNat (i+1))) []:=by
 have hl:i<L.length:=by rw[ha.1]; exact hi
 obtain⟨hx,h1⟩:=ha.2 i L[i] (List.getElem?_eq_getElem hl)
 obtain⟨_,h2⟩:=hb.2 i L[i] (List.getElem?_eq_getElem hl)
 generalize L[i]=x at hx h1 h2
 refine qa2 (qa3 _) (qai _) (qak _) (n:=100) (g:=kdYes) (bs:=mk51) ?_ (by simp)
 have e1:ops0.ext pa (oa+i*32) 32=x.map by8:=by rw[nExt]; exact h1
 have e2:ops0.ext pb (ob+i*32) 32=x.map by8:=by rw[nExt]; exact h2
 rw[vcl51,nAdr,nAdr,e1,e2,qa5 hx,le32' hx,eq32' hx,add1 (by omega),nOfn,nLss,nInr,nLe,nLe,nPlus,nPlus,nLen,nLen]
 exact Br.t (decide_eq_true hi) (Chk.mk (decide_eq_true hi) (Chk.mk (decide_eq_true (by omega)) (Chk.mk (decide_eq_true hi) (Chk.mk (decide_eq_true (by omega)) (Chk.mk rfl (Chk.mk rfl (Chk.mk rfl (Chk.mk rfl (q52 ⟨rfl,rfl,rfl⟩)))))))))
theorem q8l:LnOK Try.prog ln51:=by
 intro n0 b fr H p x e hn0 hp lg
 unfold ln51 at e
 split at e<;>cases e
 rename_i pa oa la ca ea pb ob lb cb eb h1 h2
 obtain⟨rfl,hb,hf,⟨_,hoa,hn,L,hL⟩,⟨_,hob,_,M,hM⟩,rfl,hq⟩:=hp
 have hb:b=lp51:=hb
 subst hb
 rw[qcr hL,qcr hM] at hq
 subst hq
 refine qam.pre (Weak.forget (by simp) mk51) ?_ lg
 rw[hf]
 refine qal (P:=Try.prog) (n0:=0) (b:=lp51) (ex := .exit 0) (fr':=fr51 pa oa la ca ea pb ob la cb eb (Int.ofNat la)) (H' := []) (by intro h;cases h) (fun i=>(fr51 pa oa la ca ea pb ob la cb eb (Int.ofNat i),[])) la 0 (fun i _ hi=>q96 ca ea cb eb hL hM hoa hob hn (by omega)) ?_
 rw[Nat.zero_add]
 refine qa2 (qa3 _) (qai _) (qak _) (n:=100) (g:=kdYes) (bs:=mk51) ?_ (by simp)
 rw[vcl51,nOfn,nLss]
 exact Br.f (decide_eq_false (by omega)) ⟨rfl,rfl,rfl⟩
theorem q9j{pa pb:List AV}{oa la ob lb:Nat}(ca:Nat)(ea:Bool)(cb:Nat)(eb:Bool)(h:P51 pa oa la pb ob lb):CallTo Try.prog 51 [.ros pa oa la ca ea,.ros pb ob lb cb eb] [] (.bool true) [] []:=by
 refine qb7 (qa3 _) q8l (qaj ok51) (qad 51 vf51) (n:=200) (g:=kdYes) (m:=fun _=>0) [] ?_ (Nat.le_refl 0) rfl (fun b hb=>by simp at hb)
 have hl:=h.2.2.1
 subst hl
 rw[vc51,nOfn,nNeq]
 exact Br.f (decide_eq_false (by simp)) ⟨⟨rfl,rfl,rfl,h⟩,rfl,rfl⟩
theorem CallTo.lookT{P:Program}{f:Nat}{vals vals0:List AV}{o n c sz:Nat}{v:Int}{cs:List AV}{H:Hl}{lg:List Nat}(hc:CallTo P f vals0 [] (.tup [.slc 0 o n c sz,.int .i64 v]) [.cells cs] lg)(h1:flatL cs)(h:Vws H vals vals0) :
  CallTo P f vals H (.tup [.slc (size H) o n c sz,.int .i64 v]) (join H [.cells cs]) []:=by
 have hc':CallTo P f (renL (pickN []) (viewF H [] 3) true vals) (pickH (viewF H [] 3) [] H) (.tup [.slc 0 o n c sz,.int .i64 v]) [.cells cs] lg:=hc.le fun ρ w us hv=>qnn h hv
 have h:=CallTo.frame (H:=H) (vals:=vals) [] 3 List.nodup_nil (fun b hb=>by cases hb) hc' (fun b c hp=>by cases hp)
 have e1:backH [] H [.cells cs]=join H [.cells cs]:=by
  apply List.ext_getElem?
  intro b
  rw[qck,qbx]
  by_cases hb:b<H.length
  ·rw[if_pos hb,List.getElem?_append_left hb]; rfl
  ·rw[if_neg hb,List.getElem?_append_right (by omega)]
   simp only[List.length_nil,Nat.zero_add]
   cases b - H.length with
   | zero=>simp[backB,renB,qaa h1]
   | succ d=>simp
 have e2:backL [] lg = []:=by simp[backL]
 have e3:backV [] H.length (.tup [.slc 0 o n c sz,.int .i64 v]) = .tup [.slc (size H) o n c sz,.int .i64 v]:=by simp[backV,ren,renL,backN,qay]
 rw[e1,e2,e3] at h
 exact h
theorem q6i(n:Nat)(v:Int):backV [] n (.tup [.nils,.int .i64 v]) = .tup [.nils,.int .i64 v]:=by simp[backV,ren,renL]
theorem q6x(r s:List UInt8)(N:Nat):js0.spl (r.map by8) (s.map by8) (Int.ofNat N)=(splL r s N).flatten.map by8:=by
 show(splL (qag (r.map by8)) (qag (s.map by8)) N).flatten.map by8=_
 rw[qab,qab]
theorem q5w(n:Int):(js0.inN n=true/\∃ N:Nat,n=Int.ofNat N/\1<=N/\N<=16)∨(js0.inN n=false/\(n<1∨16<n)):=by
 show((decide (1<=n) && decide (n<=16))=true/\_)∨((decide (1<=n) && decide (n<=16))=false/\_)
 by_cases h1:1<=n
 ·by_cases h2:n<=16
  ·exact Or.inl ⟨by rw[decide_eq_true h1,decide_eq_true h2]; rfl,n.toNat,(Int.toNat_of_nonneg (by omega)).symm,by omega,by omega⟩
  ·exact Or.inr ⟨by rw[decide_eq_false h2,Bool.and_false],Or.inr (by omega)⟩
 ·exact Or.inr ⟨by rw[decide_eq_false h1,Bool.false_and],Or.inl (by omega)⟩
theorem q5j:CnOK Try.prog (cnJ4 jx0 jy0 hf0 js0):=by
 refine qfl ?_ q46
 intro f vals H p x e hp
 dsimp only at e
 split at e
 ·rename_i rs ss n
  cases e
  obtain⟨⟨r,hr,rfl⟩,⟨s,hs,rfl⟩⟩:=hp
  have hv:Vws H [.agg (r.map by8),.agg (s.map by8),.int .i64 n] [.agg (r.map by8),.agg (s.map by8),.int .i64 n] := .cons (vwA H r) (.cons (vwA H s) (.cons (Vw.int H _ _) .nil))
  rcases q5w n with ⟨h,N,rfl,h1,h2⟩|⟨h,h1⟩
  ·rw[h,q6x]
   exact CallTo.lookT (q9o hr hs h1 h2) (qac _) hv
  ·rw[h]
   have h3:=CallTo.lookV (H:=H) (q9c (r:=r) (s:=s) h1) hv
   rw[q6i] at h3
   exact h3
 ·rename_i rs ss n
  cases e
  obtain⟨⟨r,hr,rfl⟩,⟨s,hs,rfl⟩⟩:=hp
  have hv:Vws H [.agg (r.map by8),.agg (s.map by8),.int .i64 n] [.agg (r.map by8),.agg (s.map by8),.int .i64 n] := .cons (vwA H r) (.cons (vwA H s) (.cons (Vw.int H _ _) .nil))
  rcases q5w n with ⟨h,N,rfl,h1,h2⟩|⟨h,h1⟩
  ·rw[h,q6x]
   exact CallTo.lookT (q9w hr hs h1 h2) (qac _) hv
  ·rw[h]
   have h3:=CallTo.lookV (H:=H) (q82 (r:=r) (s:=s) h1) hv
   rw[q6i] at h3
   exact h3
 ·rename_i rs ss n
  cases e
  obtain⟨⟨r,hr,rfl⟩,⟨s,hs,rfl⟩⟩:=hp
  have h:=CallTo.lookV (H:=H) (q9y hr hs n) (.cons (vwA H r) (.cons (vwA H s) (.cons (Vw.int H _ _) .nil)))
  rw[qbo (qac _)] at h
  show CallTo _ _ _ _ (.agg ((hshL (qag (r.map by8)) (qag (s.map by8)) _).map by8)) _ _
  rw[qab,qab]
  exact h
 ·rename_i rs ss n
  cases e
  obtain⟨⟨r,hr,rfl⟩,⟨s,hs,rfl⟩⟩:=hp
  have h:=CallTo.lookV (H:=H) (q9s hr hs n) (.cons (vwA H r) (.cons (vwA H s) (.cons (Vw.int H _ _) .nil)))
  rw[qbo (qac _)] at h
  show CallTo _ _ _ _ (.agg ((hshL (qag (r.map by8)) (qag (s.map by8)) _).map by8)) _ _
  rw[qab,qab]
  exact h
 ·split at e
  ·rename_i pa oa la ca ea pb ob lb cb eb hv1 hv2
   cases e
   exact CallTo.lookV (H:=H) (q9j ca ea cb eb hp) (.cons (Vw.one hv1 hp.1.1) (.cons (Vw.one hv2 hp.2.1.1) .nil))
  ·cases e
 ·cases e
def one8(k:UInt8):List UInt8:=k::List.replicate 31 0
theorem q5y(k:UInt8):(one8 k).length=32:=by unfold one8;rw[List.length_cons,List.length_replicate]
theorem b1_1:b1 1=(one8 1).map by8:=by
 unfold b1 one8
 rw[List.map_cons,z8_eq]
 rfl
theorem b1_2:b1 2=(one8 2).map by8:=by
 unfold b1 one8
 rw[List.map_cons,z8_eq]
 rfl
theorem q9m:decide (secL (one8 1) (one8 2) 0=qiw)=false:=by kernel_rfl
theorem q58{r:List UInt8}(hr:r.length=32)(s:List UInt8)(N:Nat):joinL (splL r s N)=r:=by
 have hJ:=q5b (ds_32 s (N - 1))
 unfold splL
 rw[q6k (ds_32 s (N - 1)) (q5q hr s _),q5p (ds_32 s (N - 1)) _ (q5q hr s _),q5p (ds_32 s (N - 1)) r hr,q6b,q7k hJ,q5v,zero_xor hr]
theorem q54{r s:List UInt8}(hr:r.length=32){N:Nat}(h1:1<=N)(h2:N<=16):PSh ((splL r s N).flatten.map by8) 0 N :=
 qp7 (q5o hr s N) (by rw[q47 r s h1]; omega) (q47 r s h1).symm
theorem q7u{r s:List UInt8}(hr:r.length=32){N:Nat}(h1:1<=N):jx0.jn ((splL r s N).flatten.map by8) 0 N=r.map by8:=by
 show(joinL (shA _ 0 N)).map by8=_
 rw[q5g (q5o hr s N) (q47 r s h1).symm,q58 hr]
theorem q9z:CallTo Try.prog 50 [] [] (.bool true) [] []:=by
 refine qb7 q5j (qai _) (qaj ok50) (qad 50 vf50) (n:=200) (g:=kdYes) (m:=fun _=>0) [] ?_ (Nat.le_refl 0) rfl (fun b hb=>by simp at hb)
 have h1:=q5y 1
 have h2:=q5y 2
 have es:js0.spl ((one8 1).map by8) ((one8 2).map by8) (Int.ofNat 3)=(splL (one8 1) (one8 2) 3).flatten.map by8:=q6x _ _ 3
 have ey:jy0.sec ((one8 1).map by8) ((one8 2).map by8) (Int.ofNat 0)=(secL (one8 1) (one8 2) 0).map by8:=by
  show(secL (qag _) (qag _) _).map by8=_
  rw[qab,qab]
  rfl
 have hl:=q45 (one8 1) (one8 2) 0
 have hne:¬ secL (one8 1) (one8 2) 0=qiw:=of_decide_eq_false q9m
 generalize secL (one8 1) (one8 2) 0=x at ey hl hne
 rw[vc50,b1_1,b1_2,es,ey,q7u h1 (by omega),qa5 h1,qa5 hl,le32' h1,eq32' h1,le32' hl,eq32' hl,q44]
 refine⟨⟨pkey _ h1,pkey _ h2⟩,Br.t rfl ⟨⟨pkey _ h1,pkey _ h2⟩,Br.f rfl ⟨q54 h1 (by omega) (by omega),Chk.mk rfl (Chk.mk rfl (q52 ⟨⟨pkey _ h1,pkey _ h2⟩,Chk.mk rfl (Chk.mk rfl neEx hne ⟨rfl,rfl⟩)⟩))⟩⟩⟩
theorem q5t:CnOK Try.prog (cnJ5 jx0 jy0 hf0 js0):=by
 refine qfl ?_ q5j
 intro f vals H p x e hp
 dsimp only at e
 split at e<;>cases e
 exact CallTo.lookV (H:=H) q9z .nil
end
end Go.Proofs.Vm

namespace Go.Proofs.Vm
set_option maxRecDepth 100000
open Go.Vm
noncomputable section
theorem jn_of{L:List (List UInt8)}(h:∀ x,x∈L->x.length=32){n:Nat}(hl:n=L.length):jx0.jn (L.flatten.map by8) 0 n=(joinL L).map by8:=by
 show(joinL (shA _ 0 n)).map by8=_
 rw[q5g h hl]
end
end Go.Proofs.Vm

namespace Go.Proofs.Vm
set_option maxRecDepth 100000
open Go.Vm
noncomputable section
def sc58(Y:JY)(rs ss:List AV)(n1:Int):List AV:=ops0.spl (z8 32) 0 (Y.sec (ops0.ext rs 0 32) (ops0.ext ss 0 32) n1)
def hs58(F:HF)(Y:JY)(rs ss:List AV)(n1:Int):List AV:=F.hash (ops0.ext (sc58 Y rs ss n1) 0 32)
noncomputable def lp58:VC:=vp [1,1,1,1,1,1,0,1,0,0] vf58.body
def fr58(hs:List AV)(q n c3:Nat)(e3:Bool)(ds:List AV)(p c2:Nat)(e2:Bool)(x:AV)(i:Nat):Fr := [.top,.top,.top,.ros hs q n c3 e3,.ptr 0 0,.top,.top,.top,.nils,.bool false,.top,.ptr 1 0,.mp 2,x,.top,.top,.top,.top,.top,.top,.top,.top,.top,.top,.top,.top,.top,.top,.top,.top,.top,.top,.top,.top,.top,.top,.top,.top,.top,.top,.ros ds p n c2 e2,.int .i64 (Int.ofNat n),.int .i64 (Int.ofNat i),.top,.top,.top,.top,.top,.top,.top,.top,.top,.top,.top,.top,.top,.top,.top,.top,.top,.top,.top,.top,.top,.top,.top,.top,.top,.top,.top,.top,.top,.top,.top,.top,.top]
def mk58:List Bool := [true,true,true,false,false,true,true,true,false,false,true,false,false,false,true,true,true,true,true,true,true,true,true,true,true,true,true,true,true,true,true,true,true,true,true,true,true,true,true,true,false,false,false,true,true,true,true,true,true,true,true,true,true,true,true,true,true,true,true,true,true,true,true,true,true,true,true,true,true,true,true,true,true,true,true,true]
noncomputable def lp59:VC:=vp [1,1,1,1,1,0,1,0,0] vf59.body
noncomputable def lp59k:VC:=vp [1,1,1,1,1,0,1,0,0,1,0,0,0,1,0,0] vf59.body
def fr59(hs:List AV)(q n c3:Nat)(e3:Bool)(ds:List AV)(p c2:Nat)(e2:Bool)(x:AV)(i:Nat):Fr := [.top,.top,.ros ds p n c2 e2,.ros hs q n c3 e3,.ptr 0 0,.top,.top,.top,.nils,.bool false,.int .i64 (Int.ofNat n),.ptr 1 0,x,.int .i64 (Int.ofNat i),.top,.top,.top,.top,.top,.top,.top,.top,.top,.top,.top,.top,.top,.top,.top,.top,.top,.top,.top,.top,.top,.top,.top,.top,.top,.top,.top,.top,.top,.top,.top,.top,.top,.top,.top,.top,.top,.top,.top,.top,.top,.top,.top,.top,.top,.top,.top,.top,.top,.top,.top,.top,.top,.top,.top,.top,.top,.top,.top,.top,.top,.top,.top,.top,.top,.top,.top,.top,.top,.top,.top,.top,.top,.top,.top,.top,.top,.top,.top]
def mk59:List Bool := [true,true,false,false,false,true,true,true,false,false,false,false,false,false,true,true,true,true,true,true,true,true,true,true,true,true,true,true,true,true,true,true,true,true,true,true,true,true,true,true,true,true,true,true,true,true,true,true,true,true,true,true,true,true,true,true,true,true,true,true,true,true,true,true,true,true,true,true,true,true,true,true,true,true,true,true,true,true,true,true,true,true,true,true,true,true,true,true,true,true,true,true,true]
def fr59k(hs:List AV)(q n c3:Nat)(e3:Bool)(ds:List AV)(p c2:Nat)(e2:Bool)(x:AV)(i k:Nat):Fr := [.top,.top,.ros ds p n c2 e2,.ros hs q n c3 e3,.ptr 0 0,.top,.top,.top,.nils,.bool false,.int .i64 (Int.ofNat n),.ptr 1 0,x,.int .i64 (Int.ofNat i),.int .i64 (Int.ofNat k),.top,.top,.top,.top,.top,.top,.top,.top,.top,.top,.top,.top,.top,.top,.top,.top,.top,.top,.top,.top,.top,.top,.top,.top,.top,.top,.top,.top,.top,.top,.top,.top,.top,.top,.top,.top,.top,.top,.top,.top,.top,.top,.top,.top,.top,.top,.top,.top,.top,.top,.top,.top,.top,.top,.top,.top,.top,.top,.top,.top,.top,.top,.top,.top,.top,.top,.top,.top,.top,.top,.top,.top,.top,.top,.top,.top,.top,.top]
def mk59k:List Bool := [true,true,false,false,false,true,true,true,false,false,false,false,false,false,false,true,true,true,true,true,true,true,true,true,true,true,true,true,true,true,true,true,true,true,true,true,true,true,true,true,true,true,true,true,true,true,true,true,true,true,true,true,true,true,true,true,true,true,true,true,true,true,true,true,true,true,true,true,true,true,true,true,true,true,true,true,true,true,true,true,true,true,true,true,true,true,true,true,true,true,true,true,true]
def IxAt(ds:List AV)(p n:Nat)(I:List Int):Prop:=I.length=n/\∀ (j:Nat) (x:Int),I[j]? = some x->ds[p+j]? = some (.int .i64 x)
def PIx(ds:List AV)(p n:Nat):Prop:=flatL ds/\∃ I,IxAt ds p n I/\I.Nodup/\∀ x,x∈I->0<=x/\x<=2147483647
def ln59k:LnF:=fun n0 b fr H=>match slot fr 2,slot fr 3,slot fr 12,slot fr 13,slot fr 14,H with
 | .ros ds p n c2 e2,.ros hs q _ c3 e3,.nils,.int .i64 (.ofNat i),.int .i64 (.ofNat 0),[.cells ss,.cells rs]=>some (n0=0/\VCis b lp59k/\forget mk59k fr=fr59k hs q n c3 e3 ds p c2 e2 .nils i 0/\PIx ds p n/\i<n/\n<=16,
  .ok (.exit 2) (fr59k hs q n c3 e3 ds p c2 e2 .nils i i) [.cells ss,.cells rs])
 | .ros ds p n c2 e2,.ros hs q _ c3 e3,.slc 2 0 k _ 32,.int .i64 (.ofNat i),.int .i64 (.ofNat 0),[.cells ss,.cells rs,.cells os]=>some (n0=0/\VCis b lp59k/\forget mk59k fr=fr59k hs q n c3 e3 ds p c2 e2 (.slc 2 0 k k 32) i 0/\PIx ds p n/\i<n/\n<=16,
  .ok (.exit 2) (fr59k hs q n c3 e3 ds p c2 e2 (.slc 2 0 k k 32) i i) [.cells ss,.cells rs,.cells os])
 | _,_,_,_,_,_=>none
theorem q9v(Y:JY)(S:JX)(F:HF)(hs:List AV)(q n c3:Nat)(e3:Bool)(ds:List AV)(p c2:Nat)(e2:Bool)(ss rs:List AV)(ks:List Int)(i:Nat)(Q:Ex->Fr->Hl->Prop) :
  (vm (vcA kdYes (cnJ3 S Y F) noLn) ops0 (tab81 58 vf58) 100 0 lp58 (fr58 hs q n c3 e3 ds p c2 e2 .nils i) [.cells ss,.cells rs,.set .i64 ks] [] (bodyX mk58 Q)) =
 ((Br (ops0.cmp .lss (Int.ofNat i) (Int.ofNat n))
 (Chk (ops0.inr (Int.ofNat i) n)
 (∃ n1:Int,((Nth ds (ops0.adr p (Int.ofNat i) 1) (.int .i64 n1)) /\
 (Chk (ops0.le 32 (ops0.len rs))
 (Chk (ops0.le 32 (ops0.len ss))
 (((PKey (ops0.ext rs 0 32)) /\
 (PKey (ops0.ext ss 0 32))) /\
 (Chk (ops0.eq (ops0.len (JY.sec Y (ops0.ext rs 0 32) (ops0.ext ss 0 32) n1)) 32)
 (Br (ops0.cmp .geq n1 (Int.ofNat 0))
 (Br (ops0.cmp .leq n1 (Int.ofNat 2147483647))
 (Br (ops0.has ks n1)
 (Q Ex.ret (tp 3 ((.ros hs q n c3 e3)::(.ptr 0 0)::tp 3 (.nils::(.bool Bool.false) :: .top::(.ptr 1 0)::(.mp 2) :: .nils::tp 26 ((.ros ds p n c2 e2)::(.int .i64 (.ofNat n))::(.int .i64 (.ofNat i))::tp 33 ([]))))) [(.cells ss),(.cells rs),(Blk.set .i64 ks),(.cells (sc58 Y rs ss n1))])
 (Chk (ops0.le 32 (ops0.len (sc58 Y rs ss n1)))
 ((PKey (ops0.ext (sc58 Y rs ss n1) 0 32)) /\
 (Chk (ops0.inr (Int.ofNat i) n)
 (Chk (ops0.le (ops0.add (ops0.adr q (Int.ofNat i) 32) 32) (ops0.len hs))
 (Chk (ops0.eq (ops0.len (hs58 F Y rs ss n1)) 32)
 (Chk (ops0.eq (ops0.len (ops0.ext hs (ops0.adr q (Int.ofNat i) 32) 32)) 32)
 (Chk (ops0.le 32 (ops0.len (hs58 F Y rs ss n1)))
 (Chk (ops0.le 32 (ops0.len (ops0.ext hs (ops0.adr q (Int.ofNat i) 32) 32)))
 (∃ l:(List Int),((((ops0.ext (hs58 F Y rs ss n1) 0 32):(List AV))=(List.map (.int .u8) l)) /\
 (∃ l1:(List Int),((((ops0.ext (ops0.ext hs (ops0.adr q (Int.ofNat i) 32) 32) 0 32):(List AV))=(List.map (.int .u8) l1)) /\
 (Br (ops0.eqi l l1)
 (Chk (Bool.not (ops0.has ks n1))
 (Chk (ops0.le 32 (ops0.len (sc58 Y rs ss n1)))
 (Chk (ops0.eq (ops0.len (ops0.ext (sc58 Y rs ss n1) 0 32)) 32)
 (Chk (ops0.le 32 (ops0.len (ops0.spl (z8 32) 0 (ops0.ext (sc58 Y rs ss n1) 0 32))))
 (Q Ex.norm (tp 3 ((.ros hs q n c3 e3)::(.ptr 0 0)::tp 3 (.nils::(.bool Bool.false) :: .top::(.ptr 1 0)::(.mp 2)::(.slc 4 0 1 1 32)::tp 26 ((.ros ds p n c2 e2)::(.int .i64 (.ofNat n))::(.int .i64 (ops0.bin .add .i64 (Int.ofNat i) (Int.ofNat 1)))::tp 33 ([]))))) [(.cells ss),(.cells rs),(Blk.set .i64 (ops0.snoc ks n1)),(.cells (sc58 Y rs ss n1)),(.cells (ops0.ext (ops0.spl (z8 32) 0 (ops0.ext (sc58 Y rs ss n1) 0 32)) 0 32))])))))
 (Q Ex.ret (tp 3 ((.ros hs q n c3 e3)::(.ptr 0 0)::tp 3 (.nils::(.bool Bool.false) :: .top::(.ptr 1 0)::(.mp 2) :: .nils::tp 26 ((.ros ds p n c2 e2)::(.int .i64 (.ofNat n))::(.int .i64 (.ofNat i))::tp 33 ([]))))) [(.cells ss),(.cells rs),(Blk.set .i64 ks),(.cells (sc58 Y rs ss n1))])))))))))))))))
 (Q Ex.ret (tp 3 ((.ros hs q n c3 e3)::(.ptr 0 0)::tp 3 (.nils::(.bool Bool.false) :: .top::(.ptr 1 0)::(.mp 2) :: .nils::tp 26 ((.ros ds p n c2 e2)::(.int .i64 (.ofNat n))::(.int .i64 (.ofNat i))::tp 33 ([]))))) [(.cells ss),(.cells rs),(Blk.set .i64 ks),(.cells (sc58 Y rs ss n1))]))
 (Q Ex.ret (tp 3 ((.ros hs q n c3 e3)::(.ptr 0 0)::tp 3 (.nils::(.bool Bool.false) :: .top::(.ptr 1 0)::(.mp 2) :: .nils::tp 26 ((.ros ds p n c2 e2)::(.int .i64 (.ofNat n))::(.int .i64 (.ofNat i))::tp 33 ([]))))) [(.cells ss),(.cells rs),(Blk.set .i64 ks),(.cells (sc58 Y rs ss n1))])))))))))
 (Q (Ex.exit 0) (tp 3 ((.ros hs q n c3 e3)::(.ptr 0 0)::tp 3 (.nils::(.bool Bool.false) :: .top::(.ptr 1 0)::(.mp 2) :: .nils::tp 26 ((.ros ds p n c2 e2)::(.int .i64 (.ofNat n))::(.int .i64 (.ofNat i))::tp 33 ([]))))) [(.cells ss),(.cells rs),(Blk.set .i64 ks)]))):=by kernel_rfl
theorem q75(Y:JY)(S:JX)(F:HF)(hs:List AV)(q n c3:Nat)(e3:Bool)(ds:List AV)(p c2:Nat)(e2:Bool)(ss rs os:List AV)(ks:List Int)(i:Nat)(Q:Ex->Fr->Hl->Prop) :
  (vm (vcA kdYes (cnJ3 S Y F) noLn) ops0 (tab81 58 vf58) 100 0 lp58 (fr58 hs q n c3 e3 ds p c2 e2 (.slc 3 0 i i 32) i) [.cells ss,.cells rs,.set .i64 ks,.cells os] [] (bodyX mk58 Q)) =
 ((Br (ops0.cmp .lss (Int.ofNat i) (Int.ofNat n))
 (Chk (ops0.inr (Int.ofNat i) n)
 (∃ n1:Int,((Nth ds (ops0.adr p (Int.ofNat i) 1) (.int .i64 n1)) /\
 (Chk (ops0.le 32 (ops0.len rs))
 (Chk (ops0.le 32 (ops0.len ss))
 (((PKey (ops0.ext rs 0 32)) /\
 (PKey (ops0.ext ss 0 32))) /\
 (Chk (ops0.eq (ops0.len (JY.sec Y (ops0.ext rs 0 32) (ops0.ext ss 0 32) n1)) 32)
 (Br (ops0.cmp .geq n1 (Int.ofNat 0))
 (Br (ops0.cmp .leq n1 (Int.ofNat 2147483647))
 (Br (ops0.has ks n1)
 (Q Ex.ret (tp 3 ((.ros hs q n c3 e3)::(.ptr 0 0)::tp 3 (.nils::(.bool Bool.false) :: .top::(.ptr 1 0)::(.mp 2)::(.slc 3 0 i i 32)::tp 26 ((.ros ds p n c2 e2)::(.int .i64 (.ofNat n))::(.int .i64 (.ofNat i))::tp 33 ([]))))) [(.cells ss),(.cells rs),(Blk.set .i64 ks),(.cells os),(.cells (sc58 Y rs ss n1))])
 (Chk (ops0.le 32 (ops0.len (sc58 Y rs ss n1)))
 ((PKey (ops0.ext (sc58 Y rs ss n1) 0 32)) /\
 (Chk (ops0.inr (Int.ofNat i) n)
 (Chk (ops0.le (ops0.add (ops0.adr q (Int.ofNat i) 32) 32) (ops0.len hs))
 (Chk (ops0.eq (ops0.len (hs58 F Y rs ss n1)) 32)
 (Chk (ops0.eq (ops0.len (ops0.ext hs (ops0.adr q (Int.ofNat i) 32) 32)) 32)
 (Chk (ops0.le 32 (ops0.len (hs58 F Y rs ss n1)))
 (Chk (ops0.le 32 (ops0.len (ops0.ext hs (ops0.adr q (Int.ofNat i) 32) 32)))
 (∃ l:(List Int),((((ops0.ext (hs58 F Y rs ss n1) 0 32):(List AV))=(List.map (.int .u8) l)) /\
 (∃ l1:(List Int),((((ops0.ext (ops0.ext hs (ops0.adr q (Int.ofNat i) 32) 32) 0 32):(List AV))=(List.map (.int .u8) l1)) /\
 (Br (ops0.eqi l l1)
 (Chk (Bool.not (ops0.has ks n1))
 (Chk (ops0.le 32 (ops0.len (sc58 Y rs ss n1)))
 (Chk (ops0.eq (ops0.len (ops0.ext (sc58 Y rs ss n1) 0 32)) 32)
 (Chk (ops0.le (ops0.add 0 (ops0.mul i 32)) (ops0.len os))
 (Chk (ops0.le 32 (ops0.len (ops0.spl (z8 32) 0 (ops0.ext (sc58 Y rs ss n1) 0 32))))
 (Chk (ops0.room i 1 32)
 (Q Ex.norm (tp 3 ((.ros hs q n c3 e3)::(.ptr 0 0)::tp 3 (.nils::(.bool Bool.false) :: .top::(.ptr 1 0)::(.mp 2)::(.slc 5 0 (ops0.add i 1) (ops0.add i 1) 32)::tp 26 ((.ros ds p n c2 e2)::(.int .i64 (.ofNat n))::(.int .i64 (ops0.bin .add .i64 (Int.ofNat i) (Int.ofNat 1)))::tp 33 ([]))))) [(.cells ss),(.cells rs),(Blk.set .i64 (ops0.snoc ks n1)),.dead,(.cells (sc58 Y rs ss n1)),(.cells (ops0.app (ops0.ext os 0 (ops0.mul i 32)) (ops0.ext (ops0.spl (z8 32) 0 (ops0.ext (sc58 Y rs ss n1) 0 32)) 0 32)))])))))))
 (Q Ex.ret (tp 3 ((.ros hs q n c3 e3)::(.ptr 0 0)::tp 3 (.nils::(.bool Bool.false) :: .top::(.ptr 1 0)::(.mp 2)::(.slc 3 0 i i 32)::tp 26 ((.ros ds p n c2 e2)::(.int .i64 (.ofNat n))::(.int .i64 (.ofNat i))::tp 33 ([]))))) [(.cells ss),(.cells rs),(Blk.set .i64 ks),(.cells os),(.cells (sc58 Y rs ss n1))])))))))))))))))
 (Q Ex.ret (tp 3 ((.ros hs q n c3 e3)::(.ptr 0 0)::tp 3 (.nils::(.bool Bool.false) :: .top::(.ptr 1 0)::(.mp 2)::(.slc 3 0 i i 32)::tp 26 ((.ros ds p n c2 e2)::(.int .i64 (.ofNat n))::(.int .i64 (.ofNat i))::tp 33 ([]))))) [(.cells ss),(.cells rs),(Blk.set .i64 ks),(.cells os),(.cells (sc58 Y rs ss n1))]))
 (Q Ex.ret (tp 3 ((.ros hs q n c3 e3)::(.ptr 0 0)::tp 3 (.nils::(.bool Bool.false) :: .top::(.ptr 1 0)::(.mp 2)::(.slc 3 0 i i 32)::tp 26 ((.ros ds p n c2 e2)::(.int .i64 (.ofNat n))::(.int .i64 (.ofNat i))::tp 33 ([]))))) [(.cells ss),(.cells rs),(Blk.set .i64 ks),(.cells os),(.cells (sc58 Y rs ss n1))])))))))))
 (Q (Ex.exit 0) (tp 3 ((.ros hs q n c3 e3)::(.ptr 0 0)::tp 3 (.nils::(.bool Bool.false) :: .top::(.ptr 1 0)::(.mp 2)::(.slc 3 0 i i 32)::tp 26 ((.ros ds p n c2 e2)::(.int .i64 (.ofNat n))::(.int .i64 (.ofNat i))::tp 33 ([]))))) [(.cells ss),(.cells rs),(Blk.set .i64 ks),(.cells os)]))):=by kernel_rfl
theorem q8h(hs:List AV)(q n c3:Nat)(e3:Bool)(ds:List AV)(p c2:Nat)(e2:Bool)(ss rs:List AV)(i k:Nat)(Q:Ex->Fr->Hl->Prop) :
  (vm (vcA kdYes noCn noLn) ops0 noTab 100 0 lp59k (fr59k hs q n c3 e3 ds p c2 e2 .nils i k) [.cells ss,.cells rs] [] (bodyX mk59k Q)) =
 ((Br (ops0.cmp .lss (Int.ofNat k) (Int.ofNat i))
 (Chk (ops0.inr (Int.ofNat k) n)
 (∃ n1:Int,((Nth ds (ops0.adr p (Int.ofNat k) 1) (.int .i64 n1)) /\
 (Chk (ops0.inr (Int.ofNat i) n)
 (∃ n2:Int,((Nth ds (ops0.adr p (Int.ofNat i) 1) (.int .i64 n2)) /\
 (Br (ops0.cmp .eql n1 n2)
 (Q Ex.ret (tp 2 ((.ros ds p n c2 e2)::(.ros hs q n c3 e3)::(.ptr 0 0)::tp 3 (.nils::(.bool Bool.false)::(.int .i64 (.ofNat n))::(.ptr 1 0) :: .nils::(.int .i64 (.ofNat i))::(.int .i64 (.ofNat k))::tp 78 ([])))) [(.cells ss),(.cells rs)])
 (Q Ex.norm (tp 2 ((.ros ds p n c2 e2)::(.ros hs q n c3 e3)::(.ptr 0 0)::tp 3 (.nils::(.bool Bool.false)::(.int .i64 (.ofNat n))::(.ptr 1 0) :: .nils::(.int .i64 (.ofNat i))::(.int .i64 (ops0.bin .add .i64 (Int.ofNat k) (Int.ofNat 1)))::tp 78 ([])))) [(.cells ss),(.cells rs)]))))))))
 (Q (Ex.exit 2) (tp 2 ((.ros ds p n c2 e2)::(.ros hs q n c3 e3)::(.ptr 0 0)::tp 3 (.nils::(.bool Bool.false)::(.int .i64 (.ofNat n))::(.ptr 1 0) :: .nils::(.int .i64 (.ofNat i))::(.int .i64 (.ofNat k))::tp 78 ([])))) [(.cells ss),(.cells rs)]))):=by kernel_rfl
theorem q8b(hs:List AV)(q n c3:Nat)(e3:Bool)(ds:List AV)(p c2:Nat)(e2:Bool)(ss rs os:List AV)(i k m:Nat)(Q:Ex->Fr->Hl->Prop) :
  (vm (vcA kdYes noCn noLn) ops0 noTab 100 0 lp59k (fr59k hs q n c3 e3 ds p c2 e2 (.slc 2 0 m m 32) i k) [.cells ss,.cells rs,.cells os] [] (bodyX mk59k Q)) =
 ((Br (ops0.cmp .lss (Int.ofNat k) (Int.ofNat i))
 (Chk (ops0.inr (Int.ofNat k) n)
 (∃ n1:Int,((Nth ds (ops0.adr p (Int.ofNat k) 1) (.int .i64 n1)) /\
 (Chk (ops0.inr (Int.ofNat i) n)
 (∃ n2:Int,((Nth ds (ops0.adr p (Int.ofNat i) 1) (.int .i64 n2)) /\
 (Br (ops0.cmp .eql n1 n2)
 (Q Ex.ret (tp 2 ((.ros ds p n c2 e2)::(.ros hs q n c3 e3)::(.ptr 0 0)::tp 3 (.nils::(.bool Bool.false)::(.int .i64 (.ofNat n))::(.ptr 1 0)::(.slc 2 0 m m 32)::(.int .i64 (.ofNat i))::(.int .i64 (.ofNat k))::tp 78 ([])))) [(.cells ss),(.cells rs),(.cells os)])
 (Q Ex.norm (tp 2 ((.ros ds p n c2 e2)::(.ros hs q n c3 e3)::(.ptr 0 0)::tp 3 (.nils::(.bool Bool.false)::(.int .i64 (.ofNat n))::(.ptr 1 0)::(.slc 2 0 m m 32)::(.int .i64 (.ofNat i))::(.int .i64 (ops0.bin .add .i64 (Int.ofNat k) (Int.ofNat 1)))::tp 78 ([])))) [(.cells ss),(.cells rs),(.cells os)]))))))))
 (Q (Ex.exit 2) (tp 2 ((.ros ds p n c2 e2)::(.ros hs q n c3 e3)::(.ptr 0 0)::tp 3 (.nils::(.bool Bool.false)::(.int .i64 (.ofNat n))::(.ptr 1 0)::(.slc 2 0 m m 32)::(.int .i64 (.ofNat i))::(.int .i64 (.ofNat k))::tp 78 ([])))) [(.cells ss),(.cells rs),(.cells os)]))):=by kernel_rfl
theorem q95(Y:JY)(S:JX)(F:HF)(JK:JS)(hs:List AV)(q n c3:Nat)(e3:Bool)(ds:List AV)(p c2:Nat)(e2:Bool)(ss rs:List AV)(i:Nat)(Q:Ex->Fr->Hl->Prop) :
  (vm (vcA kdYes (cnJ4 S Y F JK) ln59k) ops0 noTab 100 0 lp59 (fr59 hs q n c3 e3 ds p c2 e2 .nils i) [.cells ss,.cells rs] [] (bodyX mk59 Q)) =
 ((Br (ops0.cmp .lss (Int.ofNat i) (Int.ofNat n))
 ((((0:Nat)=0) /\
 ((VCis lp59k lp59k) /\
 ((((tp 2 ((.ros ds p n c2 e2)::(.ros hs q n c3 e3)::(.ptr 0 0)::tp 3 (.nils::(.bool Bool.false)::(.int .i64 (.ofNat n))::(.ptr 1 0) :: .nils::(.int .i64 (.ofNat i))::(.int .i64 (.ofNat 0))::tp 78 ([])))):Fr)=(tp 2 ((.ros ds p n c2 e2)::(.ros hs q n c3 e3)::(.ptr 0 0)::tp 3 (.nils::(.bool Bool.false)::(.int .i64 (.ofNat n))::(.ptr 1 0) :: .nils::(.int .i64 (.ofNat i))::(.int .i64 (.ofNat 0))::tp 78 ([]))))) /\
 ((PIx ds p n) /\
 ((i<n) /\
 (n<=16)))))) /\
 (Chk (ops0.inr (Int.ofNat i) n)
 (∃ n1:Int,((Nth ds (ops0.adr p (Int.ofNat i) 1) (.int .i64 n1)) /\
 (Br (ops0.cmp .lss n1 (Int.ofNat 0))
 (Q Ex.ret (tp 2 ((.ros ds p n c2 e2)::(.ros hs q n c3 e3)::(.ptr 0 0)::tp 3 (.nils::(.bool Bool.false)::(.int .i64 (.ofNat n))::(.ptr 1 0) :: .nils::(.int .i64 (.ofNat i))::tp 79 ([])))) [(.cells ss),(.cells rs)])
 (Chk (ops0.inr (Int.ofNat i) n)
 (∃ n2:Int,((Nth ds (ops0.adr p (Int.ofNat i) 1) (.int .i64 n2)) /\
 (Br (ops0.cmp .gtr n2 (Int.ofNat 2147483647))
 (Q Ex.ret (tp 2 ((.ros ds p n c2 e2)::(.ros hs q n c3 e3)::(.ptr 0 0)::tp 3 (.nils::(.bool Bool.false)::(.int .i64 (.ofNat n))::(.ptr 1 0) :: .nils::(.int .i64 (.ofNat i))::tp 79 ([])))) [(.cells ss),(.cells rs)])
 (Chk (ops0.le 32 (ops0.len rs))
 (Chk (ops0.le 32 (ops0.len ss))
 (Chk (ops0.inr (Int.ofNat i) n)
 (∃ n3:Int,((Nth ds (ops0.adr p (Int.ofNat i) 1) (.int .i64 n3)) /\
 (((PKey (ops0.ext rs 0 32)) /\
 (PKey (ops0.ext ss 0 32))) /\
 (Chk (ops0.inr (Int.ofNat i) n)
 (Chk (ops0.le (ops0.add (ops0.adr q (Int.ofNat i) 32) 32) (ops0.len hs))
 (Chk (ops0.eq (ops0.len (JY.hsh Y (ops0.ext rs 0 32) (ops0.ext ss 0 32) n3)) 32)
 (Chk (ops0.eq (ops0.len (ops0.ext hs (ops0.adr q (Int.ofNat i) 32) 32)) 32)
 (Chk (ops0.le 32 (ops0.len (JY.hsh Y (ops0.ext rs 0 32) (ops0.ext ss 0 32) n3)))
 (Chk (ops0.le 32 (ops0.len (ops0.ext hs (ops0.adr q (Int.ofNat i) 32) 32)))
 (∃ l:(List Int),((((ops0.ext (JY.hsh Y (ops0.ext rs 0 32) (ops0.ext ss 0 32) n3) 0 32):(List AV))=(List.map (.int .u8) l)) /\
 (∃ l1:(List Int),((((ops0.ext (ops0.ext hs (ops0.adr q (Int.ofNat i) 32) 32) 0 32):(List AV))=(List.map (.int .u8) l1)) /\
 (Br (ops0.eqi l l1)
 (Chk (ops0.le 32 (ops0.len rs))
 (Chk (ops0.le 32 (ops0.len ss))
 (Chk (ops0.inr (Int.ofNat i) n)
 (∃ n4:Int,((Nth ds (ops0.adr p (Int.ofNat i) 1) (.int .i64 n4)) /\
 (((PKey (ops0.ext rs 0 32)) /\
 (PKey (ops0.ext ss 0 32))) /\
 (Chk (ops0.eq (ops0.len (JY.sec Y (ops0.ext rs 0 32) (ops0.ext ss 0 32) n4)) 32)
 (Chk (ops0.le 32 (ops0.len (ops0.spl (z8 32) 0 (JY.sec Y (ops0.ext rs 0 32) (ops0.ext ss 0 32) n4))))
 (Q Ex.norm (tp 2 ((.ros ds p n c2 e2)::(.ros hs q n c3 e3)::(.ptr 0 0)::tp 3 (.nils::(.bool Bool.false)::(.int .i64 (.ofNat n))::(.ptr 1 0)::(.slc 2 0 1 1 32)::(.int .i64 (ops0.bin .add .i64 (Int.ofNat i) (Int.ofNat 1)))::tp 79 ([])))) [(.cells ss),(.cells rs),(.cells (ops0.ext (ops0.spl (z8 32) 0 (JY.sec Y (ops0.ext rs 0 32) (ops0.ext ss 0 32) n4)) 0 32))])))))))))
 (Q Ex.ret (tp 2 ((.ros ds p n c2 e2)::(.ros hs q n c3 e3)::(.ptr 0 0)::tp 3 (.nils::(.bool Bool.false)::(.int .i64 (.ofNat n))::(.ptr 1 0) :: .nils::(.int .i64 (.ofNat i))::tp 79 ([])))) [(.cells ss),(.cells rs)])))))))))))))))))))))))))))
 (Q (Ex.exit 0) (tp 2 ((.ros ds p n c2 e2)::(.ros hs q n c3 e3)::(.ptr 0 0)::tp 3 (.nils::(.bool Bool.false)::(.int .i64 (.ofNat n))::(.ptr 1 0) :: .nils::(.int .i64 (.ofNat i))::tp 79 ([])))) [(.cells ss),(.cells rs)]))):=by kernel_rfl
theorem q76(Y:JY)(S:JX)(F:HF)(JK:JS)(hs:List AV)(q n c3:Nat)(e3:Bool)(ds:List AV)(p c2:Nat)(e2:Bool)(ss rs os:List AV)(i:Nat)(Q:Ex->Fr->Hl->Prop) :
  (vm (vcA kdYes (cnJ4 S Y F JK) ln59k) ops0 noTab 100 0 lp59 (fr59 hs q n c3 e3 ds p c2 e2 (.slc 2 0 i i 32) i) [.cells ss,.cells rs,.cells os] [] (bodyX mk59 Q)) =
 ((Br (ops0.cmp .lss (Int.ofNat i) (Int.ofNat n))
 ((((0:Nat)=0) /\
 ((VCis lp59k lp59k) /\
 ((((tp 2 ((.ros ds p n c2 e2)::(.ros hs q n c3 e3)::(.ptr 0 0)::tp 3 (.nils::(.bool Bool.false)::(.int .i64 (.ofNat n))::(.ptr 1 0)::(.slc 2 0 i i 32)::(.int .i64 (.ofNat i))::(.int .i64 (.ofNat 0))::tp 78 ([])))):Fr)=(tp 2 ((.ros ds p n c2 e2)::(.ros hs q n c3 e3)::(.ptr 0 0)::tp 3 (.nils::(.bool Bool.false)::(.int .i64 (.ofNat n))::(.ptr 1 0)::(.slc 2 0 i i 32)::(.int .i64 (.ofNat i))::(.int .i64 (.ofNat 0))::tp 78 ([]))))) /\
 ((PIx ds p n) /\
 ((i<n) /\
 (n<=16)))))) /\
 (Chk (ops0.inr (Int.ofNat i) n)
 (∃ n1:Int,((Nth ds (ops0.adr p (Int.ofNat i) 1) (.int .i64 n1)) /\
 (Br (ops0.cmp .lss n1 (Int.ofNat 0))
 (Q Ex.ret (tp 2 ((.ros ds p n c2 e2)::(.ros hs q n c3 e3)::(.ptr 0 0)::tp 3 (.nils::(.bool Bool.false)::(.int .i64 (.ofNat n))::(.ptr 1 0)::(.slc 2 0 i i 32)::(.int .i64 (.ofNat i))::tp 79 ([])))) [(.cells ss),(.cells rs),(.cells os)])
 (Chk (ops0.inr (Int.ofNat i) n)
 (∃ n2:Int,((Nth ds (ops0.adr p (Int.ofNat i) 1) (.int .i64 n2)) /\
 (Br (ops0.cmp .gtr n2 (Int.ofNat 2147483647))
 (Q Ex.ret (tp 2 ((.ros ds p n c2 e2)::(.ros hs q n c3 e3)::(.ptr 0 0)::tp 3 (.nils::(.bool Bool.false)::(.int .i64 (.ofNat n))::(.ptr 1 0)::(.slc 2 0 i i 32)::(.int .i64 (.ofNat i))::tp 79 ([])))) [(.cells ss),(.cells rs),(.cells os)])
 (Chk (ops0.le 32 (ops0.len rs))
 (Chk (ops0.le 32 (ops0.len ss))
 (Chk (ops0.inr (Int.ofNat i) n)
 (∃ n3:Int,((Nth ds (ops0.adr p (Int.ofNat i) 1) (.int .i64 n3)) /\
 (((PKey (ops0.ext rs 0 32)) /\
 (PKey (ops0.ext ss 0 32))) /\
 (Chk (ops0.inr (Int.ofNat i) n)
 (Chk (ops0.le (ops0.add (ops0.adr q (Int.ofNat i) 32) 32) (ops0.len hs))
 (Chk (ops0.eq (ops0.len (JY.hsh Y (ops0.ext rs 0 32) (ops0.ext ss 0 32) n3)) 32)
 (Chk (ops0.eq (ops0.len (ops0.ext hs (ops0.adr q (Int.ofNat i) 32) 32)) 32)
 (Chk (ops0.le 32 (ops0.len (JY.hsh Y (ops0.ext rs 0 32) (ops0.ext ss 0 32) n3)))
 (Chk (ops0.le 32 (ops0.len (ops0.ext hs (ops0.adr q (Int.ofNat i) 32) 32)))
 (∃ l:(List Int),((((ops0.ext (JY.hsh Y (ops0.ext rs 0 32) (ops0.ext ss 0 32) n3) 0 32):(List AV))=(List.map (.int .u8) l)) /\
 (∃ l1:(List Int),((((ops0.ext (ops0.ext hs (ops0.adr q (Int.ofNat i) 32) 32) 0 32):(List AV))=(List.map (.int .u8) l1)) /\
 (Br (ops0.eqi l l1)
 (Chk (ops0.le 32 (ops0.len rs))
 (Chk (ops0.le 32 (ops0.len ss))
 (Chk (ops0.inr (Int.ofNat i) n)
 (∃ n4:Int,((Nth ds (ops0.adr p (Int.ofNat i) 1) (.int .i64 n4)) /\
 (((PKey (ops0.ext rs 0 32)) /\
 (PKey (ops0.ext ss 0 32))) /\
 (Chk (ops0.eq (ops0.len (JY.sec Y (ops0.ext rs 0 32) (ops0.ext ss 0 32) n4)) 32)
 (Chk (ops0.le (ops0.add 0 (ops0.mul i 32)) (ops0.len os))
 (Chk (ops0.le 32 (ops0.len (ops0.spl (z8 32) 0 (JY.sec Y (ops0.ext rs 0 32) (ops0.ext ss 0 32) n4))))
 (Chk (ops0.room i 1 32)
 (Q Ex.norm (tp 2 ((.ros ds p n c2 e2)::(.ros hs q n c3 e3)::(.ptr 0 0)::tp 3 (.nils::(.bool Bool.false)::(.int .i64 (.ofNat n))::(.ptr 1 0)::(.slc 3 0 (ops0.add i 1) (ops0.add i 1) 32)::(.int .i64 (ops0.bin .add .i64 (Int.ofNat i) (Int.ofNat 1)))::tp 79 ([])))) [(.cells ss),(.cells rs),.dead,(.cells (ops0.app (ops0.ext os 0 (ops0.mul i 32)) (ops0.ext (ops0.spl (z8 32) 0 (JY.sec Y (ops0.ext rs 0 32) (ops0.ext ss 0 32) n4)) 0 32)))])))))))))))
 (Q Ex.ret (tp 2 ((.ros ds p n c2 e2)::(.ros hs q n c3 e3)::(.ptr 0 0)::tp 3 (.nils::(.bool Bool.false)::(.int .i64 (.ofNat n))::(.ptr 1 0)::(.slc 2 0 i i 32)::(.int .i64 (.ofNat i))::tp 79 ([])))) [(.cells ss),(.cells rs),(.cells os)])))))))))))))))))))))))))))
 (Q (Ex.exit 0) (tp 2 ((.ros ds p n c2 e2)::(.ros hs q n c3 e3)::(.ptr 0 0)::tp 3 (.nils::(.bool Bool.false)::(.int .i64 (.ofNat n))::(.ptr 1 0)::(.slc 2 0 i i 32)::(.int .i64 (.ofNat i))::tp 79 ([])))) [(.cells ss),(.cells rs),(.cells os)]))):=by kernel_rfl
end
end Go.Proofs.Vm

namespace Go.Proofs.Vm
set_option maxRecDepth 100000
open Go.Vm
noncomputable section
structure C58(R S:List UInt8)(hs:List AV)(q n:Nat)(ds:List AV)(p:Nat)(I:List Int)(HL:List (List UInt8)):Prop where
 hR:R.length=32
 hS:S.length=32
 hI:IxAt ds p n I
 nd:I.Nodup
 rg:∀ x,x∈I->0<=x/\x<=2147483647
 sh:ShAt hs q n HL
 rm:q+n*32<=hs.length
 hf:flatL hs
 df:flatL ds
 n1:1<=n
 n16:n<=16
def secsL(R S:List UInt8)(I:List Int)(k:Nat):List (List UInt8):=(I.take k).map (secL R S)
def okH(R S:List UInt8)(I:List Int)(HL:List (List UInt8))(j:Nat):Bool:=decide (hshL R S (I.getD j 0)=HL.getD j [])
theorem q6f(R S:List UInt8)(I:List Int)(k:Nat):∀ x,x∈secsL R S I k->x.length=32:=by
 intro x hx
 obtain⟨i,_,rfl⟩:=List.mem_map.1 hx
 exact q45 R S i
theorem q5l(R S:List UInt8){I:List Int}{k:Nat}(h:k<=I.length):(secsL R S I k).length=k:=by
 unfold secsL
 rw[List.length_map,List.length_take]
 omega
theorem q57{α:Type}{l:List α}{i:Nat}{x:α}(h:l[i]? = some x):l.take (i+1)=l.take i ++ [x]:=by
 rw[List.take_add_one,h]
 rfl
theorem q5n(R S:List UInt8){I:List Int}{i:Nat}{x:Int}(h:I[i]? = some x):secsL R S I (i+1)=secsL R S I i ++ [secL R S x]:=by
 unfold secsL
 rw[q57 h,List.map_append]
 rfl
theorem q67{I:List Int}(hd:I.Nodup){i:Nat}{x:Int}(h:I[i]? = some x):(I.take i).contains x=false:=by
 cases hc:(I.take i).contains x with
 | false=>rfl
 | true =>
  have hm:=List.contains_iff_mem.1 hc
  obtain⟨j,hj,e⟩:=List.mem_iff_getElem.1 hm
  rw[List.length_take] at hj
  rw[List.getElem_take] at e
  have hi:=(List.getElem?_eq_some_iff.1 h)
  obtain⟨hil,e2⟩:=hi
  have:=(List.pairwise_iff_getElem.1 hd) j i (by omega) hil (by omega)
  exact absurd (e.trans e2.symm) this
theorem q7l{R S:List UInt8}{x:Int}(h0:0<=x)(h1:x<=2147483647):hshL R S x=sumL (secL R S x):=by
 unfold hshL
 rw[if_pos h0,if_pos h1]
theorem q6s{R S:List UInt8}(hR:R.length=32)(hS:S.length=32)(x:Int):jy0.sec (ops0.ext (R.map by8) 0 32) (ops0.ext (S.map by8) 0 32) x=(secL R S x).map by8/\sc58 jy0 (R.map by8) (S.map by8) x=(secL R S x).map by8:=by
 have h:jy0.sec (ops0.ext (R.map by8) 0 32) (ops0.ext (S.map by8) 0 32) x=(secL R S x).map by8:=by
  rw[qa5 hR,qa5 hS]
  show(secL (qag _) (qag _) x).map by8=_
  rw[qab,qab]
 refine⟨h,?_⟩
 unfold sc58
 rw[h,spl32 (q45 R S x)]
theorem q8q{R S:List UInt8}(hR:R.length=32)(hS:S.length=32){x:Int}(h0:0<=x)(h1:x<=2147483647):hs58 hf0 jy0 (R.map by8) (S.map by8) x=(hshL R S x).map by8:=by
 unfold hs58
 rw[(q6s hR hS x).2,qa5 (q45 R S x),q7l h0 h1]
 show(sumL (qag _)).map by8=_
 rw[qab]
section
variable {R S:List UInt8}{hs:List AV}{q n:Nat}{ds:List AV}{p:Nat}{I:List Int}{HL:List (List UInt8)}
theorem C58.at_(c:C58 R S hs q n ds p I HL){i:Nat}(hi:i<n):∃ x y,I[i]? = some x/\HL[i]? = some y/\ds[p+i]? = some (.int .i64 x)/\0<=x/\x<=2147483647/\y.length=32/\ops0.ext hs (ops0.adr q (Int.ofNat i) 32) 32=y.map by8/\q+i*32+32<=hs.length:=by
 have hl:i<I.length:=by rw[c.hI.1]; exact hi
 have hm:i<HL.length:=by rw[c.sh.1]; exact hi
 obtain⟨r0,r1⟩:=c.rg I[i] (List.getElem_mem hl)
 obtain⟨y1,y2⟩:=c.sh.2 i HL[i] (List.getElem?_eq_getElem hm)
 refine⟨I[i],HL[i],List.getElem?_eq_getElem hl,List.getElem?_eq_getElem hm,c.hI.2 i _ (List.getElem?_eq_getElem hl),r0,r1,y1,by rw[nAdr,nExt]; exact y2,?_⟩
 have:=c.rm
 have:(i+1)*32<=n*32:=Nat.mul_le_mul_right 32 hi
 omega
def x58(b i:Nat):AV:=if i=0 then .nils else .slc b 0 i i 32
def o58(R S:List UInt8)(I:List Int)(i:Nat):Hl:=if i=0 then [] else [.cells ((secsL R S I i).flatten.map by8)]
def H58(R S:List UInt8)(I:List Int)(i:Nat):Hl := [.cells (S.map by8),.cells (R.map by8),.set .i64 (I.take i)]++o58 R S I i
theorem vm58(c:C58 R S hs q n ds p I HL)(c3:Nat)(e3:Bool)(c2:Nat)(e2:Bool){i:Nat}(hi:i<n){x:Int}{y:List UInt8}(hx:I[i]? = some x)(hy:HL[i]? = some y)(Q:Ex->Fr->Hl->Prop)
  (h1:hshL R S x=y->i=0->∀ X,Q .norm (fr58 hs q n c3 e3 ds p c2 e2 (.slc 4 0 1 1 32) (i+1)) [.cells (S.map by8),.cells (R.map by8),.set .i64 (I.take (i+1)),.cells X,.cells ((secsL R S I (i+1)).flatten.map by8)])
  (h2:hshL R S x=y->i≠0->∀ X,Q .norm (fr58 hs q n c3 e3 ds p c2 e2 (.slc 5 0 (i+1) (i+1) 32) (i+1)) [.cells (S.map by8),.cells (R.map by8),.set .i64 (I.take (i+1)),.dead,.cells X,.cells ((secsL R S I (i+1)).flatten.map by8)])
  (h3:hshL R S x≠y->∀ X,Q .ret (fr58 hs q n c3 e3 ds p c2 e2 (x58 3 i) i) (H58 R S I i ++ [.cells X])) :
  vm (vcA kdYes (cnJ3 jx0 jy0 hf0) noLn) ops0 (tab81 58 vf58) 100 0 lp58 (fr58 hs q n c3 e3 ds p c2 e2 (x58 3 i) i) (H58 R S I i) [] (bodyX mk58 Q):=by
 obtain⟨x',y',hx',hy',hd,r0,r1,hy32,hext,hroom⟩:=c.at_ hi
 obtain rfl:x=x':=Option.some.inj (hx.symm.trans hx')
 obtain rfl:y=y':=Option.some.inj (hy.symm.trans hy')
 have hR:=c.hR
 have hS:=c.hS
 obtain⟨s1,s2⟩:=q6s hR hS x
 have s3:=q8q hR hS r0 r1
 have l1:=q45 R S x
 have l2:=q5c R S x
 have h16:=c.n16
 have hIl:=c.hI.1
 have hhas:ops0.has (I.take i) x=false:=q67 c.nd hx
 have hsn:ops0.snoc (I.take i) x=I.take (i+1):=(q57 hx).symm
 by_cases h0:i=0
 ·subst h0
  have e0:x58 3 0 = .nils:=rfl
  have eH:H58 R S I 0 = [.cells (S.map by8),.cells (R.map by8),.set .i64 (I.take 0)]:=rfl
  have es:secsL R S I (0+1) = [secL R S x]:=by rw[q5n R S hx]; rfl
  rw[eH] at h3
  rw[e0] at h3 ⊢
  rw[eH,q9v]
  refine Br.t (by rw[nLss]; exact decide_eq_true hi) (Chk.mk (by rw[nInr]; exact decide_eq_true hi) ⟨x,Nth.mk (by rw[nAdr,Nat.mul_one]; exact hd),?_⟩)
  rw[s1,s2,s3,hext,hhas,hsn,nAdr,nInr,qa5 l1,qa5 l2,qa5 hy32,spl32 l1,qa5 l1,add1 (by omega)]
  refine(ckle (by rw[nLen,List.length_map]; omega) (ckle (by rw[nLen,List.length_map]; omega) ⟨⟨by rw[qa5 hR]; exact pkey R hR,by rw[qa5 hS]; exact pkey S hS⟩,ckeq (by rw[nLen,List.length_map]; omega) (Br.t (decide_eq_true r0) (Br.t (decide_eq_true r1) (Br.f rfl (ckle (by rw[nLen,List.length_map]; omega) ⟨pkey _ l1,Chk.mk (decide_eq_true hi) (ckle (by rw[nPlus,nLen]; omega) (ckeq (by rw[nLen,List.length_map]; omega) (ckeq (by rw[nLen,List.length_map]; omega) (ckle (by rw[nLen,List.length_map]; omega) (ckle (by rw[nLen,List.length_map]; omega) ?_)))))⟩))))⟩))
  by_cases hok:hshL R S x=y
  ·subst hok
   refine q52 (Chk.mk rfl (ckle (by rw[nLen,List.length_map]; omega) (ckeq (by rw[nLen,List.length_map]; omega) (ckle (by rw[nLen,List.length_map]; omega) ?_))))
   have:=h1 rfl rfl ((secL R S x).map by8)
   rw[es,List.flatten_singleton] at this
   exact this
  ·exact neEx hok (h3 hok _)
 ·have e0:x58 3 i = .slc 3 0 i i 32:=if_neg h0
  have eH:H58 R S I i = [.cells (S.map by8),.cells (R.map by8),.set .i64 (I.take i),.cells ((secsL R S I i).flatten.map by8)]:=by unfold H58 o58;rw[if_neg h0]; rfl
  have es:secsL R S I (i+1)=secsL R S I i ++ [secL R S x]:=q5n R S hx
  have lf:(secsL R S I i).flatten.length=i*32:=by rw[qdb (q6f R S I i),q5l R S (by omega)]
  have ea:ops0.app (ops0.ext ((secsL R S I i).flatten.map by8) 0 (ops0.mul i 32)) ((secL R S x).map by8)=(secsL R S I (i+1)).flatten.map by8:=by
   rw[qbw,nExt,List.drop_zero,List.take_of_length_le (by rw[List.length_map]; omega),nApp,es,List.flatten_append,List.flatten_singleton,List.map_append]
  rw[eH] at h3
  rw[e0] at h3 ⊢
  rw[eH,q75]
  refine Br.t (by rw[nLss]; exact decide_eq_true hi) (Chk.mk (by rw[nInr]; exact decide_eq_true hi) ⟨x,Nth.mk (by rw[nAdr,Nat.mul_one]; exact hd),?_⟩)
  rw[s1,s2,s3,hext,hhas,hsn,nAdr,nInr,qa5 l1,qa5 l2,qa5 hy32,spl32 l1,qa5 l1,ea,nPlus,nPlus,add1 (by omega)]
  refine(ckle (by rw[nLen,List.length_map]; omega) (ckle (by rw[nLen,List.length_map]; omega) ⟨⟨by rw[qa5 hR]; exact pkey R hR,by rw[qa5 hS]; exact pkey S hS⟩,ckeq (by rw[nLen,List.length_map]; omega) (Br.t (decide_eq_true r0) (Br.t (decide_eq_true r1) (Br.f rfl (ckle (by rw[nLen,List.length_map]; omega) ⟨pkey _ l1,Chk.mk (decide_eq_true hi) (ckle (by rw[nLen]; omega) (ckeq (by rw[nLen,List.length_map]; omega) (ckeq (by rw[nLen,List.length_map]; omega) (ckle (by rw[nLen,List.length_map]; omega) (ckle (by rw[nLen,List.length_map]; omega) ?_)))))⟩))))⟩))
  by_cases hok:hshL R S x=y
  ·subst hok
   exact q52 (Chk.mk rfl (ckle (by rw[nLen,List.length_map]; omega) (ckeq (by rw[nLen,List.length_map]; omega) (ckle (by rw[qbw,nLen,List.length_map]; omega) (ckle (by rw[nLen,List.length_map]; omega) (q6j (by omega) (h2 rfl h0 _)))))))
  ·exact neEx hok (h3 hok _)
end
end
end Go.Proofs.Vm
