/-
  ONION, ERRORS ON THEIR WAY BACK, PART 10: the law OnionFails: its loop and its formula.
-/
import Derived.Test.YtfmhlogapbpnbaaDoorYeam
import Derived.Test.YtfmhlogapbpnbaaDoorYeaj
import Derived.Test.YtfmhlogapbpnbaaDoorRows
import Derived.ProofKit
import Derived.OpenShut
import Derived.JoinedCond
import Derived.Test.YtfmhlogapbpnbaaDoorYeaf
set_option linter.unusedVariables false
set_option linter.unusedSimpArgs false
set_option linter.unusedSectionVars false

namespace Go.Proofs.Vm
open Go.Vm
set_option maxRecDepth 100000
noncomputable section
def rm4(a:Int)(n:Nat):Int:=ops0.bin .rem .i64 a (ops0.ofn n)
def ra4(a:Int)(n:Nat):Int:=ops0.bin .add .i64 (rm4 a n) (ops0.ofn n)
structure RFd where
 ok:List UInt8→Bool
 fl:List AV→List UInt8→List AV
structure WFd where
 wr:List AV→Int→List AV→List AV
def cnW(R:RFd)(U:UF)(T:TRF)(B:BZ)(Z:OZ)(O:OY)(F:HF):CnF:=cnOr (fun f vals H=>match f,vals with
 | 10,[.agg kk,x]=>match vw1 H x with
  | .ros pc off len _ _=>some (PKey kk∧PB pc off len,.cond (R.ok (rdB pc off len)) (.ok (.tup [.slc (size H) 0 96 96 1,.int .i64 (Int.ofNat 0)]) (join H [.cells (R.fl kk (rdB pc off len))]) []) (.ok (.tup [.nils,.int .i64 (Int.ofNat 1)]) H []))
  | _=>none
 | 11,[.agg kk,x]=>match vw1 H x with
  | .ros pc off len _ _=>some (PKey kk∧PB pc off len,.cond (R.ok (rdB pc off len)) (.ok (.tup [.slc (size H) 0 96 96 1,.int .i64 (Int.ofNat 0)]) (join H [.cells (R.fl kk (rdB pc off len))]) []) (.ok (.tup [.nils,.int .i64 (Int.ofNat 1)]) H []))
  | _=>none
 | _,_=>none) (cnV U T B Z O F)
noncomputable def lp4:VC:=vp [1,1,1,1,1,1,1,1,0,1,0,0] vf4.body
def fr4(ks:List AV)(n c:Nat)(e:Bool)(pc:List AV)(off len cp:Nat)(ex:Bool)(k i:Int):Fr := [.ros ks 0 n c e,.top,.ros pc off len cp ex,.top,.top,.top,.top,.int .i64 k,.slc 0 0 96 96 1,.top,.top,.top,.int .i64 i,.top,.top,.top,.top,.top,.top,.top,.top,.top,.top,.top,.top,.top,.top,.top,.top,.top,.top,.top,.top,.top,.top,.top,.top,.top,.top,.top,.top,.top,.top,.top,.top,.top,.top,.top,.top,.top,.top,.top,.top,.top,.top,.top,.top,.top,.top,.top,.top,.top,.top,.top,.top,.top,.top,.top,.top,.top,.top,.top,.top,.top,.top,.top,.top,.top,.top,.top,.top,.top,.top,.top,.top,.top,.top,.top,.top,.top,.top,.top,.top,.top,.top,.top,.top,.top,.top,.top,.top,.top,.top,.top,.top,.top,.top,.top,.top,.top,.top,.top,.top,.top,.top,.top,.top,.top,.top,.top,.top,.top,.top,.top,.top,.top,.top,.top,.top,.top,.top,.top,.top,.top,.top,.top,.top]
def mk4:List Bool := [false,true,false,true,true,true,true,false,false,true,true,true,false,true,true,true,true,true,true,true,true,true,true,true,true,true,true,true,true,true,true,true,true,true,true,true,true,true,true,true,true,true,true,true,true,true,true,true,true,true,true,true,true,true,true,true,true,true,true,true,true,true,true,true,true,true,true,true,true,true,true,true,true,true,true,true,true,true,true,true,true,true,true,true,true,true,true,true,true,true,true,true,true,true,true,true,true,true,true,true,true,true,true,true,true,true,true,true,true,true,true,true,true,true,true,true,true,true,true,true,true,true,true,true,true,true,true,true,true,true,true,true,true,true,true,true,true]
def fr4x(ks:List AV)(n c:Nat)(e:Bool)(pc:List AV)(off len cp:Nat)(ex:Bool)(k:Int):Fr := [.ros ks 0 n c e,.top,.ros pc off len cp ex,.top,.top,.top,.top,.int .i64 k,.slc 0 0 96 96 1,.top,.top,.top,.top,.top,.top,.top,.top,.top,.top,.top,.top,.top,.top,.top,.top,.top,.top,.top,.top,.top,.top,.top,.top,.top,.top,.top,.top,.top,.top,.top,.top,.top,.top,.top,.top,.top,.top,.top,.top,.top,.top,.top,.top,.top,.top,.top,.top,.top,.top,.top,.top,.top,.top,.top,.top,.top,.top,.top,.top,.top,.top,.top,.top,.top,.top,.top,.top,.top,.top,.top,.top,.top,.top,.top,.top,.top,.top,.top,.top,.top,.top,.top,.top,.top,.top,.top,.top,.top,.top,.top,.top,.top,.top,.top,.top,.top,.top,.top,.top,.top,.top,.top,.top,.top,.top,.top,.top,.top,.top,.top,.top,.top,.top,.top,.top,.top,.top,.top,.top,.top,.top,.top,.top,.top,.top,.top,.top]
def mk4x:List Bool := [false,true,false,true,true,true,true,false,false,true,true,true,true,true,true,true,true,true,true,true,true,true,true,true,true,true,true,true,true,true,true,true,true,true,true,true,true,true,true,true,true,true,true,true,true,true,true,true,true,true,true,true,true,true,true,true,true,true,true,true,true,true,true,true,true,true,true,true,true,true,true,true,true,true,true,true,true,true,true,true,true,true,true,true,true,true,true,true,true,true,true,true,true,true,true,true,true,true,true,true,true,true,true,true,true,true,true,true,true,true,true,true,true,true,true,true,true,true,true,true,true,true,true,true,true,true,true,true,true,true,true,true,true,true,true,true,true]
def P4w(ks:List AV)(n:Nat)(pc:List AV)(k:Int)(bs:List AV):Prop:=PSh ks 0 n∧n<4294967296∧flatL pc∧(∃ K:Nat,k=Int.ofNat K∧K<n)∧∃ b:List UInt8,b.length=96∧bs=b.map by8
def ln4(W:WFd):LnF:=fun n0 b fr H=>match slot fr 0,slot fr 2,slot fr 7,H with
 | .ros ks 0 n c e,.ros pc off len cp ex,.int .i64 k,[.cells bs,.cells _]=>some (n0=0∧VCis b lp4∧forget mk4 fr=fr4 ks n c e pc off len cp ex k (ops0.bin .sub .i64 k (Int.ofNat 1))∧P4w ks n pc k bs,
  .ok (.exit 0) (fr4x ks n c e pc off len cp ex k) [.cells (W.wr ks k bs)])
 | _,_,_,_=>none
def tabL4(f:Nat):Option VF:=match f with
 | 4=>some vf4
 | _=>none
theorem vcl4(T:TRF)(B:BZ)(Z:OZ)(O:OY)(F:HF)(ks pc bs:List AV)(n c:Nat)(e:Bool)(off len cp:Nat)(ex:Bool)(k i:Int)(Q:Ex→Fr→Hl→Prop) :
  (vm (vcA kdS (cnU T B Z O F) noLn) ops0 tabL3 100 0 lp4 (fr4 ks n c e pc off len cp ex k i) [.cells bs] [] (bodyX mk4 Q)) =
 ((Br (ops0.cmp .geq i (Int.ofNat 0))
 (Chk (ops0.inr i n)
 (Chk (ops0.le (ops0.add (ops0.adr 0 i 32) 32) (ops0.len ks))
 (Chk (ops0.le 32 (ops0.len (ops0.ext ks (ops0.adr 0 i 32) 32)))
 (Chk (ops0.le 32 (ops0.len (ops0.ext (ops0.ext ks (ops0.adr 0 i 32) 32) 0 32)))
 (((PKey (ops0.ext (ops0.ext (ops0.ext ks (ops0.adr 0 i 32) 32) 0 32) 0 32)) ∧
 (PB bs 0 96)) ∧
 (Q Ex.norm ((.ros ks 0 n c e) :: .top::(.ros pc off len cp ex)::tp 4 ((.int .i64 k)::(.slc 3 0 96 96 1)::tp 3 ((.int .i64 (ops0.bin .sub .i64 i (Int.ofNat 1)))::tp 124 ([])))) [(.cells bs),(.cells (ops0.ext ks (ops0.adr 0 i 32) 32)),(.cells (ops0.ext (ops0.ext ks (ops0.adr 0 i 32) 32) 0 32)),(.cells (HF.mask F (ops0.ext (ops0.ext (ops0.ext ks (ops0.adr 0 i 32) 32) 0 32) 0 32) [98,97,99,107] (rdB bs 0 96)))]))))))
 (Q (Ex.exit 0) ((.ros ks 0 n c e) :: .top::(.ros pc off len cp ex)::tp 4 ((.int .i64 k)::(.slc 0 0 96 96 1)::tp 3 ((.int .i64 i)::tp 124 ([])))) [(.cells bs)]))):=by kernel_rfl
theorem vc4(R:RFd)(W:WFd)(U:UF)(T:TRF)(B:BZ)(Z:OZ)(O:OY)(F:HF)(ks pc:List AV)(off len cp:Nat)(ex:Bool)(n c:Nat)(e:Bool)(at_:Int)(Q:AV→Prop) :
  (vcall (vcA kdS (cnW R U T B Z O F) (ln4 W)) ops0 tabL4 200 vf4 [.ros ks 0 n c e,.int .i64 at_,.ros pc off len cp ex] [] (fun r _ _=>Q r)) =
 ((Br (ops0.cmp BinOp.eql (ops0.ofn n) (Int.ofNat 0))
 (((0:Nat)=0) ∧
 (Q (AV.bool Bool.true)))
 (Chk (ops0.nz (ops0.ofn n))
 (Br (ops0.cmp BinOp.lss (rm4 at_ n) (Int.ofNat 0))
 (Chk (ops0.inr (ra4 at_ n) n)
 (Chk (ops0.le (ops0.add (ops0.adr 0 (ra4 at_ n) 32) 32) (ops0.len ks))
 (((PKey (ops0.ext ks (ops0.adr 0 (ra4 at_ n) 32) 32)) ∧
 (PB pc off len)) ∧
 (Br (RFd.ok R (rdB pc off len))
 (Chk (ops0.inr (ra4 at_ n) n)
 (Chk (ops0.le (ops0.add (ops0.adr 0 (ra4 at_ n) 32) 32) (ops0.len ks))
 (((PKey (ops0.ext ks (ops0.adr 0 (ra4 at_ n) 32) 32)) ∧
 (PB pc off len)) ∧
 (Br (RFd.ok R (rdB pc off len))
 (((0:Nat)=0) ∧
 (Chk (ops0.le 96 (ops0.len (RFd.fl R (ops0.ext ks (ops0.adr 0 (ra4 at_ n) 32) 32) (rdB pc off len))))
 (∃ l:(List UInt8),((((ops0.ext (RFd.fl R (ops0.ext ks (ops0.adr 0 (ra4 at_ n) 32) 32) (rdB pc off len)) 0 96):(List AV))=(List.map (fun b=>(AV.int IntKind.u8 (((UInt8.toNat b):Nat):Int))) l)) ∧
 (Chk (ops0.le 96 (ops0.len (RFd.fl R (ops0.ext ks (ops0.adr 0 (ra4 at_ n) 32) 32) (rdB pc off len))))
 (∃ l1:(List UInt8),((((ops0.ext (RFd.fl R (ops0.ext ks (ops0.adr 0 (ra4 at_ n) 32) 32) (rdB pc off len)) 0 96):(List AV))=(List.map (fun b=>(AV.int IntKind.u8 (((UInt8.toNat b):Nat):Int))) l1)) ∧
 (Br (ops0.eqs l l1)
 ((((0:Nat)=0) ∧
 ((VCis lp4 lp4) ∧
 ((([(AV.ros ks 0 n c e),AV.top,(AV.ros pc off len cp ex),AV.top,AV.top,AV.top,AV.top,(AV.int IntKind.i64 (ra4 at_ n)),(AV.slc 0 0 96 96 1),AV.top,AV.top,AV.top,(AV.int IntKind.i64 (ops0.bin BinOp.sub IntKind.i64 (ra4 at_ n) (Int.ofNat 1))),AV.top,AV.top,AV.top,AV.top,AV.top,AV.top,AV.top,AV.top,AV.top,AV.top,AV.top,AV.top,AV.top,AV.top,AV.top,AV.top,AV.top,AV.top,AV.top,AV.top,AV.top,AV.top,AV.top,AV.top,AV.top,AV.top,AV.top,AV.top,AV.top,AV.top,AV.top,AV.top,AV.top,AV.top,AV.top,AV.top,AV.top,AV.top,AV.top,AV.top,AV.top,AV.top,AV.top,AV.top,AV.top,AV.top,AV.top,AV.top,AV.top,AV.top,AV.top,AV.top,AV.top,AV.top,AV.top,AV.top,AV.top,AV.top,AV.top,AV.top,AV.top,AV.top,AV.top,AV.top,AV.top,AV.top,AV.top,AV.top,AV.top,AV.top,AV.top,AV.top,AV.top,AV.top,AV.top,AV.top,AV.top,AV.top,AV.top,AV.top,AV.top,AV.top,AV.top,AV.top,AV.top,AV.top,AV.top,AV.top,AV.top,AV.top,AV.top,AV.top,AV.top,AV.top,AV.top,AV.top,AV.top,AV.top,AV.top,AV.top,AV.top,AV.top,AV.top,AV.top,AV.top,AV.top,AV.top,AV.top,AV.top,AV.top,AV.top,AV.top,AV.top,AV.top,AV.top,AV.top,AV.top,AV.top,AV.top,AV.top,AV.top,AV.top,AV.top,AV.top]:Fr) = [(AV.ros ks 0 n c e),AV.top,(AV.ros pc off len cp ex),AV.top,AV.top,AV.top,AV.top,(AV.int IntKind.i64 (ra4 at_ n)),(AV.slc 0 0 96 96 1),AV.top,AV.top,AV.top,(AV.int IntKind.i64 (ops0.bin BinOp.sub IntKind.i64 (ra4 at_ n) (Int.ofNat 1))),AV.top,AV.top,AV.top,AV.top,AV.top,AV.top,AV.top,AV.top,AV.top,AV.top,AV.top,AV.top,AV.top,AV.top,AV.top,AV.top,AV.top,AV.top,AV.top,AV.top,AV.top,AV.top,AV.top,AV.top,AV.top,AV.top,AV.top,AV.top,AV.top,AV.top,AV.top,AV.top,AV.top,AV.top,AV.top,AV.top,AV.top,AV.top,AV.top,AV.top,AV.top,AV.top,AV.top,AV.top,AV.top,AV.top,AV.top,AV.top,AV.top,AV.top,AV.top,AV.top,AV.top,AV.top,AV.top,AV.top,AV.top,AV.top,AV.top,AV.top,AV.top,AV.top,AV.top,AV.top,AV.top,AV.top,AV.top,AV.top,AV.top,AV.top,AV.top,AV.top,AV.top,AV.top,AV.top,AV.top,AV.top,AV.top,AV.top,AV.top,AV.top,AV.top,AV.top,AV.top,AV.top,AV.top,AV.top,AV.top,AV.top,AV.top,AV.top,AV.top,AV.top,AV.top,AV.top,AV.top,AV.top,AV.top,AV.top,AV.top,AV.top,AV.top,AV.top,AV.top,AV.top,AV.top,AV.top,AV.top,AV.top,AV.top,AV.top,AV.top,AV.top,AV.top,AV.top,AV.top,AV.top,AV.top,AV.top,AV.top,AV.top,AV.top,AV.top,AV.top]) ∧
 (P4w ks n pc (ra4 at_ n) (RFd.fl R (ops0.ext ks (ops0.adr 0 (ra4 at_ n) 32) 32) (rdB pc off len)))))) ∧
 ((PUn ks n (WFd.wr W ks (ra4 at_ n) (RFd.fl R (ops0.ext ks (ops0.adr 0 (ra4 at_ n) 32) 32) (rdB pc off len))) 0) ∧
 (Br (UF.hit U ks n (WFd.wr W ks (ra4 at_ n) (RFd.fl R (ops0.ext ks (ops0.adr 0 (ra4 at_ n) 32) 32) (rdB pc off len))) 0)
 ((PUn ks n (WFd.wr W ks (ra4 at_ n) (RFd.fl R (ops0.ext ks (ops0.adr 0 (ra4 at_ n) 32) 32) (rdB pc off len))) 0) ∧
 (Br (UF.hit U ks n (WFd.wr W ks (ra4 at_ n) (RFd.fl R (ops0.ext ks (ops0.adr 0 (ra4 at_ n) 32) 32) (rdB pc off len))) 0)
 (Br (ops0.cmp BinOp.eql (Int.ofNat (UF.ix U ks n (WFd.wr W ks (ra4 at_ n) (RFd.fl R (ops0.ext ks (ops0.adr 0 (ra4 at_ n) 32) 32) (rdB pc off len))) 0)) (Int.ofNat (UF.ix U ks n (WFd.wr W ks (ra4 at_ n) (RFd.fl R (ops0.ext ks (ops0.adr 0 (ra4 at_ n) 32) 32) (rdB pc off len))) 0)))
 (Chk (ops0.le (ops0.add 32 (ops0.mul (UF.ln U ks n (WFd.wr W ks (ra4 at_ n) (RFd.fl R (ops0.ext ks (ops0.adr 0 (ra4 at_ n) 32) 32) (rdB pc off len))) 0) 1)) (ops0.len (UF.bs U ks n (WFd.wr W ks (ra4 at_ n) (RFd.fl R (ops0.ext ks (ops0.adr 0 (ra4 at_ n) 32) 32) (rdB pc off len))) 0)))
 (∃ l2:(List UInt8),((((ops0.ext (UF.bs U ks n (WFd.wr W ks (ra4 at_ n) (RFd.fl R (ops0.ext ks (ops0.adr 0 (ra4 at_ n) 32) 32) (rdB pc off len))) 0) 32 (ops0.mul (UF.ln U ks n (WFd.wr W ks (ra4 at_ n) (RFd.fl R (ops0.ext ks (ops0.adr 0 (ra4 at_ n) 32) 32) (rdB pc off len))) 0) 1)):(List AV))=(List.map (fun b=>(AV.int IntKind.u8 (((UInt8.toNat b):Nat):Int))) l2)) ∧
 (Chk (ops0.le (ops0.add 32 (ops0.mul (UF.ln U ks n (WFd.wr W ks (ra4 at_ n) (RFd.fl R (ops0.ext ks (ops0.adr 0 (ra4 at_ n) 32) 32) (rdB pc off len))) 0) 1)) (ops0.len (UF.bs U ks n (WFd.wr W ks (ra4 at_ n) (RFd.fl R (ops0.ext ks (ops0.adr 0 (ra4 at_ n) 32) 32) (rdB pc off len))) 0)))
 (∃ l3:(List UInt8),((((ops0.ext (UF.bs U ks n (WFd.wr W ks (ra4 at_ n) (RFd.fl R (ops0.ext ks (ops0.adr 0 (ra4 at_ n) 32) 32) (rdB pc off len))) 0) 32 (ops0.mul (UF.ln U ks n (WFd.wr W ks (ra4 at_ n) (RFd.fl R (ops0.ext ks (ops0.adr 0 (ra4 at_ n) 32) 32) (rdB pc off len))) 0) 1)):(List AV))=(List.map (fun b=>(AV.int IntKind.u8 (((UInt8.toNat b):Nat):Int))) l3)) ∧
 (Br (ops0.eqs l2 l3)
 (Br (ops0.cmp BinOp.leq (Int.ofNat (UF.ix U ks n (WFd.wr W ks (ra4 at_ n) (RFd.fl R (ops0.ext ks (ops0.adr 0 (ra4 at_ n) 32) 32) (rdB pc off len))) 0)) (ra4 at_ n))
 (Br (ops0.cmp BinOp.lss (Int.ofNat (UF.ix U ks n (WFd.wr W ks (ra4 at_ n) (RFd.fl R (ops0.ext ks (ops0.adr 0 (ra4 at_ n) 32) 32) (rdB pc off len))) 0)) (ra4 at_ n))
 (Q (AV.bool Bool.true))
 (Chk (ops0.le (ops0.add 32 (ops0.mul (UF.ln U ks n (WFd.wr W ks (ra4 at_ n) (RFd.fl R (ops0.ext ks (ops0.adr 0 (ra4 at_ n) 32) 32) (rdB pc off len))) 0) 1)) (ops0.len (UF.bs U ks n (WFd.wr W ks (ra4 at_ n) (RFd.fl R (ops0.ext ks (ops0.adr 0 (ra4 at_ n) 32) 32) (rdB pc off len))) 0)))
 (∃ l4:(List UInt8),((((ops0.ext (UF.bs U ks n (WFd.wr W ks (ra4 at_ n) (RFd.fl R (ops0.ext ks (ops0.adr 0 (ra4 at_ n) 32) 32) (rdB pc off len))) 0) 32 (ops0.mul (UF.ln U ks n (WFd.wr W ks (ra4 at_ n) (RFd.fl R (ops0.ext ks (ops0.adr 0 (ra4 at_ n) 32) 32) (rdB pc off len))) 0) 1)):(List AV))=(List.map (fun b=>(AV.int IntKind.u8 (((UInt8.toNat b):Nat):Int))) l4)) ∧
 (Chk (ops0.le (ops0.add off (ops0.mul len 1)) (ops0.len pc))
 (∃ l5:(List UInt8),((((ops0.ext pc off (ops0.mul len 1)):(List AV))=(List.map (fun b=>(AV.int IntKind.u8 (((UInt8.toNat b):Nat):Int))) l5)) ∧
 (Br (ops0.eqs l4 l5)
 (Q (AV.bool Bool.true))
 (Q (AV.bool Bool.false))))))))))
 (Q (AV.bool Bool.false)))
 (Q (AV.bool Bool.false)))))))))
 (Q (AV.bool Bool.false)))
 (Br (ops0.cmp BinOp.eql (Int.ofNat (UF.ix U ks n (WFd.wr W ks (ra4 at_ n) (RFd.fl R (ops0.ext ks (ops0.adr 0 (ra4 at_ n) 32) 32) (rdB pc off len))) 0)) (Int.ofNat 0))
 (Chk (ops0.le (ops0.add 32 (ops0.mul (UF.ln U ks n (WFd.wr W ks (ra4 at_ n) (RFd.fl R (ops0.ext ks (ops0.adr 0 (ra4 at_ n) 32) 32) (rdB pc off len))) 0) 1)) (ops0.len (UF.bs U ks n (WFd.wr W ks (ra4 at_ n) (RFd.fl R (ops0.ext ks (ops0.adr 0 (ra4 at_ n) 32) 32) (rdB pc off len))) 0)))
 (∃ l2:(List UInt8),((((ops0.ext (UF.bs U ks n (WFd.wr W ks (ra4 at_ n) (RFd.fl R (ops0.ext ks (ops0.adr 0 (ra4 at_ n) 32) 32) (rdB pc off len))) 0) 32 (ops0.mul (UF.ln U ks n (WFd.wr W ks (ra4 at_ n) (RFd.fl R (ops0.ext ks (ops0.adr 0 (ra4 at_ n) 32) 32) (rdB pc off len))) 0) 1)):(List AV))=(List.map (fun b=>(AV.int IntKind.u8 (((UInt8.toNat b):Nat):Int))) l2)) ∧
 (∃ l3:(List UInt8),((([]:(List AV))=(List.map (fun b=>(AV.int IntKind.u8 (((UInt8.toNat b):Nat):Int))) l3)) ∧
 (Br (ops0.eqs l2 l3)
 (Q (AV.bool Bool.false))
 (Q (AV.bool Bool.false))))))))
 (Q (AV.bool Bool.false)))))
 ((PUn ks n (WFd.wr W ks (ra4 at_ n) (RFd.fl R (ops0.ext ks (ops0.adr 0 (ra4 at_ n) 32) 32) (rdB pc off len))) 0) ∧
 (Br (UF.hit U ks n (WFd.wr W ks (ra4 at_ n) (RFd.fl R (ops0.ext ks (ops0.adr 0 (ra4 at_ n) 32) 32) (rdB pc off len))) 0)
 (Br (ops0.cmp BinOp.eql (Int.ofNat 0) (Int.ofNat (UF.ix U ks n (WFd.wr W ks (ra4 at_ n) (RFd.fl R (ops0.ext ks (ops0.adr 0 (ra4 at_ n) 32) 32) (rdB pc off len))) 0)))
 (∃ l2:(List UInt8),((([]:(List AV))=(List.map (fun b=>(AV.int IntKind.u8 (((UInt8.toNat b):Nat):Int))) l2)) ∧
 (Chk (ops0.le (ops0.add 32 (ops0.mul (UF.ln U ks n (WFd.wr W ks (ra4 at_ n) (RFd.fl R (ops0.ext ks (ops0.adr 0 (ra4 at_ n) 32) 32) (rdB pc off len))) 0) 1)) (ops0.len (UF.bs U ks n (WFd.wr W ks (ra4 at_ n) (RFd.fl R (ops0.ext ks (ops0.adr 0 (ra4 at_ n) 32) 32) (rdB pc off len))) 0)))
 (∃ l3:(List UInt8),((((ops0.ext (UF.bs U ks n (WFd.wr W ks (ra4 at_ n) (RFd.fl R (ops0.ext ks (ops0.adr 0 (ra4 at_ n) 32) 32) (rdB pc off len))) 0) 32 (ops0.mul (UF.ln U ks n (WFd.wr W ks (ra4 at_ n) (RFd.fl R (ops0.ext ks (ops0.adr 0 (ra4 at_ n) 32) 32) (rdB pc off len))) 0) 1)):(List AV))=(List.map (fun b=>(AV.int IntKind.u8 (((UInt8.toNat b):Nat):Int))) l3)) ∧
 (Br (ops0.eqs l2 l3)
 (Q (AV.bool Bool.false))
 (Q (AV.bool Bool.false))))))))
 (Q (AV.bool Bool.false)))
 (∃ l2:(List UInt8),((([]:(List AV))=(List.map (fun b=>(AV.int IntKind.u8 (((UInt8.toNat b):Nat):Int))) l2)) ∧
 (∃ l3:(List UInt8),((([]:(List AV))=(List.map (fun b=>(AV.int IntKind.u8 (((UInt8.toNat b):Nat):Int))) l3)) ∧
 (Br (ops0.eqs l2 l3)
 (Q (AV.bool Bool.false))
 (Q (AV.bool Bool.false))))))))))))
 (Q (AV.bool Bool.false))))))))))
 (((0:Nat)=0) ∧
 (Chk (ops0.le 96 (ops0.len (RFd.fl R (ops0.ext ks (ops0.adr 0 (ra4 at_ n) 32) 32) (rdB pc off len))))
 (∃ l:(List UInt8),((((ops0.ext (RFd.fl R (ops0.ext ks (ops0.adr 0 (ra4 at_ n) 32) 32) (rdB pc off len)) 0 96):(List AV))=(List.map (fun b=>(AV.int IntKind.u8 (((UInt8.toNat b):Nat):Int))) l)) ∧
 (∃ l1:(List UInt8),((([]:(List AV))=(List.map (fun b=>(AV.int IntKind.u8 (((UInt8.toNat b):Nat):Int))) l1)) ∧
 (Br (ops0.eqs l l1)
 (Q (AV.bool Bool.false))
 (Q (AV.bool Bool.false)))))))))))))
 (Chk (ops0.inr (ra4 at_ n) n)
 (Chk (ops0.le (ops0.add (ops0.adr 0 (ra4 at_ n) 32) 32) (ops0.len ks))
 (((PKey (ops0.ext ks (ops0.adr 0 (ra4 at_ n) 32) 32)) ∧
 (PB pc off len)) ∧
 (Br (RFd.ok R (rdB pc off len))
 (((0:Nat)=0) ∧
 (∃ l:(List UInt8),((([]:(List AV))=(List.map (fun b=>(AV.int IntKind.u8 (((UInt8.toNat b):Nat):Int))) l)) ∧
 (Chk (ops0.le 96 (ops0.len (RFd.fl R (ops0.ext ks (ops0.adr 0 (ra4 at_ n) 32) 32) (rdB pc off len))))
 (∃ l1:(List UInt8),((((ops0.ext (RFd.fl R (ops0.ext ks (ops0.adr 0 (ra4 at_ n) 32) 32) (rdB pc off len)) 0 96):(List AV))=(List.map (fun b=>(AV.int IntKind.u8 (((UInt8.toNat b):Nat):Int))) l1)) ∧
 (Br (ops0.eqs l l1)
 (Q (AV.bool Bool.false))
 (Q (AV.bool Bool.false)))))))))
 (((0:Nat)=0) ∧
 (∃ l:(List UInt8),((([]:(List AV))=(List.map (fun b=>(AV.int IntKind.u8 (((UInt8.toNat b):Nat):Int))) l)) ∧
 (∃ l1:(List UInt8),((([]:(List AV))=(List.map (fun b=>(AV.int IntKind.u8 (((UInt8.toNat b):Nat):Int))) l1)) ∧
 (Br (ops0.eqs l l1)
 (Q (AV.bool Bool.true))
 (Q (AV.bool Bool.false))))))))))))))))
 (Chk (ops0.inr (rm4 at_ n) n)
 (Chk (ops0.le (ops0.add (ops0.adr 0 (rm4 at_ n) 32) 32) (ops0.len ks))
 (((PKey (ops0.ext ks (ops0.adr 0 (rm4 at_ n) 32) 32)) ∧
 (PB pc off len)) ∧
 (Br (RFd.ok R (rdB pc off len))
 (Chk (ops0.inr (rm4 at_ n) n)
 (Chk (ops0.le (ops0.add (ops0.adr 0 (rm4 at_ n) 32) 32) (ops0.len ks))
 (((PKey (ops0.ext ks (ops0.adr 0 (rm4 at_ n) 32) 32)) ∧
 (PB pc off len)) ∧
 (Br (RFd.ok R (rdB pc off len))
 (((0:Nat)=0) ∧
 (Chk (ops0.le 96 (ops0.len (RFd.fl R (ops0.ext ks (ops0.adr 0 (rm4 at_ n) 32) 32) (rdB pc off len))))
 (∃ l:(List UInt8),((((ops0.ext (RFd.fl R (ops0.ext ks (ops0.adr 0 (rm4 at_ n) 32) 32) (rdB pc off len)) 0 96):(List AV))=(List.map (fun b=>(AV.int IntKind.u8 (((UInt8.toNat b):Nat):Int))) l)) ∧
 (Chk (ops0.le 96 (ops0.len (RFd.fl R (ops0.ext ks (ops0.adr 0 (rm4 at_ n) 32) 32) (rdB pc off len))))
 (∃ l1:(List UInt8),((((ops0.ext (RFd.fl R (ops0.ext ks (ops0.adr 0 (rm4 at_ n) 32) 32) (rdB pc off len)) 0 96):(List AV))=(List.map (fun b=>(AV.int IntKind.u8 (((UInt8.toNat b):Nat):Int))) l1)) ∧
 (Br (ops0.eqs l l1)
 ((((0:Nat)=0) ∧
 ((VCis lp4 lp4) ∧
 ((([(AV.ros ks 0 n c e),AV.top,(AV.ros pc off len cp ex),AV.top,AV.top,AV.top,AV.top,(AV.int IntKind.i64 (rm4 at_ n)),(AV.slc 0 0 96 96 1),AV.top,AV.top,AV.top,(AV.int IntKind.i64 (ops0.bin BinOp.sub IntKind.i64 (rm4 at_ n) (Int.ofNat 1))),AV.top,AV.top,AV.top,AV.top,AV.top,AV.top,AV.top,AV.top,AV.top,AV.top,AV.top,AV.top,AV.top,AV.top,AV.top,AV.top,AV.top,AV.top,AV.top,AV.top,AV.top,AV.top,AV.top,AV.top,AV.top,AV.top,AV.top,AV.top,AV.top,AV.top,AV.top,AV.top,AV.top,AV.top,AV.top,AV.top,AV.top,AV.top,AV.top,AV.top,AV.top,AV.top,AV.top,AV.top,AV.top,AV.top,AV.top,AV.top,AV.top,AV.top,AV.top,AV.top,AV.top,AV.top,AV.top,AV.top,AV.top,AV.top,AV.top,AV.top,AV.top,AV.top,AV.top,AV.top,AV.top,AV.top,AV.top,AV.top,AV.top,AV.top,AV.top,AV.top,AV.top,AV.top,AV.top,AV.top,AV.top,AV.top,AV.top,AV.top,AV.top,AV.top,AV.top,AV.top,AV.top,AV.top,AV.top,AV.top,AV.top,AV.top,AV.top,AV.top,AV.top,AV.top,AV.top,AV.top,AV.top,AV.top,AV.top,AV.top,AV.top,AV.top,AV.top,AV.top,AV.top,AV.top,AV.top,AV.top,AV.top,AV.top,AV.top,AV.top,AV.top,AV.top,AV.top,AV.top,AV.top,AV.top,AV.top,AV.top,AV.top,AV.top,AV.top,AV.top]:Fr) = [(AV.ros ks 0 n c e),AV.top,(AV.ros pc off len cp ex),AV.top,AV.top,AV.top,AV.top,(AV.int IntKind.i64 (rm4 at_ n)),(AV.slc 0 0 96 96 1),AV.top,AV.top,AV.top,(AV.int IntKind.i64 (ops0.bin BinOp.sub IntKind.i64 (rm4 at_ n) (Int.ofNat 1))),AV.top,AV.top,AV.top,AV.top,AV.top,AV.top,AV.top,AV.top,AV.top,AV.top,AV.top,AV.top,AV.top,AV.top,AV.top,AV.top,AV.top,AV.top,AV.top,AV.top,AV.top,AV.top,AV.top,AV.top,AV.top,AV.top,AV.top,AV.top,AV.top,AV.top,AV.top,AV.top,AV.top,AV.top,AV.top,AV.top,AV.top,AV.top,AV.top,AV.top,AV.top,AV.top,AV.top,AV.top,AV.top,AV.top,AV.top,AV.top,AV.top,AV.top,AV.top,AV.top,AV.top,AV.top,AV.top,AV.top,AV.top,AV.top,AV.top,AV.top,AV.top,AV.top,AV.top,AV.top,AV.top,AV.top,AV.top,AV.top,AV.top,AV.top,AV.top,AV.top,AV.top,AV.top,AV.top,AV.top,AV.top,AV.top,AV.top,AV.top,AV.top,AV.top,AV.top,AV.top,AV.top,AV.top,AV.top,AV.top,AV.top,AV.top,AV.top,AV.top,AV.top,AV.top,AV.top,AV.top,AV.top,AV.top,AV.top,AV.top,AV.top,AV.top,AV.top,AV.top,AV.top,AV.top,AV.top,AV.top,AV.top,AV.top,AV.top,AV.top,AV.top,AV.top,AV.top,AV.top,AV.top,AV.top,AV.top,AV.top,AV.top,AV.top,AV.top,AV.top]) ∧
 (P4w ks n pc (rm4 at_ n) (RFd.fl R (ops0.ext ks (ops0.adr 0 (rm4 at_ n) 32) 32) (rdB pc off len)))))) ∧
 ((PUn ks n (WFd.wr W ks (rm4 at_ n) (RFd.fl R (ops0.ext ks (ops0.adr 0 (rm4 at_ n) 32) 32) (rdB pc off len))) 0) ∧
 (Br (UF.hit U ks n (WFd.wr W ks (rm4 at_ n) (RFd.fl R (ops0.ext ks (ops0.adr 0 (rm4 at_ n) 32) 32) (rdB pc off len))) 0)
 ((PUn ks n (WFd.wr W ks (rm4 at_ n) (RFd.fl R (ops0.ext ks (ops0.adr 0 (rm4 at_ n) 32) 32) (rdB pc off len))) 0) ∧
 (Br (UF.hit U ks n (WFd.wr W ks (rm4 at_ n) (RFd.fl R (ops0.ext ks (ops0.adr 0 (rm4 at_ n) 32) 32) (rdB pc off len))) 0)
 (Br (ops0.cmp BinOp.eql (Int.ofNat (UF.ix U ks n (WFd.wr W ks (rm4 at_ n) (RFd.fl R (ops0.ext ks (ops0.adr 0 (rm4 at_ n) 32) 32) (rdB pc off len))) 0)) (Int.ofNat (UF.ix U ks n (WFd.wr W ks (rm4 at_ n) (RFd.fl R (ops0.ext ks (ops0.adr 0 (rm4 at_ n) 32) 32) (rdB pc off len))) 0)))
 (Chk (ops0.le (ops0.add 32 (ops0.mul (UF.ln U ks n (WFd.wr W ks (rm4 at_ n) (RFd.fl R (ops0.ext ks (ops0.adr 0 (rm4 at_ n) 32) 32) (rdB pc off len))) 0) 1)) (ops0.len (UF.bs U ks n (WFd.wr W ks (rm4 at_ n) (RFd.fl R (ops0.ext ks (ops0.adr 0 (rm4 at_ n) 32) 32) (rdB pc off len))) 0)))
 (∃ l2:(List UInt8),((((ops0.ext (UF.bs U ks n (WFd.wr W ks (rm4 at_ n) (RFd.fl R (ops0.ext ks (ops0.adr 0 (rm4 at_ n) 32) 32) (rdB pc off len))) 0) 32 (ops0.mul (UF.ln U ks n (WFd.wr W ks (rm4 at_ n) (RFd.fl R (ops0.ext ks (ops0.adr 0 (rm4 at_ n) 32) 32) (rdB pc off len))) 0) 1)):(List AV))=(List.map (fun b=>(AV.int IntKind.u8 (((UInt8.toNat b):Nat):Int))) l2)) ∧
 (Chk (ops0.le (ops0.add 32 (ops0.mul (UF.ln U ks n (WFd.wr W ks (rm4 at_ n) (RFd.fl R (ops0.ext ks (ops0.adr 0 (rm4 at_ n) 32) 32) (rdB pc off len))) 0) 1)) (ops0.len (UF.bs U ks n (WFd.wr W ks (rm4 at_ n) (RFd.fl R (ops0.ext ks (ops0.adr 0 (rm4 at_ n) 32) 32) (rdB pc off len))) 0)))
 (∃ l3:(List UInt8),((((ops0.ext (UF.bs U ks n (WFd.wr W ks (rm4 at_ n) (RFd.fl R (ops0.ext ks (ops0.adr 0 (rm4 at_ n) 32) 32) (rdB pc off len))) 0) 32 (ops0.mul (UF.ln U ks n (WFd.wr W ks (rm4 at_ n) (RFd.fl R (ops0.ext ks (ops0.adr 0 (rm4 at_ n) 32) 32) (rdB pc off len))) 0) 1)):(List AV))=(List.map (fun b=>(AV.int IntKind.u8 (((UInt8.toNat b):Nat):Int))) l3)) ∧
 (Br (ops0.eqs l2 l3)
 (Br (ops0.cmp BinOp.leq (Int.ofNat (UF.ix U ks n (WFd.wr W ks (rm4 at_ n) (RFd.fl R (ops0.ext ks (ops0.adr 0 (rm4 at_ n) 32) 32) (rdB pc off len))) 0)) (rm4 at_ n))
 (Br (ops0.cmp BinOp.lss (Int.ofNat (UF.ix U ks n (WFd.wr W ks (rm4 at_ n) (RFd.fl R (ops0.ext ks (ops0.adr 0 (rm4 at_ n) 32) 32) (rdB pc off len))) 0)) (rm4 at_ n))
 (Q (AV.bool Bool.true))
 (Chk (ops0.le (ops0.add 32 (ops0.mul (UF.ln U ks n (WFd.wr W ks (rm4 at_ n) (RFd.fl R (ops0.ext ks (ops0.adr 0 (rm4 at_ n) 32) 32) (rdB pc off len))) 0) 1)) (ops0.len (UF.bs U ks n (WFd.wr W ks (rm4 at_ n) (RFd.fl R (ops0.ext ks (ops0.adr 0 (rm4 at_ n) 32) 32) (rdB pc off len))) 0)))
 (∃ l4:(List UInt8),((((ops0.ext (UF.bs U ks n (WFd.wr W ks (rm4 at_ n) (RFd.fl R (ops0.ext ks (ops0.adr 0 (rm4 at_ n) 32) 32) (rdB pc off len))) 0) 32 (ops0.mul (UF.ln U ks n (WFd.wr W ks (rm4 at_ n) (RFd.fl R (ops0.ext ks (ops0.adr 0 (rm4 at_ n) 32) 32) (rdB pc off len))) 0) 1)):(List AV))=(List.map (fun b=>(AV.int IntKind.u8 (((UInt8.toNat b):Nat):Int))) l4)) ∧
 (Chk (ops0.le (ops0.add off (ops0.mul len 1)) (ops0.len pc))
 (∃ l5:(List UInt8),((((ops0.ext pc off (ops0.mul len 1)):(List AV))=(List.map (fun b=>(AV.int IntKind.u8 (((UInt8.toNat b):Nat):Int))) l5)) ∧
 (Br (ops0.eqs l4 l5)
 (Q (AV.bool Bool.true))
 (Q (AV.bool Bool.false))))))))))
 (Q (AV.bool Bool.false)))
 (Q (AV.bool Bool.false)))))))))
 (Q (AV.bool Bool.false)))
 (Br (ops0.cmp BinOp.eql (Int.ofNat (UF.ix U ks n (WFd.wr W ks (rm4 at_ n) (RFd.fl R (ops0.ext ks (ops0.adr 0 (rm4 at_ n) 32) 32) (rdB pc off len))) 0)) (Int.ofNat 0))
 (Chk (ops0.le (ops0.add 32 (ops0.mul (UF.ln U ks n (WFd.wr W ks (rm4 at_ n) (RFd.fl R (ops0.ext ks (ops0.adr 0 (rm4 at_ n) 32) 32) (rdB pc off len))) 0) 1)) (ops0.len (UF.bs U ks n (WFd.wr W ks (rm4 at_ n) (RFd.fl R (ops0.ext ks (ops0.adr 0 (rm4 at_ n) 32) 32) (rdB pc off len))) 0)))
 (∃ l2:(List UInt8),((((ops0.ext (UF.bs U ks n (WFd.wr W ks (rm4 at_ n) (RFd.fl R (ops0.ext ks (ops0.adr 0 (rm4 at_ n) 32) 32) (rdB pc off len))) 0) 32 (ops0.mul (UF.ln U ks n (WFd.wr W ks (rm4 at_ n) (RFd.fl R (ops0.ext ks (ops0.adr 0 (rm4 at_ n) 32) 32) (rdB pc off len))) 0) 1)):(List AV))=(List.map (fun b=>(AV.int IntKind.u8 (((UInt8.toNat b):Nat):Int))) l2)) ∧
 (∃ l3:(List UInt8),((([]:(List AV))=(List.map (fun b=>(AV.int IntKind.u8 (((UInt8.toNat b):Nat):Int))) l3)) ∧
 (Br (ops0.eqs l2 l3)
 (Q (AV.bool Bool.false))
 (Q (AV.bool Bool.false))))))))
 (Q (AV.bool Bool.false)))))
 ((PUn ks n (WFd.wr W ks (rm4 at_ n) (RFd.fl R (ops0.ext ks (ops0.adr 0 (rm4 at_ n) 32) 32) (rdB pc off len))) 0) ∧
 (Br (UF.hit U ks n (WFd.wr W ks (rm4 at_ n) (RFd.fl R (ops0.ext ks (ops0.adr 0 (rm4 at_ n) 32) 32) (rdB pc off len))) 0)
 (Br (ops0.cmp BinOp.eql (Int.ofNat 0) (Int.ofNat (UF.ix U ks n (WFd.wr W ks (rm4 at_ n) (RFd.fl R (ops0.ext ks (ops0.adr 0 (rm4 at_ n) 32) 32) (rdB pc off len))) 0)))
 (∃ l2:(List UInt8),((([]:(List AV))=(List.map (fun b=>(AV.int IntKind.u8 (((UInt8.toNat b):Nat):Int))) l2)) ∧
 (Chk (ops0.le (ops0.add 32 (ops0.mul (UF.ln U ks n (WFd.wr W ks (rm4 at_ n) (RFd.fl R (ops0.ext ks (ops0.adr 0 (rm4 at_ n) 32) 32) (rdB pc off len))) 0) 1)) (ops0.len (UF.bs U ks n (WFd.wr W ks (rm4 at_ n) (RFd.fl R (ops0.ext ks (ops0.adr 0 (rm4 at_ n) 32) 32) (rdB pc off len))) 0)))
 (∃ l3:(List UInt8),((((ops0.ext (UF.bs U ks n (WFd.wr W ks (rm4 at_ n) (RFd.fl R (ops0.ext ks (ops0.adr 0 (rm4 at_ n) 32) 32) (rdB pc off len))) 0) 32 (ops0.mul (UF.ln U ks n (WFd.wr W ks (rm4 at_ n) (RFd.fl R (ops0.ext ks (ops0.adr 0 (rm4 at_ n) 32) 32) (rdB pc off len))) 0) 1)):(List AV))=(List.map (fun b=>(AV.int IntKind.u8 (((UInt8.toNat b):Nat):Int))) l3)) ∧
 (Br (ops0.eqs l2 l3)
 (Q (AV.bool Bool.false))
 (Q (AV.bool Bool.false))))))))
 (Q (AV.bool Bool.false)))
 (∃ l2:(List UInt8),((([]:(List AV))=(List.map (fun b=>(AV.int IntKind.u8 (((UInt8.toNat b):Nat):Int))) l2)) ∧
 (∃ l3:(List UInt8),((([]:(List AV))=(List.map (fun b=>(AV.int IntKind.u8 (((UInt8.toNat b):Nat):Int))) l3)) ∧
 (Br (ops0.eqs l2 l3)
 (Q (AV.bool Bool.false))
 (Q (AV.bool Bool.false))))))))))))
 (Q (AV.bool Bool.false))))))))))
 (((0:Nat)=0) ∧
 (Chk (ops0.le 96 (ops0.len (RFd.fl R (ops0.ext ks (ops0.adr 0 (rm4 at_ n) 32) 32) (rdB pc off len))))
 (∃ l:(List UInt8),((((ops0.ext (RFd.fl R (ops0.ext ks (ops0.adr 0 (rm4 at_ n) 32) 32) (rdB pc off len)) 0 96):(List AV))=(List.map (fun b=>(AV.int IntKind.u8 (((UInt8.toNat b):Nat):Int))) l)) ∧
 (∃ l1:(List UInt8),((([]:(List AV))=(List.map (fun b=>(AV.int IntKind.u8 (((UInt8.toNat b):Nat):Int))) l1)) ∧
 (Br (ops0.eqs l l1)
 (Q (AV.bool Bool.false))
 (Q (AV.bool Bool.false)))))))))))))
 (Chk (ops0.inr (rm4 at_ n) n)
 (Chk (ops0.le (ops0.add (ops0.adr 0 (rm4 at_ n) 32) 32) (ops0.len ks))
 (((PKey (ops0.ext ks (ops0.adr 0 (rm4 at_ n) 32) 32)) ∧
 (PB pc off len)) ∧
 (Br (RFd.ok R (rdB pc off len))
 (((0:Nat)=0) ∧
 (∃ l:(List UInt8),((([]:(List AV))=(List.map (fun b=>(AV.int IntKind.u8 (((UInt8.toNat b):Nat):Int))) l)) ∧
 (Chk (ops0.le 96 (ops0.len (RFd.fl R (ops0.ext ks (ops0.adr 0 (rm4 at_ n) 32) 32) (rdB pc off len))))
 (∃ l1:(List UInt8),((((ops0.ext (RFd.fl R (ops0.ext ks (ops0.adr 0 (rm4 at_ n) 32) 32) (rdB pc off len)) 0 96):(List AV))=(List.map (fun b=>(AV.int IntKind.u8 (((UInt8.toNat b):Nat):Int))) l1)) ∧
 (Br (ops0.eqs l l1)
 (Q (AV.bool Bool.false))
 (Q (AV.bool Bool.false)))))))))
 (((0:Nat)=0) ∧
 (∃ l:(List UInt8),((([]:(List AV))=(List.map (fun b=>(AV.int IntKind.u8 (((UInt8.toNat b):Nat):Int))) l)) ∧
 (∃ l1:(List UInt8),((([]:(List AV))=(List.map (fun b=>(AV.int IntKind.u8 (((UInt8.toNat b):Nat):Int))) l1)) ∧
 (Br (ops0.eqs l l1)
 (Q (AV.bool Bool.true))
 (Q (AV.bool Bool.false)))))))))))))))))))):=by kernel_rfl
end
end Go.Proofs.Vm

namespace Go.Proofs.Vm
open Go.Vm
set_option maxRecDepth 100000
noncomputable section
def rfd0:RFd:=⟨okR,fun kk lb=>(flX (bytesA kk) lb).map by8⟩
theorem back_fl(H:Hl)(z:Int):backV [] H.length (.tup [.slc 0 0 96 96 1,.int .i64 z]) = .tup [.slc (size H) 0 96 96 1,.int .i64 z]:=by
 unfold backV
 simp[ren,renL,backN,size_eq]
theorem back_fl0(H:Hl)(z:Int):backV [] H.length (.tup [.nils,.int .i64 z]) = .tup [.nils,.int .i64 z]:=by
 unfold backV
 simp only[ren,renL]
theorem fail_look {f : Nat} (hv : ∀ {pc : List AV} {off len : Nat} {lb k : List UInt8}, k.length = 32 → PB pc off len → BytesAt pc off len lb → ∀ (cp : Nat) (ex : Bool),
      (okR lb=true→CallTo Tryd.prog f [.agg (k.map by8),.ros pc off len cp ex] [] (.tup [.slc 0 0 96 96 1,.int .i64 (Int.ofNat 0)]) [.cells ((flX k lb).map by8)] []) ∧
      (okR lb=false→CallTo Tryd.prog f [.agg (k.map by8),.ros pc off len cp ex] [] (.tup [.nils,.int .i64 (Int.ofNat 1)]) [] []))
    {H:Hl} {x:AV} {kk pc:List AV} {off len cp:Nat} {ex:Bool} (hx:vw1 H x = .ros pc off len cp ex) (hP:PKey kk∧PB pc off len) :
    CallTo Tryd.prog f [.agg kk,x] H (CRes.cond (rfd0.ok (rdB pc off len)) (.ok (.tup [.slc (size H) 0 96 96 1,.int .i64 (Int.ofNat 0)]) (join H [.cells (rfd0.fl kk (rdB pc off len))]) []) (.ok (.tup [.nils,.int .i64 (Int.ofNat 1)]) H [])).fin.1
      (CRes.cond (rfd0.ok (rdB pc off len)) (.ok (.tup [.slc (size H) 0 96 96 1,.int .i64 (Int.ofNat 0)]) (join H [.cells (rfd0.fl kk (rdB pc off len))]) []) (.ok (.tup [.nils,.int .i64 (Int.ofNat 1)]) H [])).fin.2.1
      (CRes.cond (rfd0.ok (rdB pc off len)) (.ok (.tup [.slc (size H) 0 96 96 1,.int .i64 (Int.ofNat 0)]) (join H [.cells (rfd0.fl kk (rdB pc off len))]) []) (.ok (.tup [.nils,.int .i64 (Int.ofNat 1)]) H [])).fin.2.2:=by
  obtain⟨⟨k,hk,rfl⟩,pb⟩:=hP
  have pb0:=pb
  obtain⟨pf,po,pl,lb,hb⟩:=pb
  obtain⟨h1,h2⟩:=hv hk pb0 hb cp ex
  rw[rdB_eq hb]
  have e1:rfd0.ok lb=okR lb:=rfl
  have e2:rfd0.fl (k.map by8) lb=(flX k lb).map by8:=by
    show(flX (bytesA _) lb).map by8=_
    rw[bytesA_by8]
  rw[e1,e2]
  have hV:=Vws.cons (vwA H k) (.cons (Vw.one hx pf) .nil)
  cases hok:okR lb with
  | true =>
    have h:=lookB (H:=H) (h1 hok) (flat_by8 _) hV
    rw[back_fl] at h
    exact h
  | false =>
    have h:=CallTo.lookV (H:=H) (h2 hok) hV
    rw[back_fl0] at h
    exact h
theorem cnW_ok:CnOK Tryd.prog (cnW rfd0 uf0 tr0 bz0 oz0 of1 hf0):=by
 refine cnOr_ok ?_ cnV_ok
 intro f vals H p x e hp
 dsimp only at e
 split at e
 ·split at e<;>cases e
  rename_i hx
  exact fail_look (fun h1 h2 h3 cp ex=>calld10 h1 h2 h3 cp ex) hx hp
 ·split at e<;>cases e
  rename_i hx
  exact fail_look (fun h1 h2 h3 cp ex=>calld11 h1 h2 h3 cp ex) hx hp
 ·cases e
def wrS(L:List (List UInt8))(K:Nat)(b:List UInt8):Nat→List UInt8
 | 0=>b
 | j+1=>bkL (L.getD (K - 1 - j) []) (wrS L K b j)
theorem wrS_len(L:List (List UInt8))(K:Nat)(b:List UInt8):∀ j,(wrS L K b j).length=b.length
 | 0=>rfl
 | j+1=>by
  show(bkL _ _).length=_
  rw[bk_len,wrS_len L K b j]
def wfd0:WFd:=⟨fun ks k bs=>(wrS (shA ks 0 (k.toNat+1)) k.toNat (bytesA bs) k.toNat).map by8⟩
theorem bk_twice(k b:List UInt8):bkL k (bkL k b)=b:=mask_twice k backW b
theorem bkI_wrS(L:List (List UInt8))(K:Nat)(b:List UInt8):∀ i,i≤K→bkI L (wrS L K b K) i=wrS L K b (K - i)
 | 0,_=>rfl
 | i+1,h=>by
  show bkL (L.getD i []) (bkI L (wrS L K b K) i)=_
  rw[bkI_wrS L K b i (by omega)]
  have e:K - i=(K - (i+1))+1:=by omega
  have e2:K - 1 - (K - (i+1))=i:=by omega
  rw[e]
  show bkL (L.getD i []) (bkL (L.getD (K - 1 - (K - (i+1))) []) (wrS L K b (K - (i+1))))=_
  rw[e2,bk_twice]
theorem trN_zero{s:List UInt8}{m:Nat}:∀ d,(∀ j,m≤j→j<m+d→s.getD j 0=0)→trN s (m+d)=trN s m
 | 0,_=>rfl
 | d+1,h=>by
  have e:m+(d+1)=(m+d)+1:=by omega
  rw[e,trN_succ,if_pos (h (m+d) (by omega) (by omega))]
  exact trN_zero d (fun j h1 h2=>h j h1 (by omega))
theorem trN_pad{lb:List UInt8}(h:okR lb=true):trN (padR lb) 64=lb.length:=by
 have h64:lb.length≤64:=by
  rcases Nat.lt_or_ge 64 lb.length with h1|h1
  ·rw[okR_long h1] at h;cases h
  ·exact h1
 have e:64=lb.length+(64 - lb.length):=by omega
 have hz:trN (padR lb) (lb.length+(64 - lb.length))=trN (padR lb) lb.length:=trN_zero _ (fun j h1 h2=>by
  unfold padR
  rw[List.getD_eq_getElem?_getD,List.getElem?_append_right h1,List.getElem?_replicate,if_pos (by omega)]
  rfl)
 rw[←e] at hz
 rw[hz]
 by_cases h0:lb.length=0
 ·rw[h0]; rfl
 ·rw[okR_last h64 h0] at h
  have hn:=of_decide_eq_true h
  have e3:lb.length=(lb.length - 1)+1:=by omega
  have hg:(padR lb).getD (lb.length - 1) 0=lb.getD (lb.length - 1) 0:=by
   unfold padR
   rw[List.getD_eq_getElem?_getD,List.getD_eq_getElem?_getD,List.getElem?_append_left (by omega)]
  rw[e3,trN_succ,hg,if_neg hn]
theorem sl_flM{k lb:List UInt8}(h:lb.length≤64):sl (flM k lb) 32 64=padR lb∧sl (flM k lb) 0 32=flT k (padR lb):=by
 have l1:=flT_len k (padR lb)
 have l2:=padR_len h
 unfold sl flM
 refine⟨?_,?_⟩
 ·rw[List.drop_append_of_le_length (by omega),List.drop_of_length_le (by omega),List.nil_append,List.take_of_length_le (by omega)]
 ·rw[List.drop_zero,List.take_append_of_le_length (by omega),List.take_of_length_le (by omega)]
theorem found{L:List (List UInt8)}{K n:Nat}{k lb:List UInt8}(hk:L.getD K []=k)(hK:K<n)(ok:okR lb=true)(h64:lb.length≤64) :
  fstH (hitI L (wrS L K (flX k lb) K)) 0 n≤K∧(fstH (hitI L (wrS L K (flX k lb) K)) 0 n=K→lenX (bkI L (wrS L K (flX k lb) K) (K+1))=lb.length∧sl (bkI L (wrS L K (flX k lb) K) (K+1)) 32 lb.length=lb):=by
 have e1:bkI L (wrS L K (flX k lb) K) (K+1)=flM k lb:=by
  show bkL (L.getD K []) (bkI L (wrS L K (flX k lb) K) K)=_
  rw[bkI_wrS L K _ K (Nat.le_refl _),Nat.sub_self,hk]
  exact bk_twice k (flM k lb)
 obtain⟨s1,s2⟩:=sl_flM (k:=k) h64
 have hit:hitI L (wrS L K (flX k lb) K) K=true:=by
  show hitX (L.getD K []) (bkI L _ (K+1))=true
  rw[e1,hk]
  unfold hitX
  rw[s1,s2]
  exact decide_eq_true rfl
 obtain⟨_,_,h3,_⟩:=fstH_spec (hitI L (wrS L K (flX k lb) K)) n 0
 refine⟨?_,fun _ => ?_⟩
 ·rcases Nat.lt_or_ge K (fstH (hitI L (wrS L K (flX k lb) K)) 0 n) with h|h
  ·have:=h3 K (Nat.zero_le _) h
   rw[hit] at this
   cases this
  ·exact h
 ·rw[e1]
  refine⟨?_,?_⟩
  ·unfold lenX
   rw[s1,trN_pad ok]
  ·have l1:=flT_len k (padR lb)
   unfold sl flM padR
   have l2:(flT k (lb++List.replicate (64 - lb.length) 0)).length=32:=flT_len _ _
   rw[List.drop_append_of_le_length (by omega),List.drop_of_length_le (by omega),List.nil_append,List.take_append_of_le_length (Nat.le_refl _),List.take_of_length_le (Nat.le_refl _)]
def fr4d(ks:List AV)(n c:Nat)(e:Bool)(pc:List AV)(off len cp:Nat)(ex:Bool)(k i:Int)(d:Nat):Fr := [.ros ks 0 n c e,.top,.ros pc off len cp ex,.top,.top,.top,.top,.int .i64 k,.slc d 0 96 96 1,.top,.top,.top,.int .i64 i,.top,.top,.top,.top,.top,.top,.top,.top,.top,.top,.top,.top,.top,.top,.top,.top,.top,.top,.top,.top,.top,.top,.top,.top,.top,.top,.top,.top,.top,.top,.top,.top,.top,.top,.top,.top,.top,.top,.top,.top,.top,.top,.top,.top,.top,.top,.top,.top,.top,.top,.top,.top,.top,.top,.top,.top,.top,.top,.top,.top,.top,.top,.top,.top,.top,.top,.top,.top,.top,.top,.top,.top,.top,.top,.top,.top,.top,.top,.top,.top,.top,.top,.top,.top,.top,.top,.top,.top,.top,.top,.top,.top,.top,.top,.top,.top,.top,.top,.top,.top,.top,.top,.top,.top,.top,.top,.top,.top,.top,.top,.top,.top,.top,.top,.top,.top,.top,.top,.top,.top,.top,.top,.top,.top]
section
variable {ks pc:List AV}{n:Nat}{L:List (List UInt8)}{b:List UInt8}
theorem fr4_ren{σ:Nat→Option Nat}{φ:Nat→Option (List AV)}{d:Nat}(hd:σ d=some 0)(hk:flatL ks)(hp:flatL pc)(n c:Nat)(e:Bool)(off len cp:Nat)(ex:Bool)(k i:Int) :
  forget mk4 (renL σ φ true (fr4d ks n c e pc off len cp ex k i d))=fr4 ks n c e pc off len cp ex k i:=by
 unfold fr4d fr4 mk4
 simp only[renL,ren,hd,forget,renL_flat hk,renL_flat hp]
theorem fr4_renx{σ:Nat→Option Nat}{φ:Nat→Option (List AV)}(hd:σ 0=some 0)(hk:flatL ks)(hp:flatL pc)(n c:Nat)(e:Bool)(off len cp:Nat)(ex:Bool)(k i:Int) :
  forget mk4x (renL σ φ true (fr4 ks n c e pc off len cp ex k i))=fr4x ks n c e pc off len cp ex k:=by
 unfold fr4 fr4x mk4x
 simp only[renL,ren,hd,forget,renL_flat hk,renL_flat hp]
theorem nSubI{i:Int}(h0 : -4294967296≤i)(h1:i<4294967296):ops0.bin .sub .i64 i (Int.ofNat 1)=i - 1:=by
 show IntKind.i64.wrap (i - Int.ofNat 1)=_
 rw[i64_wrap (by simp;omega) (by simp;omega)]
 rfl
def S4(ks pc:List AV)(n c:Nat)(e:Bool)(off len cp:Nat)(ex:Bool)(K:Nat)(L:List (List UInt8))(b:List UInt8)(j:Nat):Fr × Hl :=
 (fr4 ks n c e pc off len cp ex (Int.ofNat K) ((K:Int) - 1 - (j:Int)),[.cells ((wrS L K b j).map by8)])
theorem step4(hL:ShAt ks 0 n L)(hr:n*32≤ks.length)(hf:flatL ks)(hp:flatL pc)(hn:n<4294967296)(hb:b.length=96){K:Nat}(hK:K<n)(c:Nat)(e:Bool)(off len cp:Nat)(ex:Bool){j:Nat}(hj:j<K) :
  BodyTo Tryd.prog 0 lp4 (S4 ks pc n c e off len cp ex K L b j).1 (S4 ks pc n c e off len cp ex K L b j).2 .norm (S4 ks pc n c e off len cp ex K L b (j+1)).1 (S4 ks pc n c e off len cp ex K L b (j+1)).2:=by
 have hi:K - 1 - j<n:=by omega
 obtain⟨k,hk,ek⟩:=at_key hL hi
 obtain⟨k32,hk0⟩:=hL.2 (K - 1 - j) k hk
 have ei:(K:Int) - 1 - (j:Int)=Int.ofNat (K - 1 - j):=by simp only[Int.ofNat_eq_natCast]; omega
 have ei2:(K:Int) - 1 - ((j+1:Nat):Int)=(K:Int) - 1 - (j:Int) - 1:=by omega
 have hbl:(wrS L K b j).length=96:=by rw[wrS_len,hb]
 have hi32:(K - 1 - j+1)*32≤n*32:=Nat.mul_le_mul_right 32 hi
 have x0:ops0.ext ks (ops0.adr 0 (Int.ofNat (K - 1 - j)) 32) 32=k.map by8:=by rw[nAdr,nExt]; exact hk0
 have hm:HF.mask hf0 (k.map by8) [98,97,99,107] (wrS L K b j)=(wrS L K b (j+1)).map by8:=(hmask_eq _ _ _).trans (by
  show(bkL k (wrS L K b j)).map by8=(bkL (L.getD (K - 1 - j) []) (wrS L K b j)).map by8
  rw[ek])
 unfold S4
 rw[ei2]
 refine body_wx (Q:=fun ex' fr H=>ex' = .norm∧∃ X Y,fr=fr4d ks n c e pc off len cp ex (Int.ofNat K) ((K:Int) - 1 - (j:Int) - 1) 3∧H = [.cells ((wrS L K b j).map by8),.cells X,.cells Y,.cells ((wrS L K b (j+1)).map by8)]) (bs:=mk4) (n:=100) (g:=kdS) cnU_ok (noLn_ok _) tabL3_ok ?_ (Nat.zero_le _) fun ex' fr1 H1 _ hq => ?_
 ·have es:ops0.bin .sub .i64 ((K:Int) - 1 - (j:Int)) (Int.ofNat 1)=(K:Int) - 1 - (j:Int) - 1:=nSubI (by omega) (by omega)
  rw[vcl4,es,ei,x0,ext32' k32,ext32' k32,rdW hbl,hm]
  have ck:32≤ops0.len (k.map by8):=by rw[nLen,List.length_map]; omega
  exact Br.t (by rw[nGeq]; exact decide_eq_true (Nat.zero_le _)) (Chk.mk (by rw[nInr]; exact decide_eq_true hi) (ckle (by rw[nAdr,nPlus,nLen]; omega) (ckle ck (ckle ck ⟨⟨pkey k k32,pb_whole _ 96 (by omega) (by omega)⟩,rfl,_,_,rfl,rfl⟩))))
 ·obtain⟨rfl,X,Y,rfl,rfl⟩:=hq
  refine⟨rfl,?_⟩
  have h3:=Weak.pickV (n0:=0) (fr:=fr4d ks n c e pc off len cp ex (Int.ofNat K) ((K:Int) - 1 - (j:Int) - 1) 3) (H := [.cells ((wrS L K b j).map by8),.cells X,.cells Y,.cells ((wrS L K b (j+1)).map by8)]) [3] mk4 0 (by simp) (by simp) (by simp)
  rw[fr4_ren (d:=3) (show pickN [3] 3=some 0 from rfl) hf hp] at h3
  have e4:pickH (viewF [.cells ((wrS L K b j).map by8),.cells X,.cells Y,.cells ((wrS L K b (j+1)).map by8)] [3] 0) [3] [.cells ((wrS L K b j).map by8),.cells X,.cells Y,.cells ((wrS L K b (j+1)).map by8)] = [.cells ((wrS L K b (j+1)).map by8)]:=by
   show [renB _ _ true (.cells _)]=_
   simp only[renB,renL_flat (flat_by8 _)]
  rw[e4] at h3
  exact h3
theorem exit4(hf:flatL ks)(hp:flatL pc)(c:Nat)(e:Bool)(off len cp:Nat)(ex:Bool)(K:Nat) :
  BodyTo Tryd.prog 0 lp4 (S4 ks pc n c e off len cp ex K L b K).1 (S4 ks pc n c e off len cp ex K L b K).2 (.exit 0) (fr4x ks n c e pc off len cp ex (Int.ofNat K)) [.cells ((wrS L K b K).map by8)]:=by
 unfold S4
 have ei:(K:Int) - 1 - (K:Int) = -1:=by omega
 rw[ei]
 refine body_wx (Q:=fun ex' fr H=>ex' = .exit 0∧fr=fr4 ks n c e pc off len cp ex (Int.ofNat K) (-1)∧H = [.cells ((wrS L K b K).map by8)]) (bs:=mk4) (n:=100) (g:=kdS) cnU_ok (noLn_ok _) tabL3_ok ?_ (Nat.zero_le _) fun ex' fr1 H1 _ hq => ?_
 ·rw[vcl4]
  exact Br.f rfl ⟨rfl,rfl,rfl⟩
 ·obtain⟨rfl,rfl,rfl⟩:=hq
  refine⟨rfl,?_⟩
  have h3:=Weak.pickV (n0:=0) (fr:=fr4 ks n c e pc off len cp ex (Int.ofNat K) (-1)) (H := [.cells ((wrS L K b K).map by8)]) [0] mk4x 0 (by simp) (by simp) (by simp)
  rw[fr4_renx (show pickN [0] 0=some 0 from rfl) hf hp] at h3
  have e4:pickH (viewF [.cells ((wrS L K b K).map by8)] [0] 0) [0] [.cells ((wrS L K b K).map by8)] = [.cells ((wrS L K b K).map by8)]:=by
   show [renB _ _ true (.cells _)]=_
   simp only[renB,renL_flat (flat_by8 _)]
  rw[e4] at h3
  exact h3
end
theorem sha_less{ks:List AV}{n m:Nat}{L:List (List UInt8)}(hL:ShAt ks 0 n L)(h:m≤n):shA ks 0 m=L.take m:=by
 refine shA_eq ⟨by rw[List.length_take,hL.1]; omega,fun i x hx => ?_⟩
 rw[List.getElem?_take] at hx
 split at hx
 ·exact hL.2 i x hx
 ·cases hx
theorem wrS_take{L:List (List UInt8)}{K m:Nat}(h:K≤m)(b:List UInt8):∀ j,j≤K→wrS (L.take m) K b j=wrS L K b j
 | 0,_=>rfl
 | j+1,hj=>by
  show bkL ((L.take m).getD (K - 1 - j) []) (wrS (L.take m) K b j)=bkL (L.getD (K - 1 - j) []) (wrS L K b j)
  rw[wrS_take h b j (by omega),List.getD_eq_getElem?_getD,List.getD_eq_getElem?_getD,List.getElem?_take_of_lt (by omega)]
theorem wf_eq{ks:List AV}{n K:Nat}{L:List (List UInt8)}{b:List UInt8}(hL:ShAt ks 0 n L)(hK:K<n):wfd0.wr ks (Int.ofNat K) (b.map by8)=(wrS L K b K).map by8:=by
 show(wrS (shA ks 0 (K+1)) K (bytesA (b.map by8)) K).map by8=_
 rw[bytesA_by8,sha_less hL (by omega),wrS_take (by omega) b K (Nat.le_refl _)]
theorem ln4_ok:LnOK Tryd.prog (ln4 wfd0):=by
 intro n0 b0 fr H p x e hn0 hp lg
 unfold ln4 at e
 split at e<;>cases e
 rename_i ks n c e pc off len cp ex kz bs cs q1 q2 q3
 obtain⟨rfl,hb,hf,⟨kf,kr,kn,L,hL⟩,hn,pf,⟨K,rfl,hK⟩,b,hb96,rfl⟩:=hp
 have hb:b0=lp4:=hb
 subst hb
 have w1:Weak 0 fr [.cells (b.map by8),.cells cs] (fr4 ks n c e pc off len cp ex (Int.ofNat K) (ops0.bin .sub .i64 (Int.ofNat K) (Int.ofNat 1))) [.cells (b.map by8),.cells cs]:=by
  rw[←hf]
  exact Weak.forget (by simp) mk4
 have h3:=Weak.pickV (n0:=0) (fr:=fr4 ks n c e pc off len cp ex (Int.ofNat K) (ops0.bin .sub .i64 (Int.ofNat K) (Int.ofNat 1))) (H := [.cells (b.map by8),.cells cs]) [0] mk4 0 (by simp) (by simp) (by simp)
 have e3:forget mk4 (renL (pickN [0]) (viewF [.cells (b.map by8),.cells cs] [0] 0) true (fr4 ks n c e pc off len cp ex (Int.ofNat K) (ops0.bin .sub .i64 (Int.ofNat K) (Int.ofNat 1))))=fr4 ks n c e pc off len cp ex (Int.ofNat K) (ops0.bin .sub .i64 (Int.ofNat K) (Int.ofNat 1)):=fr4_ren (d:=0) (show pickN [0] 0=some 0 from rfl) kf pf n c e off len cp ex _ _
 have e4:pickH (viewF [.cells (b.map by8),.cells cs] [0] 0) [0] [.cells (b.map by8),.cells cs] = [.cells (b.map by8)]:=by
  show [renB _ _ true (.cells _)]=_
  simp only[renB,renL_flat (flat_by8 _)]
 rw[e3,e4] at h3
 refine LoopTo.pre (w1.trans h3) (fun lg => ?_) lg
 rw[wf_eq hL hK]
 have es:ops0.bin .sub .i64 (Int.ofNat K) (Int.ofNat 1)=(K:Int) - 1 - ((0:Nat):Int):=by
  rw[nSubI (by simp only[Int.ofNat_eq_natCast]; omega) (by simp only[Int.ofNat_eq_natCast]; omega)]
  simp
 rw[es]
 exact loop_chain (P:=Tryd.prog) (n0:=0) (b:=lp4) (ex := .exit 0) (by intro h;cases h) (fun j=>S4 ks pc n c e off len cp ex K L b j) K 0 (fun j _ hj=>step4 hL (by omega) kf pf hn hb96 hK c e off len cp ex (by omega)) (by rw[Nat.zero_add]; exact exit4 kf pf c e off len cp ex K) lg
theorem tabL4_ok:∀ f vf,tabL4 f=some vf→FnOK Tryd.prog f vf:=by
 intro f vf h
 unfold tabL4 at h
 split at h<;>cases h
 exact ok4
def mid4(R:RFd)(W:WFd)(U:UF)(ks pc:List AV)(off len cp:Nat)(ex:Bool)(n c:Nat)(e:Bool)(k:Int)(Q:AV→Prop):Prop :=
 (Chk (ops0.inr k n)
 (Chk (ops0.le (ops0.add (ops0.adr 0 k 32) 32) (ops0.len ks))
 (((PKey (ops0.ext ks (ops0.adr 0 k 32) 32)) ∧
 (PB pc off len)) ∧
 (Br (RFd.ok R (rdB pc off len))
 (Chk (ops0.inr k n)
 (Chk (ops0.le (ops0.add (ops0.adr 0 k 32) 32) (ops0.len ks))
 (((PKey (ops0.ext ks (ops0.adr 0 k 32) 32)) ∧
 (PB pc off len)) ∧
 (Br (RFd.ok R (rdB pc off len))
 (((0:Nat)=0) ∧
 (Chk (ops0.le 96 (ops0.len (RFd.fl R (ops0.ext ks (ops0.adr 0 k 32) 32) (rdB pc off len))))
 (∃ l:(List UInt8),((((ops0.ext (RFd.fl R (ops0.ext ks (ops0.adr 0 k 32) 32) (rdB pc off len)) 0 96):(List AV))=(List.map (fun b=>(AV.int IntKind.u8 (((UInt8.toNat b):Nat):Int))) l)) ∧
 (Chk (ops0.le 96 (ops0.len (RFd.fl R (ops0.ext ks (ops0.adr 0 k 32) 32) (rdB pc off len))))
 (∃ l1:(List UInt8),((((ops0.ext (RFd.fl R (ops0.ext ks (ops0.adr 0 k 32) 32) (rdB pc off len)) 0 96):(List AV))=(List.map (fun b=>(AV.int IntKind.u8 (((UInt8.toNat b):Nat):Int))) l1)) ∧
 (Br (ops0.eqs l l1)
 ((((0:Nat)=0) ∧
 ((VCis lp4 lp4) ∧
 ((([(AV.ros ks 0 n c e),AV.top,(AV.ros pc off len cp ex),AV.top,AV.top,AV.top,AV.top,(AV.int IntKind.i64 k),(AV.slc 0 0 96 96 1),AV.top,AV.top,AV.top,(AV.int IntKind.i64 (ops0.bin BinOp.sub IntKind.i64 k (Int.ofNat 1))),AV.top,AV.top,AV.top,AV.top,AV.top,AV.top,AV.top,AV.top,AV.top,AV.top,AV.top,AV.top,AV.top,AV.top,AV.top,AV.top,AV.top,AV.top,AV.top,AV.top,AV.top,AV.top,AV.top,AV.top,AV.top,AV.top,AV.top,AV.top,AV.top,AV.top,AV.top,AV.top,AV.top,AV.top,AV.top,AV.top,AV.top,AV.top,AV.top,AV.top,AV.top,AV.top,AV.top,AV.top,AV.top,AV.top,AV.top,AV.top,AV.top,AV.top,AV.top,AV.top,AV.top,AV.top,AV.top,AV.top,AV.top,AV.top,AV.top,AV.top,AV.top,AV.top,AV.top,AV.top,AV.top,AV.top,AV.top,AV.top,AV.top,AV.top,AV.top,AV.top,AV.top,AV.top,AV.top,AV.top,AV.top,AV.top,AV.top,AV.top,AV.top,AV.top,AV.top,AV.top,AV.top,AV.top,AV.top,AV.top,AV.top,AV.top,AV.top,AV.top,AV.top,AV.top,AV.top,AV.top,AV.top,AV.top,AV.top,AV.top,AV.top,AV.top,AV.top,AV.top,AV.top,AV.top,AV.top,AV.top,AV.top,AV.top,AV.top,AV.top,AV.top,AV.top,AV.top,AV.top,AV.top,AV.top,AV.top,AV.top,AV.top,AV.top,AV.top,AV.top]:Fr) = [(AV.ros ks 0 n c e),AV.top,(AV.ros pc off len cp ex),AV.top,AV.top,AV.top,AV.top,(AV.int IntKind.i64 k),(AV.slc 0 0 96 96 1),AV.top,AV.top,AV.top,(AV.int IntKind.i64 (ops0.bin BinOp.sub IntKind.i64 k (Int.ofNat 1))),AV.top,AV.top,AV.top,AV.top,AV.top,AV.top,AV.top,AV.top,AV.top,AV.top,AV.top,AV.top,AV.top,AV.top,AV.top,AV.top,AV.top,AV.top,AV.top,AV.top,AV.top,AV.top,AV.top,AV.top,AV.top,AV.top,AV.top,AV.top,AV.top,AV.top,AV.top,AV.top,AV.top,AV.top,AV.top,AV.top,AV.top,AV.top,AV.top,AV.top,AV.top,AV.top,AV.top,AV.top,AV.top,AV.top,AV.top,AV.top,AV.top,AV.top,AV.top,AV.top,AV.top,AV.top,AV.top,AV.top,AV.top,AV.top,AV.top,AV.top,AV.top,AV.top,AV.top,AV.top,AV.top,AV.top,AV.top,AV.top,AV.top,AV.top,AV.top,AV.top,AV.top,AV.top,AV.top,AV.top,AV.top,AV.top,AV.top,AV.top,AV.top,AV.top,AV.top,AV.top,AV.top,AV.top,AV.top,AV.top,AV.top,AV.top,AV.top,AV.top,AV.top,AV.top,AV.top,AV.top,AV.top,AV.top,AV.top,AV.top,AV.top,AV.top,AV.top,AV.top,AV.top,AV.top,AV.top,AV.top,AV.top,AV.top,AV.top,AV.top,AV.top,AV.top,AV.top,AV.top,AV.top,AV.top,AV.top,AV.top,AV.top,AV.top,AV.top,AV.top]) ∧
 (P4w ks n pc k (RFd.fl R (ops0.ext ks (ops0.adr 0 k 32) 32) (rdB pc off len)))))) ∧
 ((PUn ks n (WFd.wr W ks k (RFd.fl R (ops0.ext ks (ops0.adr 0 k 32) 32) (rdB pc off len))) 0) ∧
 (Br (UF.hit U ks n (WFd.wr W ks k (RFd.fl R (ops0.ext ks (ops0.adr 0 k 32) 32) (rdB pc off len))) 0)
 ((PUn ks n (WFd.wr W ks k (RFd.fl R (ops0.ext ks (ops0.adr 0 k 32) 32) (rdB pc off len))) 0) ∧
 (Br (UF.hit U ks n (WFd.wr W ks k (RFd.fl R (ops0.ext ks (ops0.adr 0 k 32) 32) (rdB pc off len))) 0)
 (Br (ops0.cmp BinOp.eql (Int.ofNat (UF.ix U ks n (WFd.wr W ks k (RFd.fl R (ops0.ext ks (ops0.adr 0 k 32) 32) (rdB pc off len))) 0)) (Int.ofNat (UF.ix U ks n (WFd.wr W ks k (RFd.fl R (ops0.ext ks (ops0.adr 0 k 32) 32) (rdB pc off len))) 0)))
 (Chk (ops0.le (ops0.add 32 (ops0.mul (UF.ln U ks n (WFd.wr W ks k (RFd.fl R (ops0.ext ks (ops0.adr 0 k 32) 32) (rdB pc off len))) 0) 1)) (ops0.len (UF.bs U ks n (WFd.wr W ks k (RFd.fl R (ops0.ext ks (ops0.adr 0 k 32) 32) (rdB pc off len))) 0)))
 (∃ l2:(List UInt8),((((ops0.ext (UF.bs U ks n (WFd.wr W ks k (RFd.fl R (ops0.ext ks (ops0.adr 0 k 32) 32) (rdB pc off len))) 0) 32 (ops0.mul (UF.ln U ks n (WFd.wr W ks k (RFd.fl R (ops0.ext ks (ops0.adr 0 k 32) 32) (rdB pc off len))) 0) 1)):(List AV))=(List.map (fun b=>(AV.int IntKind.u8 (((UInt8.toNat b):Nat):Int))) l2)) ∧
 (Chk (ops0.le (ops0.add 32 (ops0.mul (UF.ln U ks n (WFd.wr W ks k (RFd.fl R (ops0.ext ks (ops0.adr 0 k 32) 32) (rdB pc off len))) 0) 1)) (ops0.len (UF.bs U ks n (WFd.wr W ks k (RFd.fl R (ops0.ext ks (ops0.adr 0 k 32) 32) (rdB pc off len))) 0)))
 (∃ l3:(List UInt8),((((ops0.ext (UF.bs U ks n (WFd.wr W ks k (RFd.fl R (ops0.ext ks (ops0.adr 0 k 32) 32) (rdB pc off len))) 0) 32 (ops0.mul (UF.ln U ks n (WFd.wr W ks k (RFd.fl R (ops0.ext ks (ops0.adr 0 k 32) 32) (rdB pc off len))) 0) 1)):(List AV))=(List.map (fun b=>(AV.int IntKind.u8 (((UInt8.toNat b):Nat):Int))) l3)) ∧
 (Br (ops0.eqs l2 l3)
 (Br (ops0.cmp BinOp.leq (Int.ofNat (UF.ix U ks n (WFd.wr W ks k (RFd.fl R (ops0.ext ks (ops0.adr 0 k 32) 32) (rdB pc off len))) 0)) k)
 (Br (ops0.cmp BinOp.lss (Int.ofNat (UF.ix U ks n (WFd.wr W ks k (RFd.fl R (ops0.ext ks (ops0.adr 0 k 32) 32) (rdB pc off len))) 0)) k)
 (Q (AV.bool Bool.true))
 (Chk (ops0.le (ops0.add 32 (ops0.mul (UF.ln U ks n (WFd.wr W ks k (RFd.fl R (ops0.ext ks (ops0.adr 0 k 32) 32) (rdB pc off len))) 0) 1)) (ops0.len (UF.bs U ks n (WFd.wr W ks k (RFd.fl R (ops0.ext ks (ops0.adr 0 k 32) 32) (rdB pc off len))) 0)))
 (∃ l4:(List UInt8),((((ops0.ext (UF.bs U ks n (WFd.wr W ks k (RFd.fl R (ops0.ext ks (ops0.adr 0 k 32) 32) (rdB pc off len))) 0) 32 (ops0.mul (UF.ln U ks n (WFd.wr W ks k (RFd.fl R (ops0.ext ks (ops0.adr 0 k 32) 32) (rdB pc off len))) 0) 1)):(List AV))=(List.map (fun b=>(AV.int IntKind.u8 (((UInt8.toNat b):Nat):Int))) l4)) ∧
 (Chk (ops0.le (ops0.add off (ops0.mul len 1)) (ops0.len pc))
 (∃ l5:(List UInt8),((((ops0.ext pc off (ops0.mul len 1)):(List AV))=(List.map (fun b=>(AV.int IntKind.u8 (((UInt8.toNat b):Nat):Int))) l5)) ∧
 (Br (ops0.eqs l4 l5)
 (Q (AV.bool Bool.true))
 (Q (AV.bool Bool.false))))))))))
 (Q (AV.bool Bool.false)))
 (Q (AV.bool Bool.false)))))))))
 (Q (AV.bool Bool.false)))
 (Br (ops0.cmp BinOp.eql (Int.ofNat (UF.ix U ks n (WFd.wr W ks k (RFd.fl R (ops0.ext ks (ops0.adr 0 k 32) 32) (rdB pc off len))) 0)) (Int.ofNat 0))
 (Chk (ops0.le (ops0.add 32 (ops0.mul (UF.ln U ks n (WFd.wr W ks k (RFd.fl R (ops0.ext ks (ops0.adr 0 k 32) 32) (rdB pc off len))) 0) 1)) (ops0.len (UF.bs U ks n (WFd.wr W ks k (RFd.fl R (ops0.ext ks (ops0.adr 0 k 32) 32) (rdB pc off len))) 0)))
 (∃ l2:(List UInt8),((((ops0.ext (UF.bs U ks n (WFd.wr W ks k (RFd.fl R (ops0.ext ks (ops0.adr 0 k 32) 32) (rdB pc off len))) 0) 32 (ops0.mul (UF.ln U ks n (WFd.wr W ks k (RFd.fl R (ops0.ext ks (ops0.adr 0 k 32) 32) (rdB pc off len))) 0) 1)):(List AV))=(List.map (fun b=>(AV.int IntKind.u8 (((UInt8.toNat b):Nat):Int))) l2)) ∧
 (∃ l3:(List UInt8),((([]:(List AV))=(List.map (fun b=>(AV.int IntKind.u8 (((UInt8.toNat b):Nat):Int))) l3)) ∧
 (Br (ops0.eqs l2 l3)
 (Q (AV.bool Bool.false))
 (Q (AV.bool Bool.false))))))))
 (Q (AV.bool Bool.false)))))
 ((PUn ks n (WFd.wr W ks k (RFd.fl R (ops0.ext ks (ops0.adr 0 k 32) 32) (rdB pc off len))) 0) ∧
 (Br (UF.hit U ks n (WFd.wr W ks k (RFd.fl R (ops0.ext ks (ops0.adr 0 k 32) 32) (rdB pc off len))) 0)
 (Br (ops0.cmp BinOp.eql (Int.ofNat 0) (Int.ofNat (UF.ix U ks n (WFd.wr W ks k (RFd.fl R (ops0.ext ks (ops0.adr 0 k 32) 32) (rdB pc off len))) 0)))
 (∃ l2:(List UInt8),((([]:(List AV))=(List.map (fun b=>(AV.int IntKind.u8 (((UInt8.toNat b):Nat):Int))) l2)) ∧
 (Chk (ops0.le (ops0.add 32 (ops0.mul (UF.ln U ks n (WFd.wr W ks k (RFd.fl R (ops0.ext ks (ops0.adr 0 k 32) 32) (rdB pc off len))) 0) 1)) (ops0.len (UF.bs U ks n (WFd.wr W ks k (RFd.fl R (ops0.ext ks (ops0.adr 0 k 32) 32) (rdB pc off len))) 0)))
 (∃ l3:(List UInt8),((((ops0.ext (UF.bs U ks n (WFd.wr W ks k (RFd.fl R (ops0.ext ks (ops0.adr 0 k 32) 32) (rdB pc off len))) 0) 32 (ops0.mul (UF.ln U ks n (WFd.wr W ks k (RFd.fl R (ops0.ext ks (ops0.adr 0 k 32) 32) (rdB pc off len))) 0) 1)):(List AV))=(List.map (fun b=>(AV.int IntKind.u8 (((UInt8.toNat b):Nat):Int))) l3)) ∧
 (Br (ops0.eqs l2 l3)
 (Q (AV.bool Bool.false))
 (Q (AV.bool Bool.false))))))))
 (Q (AV.bool Bool.false)))
 (∃ l2:(List UInt8),((([]:(List AV))=(List.map (fun b=>(AV.int IntKind.u8 (((UInt8.toNat b):Nat):Int))) l2)) ∧
 (∃ l3:(List UInt8),((([]:(List AV))=(List.map (fun b=>(AV.int IntKind.u8 (((UInt8.toNat b):Nat):Int))) l3)) ∧
 (Br (ops0.eqs l2 l3)
 (Q (AV.bool Bool.false))
 (Q (AV.bool Bool.false))))))))))))
 (Q (AV.bool Bool.false))))))))))
 (((0:Nat)=0) ∧
 (Chk (ops0.le 96 (ops0.len (RFd.fl R (ops0.ext ks (ops0.adr 0 k 32) 32) (rdB pc off len))))
 (∃ l:(List UInt8),((((ops0.ext (RFd.fl R (ops0.ext ks (ops0.adr 0 k 32) 32) (rdB pc off len)) 0 96):(List AV))=(List.map (fun b=>(AV.int IntKind.u8 (((UInt8.toNat b):Nat):Int))) l)) ∧
 (∃ l1:(List UInt8),((([]:(List AV))=(List.map (fun b=>(AV.int IntKind.u8 (((UInt8.toNat b):Nat):Int))) l1)) ∧
 (Br (ops0.eqs l l1)
 (Q (AV.bool Bool.false))
 (Q (AV.bool Bool.false)))))))))))))
 (Chk (ops0.inr k n)
 (Chk (ops0.le (ops0.add (ops0.adr 0 k 32) 32) (ops0.len ks))
 (((PKey (ops0.ext ks (ops0.adr 0 k 32) 32)) ∧
 (PB pc off len)) ∧
 (Br (RFd.ok R (rdB pc off len))
 (((0:Nat)=0) ∧
 (∃ l:(List UInt8),((([]:(List AV))=(List.map (fun b=>(AV.int IntKind.u8 (((UInt8.toNat b):Nat):Int))) l)) ∧
 (Chk (ops0.le 96 (ops0.len (RFd.fl R (ops0.ext ks (ops0.adr 0 k 32) 32) (rdB pc off len))))
 (∃ l1:(List UInt8),((((ops0.ext (RFd.fl R (ops0.ext ks (ops0.adr 0 k 32) 32) (rdB pc off len)) 0 96):(List AV))=(List.map (fun b=>(AV.int IntKind.u8 (((UInt8.toNat b):Nat):Int))) l1)) ∧
 (Br (ops0.eqs l l1)
 (Q (AV.bool Bool.false))
 (Q (AV.bool Bool.false)))))))))
 (((0:Nat)=0) ∧
 (∃ l:(List UInt8),((([]:(List AV))=(List.map (fun b=>(AV.int IntKind.u8 (((UInt8.toNat b):Nat):Int))) l)) ∧
 (∃ l1:(List UInt8),((([]:(List AV))=(List.map (fun b=>(AV.int IntKind.u8 (((UInt8.toNat b):Nat):Int))) l1)) ∧
 (Br (ops0.eqs l l1)
 (Q (AV.bool Bool.true))
 (Q (AV.bool Bool.false))))))))))))))))
theorem rm4_lt{n:Nat}(hn:0<n)(a:Int) : -(n:Int)<rm4 a n∧rm4 a n<n:=by
 have h:(0:Int)<(n:Int):=by omega
 exact⟨Int.lt_tmod_of_pos a h,Int.tmod_lt_of_pos a h⟩
theorem mid4_ok{ks pc:List AV}{off len n:Nat}(c:Nat)(e:Bool)(cp:Nat)(ex:Bool)(hK0:PSh ks 0 n)(hn:n<4294967296)(pb:PB pc off len){k:Int}{K:Nat}(hk:k=Int.ofNat K)(hK:K<n) :
  mid4 rfd0 wfd0 uf0 ks pc off len cp ex n c e k (fun r=>r = .bool true):=by
 subst hk
 have hS:=hK0
 obtain⟨kf,kr,_,L,hL⟩:=hK0
 have pb0:=pb
 obtain⟨pf,po,pl,lb,hlb⟩:=pb
 obtain⟨k,hk,ek⟩:=at_key hL hK
 obtain⟨k32,hk0⟩:=hL.2 K k hk
 have hi32:(K+1)*32≤n*32:=Nat.mul_le_mul_right 32 hK
 have x0:ops0.ext ks (ops0.adr 0 (Int.ofNat K) 32) 32=k.map by8:=by rw[nAdr,nExt]; exact hk0
 have e1:rfd0.ok lb=okR lb:=rfl
 have e2:rfd0.fl (k.map by8) lb=(flX k lb).map by8:=by
  show(flX (bytesA _) lb).map by8=_
  rw[bytesA_by8]
 have hin:ops0.inr (Int.ofNat K) n=true:=by rw[nInr]; exact decide_eq_true hK
 have cs:ops0.add (ops0.adr 0 (Int.ofNat K) 32) 32≤ops0.len ks:=by rw[nAdr,nPlus,nLen]; omega
 unfold mid4
 rw[rdB_eq hlb,e1,x0,e2,wf_eq hL hK]
 cases hok:okR lb with
 | false =>
  exact Chk.mk hin (ckle cs ⟨⟨pkey k k32,pb0⟩,Chk.mk hin (ckle cs ⟨⟨pkey k k32,pb0⟩,rfl,nilExD (nilExD (eqsTD rfl))⟩)⟩)
 | true =>
  have h64:lb.length≤64:=by
   rcases Nat.lt_or_ge 64 lb.length with h1|h1
   ·rw[okR_long h1] at hok;cases hok
   ·exact h1
  have lX:=flX_len (k:=k) (lb:=lb) h64
  have lw:=wrS_len L K (flX k lb) K
  have hP:PUn ks n ((wrS L K (flX k lb) K).map by8) 0:=⟨hS,hn,pb_whole _ 96 (by omega) (by omega)⟩
  have hw:BytesAt ((wrS L K (flX k lb) K).map by8) 0 96 (wrS L K (flX k lb) K):=⟨by omega,by rw[List.drop_zero,List.take_of_length_le (by rw[List.length_map]; omega)]⟩
  obtain⟨u1,u2,u3,u4⟩:=uf_eqs (n:=n) hL hw
  obtain⟨g1,g2⟩:=found (L:=L) (K:=K) (n:=n) ek hK hok h64
  have hln:=lenX_le (bkI L (wrS L K (flX k lb) K) (fstH (hitI L (wrS L K (flX k lb) K)) 0 n+1))
  have hbl:=bkI_len L (wrS L K (flX k lb) K) (fstH (hitI L (wrS L K (flX k lb) K)) 0 n+1)
  have hit:uf0.hit ks n ((wrS L K (flX k lb) K).map by8) 0=true:=by rw[u1]; exact decide_eq_true (by omega)
  have cb:ops0.le (ops0.add 32 (ops0.mul (uf0.ln ks n ((wrS L K (flX k lb) K).map by8) 0) 1)) (ops0.len (uf0.bs ks n ((wrS L K (flX k lb) K).map by8) 0))=true:=by
   rw[u3,u4,nLe,nPlus,nTimes,nLen]
   exact decide_eq_true (by rw[List.length_map]; omega)
  have xb:ops0.ext (uf0.bs ks n ((wrS L K (flX k lb) K).map by8) 0) 32 (ops0.mul (uf0.ln ks n ((wrS L K (flX k lb) K).map by8) 0) 1)=(sl (bkI L (wrS L K (flX k lb) K) (fstH (hitI L (wrS L K (flX k lb) K)) 0 n+1)) 32 (uf0.ln ks n ((wrS L K (flX k lb) K).map by8) 0)).map by8:=by
   rw[u4,nTimes,Nat.mul_one,nExt]
   unfold sl
   rw[List.map_take,List.map_drop]
  have cx:96≤ops0.len ((flX k lb).map by8):=by rw[nLen,List.length_map]; omega
  have xx:ops0.ext ((flX k lb).map by8) 0 96=(flX k lb).map by8:=ext_all lX
  have x3:ops0.ext pc off (ops0.mul len 1)=lb.map by8:=ext_at hlb
  have hp4:P4w ks n pc (Int.ofNat K) ((flX k lb).map by8):=⟨hS,hn,pf,⟨K,rfl,hK⟩,flX k lb,lX,rfl⟩
  refine Chk.mk hin (ckle cs ⟨⟨pkey k k32,pb0⟩,Chk.mk hin (ckle cs ⟨⟨pkey k k32,pb0⟩,rfl,ckle cx (strEx' xx (ckle cx (strEx' xx (eqsTD ⟨⟨rfl,rfl,rfl,hp4⟩,hP,Br.t hit ⟨hP,Br.t hit (Br.t (by rw[nEql]; exact decide_eq_true rfl) (Chk.mk cb (strEx' xb (Chk.mk cb (strEx' xb (eqsTD (Br.t (by rw[u2,nLeq]; exact decide_eq_true g1) ?_)))))))⟩⟩))))⟩)⟩)
  rcases Nat.lt_or_ge (fstH (hitI L (wrS L K (flX k lb) K)) 0 n) K with h|h
  ·exact Br.t (by rw[u2,nLss]; exact decide_eq_true h) rfl
  ·have hE:fstH (hitI L (wrS L K (flX k lb) K)) 0 n=K:=by omega
   obtain⟨g3,g4⟩:=g2 hE
   refine Br.f (by rw[u2,nLss]; exact decide_eq_false (by omega)) (Chk.mk cb (strEx' xb (ckle (by rw[nPlus,nTimes,nLen]; omega) (strEx' x3 ?_))))
   have e9:sl (bkI L (wrS L K (flX k lb) K) (fstH (hitI L (wrS L K (flX k lb) K)) 0 n+1)) 32 (uf0.ln ks n ((wrS L K (flX k lb) K).map by8) 0)=lb:=by
    rw[u3,hE,g3,g4]
   rw[e9]
   exact eqsTD rfl
theorem law4{ks pc:List AV}{n off len:Nat}(c:Nat)(e:Bool)(cp:Nat)(ex:Bool)(a:Int)(hK:PSh ks 0 n)(hn:n≤1048576)(hb:PB pc off len) :
  ∃ H' lg,CallTo Tryd.prog 4 [.ros ks 0 n c e,.int .i64 a,.ros pc off len cp ex] [] (.bool true) H' lg:=by
 have hv:vcall (vcA kdS (cnW rfd0 uf0 tr0 bz0 oz0 of1 hf0) (ln4 wfd0)) ops0 tabL4 200 vf4 [.ros ks 0 n c e,.int .i64 a,.ros pc off len cp ex] [] (fun r _ _=>r = .bool true):=by
  rw[vc4]
  by_cases h0:n=0
  ·exact Br.t (by rw[nOfn,nEql]; exact decide_eq_true h0) ⟨rfl,rfl⟩
  ·obtain⟨r1,r2⟩:=rm4_lt (n:=n) (by omega) a
   refine Br.f (by rw[nOfn,nEql]; exact decide_eq_false h0) (Chk.mk (by
    show(!decide (Int.ofNat n=0))=true
    rw[decide_eq_false (by simp only[Int.ofNat_eq_natCast]; omega)]
    rfl) ?_)
   by_cases hneg:rm4 a n<0
   ·have er:ra4 a n=Int.ofNat (rm4 a n+n).toNat:=by
     unfold ra4
     show IntKind.i64.wrap (rm4 a n+(n:Int))=_
     rw[i64_wrap (by omega) (by omega),Int.ofNat_eq_natCast,Int.toNat_of_nonneg (by omega)]
    exact Br.t (decide_eq_true hneg) (mid4_ok c e cp ex hK (by omega) hb er (by omega))
   ·have er:rm4 a n=Int.ofNat (rm4 a n).toNat:=by rw[Int.ofNat_eq_natCast,Int.toNat_of_nonneg (by omega)]
    exact Br.f (decide_eq_false hneg) (mid4_ok c e cp ex hK (by omega) hb er (by omega))
 obtain⟨r,H',lg,hc,rfl⟩:=call_vcx cnW_ok ln4_ok tabL4_ok (show tabL4 4=some vf4 from rfl) hv
 exact⟨H',lg,hc⟩
end
end Go.Proofs.Vm

namespace Go.Proofs.Vm
set_option maxRecDepth 100000
open Go.Vm Go.ChangeShapes Go.WideShapes Go.ChangeAt Go.RowKit
theorem Tryd.own:ownKnob Tryd.prog.godebug=none:=by kernel_rfl
theorem Tryd.laidOut:laidOutB Tryd.prog=true:=by kernel_rfl
theorem trodAll_below{H:Type}{enc:TypeId × Value→H}{P:Program}(hl:laidOutB P=true){W W':World}(hb:Below W.heap.size W W'):∀ {ts:List TypeId} {vs:List Value} {ds:List (DataW H)} {ps:List MemPlace},
  (∀ t∈ts,P.readableRec t=true∧t<P.types.size)→DataW.TrodAll enc P W 0 (fun _=>true) true ts vs ds ps→(∀ x∈ps,x.block<W.heap.size)→DataW.TrodAll enc P W' 0 (fun b=>decide (b<W.heap.size)) true ts vs ds ps
 | [],vs,ds,ps,_,h,_=>by
  obtain⟨rfl,rfl,rfl⟩:=trodAll_nil h
  exact trodAll_mk0
 | t::ts,vs,ds,ps,ht,h,hlt=>by
  obtain⟨v,vs1,d,ds1,a,b,rfl,rfl,rfl,h1,h2⟩:=trodAll_cons h
  refine trodAll_cons_mk (Below.trod hl (ht t (by simp)).1 (ht t (by simp)).2 h1 hb (fun x hx=>hlt x (by simp[hx]))) (trodAll_below hl hb (fun t h=>ht t (by simp[h])) h2 (fun x hx=>hlt x (by simp[hx])))
theorem law_step{H:Type}{enc:TypeId × Value→H}{f:Func}{s:ChangeSpec}{n:Nat}{W:World}{args:Array Value}{ds gs:List (DataW H)}{before:List MemPlace}(hres:f.resultTypes.toList = [4])
  (hts:∀ t∈f.params.toList,Tryd.prog.readableRec t=true∧t<Tryd.prog.types.size) (hvars:s.vars = []) (hW:DataW.Whole enc Tryd.prog f.params.toList s.vars false W args.toList ds gs before)
  (hfn:s.fn H (ds ++ []) = { results := [.lit (.bool true)],args:=ds }) (hcall:Calls Tryd.prog n args W fun e W'=>e = .returned (.bool true)∧Below W.heap.size W W') :
  Calls Tryd.prog n args W fun e W'=>∃ v,e = .returned v∧s.post enc Tryd.prog f false true false false W args v W':=by
 have hW':=hW
 obtain⟨p,q,hA,hV,rfl,hfz,hnd⟩:=hW
 rw[hvars] at hV
 obtain⟨rfl,rfl⟩:=trodVars_none hV
 have hlt:∀ x∈p,x.block<W.heap.size:=fun x hx=>by
  have:=hW'.lt x (by simp[hx])
  simpa using this
 refine hcall.mono fun e W' ⟨he,hb⟩ => ?_
 subst he
 have h2:f.resultTypes.size=1:=by rw[←Array.length_toList,hres]; rfl
 refine⟨_,rfl,ds,[],p ++ [],[],p,[],hW',?_,?_,?_,hb.frame _,fun h=>by cases h⟩
 ·rw[hfn,hres,h2]
  exact trodAll_cons_mk (shut_bool Tryd.underlying4 _) trodAll_mk0
 ·rw[hfn]
  exact trodAll_below Tryd.laidOut hb hts hA hlt
 ·rw[hfn,hvars]
  exact rfl
theorem enter_law{n:Nat}{vals:List AV}{H':Hl}{lg:List Nat}(hc:CallTo Tryd.prog n vals [] (.bool true) H' lg){w:World}{us:List Value}(hv:VRels noRho w vals us) :
  Calls Tryd.prog n us.toArray w fun e w'=>e = .returned (.bool true)∧Below w.heap.size w w' :=
 (hc.enter hv).mono fun e w' ⟨v,ρ',he,h2,h3⟩=>by
  have:=inv_bool h2
  subst this
  exact⟨he,h3⟩
end Go.Proofs.Vm

namespace Go.Proofs.Vm
set_option maxRecDepth 100000
open Go.Vm Go.ChangeShapes Go.WideShapes Go.ChangeAt Go.RowKit
theorem bulk_one{H:Type}(d:DataW H):1 ≤ YtfmhlogapbpnbaaDoor.Rows.uptoBulk d:=by
 cases d with
 | lit l=>cases l<;>simp[YtfmhlogapbpnbaaDoor.Rows.uptoBulk]
 | nil=>simp[YtfmhlogapbpnbaaDoor.Rows.uptoBulk]
 | ptr d=>simp[YtfmhlogapbpnbaaDoor.Rows.uptoBulk]
 | slice elems spare=>simp[YtfmhlogapbpnbaaDoor.Rows.uptoBulk]
 | agg parts=>simp[YtfmhlogapbpnbaaDoor.Rows.uptoBulk]
 | iface t d=>simp[YtfmhlogapbpnbaaDoor.Rows.uptoBulk]
 | map entries=>simp[YtfmhlogapbpnbaaDoor.Rows.uptoBulk]
 | held h=>simp[YtfmhlogapbpnbaaDoor.Rows.uptoBulk]
theorem bulk_part{H:Type}{d:DataW H}{l:List (DataW H)}(h:d∈l) : YtfmhlogapbpnbaaDoor.Rows.uptoBulk d ≤ YtfmhlogapbpnbaaDoor.Rows.uptoBulkAll l:=by
 induction l with
 | nil=>cases h
 | cons x r ih =>
  simp only[YtfmhlogapbpnbaaDoor.Rows.uptoBulkAll]
  cases List.mem_cons.1 h with
  | inl e=>subst e;omega
  | inr e=>have:=ih e;omega
theorem bulk_length{H:Type}(l:List (DataW H)):l.length ≤ YtfmhlogapbpnbaaDoor.Rows.uptoBulkAll l:=by
 induction l with
 | nil=>simp[YtfmhlogapbpnbaaDoor.Rows.uptoBulkAll]
 | cons x r ih=>have:=bulk_one x;simp only[YtfmhlogapbpnbaaDoor.Rows.uptoBulkAll,List.length_cons]; omega
theorem bulk_slice{H:Type}(elems spare:List (DataW H)):elems.length ≤ YtfmhlogapbpnbaaDoor.Rows.uptoBulk (.slice elems spare):=by
 have h1:=bulk_length elems
 simp only[YtfmhlogapbpnbaaDoor.Rows.uptoBulk]
 omega
theorem by8_int{n:Int}(h:(Lit.int .u8 n).wf=true):by8 (UInt8.ofNat n.toNat) = .int .u8 n:=by
 have hx:0≤n∧n≤255:=by simpa[Lit.wf,IntKind.min,IntKind.max,IntKind.signed,IntKind.bits] using h
 unfold by8
 congr 1
 rw[UInt8.toNat_ofNat_of_lt' (by show _<256;omega)]
 simp only[Int.ofNat_eq_natCast]
 omega
set_option maxRecDepth 100000
theorem open_bytes{H:Type}{enc:TypeId × Value→H}{W:World}{base:Nat}{t e:TypeId}{v:Value}{d:DataW H}{p:List MemPlace}(ht:Tryd.prog.underlying t=some (.slice e))(he:Tryd.prog.underlying e=some (.int .u8))(hc:Tryd.prog.cellsOf e=1)
  (hval:Value.okWide Tryd.prog W .any base t v) (h:DataW.Trod enc Tryd.prog W 0 (fun _=>true) true t v d p) :
  ∃ (pc:List AV) (off len cap:Nat) (ex:Bool) (lb:List UInt8),VRel noRho W (.ros pc off len cap ex) v∧flatL pc∧off+len≤pc.length∧BytesAt pc off len lb∧len ≤ YtfmhlogapbpnbaaDoor.Rows.uptoBulk d∧len≤cap:=by
 obtain⟨a0,len,cap,rfl⟩:=okWide_slice ht hval
 obtain⟨fuel,hf⟩:=h
 rcases open_ints ht he hc hf with ⟨hcs,hx⟩|⟨a,len',cap',zs,hcs,_,hl,hm,hz,hx,hcell,hwz⟩
 ·simp[Value.cells] at hcs
  obtain⟨rfl,rfl,rfl⟩:=hcs
  exact⟨[],0,0,0,true,[],.ros [] 0 0 0 true 0 0 none 0 [] (fun h=>absurd rfl h) (fun h=>absurd rfl h) rfl (by simp) (by simp) (by simp) (Nat.le_refl _) (Nat.le_refl _) (fun _=>rfl) (fun h=>absurd rfl h),fun a ha=>(by cases ha),by simp,⟨rfl,rfl⟩,Nat.zero_le _,Nat.le_refl _⟩
 ·simp[Value.cells] at hcs
  obtain⟨rfl,rfl,rfl⟩:=hcs
  simp only[if_true] at hz
  simp only[Prod.mk.injEq] at hx
  obtain⟨rfl,_⟩:=hx
  have hspot:zs ≠ []→a=⟨a.block,a.off,none⟩:=by
   intro hn
   have h0:0<zs.length:=List.length_pos_iff.2 hn
   have:=hcell 0 h0
   simp only[Addr.add,if_true,World.cell?] at this
   obtain⟨b,o,s⟩:=a
   cases s with
   | none=>rfl
   | some k =>
    exfalso
    split at this<;>simp at this
  have hlt:zs ≠ []→a.block<W.heap.size:=by
   intro hn
   have h0:0<zs.length:=List.length_pos_iff.2 hn
   have:=hcell 0 h0
   simp only[Addr.add,if_true,World.cell?] at this
   rcases Nat.lt_or_ge a.block W.heap.size with h'|h'
   ·exact h'
   ·simp[Array.getElem?_eq_none h'] at this
  refine⟨zs.map (AV.int .u8),0,len,zs.length,true,(zs.take len).map fun n=>UInt8.ofNat n.toNat,?_,?_,?_,⟨by simp;omega,?_⟩,?_,by omega⟩
  ·subst hz
   refine .ros (zs.map (AV.int .u8)) 0 len zs.length true a.block a.off (some a) zs.length (zs.map (Value.int .u8)) (fun hn=>hlt (by intro e;subst e;exact hn rfl)) (fun _ b F' h=>by cases h) (by simp) ?_ ?_ ?_ (Nat.le_refl _) hl (fun _=>rfl) ?_
   ·intro v hv
    obtain⟨n,_,rfl⟩:=List.mem_map.1 hv
    rfl
   ·intro i v hv
    have hi:i<zs.length:=by
     have:=(List.getElem?_eq_some_iff.1 hv).1
     simpa using this
    have hne:zs ≠ []:=by intro e;subst e;simp at hi
    have:=hcell i hi
    rw[hspot hne] at this
    have e2:(Addr.add ⟨a.block,a.off,none⟩ i)=⟨a.block,a.off+i,none⟩:=by
     unfold Addr.add
     by_cases h0:i=0
     ·subst h0;simp
     ·rw[if_neg h0]
    rw[e2] at this
    rw[this]
    rw[List.getElem?_map,List.getElem?_eq_getElem hi] at hv
    have e3:zs.getD i 0=zs[i]:=by simp[hi]
    rw[e3]
    exact hv
   ·intro i a v ha hv
    rw[List.getElem?_map] at ha hv
    obtain⟨n,hn,rfl⟩:=Option.map_eq_some_iff.1 ha
    rw[hn] at hv
    cases hv
    exact .int _ _
   ·intro hn
    have hne:zs ≠ []:=by intro e;subst e;exact hn rfl
    exact congrArg some (hspot hne)
  ·intro a ha
   obtain⟨n,_,rfl⟩:=List.mem_map.1 ha
   rfl
  ·simp;omega
  ·rw[List.drop_zero,←List.map_take,List.map_map]
   apply List.map_congr_left
   intro n hn
   exact(by8_int (hwz n (List.mem_of_mem_take hn))).symm
  ·refine Nat.le_trans ?_ (bulk_slice _ _)
   simp[lits]
   omega
end Go.Proofs.Vm

namespace Go.Proofs.Vm
set_option maxRecDepth 100000
open Go.Vm Go.ChangeShapes Go.WideShapes Go.ChangeAt Go.RowKit
set_option maxRecDepth 100000
theorem spot_of{W:World}{a:Addr}{v:Value}(h:W.cell? a=some v):a=⟨a.block,a.off,none⟩∧a.block<W.heap.size:=by
 obtain⟨b,o,s⟩:=a
 simp only[World.cell?] at h
 constructor
 ·cases s with
  | none=>rfl
  | some k =>
   exfalso
   split at h<;>simp at h
 ·show b<W.heap.size
  rcases Nat.lt_or_ge b W.heap.size with h'|h'
  ·exact h'
  ·simp[Array.getElem?_eq_none h'] at h
theorem add_none{b o i:Nat}:(Addr.add ⟨b,o,none⟩ i)=⟨b,o+i,none⟩:=by
 unfold Addr.add
 by_cases h0:i=0
 ·subst h0;simp
 ·rw[if_neg h0]
end Go.Proofs.Vm

namespace Go.Proofs.Vm
set_option maxRecDepth 100000
open Go.Vm
noncomputable section
end
end Go.Proofs.Vm

namespace Go.Proofs.Vm
set_option maxRecDepth 100000
open Go.Vm Go.ChangeShapes Go.WideShapes Go.ChangeAt Go.RowKit
set_option maxRecDepth 100000
theorem open_row{W:World}{a:Addr}{n m:Nat}{avs:List AV}{vs:List Value}(ha:avs.length=m)(hv:vs.length=m)(hone:∀ v∈vs,vone v=true)
  (hrel:∀ (i:Nat) x v,avs[i]? = some x→vs[i]? = some v→VRel noRho W x v) (hcell:∀ (i:Nat) v,vs[i]? = some v→W.cell? (a.add i)=some v) {cap:Nat} (hcap:n≤cap) (hs:a.spot=none) :
  VRel noRho W (.ros avs 0 n n false) (.slice (some a) n cap):=by
 have hspot:avs ≠ []→a=⟨a.block,a.off,none⟩∧a.block<W.heap.size:=by
  intro hn
  have h0:0<vs.length:=by
   rw[hv,←ha]
   exact List.length_pos_iff.2 hn
  have h1:=hcell 0 vs[0] (List.getElem?_eq_getElem h0)
  have e0:a.add 0=a:=by simp[Addr.add]
  rw[e0] at h1
  exact spot_of h1
 refine .ros avs 0 n n false a.block a.off (some a) cap vs (fun hn=>(hspot hn).2) (fun _ b F' h=>by cases h) (by omega) hone ?_ hrel (by omega) (by omega) (fun h=>by cases h) (fun _=>by obtain⟨b,o,s⟩:=a;cases hs;rfl)
 intro i v hi
 have hlt:i<vs.length:=(List.getElem?_eq_some_iff.1 hi).1
 have hne:avs ≠ []:=by intro e;rw[e] at ha;simp at ha;omega
 have h1:=hcell i v hi
 rw[(hspot hne).1,add_none] at h1
 exact h1
theorem pick_row{α:Type}{n:Nat}{R:Nat→α→Prop}(h:∀ i,i<n→∃ x,R i x):∃ l:List α,l.length=n∧∀ (i:Nat) x,l[i]? = some x→R i x:=by
 induction n with
 | zero=>exact⟨[],rfl,fun i x hx=>by cases hx⟩
 | succ n ih =>
  obtain⟨l,h1,h2⟩:=ih fun i hi=>h i (by omega)
  obtain⟨x,hx⟩:=h n (by omega)
  refine⟨l ++ [x],by simp[h1],fun i y hy => ?_⟩
  rcases Nat.lt_or_ge i n with hi|hi
  ·rw[List.getElem?_append_left (by omega)] at hy
   exact h2 i y hy
  ·have hlt:i<(l ++ [x]).length:=(List.getElem?_eq_some_iff.1 hy).1
   have hin:i=n:=by simp[h1] at hlt;omega
   subst hin
   rw[List.getElem?_append_right (by omega),h1,Nat.sub_self] at hy
   cases hy
   exact hx
theorem flat_get{L:List (List UInt8)}(h:∀ x,x∈L→x.length=32){j:Nat}{b:UInt8}(hj:L.flatten[j]? = some b):∃ x,L[j / 32]? = some x∧x[j % 32]? = some b:=by
 have hlt:j<L.flatten.length:=(List.getElem?_eq_some_iff.1 hj).1
 have hi:j / 32<L.length:=by rw[flat_len h] at hlt;omega
 have hx:=List.getElem?_eq_getElem hi
 refine⟨L[j / 32],hx,?_⟩
 have hd:=sh_drop [] L (j / 32) L[j / 32] h hx
 rw[List.append_nil] at hd
 have e1:((L.flatten.map by8).drop (j / 32*32)).take 32=((L.flatten.drop (j / 32*32)).take 32).map by8:=by rw[List.map_take,List.map_drop]
 rw[e1] at hd
 have hd2:(L.flatten.drop (j / 32*32)).take 32=L[j / 32]:=by
  have:=congrArg bytesA hd
  rwa [bytesA_by8,bytesA_by8] at this
 rw[←hd2,List.getElem?_take,if_pos (by omega),List.getElem?_drop,show j / 32*32+j % 32=j by omega]
 exact hj
end Go.Proofs.Vm

namespace Go.Proofs.Vm
set_option maxRecDepth 100000
open Go.Vm Go.ChangeShapes Go.WideShapes Go.ChangeAt Go.RowKit
set_option maxRecDepth 100000
def v8(b:UInt8):Value := .int .u8 (Int.ofNat b.toNat)
section
variable {H:Type}{enc:TypeId × Value→H}{W:World}{base:Nat}{n:Nat}{cs:List Value}{y:DataW H × List MemPlace}
end
theorem open_keys{H:Type}{enc:TypeId × Value→H}{W:World}{base:Nat}{t e u:TypeId}{v:Value}{d:DataW H}{p:List MemPlace}(ht:Tryd.prog.underlying t=some (.slice e))(he:Tryd.prog.underlying e=some (.array 32 u))
  (hu:Tryd.prog.underlying u=some (.int .u8)) (hc:Tryd.prog.cellsOf e=32) (hcu:Tryd.prog.cellsOf u=1) (hval:Value.okWide Tryd.prog W .any base t v) (h:DataW.Trod enc Tryd.prog W 0 (fun _=>true) true t v d p)
  (hb : YtfmhlogapbpnbaaDoor.Rows.uptoBulk d≤1048576):∃ (cs:List AV) (n c:Nat) (ex:Bool),VRel noRho W (.ros cs 0 n c ex) v∧PSh cs 0 n∧n≤1048576∧cs.length=n*32:=by
 obtain⟨a0,len,cap,rfl⟩:=okWide_slice ht hval
 obtain⟨fuel,hf⟩:=h
 rcases DataW.trod_slice ht hf with ⟨hcs,hx⟩|⟨a,len',cap',elems,rest,n,_,hcs,hx,_,hl,hm,hlen,hel,hsp,hns⟩
 ·simp[Value.cells] at hcs
  obtain⟨rfl,rfl,rfl⟩:=hcs
  exact⟨[],0,0,true,.ros [] 0 0 0 true 0 0 none 0 [] (fun h=>absurd rfl h) (fun h=>absurd rfl h) rfl (by simp) (by simp) (by simp) (Nat.le_refl _) (Nat.le_refl _) (fun _=>rfl) (fun h=>absurd rfl h),
   psh_flat (L := []) (fun x hx=>by cases hx) (by decide) rfl,by omega,rfl⟩
 ·simp[Value.cells] at hcs
  obtain⟨rfl,rfl,rfl⟩:=hcs
  simp only[Prod.mk.injEq] at hx
  obtain⟨rfl,_⟩:=hx
  have hbl:=Nat.le_trans (bulk_slice (elems.map (·.1)) (rest.map (·.1))) hb
  rw[List.length_map,hlen] at hbl
  have hspot:a.spot=none:=by
   simp only[Value.okWide,ht,Cell.okWide,Cell.ok] at hval
   exact hval.2.2.2.1
  have each:∀ i,i<len→∃ x:List UInt8,x.length=32∧∀ (k:Nat) b,x[k]? = some b→W.cell? (a.add (i*32+k))=some (.int .u8 (Int.ofNat b.toNat)):=by
   intro i hi
   have h1:=hel i hi
   rw[hc,List.getElem?_eq_getElem (by omega),Option.bind_eq_some_iff] at h1
   obtain⟨cs',hcs',hy⟩:=h1
   obtain⟨xs,m,_,_,hl1,hl2,hk⟩:=DataW.trod_array he hy
   obtain⟨_,hlc,hcell⟩:=World.cells?_some hcs'
   have cell:∀ k,k<32→∃ b:UInt8,cs'[k]? = some (.int .u8 (Int.ofNat b.toNat)):=by
    intro k hk32
    have h2:=hk k hk32
    rw[hcu,Nat.mul_one,List.getElem?_eq_getElem (by omega)] at h2
    obtain⟨z,hz,_,hw⟩:=DataW.trod_int hu h2
    have hzz:cs'[k]? = some (.int .u8 z):=by
     have:=congrArg (fun l=>l[0]?) hz
     simpa using this
    have hx:0≤z∧z≤255:=by simpa[Lit.wf,IntKind.min,IntKind.max,IntKind.signed,IntKind.bits] using hw
    refine⟨UInt8.ofNat z.toNat,?_⟩
    rw[hzz,UInt8.toNat_ofNat_of_lt' (by show _<256;omega)]
    congr 2
    simp only[Int.ofNat_eq_natCast]
    omega
   obtain⟨x,hx1,hx2⟩:=pick_row cell
   refine⟨x,hx1,fun k b hkb => ?_⟩
   have hk32:k<32:=by
    have:=(List.getElem?_eq_some_iff.1 hkb).1
    omega
   have h3:=hcell k hk32
   rw[hx2 k b hkb] at h3
   have e2:(a.add (i*32)).add k=a.add (i*32+k):=by
    obtain⟨b,o,s⟩:=a
    cases hspot
    rw[add_none,add_none,add_none,Nat.add_assoc]
   rw[e2] at h3
   exact h3
  obtain⟨L,hL1,hL2⟩:=pick_row each
  have h32:∀ x,x∈L→x.length=32:=by
   intro x hx
   obtain⟨i,hi⟩:=List.getElem?_of_mem hx
   exact(hL2 i x hi).1
  refine⟨L.flatten.map by8,len,len,false,open_row (m:=L.flatten.length) (vs:=L.flatten.map fun b=>Value.int .u8 (Int.ofNat b.toNat)) (by rw[List.length_map]) (by rw[List.length_map]) ?_ ?_ ?_ hl hspot,psh_flat h32 (by omega) hL1.symm,hbl,by rw[List.length_map,flat_len h32,hL1]⟩
  ·intro x hx;obtain⟨b,_,rfl⟩:=List.mem_map.1 hx;rfl
  ·intro i x v hx hv
   rw[List.getElem?_map] at hx hv
   obtain⟨b,hb,rfl⟩:=Option.map_eq_some_iff.1 hx
   rw[hb] at hv
   cases hv
   exact .int _ _
  ·intro j v hv
   rw[List.getElem?_map] at hv
   obtain⟨b,hb,rfl⟩:=Option.map_eq_some_iff.1 hv
   obtain⟨x,hx1,hx2⟩:=flat_get h32 hb
   have h4:=(hL2 (j / 32) x hx1).2 (j % 32) b hx2
   rw[show j / 32*32+j % 32=j by omega] at h4
   exact h4
end Go.Proofs.Vm

namespace Go.Proofs.Vm
def headCh:List Char := [.ofNat 104,.ofNat 97,.ofNat 114,.ofNat 110,.ofNat 101,.ofNat 115,.ofNat 115,.ofNat 32,.ofNat 48,.ofNat 54,.ofNat 50,.ofNat 53,.ofNat 48,.ofNat 53,.ofNat 57,.ofNat 53,.ofNat 56,.ofNat 57,.ofNat 55,.ofNat 99,.ofNat 99,.ofNat 49,.ofNat 99,.ofNat 49,.ofNat 51,.ofNat 98,.ofNat 52,.ofNat 99,.ofNat 48,.ofNat 49,.ofNat 101,.ofNat 50,.ofNat 101,.ofNat 56,.ofNat 55,.ofNat 55,.ofNat 100,.ofNat 97,.ofNat 102,.ofNat 100,.ofNat 56,.ofNat 52,.ofNat 57,.ofNat 100,.ofNat 52,.ofNat 51,.ofNat 56,.ofNat 51,.ofNat 102,.ofNat 57,.ofNat 55,.ofNat 52,.ofNat 48,.ofNat 102,.ofNat 57,.ofNat 50,.ofNat 57,.ofNat 54,.ofNat 57,.ofNat 57,.ofNat 100,.ofNat 50,.ofNat 52,.ofNat 56,.ofNat 50,.ofNat 98,.ofNat 53,.ofNat 54,.ofNat 50,.ofNat 53,.ofNat 55,.ofNat 50,.ofNat 32,.ofNat 99,.ofNat 117,.ofNat 116,.ofNat 32,.ofNat 97,.ofNat 116,.ofNat 32,.ofNat 116,.ofNat 111,.ofNat 108,.ofNat 108,.ofNat 104,.ofNat 111,.ofNat 117,.ofNat 115,.ofNat 101,.ofNat 47,.ofNat 116,.ofNat 111,.ofNat 108,.ofNat 108,.ofNat 104,.ofNat 111,.ofNat 117,.ofNat 115,.ofNat 101,.ofNat 108,.ofNat 97,.ofNat 119,.ofNat 48,.ofNat 55,.ofNat 46,.ofNat 79,.ofNat 110,.ofNat 105,.ofNat 111,.ofNat 110,.ofNat 66,.ofNat 97,.ofNat 99,.ofNat 107,.ofNat 115,.ofNat 32,.ofNat 116,.ofNat 111,.ofNat 108,.ofNat 108,.ofNat 104,.ofNat 111,.ofNat 117,.ofNat 115,.ofNat 101,.ofNat 47,.ofNat 116,.ofNat 111,.ofNat 108,.ofNat 108,.ofNat 104,.ofNat 111,.ofNat 117,.ofNat 115,.ofNat 101,.ofNat 108,.ofNat 97,.ofNat 119,.ofNat 48,.ofNat 55,.ofNat 46,.ofNat 79,.ofNat 110,.ofNat 105,.ofNat 111,.ofNat 110,.ofNat 70,.ofNat 97,.ofNat 105,.ofNat 108,.ofNat 115]
theorem head_lit:Tryd.prog.initOrder=String.ofList headCh:=by kernel_rfl
theorem head_list:Tryd.prog.initOrder.toList=headCh:=by rw[head_lit]; exact String.toList_ofList
theorem head_behind:∃ rest,behindMainWord (wordsSigns Tryd.prog.initOrder.toList) = "cut".toList::rest :=
 ⟨(behindMainWord (wordsSigns headCh)).tail,by rw[head_list]; kernel_rfl⟩
theorem strip_cut(rest:List (List Char)):stripLifts liftWords ("cut".toList::rest)=([], "cut".toList::rest):=by kernel_rfl
theorem make_of{P:Program}{rest:List (List Char)}(h:behindMainWord (wordsSigns P.initOrder.toList) = "cut".toList::rest):P.make=some .cut:=by
 unfold Program.make
 rw[h]
 have e1:("cut".toList == "gc".toList || "cut".toList == "spec".toList)=false:=by kernel_rfl
 have e2:("cut".toList == "cut".toList)=true:=by kernel_rfl
 simp only[e1,e2,Bool.true_or,if_true]
 rfl
theorem mayEnter_of{P:Program}{rest:List (List Char)}(h:behindMainWord (wordsSigns P.initOrder.toList) = "cut".toList::rest)(h1:P.laysLater=false)(h2:P.bearsReflect=false)(h3:P.doorFits []=true):P.mayEnter=true:=by
 unfold Program.mayEnter
 rw[h]
 simp only[strip_cut,h1,h2,h3]
 have e2:(List.head? ("cut".toList::rest) == some "cut".toList)=true:=by kernel_rfl
 simp only[e2]
 simp
theorem liftsFinal_of{P:Program}{rest:List (List Char)}(h:behindMainWord (wordsSigns P.initOrder.toList) = "cut".toList::rest):P.liftsFinal=false:=by
 unfold Program.liftsFinal Program.headLifts
 rw[h]
 simp only[strip_cut]
 have e2:(List.head? ("cut".toList::rest) == some "cut".toList)=true:=by kernel_rfl
 have e3:(List.head? ("cut".toList::rest) == some "carried".toList)=false:=by kernel_rfl
 simp only[e2,e3]
 simp
theorem f_laysLater:Tryd.prog.laysLater=false:=by kernel_rfl
theorem f_bearsReflect:Tryd.prog.bearsReflect=false:=by kernel_rfl
theorem f_doorFits:Tryd.prog.doorFits []=true:=by kernel_rfl
theorem f_mayEnter:Tryd.prog.mayEnter=true:=head_behind.elim fun _ h=>mayEnter_of h f_laysLater f_bearsReflect f_doorFits
theorem f_liftsFinal:Tryd.prog.liftsFinal=false:=head_behind.elim fun _ h=>liftsFinal_of h
theorem f_make:Tryd.prog.make=some .cut:=head_behind.elim fun _ h=>make_of h
theorem lifted_of{P:Program}{b:Bool}(h:P.liftsFinal=false)(hb:b=false):(b == P.liftsFinal)=true:=by rw[h,hb]; rfl
theorem made_of{P:Program}{m:Make}(h:P.make=some .cut)(hm:m = .cut):(P.make == some m)=true:=by rw[h,hm]; rfl
end Go.Proofs.Vm
