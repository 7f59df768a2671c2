/-
  KECCAK, PART 26: laws of layer 3: rounds; a round of zeros; one byte so many times.
-/
import Derived.Test.YtfmhlogapbpnbaaYc
import Derived.Test.YtfmhlogapbpnbaaVmKU3
import Derived.Test.YtfmhlogapbpnbaaYd
import Derived.Test.YtfmhlogapbpnbaaYa

namespace Go.Proofs.Vm
open Go.Vm
noncomputable section
def lp5 : VC := (.seq (.seq (.reg .false [] [⟨(.some 16), .none, .mov, [(.t 7)]⟩, ⟨(.some 17), .none, .mov, [(.t 5)]⟩, ⟨(.some 18), .none, (.cmp .lss), [(.t 16), (.t 17)]⟩]) (.cond (.t 18) .skip (.exit 0))) (.seq (.block 1 (.reg .false [] [⟨(.some 21), .none, .mov, [(.t 6)]⟩, ⟨(.some 22), .none, .mov, [(.t 7)]⟩, ⟨(.some 23), .none, .mov, [(.t 1)]⟩, ⟨(.some 24), .none, (.ixS 1), [(.t 21), (.t 22)]⟩, ⟨.none, .none, .st1, [(.t 24), (.t 23)]⟩])) (.reg .false [] [⟨(.some 19), .none, .mov, [(.t 7)]⟩, ⟨(.some 20), .none, (.bin .add .i64), [(.t 19), (.c (.int .i64 (.ofNat 1)))]⟩, ⟨(.some 7), .none, .mov, [(.t 20)]⟩])))
def fr5 (n : Int) (b : Nat) (k i : Int) : Fr := [.int .i64 n, .int .u8 (Int.ofNat b), .top, .top, .bool false, .int .i64 k, .slc 0 0 (ops0.nat k) (ops0.nat k) 1, .int .i64 i, .top, .top, .top, .top, .top, .top, .top, .top, .top, .top, .top, .top, .top, .top, .top, .top, .top, .top, .top, .top, .top, .top, .top, .top, .top, .top, .top, .top, .top, .top, .top, .top, .top, .top, .top, .top]
def mk5 : List Bool := [false, false, true, true, false, false, false, false, true, true, true, true, true, true, true, true, true, true, true, true, true, true, true, true, true, true, true, true, true, true, true, true, true, true, true, true, true, true, true, true, true, true, true, true]
def P5 (ms : List AV) (k : Int) (b : Nat) : Prop := ∃ m : Nat, k = Int.ofNat m ∧ ms.length = m ∧ m < 137438953472 ∧ b < 256
def ln5 (F : Int → Nat → List AV) : LnF := fun n0 b fr H => match slot fr 0, slot fr 1, slot fr 5, H with
  | .int .i64 n, .int .u8 (.ofNat y), .int .i64 k, [.cells ms] => some (n0 = 0 ∧ VCis b lp5 ∧ forget mk5 fr = fr5 n y k (Int.ofNat 0) ∧ P5 ms k y, .ok (.exit 0) (fr5 n y k k) [.cells (F k y)])
  | _, _, _, _ => none
def lp8 : VC := (.seq (.seq (.reg .false [] [⟨(.some 8), .none, .mov, [(.t 6)]⟩, ⟨(.some 9), .none, (.cmp .lss), [(.t 8), (.c (.int .i64 (.ofNat 24)))]⟩]) (.cond (.t 9) .skip (.exit 0))) (.seq (.block 1 (.reg .false [] [⟨(.some 12), .none, (.ldn 25), [(.t 5)]⟩, ⟨(.some 13), .none, .mov, [(.t 6)]⟩, ⟨(.some 14), .none, (.call 34), [(.t 12), (.t 13)]⟩, ⟨.none, .none, (.stn 25), [(.t 5), (.t 14)]⟩])) (.reg .false [] [⟨(.some 10), .none, .mov, [(.t 6)]⟩, ⟨(.some 11), .none, (.bin .add .i64), [(.t 10), (.c (.int .i64 (.ofNat 1)))]⟩, ⟨(.some 6), .none, .mov, [(.t 11)]⟩])))
def fr8 (n i : Int) : Fr := [.top, .int .i64 n, .ptr 0 0, .top, .bool false, .ptr 1 0, .int .i64 i, .top, .top, .top, .top, .top, .top, .top, .top, .top, .top, .top, .top, .top, .top, .top, .top, .top, .top, .top, .top, .top, .top, .top, .top, .top, .top, .top, .top, .top, .top, .top]
def mk8 : List Bool := [true, false, false, true, false, false, false, true, true, true, true, true, true, true, true, true, true, true, true, true, true, true, true, true, true, true, true, true, true, true, true, true, true, true, true, true, true, true]
def ln8 (F : List AV → List AV) : LnF := fun n0 b fr H => match slot fr 1, H with
  | .int .i64 n, [.cells cs, .cells xs] => some (n0 = 0 ∧ VCis b lp8 ∧ forget mk8 fr = fr8 n (Int.ofNat 0) ∧ PW xs, .ok (.exit 0) (fr8 n (Int.ofNat 24)) [.cells cs, .cells (F xs)])
  | _, _ => none

theorem vcl5 (ms : List AV) (n k i : Int) (b : Nat) (Q : Ex → Fr → Hl → Prop) :
  (vm (vcA kdYes noCn noLn) ops0 noTab 100 0 lp5 (fr5 n b k i) [.cells ms] [] (bodyX mk5 Q)) =
 ((Br (ops0.cmp BinOp.lss i k)
 (Chk (ops0.inr i (ops0.nat k))
 (Chk (ops0.lt (ops0.adr 0 i 1) (ops0.len ms))
 (Q Ex.norm [(AV.int IntKind.i64 n), (AV.int IntKind.u8 (Int.ofNat b)), AV.top, AV.top, (AV.bool Bool.false), (AV.int IntKind.i64 k), (AV.slc 0 0 (ops0.nat k) (ops0.nat k) 1), (AV.int IntKind.i64 (ops0.bin BinOp.add IntKind.i64 i (Int.ofNat 1))), AV.top, AV.top, AV.top, AV.top, AV.top, AV.top, AV.top, AV.top, AV.top, AV.top, AV.top, AV.top, AV.top, AV.top, AV.top, AV.top, AV.top, AV.top, AV.top, AV.top, AV.top, AV.top, AV.top, AV.top, AV.top, AV.top, AV.top, AV.top, AV.top, AV.top, AV.top, AV.top, AV.top, AV.top, AV.top, AV.top] [(Blk.cells (ops0.set ms (ops0.adr 0 i 1) (AV.int IntKind.u8 (Int.ofNat b))))])))
 (Q (Ex.exit 0) [(AV.int IntKind.i64 n), (AV.int IntKind.u8 (Int.ofNat b)), AV.top, AV.top, (AV.bool Bool.false), (AV.int IntKind.i64 k), (AV.slc 0 0 (ops0.nat k) (ops0.nat k) 1), (AV.int IntKind.i64 i), AV.top, AV.top, AV.top, AV.top, AV.top, AV.top, AV.top, AV.top, AV.top, AV.top, AV.top, AV.top, AV.top, AV.top, AV.top, AV.top, AV.top, AV.top, AV.top, AV.top, AV.top, AV.top, AV.top, AV.top, AV.top, AV.top, AV.top, AV.top, AV.top, AV.top, AV.top, AV.top, AV.top, AV.top, AV.top, AV.top] [(Blk.cells ms)]))) := by kernel_rfl

theorem vc5 (S : AF) (F : Int → Nat → List AV) (n : Int) (b : Nat) (Q : AV → Hl → List Nat → Prop) :
  (vcall (vcA kdYes (cnB S) (ln5 F)) ops0 (tabOne 5 vf5) 100 vf5 [.int .i64 n, .int .u8 (Int.ofNat b)] [] Q) =
 ((Br (ops0.cmp BinOp.lss (ops0.bin BinOp.rem IntKind.i64 n (Int.ofNat 400)) (Int.ofNat 0))
 (Chk (ops0.mkr (ops0.bin BinOp.sub IntKind.i64 (Int.ofNat 0) (ops0.bin BinOp.rem IntKind.i64 n (Int.ofNat 400))) (ops0.bin BinOp.sub IntKind.i64 (Int.ofNat 0) (ops0.bin BinOp.rem IntKind.i64 n (Int.ofNat 400))) 1)
 ((((0 : Nat) = 0) ∧
 ((VCis lp5 lp5) ∧
 ((([(AV.int IntKind.i64 n), (AV.int IntKind.u8 (Int.ofNat b)), AV.top, AV.top, (AV.bool Bool.false), (AV.int IntKind.i64 (ops0.bin BinOp.sub IntKind.i64 (Int.ofNat 0) (ops0.bin BinOp.rem IntKind.i64 n (Int.ofNat 400)))), (AV.slc 0 0 (ops0.nat (ops0.bin BinOp.sub IntKind.i64 (Int.ofNat 0) (ops0.bin BinOp.rem IntKind.i64 n (Int.ofNat 400)))) (ops0.nat (ops0.bin BinOp.sub IntKind.i64 (Int.ofNat 0) (ops0.bin BinOp.rem IntKind.i64 n (Int.ofNat 400)))) 1), (AV.int IntKind.i64 (Int.ofNat 0)), AV.top, AV.top, AV.top, AV.top, AV.top, AV.top, AV.top, AV.top, AV.top, AV.top, AV.top, AV.top, AV.top, AV.top, AV.top, AV.top, AV.top, AV.top, AV.top, AV.top, AV.top, AV.top, AV.top, AV.top, AV.top, AV.top, AV.top, AV.top, AV.top, AV.top, AV.top, AV.top, AV.top, AV.top, AV.top, AV.top] : Fr) = [(AV.int IntKind.i64 n), (AV.int IntKind.u8 (Int.ofNat b)), AV.top, AV.top, (AV.bool Bool.false), (AV.int IntKind.i64 (ops0.bin BinOp.sub IntKind.i64 (Int.ofNat 0) (ops0.bin BinOp.rem IntKind.i64 n (Int.ofNat 400)))), (AV.slc 0 0 (ops0.nat (ops0.bin BinOp.sub IntKind.i64 (Int.ofNat 0) (ops0.bin BinOp.rem IntKind.i64 n (Int.ofNat 400)))) (ops0.nat (ops0.bin BinOp.sub IntKind.i64 (Int.ofNat 0) (ops0.bin BinOp.rem IntKind.i64 n (Int.ofNat 400)))) 1), (AV.int IntKind.i64 (Int.ofNat 0)), AV.top, AV.top, AV.top, AV.top, AV.top, AV.top, AV.top, AV.top, AV.top, AV.top, AV.top, AV.top, AV.top, AV.top, AV.top, AV.top, AV.top, AV.top, AV.top, AV.top, AV.top, AV.top, AV.top, AV.top, AV.top, AV.top, AV.top, AV.top, AV.top, AV.top, AV.top, AV.top, AV.top, AV.top, AV.top, AV.top]) ∧
 (P5 (ops0.rep (ops0.nat (ops0.bin BinOp.sub IntKind.i64 (Int.ofNat 0) (ops0.bin BinOp.rem IntKind.i64 n (Int.ofNat 400)))) [(AV.int IntKind.u8 (Int.ofNat 0))]) (ops0.bin BinOp.sub IntKind.i64 (Int.ofNat 0) (ops0.bin BinOp.rem IntKind.i64 n (Int.ofNat 400))) b)))) ∧
 (True ∧
 ((PPs [(AV.ros (F (ops0.bin BinOp.sub IntKind.i64 (Int.ofNat 0) (ops0.bin BinOp.rem IntKind.i64 n (Int.ofNat 400))) b) 0 (ops0.nat (ops0.bin BinOp.sub IntKind.i64 (Int.ofNat 0) (ops0.bin BinOp.rem IntKind.i64 n (Int.ofNat 400)))) (ops0.nat (ops0.bin BinOp.sub IntKind.i64 (Int.ofNat 0) (ops0.bin BinOp.rem IntKind.i64 n (Int.ofNat 400)))) Bool.false)] 0 1) ∧
 ((PB (F (ops0.bin BinOp.sub IntKind.i64 (Int.ofNat 0) (ops0.bin BinOp.rem IntKind.i64 n (Int.ofNat 400))) b) 0 (ops0.nat (ops0.bin BinOp.sub IntKind.i64 (Int.ofNat 0) (ops0.bin BinOp.rem IntKind.i64 n (Int.ofNat 400))))) ∧
 (Chk (ops0.eq (ops0.len (KF.sum (AF.toKF S) (rdP [(AV.ros (F (ops0.bin BinOp.sub IntKind.i64 (Int.ofNat 0) (ops0.bin BinOp.rem IntKind.i64 n (Int.ofNat 400))) b) 0 (ops0.nat (ops0.bin BinOp.sub IntKind.i64 (Int.ofNat 0) (ops0.bin BinOp.rem IntKind.i64 n (Int.ofNat 400)))) (ops0.nat (ops0.bin BinOp.sub IntKind.i64 (Int.ofNat 0) (ops0.bin BinOp.rem IntKind.i64 n (Int.ofNat 400)))) Bool.false)] 0 1))) 32)
 (Chk (ops0.eq (ops0.len (KF.sum (AF.toKF S) (rdB (F (ops0.bin BinOp.sub IntKind.i64 (Int.ofNat 0) (ops0.bin BinOp.rem IntKind.i64 n (Int.ofNat 400))) b) 0 (ops0.nat (ops0.bin BinOp.sub IntKind.i64 (Int.ofNat 0) (ops0.bin BinOp.rem IntKind.i64 n (Int.ofNat 400))))))) 32)
 (Chk (ops0.le 32 (ops0.len (KF.sum (AF.toKF S) (rdP [(AV.ros (F (ops0.bin BinOp.sub IntKind.i64 (Int.ofNat 0) (ops0.bin BinOp.rem IntKind.i64 n (Int.ofNat 400))) b) 0 (ops0.nat (ops0.bin BinOp.sub IntKind.i64 (Int.ofNat 0) (ops0.bin BinOp.rem IntKind.i64 n (Int.ofNat 400)))) (ops0.nat (ops0.bin BinOp.sub IntKind.i64 (Int.ofNat 0) (ops0.bin BinOp.rem IntKind.i64 n (Int.ofNat 400)))) Bool.false)] 0 1))))
 (Chk (ops0.le 32 (ops0.len (KF.sum (AF.toKF S) (rdB (F (ops0.bin BinOp.sub IntKind.i64 (Int.ofNat 0) (ops0.bin BinOp.rem IntKind.i64 n (Int.ofNat 400))) b) 0 (ops0.nat (ops0.bin BinOp.sub IntKind.i64 (Int.ofNat 0) (ops0.bin BinOp.rem IntKind.i64 n (Int.ofNat 400))))))))
 (∃ l : (List Int), ((((ops0.ext (KF.sum (AF.toKF S) (rdP [(AV.ros (F (ops0.bin BinOp.sub IntKind.i64 (Int.ofNat 0) (ops0.bin BinOp.rem IntKind.i64 n (Int.ofNat 400))) b) 0 (ops0.nat (ops0.bin BinOp.sub IntKind.i64 (Int.ofNat 0) (ops0.bin BinOp.rem IntKind.i64 n (Int.ofNat 400)))) (ops0.nat (ops0.bin BinOp.sub IntKind.i64 (Int.ofNat 0) (ops0.bin BinOp.rem IntKind.i64 n (Int.ofNat 400)))) Bool.false)] 0 1)) 0 32) : (List AV)) = (List.map (AV.int IntKind.u8) l)) ∧
 (∃ l1 : (List Int), ((((ops0.ext (KF.sum (AF.toKF S) (rdB (F (ops0.bin BinOp.sub IntKind.i64 (Int.ofNat 0) (ops0.bin BinOp.rem IntKind.i64 n (Int.ofNat 400))) b) 0 (ops0.nat (ops0.bin BinOp.sub IntKind.i64 (Int.ofNat 0) (ops0.bin BinOp.rem IntKind.i64 n (Int.ofNat 400)))))) 0 32) : (List AV)) = (List.map (AV.int IntKind.u8) l1)) ∧
 (Br (ops0.eqi l l1)
 ((PPs [(AV.ros (F (ops0.bin BinOp.sub IntKind.i64 (Int.ofNat 0) (ops0.bin BinOp.rem IntKind.i64 n (Int.ofNat 400))) b) 0 (ops0.nat (ops0.bin BinOp.sub IntKind.i64 (Int.ofNat 0) (ops0.bin BinOp.rem IntKind.i64 n (Int.ofNat 400)))) (ops0.nat (ops0.bin BinOp.sub IntKind.i64 (Int.ofNat 0) (ops0.bin BinOp.rem IntKind.i64 n (Int.ofNat 400)))) Bool.false)] 0 1) ∧
 (Chk (ops0.le 40 (ops0.len (KF.str (AF.toKF S) (rdP [(AV.ros (F (ops0.bin BinOp.sub IntKind.i64 (Int.ofNat 0) (ops0.bin BinOp.rem IntKind.i64 n (Int.ofNat 400))) b) 0 (ops0.nat (ops0.bin BinOp.sub IntKind.i64 (Int.ofNat 0) (ops0.bin BinOp.rem IntKind.i64 n (Int.ofNat 400)))) (ops0.nat (ops0.bin BinOp.sub IntKind.i64 (Int.ofNat 0) (ops0.bin BinOp.rem IntKind.i64 n (Int.ofNat 400)))) Bool.false)] 0 1) 40)))
 (∃ l2 : (List UInt8), ((((ops0.ext (KF.str (AF.toKF S) (rdP [(AV.ros (F (ops0.bin BinOp.sub IntKind.i64 (Int.ofNat 0) (ops0.bin BinOp.rem IntKind.i64 n (Int.ofNat 400))) b) 0 (ops0.nat (ops0.bin BinOp.sub IntKind.i64 (Int.ofNat 0) (ops0.bin BinOp.rem IntKind.i64 n (Int.ofNat 400)))) (ops0.nat (ops0.bin BinOp.sub IntKind.i64 (Int.ofNat 0) (ops0.bin BinOp.rem IntKind.i64 n (Int.ofNat 400)))) Bool.false)] 0 1) 40) 0 40) : (List AV)) = (List.map (fun b1 => (AV.int IntKind.u8 (((UInt8.toNat b1) : Nat) : Int))) l2)) ∧
 ((PB (F (ops0.bin BinOp.sub IntKind.i64 (Int.ofNat 0) (ops0.bin BinOp.rem IntKind.i64 n (Int.ofNat 400))) b) 0 (ops0.nat (ops0.bin BinOp.sub IntKind.i64 (Int.ofNat 0) (ops0.bin BinOp.rem IntKind.i64 n (Int.ofNat 400))))) ∧
 (Chk (ops0.le 40 (ops0.len (KF.str (AF.toKF S) (rdB (F (ops0.bin BinOp.sub IntKind.i64 (Int.ofNat 0) (ops0.bin BinOp.rem IntKind.i64 n (Int.ofNat 400))) b) 0 (ops0.nat (ops0.bin BinOp.sub IntKind.i64 (Int.ofNat 0) (ops0.bin BinOp.rem IntKind.i64 n (Int.ofNat 400))))) 40)))
 (∃ l3 : (List UInt8), ((((ops0.ext (KF.str (AF.toKF S) (rdB (F (ops0.bin BinOp.sub IntKind.i64 (Int.ofNat 0) (ops0.bin BinOp.rem IntKind.i64 n (Int.ofNat 400))) b) 0 (ops0.nat (ops0.bin BinOp.sub IntKind.i64 (Int.ofNat 0) (ops0.bin BinOp.rem IntKind.i64 n (Int.ofNat 400))))) 40) 0 40) : (List AV)) = (List.map (fun b1 => (AV.int IntKind.u8 (((UInt8.toNat b1) : Nat) : Int))) l3)) ∧
 (Br (ops0.eqs l2 l3)
 (Q (AV.bool Bool.true) [(Blk.cells (F (ops0.bin BinOp.sub IntKind.i64 (Int.ofNat 0) (ops0.bin BinOp.rem IntKind.i64 n (Int.ofNat 400))) b)), (Blk.cells (KF.str (AF.toKF S) (rdP [(AV.ros (F (ops0.bin BinOp.sub IntKind.i64 (Int.ofNat 0) (ops0.bin BinOp.rem IntKind.i64 n (Int.ofNat 400))) b) 0 (ops0.nat (ops0.bin BinOp.sub IntKind.i64 (Int.ofNat 0) (ops0.bin BinOp.rem IntKind.i64 n (Int.ofNat 400)))) (ops0.nat (ops0.bin BinOp.sub IntKind.i64 (Int.ofNat 0) (ops0.bin BinOp.rem IntKind.i64 n (Int.ofNat 400)))) Bool.false)] 0 1) 40)), (Blk.cells (KF.str (AF.toKF S) (rdB (F (ops0.bin BinOp.sub IntKind.i64 (Int.ofNat 0) (ops0.bin BinOp.rem IntKind.i64 n (Int.ofNat 400))) b) 0 (ops0.nat (ops0.bin BinOp.sub IntKind.i64 (Int.ofNat 0) (ops0.bin BinOp.rem IntKind.i64 n (Int.ofNat 400))))) 40))] [])
 (Q (AV.bool Bool.false) [(Blk.cells (F (ops0.bin BinOp.sub IntKind.i64 (Int.ofNat 0) (ops0.bin BinOp.rem IntKind.i64 n (Int.ofNat 400))) b)), (Blk.cells (KF.str (AF.toKF S) (rdP [(AV.ros (F (ops0.bin BinOp.sub IntKind.i64 (Int.ofNat 0) (ops0.bin BinOp.rem IntKind.i64 n (Int.ofNat 400))) b) 0 (ops0.nat (ops0.bin BinOp.sub IntKind.i64 (Int.ofNat 0) (ops0.bin BinOp.rem IntKind.i64 n (Int.ofNat 400)))) (ops0.nat (ops0.bin BinOp.sub IntKind.i64 (Int.ofNat 0) (ops0.bin BinOp.rem IntKind.i64 n (Int.ofNat 400)))) Bool.false)] 0 1) 40)), (Blk.cells (KF.str (AF.toKF S) (rdB (F (ops0.bin BinOp.sub IntKind.i64 (Int.ofNat 0) (ops0.bin BinOp.rem IntKind.i64 n (Int.ofNat 400))) b) 0 (ops0.nat (ops0.bin BinOp.sub IntKind.i64 (Int.ofNat 0) (ops0.bin BinOp.rem IntKind.i64 n (Int.ofNat 400))))) 40))] []))))))))))
 (Q (AV.bool Bool.false) [(Blk.cells (F (ops0.bin BinOp.sub IntKind.i64 (Int.ofNat 0) (ops0.bin BinOp.rem IntKind.i64 n (Int.ofNat 400))) b))] [])))))))))))))))
 (Chk (ops0.mkr (ops0.bin BinOp.rem IntKind.i64 n (Int.ofNat 400)) (ops0.bin BinOp.rem IntKind.i64 n (Int.ofNat 400)) 1)
 ((((0 : Nat) = 0) ∧
 ((VCis lp5 lp5) ∧
 ((([(AV.int IntKind.i64 n), (AV.int IntKind.u8 (Int.ofNat b)), AV.top, AV.top, (AV.bool Bool.false), (AV.int IntKind.i64 (ops0.bin BinOp.rem IntKind.i64 n (Int.ofNat 400))), (AV.slc 0 0 (ops0.nat (ops0.bin BinOp.rem IntKind.i64 n (Int.ofNat 400))) (ops0.nat (ops0.bin BinOp.rem IntKind.i64 n (Int.ofNat 400))) 1), (AV.int IntKind.i64 (Int.ofNat 0)), AV.top, AV.top, AV.top, AV.top, AV.top, AV.top, AV.top, AV.top, AV.top, AV.top, AV.top, AV.top, AV.top, AV.top, AV.top, AV.top, AV.top, AV.top, AV.top, AV.top, AV.top, AV.top, AV.top, AV.top, AV.top, AV.top, AV.top, AV.top, AV.top, AV.top, AV.top, AV.top, AV.top, AV.top, AV.top, AV.top] : Fr) = [(AV.int IntKind.i64 n), (AV.int IntKind.u8 (Int.ofNat b)), AV.top, AV.top, (AV.bool Bool.false), (AV.int IntKind.i64 (ops0.bin BinOp.rem IntKind.i64 n (Int.ofNat 400))), (AV.slc 0 0 (ops0.nat (ops0.bin BinOp.rem IntKind.i64 n (Int.ofNat 400))) (ops0.nat (ops0.bin BinOp.rem IntKind.i64 n (Int.ofNat 400))) 1), (AV.int IntKind.i64 (Int.ofNat 0)), AV.top, AV.top, AV.top, AV.top, AV.top, AV.top, AV.top, AV.top, AV.top, AV.top, AV.top, AV.top, AV.top, AV.top, AV.top, AV.top, AV.top, AV.top, AV.top, AV.top, AV.top, AV.top, AV.top, AV.top, AV.top, AV.top, AV.top, AV.top, AV.top, AV.top, AV.top, AV.top, AV.top, AV.top, AV.top, AV.top]) ∧
 (P5 (ops0.rep (ops0.nat (ops0.bin BinOp.rem IntKind.i64 n (Int.ofNat 400))) [(AV.int IntKind.u8 (Int.ofNat 0))]) (ops0.bin BinOp.rem IntKind.i64 n (Int.ofNat 400)) b)))) ∧
 (True ∧
 ((PPs [(AV.ros (F (ops0.bin BinOp.rem IntKind.i64 n (Int.ofNat 400)) b) 0 (ops0.nat (ops0.bin BinOp.rem IntKind.i64 n (Int.ofNat 400))) (ops0.nat (ops0.bin BinOp.rem IntKind.i64 n (Int.ofNat 400))) Bool.false)] 0 1) ∧
 ((PB (F (ops0.bin BinOp.rem IntKind.i64 n (Int.ofNat 400)) b) 0 (ops0.nat (ops0.bin BinOp.rem IntKind.i64 n (Int.ofNat 400)))) ∧
 (Chk (ops0.eq (ops0.len (KF.sum (AF.toKF S) (rdP [(AV.ros (F (ops0.bin BinOp.rem IntKind.i64 n (Int.ofNat 400)) b) 0 (ops0.nat (ops0.bin BinOp.rem IntKind.i64 n (Int.ofNat 400))) (ops0.nat (ops0.bin BinOp.rem IntKind.i64 n (Int.ofNat 400))) Bool.false)] 0 1))) 32)
 (Chk (ops0.eq (ops0.len (KF.sum (AF.toKF S) (rdB (F (ops0.bin BinOp.rem IntKind.i64 n (Int.ofNat 400)) b) 0 (ops0.nat (ops0.bin BinOp.rem IntKind.i64 n (Int.ofNat 400)))))) 32)
 (Chk (ops0.le 32 (ops0.len (KF.sum (AF.toKF S) (rdP [(AV.ros (F (ops0.bin BinOp.rem IntKind.i64 n (Int.ofNat 400)) b) 0 (ops0.nat (ops0.bin BinOp.rem IntKind.i64 n (Int.ofNat 400))) (ops0.nat (ops0.bin BinOp.rem IntKind.i64 n (Int.ofNat 400))) Bool.false)] 0 1))))
 (Chk (ops0.le 32 (ops0.len (KF.sum (AF.toKF S) (rdB (F (ops0.bin BinOp.rem IntKind.i64 n (Int.ofNat 400)) b) 0 (ops0.nat (ops0.bin BinOp.rem IntKind.i64 n (Int.ofNat 400)))))))
 (∃ l : (List Int), ((((ops0.ext (KF.sum (AF.toKF S) (rdP [(AV.ros (F (ops0.bin BinOp.rem IntKind.i64 n (Int.ofNat 400)) b) 0 (ops0.nat (ops0.bin BinOp.rem IntKind.i64 n (Int.ofNat 400))) (ops0.nat (ops0.bin BinOp.rem IntKind.i64 n (Int.ofNat 400))) Bool.false)] 0 1)) 0 32) : (List AV)) = (List.map (AV.int IntKind.u8) l)) ∧
 (∃ l1 : (List Int), ((((ops0.ext (KF.sum (AF.toKF S) (rdB (F (ops0.bin BinOp.rem IntKind.i64 n (Int.ofNat 400)) b) 0 (ops0.nat (ops0.bin BinOp.rem IntKind.i64 n (Int.ofNat 400))))) 0 32) : (List AV)) = (List.map (AV.int IntKind.u8) l1)) ∧
 (Br (ops0.eqi l l1)
 ((PPs [(AV.ros (F (ops0.bin BinOp.rem IntKind.i64 n (Int.ofNat 400)) b) 0 (ops0.nat (ops0.bin BinOp.rem IntKind.i64 n (Int.ofNat 400))) (ops0.nat (ops0.bin BinOp.rem IntKind.i64 n (Int.ofNat 400))) Bool.false)] 0 1) ∧
 (Chk (ops0.le 40 (ops0.len (KF.str (AF.toKF S) (rdP [(AV.ros (F (ops0.bin BinOp.rem IntKind.i64 n (Int.ofNat 400)) b) 0 (ops0.nat (ops0.bin BinOp.rem IntKind.i64 n (Int.ofNat 400))) (ops0.nat (ops0.bin BinOp.rem IntKind.i64 n (Int.ofNat 400))) Bool.false)] 0 1) 40)))
 (∃ l2 : (List UInt8), ((((ops0.ext (KF.str (AF.toKF S) (rdP [(AV.ros (F (ops0.bin BinOp.rem IntKind.i64 n (Int.ofNat 400)) b) 0 (ops0.nat (ops0.bin BinOp.rem IntKind.i64 n (Int.ofNat 400))) (ops0.nat (ops0.bin BinOp.rem IntKind.i64 n (Int.ofNat 400))) Bool.false)] 0 1) 40) 0 40) : (List AV)) = (List.map (fun b1 => (AV.int IntKind.u8 (((UInt8.toNat b1) : Nat) : Int))) l2)) ∧
 ((PB (F (ops0.bin BinOp.rem IntKind.i64 n (Int.ofNat 400)) b) 0 (ops0.nat (ops0.bin BinOp.rem IntKind.i64 n (Int.ofNat 400)))) ∧
 (Chk (ops0.le 40 (ops0.len (KF.str (AF.toKF S) (rdB (F (ops0.bin BinOp.rem IntKind.i64 n (Int.ofNat 400)) b) 0 (ops0.nat (ops0.bin BinOp.rem IntKind.i64 n (Int.ofNat 400)))) 40)))
 (∃ l3 : (List UInt8), ((((ops0.ext (KF.str (AF.toKF S) (rdB (F (ops0.bin BinOp.rem IntKind.i64 n (Int.ofNat 400)) b) 0 (ops0.nat (ops0.bin BinOp.rem IntKind.i64 n (Int.ofNat 400)))) 40) 0 40) : (List AV)) = (List.map (fun b1 => (AV.int IntKind.u8 (((UInt8.toNat b1) : Nat) : Int))) l3)) ∧
 (Br (ops0.eqs l2 l3)
 (Q (AV.bool Bool.true) [(Blk.cells (F (ops0.bin BinOp.rem IntKind.i64 n (Int.ofNat 400)) b)), (Blk.cells (KF.str (AF.toKF S) (rdP [(AV.ros (F (ops0.bin BinOp.rem IntKind.i64 n (Int.ofNat 400)) b) 0 (ops0.nat (ops0.bin BinOp.rem IntKind.i64 n (Int.ofNat 400))) (ops0.nat (ops0.bin BinOp.rem IntKind.i64 n (Int.ofNat 400))) Bool.false)] 0 1) 40)), (Blk.cells (KF.str (AF.toKF S) (rdB (F (ops0.bin BinOp.rem IntKind.i64 n (Int.ofNat 400)) b) 0 (ops0.nat (ops0.bin BinOp.rem IntKind.i64 n (Int.ofNat 400)))) 40))] [])
 (Q (AV.bool Bool.false) [(Blk.cells (F (ops0.bin BinOp.rem IntKind.i64 n (Int.ofNat 400)) b)), (Blk.cells (KF.str (AF.toKF S) (rdP [(AV.ros (F (ops0.bin BinOp.rem IntKind.i64 n (Int.ofNat 400)) b) 0 (ops0.nat (ops0.bin BinOp.rem IntKind.i64 n (Int.ofNat 400))) (ops0.nat (ops0.bin BinOp.rem IntKind.i64 n (Int.ofNat 400))) Bool.false)] 0 1) 40)), (Blk.cells (KF.str (AF.toKF S) (rdB (F (ops0.bin BinOp.rem IntKind.i64 n (Int.ofNat 400)) b) 0 (ops0.nat (ops0.bin BinOp.rem IntKind.i64 n (Int.ofNat 400)))) 40))] []))))))))))
 (Q (AV.bool Bool.false) [(Blk.cells (F (ops0.bin BinOp.rem IntKind.i64 n (Int.ofNat 400)) b))] []))))))))))))))))) := by kernel_rfl

theorem vcl8 (S : AF) (cs xs : List AV) (n i : Int) (Q : Ex → Fr → Hl → Prop) :
  (vm (vcA kdYes (cnB S) noLn) ops0 noTab 100 0 lp8 (fr8 n i) [.cells cs, .cells xs] [] (bodyX mk8 Q)) =
 ((Br (ops0.cmp BinOp.lss i (Int.ofNat 24))
 (Chk (ops0.le 25 (ops0.len xs))
 ((PW (ops0.ext xs 0 25)) ∧
 (Chk (ops0.eq (ops0.len (AF.rnd S (ops0.ext xs 0 25) i)) 25)
 (Chk (ops0.le 25 (ops0.len xs))
 (Q Ex.norm [AV.top, (AV.int IntKind.i64 n), (AV.ptr 0 0), AV.top, (AV.bool Bool.false), (AV.ptr 1 0), (AV.int IntKind.i64 (ops0.bin BinOp.add IntKind.i64 i (Int.ofNat 1))), AV.top, AV.top, AV.top, AV.top, AV.top, AV.top, AV.top, AV.top, AV.top, AV.top, AV.top, AV.top, AV.top, AV.top, AV.top, AV.top, AV.top, AV.top, AV.top, AV.top, AV.top, AV.top, AV.top, AV.top, AV.top, AV.top, AV.top, AV.top, AV.top, AV.top, AV.top] [(Blk.cells cs), (Blk.cells (ops0.spl xs 0 (AF.rnd S (ops0.ext xs 0 25) i)))])))))
 (Q (Ex.exit 0) [AV.top, (AV.int IntKind.i64 n), (AV.ptr 0 0), AV.top, (AV.bool Bool.false), (AV.ptr 1 0), (AV.int IntKind.i64 i), AV.top, AV.top, AV.top, AV.top, AV.top, AV.top, AV.top, AV.top, AV.top, AV.top, AV.top, AV.top, AV.top, AV.top, AV.top, AV.top, AV.top, AV.top, AV.top, AV.top, AV.top, AV.top, AV.top, AV.top, AV.top, AV.top, AV.top, AV.top, AV.top, AV.top, AV.top] [(Blk.cells cs), (Blk.cells xs)]))) := by kernel_rfl

theorem vc8 (S : AF) (F : List AV → List AV) (cs : List AV) (n : Int) (Q : AV → Hl → List Nat → Prop) :
  (vcall (vcA kdYes (cnB S) (ln8 F)) ops0 (tabOne 8 vf8) 200 vf8 [.agg cs, .int .i64 n] [] Q) =
 ((Chk (ops0.le 25 (ops0.len cs))
 (Chk (ops0.eq (ops0.len (ops0.ext cs 0 25)) 25)
 ((((0 : Nat) = 0) ∧
 ((VCis lp8 lp8) ∧
 ((([AV.top, (AV.int IntKind.i64 n), (AV.ptr 0 0), AV.top, (AV.bool Bool.false), (AV.ptr 1 0), (AV.int IntKind.i64 (Int.ofNat 0)), AV.top, AV.top, AV.top, AV.top, AV.top, AV.top, AV.top, AV.top, AV.top, AV.top, AV.top, AV.top, AV.top, AV.top, AV.top, AV.top, AV.top, AV.top, AV.top, AV.top, AV.top, AV.top, AV.top, AV.top, AV.top, AV.top, AV.top, AV.top, AV.top, AV.top, AV.top] : Fr) = [AV.top, (AV.int IntKind.i64 n), (AV.ptr 0 0), AV.top, (AV.bool Bool.false), (AV.ptr 1 0), (AV.int IntKind.i64 (Int.ofNat 0)), AV.top, AV.top, AV.top, AV.top, AV.top, AV.top, AV.top, AV.top, AV.top, AV.top, AV.top, AV.top, AV.top, AV.top, AV.top, AV.top, AV.top, AV.top, AV.top, AV.top, AV.top, AV.top, AV.top, AV.top, AV.top, AV.top, AV.top, AV.top, AV.top, AV.top, AV.top]) ∧
 (PW (ops0.spl [(AV.int IntKind.u64 (Int.ofNat 0)), (AV.int IntKind.u64 (Int.ofNat 0)), (AV.int IntKind.u64 (Int.ofNat 0)), (AV.int IntKind.u64 (Int.ofNat 0)), (AV.int IntKind.u64 (Int.ofNat 0)), (AV.int IntKind.u64 (Int.ofNat 0)), (AV.int IntKind.u64 (Int.ofNat 0)), (AV.int IntKind.u64 (Int.ofNat 0)), (AV.int IntKind.u64 (Int.ofNat 0)), (AV.int IntKind.u64 (Int.ofNat 0)), (AV.int IntKind.u64 (Int.ofNat 0)), (AV.int IntKind.u64 (Int.ofNat 0)), (AV.int IntKind.u64 (Int.ofNat 0)), (AV.int IntKind.u64 (Int.ofNat 0)), (AV.int IntKind.u64 (Int.ofNat 0)), (AV.int IntKind.u64 (Int.ofNat 0)), (AV.int IntKind.u64 (Int.ofNat 0)), (AV.int IntKind.u64 (Int.ofNat 0)), (AV.int IntKind.u64 (Int.ofNat 0)), (AV.int IntKind.u64 (Int.ofNat 0)), (AV.int IntKind.u64 (Int.ofNat 0)), (AV.int IntKind.u64 (Int.ofNat 0)), (AV.int IntKind.u64 (Int.ofNat 0)), (AV.int IntKind.u64 (Int.ofNat 0)), (AV.int IntKind.u64 (Int.ofNat 0))] 0 (ops0.ext cs 0 25)))))) ∧
 (True ∧
 (Chk (ops0.le 25 (ops0.len cs))
 ((PW (ops0.ext cs 0 25)) ∧
 (Chk (ops0.le 25 (ops0.len cs))
 ((PW (ops0.ext cs 0 25)) ∧
 (Chk (ops0.eq (ops0.len (AF.rnd S (ops0.ext cs 0 25) n)) 25)
 (Chk (ops0.eq (ops0.len (AF.rnd S (ops0.ext cs 0 25) n)) 25)
 (Chk (ops0.le 25 (ops0.len (AF.rnd S (ops0.ext cs 0 25) n)))
 (Chk (ops0.le 25 (ops0.len (AF.rnd S (ops0.ext cs 0 25) n)))
 (∃ l : (List Int), ((((ops0.ext (AF.rnd S (ops0.ext cs 0 25) n) 0 25) : (List AV)) = (List.map (AV.int IntKind.u64) l)) ∧
 (∃ l1 : (List Int), ((((ops0.ext (AF.rnd S (ops0.ext cs 0 25) n) 0 25) : (List AV)) = (List.map (AV.int IntKind.u64) l1)) ∧
 (Br (ops0.eqi l l1)
 (Chk (ops0.le 25 (ops0.len cs))
 ((PW (ops0.ext cs 0 25)) ∧
 (Chk (ops0.le 25 (ops0.len cs))
 ((PW (ops0.ext cs 0 25)) ∧
 (Chk (ops0.eq (ops0.len (AF.rnds S (ops0.ext cs 0 25))) 25)
 (Chk (ops0.eq (ops0.len (AF.rnds S (ops0.ext cs 0 25))) 25)
 (Chk (ops0.le 25 (ops0.len (AF.rnds S (ops0.ext cs 0 25))))
 (Chk (ops0.le 25 (ops0.len (AF.rnds S (ops0.ext cs 0 25))))
 (∃ l2 : (List Int), ((((ops0.ext (AF.rnds S (ops0.ext cs 0 25)) 0 25) : (List AV)) = (List.map (AV.int IntKind.u64) l2)) ∧
 (∃ l3 : (List Int), ((((ops0.ext (AF.rnds S (ops0.ext cs 0 25)) 0 25) : (List AV)) = (List.map (AV.int IntKind.u64) l3)) ∧
 (Br (ops0.eqi l2 l3)
 (Chk (ops0.le 25 (ops0.len (F (ops0.spl [(AV.int IntKind.u64 (Int.ofNat 0)), (AV.int IntKind.u64 (Int.ofNat 0)), (AV.int IntKind.u64 (Int.ofNat 0)), (AV.int IntKind.u64 (Int.ofNat 0)), (AV.int IntKind.u64 (Int.ofNat 0)), (AV.int IntKind.u64 (Int.ofNat 0)), (AV.int IntKind.u64 (Int.ofNat 0)), (AV.int IntKind.u64 (Int.ofNat 0)), (AV.int IntKind.u64 (Int.ofNat 0)), (AV.int IntKind.u64 (Int.ofNat 0)), (AV.int IntKind.u64 (Int.ofNat 0)), (AV.int IntKind.u64 (Int.ofNat 0)), (AV.int IntKind.u64 (Int.ofNat 0)), (AV.int IntKind.u64 (Int.ofNat 0)), (AV.int IntKind.u64 (Int.ofNat 0)), (AV.int IntKind.u64 (Int.ofNat 0)), (AV.int IntKind.u64 (Int.ofNat 0)), (AV.int IntKind.u64 (Int.ofNat 0)), (AV.int IntKind.u64 (Int.ofNat 0)), (AV.int IntKind.u64 (Int.ofNat 0)), (AV.int IntKind.u64 (Int.ofNat 0)), (AV.int IntKind.u64 (Int.ofNat 0)), (AV.int IntKind.u64 (Int.ofNat 0)), (AV.int IntKind.u64 (Int.ofNat 0)), (AV.int IntKind.u64 (Int.ofNat 0))] 0 (ops0.ext cs 0 25)))))
 (Chk (ops0.le 25 (ops0.len cs))
 ((PW (ops0.ext cs 0 25)) ∧
 (Chk (ops0.eq (ops0.len (ops0.ext (F (ops0.spl [(AV.int IntKind.u64 (Int.ofNat 0)), (AV.int IntKind.u64 (Int.ofNat 0)), (AV.int IntKind.u64 (Int.ofNat 0)), (AV.int IntKind.u64 (Int.ofNat 0)), (AV.int IntKind.u64 (Int.ofNat 0)), (AV.int IntKind.u64 (Int.ofNat 0)), (AV.int IntKind.u64 (Int.ofNat 0)), (AV.int IntKind.u64 (Int.ofNat 0)), (AV.int IntKind.u64 (Int.ofNat 0)), (AV.int IntKind.u64 (Int.ofNat 0)), (AV.int IntKind.u64 (Int.ofNat 0)), (AV.int IntKind.u64 (Int.ofNat 0)), (AV.int IntKind.u64 (Int.ofNat 0)), (AV.int IntKind.u64 (Int.ofNat 0)), (AV.int IntKind.u64 (Int.ofNat 0)), (AV.int IntKind.u64 (Int.ofNat 0)), (AV.int IntKind.u64 (Int.ofNat 0)), (AV.int IntKind.u64 (Int.ofNat 0)), (AV.int IntKind.u64 (Int.ofNat 0)), (AV.int IntKind.u64 (Int.ofNat 0)), (AV.int IntKind.u64 (Int.ofNat 0)), (AV.int IntKind.u64 (Int.ofNat 0)), (AV.int IntKind.u64 (Int.ofNat 0)), (AV.int IntKind.u64 (Int.ofNat 0)), (AV.int IntKind.u64 (Int.ofNat 0))] 0 (ops0.ext cs 0 25))) 0 25)) 25)
 (Chk (ops0.eq (ops0.len (AF.rnds S (ops0.ext cs 0 25))) 25)
 (Chk (ops0.le 25 (ops0.len (ops0.ext (F (ops0.spl [(AV.int IntKind.u64 (Int.ofNat 0)), (AV.int IntKind.u64 (Int.ofNat 0)), (AV.int IntKind.u64 (Int.ofNat 0)), (AV.int IntKind.u64 (Int.ofNat 0)), (AV.int IntKind.u64 (Int.ofNat 0)), (AV.int IntKind.u64 (Int.ofNat 0)), (AV.int IntKind.u64 (Int.ofNat 0)), (AV.int IntKind.u64 (Int.ofNat 0)), (AV.int IntKind.u64 (Int.ofNat 0)), (AV.int IntKind.u64 (Int.ofNat 0)), (AV.int IntKind.u64 (Int.ofNat 0)), (AV.int IntKind.u64 (Int.ofNat 0)), (AV.int IntKind.u64 (Int.ofNat 0)), (AV.int IntKind.u64 (Int.ofNat 0)), (AV.int IntKind.u64 (Int.ofNat 0)), (AV.int IntKind.u64 (Int.ofNat 0)), (AV.int IntKind.u64 (Int.ofNat 0)), (AV.int IntKind.u64 (Int.ofNat 0)), (AV.int IntKind.u64 (Int.ofNat 0)), (AV.int IntKind.u64 (Int.ofNat 0)), (AV.int IntKind.u64 (Int.ofNat 0)), (AV.int IntKind.u64 (Int.ofNat 0)), (AV.int IntKind.u64 (Int.ofNat 0)), (AV.int IntKind.u64 (Int.ofNat 0)), (AV.int IntKind.u64 (Int.ofNat 0))] 0 (ops0.ext cs 0 25))) 0 25)))
 (Chk (ops0.le 25 (ops0.len (AF.rnds S (ops0.ext cs 0 25))))
 (∃ l4 : (List Int), ((((ops0.ext (ops0.ext (F (ops0.spl [(AV.int IntKind.u64 (Int.ofNat 0)), (AV.int IntKind.u64 (Int.ofNat 0)), (AV.int IntKind.u64 (Int.ofNat 0)), (AV.int IntKind.u64 (Int.ofNat 0)), (AV.int IntKind.u64 (Int.ofNat 0)), (AV.int IntKind.u64 (Int.ofNat 0)), (AV.int IntKind.u64 (Int.ofNat 0)), (AV.int IntKind.u64 (Int.ofNat 0)), (AV.int IntKind.u64 (Int.ofNat 0)), (AV.int IntKind.u64 (Int.ofNat 0)), (AV.int IntKind.u64 (Int.ofNat 0)), (AV.int IntKind.u64 (Int.ofNat 0)), (AV.int IntKind.u64 (Int.ofNat 0)), (AV.int IntKind.u64 (Int.ofNat 0)), (AV.int IntKind.u64 (Int.ofNat 0)), (AV.int IntKind.u64 (Int.ofNat 0)), (AV.int IntKind.u64 (Int.ofNat 0)), (AV.int IntKind.u64 (Int.ofNat 0)), (AV.int IntKind.u64 (Int.ofNat 0)), (AV.int IntKind.u64 (Int.ofNat 0)), (AV.int IntKind.u64 (Int.ofNat 0)), (AV.int IntKind.u64 (Int.ofNat 0)), (AV.int IntKind.u64 (Int.ofNat 0)), (AV.int IntKind.u64 (Int.ofNat 0)), (AV.int IntKind.u64 (Int.ofNat 0))] 0 (ops0.ext cs 0 25))) 0 25) 0 25) : (List AV)) = (List.map (AV.int IntKind.u64) l4)) ∧
 (∃ l5 : (List Int), ((((ops0.ext (AF.rnds S (ops0.ext cs 0 25)) 0 25) : (List AV)) = (List.map (AV.int IntKind.u64) l5)) ∧
 (Br (ops0.eqi l4 l5)
 (Q (AV.bool Bool.true) [(Blk.cells cs), (Blk.cells (F (ops0.spl [(AV.int IntKind.u64 (Int.ofNat 0)), (AV.int IntKind.u64 (Int.ofNat 0)), (AV.int IntKind.u64 (Int.ofNat 0)), (AV.int IntKind.u64 (Int.ofNat 0)), (AV.int IntKind.u64 (Int.ofNat 0)), (AV.int IntKind.u64 (Int.ofNat 0)), (AV.int IntKind.u64 (Int.ofNat 0)), (AV.int IntKind.u64 (Int.ofNat 0)), (AV.int IntKind.u64 (Int.ofNat 0)), (AV.int IntKind.u64 (Int.ofNat 0)), (AV.int IntKind.u64 (Int.ofNat 0)), (AV.int IntKind.u64 (Int.ofNat 0)), (AV.int IntKind.u64 (Int.ofNat 0)), (AV.int IntKind.u64 (Int.ofNat 0)), (AV.int IntKind.u64 (Int.ofNat 0)), (AV.int IntKind.u64 (Int.ofNat 0)), (AV.int IntKind.u64 (Int.ofNat 0)), (AV.int IntKind.u64 (Int.ofNat 0)), (AV.int IntKind.u64 (Int.ofNat 0)), (AV.int IntKind.u64 (Int.ofNat 0)), (AV.int IntKind.u64 (Int.ofNat 0)), (AV.int IntKind.u64 (Int.ofNat 0)), (AV.int IntKind.u64 (Int.ofNat 0)), (AV.int IntKind.u64 (Int.ofNat 0)), (AV.int IntKind.u64 (Int.ofNat 0))] 0 (ops0.ext cs 0 25))))] [1])
 (Q (AV.bool Bool.false) [(Blk.cells cs), (Blk.cells (F (ops0.spl [(AV.int IntKind.u64 (Int.ofNat 0)), (AV.int IntKind.u64 (Int.ofNat 0)), (AV.int IntKind.u64 (Int.ofNat 0)), (AV.int IntKind.u64 (Int.ofNat 0)), (AV.int IntKind.u64 (Int.ofNat 0)), (AV.int IntKind.u64 (Int.ofNat 0)), (AV.int IntKind.u64 (Int.ofNat 0)), (AV.int IntKind.u64 (Int.ofNat 0)), (AV.int IntKind.u64 (Int.ofNat 0)), (AV.int IntKind.u64 (Int.ofNat 0)), (AV.int IntKind.u64 (Int.ofNat 0)), (AV.int IntKind.u64 (Int.ofNat 0)), (AV.int IntKind.u64 (Int.ofNat 0)), (AV.int IntKind.u64 (Int.ofNat 0)), (AV.int IntKind.u64 (Int.ofNat 0)), (AV.int IntKind.u64 (Int.ofNat 0)), (AV.int IntKind.u64 (Int.ofNat 0)), (AV.int IntKind.u64 (Int.ofNat 0)), (AV.int IntKind.u64 (Int.ofNat 0)), (AV.int IntKind.u64 (Int.ofNat 0)), (AV.int IntKind.u64 (Int.ofNat 0)), (AV.int IntKind.u64 (Int.ofNat 0)), (AV.int IntKind.u64 (Int.ofNat 0)), (AV.int IntKind.u64 (Int.ofNat 0)), (AV.int IntKind.u64 (Int.ofNat 0))] 0 (ops0.ext cs 0 25))))] [1])))))))))))))
 (Q (AV.bool Bool.false) [(Blk.cells cs), (Blk.cells (F (ops0.spl [(AV.int IntKind.u64 (Int.ofNat 0)), (AV.int IntKind.u64 (Int.ofNat 0)), (AV.int IntKind.u64 (Int.ofNat 0)), (AV.int IntKind.u64 (Int.ofNat 0)), (AV.int IntKind.u64 (Int.ofNat 0)), (AV.int IntKind.u64 (Int.ofNat 0)), (AV.int IntKind.u64 (Int.ofNat 0)), (AV.int IntKind.u64 (Int.ofNat 0)), (AV.int IntKind.u64 (Int.ofNat 0)), (AV.int IntKind.u64 (Int.ofNat 0)), (AV.int IntKind.u64 (Int.ofNat 0)), (AV.int IntKind.u64 (Int.ofNat 0)), (AV.int IntKind.u64 (Int.ofNat 0)), (AV.int IntKind.u64 (Int.ofNat 0)), (AV.int IntKind.u64 (Int.ofNat 0)), (AV.int IntKind.u64 (Int.ofNat 0)), (AV.int IntKind.u64 (Int.ofNat 0)), (AV.int IntKind.u64 (Int.ofNat 0)), (AV.int IntKind.u64 (Int.ofNat 0)), (AV.int IntKind.u64 (Int.ofNat 0)), (AV.int IntKind.u64 (Int.ofNat 0)), (AV.int IntKind.u64 (Int.ofNat 0)), (AV.int IntKind.u64 (Int.ofNat 0)), (AV.int IntKind.u64 (Int.ofNat 0)), (AV.int IntKind.u64 (Int.ofNat 0))] 0 (ops0.ext cs 0 25))))] [1]))))))))))))))
 (Q (AV.bool Bool.false) [(Blk.cells cs), (Blk.cells (F (ops0.spl [(AV.int IntKind.u64 (Int.ofNat 0)), (AV.int IntKind.u64 (Int.ofNat 0)), (AV.int IntKind.u64 (Int.ofNat 0)), (AV.int IntKind.u64 (Int.ofNat 0)), (AV.int IntKind.u64 (Int.ofNat 0)), (AV.int IntKind.u64 (Int.ofNat 0)), (AV.int IntKind.u64 (Int.ofNat 0)), (AV.int IntKind.u64 (Int.ofNat 0)), (AV.int IntKind.u64 (Int.ofNat 0)), (AV.int IntKind.u64 (Int.ofNat 0)), (AV.int IntKind.u64 (Int.ofNat 0)), (AV.int IntKind.u64 (Int.ofNat 0)), (AV.int IntKind.u64 (Int.ofNat 0)), (AV.int IntKind.u64 (Int.ofNat 0)), (AV.int IntKind.u64 (Int.ofNat 0)), (AV.int IntKind.u64 (Int.ofNat 0)), (AV.int IntKind.u64 (Int.ofNat 0)), (AV.int IntKind.u64 (Int.ofNat 0)), (AV.int IntKind.u64 (Int.ofNat 0)), (AV.int IntKind.u64 (Int.ofNat 0)), (AV.int IntKind.u64 (Int.ofNat 0)), (AV.int IntKind.u64 (Int.ofNat 0)), (AV.int IntKind.u64 (Int.ofNat 0)), (AV.int IntKind.u64 (Int.ofNat 0)), (AV.int IntKind.u64 (Int.ofNat 0))] 0 (ops0.ext cs 0 25))))] [1]))))))))))))))))))) := by kernel_rfl

theorem vc9 (S : AF) (n : Int) (Q : AV → Hl → List Nat → Prop) :
  (vcall (vcA kdYes (cnB S) noLn) ops0 (tabOne 9 vf9) 100 vf9 [.int .i64 n] [] Q) =
 (((PW [(AV.int IntKind.u64 (Int.ofNat 0)), (AV.int IntKind.u64 (Int.ofNat 0)), (AV.int IntKind.u64 (Int.ofNat 0)), (AV.int IntKind.u64 (Int.ofNat 0)), (AV.int IntKind.u64 (Int.ofNat 0)), (AV.int IntKind.u64 (Int.ofNat 0)), (AV.int IntKind.u64 (Int.ofNat 0)), (AV.int IntKind.u64 (Int.ofNat 0)), (AV.int IntKind.u64 (Int.ofNat 0)), (AV.int IntKind.u64 (Int.ofNat 0)), (AV.int IntKind.u64 (Int.ofNat 0)), (AV.int IntKind.u64 (Int.ofNat 0)), (AV.int IntKind.u64 (Int.ofNat 0)), (AV.int IntKind.u64 (Int.ofNat 0)), (AV.int IntKind.u64 (Int.ofNat 0)), (AV.int IntKind.u64 (Int.ofNat 0)), (AV.int IntKind.u64 (Int.ofNat 0)), (AV.int IntKind.u64 (Int.ofNat 0)), (AV.int IntKind.u64 (Int.ofNat 0)), (AV.int IntKind.u64 (Int.ofNat 0)), (AV.int IntKind.u64 (Int.ofNat 0)), (AV.int IntKind.u64 (Int.ofNat 0)), (AV.int IntKind.u64 (Int.ofNat 0)), (AV.int IntKind.u64 (Int.ofNat 0)), (AV.int IntKind.u64 (Int.ofNat 0))]) ∧
 (Chk (ops0.eq (ops0.len (AF.rnd S [(AV.int IntKind.u64 (Int.ofNat 0)), (AV.int IntKind.u64 (Int.ofNat 0)), (AV.int IntKind.u64 (Int.ofNat 0)), (AV.int IntKind.u64 (Int.ofNat 0)), (AV.int IntKind.u64 (Int.ofNat 0)), (AV.int IntKind.u64 (Int.ofNat 0)), (AV.int IntKind.u64 (Int.ofNat 0)), (AV.int IntKind.u64 (Int.ofNat 0)), (AV.int IntKind.u64 (Int.ofNat 0)), (AV.int IntKind.u64 (Int.ofNat 0)), (AV.int IntKind.u64 (Int.ofNat 0)), (AV.int IntKind.u64 (Int.ofNat 0)), (AV.int IntKind.u64 (Int.ofNat 0)), (AV.int IntKind.u64 (Int.ofNat 0)), (AV.int IntKind.u64 (Int.ofNat 0)), (AV.int IntKind.u64 (Int.ofNat 0)), (AV.int IntKind.u64 (Int.ofNat 0)), (AV.int IntKind.u64 (Int.ofNat 0)), (AV.int IntKind.u64 (Int.ofNat 0)), (AV.int IntKind.u64 (Int.ofNat 0)), (AV.int IntKind.u64 (Int.ofNat 0)), (AV.int IntKind.u64 (Int.ofNat 0)), (AV.int IntKind.u64 (Int.ofNat 0)), (AV.int IntKind.u64 (Int.ofNat 0)), (AV.int IntKind.u64 (Int.ofNat 0))] n)) 25)
 (True ∧
 (True ∧
 (Chk (ops0.le 25 (ops0.len (ops0.spl [(AV.int IntKind.u64 (Int.ofNat 0)), (AV.int IntKind.u64 (Int.ofNat 0)), (AV.int IntKind.u64 (Int.ofNat 0)), (AV.int IntKind.u64 (Int.ofNat 0)), (AV.int IntKind.u64 (Int.ofNat 0)), (AV.int IntKind.u64 (Int.ofNat 0)), (AV.int IntKind.u64 (Int.ofNat 0)), (AV.int IntKind.u64 (Int.ofNat 0)), (AV.int IntKind.u64 (Int.ofNat 0)), (AV.int IntKind.u64 (Int.ofNat 0)), (AV.int IntKind.u64 (Int.ofNat 0)), (AV.int IntKind.u64 (Int.ofNat 0)), (AV.int IntKind.u64 (Int.ofNat 0)), (AV.int IntKind.u64 (Int.ofNat 0)), (AV.int IntKind.u64 (Int.ofNat 0)), (AV.int IntKind.u64 (Int.ofNat 0)), (AV.int IntKind.u64 (Int.ofNat 0)), (AV.int IntKind.u64 (Int.ofNat 0)), (AV.int IntKind.u64 (Int.ofNat 0)), (AV.int IntKind.u64 (Int.ofNat 0)), (AV.int IntKind.u64 (Int.ofNat 0)), (AV.int IntKind.u64 (Int.ofNat 0)), (AV.int IntKind.u64 (Int.ofNat 0)), (AV.int IntKind.u64 (Int.ofNat 0)), (AV.int IntKind.u64 (Int.ofNat 0))] 0 (AF.rnd S [(AV.int IntKind.u64 (Int.ofNat 0)), (AV.int IntKind.u64 (Int.ofNat 0)), (AV.int IntKind.u64 (Int.ofNat 0)), (AV.int IntKind.u64 (Int.ofNat 0)), (AV.int IntKind.u64 (Int.ofNat 0)), (AV.int IntKind.u64 (Int.ofNat 0)), (AV.int IntKind.u64 (Int.ofNat 0)), (AV.int IntKind.u64 (Int.ofNat 0)), (AV.int IntKind.u64 (Int.ofNat 0)), (AV.int IntKind.u64 (Int.ofNat 0)), (AV.int IntKind.u64 (Int.ofNat 0)), (AV.int IntKind.u64 (Int.ofNat 0)), (AV.int IntKind.u64 (Int.ofNat 0)), (AV.int IntKind.u64 (Int.ofNat 0)), (AV.int IntKind.u64 (Int.ofNat 0)), (AV.int IntKind.u64 (Int.ofNat 0)), (AV.int IntKind.u64 (Int.ofNat 0)), (AV.int IntKind.u64 (Int.ofNat 0)), (AV.int IntKind.u64 (Int.ofNat 0)), (AV.int IntKind.u64 (Int.ofNat 0)), (AV.int IntKind.u64 (Int.ofNat 0)), (AV.int IntKind.u64 (Int.ofNat 0)), (AV.int IntKind.u64 (Int.ofNat 0)), (AV.int IntKind.u64 (Int.ofNat 0)), (AV.int IntKind.u64 (Int.ofNat 0))] n))))
 (Chk (ops0.eq (ops0.len (ops0.ext (ops0.spl [(AV.int IntKind.u64 (Int.ofNat 0)), (AV.int IntKind.u64 (Int.ofNat 0)), (AV.int IntKind.u64 (Int.ofNat 0)), (AV.int IntKind.u64 (Int.ofNat 0)), (AV.int IntKind.u64 (Int.ofNat 0)), (AV.int IntKind.u64 (Int.ofNat 0)), (AV.int IntKind.u64 (Int.ofNat 0)), (AV.int IntKind.u64 (Int.ofNat 0)), (AV.int IntKind.u64 (Int.ofNat 0)), (AV.int IntKind.u64 (Int.ofNat 0)), (AV.int IntKind.u64 (Int.ofNat 0)), (AV.int IntKind.u64 (Int.ofNat 0)), (AV.int IntKind.u64 (Int.ofNat 0)), (AV.int IntKind.u64 (Int.ofNat 0)), (AV.int IntKind.u64 (Int.ofNat 0)), (AV.int IntKind.u64 (Int.ofNat 0)), (AV.int IntKind.u64 (Int.ofNat 0)), (AV.int IntKind.u64 (Int.ofNat 0)), (AV.int IntKind.u64 (Int.ofNat 0)), (AV.int IntKind.u64 (Int.ofNat 0)), (AV.int IntKind.u64 (Int.ofNat 0)), (AV.int IntKind.u64 (Int.ofNat 0)), (AV.int IntKind.u64 (Int.ofNat 0)), (AV.int IntKind.u64 (Int.ofNat 0)), (AV.int IntKind.u64 (Int.ofNat 0))] 0 (AF.rnd S [(AV.int IntKind.u64 (Int.ofNat 0)), (AV.int IntKind.u64 (Int.ofNat 0)), (AV.int IntKind.u64 (Int.ofNat 0)), (AV.int IntKind.u64 (Int.ofNat 0)), (AV.int IntKind.u64 (Int.ofNat 0)), (AV.int IntKind.u64 (Int.ofNat 0)), (AV.int IntKind.u64 (Int.ofNat 0)), (AV.int IntKind.u64 (Int.ofNat 0)), (AV.int IntKind.u64 (Int.ofNat 0)), (AV.int IntKind.u64 (Int.ofNat 0)), (AV.int IntKind.u64 (Int.ofNat 0)), (AV.int IntKind.u64 (Int.ofNat 0)), (AV.int IntKind.u64 (Int.ofNat 0)), (AV.int IntKind.u64 (Int.ofNat 0)), (AV.int IntKind.u64 (Int.ofNat 0)), (AV.int IntKind.u64 (Int.ofNat 0)), (AV.int IntKind.u64 (Int.ofNat 0)), (AV.int IntKind.u64 (Int.ofNat 0)), (AV.int IntKind.u64 (Int.ofNat 0)), (AV.int IntKind.u64 (Int.ofNat 0)), (AV.int IntKind.u64 (Int.ofNat 0)), (AV.int IntKind.u64 (Int.ofNat 0)), (AV.int IntKind.u64 (Int.ofNat 0)), (AV.int IntKind.u64 (Int.ofNat 0)), (AV.int IntKind.u64 (Int.ofNat 0))] n)) 0 25)) 25)
 (Chk (ops0.le 25 (ops0.len (ops0.ext (ops0.spl [(AV.int IntKind.u64 (Int.ofNat 0)), (AV.int IntKind.u64 (Int.ofNat 0)), (AV.int IntKind.u64 (Int.ofNat 0)), (AV.int IntKind.u64 (Int.ofNat 0)), (AV.int IntKind.u64 (Int.ofNat 0)), (AV.int IntKind.u64 (Int.ofNat 0)), (AV.int IntKind.u64 (Int.ofNat 0)), (AV.int IntKind.u64 (Int.ofNat 0)), (AV.int IntKind.u64 (Int.ofNat 0)), (AV.int IntKind.u64 (Int.ofNat 0)), (AV.int IntKind.u64 (Int.ofNat 0)), (AV.int IntKind.u64 (Int.ofNat 0)), (AV.int IntKind.u64 (Int.ofNat 0)), (AV.int IntKind.u64 (Int.ofNat 0)), (AV.int IntKind.u64 (Int.ofNat 0)), (AV.int IntKind.u64 (Int.ofNat 0)), (AV.int IntKind.u64 (Int.ofNat 0)), (AV.int IntKind.u64 (Int.ofNat 0)), (AV.int IntKind.u64 (Int.ofNat 0)), (AV.int IntKind.u64 (Int.ofNat 0)), (AV.int IntKind.u64 (Int.ofNat 0)), (AV.int IntKind.u64 (Int.ofNat 0)), (AV.int IntKind.u64 (Int.ofNat 0)), (AV.int IntKind.u64 (Int.ofNat 0)), (AV.int IntKind.u64 (Int.ofNat 0))] 0 (AF.rnd S [(AV.int IntKind.u64 (Int.ofNat 0)), (AV.int IntKind.u64 (Int.ofNat 0)), (AV.int IntKind.u64 (Int.ofNat 0)), (AV.int IntKind.u64 (Int.ofNat 0)), (AV.int IntKind.u64 (Int.ofNat 0)), (AV.int IntKind.u64 (Int.ofNat 0)), (AV.int IntKind.u64 (Int.ofNat 0)), (AV.int IntKind.u64 (Int.ofNat 0)), (AV.int IntKind.u64 (Int.ofNat 0)), (AV.int IntKind.u64 (Int.ofNat 0)), (AV.int IntKind.u64 (Int.ofNat 0)), (AV.int IntKind.u64 (Int.ofNat 0)), (AV.int IntKind.u64 (Int.ofNat 0)), (AV.int IntKind.u64 (Int.ofNat 0)), (AV.int IntKind.u64 (Int.ofNat 0)), (AV.int IntKind.u64 (Int.ofNat 0)), (AV.int IntKind.u64 (Int.ofNat 0)), (AV.int IntKind.u64 (Int.ofNat 0)), (AV.int IntKind.u64 (Int.ofNat 0)), (AV.int IntKind.u64 (Int.ofNat 0)), (AV.int IntKind.u64 (Int.ofNat 0)), (AV.int IntKind.u64 (Int.ofNat 0)), (AV.int IntKind.u64 (Int.ofNat 0)), (AV.int IntKind.u64 (Int.ofNat 0)), (AV.int IntKind.u64 (Int.ofNat 0))] n)) 0 25)))
 (∃ l : (List Int), ((((ops0.ext (ops0.ext (ops0.spl [(AV.int IntKind.u64 (Int.ofNat 0)), (AV.int IntKind.u64 (Int.ofNat 0)), (AV.int IntKind.u64 (Int.ofNat 0)), (AV.int IntKind.u64 (Int.ofNat 0)), (AV.int IntKind.u64 (Int.ofNat 0)), (AV.int IntKind.u64 (Int.ofNat 0)), (AV.int IntKind.u64 (Int.ofNat 0)), (AV.int IntKind.u64 (Int.ofNat 0)), (AV.int IntKind.u64 (Int.ofNat 0)), (AV.int IntKind.u64 (Int.ofNat 0)), (AV.int IntKind.u64 (Int.ofNat 0)), (AV.int IntKind.u64 (Int.ofNat 0)), (AV.int IntKind.u64 (Int.ofNat 0)), (AV.int IntKind.u64 (Int.ofNat 0)), (AV.int IntKind.u64 (Int.ofNat 0)), (AV.int IntKind.u64 (Int.ofNat 0)), (AV.int IntKind.u64 (Int.ofNat 0)), (AV.int IntKind.u64 (Int.ofNat 0)), (AV.int IntKind.u64 (Int.ofNat 0)), (AV.int IntKind.u64 (Int.ofNat 0)), (AV.int IntKind.u64 (Int.ofNat 0)), (AV.int IntKind.u64 (Int.ofNat 0)), (AV.int IntKind.u64 (Int.ofNat 0)), (AV.int IntKind.u64 (Int.ofNat 0)), (AV.int IntKind.u64 (Int.ofNat 0))] 0 (AF.rnd S [(AV.int IntKind.u64 (Int.ofNat 0)), (AV.int IntKind.u64 (Int.ofNat 0)), (AV.int IntKind.u64 (Int.ofNat 0)), (AV.int IntKind.u64 (Int.ofNat 0)), (AV.int IntKind.u64 (Int.ofNat 0)), (AV.int IntKind.u64 (Int.ofNat 0)), (AV.int IntKind.u64 (Int.ofNat 0)), (AV.int IntKind.u64 (Int.ofNat 0)), (AV.int IntKind.u64 (Int.ofNat 0)), (AV.int IntKind.u64 (Int.ofNat 0)), (AV.int IntKind.u64 (Int.ofNat 0)), (AV.int IntKind.u64 (Int.ofNat 0)), (AV.int IntKind.u64 (Int.ofNat 0)), (AV.int IntKind.u64 (Int.ofNat 0)), (AV.int IntKind.u64 (Int.ofNat 0)), (AV.int IntKind.u64 (Int.ofNat 0)), (AV.int IntKind.u64 (Int.ofNat 0)), (AV.int IntKind.u64 (Int.ofNat 0)), (AV.int IntKind.u64 (Int.ofNat 0)), (AV.int IntKind.u64 (Int.ofNat 0)), (AV.int IntKind.u64 (Int.ofNat 0)), (AV.int IntKind.u64 (Int.ofNat 0)), (AV.int IntKind.u64 (Int.ofNat 0)), (AV.int IntKind.u64 (Int.ofNat 0)), (AV.int IntKind.u64 (Int.ofNat 0))] n)) 0 25) 0 25) : (List AV)) = (List.map (AV.int IntKind.u64) l)) ∧
 (∃ l1 : (List Int), ((([(AV.int IntKind.u64 (AF.cst S n)), (AV.int IntKind.u64 (Int.ofNat 0)), (AV.int IntKind.u64 (Int.ofNat 0)), (AV.int IntKind.u64 (Int.ofNat 0)), (AV.int IntKind.u64 (Int.ofNat 0)), (AV.int IntKind.u64 (Int.ofNat 0)), (AV.int IntKind.u64 (Int.ofNat 0)), (AV.int IntKind.u64 (Int.ofNat 0)), (AV.int IntKind.u64 (Int.ofNat 0)), (AV.int IntKind.u64 (Int.ofNat 0)), (AV.int IntKind.u64 (Int.ofNat 0)), (AV.int IntKind.u64 (Int.ofNat 0)), (AV.int IntKind.u64 (Int.ofNat 0)), (AV.int IntKind.u64 (Int.ofNat 0)), (AV.int IntKind.u64 (Int.ofNat 0)), (AV.int IntKind.u64 (Int.ofNat 0)), (AV.int IntKind.u64 (Int.ofNat 0)), (AV.int IntKind.u64 (Int.ofNat 0)), (AV.int IntKind.u64 (Int.ofNat 0)), (AV.int IntKind.u64 (Int.ofNat 0)), (AV.int IntKind.u64 (Int.ofNat 0)), (AV.int IntKind.u64 (Int.ofNat 0)), (AV.int IntKind.u64 (Int.ofNat 0)), (AV.int IntKind.u64 (Int.ofNat 0)), (AV.int IntKind.u64 (Int.ofNat 0))] : (List AV)) = (List.map (AV.int IntKind.u64) l1)) ∧
 (Br (ops0.eqi l l1)
 (True ∧
 (True ∧
 (Br (ops0.cmp BinOp.eql (AF.dist S (ops0.bin BinOp.rem IntKind.i64 n (Int.ofNat 5)) (ops0.bin BinOp.rem IntKind.i64 n (Int.ofNat 7))) (AF.dist S (ops0.bin BinOp.rem IntKind.i64 n (Int.ofNat 5)) (ops0.bin BinOp.rem IntKind.i64 n (Int.ofNat 7))))
 (Q (AV.bool Bool.true) [(Blk.cells [(AV.int IntKind.u64 (Int.ofNat 0)), (AV.int IntKind.u64 (Int.ofNat 0)), (AV.int IntKind.u64 (Int.ofNat 0)), (AV.int IntKind.u64 (Int.ofNat 0)), (AV.int IntKind.u64 (Int.ofNat 0)), (AV.int IntKind.u64 (Int.ofNat 0)), (AV.int IntKind.u64 (Int.ofNat 0)), (AV.int IntKind.u64 (Int.ofNat 0)), (AV.int IntKind.u64 (Int.ofNat 0)), (AV.int IntKind.u64 (Int.ofNat 0)), (AV.int IntKind.u64 (Int.ofNat 0)), (AV.int IntKind.u64 (Int.ofNat 0)), (AV.int IntKind.u64 (Int.ofNat 0)), (AV.int IntKind.u64 (Int.ofNat 0)), (AV.int IntKind.u64 (Int.ofNat 0)), (AV.int IntKind.u64 (Int.ofNat 0)), (AV.int IntKind.u64 (Int.ofNat 0)), (AV.int IntKind.u64 (Int.ofNat 0)), (AV.int IntKind.u64 (Int.ofNat 0)), (AV.int IntKind.u64 (Int.ofNat 0)), (AV.int IntKind.u64 (Int.ofNat 0)), (AV.int IntKind.u64 (Int.ofNat 0)), (AV.int IntKind.u64 (Int.ofNat 0)), (AV.int IntKind.u64 (Int.ofNat 0)), (AV.int IntKind.u64 (Int.ofNat 0))]), (Blk.cells (ops0.spl [(AV.int IntKind.u64 (Int.ofNat 0)), (AV.int IntKind.u64 (Int.ofNat 0)), (AV.int IntKind.u64 (Int.ofNat 0)), (AV.int IntKind.u64 (Int.ofNat 0)), (AV.int IntKind.u64 (Int.ofNat 0)), (AV.int IntKind.u64 (Int.ofNat 0)), (AV.int IntKind.u64 (Int.ofNat 0)), (AV.int IntKind.u64 (Int.ofNat 0)), (AV.int IntKind.u64 (Int.ofNat 0)), (AV.int IntKind.u64 (Int.ofNat 0)), (AV.int IntKind.u64 (Int.ofNat 0)), (AV.int IntKind.u64 (Int.ofNat 0)), (AV.int IntKind.u64 (Int.ofNat 0)), (AV.int IntKind.u64 (Int.ofNat 0)), (AV.int IntKind.u64 (Int.ofNat 0)), (AV.int IntKind.u64 (Int.ofNat 0)), (AV.int IntKind.u64 (Int.ofNat 0)), (AV.int IntKind.u64 (Int.ofNat 0)), (AV.int IntKind.u64 (Int.ofNat 0)), (AV.int IntKind.u64 (Int.ofNat 0)), (AV.int IntKind.u64 (Int.ofNat 0)), (AV.int IntKind.u64 (Int.ofNat 0)), (AV.int IntKind.u64 (Int.ofNat 0)), (AV.int IntKind.u64 (Int.ofNat 0)), (AV.int IntKind.u64 (Int.ofNat 0))] 0 (AF.rnd S [(AV.int IntKind.u64 (Int.ofNat 0)), (AV.int IntKind.u64 (Int.ofNat 0)), (AV.int IntKind.u64 (Int.ofNat 0)), (AV.int IntKind.u64 (Int.ofNat 0)), (AV.int IntKind.u64 (Int.ofNat 0)), (AV.int IntKind.u64 (Int.ofNat 0)), (AV.int IntKind.u64 (Int.ofNat 0)), (AV.int IntKind.u64 (Int.ofNat 0)), (AV.int IntKind.u64 (Int.ofNat 0)), (AV.int IntKind.u64 (Int.ofNat 0)), (AV.int IntKind.u64 (Int.ofNat 0)), (AV.int IntKind.u64 (Int.ofNat 0)), (AV.int IntKind.u64 (Int.ofNat 0)), (AV.int IntKind.u64 (Int.ofNat 0)), (AV.int IntKind.u64 (Int.ofNat 0)), (AV.int IntKind.u64 (Int.ofNat 0)), (AV.int IntKind.u64 (Int.ofNat 0)), (AV.int IntKind.u64 (Int.ofNat 0)), (AV.int IntKind.u64 (Int.ofNat 0)), (AV.int IntKind.u64 (Int.ofNat 0)), (AV.int IntKind.u64 (Int.ofNat 0)), (AV.int IntKind.u64 (Int.ofNat 0)), (AV.int IntKind.u64 (Int.ofNat 0)), (AV.int IntKind.u64 (Int.ofNat 0)), (AV.int IntKind.u64 (Int.ofNat 0))] n))), (Blk.cells [(AV.int IntKind.u64 (AF.cst S n)), (AV.int IntKind.u64 (Int.ofNat 0)), (AV.int IntKind.u64 (Int.ofNat 0)), (AV.int IntKind.u64 (Int.ofNat 0)), (AV.int IntKind.u64 (Int.ofNat 0)), (AV.int IntKind.u64 (Int.ofNat 0)), (AV.int IntKind.u64 (Int.ofNat 0)), (AV.int IntKind.u64 (Int.ofNat 0)), (AV.int IntKind.u64 (Int.ofNat 0)), (AV.int IntKind.u64 (Int.ofNat 0)), (AV.int IntKind.u64 (Int.ofNat 0)), (AV.int IntKind.u64 (Int.ofNat 0)), (AV.int IntKind.u64 (Int.ofNat 0)), (AV.int IntKind.u64 (Int.ofNat 0)), (AV.int IntKind.u64 (Int.ofNat 0)), (AV.int IntKind.u64 (Int.ofNat 0)), (AV.int IntKind.u64 (Int.ofNat 0)), (AV.int IntKind.u64 (Int.ofNat 0)), (AV.int IntKind.u64 (Int.ofNat 0)), (AV.int IntKind.u64 (Int.ofNat 0)), (AV.int IntKind.u64 (Int.ofNat 0)), (AV.int IntKind.u64 (Int.ofNat 0)), (AV.int IntKind.u64 (Int.ofNat 0)), (AV.int IntKind.u64 (Int.ofNat 0)), (AV.int IntKind.u64 (Int.ofNat 0))])] [2, 1])
 (Q (AV.bool Bool.false) [(Blk.cells [(AV.int IntKind.u64 (Int.ofNat 0)), (AV.int IntKind.u64 (Int.ofNat 0)), (AV.int IntKind.u64 (Int.ofNat 0)), (AV.int IntKind.u64 (Int.ofNat 0)), (AV.int IntKind.u64 (Int.ofNat 0)), (AV.int IntKind.u64 (Int.ofNat 0)), (AV.int IntKind.u64 (Int.ofNat 0)), (AV.int IntKind.u64 (Int.ofNat 0)), (AV.int IntKind.u64 (Int.ofNat 0)), (AV.int IntKind.u64 (Int.ofNat 0)), (AV.int IntKind.u64 (Int.ofNat 0)), (AV.int IntKind.u64 (Int.ofNat 0)), (AV.int IntKind.u64 (Int.ofNat 0)), (AV.int IntKind.u64 (Int.ofNat 0)), (AV.int IntKind.u64 (Int.ofNat 0)), (AV.int IntKind.u64 (Int.ofNat 0)), (AV.int IntKind.u64 (Int.ofNat 0)), (AV.int IntKind.u64 (Int.ofNat 0)), (AV.int IntKind.u64 (Int.ofNat 0)), (AV.int IntKind.u64 (Int.ofNat 0)), (AV.int IntKind.u64 (Int.ofNat 0)), (AV.int IntKind.u64 (Int.ofNat 0)), (AV.int IntKind.u64 (Int.ofNat 0)), (AV.int IntKind.u64 (Int.ofNat 0)), (AV.int IntKind.u64 (Int.ofNat 0))]), (Blk.cells (ops0.spl [(AV.int IntKind.u64 (Int.ofNat 0)), (AV.int IntKind.u64 (Int.ofNat 0)), (AV.int IntKind.u64 (Int.ofNat 0)), (AV.int IntKind.u64 (Int.ofNat 0)), (AV.int IntKind.u64 (Int.ofNat 0)), (AV.int IntKind.u64 (Int.ofNat 0)), (AV.int IntKind.u64 (Int.ofNat 0)), (AV.int IntKind.u64 (Int.ofNat 0)), (AV.int IntKind.u64 (Int.ofNat 0)), (AV.int IntKind.u64 (Int.ofNat 0)), (AV.int IntKind.u64 (Int.ofNat 0)), (AV.int IntKind.u64 (Int.ofNat 0)), (AV.int IntKind.u64 (Int.ofNat 0)), (AV.int IntKind.u64 (Int.ofNat 0)), (AV.int IntKind.u64 (Int.ofNat 0)), (AV.int IntKind.u64 (Int.ofNat 0)), (AV.int IntKind.u64 (Int.ofNat 0)), (AV.int IntKind.u64 (Int.ofNat 0)), (AV.int IntKind.u64 (Int.ofNat 0)), (AV.int IntKind.u64 (Int.ofNat 0)), (AV.int IntKind.u64 (Int.ofNat 0)), (AV.int IntKind.u64 (Int.ofNat 0)), (AV.int IntKind.u64 (Int.ofNat 0)), (AV.int IntKind.u64 (Int.ofNat 0)), (AV.int IntKind.u64 (Int.ofNat 0))] 0 (AF.rnd S [(AV.int IntKind.u64 (Int.ofNat 0)), (AV.int IntKind.u64 (Int.ofNat 0)), (AV.int IntKind.u64 (Int.ofNat 0)), (AV.int IntKind.u64 (Int.ofNat 0)), (AV.int IntKind.u64 (Int.ofNat 0)), (AV.int IntKind.u64 (Int.ofNat 0)), (AV.int IntKind.u64 (Int.ofNat 0)), (AV.int IntKind.u64 (Int.ofNat 0)), (AV.int IntKind.u64 (Int.ofNat 0)), (AV.int IntKind.u64 (Int.ofNat 0)), (AV.int IntKind.u64 (Int.ofNat 0)), (AV.int IntKind.u64 (Int.ofNat 0)), (AV.int IntKind.u64 (Int.ofNat 0)), (AV.int IntKind.u64 (Int.ofNat 0)), (AV.int IntKind.u64 (Int.ofNat 0)), (AV.int IntKind.u64 (Int.ofNat 0)), (AV.int IntKind.u64 (Int.ofNat 0)), (AV.int IntKind.u64 (Int.ofNat 0)), (AV.int IntKind.u64 (Int.ofNat 0)), (AV.int IntKind.u64 (Int.ofNat 0)), (AV.int IntKind.u64 (Int.ofNat 0)), (AV.int IntKind.u64 (Int.ofNat 0)), (AV.int IntKind.u64 (Int.ofNat 0)), (AV.int IntKind.u64 (Int.ofNat 0)), (AV.int IntKind.u64 (Int.ofNat 0))] n))), (Blk.cells [(AV.int IntKind.u64 (AF.cst S n)), (AV.int IntKind.u64 (Int.ofNat 0)), (AV.int IntKind.u64 (Int.ofNat 0)), (AV.int IntKind.u64 (Int.ofNat 0)), (AV.int IntKind.u64 (Int.ofNat 0)), (AV.int IntKind.u64 (Int.ofNat 0)), (AV.int IntKind.u64 (Int.ofNat 0)), (AV.int IntKind.u64 (Int.ofNat 0)), (AV.int IntKind.u64 (Int.ofNat 0)), (AV.int IntKind.u64 (Int.ofNat 0)), (AV.int IntKind.u64 (Int.ofNat 0)), (AV.int IntKind.u64 (Int.ofNat 0)), (AV.int IntKind.u64 (Int.ofNat 0)), (AV.int IntKind.u64 (Int.ofNat 0)), (AV.int IntKind.u64 (Int.ofNat 0)), (AV.int IntKind.u64 (Int.ofNat 0)), (AV.int IntKind.u64 (Int.ofNat 0)), (AV.int IntKind.u64 (Int.ofNat 0)), (AV.int IntKind.u64 (Int.ofNat 0)), (AV.int IntKind.u64 (Int.ofNat 0)), (AV.int IntKind.u64 (Int.ofNat 0)), (AV.int IntKind.u64 (Int.ofNat 0)), (AV.int IntKind.u64 (Int.ofNat 0)), (AV.int IntKind.u64 (Int.ofNat 0)), (AV.int IntKind.u64 (Int.ofNat 0))])] [2, 1]))))
 (Q (AV.bool Bool.false) [(Blk.cells [(AV.int IntKind.u64 (Int.ofNat 0)), (AV.int IntKind.u64 (Int.ofNat 0)), (AV.int IntKind.u64 (Int.ofNat 0)), (AV.int IntKind.u64 (Int.ofNat 0)), (AV.int IntKind.u64 (Int.ofNat 0)), (AV.int IntKind.u64 (Int.ofNat 0)), (AV.int IntKind.u64 (Int.ofNat 0)), (AV.int IntKind.u64 (Int.ofNat 0)), (AV.int IntKind.u64 (Int.ofNat 0)), (AV.int IntKind.u64 (Int.ofNat 0)), (AV.int IntKind.u64 (Int.ofNat 0)), (AV.int IntKind.u64 (Int.ofNat 0)), (AV.int IntKind.u64 (Int.ofNat 0)), (AV.int IntKind.u64 (Int.ofNat 0)), (AV.int IntKind.u64 (Int.ofNat 0)), (AV.int IntKind.u64 (Int.ofNat 0)), (AV.int IntKind.u64 (Int.ofNat 0)), (AV.int IntKind.u64 (Int.ofNat 0)), (AV.int IntKind.u64 (Int.ofNat 0)), (AV.int IntKind.u64 (Int.ofNat 0)), (AV.int IntKind.u64 (Int.ofNat 0)), (AV.int IntKind.u64 (Int.ofNat 0)), (AV.int IntKind.u64 (Int.ofNat 0)), (AV.int IntKind.u64 (Int.ofNat 0)), (AV.int IntKind.u64 (Int.ofNat 0))]), (Blk.cells (ops0.spl [(AV.int IntKind.u64 (Int.ofNat 0)), (AV.int IntKind.u64 (Int.ofNat 0)), (AV.int IntKind.u64 (Int.ofNat 0)), (AV.int IntKind.u64 (Int.ofNat 0)), (AV.int IntKind.u64 (Int.ofNat 0)), (AV.int IntKind.u64 (Int.ofNat 0)), (AV.int IntKind.u64 (Int.ofNat 0)), (AV.int IntKind.u64 (Int.ofNat 0)), (AV.int IntKind.u64 (Int.ofNat 0)), (AV.int IntKind.u64 (Int.ofNat 0)), (AV.int IntKind.u64 (Int.ofNat 0)), (AV.int IntKind.u64 (Int.ofNat 0)), (AV.int IntKind.u64 (Int.ofNat 0)), (AV.int IntKind.u64 (Int.ofNat 0)), (AV.int IntKind.u64 (Int.ofNat 0)), (AV.int IntKind.u64 (Int.ofNat 0)), (AV.int IntKind.u64 (Int.ofNat 0)), (AV.int IntKind.u64 (Int.ofNat 0)), (AV.int IntKind.u64 (Int.ofNat 0)), (AV.int IntKind.u64 (Int.ofNat 0)), (AV.int IntKind.u64 (Int.ofNat 0)), (AV.int IntKind.u64 (Int.ofNat 0)), (AV.int IntKind.u64 (Int.ofNat 0)), (AV.int IntKind.u64 (Int.ofNat 0)), (AV.int IntKind.u64 (Int.ofNat 0))] 0 (AF.rnd S [(AV.int IntKind.u64 (Int.ofNat 0)), (AV.int IntKind.u64 (Int.ofNat 0)), (AV.int IntKind.u64 (Int.ofNat 0)), (AV.int IntKind.u64 (Int.ofNat 0)), (AV.int IntKind.u64 (Int.ofNat 0)), (AV.int IntKind.u64 (Int.ofNat 0)), (AV.int IntKind.u64 (Int.ofNat 0)), (AV.int IntKind.u64 (Int.ofNat 0)), (AV.int IntKind.u64 (Int.ofNat 0)), (AV.int IntKind.u64 (Int.ofNat 0)), (AV.int IntKind.u64 (Int.ofNat 0)), (AV.int IntKind.u64 (Int.ofNat 0)), (AV.int IntKind.u64 (Int.ofNat 0)), (AV.int IntKind.u64 (Int.ofNat 0)), (AV.int IntKind.u64 (Int.ofNat 0)), (AV.int IntKind.u64 (Int.ofNat 0)), (AV.int IntKind.u64 (Int.ofNat 0)), (AV.int IntKind.u64 (Int.ofNat 0)), (AV.int IntKind.u64 (Int.ofNat 0)), (AV.int IntKind.u64 (Int.ofNat 0)), (AV.int IntKind.u64 (Int.ofNat 0)), (AV.int IntKind.u64 (Int.ofNat 0)), (AV.int IntKind.u64 (Int.ofNat 0)), (AV.int IntKind.u64 (Int.ofNat 0)), (AV.int IntKind.u64 (Int.ofNat 0))] n))), (Blk.cells [(AV.int IntKind.u64 (AF.cst S n)), (AV.int IntKind.u64 (Int.ofNat 0)), (AV.int IntKind.u64 (Int.ofNat 0)), (AV.int IntKind.u64 (Int.ofNat 0)), (AV.int IntKind.u64 (Int.ofNat 0)), (AV.int IntKind.u64 (Int.ofNat 0)), (AV.int IntKind.u64 (Int.ofNat 0)), (AV.int IntKind.u64 (Int.ofNat 0)), (AV.int IntKind.u64 (Int.ofNat 0)), (AV.int IntKind.u64 (Int.ofNat 0)), (AV.int IntKind.u64 (Int.ofNat 0)), (AV.int IntKind.u64 (Int.ofNat 0)), (AV.int IntKind.u64 (Int.ofNat 0)), (AV.int IntKind.u64 (Int.ofNat 0)), (AV.int IntKind.u64 (Int.ofNat 0)), (AV.int IntKind.u64 (Int.ofNat 0)), (AV.int IntKind.u64 (Int.ofNat 0)), (AV.int IntKind.u64 (Int.ofNat 0)), (AV.int IntKind.u64 (Int.ofNat 0)), (AV.int IntKind.u64 (Int.ofNat 0)), (AV.int IntKind.u64 (Int.ofNat 0)), (AV.int IntKind.u64 (Int.ofNat 0)), (AV.int IntKind.u64 (Int.ofNat 0)), (AV.int IntKind.u64 (Int.ofNat 0)), (AV.int IntKind.u64 (Int.ofNat 0))])] [2, 1])))))))))))))) := by kernel_rfl

theorem ckLe {k : Nat} {xs : List AV} {r : Prop} (h : xs.length = k) (q : r) : Chk (ops0.le k (ops0.len xs)) r := Chk.mk (by rw [nLe, nLen]; exact decide_eq_true (by omega)) q
theorem ckEq {k : Nat} {xs : List AV} {r : Prop} (h : xs.length = k) (q : r) : Chk (ops0.eq (ops0.len xs) k) r := Chk.mk (by rw [nEq, nLen]; exact decide_eq_true h) q
theorem extAll {k : Nat} {xs : List AV} (h : xs.length = k) : ops0.ext xs 0 k = xs := by rw [nExt, List.drop_zero, List.take_of_length_le (by omega)]
theorem brEqi {l m : List Int} {r t : Prop} (h : l = m) (q : r) : Br (ops0.eqi l m) r t := Br.t (by rw [nEqi]; exact decide_eq_true h) q
theorem brEql {a b : Int} {r t : Prop} (h : a = b) (q : r) : Br (ops0.cmp .eql a b) r t := Br.t (by subst h; show (a == a) = true; simp) q

/-! ### Rounds -/
theorem rndZ_length {s : List Int} (hs : s.length = 25) (n : Int) : (rndZ s n).length = 25 := by
  unfold rndZ
  split
  · exact (rnd_ok hs _).1
  · exact hs
theorem rnd_st (s : List Int) {i : Nat} (h : i < 24) : rndZ (st s i) (Int.ofNat i) = st s (i + 1) := by
  unfold rndZ
  rw [if_pos ⟨by simp, by simp; omega⟩]
  rfl

theorem loop8 (n : Int) (cs : List AV) (s : List Int) (hs : s.length = 25) :
    ∀ lg, LoopTo Try.prog 0 lp8 (fr8 n (Int.ofNat 0)) [.cells cs, .cells (s.map w)] lg (.exit 0) (fr8 n (Int.ofNat 24)) [.cells cs, .cells ((st s 24).map w)] (List.range 0 ++ lg) := by
  have h := loop_chain (P := Try.prog) (n0 := 0) (b := lp8) (ex := .exit 0) (fr' := fr8 n (Int.ofNat 24)) (H' := [.cells cs, .cells ((st s 24).map w)]) (by intro h; cases h)
    (fun i => (fr8 n (Int.ofNat i), [.cells cs, .cells ((st s i).map w)])) 24 0 (fun i _ hi => ?_) ?_
  · simpa [st] using h
  · have hi' : i < 24 := by omega
    have hl := st_length hs i
    have hl2 := st_length hs (i + 1)
    have hw : ((st s i).map w).length = 25 := by rw [List.length_map, hl]
    have hw2 : ((st s (i + 1)).map w).length = 25 := by rw [List.length_map, hl2]
    have key : ∀ Q : Ex → Fr → Hl → Prop, Q .norm (fr8 n (Int.ofNat (i + 1))) [.cells cs, .cells ((st s (i + 1)).map w)] →
        vm (vcA kdYes (cnB af0) noLn) ops0 noTab 100 0 lp8 (fr8 n (Int.ofNat i)) [.cells cs, .cells ((st s i).map w)] [] (bodyX mk8 Q) := by
      intro Q hQ
      rw [vcl8, nAdd (by omega), extAll hw]
      have e3 : AF.rnd af0 ((st s i).map w) (Int.ofNat i) = (st s (i + 1)).map w := by
        show (rndZ (intsA ((st s i).map w)) (Int.ofNat i)).map w = _
        rw [intA_w, rnd_st s hi']
      rw [e3, spl_all (by rw [hw, hw2])]
      exact Br.t (by rw [nLss]; exact decide_eq_true hi') (ckLe hw ⟨⟨_, hl, rfl⟩, ckEq hw2 (ckLe hw hQ)⟩)
    exact body_x cnB_ok (noLn_ok _) (noTab_ok _) (n := 100) (g := kdYes) (bs := mk8) (key _ ⟨rfl, rfl, rfl⟩) (by simp)
  · refine body_x cnB_ok (noLn_ok _) (noTab_ok _) (n := 100) (g := kdYes) (bs := mk8) ?_ (by simp)
    rw [vcl8]
    exact Br.f rfl ⟨rfl, rfl, rfl⟩

def rounds24 (xs : List AV) : List AV := (st (intsA xs) 24).map w
theorem ln8_ok : LnOK Try.prog (ln8 rounds24) := by
  intro n0 b fr H p x e hn hp lg
  unfold ln8 at e
  split at e <;> cases e
  rename_i n cs xs h1
  obtain ⟨rfl, hb, hf, s, hs, rfl⟩ := hp
  have hb : b = lp8 := hb
  subst hb
  show LoopTo _ _ _ _ _ _ _ _ [.cells cs, .cells ((st (intsA (s.map w)) 24).map w)] _
  rw [intA_w]
  refine LoopTo.pre (Weak.forget (by simp) mk8) ?_ lg
  rw [hf]
  exact loop8 n cs s hs

theorem law8 (s : List Int) (hs : s.length = 25) (n : Int) : ∃ H' lg, CallTo Try.prog 8 [.agg (s.map (AV.int .u64)), .int .i64 n] [] (.bool true) H' lg := by
  have hw : (s.map w).length = 25 := by rw [List.length_map, hs]
  have hr := rndZ_length hs n
  have hrw : ((rndZ s n).map w).length = 25 := by rw [List.length_map, hr]
  have ha : (allF s).length = 25 := st_length hs 24
  have haw : ((allF s).map w).length = 25 := by rw [List.length_map, ha]
  have hv : vcall (vcA kdYes (cnB af0) (ln8 rounds24)) ops0 (tabOne 8 vf8) 200 vf8 [.agg (s.map w), .int .i64 n] [] (fun r _ _ => r = .bool true) := by
    rw [vc8]
    have e3 : AF.rnd af0 (s.map w) n = (rndZ s n).map w := by
      show (rndZ (intsA (s.map w)) n).map w = _
      rw [intA_w]
    have e4 : AF.rnds af0 (s.map w) = (allF s).map w := by
      show (allF (intsA (s.map w))).map w = _
      rw [intA_w]
    have e5 : rounds24 (s.map w) = (allF s).map w := by
      show (st (intsA (s.map w)) 24).map w = _
      rw [intA_w]; rfl
    rw [extAll hw, spl_all (by rw [hw]; rfl), e3, e4, e5, extAll hrw, extAll haw, extAll haw]
    have hp : PW (s.map w) := ⟨s, hs, rfl⟩
    exact ckLe hw (ckEq hw ⟨⟨rfl, rfl, rfl, hp⟩, trivial, ckLe hw ⟨hp, ckLe hw ⟨hp, ckEq hrw (ckEq hrw (ckLe hrw (ckLe hrw ⟨rndZ s n, rfl, rndZ s n, rfl, brEqi rfl
      (ckLe hw ⟨hp, ckLe hw ⟨hp, ckEq haw (ckEq haw (ckLe haw (ckLe haw ⟨allF s, rfl, allF s, rfl, brEqi rfl
        (ckLe haw (ckLe hw ⟨hp, ckEq haw (ckEq haw (ckLe haw (ckLe haw ⟨allF s, rfl, allF s, rfl, brEqi rfl rfl⟩)))⟩))⟩)))⟩⟩)⟩)))⟩⟩⟩)
  obtain ⟨r, H', lg, hc, rfl⟩ := call_vcx cnB_ok ln8_ok (tabOne_ok ok8) (tabOne_self 8 vf8) hv
  exact ⟨H', lg, hc⟩

/-! ### A round of zeros -/
theorem rnd_zer (c : Int) : rnd zer c = [bin0 .xor .u64 0 c, 0, 0, 0, 0, 0, 0, 0, 0, 0, 0, 0, 0, 0, 0, 0, 0, 0, 0, 0, 0, 0, 0, 0, 0] := by kernel_rfl
theorem rcs_inW : ∀ c ∈ rcs, inW c := by
  intro c hc
  simp only [rcs, List.mem_cons, List.not_mem_nil, or_false] at hc
  rcases hc with h | h | h | h | h | h | h | h | h | h | h | h | h | h | h | h | h | h | h | h | h | h | h | h <;> subst h <;> exact ⟨by decide, by decide⟩
theorem zero_xor {c : Int} (h : inW c) : bin0 .xor .u64 0 c = c := by
  rw [xor_eq]
  have : toB 0 = 0#64 := rfl
  rw [this, BitVec.zero_xor, toB_inW h]
theorem rndZ_zer (n : Int) : rndZ zer n = [cstF n, 0, 0, 0, 0, 0, 0, 0, 0, 0, 0, 0, 0, 0, 0, 0, 0, 0, 0, 0, 0, 0, 0, 0, 0] := by
  unfold rndZ cstF
  by_cases h : 0 ≤ n ∧ n < 24
  · rw [if_pos h, if_pos h]
    unfold rndN
    rw [rnd_zer, zero_xor]
    have hl : n.toNat < rcs.length := by show n.toNat < 24; omega
    rw [List.getD_eq_getElem?_getD, List.getElem?_eq_getElem hl]
    exact rcs_inW _ (List.getElem_mem hl)
  · rw [if_neg h, if_neg h]
    rfl

theorem law9 (n : Int) : ∃ H' lg, CallTo Try.prog 9 [.int .i64 n] [] (.bool true) H' lg := by
  have hv : vcall (vcA kdYes (cnB af0) noLn) ops0 (tabOne 9 vf9) 100 vf9 [.int .i64 n] [] (fun r _ _ => r = .bool true) := by
    rw [vc9]
    have e3 : AF.rnd af0 (zer.map w) n = [cstF n, 0, 0, 0, 0, 0, 0, 0, 0, 0, 0, 0, 0, 0, 0, 0, 0, 0, 0, 0, 0, 0, 0, 0, 0].map w := by
      show (rndZ (intsA (zer.map w)) n).map w = _
      rw [intA_w, rndZ_zer]
    have e4 : AF.cst af0 n = cstF n := rfl
    have ez : zer.map w = [AV.int .u64 (Int.ofNat 0), AV.int .u64 (Int.ofNat 0), AV.int .u64 (Int.ofNat 0), AV.int .u64 (Int.ofNat 0), AV.int .u64 (Int.ofNat 0), AV.int .u64 (Int.ofNat 0), AV.int .u64 (Int.ofNat 0), AV.int .u64 (Int.ofNat 0), AV.int .u64 (Int.ofNat 0), AV.int .u64 (Int.ofNat 0), AV.int .u64 (Int.ofNat 0), AV.int .u64 (Int.ofNat 0), AV.int .u64 (Int.ofNat 0), AV.int .u64 (Int.ofNat 0), AV.int .u64 (Int.ofNat 0), AV.int .u64 (Int.ofNat 0), AV.int .u64 (Int.ofNat 0), AV.int .u64 (Int.ofNat 0), AV.int .u64 (Int.ofNat 0), AV.int .u64 (Int.ofNat 0), AV.int .u64 (Int.ofNat 0), AV.int .u64 (Int.ofNat 0), AV.int .u64 (Int.ofNat 0), AV.int .u64 (Int.ofNat 0), AV.int .u64 (Int.ofNat 0)] := rfl
    rw [← ez, e3, e4, spl_all (z := zer.map w) (xs := [cstF n, 0, 0, 0, 0, 0, 0, 0, 0, 0, 0, 0, 0, 0, 0, 0, 0, 0, 0, 0, 0, 0, 0, 0, 0].map w) rfl, extAll (k := 25) (xs := [cstF n, 0, 0, 0, 0, 0, 0, 0, 0, 0, 0, 0, 0, 0, 0, 0, 0, 0, 0, 0, 0, 0, 0, 0, 0].map w) rfl, extAll (k := 25) (xs := [cstF n, 0, 0, 0, 0, 0, 0, 0, 0, 0, 0, 0, 0, 0, 0, 0, 0, 0, 0, 0, 0, 0, 0, 0, 0].map w) rfl]
    exact ⟨⟨zer, rfl, rfl⟩, ckEq rfl ⟨trivial, trivial, ckLe rfl (ckEq rfl (ckLe rfl ⟨_, rfl, [cstF n, 0, 0, 0, 0, 0, 0, 0, 0, 0, 0, 0, 0, 0, 0, 0, 0, 0, 0, 0, 0, 0, 0, 0, 0], rfl, brEqi rfl ⟨trivial, trivial, brEql rfl rfl⟩⟩))⟩⟩
  obtain ⟨r, H', lg, hc, rfl⟩ := call_vcx cnB_ok (noLn_ok _) (tabOne_ok ok9) (tabOne_self 9 vf9) hv
  exact ⟨H', lg, hc⟩

end
end Go.Proofs.Vm

namespace Go.Proofs.Vm
open Go.Vm Go.ChangeShapes Go.WideShapes Go.ChangeAt Go.RowKit

theorem bulk_one {H : Type} (d : DataW H) : 1 ≤ Ytfmhlogapbpnbaa.Rows.uptoBulk d := by
  cases d with
  | lit l => cases l <;> simp [Ytfmhlogapbpnbaa.Rows.uptoBulk]
  | nil => simp [Ytfmhlogapbpnbaa.Rows.uptoBulk]
  | ptr d => simp [Ytfmhlogapbpnbaa.Rows.uptoBulk]
  | slice elems spare => simp [Ytfmhlogapbpnbaa.Rows.uptoBulk]
  | agg parts => simp [Ytfmhlogapbpnbaa.Rows.uptoBulk]
  | iface t d => simp [Ytfmhlogapbpnbaa.Rows.uptoBulk]
  | map entries => simp [Ytfmhlogapbpnbaa.Rows.uptoBulk]
  | held h => simp [Ytfmhlogapbpnbaa.Rows.uptoBulk]
theorem bulk_part {H : Type} {d : DataW H} {l : List (DataW H)} (h : d ∈ l) : Ytfmhlogapbpnbaa.Rows.uptoBulk d ≤ Ytfmhlogapbpnbaa.Rows.uptoBulkAll l := by
  induction l with
  | nil => cases h
  | cons x r ih =>
    simp only [Ytfmhlogapbpnbaa.Rows.uptoBulkAll]
    cases List.mem_cons.1 h with
    | inl e => subst e; omega
    | inr e => have := ih e; omega
theorem bulk_length {H : Type} (l : List (DataW H)) : l.length ≤ Ytfmhlogapbpnbaa.Rows.uptoBulkAll l := by
  induction l with
  | nil => simp [Ytfmhlogapbpnbaa.Rows.uptoBulkAll]
  | cons x r ih => have := bulk_one x; simp only [Ytfmhlogapbpnbaa.Rows.uptoBulkAll, List.length_cons]; omega
theorem bulk_slice {H : Type} (elems spare : List (DataW H)) : elems.length ≤ Ytfmhlogapbpnbaa.Rows.uptoBulk (.slice elems spare) := by
  have h1 := bulk_length elems
  simp only [Ytfmhlogapbpnbaa.Rows.uptoBulk]
  omega

theorem by8_int {n : Int} (h : (Lit.int .u8 n).wf = true) : by8 (UInt8.ofNat n.toNat) = .int .u8 n := by
  have hx : 0 ≤ n ∧ n ≤ 255 := by simpa [Lit.wf, IntKind.min, IntKind.max, IntKind.signed, IntKind.bits] using h
  unfold by8
  congr 1
  rw [UInt8.toNat_ofNat_of_lt' (by show _ < 256; omega)]
  simp only [Int.ofNat_eq_natCast]
  omega

/-- The number in a value. -/
def intA' : Value → Int
  | .int _ n => n
  | _ => 0

set_option maxRecDepth 100000

/-- A slice of bytes that came in. -/
theorem open_bytes {H : Type} {enc : TypeId × Value → H} {W : World} {base : Nat} {t e : TypeId} {v : Value} {d : DataW H} {p : List MemPlace} (ht : Try.prog.underlying t = some (.slice e)) (he : Try.prog.underlying e = some (.int .u8)) (hc : Try.prog.cellsOf e = 1)
    (hval : Value.okWide Try.prog W .any base t v) (h : DataW.Trod enc Try.prog W 0 (fun _ => true) true t v d p) :
    ∃ (pc : List AV) (off len cap : Nat) (ex : Bool) (lb : List UInt8), VRel noRho W (.ros pc off len cap ex) v ∧ flatL pc ∧ off + len ≤ pc.length ∧ BytesAt pc off len lb ∧ len ≤ Ytfmhlogapbpnbaa.Rows.uptoBulk d ∧ len ≤ cap := by
  obtain ⟨a0, len, cap, rfl⟩ := okWide_slice ht hval
  obtain ⟨fuel, hf⟩ := h
  rcases open_ints ht he hc hf with ⟨hcs, hx⟩ | ⟨a, len', cap', zs, hcs, _, hl, hm, hz, hx, hcell, hwz⟩
  · simp [Value.cells] at hcs
    obtain ⟨rfl, rfl, rfl⟩ := hcs
    exact ⟨[], 0, 0, 0, true, [], .ros [] 0 0 0 true 0 0 none 0 [] (fun h => absurd rfl h) (fun h => absurd rfl h) rfl (by simp) (by simp) (by simp) (Nat.le_refl _) (Nat.le_refl _) (fun _ => rfl) (fun h => absurd rfl h), fun a ha => (by cases ha), by simp, ⟨rfl, rfl⟩, Nat.zero_le _, Nat.le_refl _⟩
  · simp [Value.cells] at hcs
    obtain ⟨rfl, rfl, rfl⟩ := hcs
    simp only [if_true] at hz
    simp only [Prod.mk.injEq] at hx
    obtain ⟨rfl, _⟩ := hx
    have hspot : zs ≠ [] → a = ⟨a.block, a.off, none⟩ := by
      intro hn
      have h0 : 0 < zs.length := List.length_pos_iff.2 hn
      have := hcell 0 h0
      simp only [Addr.add, if_true, World.cell?] at this
      obtain ⟨b, o, s⟩ := a
      cases s with
      | none => rfl
      | some k =>
        exfalso
        split at this <;> simp at this
    have hlt : zs ≠ [] → a.block < W.heap.size := by
      intro hn
      have h0 : 0 < zs.length := List.length_pos_iff.2 hn
      have := hcell 0 h0
      simp only [Addr.add, if_true, World.cell?] at this
      rcases Nat.lt_or_ge a.block W.heap.size with h' | h'
      · exact h'
      · simp [Array.getElem?_eq_none h'] at this
    refine ⟨zs.map (AV.int .u8), 0, len, zs.length, true, (zs.take len).map fun n => UInt8.ofNat n.toNat, ?_, ?_, ?_, ⟨by simp; omega, ?_⟩, ?_, by omega⟩
    · subst hz
      refine .ros (zs.map (AV.int .u8)) 0 len zs.length true a.block a.off (some a) zs.length (zs.map (Value.int .u8)) (fun hn => hlt (by intro e; subst e; exact hn rfl)) (fun _ b F' h => by cases h) (by simp) ?_ ?_ ?_ (Nat.le_refl _) hl (fun _ => rfl) ?_
      · intro v hv
        obtain ⟨n, _, rfl⟩ := List.mem_map.1 hv
        rfl
      · intro i v hv
        have hi : i < zs.length := by
          have := (List.getElem?_eq_some_iff.1 hv).1
          simpa using this
        have hne : zs ≠ [] := by intro e; subst e; simp at hi
        have := hcell i hi
        rw [hspot hne] at this
        have e2 : (Addr.add ⟨a.block, a.off, none⟩ i) = ⟨a.block, a.off + i, none⟩ := by
          unfold Addr.add
          by_cases h0 : i = 0
          · subst h0; simp
          · rw [if_neg h0]
        rw [e2] at this
        rw [this]
        rw [List.getElem?_map, List.getElem?_eq_getElem hi] at hv
        have e3 : zs.getD i 0 = zs[i] := by simp [hi]
        rw [e3]
        exact hv
      · intro i a v ha hv
        rw [List.getElem?_map] at ha hv
        obtain ⟨n, hn, rfl⟩ := Option.map_eq_some_iff.1 ha
        rw [hn] at hv
        cases hv
        exact .int _ _
      · intro hn
        have hne : zs ≠ [] := by intro e; subst e; exact hn rfl
        exact congrArg some (hspot hne)
    · intro a ha
      obtain ⟨n, _, rfl⟩ := List.mem_map.1 ha
      rfl
    · simp; omega
    · rw [List.drop_zero, ← List.map_take, List.map_map]
      apply List.map_congr_left
      intro n hn
      exact (by8_int (hwz n (List.mem_of_mem_take hn))).symm
    · refine Nat.le_trans ?_ (bulk_slice _ _)
      simp [lits]
      omega

/-- An array of whole numbers that came in. -/
theorem open_arr_ints {W : World} {base : Nat} {t e n : Nat} {k : IntKind} {v : Value} (ht : Try.prog.underlying t = some (.array n e)) (he : Try.prog.underlying e = some (.int k)) (hc : Try.prog.cellsOf t = n) (hts : Try.prog.cellTypes Try.prog.depth t = some (List.replicate n e))
    (hval : Value.okWide Try.prog W .any base t v) : ∃ zs : List Int, v = .agg (zs.map (Value.int k)).toArray ∧ zs.length = n ∧ ∀ z ∈ zs, k.has z := by
  simp only [Value.okWide, ht] at hval
  obtain ⟨cs, rfl, hsz, ts, h1, _, h3⟩ := hval
  rw [hts] at h1
  cases h1
  rw [hc] at hsz
  have each : ∀ (i : Nat) (v : Value), cs[i]? = some v → ∃ z, v = Value.int k z ∧ k.has z := by
    intro i v hv
    obtain ⟨u, hu, hx⟩ := h3 i v hv
    have hue : u = e := by
      rw [List.getElem?_replicate] at hu
      split at hu <;> cases hu
      rfl
    subst hue
    simp only [Cell.okWide, he, Cell.ok] at hx
    cases v <;> simp_all
  refine ⟨cs.toList.map intA', ?_, by simp [hsz], ?_⟩
  · congr 1
    apply Array.ext
    · simp
    · intro i h1 h2
      have hi : cs[i]? = some cs[i] := by simp [h1]
      obtain ⟨z, hz, _⟩ := each i _ hi
      simp [intA', hz]
  · intro z hz
    obtain ⟨v, hv, rfl⟩ := List.mem_map.1 hz
    obtain ⟨i, hi, e⟩ := List.mem_iff_getElem.1 hv
    have hi' : cs[i]? = some v := by
      rw [← e]
      have : i < cs.size := by simpa using hi
      simp [this]
    obtain ⟨z, hz, hh⟩ := each i v hi'
    rw [hz]
    exact hh

theorem arr_rel (w : World) (k : IntKind) (zs : List Int) : VRel noRho w (.agg (zs.map (AV.int k))) (.agg (zs.map (Value.int k)).toArray) := by
  refine .agg _ _ (by simp) (fun v hv => ?_) (fun i a v ha hv => ?_)
  · obtain ⟨n, _, rfl⟩ := List.mem_map.1 hv
    rfl
  · rw [List.getElem?_map] at ha hv
    obtain ⟨n, hn, rfl⟩ := Option.map_eq_some_iff.1 ha
    rw [hn] at hv
    cases hv
    exact .int _ _

end Go.Proofs.Vm
