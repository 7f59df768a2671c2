/-
  KECCAK, PART 30: law of layer 3: what comes out first: its loops.
-/
import Derived.Test.YtfmhlogapbpnbaaYc
import Derived.Test.YtfmhlogapbpnbaaVmKU3
import Derived.Test.YtfmhlogapbpnbaaYg

namespace Go.Proofs.Vm
open Go.Vm
noncomputable section
/-- What the loops come to (kept apart). -/
structure PF where
  pad : List AV → List AV
  add : List AV → List AV → List AV
def P6a (pa ss ms : List AV) (L : Nat) : Prop := flatL pa ∧ L ≤ 168 ∧ (∃ s : List Int, s.length = 25 ∧ ss = s.map w) ∧ ∃ l : List UInt8, l.length = L ∧ ms = l.map by8
def P6b (ss ms : List AV) : Prop := (∃ s : List Int, s.length = 25 ∧ ss = s.map w) ∧ ∃ l : List UInt8, l.length = 168 ∧ ms = l.map by8
def P6c (ss xs : List AV) : Prop := ∃ s : List Int, s.length = 25 ∧ okS s ∧ ss = s.map w ∧ xs = (letL 168 168 (s, 0)).map by8
def lp6a : VC := (.seq (.seq (.reg .false [] [⟨(.some 18), .none, .mov, [(.t 4)]⟩, ⟨(.some 19), .none, .len, [(.t 18)]⟩, ⟨(.some 20), .none, (.cmp .lss), [(.t 19), (.c (.int .i64 (.ofNat 168)))]⟩]) (.cond (.t 20) .skip (.exit 0))) (.block 1 (.reg .false [] [⟨(.some 21), .none, .mov, [(.t 4)]⟩, ⟨(.some 22), .none, (.mks [(.int .u8 (.ofNat 0))] 1 [⟨0, 1⟩]), [(.c (.int .u8 (.ofNat 0)))]⟩, ⟨(.some 23), .none, (.app 1 1), [(.t 21), (.t 22)]⟩, ⟨(.some 4), .none, .mov, [(.t 23)]⟩])))
def fr6a (x0 : AV) (L : Nat) : Fr := [x0, .top, .bool false, .ptr 0 0, .slc 1 0 L L 1, .top, .top, .top, .top, .top, .top, .top, .top, .top, .top, .top, .top, .top, .top, .top, .top, .top, .top, .top, .top, .top, .top, .top, .top, .top, .top, .top, .top, .top, .top, .top, .top, .top, .top, .top, .top, .top, .top, .top, .top, .top, .top, .top, .top, .top, .top, .top, .top, .top, .top, .top, .top, .top, .top, .top, .top, .top, .top, .top, .top, .top, .top, .top, .top, .top, .top, .top, .top, .top, .top, .top, .top, .top, .top, .top, .top]
def mk6a : List Bool := [false, true, false, false, false, true, true, true, true, true, true, true, true, true, true, true, true, true, true, true, true, true, true, true, true, true, true, true, true, true, true, true, true, true, true, true, true, true, true, true, true, true, true, true, true, true, true, true, true, true, true, true, true, true, true, true, true, true, true, true, true, true, true, true, true, true, true, true, true, true, true, true, true, true, true, true, true, true, true, true, true]
def ids6a : Ex → Nat → List Nat
  | .norm, _ => [0, 2]
  | _, _ => [0, 1]
def K6 (Q : Ex → Fr → Hl → Prop) (ex : Ex) (fr : Fr) (H : Hl) (lg : List Nat) : Prop := bodyE 0 ids6a mk6a Q ex fr H lg
def K6c (Q : Ex → Fr → Hl → Prop) (ex : Ex) (fr : Fr) (H : Hl) (lg : List Nat) : Prop := True ∧ K6 Q ex fr H lg
def W6 (fr : Fr) (x0 : AV) (L : Nat) : Prop := wkF [0, 2] mk6a fr = fr6a x0 L
def lp6b : VC := (.seq (.seq (.reg .false [] [⟨(.some 30), .none, .mov, [(.t 5)]⟩, ⟨(.some 31), .none, (.cmp .lss), [(.t 30), (.c (.int .i64 (.ofNat 168)))]⟩]) (.cond (.t 31) .skip (.exit 2))) (.seq (.block 3 (.reg .true [0, 1, 0, 4, 12, 28, 0, 0, 192, 448, 960, 0, 2048, 6144, 16320, 32764, 65535, 131071] [⟨(.some 34), .none, .mov, [(.t 5)]⟩, ⟨(.some 35), .none, (.div .quo .i64), [(.t 34), (.c (.int .i64 (.ofNat 8)))]⟩, ⟨(.some 36), .none, .mov, [(.t 5)]⟩, ⟨(.some 37), .none, (.div .quo .i64), [(.t 36), (.c (.int .i64 (.ofNat 8)))]⟩, ⟨(.some 38), .none, (.ixA 25 1), [(.t 3), (.t 37)]⟩, ⟨(.some 39), .none, (.ld1 (.int .u64)), [(.t 38)]⟩, ⟨(.some 40), .none, .mov, [(.t 4)]⟩, ⟨(.some 41), .none, .mov, [(.t 5)]⟩, ⟨(.some 42), .none, (.ixS 1), [(.t 40), (.t 41)]⟩, ⟨(.some 43), .none, (.ld1 (.int .u8)), [(.t 42)]⟩, ⟨(.some 44), .none, (.cvt .u64), [(.t 43)]⟩, ⟨(.some 45), .none, .mov, [(.t 5)]⟩, ⟨(.some 46), .none, (.div .rem .i64), [(.t 45), (.c (.int .i64 (.ofNat 8)))]⟩, ⟨(.some 47), .none, (.bin .mul .i64), [(.c (.int .i64 (.ofNat 8))), (.t 46)]⟩, ⟨(.some 48), .none, (.shf .shl .u64), [(.t 44), (.t 47)]⟩, ⟨(.some 49), .none, (.bin .xor .u64), [(.t 39), (.t 48)]⟩, ⟨(.some 50), .none, (.ixA 25 1), [(.t 3), (.t 35)]⟩, ⟨.none, .none, .st1, [(.t 50), (.t 49)]⟩])) (.reg .false [] [⟨(.some 32), .none, .mov, [(.t 5)]⟩, ⟨(.some 33), .none, (.bin .add .i64), [(.t 32), (.c (.int .i64 (.ofNat 1)))]⟩, ⟨(.some 5), .none, .mov, [(.t 33)]⟩])))
def fr6b (x0 : AV) (i : Nat) : Fr := [x0, .top, .bool false, .ptr 0 0, .slc 1 0 168 168 1, .int .i64 (Int.ofNat i), .top, .top, .top, .top, .top, .top, .top, .top, .top, .top, .top, .top, .top, .top, .top, .top, .top, .top, .top, .top, .top, .top, .top, .top, .top, .top, .top, .top, .top, .top, .top, .top, .top, .top, .top, .top, .top, .top, .top, .top, .top, .top, .top, .top, .top, .top, .top, .top, .top, .top, .top, .top, .top, .top, .top, .top, .top, .top, .top, .top, .top, .top, .top, .top, .top, .top, .top, .top, .top, .top, .top, .top, .top, .top, .top]
def mk6b : List Bool := [false, true, false, false, false, false, true, true, true, true, true, true, true, true, true, true, true, true, true, true, true, true, true, true, true, true, true, true, true, true, true, true, true, true, true, true, true, true, true, true, true, true, true, true, true, true, true, true, true, true, true, true, true, true, true, true, true, true, true, true, true, true, true, true, true, true, true, true, true, true, true, true, true, true, true, true, true, true, true, true, true]
def lp6c : VC := (.seq (.seq (.reg .false [] [⟨(.some 63), .none, .mov, [(.t 7)]⟩, ⟨(.some 64), .none, (.cmp .lss), [(.t 63), (.c (.int .i64 (.ofNat 168)))]⟩]) (.cond (.t 64) .skip (.exit 4))) (.seq (.block 5 (.seq (.reg .true [0, 0, 3, 7, 0, 16, 48, 112, 0, 256, 768, 2032, 4080, 8191] [⟨(.some 67), .none, .mov, [(.t 6)]⟩, ⟨(.some 68), .none, .mov, [(.t 7)]⟩, ⟨(.some 69), .none, (.ixS 1), [(.t 67), (.t 68)]⟩, ⟨(.some 70), .none, (.ld1 (.int .u8)), [(.t 69)]⟩, ⟨(.some 71), .none, .mov, [(.t 7)]⟩, ⟨(.some 72), .none, (.div .quo .i64), [(.t 71), (.c (.int .i64 (.ofNat 8)))]⟩, ⟨(.some 73), .none, (.ixA 25 1), [(.t 3), (.t 72)]⟩, ⟨(.some 74), .none, (.ld1 (.int .u64)), [(.t 73)]⟩, ⟨(.some 75), .none, .mov, [(.t 7)]⟩, ⟨(.some 76), .none, (.div .rem .i64), [(.t 75), (.c (.int .i64 (.ofNat 8)))]⟩, ⟨(.some 77), .none, (.bin .mul .i64), [(.c (.int .i64 (.ofNat 8))), (.t 76)]⟩, ⟨(.some 78), .none, (.shf .shr .u64), [(.t 74), (.t 77)]⟩, ⟨(.some 79), .none, (.cvt .u8), [(.t 78)]⟩, ⟨(.some 80), .none, (.cmp .neq), [(.t 70), (.t 79)]⟩]) (.cond (.t 80) (.seq (.reg .false [] [⟨(.some 2), .none, .mov, [(.c (.bool .false))]⟩]) .ret) .skip))) (.reg .false [] [⟨(.some 65), .none, .mov, [(.t 7)]⟩, ⟨(.some 66), .none, (.bin .add .i64), [(.t 65), (.c (.int .i64 (.ofNat 1)))]⟩, ⟨(.some 7), .none, .mov, [(.t 66)]⟩])))
def fr6c (i : Nat) : Fr := [.top, .top, .bool false, .ptr 0 0, .top, .top, .slc 2 0 168 168 1, .int .i64 (Int.ofNat i), .top, .top, .top, .top, .top, .top, .top, .top, .top, .top, .top, .top, .top, .top, .top, .top, .top, .top, .top, .top, .top, .top, .top, .top, .top, .top, .top, .top, .top, .top, .top, .top, .top, .top, .top, .top, .top, .top, .top, .top, .top, .top, .top, .top, .top, .top, .top, .top, .top, .top, .top, .top, .top, .top, .top, .top, .top, .top, .top, .top, .top, .top, .top, .top, .top, .top, .top, .top, .top, .top, .top, .top, .top]
def mk6c : List Bool := [true, true, false, false, true, true, false, false, true, true, true, true, true, true, true, true, true, true, true, true, true, true, true, true, true, true, true, true, true, true, true, true, true, true, true, true, true, true, true, true, true, true, true, true, true, true, true, true, true, true, true, true, true, true, true, true, true, true, true, true, true, true, true, true, true, true, true, true, true, true, true, true, true, true, true, true, true, true, true, true, true]
def ln6 (F : PF) : LnF := fun n0 b fr H => match slot fr 0, slot fr 4, slot fr 6, H with
  | .ros pa oa k ca e, .slc 2 0 L _ 1, _, [.cells ss, .dead, .cells ms] => some (n0 = 0 ∧ VCis b lp6a ∧ W6 fr (.ros pa oa k ca e) L ∧ P6a pa ss ms L, .ok (.exit 0) (fr6a (.ros pa oa k ca e) 168) [.cells ss, .cells (F.pad ms)])
  | x0, .slc 1 0 168 _ 1, _, [.cells ss, .cells ms] => some (n0 = 0 ∧ VCis b lp6b ∧ forget mk6b fr = fr6b x0 0 ∧ P6b ss ms, .ok (.exit 2) (fr6b x0 168) [.cells (F.add ss ms), .cells ms])
  | _, _, .slc 2 0 168 _ 1, [.cells ss, .cells ms, .cells xs] => some (n0 = 0 ∧ VCis b lp6c ∧ forget mk6c fr = fr6c 0 ∧ P6c ss xs, .ok (.exit 4) (fr6c 168) [.cells ss, .cells ms, .cells xs])
  | _, _, _, _ => none

theorem vcl6a (ss ms pa : List AV) (oa k ca : Nat) (e : Bool) (L : Nat) (Q : Ex → Fr → Hl → Prop) :
  (vm (vcA kdYes noCn noLn) ops0 noTab 100 0 lp6a (fr6a (.ros pa oa k ca e) L) [.cells ss, .cells ms] [] (K6c Q)) =
 ((Br (ops0.cmp BinOp.lss (ops0.ofn L) (Int.ofNat 168))
 (Chk (ops0.le (ops0.add 0 (ops0.mul L 1)) (ops0.len ms))
 (Chk (ops0.room L 1 1)
 (True ∧
 (K6 Q Ex.norm [(AV.ros pa oa k ca e), AV.top, (AV.bool Bool.false), (AV.ptr 0 0), (AV.slc 2 0 (ops0.add L 1) (ops0.add L 1) 1), AV.top, AV.top, AV.top, AV.top, AV.top, AV.top, AV.top, AV.top, AV.top, AV.top, AV.top, AV.top, AV.top, (AV.slc 1 0 L L 1), (AV.int IntKind.i64 (ops0.ofn L)), (AV.bool Bool.true), (AV.slc 1 0 L L 1), (AV.ros [(AV.int IntKind.u8 (Int.ofNat 0))] 0 1 1 Bool.true), (AV.slc 2 0 (ops0.add L 1) (ops0.add L 1) 1), AV.top, AV.top, AV.top, AV.top, AV.top, AV.top, AV.top, AV.top, AV.top, AV.top, AV.top, AV.top, AV.top, AV.top, AV.top, AV.top, AV.top, AV.top, AV.top, AV.top, AV.top, AV.top, AV.top, AV.top, AV.top, AV.top, AV.top, AV.top, AV.top, AV.top, AV.top, AV.top, AV.top, AV.top, AV.top, AV.top, AV.top, AV.top, AV.top, AV.top, AV.top, AV.top, AV.top, AV.top, AV.top, AV.top, AV.top, AV.top, AV.top, AV.top, AV.top, AV.top, AV.top, AV.top, AV.top, AV.top, AV.top] [(Blk.cells ss), Blk.dead, (Blk.cells (ops0.app (ops0.ext ms 0 (ops0.mul L 1)) [(AV.int IntKind.u8 (Int.ofNat 0))]))] [1]))))
 (True ∧
 (K6 Q (Ex.exit 0) [(AV.ros pa oa k ca e), AV.top, (AV.bool Bool.false), (AV.ptr 0 0), (AV.slc 1 0 L L 1), AV.top, AV.top, AV.top, AV.top, AV.top, AV.top, AV.top, AV.top, AV.top, AV.top, AV.top, AV.top, AV.top, (AV.slc 1 0 L L 1), (AV.int IntKind.i64 (ops0.ofn L)), (AV.bool Bool.false), AV.top, AV.top, AV.top, AV.top, AV.top, AV.top, AV.top, AV.top, AV.top, AV.top, AV.top, AV.top, AV.top, AV.top, AV.top, AV.top, AV.top, AV.top, AV.top, AV.top, AV.top, AV.top, AV.top, AV.top, AV.top, AV.top, AV.top, AV.top, AV.top, AV.top, AV.top, AV.top, AV.top, AV.top, AV.top, AV.top, AV.top, AV.top, AV.top, AV.top, AV.top, AV.top, AV.top, AV.top, AV.top, AV.top, AV.top, AV.top, AV.top, AV.top, AV.top, AV.top, AV.top, AV.top, AV.top, AV.top, AV.top, AV.top, AV.top, AV.top] [(Blk.cells ss), (Blk.cells ms)] [])))) := by kernel_rfl

theorem vcl6b (ss ms : List AV) (x0 : AV) (i : Nat) (Q : Ex → Fr → Hl → Prop) :
  (vm (vcA kdYes noCn noLn) ops0 noTab 100 0 lp6b (fr6b x0 i) [.cells ss, .cells ms] [] (bodyX mk6b Q)) =
 ((Br (ops0.cmp BinOp.lss (Int.ofNat i) (Int.ofNat 168))
 (Chk (ops0.inr (ops0.bin BinOp.quo IntKind.i64 (Int.ofNat i) (Int.ofNat 8)) 25)
 (∃ n : Int, ((Nth ss (ops0.adr 0 (ops0.bin BinOp.quo IntKind.i64 (Int.ofNat i) (Int.ofNat 8)) 1) (AV.int IntKind.u64 n)) ∧
 (Chk (ops0.inr (Int.ofNat i) 168)
 (∃ n1 : Int, ((Nth ms (ops0.adr 0 (Int.ofNat i) 1) (AV.int IntKind.u8 n1)) ∧
 (Chk (ops0.nn (ops0.bin BinOp.mul IntKind.i64 (Int.ofNat 8) (ops0.bin BinOp.rem IntKind.i64 (Int.ofNat i) (Int.ofNat 8))))
 (Chk (ops0.inr (ops0.bin BinOp.quo IntKind.i64 (Int.ofNat i) (Int.ofNat 8)) 25)
 (Chk (ops0.lt (ops0.adr 0 (ops0.bin BinOp.quo IntKind.i64 (Int.ofNat i) (Int.ofNat 8)) 1) (ops0.len ss))
 (Q Ex.norm [x0, AV.top, (AV.bool Bool.false), (AV.ptr 0 0), (AV.slc 1 0 168 168 1), (AV.int IntKind.i64 (ops0.bin BinOp.add IntKind.i64 (Int.ofNat i) (Int.ofNat 1))), AV.top, AV.top, AV.top, AV.top, AV.top, AV.top, AV.top, AV.top, AV.top, AV.top, AV.top, AV.top, AV.top, AV.top, AV.top, AV.top, AV.top, AV.top, AV.top, AV.top, AV.top, AV.top, AV.top, AV.top, AV.top, AV.top, AV.top, AV.top, AV.top, AV.top, AV.top, AV.top, AV.top, AV.top, AV.top, AV.top, AV.top, AV.top, AV.top, AV.top, AV.top, AV.top, AV.top, AV.top, AV.top, AV.top, AV.top, AV.top, AV.top, AV.top, AV.top, AV.top, AV.top, AV.top, AV.top, AV.top, AV.top, AV.top, AV.top, AV.top, AV.top, AV.top, AV.top, AV.top, AV.top, AV.top, AV.top, AV.top, AV.top, AV.top, AV.top, AV.top, AV.top, AV.top, AV.top] [(Blk.cells (ops0.set ss (ops0.adr 0 (ops0.bin BinOp.quo IntKind.i64 (Int.ofNat i) (Int.ofNat 8)) 1) (AV.int IntKind.u64 (ops0.bin BinOp.xor IntKind.u64 n (ops0.shf BinOp.shl IntKind.u64 (ops0.cvt IntKind.u64 n1) (ops0.bin BinOp.mul IntKind.i64 (Int.ofNat 8) (ops0.bin BinOp.rem IntKind.i64 (Int.ofNat i) (Int.ofNat 8)))))))), (Blk.cells ms)]))))))))))
 (Q (Ex.exit 2) [x0, AV.top, (AV.bool Bool.false), (AV.ptr 0 0), (AV.slc 1 0 168 168 1), (AV.int IntKind.i64 (Int.ofNat i)), AV.top, AV.top, AV.top, AV.top, AV.top, AV.top, AV.top, AV.top, AV.top, AV.top, AV.top, AV.top, AV.top, AV.top, AV.top, AV.top, AV.top, AV.top, AV.top, AV.top, AV.top, AV.top, AV.top, AV.top, AV.top, AV.top, AV.top, AV.top, AV.top, AV.top, AV.top, AV.top, AV.top, AV.top, AV.top, AV.top, AV.top, AV.top, AV.top, AV.top, AV.top, AV.top, AV.top, AV.top, AV.top, AV.top, AV.top, AV.top, AV.top, AV.top, AV.top, AV.top, AV.top, AV.top, AV.top, AV.top, AV.top, AV.top, AV.top, AV.top, AV.top, AV.top, AV.top, AV.top, AV.top, AV.top, AV.top, AV.top, AV.top, AV.top, AV.top, AV.top, AV.top, AV.top, AV.top] [(Blk.cells ss), (Blk.cells ms)]))) := by kernel_rfl

theorem vcl6c (ss ms xs : List AV) (i : Nat) (Q : Ex → Fr → Hl → Prop) :
  (vm (vcA kdYes noCn noLn) ops0 noTab 100 0 lp6c (fr6c i) [.cells ss, .cells ms, .cells xs] [] (bodyX mk6c Q)) =
 ((Br (ops0.cmp BinOp.lss (Int.ofNat i) (Int.ofNat 168))
 (Chk (ops0.inr (Int.ofNat i) 168)
 (∃ n : Int, ((Nth xs (ops0.adr 0 (Int.ofNat i) 1) (AV.int IntKind.u8 n)) ∧
 (Chk (ops0.inr (ops0.bin BinOp.quo IntKind.i64 (Int.ofNat i) (Int.ofNat 8)) 25)
 (∃ n1 : Int, ((Nth ss (ops0.adr 0 (ops0.bin BinOp.quo IntKind.i64 (Int.ofNat i) (Int.ofNat 8)) 1) (AV.int IntKind.u64 n1)) ∧
 (Chk (ops0.nn (ops0.bin BinOp.mul IntKind.i64 (Int.ofNat 8) (ops0.bin BinOp.rem IntKind.i64 (Int.ofNat i) (Int.ofNat 8))))
 (Br (ops0.cmp BinOp.neq n (ops0.cvt IntKind.u8 (ops0.shf BinOp.shr IntKind.u64 n1 (ops0.bin BinOp.mul IntKind.i64 (Int.ofNat 8) (ops0.bin BinOp.rem IntKind.i64 (Int.ofNat i) (Int.ofNat 8))))))
 (Q Ex.ret [AV.top, AV.top, (AV.bool Bool.false), (AV.ptr 0 0), AV.top, AV.top, (AV.slc 2 0 168 168 1), (AV.int IntKind.i64 (Int.ofNat i)), AV.top, AV.top, AV.top, AV.top, AV.top, AV.top, AV.top, AV.top, AV.top, AV.top, AV.top, AV.top, AV.top, AV.top, AV.top, AV.top, AV.top, AV.top, AV.top, AV.top, AV.top, AV.top, AV.top, AV.top, AV.top, AV.top, AV.top, AV.top, AV.top, AV.top, AV.top, AV.top, AV.top, AV.top, AV.top, AV.top, AV.top, AV.top, AV.top, AV.top, AV.top, AV.top, AV.top, AV.top, AV.top, AV.top, AV.top, AV.top, AV.top, AV.top, AV.top, AV.top, AV.top, AV.top, AV.top, AV.top, AV.top, AV.top, AV.top, AV.top, AV.top, AV.top, AV.top, AV.top, AV.top, AV.top, AV.top, AV.top, AV.top, AV.top, AV.top, AV.top, AV.top] [(Blk.cells ss), (Blk.cells ms), (Blk.cells xs)])
 (Q Ex.norm [AV.top, AV.top, (AV.bool Bool.false), (AV.ptr 0 0), AV.top, AV.top, (AV.slc 2 0 168 168 1), (AV.int IntKind.i64 (ops0.bin BinOp.add IntKind.i64 (Int.ofNat i) (Int.ofNat 1))), AV.top, AV.top, AV.top, AV.top, AV.top, AV.top, AV.top, AV.top, AV.top, AV.top, AV.top, AV.top, AV.top, AV.top, AV.top, AV.top, AV.top, AV.top, AV.top, AV.top, AV.top, AV.top, AV.top, AV.top, AV.top, AV.top, AV.top, AV.top, AV.top, AV.top, AV.top, AV.top, AV.top, AV.top, AV.top, AV.top, AV.top, AV.top, AV.top, AV.top, AV.top, AV.top, AV.top, AV.top, AV.top, AV.top, AV.top, AV.top, AV.top, AV.top, AV.top, AV.top, AV.top, AV.top, AV.top, AV.top, AV.top, AV.top, AV.top, AV.top, AV.top, AV.top, AV.top, AV.top, AV.top, AV.top, AV.top, AV.top, AV.top, AV.top, AV.top, AV.top, AV.top] [(Blk.cells ss), (Blk.cells ms), (Blk.cells xs)])))))))))
 (Q (Ex.exit 4) [AV.top, AV.top, (AV.bool Bool.false), (AV.ptr 0 0), AV.top, AV.top, (AV.slc 2 0 168 168 1), (AV.int IntKind.i64 (Int.ofNat i)), AV.top, AV.top, AV.top, AV.top, AV.top, AV.top, AV.top, AV.top, AV.top, AV.top, AV.top, AV.top, AV.top, AV.top, AV.top, AV.top, AV.top, AV.top, AV.top, AV.top, AV.top, AV.top, AV.top, AV.top, AV.top, AV.top, AV.top, AV.top, AV.top, AV.top, AV.top, AV.top, AV.top, AV.top, AV.top, AV.top, AV.top, AV.top, AV.top, AV.top, AV.top, AV.top, AV.top, AV.top, AV.top, AV.top, AV.top, AV.top, AV.top, AV.top, AV.top, AV.top, AV.top, AV.top, AV.top, AV.top, AV.top, AV.top, AV.top, AV.top, AV.top, AV.top, AV.top, AV.top, AV.top, AV.top, AV.top, AV.top, AV.top, AV.top, AV.top, AV.top, AV.top] [(Blk.cells ss), (Blk.cells ms), (Blk.cells xs)]))) := by kernel_rfl

theorem vc6 (S : AF) (F : PF) (pa : List AV) (oa la ca : Nat) (ea : Bool) (Q : AV → Hl → List Nat → Prop) :
  (vcall (vcA kdYes (cnB S) (ln6 F)) ops0 (tabOne 6 vf6) 200 vf6 [.ros pa oa la ca ea] [] Q) =
 ((Br (ops0.cmp BinOp.geq (ops0.ofn la) (Int.ofNat 168))
 (Chk (ops0.inb (Int.ofNat 167) ca)
 (Chk (ops0.le (ops0.add oa 167) (ops0.len pa))
 (Chk (ops0.le 167 (ops0.len (ops0.ext pa oa 167)))
 ((((0 : Nat) = 0) ∧
 ((VCis lp6a lp6a) ∧
 ((W6 [(AV.ros pa oa 167 ca (Bool.or ea Bool.false)), (AV.tup []), (AV.bool Bool.false), (AV.ptr 0 0), (AV.slc 2 0 168 168 1), (AV.tup []), (AV.tup []), (AV.tup []), (AV.ros pa oa la ca ea), (AV.int IntKind.i64 (ops0.ofn la)), (AV.bool Bool.true), (AV.ros pa oa la ca ea), (AV.ros pa oa 167 ca (Bool.or ea Bool.false)), (AV.ros [] 0 0 0 Bool.true), (AV.ros pa oa 167 ca (Bool.or ea Bool.false)), (AV.slc 1 0 167 167 1), (AV.ros [(AV.int IntKind.u8 (Int.ofNat 31))] 0 1 1 Bool.true), (AV.slc 2 0 168 168 1), (AV.tup []), (AV.tup []), (AV.tup []), (AV.tup []), (AV.tup []), (AV.tup []), (AV.tup []), (AV.tup []), (AV.tup []), (AV.tup []), (AV.tup []), (AV.tup []), (AV.tup []), (AV.tup []), (AV.tup []), (AV.tup []), (AV.tup []), (AV.tup []), (AV.tup []), (AV.tup []), (AV.tup []), (AV.tup []), (AV.tup []), (AV.tup []), (AV.tup []), (AV.tup []), (AV.tup []), (AV.tup []), (AV.tup []), (AV.tup []), (AV.tup []), (AV.tup []), (AV.tup []), (AV.tup []), (AV.tup []), (AV.tup []), (AV.tup []), (AV.tup []), (AV.tup []), (AV.tup []), (AV.tup []), (AV.tup []), (AV.tup []), (AV.tup []), (AV.tup []), (AV.tup []), (AV.tup []), (AV.tup []), (AV.tup []), (AV.tup []), (AV.tup []), (AV.tup []), (AV.tup []), (AV.tup []), (AV.tup []), (AV.tup []), (AV.tup []), (AV.tup []), (AV.tup []), (AV.tup []), (AV.tup []), (AV.tup []), (AV.tup [])] (AV.ros pa oa 167 ca (Bool.or ea Bool.false)) 168) ∧
 (P6a pa [(AV.int IntKind.u64 (Int.ofNat 0)), (AV.int IntKind.u64 (Int.ofNat 0)), (AV.int IntKind.u64 (Int.ofNat 0)), (AV.int IntKind.u64 (Int.ofNat 0)), (AV.int IntKind.u64 (Int.ofNat 0)), (AV.int IntKind.u64 (Int.ofNat 0)), (AV.int IntKind.u64 (Int.ofNat 0)), (AV.int IntKind.u64 (Int.ofNat 0)), (AV.int IntKind.u64 (Int.ofNat 0)), (AV.int IntKind.u64 (Int.ofNat 0)), (AV.int IntKind.u64 (Int.ofNat 0)), (AV.int IntKind.u64 (Int.ofNat 0)), (AV.int IntKind.u64 (Int.ofNat 0)), (AV.int IntKind.u64 (Int.ofNat 0)), (AV.int IntKind.u64 (Int.ofNat 0)), (AV.int IntKind.u64 (Int.ofNat 0)), (AV.int IntKind.u64 (Int.ofNat 0)), (AV.int IntKind.u64 (Int.ofNat 0)), (AV.int IntKind.u64 (Int.ofNat 0)), (AV.int IntKind.u64 (Int.ofNat 0)), (AV.int IntKind.u64 (Int.ofNat 0)), (AV.int IntKind.u64 (Int.ofNat 0)), (AV.int IntKind.u64 (Int.ofNat 0)), (AV.int IntKind.u64 (Int.ofNat 0)), (AV.int IntKind.u64 (Int.ofNat 0))] (ops0.app (ops0.ext (ops0.ext pa oa 167) 0 167) [(AV.int IntKind.u8 (Int.ofNat 31))]) 168)))) ∧
 (∃ n : Int, ((Nth (PF.pad F (ops0.app (ops0.ext (ops0.ext pa oa 167) 0 167) [(AV.int IntKind.u8 (Int.ofNat 31))])) 167 (AV.int IntKind.u8 n)) ∧
 (Chk (ops0.lt 167 (ops0.len (PF.pad F (ops0.app (ops0.ext (ops0.ext pa oa 167) 0 167) [(AV.int IntKind.u8 (Int.ofNat 31))]))))
 ((((0 : Nat) = 0) ∧
 ((VCis lp6b lp6b) ∧
 ((([(AV.ros pa oa 167 ca (Bool.or ea Bool.false)), AV.top, (AV.bool Bool.false), (AV.ptr 0 0), (AV.slc 1 0 168 168 1), (AV.int IntKind.i64 (Int.ofNat 0)), AV.top, AV.top, AV.top, AV.top, AV.top, AV.top, AV.top, AV.top, AV.top, AV.top, AV.top, AV.top, AV.top, AV.top, AV.top, AV.top, AV.top, AV.top, AV.top, AV.top, AV.top, AV.top, AV.top, AV.top, AV.top, AV.top, AV.top, AV.top, AV.top, AV.top, AV.top, AV.top, AV.top, AV.top, AV.top, AV.top, AV.top, AV.top, AV.top, AV.top, AV.top, AV.top, AV.top, AV.top, AV.top, AV.top, AV.top, AV.top, AV.top, AV.top, AV.top, AV.top, AV.top, AV.top, AV.top, AV.top, AV.top, AV.top, AV.top, AV.top, AV.top, AV.top, AV.top, AV.top, AV.top, AV.top, AV.top, AV.top, AV.top, AV.top, AV.top, AV.top, AV.top, AV.top, AV.top] : Fr) = [(AV.ros pa oa 167 ca (Bool.or ea Bool.false)), AV.top, (AV.bool Bool.false), (AV.ptr 0 0), (AV.slc 1 0 168 168 1), (AV.int IntKind.i64 (Int.ofNat 0)), AV.top, AV.top, AV.top, AV.top, AV.top, AV.top, AV.top, AV.top, AV.top, AV.top, AV.top, AV.top, AV.top, AV.top, AV.top, AV.top, AV.top, AV.top, AV.top, AV.top, AV.top, AV.top, AV.top, AV.top, AV.top, AV.top, AV.top, AV.top, AV.top, AV.top, AV.top, AV.top, AV.top, AV.top, AV.top, AV.top, AV.top, AV.top, AV.top, AV.top, AV.top, AV.top, AV.top, AV.top, AV.top, AV.top, AV.top, AV.top, AV.top, AV.top, AV.top, AV.top, AV.top, AV.top, AV.top, AV.top, AV.top, AV.top, AV.top, AV.top, AV.top, AV.top, AV.top, AV.top, AV.top, AV.top, AV.top, AV.top, AV.top, AV.top, AV.top, AV.top, AV.top, AV.top, AV.top]) ∧
 (P6b [(AV.int IntKind.u64 (Int.ofNat 0)), (AV.int IntKind.u64 (Int.ofNat 0)), (AV.int IntKind.u64 (Int.ofNat 0)), (AV.int IntKind.u64 (Int.ofNat 0)), (AV.int IntKind.u64 (Int.ofNat 0)), (AV.int IntKind.u64 (Int.ofNat 0)), (AV.int IntKind.u64 (Int.ofNat 0)), (AV.int IntKind.u64 (Int.ofNat 0)), (AV.int IntKind.u64 (Int.ofNat 0)), (AV.int IntKind.u64 (Int.ofNat 0)), (AV.int IntKind.u64 (Int.ofNat 0)), (AV.int IntKind.u64 (Int.ofNat 0)), (AV.int IntKind.u64 (Int.ofNat 0)), (AV.int IntKind.u64 (Int.ofNat 0)), (AV.int IntKind.u64 (Int.ofNat 0)), (AV.int IntKind.u64 (Int.ofNat 0)), (AV.int IntKind.u64 (Int.ofNat 0)), (AV.int IntKind.u64 (Int.ofNat 0)), (AV.int IntKind.u64 (Int.ofNat 0)), (AV.int IntKind.u64 (Int.ofNat 0)), (AV.int IntKind.u64 (Int.ofNat 0)), (AV.int IntKind.u64 (Int.ofNat 0)), (AV.int IntKind.u64 (Int.ofNat 0)), (AV.int IntKind.u64 (Int.ofNat 0)), (AV.int IntKind.u64 (Int.ofNat 0))] (ops0.set (PF.pad F (ops0.app (ops0.ext (ops0.ext pa oa 167) 0 167) [(AV.int IntKind.u8 (Int.ofNat 31))])) 167 (AV.int IntKind.u8 (ops0.bin BinOp.xor IntKind.u8 n (Int.ofNat 128)))))))) ∧
 (Chk (ops0.le 25 (ops0.len (PF.add F [(AV.int IntKind.u64 (Int.ofNat 0)), (AV.int IntKind.u64 (Int.ofNat 0)), (AV.int IntKind.u64 (Int.ofNat 0)), (AV.int IntKind.u64 (Int.ofNat 0)), (AV.int IntKind.u64 (Int.ofNat 0)), (AV.int IntKind.u64 (Int.ofNat 0)), (AV.int IntKind.u64 (Int.ofNat 0)), (AV.int IntKind.u64 (Int.ofNat 0)), (AV.int IntKind.u64 (Int.ofNat 0)), (AV.int IntKind.u64 (Int.ofNat 0)), (AV.int IntKind.u64 (Int.ofNat 0)), (AV.int IntKind.u64 (Int.ofNat 0)), (AV.int IntKind.u64 (Int.ofNat 0)), (AV.int IntKind.u64 (Int.ofNat 0)), (AV.int IntKind.u64 (Int.ofNat 0)), (AV.int IntKind.u64 (Int.ofNat 0)), (AV.int IntKind.u64 (Int.ofNat 0)), (AV.int IntKind.u64 (Int.ofNat 0)), (AV.int IntKind.u64 (Int.ofNat 0)), (AV.int IntKind.u64 (Int.ofNat 0)), (AV.int IntKind.u64 (Int.ofNat 0)), (AV.int IntKind.u64 (Int.ofNat 0)), (AV.int IntKind.u64 (Int.ofNat 0)), (AV.int IntKind.u64 (Int.ofNat 0)), (AV.int IntKind.u64 (Int.ofNat 0))] (ops0.set (PF.pad F (ops0.app (ops0.ext (ops0.ext pa oa 167) 0 167) [(AV.int IntKind.u8 (Int.ofNat 31))])) 167 (AV.int IntKind.u8 (ops0.bin BinOp.xor IntKind.u8 n (Int.ofNat 128)))))))
 ((PW (ops0.ext (PF.add F [(AV.int IntKind.u64 (Int.ofNat 0)), (AV.int IntKind.u64 (Int.ofNat 0)), (AV.int IntKind.u64 (Int.ofNat 0)), (AV.int IntKind.u64 (Int.ofNat 0)), (AV.int IntKind.u64 (Int.ofNat 0)), (AV.int IntKind.u64 (Int.ofNat 0)), (AV.int IntKind.u64 (Int.ofNat 0)), (AV.int IntKind.u64 (Int.ofNat 0)), (AV.int IntKind.u64 (Int.ofNat 0)), (AV.int IntKind.u64 (Int.ofNat 0)), (AV.int IntKind.u64 (Int.ofNat 0)), (AV.int IntKind.u64 (Int.ofNat 0)), (AV.int IntKind.u64 (Int.ofNat 0)), (AV.int IntKind.u64 (Int.ofNat 0)), (AV.int IntKind.u64 (Int.ofNat 0)), (AV.int IntKind.u64 (Int.ofNat 0)), (AV.int IntKind.u64 (Int.ofNat 0)), (AV.int IntKind.u64 (Int.ofNat 0)), (AV.int IntKind.u64 (Int.ofNat 0)), (AV.int IntKind.u64 (Int.ofNat 0)), (AV.int IntKind.u64 (Int.ofNat 0)), (AV.int IntKind.u64 (Int.ofNat 0)), (AV.int IntKind.u64 (Int.ofNat 0)), (AV.int IntKind.u64 (Int.ofNat 0)), (AV.int IntKind.u64 (Int.ofNat 0))] (ops0.set (PF.pad F (ops0.app (ops0.ext (ops0.ext pa oa 167) 0 167) [(AV.int IntKind.u8 (Int.ofNat 31))])) 167 (AV.int IntKind.u8 (ops0.bin BinOp.xor IntKind.u8 n (Int.ofNat 128))))) 0 25)) ∧
 (Chk (ops0.eq (ops0.len (AF.rnds S (ops0.ext (PF.add F [(AV.int IntKind.u64 (Int.ofNat 0)), (AV.int IntKind.u64 (Int.ofNat 0)), (AV.int IntKind.u64 (Int.ofNat 0)), (AV.int IntKind.u64 (Int.ofNat 0)), (AV.int IntKind.u64 (Int.ofNat 0)), (AV.int IntKind.u64 (Int.ofNat 0)), (AV.int IntKind.u64 (Int.ofNat 0)), (AV.int IntKind.u64 (Int.ofNat 0)), (AV.int IntKind.u64 (Int.ofNat 0)), (AV.int IntKind.u64 (Int.ofNat 0)), (AV.int IntKind.u64 (Int.ofNat 0)), (AV.int IntKind.u64 (Int.ofNat 0)), (AV.int IntKind.u64 (Int.ofNat 0)), (AV.int IntKind.u64 (Int.ofNat 0)), (AV.int IntKind.u64 (Int.ofNat 0)), (AV.int IntKind.u64 (Int.ofNat 0)), (AV.int IntKind.u64 (Int.ofNat 0)), (AV.int IntKind.u64 (Int.ofNat 0)), (AV.int IntKind.u64 (Int.ofNat 0)), (AV.int IntKind.u64 (Int.ofNat 0)), (AV.int IntKind.u64 (Int.ofNat 0)), (AV.int IntKind.u64 (Int.ofNat 0)), (AV.int IntKind.u64 (Int.ofNat 0)), (AV.int IntKind.u64 (Int.ofNat 0)), (AV.int IntKind.u64 (Int.ofNat 0))] (ops0.set (PF.pad F (ops0.app (ops0.ext (ops0.ext pa oa 167) 0 167) [(AV.int IntKind.u8 (Int.ofNat 31))])) 167 (AV.int IntKind.u8 (ops0.bin BinOp.xor IntKind.u8 n (Int.ofNat 128))))) 0 25))) 25)
 (Chk (ops0.le 25 (ops0.len (PF.add F [(AV.int IntKind.u64 (Int.ofNat 0)), (AV.int IntKind.u64 (Int.ofNat 0)), (AV.int IntKind.u64 (Int.ofNat 0)), (AV.int IntKind.u64 (Int.ofNat 0)), (AV.int IntKind.u64 (Int.ofNat 0)), (AV.int IntKind.u64 (Int.ofNat 0)), (AV.int IntKind.u64 (Int.ofNat 0)), (AV.int IntKind.u64 (Int.ofNat 0)), (AV.int IntKind.u64 (Int.ofNat 0)), (AV.int IntKind.u64 (Int.ofNat 0)), (AV.int IntKind.u64 (Int.ofNat 0)), (AV.int IntKind.u64 (Int.ofNat 0)), (AV.int IntKind.u64 (Int.ofNat 0)), (AV.int IntKind.u64 (Int.ofNat 0)), (AV.int IntKind.u64 (Int.ofNat 0)), (AV.int IntKind.u64 (Int.ofNat 0)), (AV.int IntKind.u64 (Int.ofNat 0)), (AV.int IntKind.u64 (Int.ofNat 0)), (AV.int IntKind.u64 (Int.ofNat 0)), (AV.int IntKind.u64 (Int.ofNat 0)), (AV.int IntKind.u64 (Int.ofNat 0)), (AV.int IntKind.u64 (Int.ofNat 0)), (AV.int IntKind.u64 (Int.ofNat 0)), (AV.int IntKind.u64 (Int.ofNat 0)), (AV.int IntKind.u64 (Int.ofNat 0))] (ops0.set (PF.pad F (ops0.app (ops0.ext (ops0.ext pa oa 167) 0 167) [(AV.int IntKind.u8 (Int.ofNat 31))])) 167 (AV.int IntKind.u8 (ops0.bin BinOp.xor IntKind.u8 n (Int.ofNat 128)))))))
 ((PPs [(AV.ros pa oa 167 ca (Bool.or ea Bool.false))] 0 1) ∧
 (True ∧
 ((((0 : Nat) = 0) ∧
 ((VCis lp6c lp6c) ∧
 ((([AV.top, AV.top, (AV.bool Bool.false), (AV.ptr 0 0), AV.top, AV.top, (AV.slc 2 0 168 168 1), (AV.int IntKind.i64 (Int.ofNat 0)), AV.top, AV.top, AV.top, AV.top, AV.top, AV.top, AV.top, AV.top, AV.top, AV.top, AV.top, AV.top, AV.top, AV.top, AV.top, AV.top, AV.top, AV.top, AV.top, AV.top, AV.top, AV.top, AV.top, AV.top, AV.top, AV.top, AV.top, AV.top, AV.top, AV.top, AV.top, AV.top, AV.top, AV.top, AV.top, AV.top, AV.top, AV.top, AV.top, AV.top, AV.top, AV.top, AV.top, AV.top, AV.top, AV.top, AV.top, AV.top, AV.top, AV.top, AV.top, AV.top, AV.top, AV.top, AV.top, AV.top, AV.top, AV.top, AV.top, AV.top, AV.top, AV.top, AV.top, AV.top, AV.top, AV.top, AV.top, AV.top, AV.top, AV.top, AV.top, AV.top, AV.top] : Fr) = [AV.top, AV.top, (AV.bool Bool.false), (AV.ptr 0 0), AV.top, AV.top, (AV.slc 2 0 168 168 1), (AV.int IntKind.i64 (Int.ofNat 0)), AV.top, AV.top, AV.top, AV.top, AV.top, AV.top, AV.top, AV.top, AV.top, AV.top, AV.top, AV.top, AV.top, AV.top, AV.top, AV.top, AV.top, AV.top, AV.top, AV.top, AV.top, AV.top, AV.top, AV.top, AV.top, AV.top, AV.top, AV.top, AV.top, AV.top, AV.top, AV.top, AV.top, AV.top, AV.top, AV.top, AV.top, AV.top, AV.top, AV.top, AV.top, AV.top, AV.top, AV.top, AV.top, AV.top, AV.top, AV.top, AV.top, AV.top, AV.top, AV.top, AV.top, AV.top, AV.top, AV.top, AV.top, AV.top, AV.top, AV.top, AV.top, AV.top, AV.top, AV.top, AV.top, AV.top, AV.top, AV.top, AV.top, AV.top, AV.top, AV.top, AV.top]) ∧
 (P6c (ops0.spl (PF.add F [(AV.int IntKind.u64 (Int.ofNat 0)), (AV.int IntKind.u64 (Int.ofNat 0)), (AV.int IntKind.u64 (Int.ofNat 0)), (AV.int IntKind.u64 (Int.ofNat 0)), (AV.int IntKind.u64 (Int.ofNat 0)), (AV.int IntKind.u64 (Int.ofNat 0)), (AV.int IntKind.u64 (Int.ofNat 0)), (AV.int IntKind.u64 (Int.ofNat 0)), (AV.int IntKind.u64 (Int.ofNat 0)), (AV.int IntKind.u64 (Int.ofNat 0)), (AV.int IntKind.u64 (Int.ofNat 0)), (AV.int IntKind.u64 (Int.ofNat 0)), (AV.int IntKind.u64 (Int.ofNat 0)), (AV.int IntKind.u64 (Int.ofNat 0)), (AV.int IntKind.u64 (Int.ofNat 0)), (AV.int IntKind.u64 (Int.ofNat 0)), (AV.int IntKind.u64 (Int.ofNat 0)), (AV.int IntKind.u64 (Int.ofNat 0)), (AV.int IntKind.u64 (Int.ofNat 0)), (AV.int IntKind.u64 (Int.ofNat 0)), (AV.int IntKind.u64 (Int.ofNat 0)), (AV.int IntKind.u64 (Int.ofNat 0)), (AV.int IntKind.u64 (Int.ofNat 0)), (AV.int IntKind.u64 (Int.ofNat 0)), (AV.int IntKind.u64 (Int.ofNat 0))] (ops0.set (PF.pad F (ops0.app (ops0.ext (ops0.ext pa oa 167) 0 167) [(AV.int IntKind.u8 (Int.ofNat 31))])) 167 (AV.int IntKind.u8 (ops0.bin BinOp.xor IntKind.u8 n (Int.ofNat 128))))) 0 (AF.rnds S (ops0.ext (PF.add F [(AV.int IntKind.u64 (Int.ofNat 0)), (AV.int IntKind.u64 (Int.ofNat 0)), (AV.int IntKind.u64 (Int.ofNat 0)), (AV.int IntKind.u64 (Int.ofNat 0)), (AV.int IntKind.u64 (Int.ofNat 0)), (AV.int IntKind.u64 (Int.ofNat 0)), (AV.int IntKind.u64 (Int.ofNat 0)), (AV.int IntKind.u64 (Int.ofNat 0)), (AV.int IntKind.u64 (Int.ofNat 0)), (AV.int IntKind.u64 (Int.ofNat 0)), (AV.int IntKind.u64 (Int.ofNat 0)), (AV.int IntKind.u64 (Int.ofNat 0)), (AV.int IntKind.u64 (Int.ofNat 0)), (AV.int IntKind.u64 (Int.ofNat 0)), (AV.int IntKind.u64 (Int.ofNat 0)), (AV.int IntKind.u64 (Int.ofNat 0)), (AV.int IntKind.u64 (Int.ofNat 0)), (AV.int IntKind.u64 (Int.ofNat 0)), (AV.int IntKind.u64 (Int.ofNat 0)), (AV.int IntKind.u64 (Int.ofNat 0)), (AV.int IntKind.u64 (Int.ofNat 0)), (AV.int IntKind.u64 (Int.ofNat 0)), (AV.int IntKind.u64 (Int.ofNat 0)), (AV.int IntKind.u64 (Int.ofNat 0)), (AV.int IntKind.u64 (Int.ofNat 0))] (ops0.set (PF.pad F (ops0.app (ops0.ext (ops0.ext pa oa 167) 0 167) [(AV.int IntKind.u8 (Int.ofNat 31))])) 167 (AV.int IntKind.u8 (ops0.bin BinOp.xor IntKind.u8 n (Int.ofNat 128))))) 0 25))) (KF.str (AF.toKF S) (rdP [(AV.ros pa oa 167 ca (Bool.or ea Bool.false))] 0 1) 168))))) ∧
 (Q (AV.bool Bool.true) [(Blk.cells (ops0.spl (PF.add F [(AV.int IntKind.u64 (Int.ofNat 0)), (AV.int IntKind.u64 (Int.ofNat 0)), (AV.int IntKind.u64 (Int.ofNat 0)), (AV.int IntKind.u64 (Int.ofNat 0)), (AV.int IntKind.u64 (Int.ofNat 0)), (AV.int IntKind.u64 (Int.ofNat 0)), (AV.int IntKind.u64 (Int.ofNat 0)), (AV.int IntKind.u64 (Int.ofNat 0)), (AV.int IntKind.u64 (Int.ofNat 0)), (AV.int IntKind.u64 (Int.ofNat 0)), (AV.int IntKind.u64 (Int.ofNat 0)), (AV.int IntKind.u64 (Int.ofNat 0)), (AV.int IntKind.u64 (Int.ofNat 0)), (AV.int IntKind.u64 (Int.ofNat 0)), (AV.int IntKind.u64 (Int.ofNat 0)), (AV.int IntKind.u64 (Int.ofNat 0)), (AV.int IntKind.u64 (Int.ofNat 0)), (AV.int IntKind.u64 (Int.ofNat 0)), (AV.int IntKind.u64 (Int.ofNat 0)), (AV.int IntKind.u64 (Int.ofNat 0)), (AV.int IntKind.u64 (Int.ofNat 0)), (AV.int IntKind.u64 (Int.ofNat 0)), (AV.int IntKind.u64 (Int.ofNat 0)), (AV.int IntKind.u64 (Int.ofNat 0)), (AV.int IntKind.u64 (Int.ofNat 0))] (ops0.set (PF.pad F (ops0.app (ops0.ext (ops0.ext pa oa 167) 0 167) [(AV.int IntKind.u8 (Int.ofNat 31))])) 167 (AV.int IntKind.u8 (ops0.bin BinOp.xor IntKind.u8 n (Int.ofNat 128))))) 0 (AF.rnds S (ops0.ext (PF.add F [(AV.int IntKind.u64 (Int.ofNat 0)), (AV.int IntKind.u64 (Int.ofNat 0)), (AV.int IntKind.u64 (Int.ofNat 0)), (AV.int IntKind.u64 (Int.ofNat 0)), (AV.int IntKind.u64 (Int.ofNat 0)), (AV.int IntKind.u64 (Int.ofNat 0)), (AV.int IntKind.u64 (Int.ofNat 0)), (AV.int IntKind.u64 (Int.ofNat 0)), (AV.int IntKind.u64 (Int.ofNat 0)), (AV.int IntKind.u64 (Int.ofNat 0)), (AV.int IntKind.u64 (Int.ofNat 0)), (AV.int IntKind.u64 (Int.ofNat 0)), (AV.int IntKind.u64 (Int.ofNat 0)), (AV.int IntKind.u64 (Int.ofNat 0)), (AV.int IntKind.u64 (Int.ofNat 0)), (AV.int IntKind.u64 (Int.ofNat 0)), (AV.int IntKind.u64 (Int.ofNat 0)), (AV.int IntKind.u64 (Int.ofNat 0)), (AV.int IntKind.u64 (Int.ofNat 0)), (AV.int IntKind.u64 (Int.ofNat 0)), (AV.int IntKind.u64 (Int.ofNat 0)), (AV.int IntKind.u64 (Int.ofNat 0)), (AV.int IntKind.u64 (Int.ofNat 0)), (AV.int IntKind.u64 (Int.ofNat 0)), (AV.int IntKind.u64 (Int.ofNat 0))] (ops0.set (PF.pad F (ops0.app (ops0.ext (ops0.ext pa oa 167) 0 167) [(AV.int IntKind.u8 (Int.ofNat 31))])) 167 (AV.int IntKind.u8 (ops0.bin BinOp.xor IntKind.u8 n (Int.ofNat 128))))) 0 25)))), (Blk.cells (ops0.set (PF.pad F (ops0.app (ops0.ext (ops0.ext pa oa 167) 0 167) [(AV.int IntKind.u8 (Int.ofNat 31))])) 167 (AV.int IntKind.u8 (ops0.bin BinOp.xor IntKind.u8 n (Int.ofNat 128))))), (Blk.cells (KF.str (AF.toKF S) (rdP [(AV.ros pa oa 167 ca (Bool.or ea Bool.false))] 0 1) 168))] [0, 1, 1]))))))))))))))))
 (Chk (ops0.le (ops0.add oa (ops0.mul la 1)) (ops0.len pa))
 (Chk (ops0.room 0 la 1)
 (Chk (ops0.le (ops0.add 0 (ops0.mul la 1)) (ops0.len (ops0.ext pa oa (ops0.mul la 1))))
 (Chk (ops0.room la 1 1)
 ((((0 : Nat) = 0) ∧
 ((VCis lp6a lp6a) ∧
 ((W6 [(AV.ros pa oa la ca ea), (AV.tup []), (AV.bool Bool.false), (AV.ptr 0 0), (AV.slc 2 0 (ops0.add la 1) (ops0.add la 1) 1), (AV.tup []), (AV.tup []), (AV.tup []), (AV.ros pa oa la ca ea), (AV.int IntKind.i64 (ops0.ofn la)), (AV.bool Bool.false), (AV.tup []), (AV.tup []), (AV.ros [] 0 0 0 Bool.true), (AV.ros pa oa la ca ea), (AV.slc 1 0 la la 1), (AV.ros [(AV.int IntKind.u8 (Int.ofNat 31))] 0 1 1 Bool.true), (AV.slc 2 0 (ops0.add la 1) (ops0.add la 1) 1), (AV.tup []), (AV.tup []), (AV.tup []), (AV.tup []), (AV.tup []), (AV.tup []), (AV.tup []), (AV.tup []), (AV.tup []), (AV.tup []), (AV.tup []), (AV.tup []), (AV.tup []), (AV.tup []), (AV.tup []), (AV.tup []), (AV.tup []), (AV.tup []), (AV.tup []), (AV.tup []), (AV.tup []), (AV.tup []), (AV.tup []), (AV.tup []), (AV.tup []), (AV.tup []), (AV.tup []), (AV.tup []), (AV.tup []), (AV.tup []), (AV.tup []), (AV.tup []), (AV.tup []), (AV.tup []), (AV.tup []), (AV.tup []), (AV.tup []), (AV.tup []), (AV.tup []), (AV.tup []), (AV.tup []), (AV.tup []), (AV.tup []), (AV.tup []), (AV.tup []), (AV.tup []), (AV.tup []), (AV.tup []), (AV.tup []), (AV.tup []), (AV.tup []), (AV.tup []), (AV.tup []), (AV.tup []), (AV.tup []), (AV.tup []), (AV.tup []), (AV.tup []), (AV.tup []), (AV.tup []), (AV.tup []), (AV.tup []), (AV.tup [])] (AV.ros pa oa la ca ea) (ops0.add la 1)) ∧
 (P6a pa [(AV.int IntKind.u64 (Int.ofNat 0)), (AV.int IntKind.u64 (Int.ofNat 0)), (AV.int IntKind.u64 (Int.ofNat 0)), (AV.int IntKind.u64 (Int.ofNat 0)), (AV.int IntKind.u64 (Int.ofNat 0)), (AV.int IntKind.u64 (Int.ofNat 0)), (AV.int IntKind.u64 (Int.ofNat 0)), (AV.int IntKind.u64 (Int.ofNat 0)), (AV.int IntKind.u64 (Int.ofNat 0)), (AV.int IntKind.u64 (Int.ofNat 0)), (AV.int IntKind.u64 (Int.ofNat 0)), (AV.int IntKind.u64 (Int.ofNat 0)), (AV.int IntKind.u64 (Int.ofNat 0)), (AV.int IntKind.u64 (Int.ofNat 0)), (AV.int IntKind.u64 (Int.ofNat 0)), (AV.int IntKind.u64 (Int.ofNat 0)), (AV.int IntKind.u64 (Int.ofNat 0)), (AV.int IntKind.u64 (Int.ofNat 0)), (AV.int IntKind.u64 (Int.ofNat 0)), (AV.int IntKind.u64 (Int.ofNat 0)), (AV.int IntKind.u64 (Int.ofNat 0)), (AV.int IntKind.u64 (Int.ofNat 0)), (AV.int IntKind.u64 (Int.ofNat 0)), (AV.int IntKind.u64 (Int.ofNat 0)), (AV.int IntKind.u64 (Int.ofNat 0))] (ops0.app (ops0.ext (ops0.ext pa oa (ops0.mul la 1)) 0 (ops0.mul la 1)) [(AV.int IntKind.u8 (Int.ofNat 31))]) (ops0.add la 1))))) ∧
 (∃ n : Int, ((Nth (PF.pad F (ops0.app (ops0.ext (ops0.ext pa oa (ops0.mul la 1)) 0 (ops0.mul la 1)) [(AV.int IntKind.u8 (Int.ofNat 31))])) 167 (AV.int IntKind.u8 n)) ∧
 (Chk (ops0.lt 167 (ops0.len (PF.pad F (ops0.app (ops0.ext (ops0.ext pa oa (ops0.mul la 1)) 0 (ops0.mul la 1)) [(AV.int IntKind.u8 (Int.ofNat 31))]))))
 ((((0 : Nat) = 0) ∧
 ((VCis lp6b lp6b) ∧
 ((([(AV.ros pa oa la ca ea), AV.top, (AV.bool Bool.false), (AV.ptr 0 0), (AV.slc 1 0 168 168 1), (AV.int IntKind.i64 (Int.ofNat 0)), AV.top, AV.top, AV.top, AV.top, AV.top, AV.top, AV.top, AV.top, AV.top, AV.top, AV.top, AV.top, AV.top, AV.top, AV.top, AV.top, AV.top, AV.top, AV.top, AV.top, AV.top, AV.top, AV.top, AV.top, AV.top, AV.top, AV.top, AV.top, AV.top, AV.top, AV.top, AV.top, AV.top, AV.top, AV.top, AV.top, AV.top, AV.top, AV.top, AV.top, AV.top, AV.top, AV.top, AV.top, AV.top, AV.top, AV.top, AV.top, AV.top, AV.top, AV.top, AV.top, AV.top, AV.top, AV.top, AV.top, AV.top, AV.top, AV.top, AV.top, AV.top, AV.top, AV.top, AV.top, AV.top, AV.top, AV.top, AV.top, AV.top, AV.top, AV.top, AV.top, AV.top, AV.top, AV.top] : Fr) = [(AV.ros pa oa la ca ea), AV.top, (AV.bool Bool.false), (AV.ptr 0 0), (AV.slc 1 0 168 168 1), (AV.int IntKind.i64 (Int.ofNat 0)), AV.top, AV.top, AV.top, AV.top, AV.top, AV.top, AV.top, AV.top, AV.top, AV.top, AV.top, AV.top, AV.top, AV.top, AV.top, AV.top, AV.top, AV.top, AV.top, AV.top, AV.top, AV.top, AV.top, AV.top, AV.top, AV.top, AV.top, AV.top, AV.top, AV.top, AV.top, AV.top, AV.top, AV.top, AV.top, AV.top, AV.top, AV.top, AV.top, AV.top, AV.top, AV.top, AV.top, AV.top, AV.top, AV.top, AV.top, AV.top, AV.top, AV.top, AV.top, AV.top, AV.top, AV.top, AV.top, AV.top, AV.top, AV.top, AV.top, AV.top, AV.top, AV.top, AV.top, AV.top, AV.top, AV.top, AV.top, AV.top, AV.top, AV.top, AV.top, AV.top, AV.top, AV.top, AV.top]) ∧
 (P6b [(AV.int IntKind.u64 (Int.ofNat 0)), (AV.int IntKind.u64 (Int.ofNat 0)), (AV.int IntKind.u64 (Int.ofNat 0)), (AV.int IntKind.u64 (Int.ofNat 0)), (AV.int IntKind.u64 (Int.ofNat 0)), (AV.int IntKind.u64 (Int.ofNat 0)), (AV.int IntKind.u64 (Int.ofNat 0)), (AV.int IntKind.u64 (Int.ofNat 0)), (AV.int IntKind.u64 (Int.ofNat 0)), (AV.int IntKind.u64 (Int.ofNat 0)), (AV.int IntKind.u64 (Int.ofNat 0)), (AV.int IntKind.u64 (Int.ofNat 0)), (AV.int IntKind.u64 (Int.ofNat 0)), (AV.int IntKind.u64 (Int.ofNat 0)), (AV.int IntKind.u64 (Int.ofNat 0)), (AV.int IntKind.u64 (Int.ofNat 0)), (AV.int IntKind.u64 (Int.ofNat 0)), (AV.int IntKind.u64 (Int.ofNat 0)), (AV.int IntKind.u64 (Int.ofNat 0)), (AV.int IntKind.u64 (Int.ofNat 0)), (AV.int IntKind.u64 (Int.ofNat 0)), (AV.int IntKind.u64 (Int.ofNat 0)), (AV.int IntKind.u64 (Int.ofNat 0)), (AV.int IntKind.u64 (Int.ofNat 0)), (AV.int IntKind.u64 (Int.ofNat 0))] (ops0.set (PF.pad F (ops0.app (ops0.ext (ops0.ext pa oa (ops0.mul la 1)) 0 (ops0.mul la 1)) [(AV.int IntKind.u8 (Int.ofNat 31))])) 167 (AV.int IntKind.u8 (ops0.bin BinOp.xor IntKind.u8 n (Int.ofNat 128)))))))) ∧
 (Chk (ops0.le 25 (ops0.len (PF.add F [(AV.int IntKind.u64 (Int.ofNat 0)), (AV.int IntKind.u64 (Int.ofNat 0)), (AV.int IntKind.u64 (Int.ofNat 0)), (AV.int IntKind.u64 (Int.ofNat 0)), (AV.int IntKind.u64 (Int.ofNat 0)), (AV.int IntKind.u64 (Int.ofNat 0)), (AV.int IntKind.u64 (Int.ofNat 0)), (AV.int IntKind.u64 (Int.ofNat 0)), (AV.int IntKind.u64 (Int.ofNat 0)), (AV.int IntKind.u64 (Int.ofNat 0)), (AV.int IntKind.u64 (Int.ofNat 0)), (AV.int IntKind.u64 (Int.ofNat 0)), (AV.int IntKind.u64 (Int.ofNat 0)), (AV.int IntKind.u64 (Int.ofNat 0)), (AV.int IntKind.u64 (Int.ofNat 0)), (AV.int IntKind.u64 (Int.ofNat 0)), (AV.int IntKind.u64 (Int.ofNat 0)), (AV.int IntKind.u64 (Int.ofNat 0)), (AV.int IntKind.u64 (Int.ofNat 0)), (AV.int IntKind.u64 (Int.ofNat 0)), (AV.int IntKind.u64 (Int.ofNat 0)), (AV.int IntKind.u64 (Int.ofNat 0)), (AV.int IntKind.u64 (Int.ofNat 0)), (AV.int IntKind.u64 (Int.ofNat 0)), (AV.int IntKind.u64 (Int.ofNat 0))] (ops0.set (PF.pad F (ops0.app (ops0.ext (ops0.ext pa oa (ops0.mul la 1)) 0 (ops0.mul la 1)) [(AV.int IntKind.u8 (Int.ofNat 31))])) 167 (AV.int IntKind.u8 (ops0.bin BinOp.xor IntKind.u8 n (Int.ofNat 128)))))))
 ((PW (ops0.ext (PF.add F [(AV.int IntKind.u64 (Int.ofNat 0)), (AV.int IntKind.u64 (Int.ofNat 0)), (AV.int IntKind.u64 (Int.ofNat 0)), (AV.int IntKind.u64 (Int.ofNat 0)), (AV.int IntKind.u64 (Int.ofNat 0)), (AV.int IntKind.u64 (Int.ofNat 0)), (AV.int IntKind.u64 (Int.ofNat 0)), (AV.int IntKind.u64 (Int.ofNat 0)), (AV.int IntKind.u64 (Int.ofNat 0)), (AV.int IntKind.u64 (Int.ofNat 0)), (AV.int IntKind.u64 (Int.ofNat 0)), (AV.int IntKind.u64 (Int.ofNat 0)), (AV.int IntKind.u64 (Int.ofNat 0)), (AV.int IntKind.u64 (Int.ofNat 0)), (AV.int IntKind.u64 (Int.ofNat 0)), (AV.int IntKind.u64 (Int.ofNat 0)), (AV.int IntKind.u64 (Int.ofNat 0)), (AV.int IntKind.u64 (Int.ofNat 0)), (AV.int IntKind.u64 (Int.ofNat 0)), (AV.int IntKind.u64 (Int.ofNat 0)), (AV.int IntKind.u64 (Int.ofNat 0)), (AV.int IntKind.u64 (Int.ofNat 0)), (AV.int IntKind.u64 (Int.ofNat 0)), (AV.int IntKind.u64 (Int.ofNat 0)), (AV.int IntKind.u64 (Int.ofNat 0))] (ops0.set (PF.pad F (ops0.app (ops0.ext (ops0.ext pa oa (ops0.mul la 1)) 0 (ops0.mul la 1)) [(AV.int IntKind.u8 (Int.ofNat 31))])) 167 (AV.int IntKind.u8 (ops0.bin BinOp.xor IntKind.u8 n (Int.ofNat 128))))) 0 25)) ∧
 (Chk (ops0.eq (ops0.len (AF.rnds S (ops0.ext (PF.add F [(AV.int IntKind.u64 (Int.ofNat 0)), (AV.int IntKind.u64 (Int.ofNat 0)), (AV.int IntKind.u64 (Int.ofNat 0)), (AV.int IntKind.u64 (Int.ofNat 0)), (AV.int IntKind.u64 (Int.ofNat 0)), (AV.int IntKind.u64 (Int.ofNat 0)), (AV.int IntKind.u64 (Int.ofNat 0)), (AV.int IntKind.u64 (Int.ofNat 0)), (AV.int IntKind.u64 (Int.ofNat 0)), (AV.int IntKind.u64 (Int.ofNat 0)), (AV.int IntKind.u64 (Int.ofNat 0)), (AV.int IntKind.u64 (Int.ofNat 0)), (AV.int IntKind.u64 (Int.ofNat 0)), (AV.int IntKind.u64 (Int.ofNat 0)), (AV.int IntKind.u64 (Int.ofNat 0)), (AV.int IntKind.u64 (Int.ofNat 0)), (AV.int IntKind.u64 (Int.ofNat 0)), (AV.int IntKind.u64 (Int.ofNat 0)), (AV.int IntKind.u64 (Int.ofNat 0)), (AV.int IntKind.u64 (Int.ofNat 0)), (AV.int IntKind.u64 (Int.ofNat 0)), (AV.int IntKind.u64 (Int.ofNat 0)), (AV.int IntKind.u64 (Int.ofNat 0)), (AV.int IntKind.u64 (Int.ofNat 0)), (AV.int IntKind.u64 (Int.ofNat 0))] (ops0.set (PF.pad F (ops0.app (ops0.ext (ops0.ext pa oa (ops0.mul la 1)) 0 (ops0.mul la 1)) [(AV.int IntKind.u8 (Int.ofNat 31))])) 167 (AV.int IntKind.u8 (ops0.bin BinOp.xor IntKind.u8 n (Int.ofNat 128))))) 0 25))) 25)
 (Chk (ops0.le 25 (ops0.len (PF.add F [(AV.int IntKind.u64 (Int.ofNat 0)), (AV.int IntKind.u64 (Int.ofNat 0)), (AV.int IntKind.u64 (Int.ofNat 0)), (AV.int IntKind.u64 (Int.ofNat 0)), (AV.int IntKind.u64 (Int.ofNat 0)), (AV.int IntKind.u64 (Int.ofNat 0)), (AV.int IntKind.u64 (Int.ofNat 0)), (AV.int IntKind.u64 (Int.ofNat 0)), (AV.int IntKind.u64 (Int.ofNat 0)), (AV.int IntKind.u64 (Int.ofNat 0)), (AV.int IntKind.u64 (Int.ofNat 0)), (AV.int IntKind.u64 (Int.ofNat 0)), (AV.int IntKind.u64 (Int.ofNat 0)), (AV.int IntKind.u64 (Int.ofNat 0)), (AV.int IntKind.u64 (Int.ofNat 0)), (AV.int IntKind.u64 (Int.ofNat 0)), (AV.int IntKind.u64 (Int.ofNat 0)), (AV.int IntKind.u64 (Int.ofNat 0)), (AV.int IntKind.u64 (Int.ofNat 0)), (AV.int IntKind.u64 (Int.ofNat 0)), (AV.int IntKind.u64 (Int.ofNat 0)), (AV.int IntKind.u64 (Int.ofNat 0)), (AV.int IntKind.u64 (Int.ofNat 0)), (AV.int IntKind.u64 (Int.ofNat 0)), (AV.int IntKind.u64 (Int.ofNat 0))] (ops0.set (PF.pad F (ops0.app (ops0.ext (ops0.ext pa oa (ops0.mul la 1)) 0 (ops0.mul la 1)) [(AV.int IntKind.u8 (Int.ofNat 31))])) 167 (AV.int IntKind.u8 (ops0.bin BinOp.xor IntKind.u8 n (Int.ofNat 128)))))))
 ((PPs [(AV.ros pa oa la ca ea)] 0 1) ∧
 (True ∧
 ((((0 : Nat) = 0) ∧
 ((VCis lp6c lp6c) ∧
 ((([AV.top, AV.top, (AV.bool Bool.false), (AV.ptr 0 0), AV.top, AV.top, (AV.slc 2 0 168 168 1), (AV.int IntKind.i64 (Int.ofNat 0)), AV.top, AV.top, AV.top, AV.top, AV.top, AV.top, AV.top, AV.top, AV.top, AV.top, AV.top, AV.top, AV.top, AV.top, AV.top, AV.top, AV.top, AV.top, AV.top, AV.top, AV.top, AV.top, AV.top, AV.top, AV.top, AV.top, AV.top, AV.top, AV.top, AV.top, AV.top, AV.top, AV.top, AV.top, AV.top, AV.top, AV.top, AV.top, AV.top, AV.top, AV.top, AV.top, AV.top, AV.top, AV.top, AV.top, AV.top, AV.top, AV.top, AV.top, AV.top, AV.top, AV.top, AV.top, AV.top, AV.top, AV.top, AV.top, AV.top, AV.top, AV.top, AV.top, AV.top, AV.top, AV.top, AV.top, AV.top, AV.top, AV.top, AV.top, AV.top, AV.top, AV.top] : Fr) = [AV.top, AV.top, (AV.bool Bool.false), (AV.ptr 0 0), AV.top, AV.top, (AV.slc 2 0 168 168 1), (AV.int IntKind.i64 (Int.ofNat 0)), AV.top, AV.top, AV.top, AV.top, AV.top, AV.top, AV.top, AV.top, AV.top, AV.top, AV.top, AV.top, AV.top, AV.top, AV.top, AV.top, AV.top, AV.top, AV.top, AV.top, AV.top, AV.top, AV.top, AV.top, AV.top, AV.top, AV.top, AV.top, AV.top, AV.top, AV.top, AV.top, AV.top, AV.top, AV.top, AV.top, AV.top, AV.top, AV.top, AV.top, AV.top, AV.top, AV.top, AV.top, AV.top, AV.top, AV.top, AV.top, AV.top, AV.top, AV.top, AV.top, AV.top, AV.top, AV.top, AV.top, AV.top, AV.top, AV.top, AV.top, AV.top, AV.top, AV.top, AV.top, AV.top, AV.top, AV.top, AV.top, AV.top, AV.top, AV.top, AV.top, AV.top]) ∧
 (P6c (ops0.spl (PF.add F [(AV.int IntKind.u64 (Int.ofNat 0)), (AV.int IntKind.u64 (Int.ofNat 0)), (AV.int IntKind.u64 (Int.ofNat 0)), (AV.int IntKind.u64 (Int.ofNat 0)), (AV.int IntKind.u64 (Int.ofNat 0)), (AV.int IntKind.u64 (Int.ofNat 0)), (AV.int IntKind.u64 (Int.ofNat 0)), (AV.int IntKind.u64 (Int.ofNat 0)), (AV.int IntKind.u64 (Int.ofNat 0)), (AV.int IntKind.u64 (Int.ofNat 0)), (AV.int IntKind.u64 (Int.ofNat 0)), (AV.int IntKind.u64 (Int.ofNat 0)), (AV.int IntKind.u64 (Int.ofNat 0)), (AV.int IntKind.u64 (Int.ofNat 0)), (AV.int IntKind.u64 (Int.ofNat 0)), (AV.int IntKind.u64 (Int.ofNat 0)), (AV.int IntKind.u64 (Int.ofNat 0)), (AV.int IntKind.u64 (Int.ofNat 0)), (AV.int IntKind.u64 (Int.ofNat 0)), (AV.int IntKind.u64 (Int.ofNat 0)), (AV.int IntKind.u64 (Int.ofNat 0)), (AV.int IntKind.u64 (Int.ofNat 0)), (AV.int IntKind.u64 (Int.ofNat 0)), (AV.int IntKind.u64 (Int.ofNat 0)), (AV.int IntKind.u64 (Int.ofNat 0))] (ops0.set (PF.pad F (ops0.app (ops0.ext (ops0.ext pa oa (ops0.mul la 1)) 0 (ops0.mul la 1)) [(AV.int IntKind.u8 (Int.ofNat 31))])) 167 (AV.int IntKind.u8 (ops0.bin BinOp.xor IntKind.u8 n (Int.ofNat 128))))) 0 (AF.rnds S (ops0.ext (PF.add F [(AV.int IntKind.u64 (Int.ofNat 0)), (AV.int IntKind.u64 (Int.ofNat 0)), (AV.int IntKind.u64 (Int.ofNat 0)), (AV.int IntKind.u64 (Int.ofNat 0)), (AV.int IntKind.u64 (Int.ofNat 0)), (AV.int IntKind.u64 (Int.ofNat 0)), (AV.int IntKind.u64 (Int.ofNat 0)), (AV.int IntKind.u64 (Int.ofNat 0)), (AV.int IntKind.u64 (Int.ofNat 0)), (AV.int IntKind.u64 (Int.ofNat 0)), (AV.int IntKind.u64 (Int.ofNat 0)), (AV.int IntKind.u64 (Int.ofNat 0)), (AV.int IntKind.u64 (Int.ofNat 0)), (AV.int IntKind.u64 (Int.ofNat 0)), (AV.int IntKind.u64 (Int.ofNat 0)), (AV.int IntKind.u64 (Int.ofNat 0)), (AV.int IntKind.u64 (Int.ofNat 0)), (AV.int IntKind.u64 (Int.ofNat 0)), (AV.int IntKind.u64 (Int.ofNat 0)), (AV.int IntKind.u64 (Int.ofNat 0)), (AV.int IntKind.u64 (Int.ofNat 0)), (AV.int IntKind.u64 (Int.ofNat 0)), (AV.int IntKind.u64 (Int.ofNat 0)), (AV.int IntKind.u64 (Int.ofNat 0)), (AV.int IntKind.u64 (Int.ofNat 0))] (ops0.set (PF.pad F (ops0.app (ops0.ext (ops0.ext pa oa (ops0.mul la 1)) 0 (ops0.mul la 1)) [(AV.int IntKind.u8 (Int.ofNat 31))])) 167 (AV.int IntKind.u8 (ops0.bin BinOp.xor IntKind.u8 n (Int.ofNat 128))))) 0 25))) (KF.str (AF.toKF S) (rdP [(AV.ros pa oa la ca ea)] 0 1) 168))))) ∧
 (Q (AV.bool Bool.true) [(Blk.cells (ops0.spl (PF.add F [(AV.int IntKind.u64 (Int.ofNat 0)), (AV.int IntKind.u64 (Int.ofNat 0)), (AV.int IntKind.u64 (Int.ofNat 0)), (AV.int IntKind.u64 (Int.ofNat 0)), (AV.int IntKind.u64 (Int.ofNat 0)), (AV.int IntKind.u64 (Int.ofNat 0)), (AV.int IntKind.u64 (Int.ofNat 0)), (AV.int IntKind.u64 (Int.ofNat 0)), (AV.int IntKind.u64 (Int.ofNat 0)), (AV.int IntKind.u64 (Int.ofNat 0)), (AV.int IntKind.u64 (Int.ofNat 0)), (AV.int IntKind.u64 (Int.ofNat 0)), (AV.int IntKind.u64 (Int.ofNat 0)), (AV.int IntKind.u64 (Int.ofNat 0)), (AV.int IntKind.u64 (Int.ofNat 0)), (AV.int IntKind.u64 (Int.ofNat 0)), (AV.int IntKind.u64 (Int.ofNat 0)), (AV.int IntKind.u64 (Int.ofNat 0)), (AV.int IntKind.u64 (Int.ofNat 0)), (AV.int IntKind.u64 (Int.ofNat 0)), (AV.int IntKind.u64 (Int.ofNat 0)), (AV.int IntKind.u64 (Int.ofNat 0)), (AV.int IntKind.u64 (Int.ofNat 0)), (AV.int IntKind.u64 (Int.ofNat 0)), (AV.int IntKind.u64 (Int.ofNat 0))] (ops0.set (PF.pad F (ops0.app (ops0.ext (ops0.ext pa oa (ops0.mul la 1)) 0 (ops0.mul la 1)) [(AV.int IntKind.u8 (Int.ofNat 31))])) 167 (AV.int IntKind.u8 (ops0.bin BinOp.xor IntKind.u8 n (Int.ofNat 128))))) 0 (AF.rnds S (ops0.ext (PF.add F [(AV.int IntKind.u64 (Int.ofNat 0)), (AV.int IntKind.u64 (Int.ofNat 0)), (AV.int IntKind.u64 (Int.ofNat 0)), (AV.int IntKind.u64 (Int.ofNat 0)), (AV.int IntKind.u64 (Int.ofNat 0)), (AV.int IntKind.u64 (Int.ofNat 0)), (AV.int IntKind.u64 (Int.ofNat 0)), (AV.int IntKind.u64 (Int.ofNat 0)), (AV.int IntKind.u64 (Int.ofNat 0)), (AV.int IntKind.u64 (Int.ofNat 0)), (AV.int IntKind.u64 (Int.ofNat 0)), (AV.int IntKind.u64 (Int.ofNat 0)), (AV.int IntKind.u64 (Int.ofNat 0)), (AV.int IntKind.u64 (Int.ofNat 0)), (AV.int IntKind.u64 (Int.ofNat 0)), (AV.int IntKind.u64 (Int.ofNat 0)), (AV.int IntKind.u64 (Int.ofNat 0)), (AV.int IntKind.u64 (Int.ofNat 0)), (AV.int IntKind.u64 (Int.ofNat 0)), (AV.int IntKind.u64 (Int.ofNat 0)), (AV.int IntKind.u64 (Int.ofNat 0)), (AV.int IntKind.u64 (Int.ofNat 0)), (AV.int IntKind.u64 (Int.ofNat 0)), (AV.int IntKind.u64 (Int.ofNat 0)), (AV.int IntKind.u64 (Int.ofNat 0))] (ops0.set (PF.pad F (ops0.app (ops0.ext (ops0.ext pa oa (ops0.mul la 1)) 0 (ops0.mul la 1)) [(AV.int IntKind.u8 (Int.ofNat 31))])) 167 (AV.int IntKind.u8 (ops0.bin BinOp.xor IntKind.u8 n (Int.ofNat 128))))) 0 25)))), (Blk.cells (ops0.set (PF.pad F (ops0.app (ops0.ext (ops0.ext pa oa (ops0.mul la 1)) 0 (ops0.mul la 1)) [(AV.int IntKind.u8 (Int.ofNat 31))])) 167 (AV.int IntKind.u8 (ops0.bin BinOp.xor IntKind.u8 n (Int.ofNat 128))))), (Blk.cells (KF.str (AF.toKF S) (rdP [(AV.ros pa oa la ca ea)] 0 1) 168))] [0, 1, 1]))))))))))))))))))) := by kernel_rfl

end
end Go.Proofs.Vm

namespace Go.Proofs.Vm
open Go.Vm
noncomputable section
set_option maxRecDepth 100000

theorem flat_one (b : UInt8) : flatL [by8 b] := by intro a ha; simp at ha; rw [ha]; rfl

theorem k6c_eq (Q : Ex → Fr → Hl → Prop) : K6c Q = bodyE 0 ids6a mk6a Q := by
  funext ex fr H lg
  exact true_and _

theorem loop6a (pa : List AV) (hpa : flatL pa) (oa k ca : Nat) (e : Bool) (L : Nat) (hL : L ≤ 168) (s : List Int) (l : List UInt8) (hl : l.length = L) :
    ∀ lg, LoopTo Try.prog 0 lp6a (fr6a (.ros pa oa k ca e) L) [.cells (s.map w), .cells (l.map by8)] lg (.exit 0) (fr6a (.ros pa oa k ca e) 168) [.cells (s.map w), .cells (l.map by8 ++ List.replicate (168 - L) (by8 0))] (List.range 0 ++ lg) := by
  have h := loop_chain (P := Try.prog) (n0 := 0) (b := lp6a) (ex := .exit 0) (fr' := fr6a (.ros pa oa k ca e) 168) (H' := [.cells (s.map w), .cells (l.map by8 ++ List.replicate (168 - L) (by8 0))]) (by intro h; cases h)
    (fun j => (fr6a (.ros pa oa k ca e) (L + j), [.cells (s.map w), .cells (l.map by8 ++ List.replicate j (by8 0))])) (168 - L) 0 (fun j _ hj => ?_) ?_
  · simpa using h
  · have hlen : (l.map by8 ++ List.replicate j (by8 0)).length = L + j := by simp [hl]
    have key : ∀ Q : Ex → Fr → Hl → Prop, Q .norm (fr6a (.ros pa oa k ca e) (L + (j + 1))) [.cells (s.map w), .cells (l.map by8 ++ List.replicate (j + 1) (by8 0))] →
        vm (vcA kdYes noCn noLn) ops0 noTab 100 0 lp6a (fr6a (.ros pa oa k ca e) (L + j)) [.cells (s.map w), .cells (l.map by8 ++ List.replicate j (by8 0))] [] (bodyE 0 ids6a mk6a Q) := by
      intro Q hQ
      rw [← k6c_eq, vcl6a]
      refine Br.t (by rw [nOfn, nLss]; exact decide_eq_true (by omega)) (Chk.mk (by rw [nLe, nPlus, nTimes, nLen]; exact decide_eq_true (by omega)) (Chk.mk (by rw [nRoom]; exact decide_eq_true (by omega)) ⟨trivial, ?_⟩))
      refine Eq.mpr (β := Q .norm (fr6a (.ros (renL (pickN [0, 2]) Go.Vm.noView true pa) oa k ca e) (L + (j + 1))) [.cells (renL (pickN [0, 2]) Go.Vm.noView true (s.map w)), .cells (renL (pickN [0, 2]) Go.Vm.noView true (((l.map by8 ++ List.replicate j (by8 0)).drop 0).take ((L + j) * 1) ++ [by8 0]))]) (by kernel_rfl) ?_
      rw [renL_flat hpa, renL_flat (flat_w s), Nat.mul_one, List.drop_zero, List.take_of_length_le (by omega), renL_flat (flatL_append (flatL_append (flat_by8 _) (flat_rep _)) (flat_one 0))]
      rw [List.replicate_succ', ← List.append_assoc] at hQ
      exact hQ
    exact body_vc (noCn_ok _) (noLn_ok _) (noTab_ok _) (n := 100) (g := kdYes) (ids := ids6a) (bs := mk6a) (key _ ⟨rfl, rfl, rfl⟩) (by simp)
  · show BodyTo _ _ _ (fr6a (.ros pa oa k ca e) (L + (0 + (168 - L)))) [.cells (s.map w), .cells (l.map by8 ++ List.replicate (0 + (168 - L)) (by8 0))] _ _ _
    rw [Nat.zero_add, show L + (168 - L) = 168 by omega]
    have key : ∀ Q : Ex → Fr → Hl → Prop, Q (.exit 0) (fr6a (.ros pa oa k ca e) 168) [.cells (s.map w), .cells (l.map by8 ++ List.replicate (168 - L) (by8 0))] →
        vm (vcA kdYes noCn noLn) ops0 noTab 100 0 lp6a (fr6a (.ros pa oa k ca e) 168) [.cells (s.map w), .cells (l.map by8 ++ List.replicate (168 - L) (by8 0))] [] (bodyE 0 ids6a mk6a Q) := by
      intro Q hQ
      rw [← k6c_eq, vcl6a]
      refine Br.f rfl ⟨trivial, ?_⟩
      refine Eq.mpr (β := Q (.exit 0) (fr6a (.ros (renL (pickN [0, 1]) Go.Vm.noView true pa) oa k ca e) 168) [.cells (renL (pickN [0, 1]) Go.Vm.noView true (s.map w)), .cells (renL (pickN [0, 1]) Go.Vm.noView true (l.map by8 ++ List.replicate (168 - L) (by8 0)))]) (by kernel_rfl) ?_
      rw [renL_flat hpa, renL_flat (flat_w s), renL_flat (flatL_append (flat_by8 _) (flat_rep _))]
      exact hQ
    exact body_vc (noCn_ok _) (noLn_ok _) (noTab_ok _) (n := 100) (g := kdYes) (ids := ids6a) (bs := mk6a) (key _ ⟨rfl, rfl, rfl⟩) (by simp)

theorem loop6b (x0 : AV) (l : List UInt8) (hl : l.length = 168) (s : List Int) (hs : s.length = 25) :
    ∀ lg, LoopTo Try.prog 0 lp6b (fr6b x0 0) [.cells (s.map w), .cells (l.map by8)] lg (.exit 2) (fr6b x0 168) [.cells ((addL s 0 l).map w), .cells (l.map by8)] (List.range 0 ++ lg) := by
  have h := loop_chain (P := Try.prog) (n0 := 0) (b := lp6b) (ex := .exit 2) (fr' := fr6b x0 168) (H' := [.cells ((addL s 0 l).map w), .cells (l.map by8)]) (by intro h; cases h)
    (fun i => (fr6b x0 i, [.cells ((addL s 0 (l.take i)).map w), .cells (l.map by8)])) 168 0 (fun i _ hi => ?_) ?_
  · simpa [addL] using h
  · have hi' : i < 168 := by omega
    have hy := addL_length (l := l.take i) (p := 0) hs
    have hx : (l.map by8)[i]? = some (by8 (l[i]'(by omega))) := by simp [hi', hl]
    have hbl : (l[i]'(by omega)).toNat < 256 := UInt8.toNat_lt _
    have key : ∀ Q : Ex → Fr → Hl → Prop, Q .norm (fr6b x0 (i + 1)) [.cells ((addL s 0 (l.take (i + 1))).map w), .cells (l.map by8)] →
        vm (vcA kdYes noCn noLn) ops0 noTab 100 0 lp6b (fr6b x0 i) [.cells ((addL s 0 (l.take i)).map w), .cells (l.map by8)] [] (bodyX mk6b Q) := by
      intro Q hQ
      rw [addL_snoc s 0 _ (by omega), Nat.zero_add] at hQ
      rw [vcl6b]
      generalize addL s 0 (l.take i) = y at hy hQ ⊢
      have wa := words_at (s := y) [] (i := i / 8) (by omega)
      have ws := fun x => words_set (s := y) [] (i := i / 8) (by omega) x
      simp only [List.append_nil] at wa ws
      rw [nAdd (a := i) (b := 1) (by omega)]
      simp (disch := omega) only [nLss, nQuo, nInr, nAdr, nAdd, nNn, nMul, nRem, nLt, nLen, nSet, Nat.zero_add, Nat.mul_one]
      refine Br.t (decide_eq_true hi') (Chk.mk (decide_eq_true (by omega)) ⟨_, Nth.mk wa, Chk.mk (decide_eq_true (by omega)) ⟨_, Nth.mk hx, Chk.mk rfl (Chk.mk (decide_eq_true (by omega)) (Chk.mk (decide_eq_true (by simp; omega)) ?_))⟩⟩)
      rw [nC64 (by omega), ws]
      exact hQ
    exact body_x (noCn_ok _) (noLn_ok _) (noTab_ok _) (n := 100) (g := kdYes) (bs := mk6b) (key _ ⟨rfl, rfl, rfl⟩) (by simp)
  · show BodyTo _ _ _ (fr6b x0 168) [.cells ((addL s 0 (l.take 168)).map w), .cells (l.map by8)] _ _ _
    rw [List.take_of_length_le (by omega)]
    refine body_x (noCn_ok _) (noLn_ok _) (noTab_ok _) (n := 100) (g := kdYes) (bs := mk6b) ?_ (by simp)
    rw [vcl6b]
    exact Br.f (by rw [nLss]; exact decide_eq_false (by omega)) ⟨rfl, rfl, rfl⟩

theorem loop6c (ms : List AV) (s : List Int) (hs : s.length = 25) :
    ∀ lg, LoopTo Try.prog 0 lp6c (fr6c 0) [.cells (s.map w), .cells ms, .cells ((letL 168 168 (s, 0)).map by8)] lg (.exit 4) (fr6c 168) [.cells (s.map w), .cells ms, .cells ((letL 168 168 (s, 0)).map by8)] (List.range 0 ++ lg) := by
  have h := loop_chain (P := Try.prog) (n0 := 0) (b := lp6c) (ex := .exit 4) (fr' := fr6c 168) (H' := [.cells (s.map w), .cells ms, .cells ((letL 168 168 (s, 0)).map by8)]) (by intro h; cases h)
    (fun i => (fr6c i, [.cells (s.map w), .cells ms, .cells ((letL 168 168 (s, 0)).map by8)])) 168 0 (fun i _ hi => ?_) ?_
  · exact h
  · have hi' : i < 168 := by omega
    have hx : ((letL 168 168 (s, 0)).map by8)[i]? = some (by8 (UInt8.ofNat (outB s i).toNat)) := by
      have e0 : lt0 168 (ltN 168 i (s, 0)) = UInt8.ofNat (outB s i).toNat := by
        rw [ltN_lo (by omega)]
        unfold lt0
        rw [if_neg (by show ¬ i = 168; omega)]
      have e1 : (letL 168 168 (s, 0)).take (i + 1) = letL 168 i (s, 0) ++ [lt0 168 (ltN 168 i (s, 0))] := by
        rw [letL_take 168 (i + 1) 168 _ (by omega), letL_snoc]
      have e2 : ((letL 168 168 (s, 0)).take (i + 1))[i]? = (letL 168 168 (s, 0))[i]? := by rw [List.getElem?_take, if_pos (by omega)]
      rw [List.getElem?_map, ← e2, e1, List.getElem?_append_right (by rw [letL_length]; omega), letL_length, Nat.sub_self, e0]
      rfl
    have key : ∀ Q : Ex → Fr → Hl → Prop, Q .norm (fr6c (i + 1)) [.cells (s.map w), .cells ms, .cells ((letL 168 168 (s, 0)).map by8)] →
        vm (vcA kdYes noCn noLn) ops0 noTab 100 0 lp6c (fr6c i) [.cells (s.map w), .cells ms, .cells ((letL 168 168 (s, 0)).map by8)] [] (bodyX mk6c Q) := by
      intro Q hQ
      rw [vcl6c]
      have wa := words_at (s := s) [] (i := i / 8) (by omega)
      simp only [List.append_nil] at wa
      have hof := by8_out s i
      rw [nAdd (a := i) (b := 1) (by omega)]
      simp (disch := omega) only [nLss, nQuo, nInr, nAdr, nNn, nMul, nRem, Nat.zero_add, Nat.mul_one]
      refine Br.t (decide_eq_true hi') (Chk.mk (decide_eq_true hi') ⟨_, Nth.mk hx, Chk.mk (decide_eq_true (by omega)) ⟨_, Nth.mk wa, Chk.mk rfl (Br.f ?_ hQ)⟩⟩)
      have e : AV.int IntKind.u8 (ops0.cvt IntKind.u8 (ops0.shf BinOp.shr IntKind.u64 (s.getD (i / 8) 0) (Int.ofNat (8 * (i % 8))))) = by8 (UInt8.ofNat (outB s i).toNat) := by8_out s i
      injection e with _ e
      rw [e]
      show (!(_ == _)) = false
      simp
    exact body_x (noCn_ok _) (noLn_ok _) (noTab_ok _) (n := 100) (g := kdYes) (bs := mk6c) (key _ ⟨rfl, rfl, rfl⟩) (by simp)
  · refine body_x (noCn_ok _) (noLn_ok _) (noTab_ok _) (n := 100) (g := kdYes) (bs := mk6c) ?_ (by simp)
    show vm (vcA kdYes noCn noLn) ops0 noTab 100 0 lp6c (fr6c 168) _ _ _
    rw [vcl6c]
    exact Br.f (by rw [nLss]; exact decide_eq_false (by omega)) ⟨rfl, rfl, rfl⟩

def pf0 : PF := ⟨fun ms => ms ++ List.replicate (168 - ms.length) (by8 0), fun ss ms => (addL (intsA ss) 0 (bytesA ms)).map w⟩

theorem ln6_ok : LnOK Try.prog (ln6 pf0) := by
  intro n0 b fr H p x e hn hp lg
  unfold ln6 at e
  split at e <;> cases e
  · rename_i pa oa k ca ee L cap ss ms h1 h2
    obtain ⟨rfl, hb, hf, hpa, hL, ⟨s, hs, rfl⟩, l, hl, rfl⟩ := hp
    have hb : b = lp6a := hb
    subst hb
    have hw : Weak 0 fr [.cells (s.map w), .dead, .cells (l.map by8)] (wkF [0, 2] mk6a fr) (wkH [0, 2] [.cells (s.map w), .dead, .cells (l.map by8)]) := Weak.pick [0, 2] mk6a (by simp) (by simp) (by simp)
    rw [hf] at hw
    have e2 : wkH [0, 2] [.cells (s.map w), .dead, .cells (l.map by8)] = [.cells (s.map w), .cells (l.map by8)] := by
      simp [wkH, pickH, renB, renL_flat (flat_by8 l), renL_flat (flat_w s)]
    rw [e2] at hw
    have h := LoopTo.pre hw (loop6a pa hpa oa k ca ee L hL s l hl) lg
    show LoopTo _ _ _ _ _ _ _ _ [.cells (s.map w), .cells (l.map by8 ++ List.replicate (168 - (l.map by8).length) (by8 0))] _
    rw [List.length_map, hl]
    exact h
  · rename_i x6 ss ms h1 h2 h3
    obtain ⟨rfl, hb, hf, ⟨s, hs, rfl⟩, l, hl, rfl⟩ := hp
    have hb : b = lp6b := hb
    subst hb
    show LoopTo _ _ _ _ _ _ _ _ [.cells ((addL (intsA (s.map w)) 0 (bytesA (l.map by8))).map w), .cells (l.map by8)] _
    rw [intA_w, bytesA_by8]
    refine LoopTo.pre (Weak.forget (by simp) mk6b) ?_ lg
    rw [hf]
    exact loop6b _ l hl s hs
  · rename_i ss ms xs h1
    obtain ⟨rfl, hb, hf, s, hs, _, rfl, rfl⟩ := hp
    have hb : b = lp6c := hb
    subst hb
    refine LoopTo.pre (Weak.forget (by simp) mk6c) ?_ lg
    rw [hf]
    exact loop6c ms s hs

theorem pad6 (lb : List UInt8) (hk : lb.length ≤ 167) : ∃ n m : UInt8, ((lb ++ [31]) ++ List.replicate (168 - (lb.length + 1)) 0)[167]? = some n ∧ ops0.bin .xor .u8 (Int.ofNat n.toNat) (Int.ofNat 128) = Int.ofNat m.toNat ∧
    ((lb ++ [31]) ++ List.replicate (168 - (lb.length + 1)) 0).set 167 m = lb ++ padL 168 31 lb.length := by
  rcases Nat.lt_or_ge lb.length 167 with h | h
  · obtain ⟨k, hk⟩ : ∃ k, 168 - (lb.length + 1) = k + 1 := ⟨166 - lb.length, by omega⟩
    have e : (lb ++ [31]) ++ List.replicate (168 - (lb.length + 1)) 0 = ((lb ++ [31]) ++ List.replicate k 0) ++ [0] := by
      rw [hk, List.replicate_succ', ← List.append_assoc]
    have hl : ((lb ++ [31]) ++ List.replicate k (0 : UInt8)).length = 167 := by simp; omega
    refine ⟨0, 128, ?_, rfl, ?_⟩
    · rw [e, List.getElem?_append_right (by omega), hl]; rfl
    · rw [e, List.set_append_right _ _ (by omega), hl]
      unfold padL
      rw [if_neg (by omega)]
      have : 168 - 2 - lb.length % 168 = k := by omega
      rw [this]
      simp
  · have h : lb.length = 167 := by omega
    have hl : ∀ x : UInt8, (lb ++ [x])[167]? = some x := fun x => by rw [List.getElem?_append_right (by omega), h]; rfl
    refine ⟨31, 159, ?_, rfl, ?_⟩
    · rw [h]
      show (lb ++ [31] ++ [])[167]? = _
      rw [List.append_nil]; exact hl 31
    · rw [h]
      show (lb ++ [31] ++ []).set 167 159 = _
      rw [List.append_nil, List.set_append_right _ _ (by omega), h]
      rfl

theorem w6 {pa : List AV} (hf : flatL pa) {oa k ca L : Nat} {e : Bool} {fr : Fr} (h : wkF [0, 2] mk6a fr = fr6a (.ros (renL (pickN [0, 2]) Go.Vm.noView true pa) oa k ca e) L) : W6 fr (.ros pa oa k ca e) L := by
  unfold W6
  rw [h, renL_flat hf]

theorem law6 {pa : List AV} {oa la ca : Nat} {ea : Bool} {al : List UInt8} (hf : flatL pa) (hb : BytesAt pa oa la al) (ho : oa + la ≤ pa.length) (hc : la ≤ ca) : ∃ H' lg, CallTo Try.prog 6 [.ros pa oa la ca ea] [] (.bool true) H' lg := by
  have hv : vcall (vcA kdYes (cnB af0) (ln6 pf0)) ops0 (tabOne 6 vf6) 200 vf6 [.ros pa oa la ca ea] [] (fun r _ _ => r = .bool true) := by
    rw [vc6]
    refine Br.mk (fun h => ?_) (fun h => ?_)
    · have h : 168 ≤ la := by rw [nOfn, nGeq] at h; exact of_decide_eq_true h
      obtain ⟨lb, rfl⟩ : ∃ lb, lb = al.take 167 := ⟨_, rfl⟩
      generalize hlb : al.take 167 = lb
      have hl : lb.length = 167 := by rw [← hlb, List.length_take, hb.1]; omega
      have hb' : BytesAt pa oa 167 lb := by
        refine ⟨hl, ?_⟩
        have := congrArg (List.take 167) hb.2
        rw [List.take_take, Nat.min_eq_left (by omega), ← List.map_take, hlb] at this
        exact this
      have hpp : PPs [.ros pa oa 167 ca (Bool.or ea false)] 0 1 := pps_one hf hb' (by omega) _ _
      have e1 : ops0.ext pa oa 167 = lb.map by8 := hb'.2
      have e2 : ops0.ext (lb.map by8) 0 167 = lb.map by8 := extAll (by rw [List.length_map, hl])
      rw [e1, e2]
      refine Chk.mk (by rw [nInb]; exact decide_eq_true (by omega)) (Chk.mk (by rw [nLe, nPlus, nLen]; exact decide_eq_true (by omega)) (ckLe (by rw [List.length_map, hl]) ?_))
      have e3 : ops0.app (lb.map by8) [AV.int .u8 (Int.ofNat 31)] = (lb ++ [31]).map by8 := by rw [nApp, List.map_append]; rfl
      have e4 : PF.pad pf0 ((lb ++ [31]).map by8) = ((lb ++ [31]) ++ List.replicate (168 - (lb.length + 1)) 0).map by8 := by
        show (lb ++ [31]).map by8 ++ List.replicate (168 - ((lb ++ [31]).map by8).length) (by8 0) = _
        rw [List.map_append (l₂ := List.replicate _ _), List.map_replicate, List.length_map, List.length_append]; rfl
      rw [e3, e4, rdP_one, rdB_eq hb']
      obtain ⟨n, m, hn, hx, hset⟩ := pad6 lb (by omega)
      have hpl : (lb ++ padL 168 31 lb.length).length = 168 := by rw [← hset]; simp; omega
      have hPl : (((lb ++ [31]) ++ List.replicate (168 - (lb.length + 1)) 0)).length = 168 := by simp; omega
      have hab : st (addL zer 0 (lb ++ padL 168 31 lb.length)) 24 = absorb 168 31 lb := by
        have h1 := absorb_padded (rate := 168) (e := 31) (by decide) (.inr rfl) (by decide) lb
        rw [takeL_block (by intro e; rw [e] at hpl; cases hpl) (by omega)] at h1
        exact congrArg Prod.fst h1
      have hal : (addL zer 0 (lb ++ padL 168 31 lb.length)).length = 25 := addL_length rfl
      have e7 : PF.add pf0 (zer.map w) ((lb ++ padL 168 31 lb.length).map by8) = (addL zer 0 (lb ++ padL 168 31 lb.length)).map w := by
        show (addL (intsA (zer.map w)) 0 (bytesA ((lb ++ padL 168 31 lb.length).map by8))).map w = _
        rw [intA_w, bytesA_by8]
      have hwl : ((addL zer 0 (lb ++ padL 168 31 lb.length)).map w).length = 25 := by rw [List.length_map, hal]
      have e8 : AF.rnds af0 ((addL zer 0 (lb ++ padL 168 31 lb.length)).map w) = (absorb 168 31 lb).map w := by
        show (allF (intsA ((addL zer 0 (lb ++ padL 168 31 lb.length)).map w))).map w = _
        rw [intA_w, ← hab]; rfl
      have hbl : ((absorb 168 31 lb).map w).length = 25 := by rw [List.length_map, ← hab, st_length hal]
      have e6 : ops0.set (((lb ++ [31]) ++ List.replicate (168 - (lb.length + 1)) 0).map by8) 167 (AV.int .u8 (Int.ofNat m.toNat)) = (lb ++ padL 168 31 lb.length).map by8 := by
        rw [nSet, ← hset, List.map_set]; rfl
      refine ⟨⟨rfl, rfl, w6 hf (by kernel_rfl), hf, by omega, ⟨zer, rfl, rfl⟩, lb ++ [31], by simp [hl], rfl⟩, Int.ofNat n.toNat, Nth.mk (by rw [List.getElem?_map, hn]; rfl), Chk.mk (by rw [nLt, nLen, List.length_map, hPl]; rfl) ?_⟩
      rw [hx, e6, show [AV.int .u64 (Int.ofNat 0), AV.int .u64 (Int.ofNat 0), AV.int .u64 (Int.ofNat 0), AV.int .u64 (Int.ofNat 0), AV.int .u64 (Int.ofNat 0), AV.int .u64 (Int.ofNat 0), AV.int .u64 (Int.ofNat 0), AV.int .u64 (Int.ofNat 0), AV.int .u64 (Int.ofNat 0), AV.int .u64 (Int.ofNat 0), AV.int .u64 (Int.ofNat 0), AV.int .u64 (Int.ofNat 0), AV.int .u64 (Int.ofNat 0), AV.int .u64 (Int.ofNat 0), AV.int .u64 (Int.ofNat 0), AV.int .u64 (Int.ofNat 0), AV.int .u64 (Int.ofNat 0), AV.int .u64 (Int.ofNat 0), AV.int .u64 (Int.ofNat 0), AV.int .u64 (Int.ofNat 0), AV.int .u64 (Int.ofNat 0), AV.int .u64 (Int.ofNat 0), AV.int .u64 (Int.ofNat 0), AV.int .u64 (Int.ofNat 0), AV.int .u64 (Int.ofNat 0)] = zer.map w from rfl, e7, extAll hwl, e8, spl_all (by rw [hwl, hbl])]
      exact ⟨⟨rfl, rfl, rfl, ⟨zer, rfl, rfl⟩, _, hpl, rfl⟩, ckLe hwl ⟨⟨_, hal, rfl⟩, ckEq hbl (ckLe hwl ⟨hpp, trivial, ⟨rfl, rfl, rfl, absorb 168 31 lb, by rw [← hab]; exact st_length hal 24, absorb_ok _ _ _, rfl, rfl⟩, rfl⟩)⟩⟩
    · have h : ¬ 168 ≤ la := by rw [nOfn, nGeq] at h; exact of_decide_eq_false h
      obtain ⟨lb, rfl⟩ : ∃ lb, lb = al := ⟨_, rfl⟩
      have hl : lb.length = la := hb.1
      have hb' : BytesAt pa oa la lb := hb
      have hpp : PPs [.ros pa oa la ca ea] 0 1 := pps_one hf hb' (by omega) _ _
      have e1 : ops0.ext pa oa (ops0.mul la 1) = lb.map by8 := by rw [nTimes, Nat.mul_one]; exact hb'.2
      have e2 : ops0.ext (lb.map by8) 0 (ops0.mul la 1) = lb.map by8 := extAll (by rw [List.length_map, hl, nTimes, Nat.mul_one])
      rw [e1, e2]
      refine Chk.mk (by rw [nLe, nPlus, nTimes, nLen]; exact decide_eq_true (by omega)) (Chk.mk (by rw [nRoom]; exact decide_eq_true (by omega)) (Chk.mk (by rw [nLe, nPlus, nTimes, nLen, List.length_map, hl]; exact decide_eq_true (by omega)) (Chk.mk (by rw [nRoom]; exact decide_eq_true (by omega)) ?_)))
      have e3 : ops0.app (lb.map by8) [AV.int .u8 (Int.ofNat 31)] = (lb ++ [31]).map by8 := by rw [nApp, List.map_append]; rfl
      have e4 : PF.pad pf0 ((lb ++ [31]).map by8) = ((lb ++ [31]) ++ List.replicate (168 - (lb.length + 1)) 0).map by8 := by
        show (lb ++ [31]).map by8 ++ List.replicate (168 - ((lb ++ [31]).map by8).length) (by8 0) = _
        rw [List.map_append (l₂ := List.replicate _ _), List.map_replicate, List.length_map, List.length_append]; rfl
      rw [e3, e4, rdP_one, rdB_eq hb']
      obtain ⟨n, m, hn, hx, hset⟩ := pad6 lb (by omega)
      have hpl : (lb ++ padL 168 31 lb.length).length = 168 := by rw [← hset]; simp; omega
      have hPl : (((lb ++ [31]) ++ List.replicate (168 - (lb.length + 1)) 0)).length = 168 := by simp; omega
      have hab : st (addL zer 0 (lb ++ padL 168 31 lb.length)) 24 = absorb 168 31 lb := by
        have h1 := absorb_padded (rate := 168) (e := 31) (by decide) (.inr rfl) (by decide) lb
        rw [takeL_block (by intro e; rw [e] at hpl; cases hpl) (by omega)] at h1
        exact congrArg Prod.fst h1
      have hal : (addL zer 0 (lb ++ padL 168 31 lb.length)).length = 25 := addL_length rfl
      have e7 : PF.add pf0 (zer.map w) ((lb ++ padL 168 31 lb.length).map by8) = (addL zer 0 (lb ++ padL 168 31 lb.length)).map w := by
        show (addL (intsA (zer.map w)) 0 (bytesA ((lb ++ padL 168 31 lb.length).map by8))).map w = _
        rw [intA_w, bytesA_by8]
      have hwl : ((addL zer 0 (lb ++ padL 168 31 lb.length)).map w).length = 25 := by rw [List.length_map, hal]
      have e8 : AF.rnds af0 ((addL zer 0 (lb ++ padL 168 31 lb.length)).map w) = (absorb 168 31 lb).map w := by
        show (allF (intsA ((addL zer 0 (lb ++ padL 168 31 lb.length)).map w))).map w = _
        rw [intA_w, ← hab]; rfl
      have hbl : ((absorb 168 31 lb).map w).length = 25 := by rw [List.length_map, ← hab, st_length hal]
      have e6 : ops0.set (((lb ++ [31]) ++ List.replicate (168 - (lb.length + 1)) 0).map by8) 167 (AV.int .u8 (Int.ofNat m.toNat)) = (lb ++ padL 168 31 lb.length).map by8 := by
        rw [nSet, ← hset, List.map_set]; rfl
      refine ⟨⟨rfl, rfl, w6 hf (by kernel_rfl), hf, by rw [nPlus]; omega, ⟨zer, rfl, rfl⟩, lb ++ [31], by rw [nPlus]; simp [hl], rfl⟩, Int.ofNat n.toNat, Nth.mk (by rw [List.getElem?_map, hn]; rfl), Chk.mk (by rw [nLt, nLen, List.length_map, hPl]; rfl) ?_⟩
      rw [hx, e6, show [AV.int .u64 (Int.ofNat 0), AV.int .u64 (Int.ofNat 0), AV.int .u64 (Int.ofNat 0), AV.int .u64 (Int.ofNat 0), AV.int .u64 (Int.ofNat 0), AV.int .u64 (Int.ofNat 0), AV.int .u64 (Int.ofNat 0), AV.int .u64 (Int.ofNat 0), AV.int .u64 (Int.ofNat 0), AV.int .u64 (Int.ofNat 0), AV.int .u64 (Int.ofNat 0), AV.int .u64 (Int.ofNat 0), AV.int .u64 (Int.ofNat 0), AV.int .u64 (Int.ofNat 0), AV.int .u64 (Int.ofNat 0), AV.int .u64 (Int.ofNat 0), AV.int .u64 (Int.ofNat 0), AV.int .u64 (Int.ofNat 0), AV.int .u64 (Int.ofNat 0), AV.int .u64 (Int.ofNat 0), AV.int .u64 (Int.ofNat 0), AV.int .u64 (Int.ofNat 0), AV.int .u64 (Int.ofNat 0), AV.int .u64 (Int.ofNat 0), AV.int .u64 (Int.ofNat 0)] = zer.map w from rfl, e7, extAll hwl, e8, spl_all (by rw [hwl, hbl])]
      exact ⟨⟨rfl, rfl, rfl, ⟨zer, rfl, rfl⟩, _, hpl, rfl⟩, ckLe hwl ⟨⟨_, hal, rfl⟩, ckEq hbl (ckLe hwl ⟨hpp, trivial, ⟨rfl, rfl, rfl, absorb 168 31 lb, by rw [← hab]; exact st_length hal 24, absorb_ok _ _ _, rfl, rfl⟩, rfl⟩)⟩⟩
  obtain ⟨r, H', lg, hc, rfl⟩ := call_vcx cnB_ok ln6_ok (tabOne_ok ok6) (tabOne_self 6 vf6) hv
  exact ⟨H', lg, hc⟩

end
end Go.Proofs.Vm
