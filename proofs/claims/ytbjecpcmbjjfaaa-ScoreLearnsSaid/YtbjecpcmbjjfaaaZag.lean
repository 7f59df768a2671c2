/-
  SCORE, PART 10: the laws of costs and sums.
-/
import Derived.Test.YtbjecpcmbjjfaaaZaf
import Derived.Test.YtbjecpcmbjjfaaaRows
import Derived.ProofKit

namespace Go.Proofs.Vm
open Go.Vm Go.Fl
noncomputable section
-- SCORE
def P7 (cs : List AV) (o n s : Nat) : Prop := FOK cs o n ∧ s = joF (fsA cs o n)
def lp7 : VC := (.seq (.seq (.reg .false [] [⟨(.some 18), .none, .mov, [(.t 4)]⟩, ⟨(.some 19), .none, .mov, [(.t 0)]⟩, ⟨(.some 20), .none, .len, [(.t 19)]⟩, ⟨(.some 21), .none, (.cmp .lss), [(.t 18), (.t 20)]⟩]) (.cond (.t 21) .skip (.exit 0))) (.seq (.block 1 (.seq (.reg .false [] [⟨(.some 24), .none, .mov, [(.t 0)]⟩, ⟨(.some 25), .none, .mov, [(.t 4)]⟩, ⟨(.some 26), .none, (.ixS 1), [(.t 24), (.t 25)]⟩, ⟨(.some 27), .none, (.ld1 (.flt .f64)), [(.t 26)]⟩, ⟨(.some 28), .none, (.fcmp .geq .f64), [(.t 27), (.c (.flt .f64 0))]⟩, ⟨(.some 29), .none, .not, [(.t 28)]⟩, ⟨(.some 30), .none, .mov, [(.t 29)]⟩, ⟨(.some 31), (.some ⟨30, .true⟩), .mov, [(.t 3)]⟩, ⟨(.some 32), (.some ⟨30, .true⟩), (.call 12), [(.c (.flt .f64 9214871658872686752)), (.t 31)]⟩, ⟨(.some 33), (.some ⟨30, .true⟩), .not, [(.t 32)]⟩, ⟨(.some 34), .none, .pick, [(.t 30), (.t 33), (.c (.bool .false))]⟩, ⟨(.some 35), .none, .mov, [(.t 34)]⟩, ⟨(.some 36), (.some ⟨35, .false⟩), .mov, [(.t 0)]⟩, ⟨(.some 37), (.some ⟨35, .false⟩), .mov, [(.t 4)]⟩, ⟨(.some 38), (.some ⟨35, .false⟩), (.ixS 1), [(.t 36), (.t 37)]⟩, ⟨(.some 39), (.some ⟨35, .false⟩), (.ld1 (.flt .f64)), [(.t 38)]⟩, ⟨(.some 40), (.some ⟨35, .false⟩), (.fcmp .geq .f64), [(.t 39), (.c (.flt .f64 0))]⟩, ⟨(.some 41), (.some ⟨35, .false⟩), .mov, [(.t 40)]⟩, ⟨(.some 42), (.some ⟨41, .true⟩), .mov, [(.t 3)]⟩, ⟨(.some 43), (.some ⟨41, .true⟩), .mov, [(.t 0)]⟩, ⟨(.some 44), (.some ⟨41, .true⟩), .mov, [(.t 4)]⟩, ⟨(.some 45), (.some ⟨41, .true⟩), (.ixS 1), [(.t 43), (.t 44)]⟩, ⟨(.some 46), (.some ⟨41, .true⟩), (.ld1 (.flt .f64)), [(.t 45)]⟩, ⟨(.some 47), (.some ⟨41, .true⟩), (.fcmp .lss .f64), [(.t 42), (.t 46)]⟩, ⟨(.some 48), (.some ⟨35, .false⟩), .pick, [(.t 41), (.t 47), (.c (.bool .false))]⟩, ⟨(.some 49), .none, .pick, [(.t 35), (.c (.bool .true)), (.t 48)]⟩]) (.cond (.t 49) (.seq (.reg .false [] [⟨(.some 2), .none, .mov, [(.c (.bool .false))]⟩]) .ret) .skip))) (.reg .false [] [⟨(.some 22), .none, .mov, [(.t 4)]⟩, ⟨(.some 23), .none, (.bin .add .i64), [(.t 22), (.c (.int .i64 (.ofNat 1)))]⟩, ⟨(.some 4), .none, .mov, [(.t 23)]⟩])))
def fr7 (cs : List AV) (o n c : Nat) (e : Bool) (s : Nat) (i : Int) : Fr := [.ros cs o n c e, .top, .top, .flt .f64 s, .int .i64 i, .top, .top, .top, .top, .top, .top, .top, .top, .top, .top, .top, .top, .top, .top, .top, .top, .top, .top, .top, .top, .top, .top, .top, .top, .top, .top, .top, .top, .top, .top, .top, .top, .top, .top, .top, .top, .top, .top, .top, .top, .top, .top, .top, .top, .top]
def mk7 : List Bool := [false, true, true, false, false, true, true, true, true, true, true, true, true, true, true, true, true, true, true, true, true, true, true, true, true, true, true, true, true, true, true, true, true, true, true, true, true, true, true, true, true, true, true, true, true, true, true, true, true, true]
def ln7 : LnF := fun n0 b fr H => match slot fr 0, slot fr 3, H with
  | .ros cs o n c e, .flt .f64 s, [] => some (n0 = 0 ∧ VCis b lp7 ∧ forget mk7 fr = fr7 cs o n c e s 0 ∧ P7 cs o n s, .ok (.exit 0) (fr7 cs o n c e s n) [])
  | _, _, _ => none
def lpi : VC := (.seq (.seq (.reg .false [] [⟨(.some 43), .none, .mov, [(.t 10)]⟩, ⟨(.some 44), .none, .mov, [(.t 3)]⟩, ⟨(.some 45), .none, .len, [(.t 44)]⟩, ⟨(.some 46), .none, (.cmp .lss), [(.t 43), (.t 45)]⟩, ⟨(.some 47), .none, .mov, [(.t 46)]⟩, ⟨(.some 48), (.some ⟨47, .true⟩), .mov, [(.t 10)]⟩, ⟨(.some 49), (.some ⟨47, .true⟩), (.cmp .lss), [(.t 48), (.c (.int .i64 (.ofNat 20)))]⟩, ⟨(.some 50), .none, .pick, [(.t 47), (.t 49), (.c (.bool .false))]⟩]) (.cond (.t 50) .skip (.exit 2))) (.seq (.block 3 (.seq (.reg .true [0, 0, 3, 7, 0, 0, 48, 112, 255, 0, 0, 1536, 3584, 0, 0, 24576, 57344, 131071, 262143] [⟨(.some 53), .none, .mov, [(.t 3)]⟩, ⟨(.some 54), .none, .mov, [(.t 9)]⟩, ⟨(.some 55), .none, (.ixS 1), [(.t 53), (.t 54)]⟩, ⟨(.some 56), .none, (.ld1 (.flt .f64)), [(.t 55)]⟩, ⟨(.some 57), .none, .mov, [(.t 3)]⟩, ⟨(.some 58), .none, .mov, [(.t 10)]⟩, ⟨(.some 59), .none, (.ixS 1), [(.t 57), (.t 58)]⟩, ⟨(.some 60), .none, (.ld1 (.flt .f64)), [(.t 59)]⟩, ⟨(.some 61), .none, (.call 12), [(.t 56), (.t 60)]⟩, ⟨(.some 62), .none, .mov, [(.t 3)]⟩, ⟨(.some 63), .none, .mov, [(.t 9)]⟩, ⟨(.some 64), .none, (.ixS 1), [(.t 62), (.t 63)]⟩, ⟨(.some 65), .none, (.ld1 (.flt .f64)), [(.t 64)]⟩, ⟨(.some 66), .none, .mov, [(.t 3)]⟩, ⟨(.some 67), .none, .mov, [(.t 10)]⟩, ⟨(.some 68), .none, (.ixS 1), [(.t 66), (.t 67)]⟩, ⟨(.some 69), .none, (.ld1 (.flt .f64)), [(.t 68)]⟩, ⟨(.some 70), .none, (.call 19), [(.t 65), (.t 69)]⟩, ⟨(.some 71), .none, (.bcmp .true), [(.t 61), (.t 70)]⟩]) (.cond (.t 71) (.seq (.reg .false [] [⟨(.some 8), .none, .mov, [(.c (.bool .false))]⟩]) .ret) .skip))) (.reg .false [] [⟨(.some 51), .none, .mov, [(.t 10)]⟩, ⟨(.some 52), .none, (.bin .add .i64), [(.t 51), (.c (.int .i64 (.ofNat 1)))]⟩, ⟨(.some 10), .none, .mov, [(.t 52)]⟩])))
def fri (cs : List AV) (o n c : Nat) (e : Bool) (i k : Int) : Fr := [.top, .top, .top, .ros cs o n c e, .top, .top, .top, .top, .top, .int .i64 i, .int .i64 k, .top, .top, .top, .top, .top, .top, .top, .top, .top, .top, .top, .top, .top, .top, .top, .top, .top, .top, .top, .top, .top, .top, .top, .top, .top, .top, .top, .top, .top, .top, .top, .top, .top, .top, .top, .top, .top, .top, .top, .top, .top, .top, .top, .top, .top, .top, .top, .top, .top, .top, .top, .top, .top, .top, .top, .top, .top, .top, .top, .top, .top]
def mki : List Bool := [true, true, true, false, true, true, true, true, true, false, false, true, true, true, true, true, true, true, true, true, true, true, true, true, true, true, true, true, true, true, true, true, true, true, true, true, true, true, true, true, true, true, true, true, true, true, true, true, true, true, true, true, true, true, true, true, true, true, true, true, true, true, true, true, true, true, true, true, true, true, true, true]
def lni : LnF := fun n0 b fr H => match slot fr 3, slot fr 9, H with
  | .ros cs o n c e, .int .i64 i, [] => some (n0 = 0 ∧ VCis b lpi ∧ forget mki fr = fri cs o n c e i 0 ∧ FOK cs o n ∧ 0 ≤ i ∧ i < n, .ok (.exit 2) (fri cs o n c e i (Nat.min n 20)) [])
  | _, _, _ => none
def lp6 : VC := (.seq (.seq (.reg .false [] [⟨(.some 33), .none, .mov, [(.t 9)]⟩, ⟨(.some 34), .none, .mov, [(.t 3)]⟩, ⟨(.some 35), .none, .len, [(.t 34)]⟩, ⟨(.some 36), .none, (.cmp .lss), [(.t 33), (.t 35)]⟩, ⟨(.some 37), .none, .mov, [(.t 36)]⟩, ⟨(.some 38), (.some ⟨37, .true⟩), .mov, [(.t 9)]⟩, ⟨(.some 39), (.some ⟨37, .true⟩), (.cmp .lss), [(.t 38), (.c (.int .i64 (.ofNat 20)))]⟩, ⟨(.some 40), .none, .pick, [(.t 37), (.t 39), (.c (.bool .false))]⟩]) (.cond (.t 40) .skip (.exit 0))) (.seq (.block 1 (.seq (.reg .false [] [⟨(.some 10), .none, .mov, [(.c (.int .i64 (.ofNat 0)))]⟩]) (.block 2 (.loop (.seq (.seq (.reg .false [] [⟨(.some 43), .none, .mov, [(.t 10)]⟩, ⟨(.some 44), .none, .mov, [(.t 3)]⟩, ⟨(.some 45), .none, .len, [(.t 44)]⟩, ⟨(.some 46), .none, (.cmp .lss), [(.t 43), (.t 45)]⟩, ⟨(.some 47), .none, .mov, [(.t 46)]⟩, ⟨(.some 48), (.some ⟨47, .true⟩), .mov, [(.t 10)]⟩, ⟨(.some 49), (.some ⟨47, .true⟩), (.cmp .lss), [(.t 48), (.c (.int .i64 (.ofNat 20)))]⟩, ⟨(.some 50), .none, .pick, [(.t 47), (.t 49), (.c (.bool .false))]⟩]) (.cond (.t 50) .skip (.exit 2))) (.seq (.block 3 (.seq (.reg .true [0, 0, 3, 7, 0, 0, 48, 112, 255, 0, 0, 1536, 3584, 0, 0, 24576, 57344, 131071, 262143] [⟨(.some 53), .none, .mov, [(.t 3)]⟩, ⟨(.some 54), .none, .mov, [(.t 9)]⟩, ⟨(.some 55), .none, (.ixS 1), [(.t 53), (.t 54)]⟩, ⟨(.some 56), .none, (.ld1 (.flt .f64)), [(.t 55)]⟩, ⟨(.some 57), .none, .mov, [(.t 3)]⟩, ⟨(.some 58), .none, .mov, [(.t 10)]⟩, ⟨(.some 59), .none, (.ixS 1), [(.t 57), (.t 58)]⟩, ⟨(.some 60), .none, (.ld1 (.flt .f64)), [(.t 59)]⟩, ⟨(.some 61), .none, (.call 12), [(.t 56), (.t 60)]⟩, ⟨(.some 62), .none, .mov, [(.t 3)]⟩, ⟨(.some 63), .none, .mov, [(.t 9)]⟩, ⟨(.some 64), .none, (.ixS 1), [(.t 62), (.t 63)]⟩, ⟨(.some 65), .none, (.ld1 (.flt .f64)), [(.t 64)]⟩, ⟨(.some 66), .none, .mov, [(.t 3)]⟩, ⟨(.some 67), .none, .mov, [(.t 10)]⟩, ⟨(.some 68), .none, (.ixS 1), [(.t 66), (.t 67)]⟩, ⟨(.some 69), .none, (.ld1 (.flt .f64)), [(.t 68)]⟩, ⟨(.some 70), .none, (.call 19), [(.t 65), (.t 69)]⟩, ⟨(.some 71), .none, (.bcmp .true), [(.t 61), (.t 70)]⟩]) (.cond (.t 71) (.seq (.reg .false [] [⟨(.some 8), .none, .mov, [(.c (.bool .false))]⟩]) .ret) .skip))) (.reg .false [] [⟨(.some 51), .none, .mov, [(.t 10)]⟩, ⟨(.some 52), .none, (.bin .add .i64), [(.t 51), (.c (.int .i64 (.ofNat 1)))]⟩, ⟨(.some 10), .none, .mov, [(.t 52)]⟩]))))))) (.reg .false [] [⟨(.some 41), .none, .mov, [(.t 9)]⟩, ⟨(.some 42), .none, (.bin .add .i64), [(.t 41), (.c (.int .i64 (.ofNat 1)))]⟩, ⟨(.some 9), .none, .mov, [(.t 42)]⟩])))
def fr6 (cs : List AV) (o n c : Nat) (e : Bool) (i : Int) : Fr := [.top, .top, .top, .ros cs o n c e, .top, .top, .top, .top, .top, .int .i64 i, .top, .top, .top, .top, .top, .top, .top, .top, .top, .top, .top, .top, .top, .top, .top, .top, .top, .top, .top, .top, .top, .top, .top, .top, .top, .top, .top, .top, .top, .top, .top, .top, .top, .top, .top, .top, .top, .top, .top, .top, .top, .top, .top, .top, .top, .top, .top, .top, .top, .top, .top, .top, .top, .top, .top, .top, .top, .top, .top, .top, .top, .top]
def mk6 : List Bool := [true, true, true, false, true, true, true, true, true, false, true, true, true, true, true, true, true, true, true, true, true, true, true, true, true, true, true, true, true, true, true, true, true, true, true, true, true, true, true, true, true, true, true, true, true, true, true, true, true, true, true, true, true, true, true, true, true, true, true, true, true, true, true, true, true, true, true, true, true, true, true, true]
def ln6 : LnF := fun n0 b fr H => match slot fr 3, H with
  | .ros cs o n c e, [] => some (n0 = 0 ∧ VCis b lp6 ∧ forget mk6 fr = fr6 cs o n c e 0 ∧ FOK cs o n, .ok (.exit 0) (fr6 cs o n c e (Nat.min n 20)) [])
  | _, _ => none

theorem vcl7 (S : SF) (T : SG) (L : Nat → Nat → Bool) (cs : List AV) (o n c : Nat) (e : Bool) (s : Nat) (i : Int) (Q : Ex → Fr → Hl → Prop) :
  (vm (vcA kdYes (cnS5 S T L) noLn) ops0 noTab 100 0 lp7 (fr7 cs o n c e s i) [] [] (bodyX mk7 Q)) =
 ((Br (ops0.cmp BinOp.lss i (ops0.ofn n))
 (Chk (ops0.inr i n)
 (∃ n1 : Nat, ((Nth cs (ops0.adr o i 1) (AV.flt FloatKind.f64 n1)) ∧
 (Br (ops0.fcmp BinOp.geq FloatKind.f64 n1 0)
 (Chk (ops0.inr i n)
 (∃ n2 : Nat, ((Nth cs (ops0.adr o i 1) (AV.flt FloatKind.f64 n2)) ∧
 (Br (ops0.fcmp BinOp.geq FloatKind.f64 n2 0)
 (Chk (ops0.inr i n)
 (∃ n3 : Nat, ((Nth cs (ops0.adr o i 1) (AV.flt FloatKind.f64 n3)) ∧
 (Br (ops0.fcmp BinOp.lss FloatKind.f64 s n3)
 (Q Ex.ret [(AV.ros cs o n c e), AV.top, AV.top, (AV.flt FloatKind.f64 s), (AV.int IntKind.i64 i), AV.top, AV.top, AV.top, AV.top, AV.top, AV.top, AV.top, AV.top, AV.top, AV.top, AV.top, AV.top, AV.top, AV.top, AV.top, AV.top, AV.top, AV.top, AV.top, AV.top, AV.top, AV.top, AV.top, AV.top, AV.top, AV.top, AV.top, AV.top, AV.top, AV.top, AV.top, AV.top, AV.top, AV.top, AV.top, AV.top, AV.top, AV.top, AV.top, AV.top, AV.top, AV.top, AV.top, AV.top, AV.top] [])
 (Q Ex.norm [(AV.ros cs o n c e), AV.top, AV.top, (AV.flt FloatKind.f64 s), (AV.int IntKind.i64 (ops0.bin BinOp.add IntKind.i64 i (Int.ofNat 1))), AV.top, AV.top, AV.top, AV.top, AV.top, AV.top, AV.top, AV.top, AV.top, AV.top, AV.top, AV.top, AV.top, AV.top, AV.top, AV.top, AV.top, AV.top, AV.top, AV.top, AV.top, AV.top, AV.top, AV.top, AV.top, AV.top, AV.top, AV.top, AV.top, AV.top, AV.top, AV.top, AV.top, AV.top, AV.top, AV.top, AV.top, AV.top, AV.top, AV.top, AV.top, AV.top, AV.top, AV.top, AV.top] [])))))
 (Q Ex.norm [(AV.ros cs o n c e), AV.top, AV.top, (AV.flt FloatKind.f64 s), (AV.int IntKind.i64 (ops0.bin BinOp.add IntKind.i64 i (Int.ofNat 1))), AV.top, AV.top, AV.top, AV.top, AV.top, AV.top, AV.top, AV.top, AV.top, AV.top, AV.top, AV.top, AV.top, AV.top, AV.top, AV.top, AV.top, AV.top, AV.top, AV.top, AV.top, AV.top, AV.top, AV.top, AV.top, AV.top, AV.top, AV.top, AV.top, AV.top, AV.top, AV.top, AV.top, AV.top, AV.top, AV.top, AV.top, AV.top, AV.top, AV.top, AV.top, AV.top, AV.top, AV.top, AV.top] [])))))
 (True ∧
 (Br (L 9214871658872686752 s)
 (Chk (ops0.inr i n)
 (∃ n2 : Nat, ((Nth cs (ops0.adr o i 1) (AV.flt FloatKind.f64 n2)) ∧
 (Br (ops0.fcmp BinOp.geq FloatKind.f64 n2 0)
 (Chk (ops0.inr i n)
 (∃ n3 : Nat, ((Nth cs (ops0.adr o i 1) (AV.flt FloatKind.f64 n3)) ∧
 (Br (ops0.fcmp BinOp.lss FloatKind.f64 s n3)
 (Q Ex.ret [(AV.ros cs o n c e), AV.top, AV.top, (AV.flt FloatKind.f64 s), (AV.int IntKind.i64 i), AV.top, AV.top, AV.top, AV.top, AV.top, AV.top, AV.top, AV.top, AV.top, AV.top, AV.top, AV.top, AV.top, AV.top, AV.top, AV.top, AV.top, AV.top, AV.top, AV.top, AV.top, AV.top, AV.top, AV.top, AV.top, AV.top, AV.top, AV.top, AV.top, AV.top, AV.top, AV.top, AV.top, AV.top, AV.top, AV.top, AV.top, AV.top, AV.top, AV.top, AV.top, AV.top, AV.top, AV.top, AV.top] [])
 (Q Ex.norm [(AV.ros cs o n c e), AV.top, AV.top, (AV.flt FloatKind.f64 s), (AV.int IntKind.i64 (ops0.bin BinOp.add IntKind.i64 i (Int.ofNat 1))), AV.top, AV.top, AV.top, AV.top, AV.top, AV.top, AV.top, AV.top, AV.top, AV.top, AV.top, AV.top, AV.top, AV.top, AV.top, AV.top, AV.top, AV.top, AV.top, AV.top, AV.top, AV.top, AV.top, AV.top, AV.top, AV.top, AV.top, AV.top, AV.top, AV.top, AV.top, AV.top, AV.top, AV.top, AV.top, AV.top, AV.top, AV.top, AV.top, AV.top, AV.top, AV.top, AV.top, AV.top, AV.top] [])))))
 (Q Ex.norm [(AV.ros cs o n c e), AV.top, AV.top, (AV.flt FloatKind.f64 s), (AV.int IntKind.i64 (ops0.bin BinOp.add IntKind.i64 i (Int.ofNat 1))), AV.top, AV.top, AV.top, AV.top, AV.top, AV.top, AV.top, AV.top, AV.top, AV.top, AV.top, AV.top, AV.top, AV.top, AV.top, AV.top, AV.top, AV.top, AV.top, AV.top, AV.top, AV.top, AV.top, AV.top, AV.top, AV.top, AV.top, AV.top, AV.top, AV.top, AV.top, AV.top, AV.top, AV.top, AV.top, AV.top, AV.top, AV.top, AV.top, AV.top, AV.top, AV.top, AV.top, AV.top, AV.top] [])))))
 (Q Ex.ret [(AV.ros cs o n c e), AV.top, AV.top, (AV.flt FloatKind.f64 s), (AV.int IntKind.i64 i), AV.top, AV.top, AV.top, AV.top, AV.top, AV.top, AV.top, AV.top, AV.top, AV.top, AV.top, AV.top, AV.top, AV.top, AV.top, AV.top, AV.top, AV.top, AV.top, AV.top, AV.top, AV.top, AV.top, AV.top, AV.top, AV.top, AV.top, AV.top, AV.top, AV.top, AV.top, AV.top, AV.top, AV.top, AV.top, AV.top, AV.top, AV.top, AV.top, AV.top, AV.top, AV.top, AV.top, AV.top, AV.top] [])))))))
 (Q (Ex.exit 0) [(AV.ros cs o n c e), AV.top, AV.top, (AV.flt FloatKind.f64 s), (AV.int IntKind.i64 i), AV.top, AV.top, AV.top, AV.top, AV.top, AV.top, AV.top, AV.top, AV.top, AV.top, AV.top, AV.top, AV.top, AV.top, AV.top, AV.top, AV.top, AV.top, AV.top, AV.top, AV.top, AV.top, AV.top, AV.top, AV.top, AV.top, AV.top, AV.top, AV.top, AV.top, AV.top, AV.top, AV.top, AV.top, AV.top, AV.top, AV.top, AV.top, AV.top, AV.top, AV.top, AV.top, AV.top, AV.top, AV.top] []))) := by kernel_rfl

theorem vc7 (S : SF) (T : SG) (L : Nat → Nat → Bool) (cs : List AV) (o n c : Nat) (e : Bool) (Q : AV → Prop) :
  (vcall (vcA kdYes (cnS5 S T L) ln7) ops0 (tabOne 7 vf7) 200 vf7 [.ros cs o n c e] [] (fun r _ _ => Q r)) =
 (((FOK cs o n) ∧
 (True ∧
 (Br (ops0.fcmp BinOp.neq FloatKind.f64 (SG.jo T cs o n) (SG.jo T cs o n))
 (Q (AV.bool Bool.false))
 (Br (ops0.fcmp BinOp.lss FloatKind.f64 (SG.jo T cs o n) 0)
 (Q (AV.bool Bool.false))
 ((((0 : Nat) = 0) ∧
 ((VCis lp7 lp7) ∧
 ((([(AV.ros cs o n c e), AV.top, AV.top, (AV.flt FloatKind.f64 (SG.jo T cs o n)), (AV.int IntKind.i64 (Int.ofNat 0)), AV.top, AV.top, AV.top, AV.top, AV.top, AV.top, AV.top, AV.top, AV.top, AV.top, AV.top, AV.top, AV.top, AV.top, AV.top, AV.top, AV.top, AV.top, AV.top, AV.top, AV.top, AV.top, AV.top, AV.top, AV.top, AV.top, AV.top, AV.top, AV.top, AV.top, AV.top, AV.top, AV.top, AV.top, AV.top, AV.top, AV.top, AV.top, AV.top, AV.top, AV.top, AV.top, AV.top, AV.top, AV.top] : Fr) = [(AV.ros cs o n c e), AV.top, AV.top, (AV.flt FloatKind.f64 (SG.jo T cs o n)), (AV.int IntKind.i64 (Int.ofNat 0)), AV.top, AV.top, AV.top, AV.top, AV.top, AV.top, AV.top, AV.top, AV.top, AV.top, AV.top, AV.top, AV.top, AV.top, AV.top, AV.top, AV.top, AV.top, AV.top, AV.top, AV.top, AV.top, AV.top, AV.top, AV.top, AV.top, AV.top, AV.top, AV.top, AV.top, AV.top, AV.top, AV.top, AV.top, AV.top, AV.top, AV.top, AV.top, AV.top, AV.top, AV.top, AV.top, AV.top, AV.top, AV.top]) ∧
 (P7 cs o n (SG.jo T cs o n))))) ∧
 (Q (AV.bool Bool.true)))))))) := by kernel_rfl

theorem vcli (S : SF) (T : SG) (L : Nat → Nat → Bool) (cs : List AV) (o n c : Nat) (e : Bool) (i k : Int) (Q : Ex → Fr → Hl → Prop) :
  (vm (vcA kdYes (cnS5 S T L) noLn) ops0 noTab 100 0 lpi (fri cs o n c e i k) [] [] (bodyX mki Q)) =
 ((Br (ops0.cmp BinOp.lss k (ops0.ofn n))
 (Br (ops0.cmp BinOp.lss k (Int.ofNat 20))
 (Chk (ops0.inr i n)
 (∃ n1 : Nat, ((Nth cs (ops0.adr o i 1) (AV.flt FloatKind.f64 n1)) ∧
 (Chk (ops0.inr k n)
 (∃ n2 : Nat, ((Nth cs (ops0.adr o k 1) (AV.flt FloatKind.f64 n2)) ∧
 (True ∧
 (Br (L n1 n2)
 (Chk (ops0.inr i n)
 (∃ n3 : Nat, ((Nth cs (ops0.adr o i 1) (AV.flt FloatKind.f64 n3)) ∧
 (Chk (ops0.inr k n)
 (∃ n4 : Nat, ((Nth cs (ops0.adr o k 1) (AV.flt FloatKind.f64 n4)) ∧
 (True ∧
 (Br (L n3 n4)
 (Q Ex.norm [AV.top, AV.top, AV.top, (AV.ros cs o n c e), AV.top, AV.top, AV.top, AV.top, AV.top, (AV.int IntKind.i64 i), (AV.int IntKind.i64 (ops0.bin BinOp.add IntKind.i64 k (Int.ofNat 1))), AV.top, AV.top, AV.top, AV.top, AV.top, AV.top, AV.top, AV.top, AV.top, AV.top, AV.top, AV.top, AV.top, AV.top, AV.top, AV.top, AV.top, AV.top, AV.top, AV.top, AV.top, AV.top, AV.top, AV.top, AV.top, AV.top, AV.top, AV.top, AV.top, AV.top, AV.top, AV.top, AV.top, AV.top, AV.top, AV.top, AV.top, AV.top, AV.top, AV.top, AV.top, AV.top, AV.top, AV.top, AV.top, AV.top, AV.top, AV.top, AV.top, AV.top, AV.top, AV.top, AV.top, AV.top, AV.top, AV.top, AV.top, AV.top, AV.top, AV.top, AV.top] [])
 (Q Ex.ret [AV.top, AV.top, AV.top, (AV.ros cs o n c e), AV.top, AV.top, AV.top, AV.top, AV.top, (AV.int IntKind.i64 i), (AV.int IntKind.i64 k), AV.top, AV.top, AV.top, AV.top, AV.top, AV.top, AV.top, AV.top, AV.top, AV.top, AV.top, AV.top, AV.top, AV.top, AV.top, AV.top, AV.top, AV.top, AV.top, AV.top, AV.top, AV.top, AV.top, AV.top, AV.top, AV.top, AV.top, AV.top, AV.top, AV.top, AV.top, AV.top, AV.top, AV.top, AV.top, AV.top, AV.top, AV.top, AV.top, AV.top, AV.top, AV.top, AV.top, AV.top, AV.top, AV.top, AV.top, AV.top, AV.top, AV.top, AV.top, AV.top, AV.top, AV.top, AV.top, AV.top, AV.top, AV.top, AV.top, AV.top, AV.top] [])))))))))
 (Chk (ops0.inr i n)
 (∃ n3 : Nat, ((Nth cs (ops0.adr o i 1) (AV.flt FloatKind.f64 n3)) ∧
 (Chk (ops0.inr k n)
 (∃ n4 : Nat, ((Nth cs (ops0.adr o k 1) (AV.flt FloatKind.f64 n4)) ∧
 (True ∧
 (Br (L n3 n4)
 (Q Ex.ret [AV.top, AV.top, AV.top, (AV.ros cs o n c e), AV.top, AV.top, AV.top, AV.top, AV.top, (AV.int IntKind.i64 i), (AV.int IntKind.i64 k), AV.top, AV.top, AV.top, AV.top, AV.top, AV.top, AV.top, AV.top, AV.top, AV.top, AV.top, AV.top, AV.top, AV.top, AV.top, AV.top, AV.top, AV.top, AV.top, AV.top, AV.top, AV.top, AV.top, AV.top, AV.top, AV.top, AV.top, AV.top, AV.top, AV.top, AV.top, AV.top, AV.top, AV.top, AV.top, AV.top, AV.top, AV.top, AV.top, AV.top, AV.top, AV.top, AV.top, AV.top, AV.top, AV.top, AV.top, AV.top, AV.top, AV.top, AV.top, AV.top, AV.top, AV.top, AV.top, AV.top, AV.top, AV.top, AV.top, AV.top, AV.top] [])
 (Q Ex.norm [AV.top, AV.top, AV.top, (AV.ros cs o n c e), AV.top, AV.top, AV.top, AV.top, AV.top, (AV.int IntKind.i64 i), (AV.int IntKind.i64 (ops0.bin BinOp.add IntKind.i64 k (Int.ofNat 1))), AV.top, AV.top, AV.top, AV.top, AV.top, AV.top, AV.top, AV.top, AV.top, AV.top, AV.top, AV.top, AV.top, AV.top, AV.top, AV.top, AV.top, AV.top, AV.top, AV.top, AV.top, AV.top, AV.top, AV.top, AV.top, AV.top, AV.top, AV.top, AV.top, AV.top, AV.top, AV.top, AV.top, AV.top, AV.top, AV.top, AV.top, AV.top, AV.top, AV.top, AV.top, AV.top, AV.top, AV.top, AV.top, AV.top, AV.top, AV.top, AV.top, AV.top, AV.top, AV.top, AV.top, AV.top, AV.top, AV.top, AV.top, AV.top, AV.top, AV.top, AV.top] [])))))))))))))))))
 (Q (Ex.exit 2) [AV.top, AV.top, AV.top, (AV.ros cs o n c e), AV.top, AV.top, AV.top, AV.top, AV.top, (AV.int IntKind.i64 i), (AV.int IntKind.i64 k), AV.top, AV.top, AV.top, AV.top, AV.top, AV.top, AV.top, AV.top, AV.top, AV.top, AV.top, AV.top, AV.top, AV.top, AV.top, AV.top, AV.top, AV.top, AV.top, AV.top, AV.top, AV.top, AV.top, AV.top, AV.top, AV.top, AV.top, AV.top, AV.top, AV.top, AV.top, AV.top, AV.top, AV.top, AV.top, AV.top, AV.top, AV.top, AV.top, AV.top, AV.top, AV.top, AV.top, AV.top, AV.top, AV.top, AV.top, AV.top, AV.top, AV.top, AV.top, AV.top, AV.top, AV.top, AV.top, AV.top, AV.top, AV.top, AV.top, AV.top, AV.top] []))
 (Q (Ex.exit 2) [AV.top, AV.top, AV.top, (AV.ros cs o n c e), AV.top, AV.top, AV.top, AV.top, AV.top, (AV.int IntKind.i64 i), (AV.int IntKind.i64 k), AV.top, AV.top, AV.top, AV.top, AV.top, AV.top, AV.top, AV.top, AV.top, AV.top, AV.top, AV.top, AV.top, AV.top, AV.top, AV.top, AV.top, AV.top, AV.top, AV.top, AV.top, AV.top, AV.top, AV.top, AV.top, AV.top, AV.top, AV.top, AV.top, AV.top, AV.top, AV.top, AV.top, AV.top, AV.top, AV.top, AV.top, AV.top, AV.top, AV.top, AV.top, AV.top, AV.top, AV.top, AV.top, AV.top, AV.top, AV.top, AV.top, AV.top, AV.top, AV.top, AV.top, AV.top, AV.top, AV.top, AV.top, AV.top, AV.top, AV.top, AV.top] []))) := by kernel_rfl

theorem vcl6 (S : SF) (T : SG) (L : Nat → Nat → Bool) (cs : List AV) (o n c : Nat) (e : Bool) (i : Int) (Q : Ex → Fr → Hl → Prop) :
  (vm (vcA kdYes (cnS5 S T L) lni) ops0 noTab 100 0 lp6 (fr6 cs o n c e i) [] [] (bodyX mk6 Q)) =
 ((Br (ops0.cmp BinOp.lss i (ops0.ofn n))
 (Br (ops0.cmp BinOp.lss i (Int.ofNat 20))
 ((((0 : Nat) = 0) ∧
 ((VCis lpi lpi) ∧
 ((([AV.top, AV.top, AV.top, (AV.ros cs o n c e), AV.top, AV.top, AV.top, AV.top, AV.top, (AV.int IntKind.i64 i), (AV.int IntKind.i64 (Int.ofNat 0)), AV.top, AV.top, AV.top, AV.top, AV.top, AV.top, AV.top, AV.top, AV.top, AV.top, AV.top, AV.top, AV.top, AV.top, AV.top, AV.top, AV.top, AV.top, AV.top, AV.top, AV.top, AV.top, AV.top, AV.top, AV.top, AV.top, AV.top, AV.top, AV.top, AV.top, AV.top, AV.top, AV.top, AV.top, AV.top, AV.top, AV.top, AV.top, AV.top, AV.top, AV.top, AV.top, AV.top, AV.top, AV.top, AV.top, AV.top, AV.top, AV.top, AV.top, AV.top, AV.top, AV.top, AV.top, AV.top, AV.top, AV.top, AV.top, AV.top, AV.top, AV.top] : Fr) = [AV.top, AV.top, AV.top, (AV.ros cs o n c e), AV.top, AV.top, AV.top, AV.top, AV.top, (AV.int IntKind.i64 i), (AV.int IntKind.i64 (Int.ofNat 0)), AV.top, AV.top, AV.top, AV.top, AV.top, AV.top, AV.top, AV.top, AV.top, AV.top, AV.top, AV.top, AV.top, AV.top, AV.top, AV.top, AV.top, AV.top, AV.top, AV.top, AV.top, AV.top, AV.top, AV.top, AV.top, AV.top, AV.top, AV.top, AV.top, AV.top, AV.top, AV.top, AV.top, AV.top, AV.top, AV.top, AV.top, AV.top, AV.top, AV.top, AV.top, AV.top, AV.top, AV.top, AV.top, AV.top, AV.top, AV.top, AV.top, AV.top, AV.top, AV.top, AV.top, AV.top, AV.top, AV.top, AV.top, AV.top, AV.top, AV.top, AV.top]) ∧
 ((FOK cs o n) ∧
 (((Int.ofNat 0) ≤ i) ∧
 (i < ((n : Nat) : Int))))))) ∧
 (Q Ex.norm [AV.top, AV.top, AV.top, (AV.ros cs o n c e), AV.top, AV.top, AV.top, AV.top, AV.top, (AV.int IntKind.i64 (ops0.bin BinOp.add IntKind.i64 i (Int.ofNat 1))), AV.top, AV.top, AV.top, AV.top, AV.top, AV.top, AV.top, AV.top, AV.top, AV.top, AV.top, AV.top, AV.top, AV.top, AV.top, AV.top, AV.top, AV.top, AV.top, AV.top, AV.top, AV.top, AV.top, AV.top, AV.top, AV.top, AV.top, AV.top, AV.top, AV.top, AV.top, AV.top, AV.top, AV.top, AV.top, AV.top, AV.top, AV.top, AV.top, AV.top, AV.top, AV.top, AV.top, AV.top, AV.top, AV.top, AV.top, AV.top, AV.top, AV.top, AV.top, AV.top, AV.top, AV.top, AV.top, AV.top, AV.top, AV.top, AV.top, AV.top, AV.top, AV.top] []))
 (Q (Ex.exit 0) [AV.top, AV.top, AV.top, (AV.ros cs o n c e), AV.top, AV.top, AV.top, AV.top, AV.top, (AV.int IntKind.i64 i), AV.top, AV.top, AV.top, AV.top, AV.top, AV.top, AV.top, AV.top, AV.top, AV.top, AV.top, AV.top, AV.top, AV.top, AV.top, AV.top, AV.top, AV.top, AV.top, AV.top, AV.top, AV.top, AV.top, AV.top, AV.top, AV.top, AV.top, AV.top, AV.top, AV.top, AV.top, AV.top, AV.top, AV.top, AV.top, AV.top, AV.top, AV.top, AV.top, AV.top, AV.top, AV.top, AV.top, AV.top, AV.top, AV.top, AV.top, AV.top, AV.top, AV.top, AV.top, AV.top, AV.top, AV.top, AV.top, AV.top, AV.top, AV.top, AV.top, AV.top, AV.top, AV.top] []))
 (Q (Ex.exit 0) [AV.top, AV.top, AV.top, (AV.ros cs o n c e), AV.top, AV.top, AV.top, AV.top, AV.top, (AV.int IntKind.i64 i), AV.top, AV.top, AV.top, AV.top, AV.top, AV.top, AV.top, AV.top, AV.top, AV.top, AV.top, AV.top, AV.top, AV.top, AV.top, AV.top, AV.top, AV.top, AV.top, AV.top, AV.top, AV.top, AV.top, AV.top, AV.top, AV.top, AV.top, AV.top, AV.top, AV.top, AV.top, AV.top, AV.top, AV.top, AV.top, AV.top, AV.top, AV.top, AV.top, AV.top, AV.top, AV.top, AV.top, AV.top, AV.top, AV.top, AV.top, AV.top, AV.top, AV.top, AV.top, AV.top, AV.top, AV.top, AV.top, AV.top, AV.top, AV.top, AV.top, AV.top, AV.top, AV.top] []))) := by kernel_rfl

theorem vc6 (S : SF) (T : SG) (L : Nat → Nat → Bool) (f d : Int) (x : Nat) (cs : List AV) (o n c : Nat) (e : Bool) (Q : AV → Prop) :
  (vcall (vcA kdYes (cnS5 S T L) ln6) ops0 (tabN 6 vf6) 200 vf6 [.int .i64 f, .int .i64 d, .flt .f64 x, .ros cs o n c e] [] (fun r _ _ => Q r)) =
 ((True ∧
 (((f < (Int.ofNat 9223372036854775808)) ∧
 ((d < (Int.ofNat 9223372036854775808)) ∧
 (x < 18446744073709551616))) ∧
 (((f < (Int.ofNat 9223372036854775808)) ∧
 ((d < (Int.ofNat 9223372036854775808)) ∧
 (x < 18446744073709551616))) ∧
 (Br (ops0.cmp BinOp.eql (ops0.ofn (SG.co T f d x)) (ops0.ofn (SG.co T f d x)))
 ((FOK cs o n) ∧
 ((FOK cs o n) ∧
 (Br (ops0.cmp BinOp.eql (ops0.ofn (SG.jo T cs o n)) (ops0.ofn (SG.jo T cs o n)))
 ((((0 : Nat) = 0) ∧
 ((VCis lp6 lp6) ∧
 ((([AV.top, AV.top, AV.top, (AV.ros cs o n c e), AV.top, AV.top, AV.top, AV.top, AV.top, (AV.int IntKind.i64 (Int.ofNat 0)), AV.top, AV.top, AV.top, AV.top, AV.top, AV.top, AV.top, AV.top, AV.top, AV.top, AV.top, AV.top, AV.top, AV.top, AV.top, AV.top, AV.top, AV.top, AV.top, AV.top, AV.top, AV.top, AV.top, AV.top, AV.top, AV.top, AV.top, AV.top, AV.top, AV.top, AV.top, AV.top, AV.top, AV.top, AV.top, AV.top, AV.top, AV.top, AV.top, AV.top, AV.top, AV.top, AV.top, AV.top, AV.top, AV.top, AV.top, AV.top, AV.top, AV.top, AV.top, AV.top, AV.top, AV.top, AV.top, AV.top, AV.top, AV.top, AV.top, AV.top, AV.top, AV.top] : Fr) = [AV.top, AV.top, AV.top, (AV.ros cs o n c e), AV.top, AV.top, AV.top, AV.top, AV.top, (AV.int IntKind.i64 (Int.ofNat 0)), AV.top, AV.top, AV.top, AV.top, AV.top, AV.top, AV.top, AV.top, AV.top, AV.top, AV.top, AV.top, AV.top, AV.top, AV.top, AV.top, AV.top, AV.top, AV.top, AV.top, AV.top, AV.top, AV.top, AV.top, AV.top, AV.top, AV.top, AV.top, AV.top, AV.top, AV.top, AV.top, AV.top, AV.top, AV.top, AV.top, AV.top, AV.top, AV.top, AV.top, AV.top, AV.top, AV.top, AV.top, AV.top, AV.top, AV.top, AV.top, AV.top, AV.top, AV.top, AV.top, AV.top, AV.top, AV.top, AV.top, AV.top, AV.top, AV.top, AV.top, AV.top, AV.top]) ∧
 (FOK cs o n)))) ∧
 (Q (AV.bool Bool.true)))
 (Br (ops0.fcmp BinOp.neq FloatKind.f64 (SG.jo T cs o n) (SG.jo T cs o n))
 (Br (ops0.fcmp BinOp.neq FloatKind.f64 (SG.jo T cs o n) (SG.jo T cs o n))
 ((((0 : Nat) = 0) ∧
 ((VCis lp6 lp6) ∧
 ((([AV.top, AV.top, AV.top, (AV.ros cs o n c e), AV.top, AV.top, AV.top, AV.top, AV.top, (AV.int IntKind.i64 (Int.ofNat 0)), AV.top, AV.top, AV.top, AV.top, AV.top, AV.top, AV.top, AV.top, AV.top, AV.top, AV.top, AV.top, AV.top, AV.top, AV.top, AV.top, AV.top, AV.top, AV.top, AV.top, AV.top, AV.top, AV.top, AV.top, AV.top, AV.top, AV.top, AV.top, AV.top, AV.top, AV.top, AV.top, AV.top, AV.top, AV.top, AV.top, AV.top, AV.top, AV.top, AV.top, AV.top, AV.top, AV.top, AV.top, AV.top, AV.top, AV.top, AV.top, AV.top, AV.top, AV.top, AV.top, AV.top, AV.top, AV.top, AV.top, AV.top, AV.top, AV.top, AV.top, AV.top, AV.top] : Fr) = [AV.top, AV.top, AV.top, (AV.ros cs o n c e), AV.top, AV.top, AV.top, AV.top, AV.top, (AV.int IntKind.i64 (Int.ofNat 0)), AV.top, AV.top, AV.top, AV.top, AV.top, AV.top, AV.top, AV.top, AV.top, AV.top, AV.top, AV.top, AV.top, AV.top, AV.top, AV.top, AV.top, AV.top, AV.top, AV.top, AV.top, AV.top, AV.top, AV.top, AV.top, AV.top, AV.top, AV.top, AV.top, AV.top, AV.top, AV.top, AV.top, AV.top, AV.top, AV.top, AV.top, AV.top, AV.top, AV.top, AV.top, AV.top, AV.top, AV.top, AV.top, AV.top, AV.top, AV.top, AV.top, AV.top, AV.top, AV.top, AV.top, AV.top, AV.top, AV.top, AV.top, AV.top, AV.top, AV.top, AV.top, AV.top]) ∧
 (FOK cs o n)))) ∧
 (Q (AV.bool Bool.true)))
 (Q (AV.bool Bool.false)))
 (Q (AV.bool Bool.false))))))
 (Br (ops0.fcmp BinOp.neq FloatKind.f64 (SG.co T f d x) (SG.co T f d x))
 (Br (ops0.fcmp BinOp.neq FloatKind.f64 (SG.co T f d x) (SG.co T f d x))
 ((FOK cs o n) ∧
 ((FOK cs o n) ∧
 (Br (ops0.cmp BinOp.eql (ops0.ofn (SG.jo T cs o n)) (ops0.ofn (SG.jo T cs o n)))
 ((((0 : Nat) = 0) ∧
 ((VCis lp6 lp6) ∧
 ((([AV.top, AV.top, AV.top, (AV.ros cs o n c e), AV.top, AV.top, AV.top, AV.top, AV.top, (AV.int IntKind.i64 (Int.ofNat 0)), AV.top, AV.top, AV.top, AV.top, AV.top, AV.top, AV.top, AV.top, AV.top, AV.top, AV.top, AV.top, AV.top, AV.top, AV.top, AV.top, AV.top, AV.top, AV.top, AV.top, AV.top, AV.top, AV.top, AV.top, AV.top, AV.top, AV.top, AV.top, AV.top, AV.top, AV.top, AV.top, AV.top, AV.top, AV.top, AV.top, AV.top, AV.top, AV.top, AV.top, AV.top, AV.top, AV.top, AV.top, AV.top, AV.top, AV.top, AV.top, AV.top, AV.top, AV.top, AV.top, AV.top, AV.top, AV.top, AV.top, AV.top, AV.top, AV.top, AV.top, AV.top, AV.top] : Fr) = [AV.top, AV.top, AV.top, (AV.ros cs o n c e), AV.top, AV.top, AV.top, AV.top, AV.top, (AV.int IntKind.i64 (Int.ofNat 0)), AV.top, AV.top, AV.top, AV.top, AV.top, AV.top, AV.top, AV.top, AV.top, AV.top, AV.top, AV.top, AV.top, AV.top, AV.top, AV.top, AV.top, AV.top, AV.top, AV.top, AV.top, AV.top, AV.top, AV.top, AV.top, AV.top, AV.top, AV.top, AV.top, AV.top, AV.top, AV.top, AV.top, AV.top, AV.top, AV.top, AV.top, AV.top, AV.top, AV.top, AV.top, AV.top, AV.top, AV.top, AV.top, AV.top, AV.top, AV.top, AV.top, AV.top, AV.top, AV.top, AV.top, AV.top, AV.top, AV.top, AV.top, AV.top, AV.top, AV.top, AV.top, AV.top]) ∧
 (FOK cs o n)))) ∧
 (Q (AV.bool Bool.true)))
 (Br (ops0.fcmp BinOp.neq FloatKind.f64 (SG.jo T cs o n) (SG.jo T cs o n))
 (Br (ops0.fcmp BinOp.neq FloatKind.f64 (SG.jo T cs o n) (SG.jo T cs o n))
 ((((0 : Nat) = 0) ∧
 ((VCis lp6 lp6) ∧
 ((([AV.top, AV.top, AV.top, (AV.ros cs o n c e), AV.top, AV.top, AV.top, AV.top, AV.top, (AV.int IntKind.i64 (Int.ofNat 0)), AV.top, AV.top, AV.top, AV.top, AV.top, AV.top, AV.top, AV.top, AV.top, AV.top, AV.top, AV.top, AV.top, AV.top, AV.top, AV.top, AV.top, AV.top, AV.top, AV.top, AV.top, AV.top, AV.top, AV.top, AV.top, AV.top, AV.top, AV.top, AV.top, AV.top, AV.top, AV.top, AV.top, AV.top, AV.top, AV.top, AV.top, AV.top, AV.top, AV.top, AV.top, AV.top, AV.top, AV.top, AV.top, AV.top, AV.top, AV.top, AV.top, AV.top, AV.top, AV.top, AV.top, AV.top, AV.top, AV.top, AV.top, AV.top, AV.top, AV.top, AV.top, AV.top] : Fr) = [AV.top, AV.top, AV.top, (AV.ros cs o n c e), AV.top, AV.top, AV.top, AV.top, AV.top, (AV.int IntKind.i64 (Int.ofNat 0)), AV.top, AV.top, AV.top, AV.top, AV.top, AV.top, AV.top, AV.top, AV.top, AV.top, AV.top, AV.top, AV.top, AV.top, AV.top, AV.top, AV.top, AV.top, AV.top, AV.top, AV.top, AV.top, AV.top, AV.top, AV.top, AV.top, AV.top, AV.top, AV.top, AV.top, AV.top, AV.top, AV.top, AV.top, AV.top, AV.top, AV.top, AV.top, AV.top, AV.top, AV.top, AV.top, AV.top, AV.top, AV.top, AV.top, AV.top, AV.top, AV.top, AV.top, AV.top, AV.top, AV.top, AV.top, AV.top, AV.top, AV.top, AV.top, AV.top, AV.top, AV.top, AV.top]) ∧
 (FOK cs o n)))) ∧
 (Q (AV.bool Bool.true)))
 (Q (AV.bool Bool.false)))
 (Q (AV.bool Bool.false))))))
 (Q (AV.bool Bool.false)))
 (Q (AV.bool Bool.false)))))))) := by kernel_rfl

theorem geq_cases (x : Nat) : (ops0.fcmp .geq .f64 x 0 = true ∧ x % Wt ≤ Inf ∧ 0 ≤ key x) ∨ (ops0.fcmp .geq .f64 x 0 = false ∧ badF x = true) := by
  by_cases hx : Inf < x % Wt
  · exact Or.inr ⟨fcmp_nan rfl (Or.inl hx), by unfold badF; rw [decide_eq_true hx]; rfl⟩
  · rw [fcmp_key rfl (by omega) z0, k0, iGeq]
    by_cases h : 0 ≤ key x
    · exact Or.inl ⟨decide_eq_true h, by omega, h⟩
    · exact Or.inr ⟨decide_eq_false h, by unfold badF; rw [decide_eq_true (show key x < 0 by omega)]; simp⟩
theorem big_less : lessB 9214871658872686752 Inf = true := by
  have h : 9214871658872686752 ≤ Inf := by rw [Inf_val]; decide
  unfold lessB
  rw [(small h).1, (small (Nat.le_refl Inf)).1, if_neg (by omega), if_neg (by omega), key_small h, key_small (Nat.le_refl _), Inf_val]
  decide

theorem body7 {cs : List AV} {o n i : Nat} {l : List Nat} (c : Nat) (e : Bool) (hi : i < n) (hn : n < 9223372036854775808) (h : FsAt cs o n l) :
    BodyTo Try.prog 0 lp7 (fr7 cs o n c e (joF l) (Int.ofNat i)) [] .norm (fr7 cs o n c e (joF l) (Int.ofNat (i + 1))) [] := by
  have hl : i < l.length := by rw [h.1]; exact hi
  obtain ⟨h1, _⟩ := h.2 i l[i] (List.getElem?_eq_getElem hl)
  have hmem : l[i] ∈ l := List.getElem_mem hl
  have hnth : Nth cs (ops0.adr o (Int.ofNat i) 1) (.flt .f64 l[i]) := Nth.mk (by rw [nAdr, Nat.mul_one]; exact h1)
  generalize l[i] = x at hmem hnth
  refine body_x cnS5_ok (noLn_ok _) (noTab_ok _) (n := 100) (g := kdYes) (bs := mk7) ?_ (by simp)
  rw [vcl7, nOfn, nLss, nInr, natAdd1 (by omega)]
  refine Br.t (decide_eq_true hi) (Chk.mk (decide_eq_true hi) ⟨x, hnth, ?_⟩)
  rcases geq_cases x with ⟨g1, g2, g3⟩ | ⟨g1, g2⟩
  · refine Br.t g1 (Chk.mk (decide_eq_true hi) ⟨x, hnth, Br.t g1 (Chk.mk (decide_eq_true hi) ⟨x, hnth, Br.f ?_ ⟨rfl, rfl, rfl⟩⟩)⟩)
    have hj := joF_ge hmem g2
    rw [fcmp_key rfl (by rw [(small (joF_le l)).1]; exact joF_le l) g2, key_small (joF_le l), iLss]
    exact decide_eq_false (by simp only [Int.ofNat_eq_natCast]; omega)
  · refine Br.f g1 ⟨trivial, Br.t ?_ (Chk.mk (decide_eq_true hi) ⟨x, hnth, Br.f g1 ⟨rfl, rfl, rfl⟩⟩)⟩
    rw [joF_bad hmem g2]
    exact big_less
theorem ln7_ok : LnOK Try.prog ln7 := by
  intro n0 b fr H p x e hn hp lg
  unfold ln7 at e
  split at e <;> cases e
  rename_i cs o n c e s h1 h2
  obtain ⟨rfl, hb, hf, ⟨_, hn, l, hl⟩, hs⟩ := hp
  have hb : b = lp7 := hb
  subst hb
  rw [fsAt_eq hl] at hs
  subst hs
  refine LoopTo.pre (Weak.forget (by simp) mk7) ?_ lg
  rw [hf]
  refine loop_chain (P := Try.prog) (n0 := 0) (b := lp7) (ex := .exit 0) (fr' := fr7 cs o n c e (joF l) (Int.ofNat n)) (H' := []) (by intro h; cases h) (fun i => (fr7 cs o n c e (joF l) (Int.ofNat i), [])) n 0 (fun i _ hi => body7 c e (by omega) hn hl) ?_
  rw [Nat.zero_add]
  refine body_x cnS5_ok (noLn_ok _) (noTab_ok _) (n := 100) (g := kdYes) (bs := mk7) ?_ (by simp)
  rw [vcl7, nOfn, nLss]
  exact Br.f (decide_eq_false (by omega)) ⟨rfl, rfl, rfl⟩
theorem neqF {x : Nat} (h : x ≤ Inf) : ops0.fcmp .neq .f64 x x = false := by
  rw [fcmp_small rfl h h, nNeq]; exact decide_eq_false (by simp)
theorem law7 {cs : List AV} {o n : Nat} (c : Nat) (e : Bool) (h : FOK cs o n) : ∃ H' lg, CallTo Try.prog 7 [.ros cs o n c e] [] (.bool true) H' lg := by
  have hv : vcall (vcA kdYes (cnS5 sf0 sg0 lessB) ln7) ops0 (tabOne 7 vf7) 200 vf7 [.ros cs o n c e] [] (fun r _ _ => r = .bool true) := by
    have hj : SG.jo sg0 cs o n = joF (fsA cs o n) := rfl
    have hle := joF_le (fsA cs o n)
    rw [vc7, hj]
    refine ⟨h, trivial, Br.f (neqF hle) (Br.f ?_ ⟨⟨rfl, rfl, rfl, h, rfl⟩, rfl⟩)⟩
    rw [fcmp_small rfl hle (Nat.zero_le _), nLss]
    exact decide_eq_false (by omega)
  obtain ⟨r, H', lg, hc, rfl⟩ := call_vcx cnS5_ok ln7_ok (tabOne_ok ok7) (tabOne_self 7 vf7) hv
  exact ⟨H', lg, hc⟩

/-! ### Costs -/
theorem bodyi {cs : List AV} {o n i k : Nat} {l : List Nat} (c : Nat) (e : Bool) (hi : i < n) (hk : k < n) (hk2 : k < 20) (h : FsAt cs o n l) :
    BodyTo Try.prog 0 lpi (fri cs o n c e (Int.ofNat i) (Int.ofNat k)) [] .norm (fri cs o n c e (Int.ofNat i) (Int.ofNat (k + 1))) [] := by
  have hl : i < l.length := by rw [h.1]; exact hi
  have hl2 : k < l.length := by rw [h.1]; exact hk
  obtain ⟨h1, _⟩ := h.2 i l[i] (List.getElem?_eq_getElem hl)
  obtain ⟨h2, _⟩ := h.2 k l[k] (List.getElem?_eq_getElem hl2)
  have n1 : Nth cs (ops0.adr o (Int.ofNat i) 1) (.flt .f64 l[i]) := Nth.mk (by rw [nAdr, Nat.mul_one]; exact h1)
  have n2 : Nth cs (ops0.adr o (Int.ofNat k) 1) (.flt .f64 l[k]) := Nth.mk (by rw [nAdr, Nat.mul_one]; exact h2)
  have ei : ops0.inr (Int.ofNat i) n = true := by rw [nInr]; exact decide_eq_true hi
  have ek : ops0.inr (Int.ofNat k) n = true := by rw [nInr]; exact decide_eq_true hk
  refine body_x cnS5_ok (noLn_ok _) (noTab_ok _) (n := 100) (g := kdYes) (bs := mki) ?_ (by simp)
  rw [vcli, nOfn, nLss, nLss, natAdd1 (by omega)]
  refine Br.t (decide_eq_true hk) (Br.t (decide_eq_true hk2) (Chk.mk ei ⟨_, n1, Chk.mk ek ⟨_, n2, trivial, ?_⟩⟩))
  cases hL : lessB l[i] l[k] with
  | true => exact Br.t rfl (Chk.mk ei ⟨_, n1, Chk.mk ek ⟨_, n2, trivial, Br.t hL ⟨rfl, rfl, rfl⟩⟩⟩)
  | false => exact Br.f rfl (Chk.mk ei ⟨_, n1, Chk.mk ek ⟨_, n2, trivial, Br.f hL ⟨rfl, rfl, rfl⟩⟩⟩)
theorem min20 (n : Nat) : Nat.min n 20 ≤ n ∧ Nat.min n 20 ≤ 20 ∧ (Nat.min n 20 = n ∨ Nat.min n 20 = 20) := by
  refine ⟨Nat.min_le_left _ _, Nat.min_le_right _ _, ?_⟩
  rcases Nat.le_total n 20 with h | h
  · exact Or.inl (Nat.min_eq_left h)
  · exact Or.inr (Nat.min_eq_right h)
theorem lni_ok : LnOK Try.prog lni := by
  intro n0 b fr H p x e hn hp lg
  unfold lni at e
  split at e <;> cases e
  rename_i cs o n c e i h1 h2
  obtain ⟨rfl, hb, hf, ⟨_, hn, l, hl⟩, hi0, hin⟩ := hp
  have hb : b = lpi := hb
  subst hb
  obtain ⟨m, rfl⟩ : ∃ m : Nat, i = Int.ofNat m := ⟨i.toNat, (Int.toNat_of_nonneg hi0).symm⟩
  simp only [Int.ofNat_eq_natCast] at hin
  refine LoopTo.pre (Weak.forget (by simp) mki) ?_ lg
  rw [hf]
  obtain ⟨q1, q2, q3⟩ := min20 n
  show ∀ lg, LoopTo Try.prog 0 lpi (fri cs o n c e (Int.ofNat m) (Int.ofNat 0)) [] lg (.exit 2) (fri cs o n c e (Int.ofNat m) (Int.ofNat (Nat.min n 20))) [] (List.range 0 ++ lg)
  generalize Nat.min n 20 = d at q1 q2 q3
  refine loop_chain (P := Try.prog) (n0 := 0) (b := lpi) (ex := .exit 2) (fr' := fri cs o n c e (Int.ofNat m) (Int.ofNat d)) (H' := []) (by intro h; cases h) (fun k => (fri cs o n c e (Int.ofNat m) (Int.ofNat k), [])) d 0 (fun k _ hk => bodyi c e (by omega) (by omega) (by omega) hl) ?_
  rw [Nat.zero_add]
  refine body_x cnS5_ok (noLn_ok _) (noTab_ok _) (n := 100) (g := kdYes) (bs := mki) ?_ (by simp)
  rw [vcli, nOfn, nLss, nLss]
  rcases q3 with hd | hd
  · exact Br.f (decide_eq_false (by omega)) ⟨rfl, rfl, rfl⟩
  · exact Br.mk (fun _ => Br.f (decide_eq_false (by omega)) ⟨rfl, rfl, rfl⟩) (fun _ => ⟨rfl, rfl, rfl⟩)
theorem ln6_ok : LnOK Try.prog ln6 := by
  intro n0 b fr H p x e hn hp lg
  unfold ln6 at e
  split at e <;> cases e
  rename_i cs o n c e h1
  obtain ⟨rfl, hb, hf, hF⟩ := hp
  have hb : b = lp6 := hb
  subst hb
  refine LoopTo.pre (Weak.forget (by simp) mk6) ?_ lg
  rw [hf]
  obtain ⟨q1, q2, q3⟩ := min20 n
  show ∀ lg, LoopTo Try.prog 0 lp6 (fr6 cs o n c e (Int.ofNat 0)) [] lg (.exit 0) (fr6 cs o n c e (Int.ofNat (Nat.min n 20))) [] (List.range 0 ++ lg)
  generalize Nat.min n 20 = d at q1 q2 q3
  refine loop_chain (P := Try.prog) (n0 := 0) (b := lp6) (ex := .exit 0) (fr' := fr6 cs o n c e (Int.ofNat d)) (H' := []) (by intro h; cases h) (fun k => (fr6 cs o n c e (Int.ofNat k), [])) d 0 (fun i _ hi => ?_) ?_
  · refine body_x cnS5_ok lni_ok (noTab_ok _) (n := 100) (g := kdYes) (bs := mk6) ?_ (by simp)
    rw [vcl6, nOfn, nLss, nLss, natAdd1 (by omega)]
    exact Br.t (decide_eq_true (by omega)) (Br.t (decide_eq_true (by omega)) ⟨⟨rfl, rfl, rfl, hF, Int.natCast_nonneg _, by simp only [Int.ofNat_eq_natCast]; omega⟩, rfl, rfl, rfl⟩)
  · rw [Nat.zero_add]
    refine body_x cnS5_ok lni_ok (noTab_ok _) (n := 100) (g := kdYes) (bs := mk6) ?_ (by simp)
    rw [vcl6, nOfn, nLss, nLss]
    rcases q3 with hd | hd
    · exact Br.f (decide_eq_false (by omega)) ⟨rfl, rfl, rfl⟩
    · exact Br.mk (fun _ => Br.f (decide_eq_false (by omega)) ⟨rfl, rfl, rfl⟩) (fun _ => ⟨rfl, rfl, rfl⟩)
theorem law6 (f d : Int) (x : Nat) (hf : f < 9223372036854775808) (hd : d < 9223372036854775808) (hx : x < 18446744073709551616) {cs : List AV} {o n : Nat} (c : Nat) (e : Bool) (h : FOK cs o n) :
    ∃ H' lg, CallTo Try.prog 6 [.int .i64 f, .int .i64 d, .flt .f64 x, .ros cs o n c e] [] (.bool true) H' lg := by
  have hv : vcall (vcA kdYes (cnS5 sf0 sg0 lessB) ln6) ops0 (tabN 6 vf6) 200 vf6 [.int .i64 f, .int .i64 d, .flt .f64 x, .ros cs o n c e] [] (fun r _ _ => r = .bool true) := by
    rw [vc6]
    exact ⟨trivial, ⟨hf, hd, hx⟩, ⟨hf, hd, hx⟩, same_t ⟨h, h, same_t ⟨⟨rfl, rfl, rfl, h⟩, rfl⟩⟩⟩
  obtain ⟨r, H', lg, hc, rfl⟩ := call_vcx cnS5_ok ln6_ok (tabN_ok ok6) (tabN_self 6 vf6) hv
  exact ⟨H', lg, hc⟩

end
end Go.Proofs.Vm

namespace Go.Proofs.Vm

def headCh : List Char := [.ofNat 104, .ofNat 97, .ofNat 114, .ofNat 110, .ofNat 101, .ofNat 115, .ofNat 115, .ofNat 32, .ofNat 100, .ofNat 54, .ofNat 102, .ofNat 51, .ofNat 48, .ofNat 100, .ofNat 51, .ofNat 57, .ofNat 55, .ofNat 48, .ofNat 49, .ofNat 101, .ofNat 52, .ofNat 55, .ofNat 97, .ofNat 102, .ofNat 99, .ofNat 53, .ofNat 97, .ofNat 98, .ofNat 98, .ofNat 102, .ofNat 100, .ofNat 51, .ofNat 98, .ofNat 52, .ofNat 98, .ofNat 51, .ofNat 50, .ofNat 57, .ofNat 57, .ofNat 54, .ofNat 56, .ofNat 98, .ofNat 53, .ofNat 102, .ofNat 55, .ofNat 54, .ofNat 56, .ofNat 99, .ofNat 54, .ofNat 53, .ofNat 51, .ofNat 51, .ofNat 51, .ofNat 49, .ofNat 99, .ofNat 101, .ofNat 57, .ofNat 101, .ofNat 55, .ofNat 100, .ofNat 49, .ofNat 52, .ofNat 50, .ofNat 102, .ofNat 53, .ofNat 98, .ofNat 102, .ofNat 49, .ofNat 50, .ofNat 48, .ofNat 97, .ofNat 98, .ofNat 32, .ofNat 99, .ofNat 117, .ofNat 116, .ofNat 32, .ofNat 97, .ofNat 116, .ofNat 32, .ofNat 116, .ofNat 111, .ofNat 108, .ofNat 108, .ofNat 104, .ofNat 111, .ofNat 117, .ofNat 115, .ofNat 101, .ofNat 47, .ofNat 116, .ofNat 111, .ofNat 108, .ofNat 108, .ofNat 104, .ofNat 111, .ofNat 117, .ofNat 115, .ofNat 101, .ofNat 108, .ofNat 97, .ofNat 119, .ofNat 50, .ofNat 49, .ofNat 46, .ofNat 83, .ofNat 99, .ofNat 111, .ofNat 114, .ofNat 101, .ofNat 79, .ofNat 114, .ofNat 100, .ofNat 101, .ofNat 114, .ofNat 115, .ofNat 32, .ofNat 116, .ofNat 111, .ofNat 108, .ofNat 108, .ofNat 104, .ofNat 111, .ofNat 117, .ofNat 115, .ofNat 101, .ofNat 47, .ofNat 116, .ofNat 111, .ofNat 108, .ofNat 108, .ofNat 104, .ofNat 111, .ofNat 117, .ofNat 115, .ofNat 101, .ofNat 108, .ofNat 97, .ofNat 119, .ofNat 50, .ofNat 49, .ofNat 46, .ofNat 83, .ofNat 99, .ofNat 111, .ofNat 114, .ofNat 101, .ofNat 70, .ofNat 111, .ofNat 114, .ofNat 103, .ofNat 101, .ofNat 116, .ofNat 115, .ofNat 32, .ofNat 116, .ofNat 111, .ofNat 108, .ofNat 108, .ofNat 104, .ofNat 111, .ofNat 117, .ofNat 115, .ofNat 101, .ofNat 47, .ofNat 116, .ofNat 111, .ofNat 108, .ofNat 108, .ofNat 104, .ofNat 111, .ofNat 117, .ofNat 115, .ofNat 101, .ofNat 108, .ofNat 97, .ofNat 119, .ofNat 50, .ofNat 49, .ofNat 46, .ofNat 83, .ofNat 99, .ofNat 111, .ofNat 114, .ofNat 101, .ofNat 68, .ofNat 101, .ofNat 97, .ofNat 114, .ofNat 32, .ofNat 116, .ofNat 111, .ofNat 108, .ofNat 108, .ofNat 104, .ofNat 111, .ofNat 117, .ofNat 115, .ofNat 101, .ofNat 47, .ofNat 116, .ofNat 111, .ofNat 108, .ofNat 108, .ofNat 104, .ofNat 111, .ofNat 117, .ofNat 115, .ofNat 101, .ofNat 108, .ofNat 97, .ofNat 119, .ofNat 50, .ofNat 49, .ofNat 46, .ofNat 83, .ofNat 99, .ofNat 111, .ofNat 114, .ofNat 101, .ofNat 67, .ofNat 111, .ofNat 115, .ofNat 116, .ofNat 115, .ofNat 32, .ofNat 116, .ofNat 111, .ofNat 108, .ofNat 108, .ofNat 104, .ofNat 111, .ofNat 117, .ofNat 115, .ofNat 101, .ofNat 47, .ofNat 116, .ofNat 111, .ofNat 108, .ofNat 108, .ofNat 104, .ofNat 111, .ofNat 117, .ofNat 115, .ofNat 101, .ofNat 108, .ofNat 97, .ofNat 119, .ofNat 50, .ofNat 49, .ofNat 46, .ofNat 83, .ofNat 99, .ofNat 111, .ofNat 114, .ofNat 101, .ofNat 74, .ofNat 111, .ofNat 105, .ofNat 110, .ofNat 115, .ofNat 32, .ofNat 116, .ofNat 111, .ofNat 108, .ofNat 108, .ofNat 104, .ofNat 111, .ofNat 117, .ofNat 115, .ofNat 101, .ofNat 47, .ofNat 116, .ofNat 111, .ofNat 108, .ofNat 108, .ofNat 104, .ofNat 111, .ofNat 117, .ofNat 115, .ofNat 101, .ofNat 108, .ofNat 97, .ofNat 119, .ofNat 50, .ofNat 49, .ofNat 46, .ofNat 83, .ofNat 99, .ofNat 111, .ofNat 114, .ofNat 101, .ofNat 76, .ofNat 101, .ofNat 97, .ofNat 114, .ofNat 110, .ofNat 115, .ofNat 32, .ofNat 116, .ofNat 111, .ofNat 108, .ofNat 108, .ofNat 104, .ofNat 111, .ofNat 117, .ofNat 115, .ofNat 101, .ofNat 47, .ofNat 116, .ofNat 111, .ofNat 108, .ofNat 108, .ofNat 104, .ofNat 111, .ofNat 117, .ofNat 115, .ofNat 101, .ofNat 108, .ofNat 97, .ofNat 119, .ofNat 50, .ofNat 49, .ofNat 46, .ofNat 83, .ofNat 99, .ofNat 111, .ofNat 114, .ofNat 101, .ofNat 67, .ofNat 104, .ofNat 97, .ofNat 110, .ofNat 99, .ofNat 101, .ofNat 115, .ofNat 32, .ofNat 116, .ofNat 111, .ofNat 108, .ofNat 108, .ofNat 104, .ofNat 111, .ofNat 117, .ofNat 115, .ofNat 101, .ofNat 47, .ofNat 116, .ofNat 111, .ofNat 108, .ofNat 108, .ofNat 104, .ofNat 111, .ofNat 117, .ofNat 115, .ofNat 101, .ofNat 108, .ofNat 97, .ofNat 119, .ofNat 50, .ofNat 49, .ofNat 46, .ofNat 83, .ofNat 99, .ofNat 111, .ofNat 114, .ofNat 101, .ofNat 82, .ofNat 97, .ofNat 110, .ofNat 103, .ofNat 101, .ofNat 115]
theorem head_lit : Try.prog.initOrder = String.ofList headCh := by kernel_rfl
theorem head_list : Try.prog.initOrder.toList = headCh := by rw [head_lit]; exact String.toList_ofList
theorem head_behind : ∃ rest, behindMainWord (wordsSigns Try.prog.initOrder.toList) = "cut".toList :: rest :=
  ⟨(behindMainWord (wordsSigns headCh)).tail, by rw [head_list]; kernel_rfl⟩
theorem strip_cut (rest : List (List Char)) : stripLifts liftWords ("cut".toList :: rest) = ([], "cut".toList :: rest) := by kernel_rfl
theorem make_of {P : Program} {rest : List (List Char)} (h : behindMainWord (wordsSigns P.initOrder.toList) = "cut".toList :: rest) : P.make = some .cut := by
  unfold Program.make
  rw [h]
  have e1 : ("cut".toList == "gc".toList || "cut".toList == "spec".toList) = false := by kernel_rfl
  have e2 : ("cut".toList == "cut".toList) = true := by kernel_rfl
  simp only [e1, e2, Bool.true_or, if_true]
  rfl
theorem mayEnter_of {P : Program} {rest : List (List Char)} (h : behindMainWord (wordsSigns P.initOrder.toList) = "cut".toList :: rest) (h1 : P.laysLater = false) (h2 : P.bearsReflect = false) (h3 : P.doorFits [] = true) : P.mayEnter = true := by
  unfold Program.mayEnter
  rw [h]
  simp only [strip_cut, h1, h2, h3]
  have e2 : (List.head? ("cut".toList :: rest) == some "cut".toList) = true := by kernel_rfl
  simp only [e2]
  simp
theorem liftsFinal_of {P : Program} {rest : List (List Char)} (h : behindMainWord (wordsSigns P.initOrder.toList) = "cut".toList :: rest) : P.liftsFinal = false := by
  unfold Program.liftsFinal Program.headLifts
  rw [h]
  simp only [strip_cut]
  have e2 : (List.head? ("cut".toList :: rest) == some "cut".toList) = true := by kernel_rfl
  have e3 : (List.head? ("cut".toList :: rest) == some "carried".toList) = false := by kernel_rfl
  simp only [e2, e3]
  simp
theorem f_laysLater : Try.prog.laysLater = false := by kernel_rfl
theorem f_bearsReflect : Try.prog.bearsReflect = false := by kernel_rfl
theorem f_doorFits : Try.prog.doorFits [] = true := by kernel_rfl
theorem f_mayEnter : Try.prog.mayEnter = true := head_behind.elim fun _ h => mayEnter_of h f_laysLater f_bearsReflect f_doorFits
theorem f_liftsFinal : Try.prog.liftsFinal = false := head_behind.elim fun _ h => liftsFinal_of h
theorem f_make : Try.prog.make = some .cut := head_behind.elim fun _ h => make_of h
theorem lifted_of {P : Program} {b : Bool} (h : P.liftsFinal = false) (hb : b = false) : (b == P.liftsFinal) = true := by rw [h, hb]; rfl
theorem made_of {P : Program} {m : Make} (h : P.make = some .cut) (hm : m = .cut) : (P.make == some m) = true := by rw [h, hm]; rfl
theorem f_laid : laidOutB Try.prog = true := by kernel_rfl
theorem f_rowed : mapsRowed Try.prog = true := by kernel_rfl
theorem f_plain : Try.prog.plainKeys = true := by kernel_rfl

end Go.Proofs.Vm
