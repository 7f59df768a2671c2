/-
  SCORE, PART 6: sums.
-/
import Derived.Test.YtbjecpcmbjjfaaaZae
import Derived.Test.YtbjecpcmbjjfaaaZad

namespace Go.Proofs.Vm
open Go.Vm Go.Fl
noncomputable section
-- SCORE
def flA : AV → Nat
  | .flt _ n => n
  | _ => 0
/-- Floats in cells. -/
def fsA (cs : List AV) (o n : Nat) : List Nat := ((cs.drop o).take n).map flA
def FsAt (cs : List AV) (o n : Nat) (l : List Nat) : Prop := l.length = n ∧ ∀ (i : Nat) (x : Nat), l[i]? = some x → cs[o + i]? = some (.flt .f64 x) ∧ x < 18446744073709551616
def FOK (cs : List AV) (o n : Nat) : Prop := flatL cs ∧ n < 9223372036854775808 ∧ ∃ l, FsAt cs o n l
structure JF where
  bad : List AV → Nat → Nat → Bool
  sum : List AV → Nat → Nat → Nat
def jf0 : JF := ⟨fun cs o n => (fsA cs o n).any badF, fun cs o n => sumF (fsA cs o n)⟩
def lp17 : VC := (.seq (.reg .false [] [⟨(.some 9), .none, (.cmp .lss), [(.t 8), (.t 7)]⟩]) (.seq (.cond (.t 9) .skip (.exit 0)) (.seq (.block 1 (.seq (.reg .false [] [⟨(.some 10), .none, (.ixS 1), [(.t 6), (.t 8)]⟩, ⟨(.some 11), .none, (.ld1 (.flt .f64)), [(.t 10)]⟩, ⟨(.some 5), .none, .mov, [(.t 11)]⟩]) (.seq (.seq (.reg .false [] [⟨(.some 12), .none, .mov, [(.t 5)]⟩, ⟨(.some 13), .none, (.call 32), [(.t 12)]⟩, ⟨(.some 14), .none, .mov, [(.t 13)]⟩, ⟨(.some 15), (.some ⟨14, .false⟩), .mov, [(.t 5)]⟩, ⟨(.some 16), (.some ⟨14, .false⟩), (.fcmp .lss .f64), [(.t 15), (.c (.flt .f64 0))]⟩, ⟨(.some 17), .none, .pick, [(.t 14), (.c (.bool .true)), (.t 16)]⟩, ⟨(.some 18), .none, .mov, [(.t 17)]⟩, ⟨(.some 19), (.some ⟨18, .false⟩), .mov, [(.t 5)]⟩, ⟨(.some 20), (.some ⟨18, .false⟩), (.call 30), [(.t 19), (.c (.int .i64 (.ofNat 1)))]⟩, ⟨(.some 21), .none, .pick, [(.t 18), (.c (.bool .true)), (.t 20)]⟩]) (.cond (.t 21) (.seq (.reg .false [] [⟨(.some 22), .none, (.call 34), [(.c (.int .i64 (.ofNat 1)))]⟩, ⟨(.some 2), .none, .mov, [(.t 22)]⟩]) .ret) .skip)) (.reg .false [] [⟨(.some 23), .none, .mov, [(.t 3)]⟩, ⟨(.some 24), .none, .mov, [(.t 5)]⟩, ⟨(.some 25), .none, (.fbin .add .f64), [(.t 23), (.t 24)]⟩, ⟨(.some 3), .none, .mov, [(.t 25)]⟩])))) (.reg .false [] [⟨(.some 26), .none, (.bin .add .i64), [(.t 8), (.c (.int .i64 (.ofNat 1)))]⟩, ⟨(.some 8), .none, .mov, [(.t 26)]⟩]))))
def fr17 (cs : List AV) (o n c : Nat) (e : Bool) (s : Nat) (i : Int) : Fr := [.top, .top, .top, .flt .f64 s, .top, .top, .ros cs o n c e, .int .i64 (Int.ofNat n), .int .i64 i, .top, .top, .top, .top, .top, .top, .top, .top, .top, .top, .top, .top, .top, .top, .top, .top, .top, .top, .top]
def mk17 : List Bool := [true, true, true, false, true, true, false, false, false, true, true, true, true, true, true, true, true, true, true, true, true, true, true, true, true, true, true, true]
def mr17 : List Bool := [true, true, false, true, true, true, true, true, true, true, true, true, true, true, true, true, true, true, true, true, true, true, true, true, true, true, true, true]
def re17 : Fr := [.top, .top, .flt .f64 9218868437227405312, .top, .top, .top, .top, .top, .top, .top, .top, .top, .top, .top, .top, .top, .top, .top, .top, .top, .top, .top, .top, .top, .top, .top, .top, .top]
def lp18 : VC := (.seq (.seq (.reg .false [] [⟨(.some 5), .none, .mov, [(.t 4)]⟩, ⟨(.some 6), .none, .mov, [(.t 0)]⟩, ⟨(.some 7), .none, .len, [(.t 6)]⟩, ⟨(.some 8), .none, (.cmp .lss), [(.t 5), (.t 7)]⟩]) (.cond (.t 8) .skip (.exit 0))) (.seq (.block 1 (.seq (.seq (.reg .false [] [⟨(.some 11), .none, .mov, [(.t 0)]⟩, ⟨(.some 12), .none, .mov, [(.t 4)]⟩, ⟨(.some 13), .none, (.ixS 1), [(.t 11), (.t 12)]⟩, ⟨(.some 14), .none, (.ld1 (.flt .f64)), [(.t 13)]⟩, ⟨(.some 15), .none, (.fcmp .geq .f64), [(.t 14), (.c (.flt .f64 0))]⟩, ⟨(.some 16), .none, .not, [(.t 15)]⟩, ⟨(.some 17), .none, .mov, [(.t 16)]⟩, ⟨(.some 18), (.some ⟨17, .false⟩), .mov, [(.t 0)]⟩, ⟨(.some 19), (.some ⟨17, .false⟩), .mov, [(.t 4)]⟩, ⟨(.some 20), (.some ⟨17, .false⟩), (.ixS 1), [(.t 18), (.t 19)]⟩, ⟨(.some 21), (.some ⟨17, .false⟩), (.ld1 (.flt .f64)), [(.t 20)]⟩, ⟨(.some 22), (.some ⟨17, .false⟩), (.call 30), [(.t 21), (.c (.int .i64 (.ofNat 1)))]⟩, ⟨(.some 23), .none, .pick, [(.t 17), (.c (.bool .true)), (.t 22)]⟩]) (.cond (.t 23) (.seq (.reg .false [] [⟨(.some 24), .none, (.call 34), [(.c (.int .i64 (.ofNat 1)))]⟩, ⟨(.some 2), .none, .mov, [(.t 24)]⟩]) .ret) .skip)) (.reg .false [] [⟨(.some 25), .none, .mov, [(.t 3)]⟩, ⟨(.some 26), .none, .mov, [(.t 0)]⟩, ⟨(.some 27), .none, .mov, [(.t 4)]⟩, ⟨(.some 28), .none, (.ixS 1), [(.t 26), (.t 27)]⟩, ⟨(.some 29), .none, (.ld1 (.flt .f64)), [(.t 28)]⟩, ⟨(.some 30), .none, (.fbin .add .f64), [(.t 25), (.t 29)]⟩, ⟨(.some 3), .none, .mov, [(.t 30)]⟩]))) (.reg .false [] [⟨(.some 9), .none, .mov, [(.t 4)]⟩, ⟨(.some 10), .none, (.bin .add .i64), [(.t 9), (.c (.int .i64 (.ofNat 1)))]⟩, ⟨(.some 4), .none, .mov, [(.t 10)]⟩])))
def fr18 (cs : List AV) (o n c : Nat) (e : Bool) (s : Nat) (i : Int) : Fr := [.ros cs o n c e, .top, .top, .flt .f64 s, .int .i64 i, .top, .top, .top, .top, .top, .top, .top, .top, .top, .top, .top, .top, .top, .top, .top, .top, .top, .top, .top, .top, .top, .top, .top, .top, .top, .top, .top]
def mk18 : List Bool := [false, true, true, false, false, true, true, true, true, true, true, true, true, true, true, true, true, true, true, true, true, true, true, true, true, true, true, true, true, true, true, true]
def mr18 : List Bool := [true, true, false, true, true, true, true, true, true, true, true, true, true, true, true, true, true, true, true, true, true, true, true, true, true, true, true, true, true, true, true, true]
def re18 : Fr := [.top, .top, .flt .f64 9218868437227405312, .top, .top, .top, .top, .top, .top, .top, .top, .top, .top, .top, .top, .top, .top, .top, .top, .top, .top, .top, .top, .top, .top, .top, .top, .top, .top, .top, .top, .top]
def ln17 (J : JF) : LnF := fun n0 b fr H => match slot fr 6, H with
  | .ros cs o n c e, [] => some (n0 = 0 ∧ VCis b lp17 ∧ forget mk17 fr = fr17 cs o n c e 0 0 ∧ FOK cs o n, .cond (J.bad cs o n) (.ok .ret re17 []) (.ok (.exit 0) (fr17 cs o n c e (J.sum cs o n) n) []))
  | _, _ => none
def ln18 (J : JF) : LnF := fun n0 b fr H => match slot fr 0, H with
  | .ros cs o n c e, [] => some (n0 = 0 ∧ VCis b lp18 ∧ forget mk18 fr = fr18 cs o n c e 0 0 ∧ FOK cs o n, .cond (J.bad cs o n) (.ok .ret re18 []) (.ok (.exit 0) (fr18 cs o n c e (J.sum cs o n) n) []))
  | _, _ => none

theorem vcl17 (cs : List AV) (o n c : Nat) (e : Bool) (s : Nat) (i : Int) (Q : Ex → Fr → Hl → Prop) :
  (vm (vcA kdYes noCn noLn) ops0 (tabM 17 vf17) 100 0 lp17 (fr17 cs o n c e s i) [] [] (bodyX mk17 Q)) =
 ((Br (ops0.cmp BinOp.lss i (Int.ofNat n))
 (Chk (ops0.inr i n)
 (∃ n1 : Nat, ((Nth cs (ops0.adr o i 1) (AV.flt FloatKind.f64 n1)) ∧
 (Br (ops0.fcmp BinOp.neq FloatKind.f64 n1 n1)
 (Q Ex.ret [AV.top, AV.top, AV.top, (AV.flt FloatKind.f64 s), AV.top, AV.top, (AV.ros cs o n c e), (AV.int IntKind.i64 (Int.ofNat n)), (AV.int IntKind.i64 i), AV.top, AV.top, AV.top, AV.top, AV.top, AV.top, AV.top, AV.top, AV.top, AV.top, AV.top, AV.top, AV.top, AV.top, AV.top, AV.top, AV.top, AV.top, AV.top] [])
 (Br (ops0.fcmp BinOp.lss FloatKind.f64 n1 0)
 (Q Ex.ret [AV.top, AV.top, AV.top, (AV.flt FloatKind.f64 s), AV.top, AV.top, (AV.ros cs o n c e), (AV.int IntKind.i64 (Int.ofNat n)), (AV.int IntKind.i64 i), AV.top, AV.top, AV.top, AV.top, AV.top, AV.top, AV.top, AV.top, AV.top, AV.top, AV.top, AV.top, AV.top, AV.top, AV.top, AV.top, AV.top, AV.top, AV.top] [])
 (Br (ops0.fcmp BinOp.gtr FloatKind.f64 n1 9218868437227405311)
 (Q Ex.ret [AV.top, AV.top, AV.top, (AV.flt FloatKind.f64 s), AV.top, AV.top, (AV.ros cs o n c e), (AV.int IntKind.i64 (Int.ofNat n)), (AV.int IntKind.i64 i), AV.top, AV.top, AV.top, AV.top, AV.top, AV.top, AV.top, AV.top, AV.top, AV.top, AV.top, AV.top, AV.top, AV.top, AV.top, AV.top, AV.top, AV.top, AV.top] [])
 (∃ r : Nat, ((((ops0.fbin BinOp.add FloatKind.f64 s n1) : (Option Nat)) = (Option.some r)) ∧
 (Q Ex.norm [AV.top, AV.top, AV.top, (AV.flt FloatKind.f64 r), AV.top, AV.top, (AV.ros cs o n c e), (AV.int IntKind.i64 (Int.ofNat n)), (AV.int IntKind.i64 (ops0.bin BinOp.add IntKind.i64 i (Int.ofNat 1))), AV.top, AV.top, AV.top, AV.top, AV.top, AV.top, AV.top, AV.top, AV.top, AV.top, AV.top, AV.top, AV.top, AV.top, AV.top, AV.top, AV.top, AV.top, AV.top] [])))))))))
 (Q (Ex.exit 0) [AV.top, AV.top, AV.top, (AV.flt FloatKind.f64 s), AV.top, AV.top, (AV.ros cs o n c e), (AV.int IntKind.i64 (Int.ofNat n)), (AV.int IntKind.i64 i), AV.top, AV.top, AV.top, AV.top, AV.top, AV.top, AV.top, AV.top, AV.top, AV.top, AV.top, AV.top, AV.top, AV.top, AV.top, AV.top, AV.top, AV.top, AV.top] []))) := by kernel_rfl

theorem vcr17 (cs : List AV) (o n c : Nat) (e : Bool) (s : Nat) (i : Int) (Q : Ex → Fr → Hl → Prop) :
  (vm (vcA kdYes noCn noLn) ops0 (tabM 17 vf17) 100 0 lp17 (fr17 cs o n c e s i) [] [] (bodyX mr17 Q)) =
 ((Br (ops0.cmp BinOp.lss i (Int.ofNat n))
 (Chk (ops0.inr i n)
 (∃ n1 : Nat, ((Nth cs (ops0.adr o i 1) (AV.flt FloatKind.f64 n1)) ∧
 (Br (ops0.fcmp BinOp.neq FloatKind.f64 n1 n1)
 (Q Ex.ret [AV.top, AV.top, (AV.flt FloatKind.f64 9218868437227405312), AV.top, AV.top, AV.top, AV.top, AV.top, AV.top, AV.top, AV.top, AV.top, AV.top, AV.top, AV.top, AV.top, AV.top, AV.top, AV.top, AV.top, AV.top, AV.top, AV.top, AV.top, AV.top, AV.top, AV.top, AV.top] [])
 (Br (ops0.fcmp BinOp.lss FloatKind.f64 n1 0)
 (Q Ex.ret [AV.top, AV.top, (AV.flt FloatKind.f64 9218868437227405312), AV.top, AV.top, AV.top, AV.top, AV.top, AV.top, AV.top, AV.top, AV.top, AV.top, AV.top, AV.top, AV.top, AV.top, AV.top, AV.top, AV.top, AV.top, AV.top, AV.top, AV.top, AV.top, AV.top, AV.top, AV.top] [])
 (Br (ops0.fcmp BinOp.gtr FloatKind.f64 n1 9218868437227405311)
 (Q Ex.ret [AV.top, AV.top, (AV.flt FloatKind.f64 9218868437227405312), AV.top, AV.top, AV.top, AV.top, AV.top, AV.top, AV.top, AV.top, AV.top, AV.top, AV.top, AV.top, AV.top, AV.top, AV.top, AV.top, AV.top, AV.top, AV.top, AV.top, AV.top, AV.top, AV.top, AV.top, AV.top] [])
 (∃ r : Nat, ((((ops0.fbin BinOp.add FloatKind.f64 s n1) : (Option Nat)) = (Option.some r)) ∧
 (Q Ex.norm [AV.top, AV.top, AV.top, AV.top, AV.top, AV.top, AV.top, AV.top, AV.top, AV.top, AV.top, AV.top, AV.top, AV.top, AV.top, AV.top, AV.top, AV.top, AV.top, AV.top, AV.top, AV.top, AV.top, AV.top, AV.top, AV.top, AV.top, AV.top] [])))))))))
 (Q (Ex.exit 0) [AV.top, AV.top, AV.top, AV.top, AV.top, AV.top, AV.top, AV.top, AV.top, AV.top, AV.top, AV.top, AV.top, AV.top, AV.top, AV.top, AV.top, AV.top, AV.top, AV.top, AV.top, AV.top, AV.top, AV.top, AV.top, AV.top, AV.top, AV.top] []))) := by kernel_rfl

theorem vcl18 (cs : List AV) (o n c : Nat) (e : Bool) (s : Nat) (i : Int) (Q : Ex → Fr → Hl → Prop) :
  (vm (vcA kdYes noCn noLn) ops0 (tabM 18 vf18) 100 0 lp18 (fr18 cs o n c e s i) [] [] (bodyX mk18 Q)) =
 ((Br (ops0.cmp BinOp.lss i (ops0.ofn n))
 (Chk (ops0.inr i n)
 (∃ n1 : Nat, ((Nth cs (ops0.adr o i 1) (AV.flt FloatKind.f64 n1)) ∧
 (Br (ops0.fcmp BinOp.geq FloatKind.f64 n1 0)
 (Chk (ops0.inr i n)
 (∃ n2 : Nat, ((Nth cs (ops0.adr o i 1) (AV.flt FloatKind.f64 n2)) ∧
 (Br (ops0.fcmp BinOp.gtr FloatKind.f64 n2 9218868437227405311)
 (Q Ex.ret [(AV.ros cs o n c e), AV.top, AV.top, (AV.flt FloatKind.f64 s), (AV.int IntKind.i64 i), AV.top, AV.top, AV.top, AV.top, AV.top, AV.top, AV.top, AV.top, AV.top, AV.top, AV.top, AV.top, AV.top, AV.top, AV.top, AV.top, AV.top, AV.top, AV.top, AV.top, AV.top, AV.top, AV.top, AV.top, AV.top, AV.top, AV.top] [])
 (Chk (ops0.inr i n)
 (∃ n3 : Nat, ((Nth cs (ops0.adr o i 1) (AV.flt FloatKind.f64 n3)) ∧
 (∃ r : Nat, ((((ops0.fbin BinOp.add FloatKind.f64 s n3) : (Option Nat)) = (Option.some r)) ∧
 (Q Ex.norm [(AV.ros cs o n c e), AV.top, AV.top, (AV.flt FloatKind.f64 r), (AV.int IntKind.i64 (ops0.bin BinOp.add IntKind.i64 i (Int.ofNat 1))), AV.top, AV.top, AV.top, AV.top, AV.top, AV.top, AV.top, AV.top, AV.top, AV.top, AV.top, AV.top, AV.top, AV.top, AV.top, AV.top, AV.top, AV.top, AV.top, AV.top, AV.top, AV.top, AV.top, AV.top, AV.top, AV.top, AV.top] []))))))))))
 (Q Ex.ret [(AV.ros cs o n c e), AV.top, AV.top, (AV.flt FloatKind.f64 s), (AV.int IntKind.i64 i), AV.top, AV.top, AV.top, AV.top, AV.top, AV.top, AV.top, AV.top, AV.top, AV.top, AV.top, AV.top, AV.top, AV.top, AV.top, AV.top, AV.top, AV.top, AV.top, AV.top, AV.top, AV.top, AV.top, AV.top, AV.top, AV.top, AV.top] [])))))
 (Q (Ex.exit 0) [(AV.ros cs o n c e), AV.top, AV.top, (AV.flt FloatKind.f64 s), (AV.int IntKind.i64 i), AV.top, AV.top, AV.top, AV.top, AV.top, AV.top, AV.top, AV.top, AV.top, AV.top, AV.top, AV.top, AV.top, AV.top, AV.top, AV.top, AV.top, AV.top, AV.top, AV.top, AV.top, AV.top, AV.top, AV.top, AV.top, AV.top, AV.top] []))) := by kernel_rfl

theorem vcr18 (cs : List AV) (o n c : Nat) (e : Bool) (s : Nat) (i : Int) (Q : Ex → Fr → Hl → Prop) :
  (vm (vcA kdYes noCn noLn) ops0 (tabM 18 vf18) 100 0 lp18 (fr18 cs o n c e s i) [] [] (bodyX mr18 Q)) =
 ((Br (ops0.cmp BinOp.lss i (ops0.ofn n))
 (Chk (ops0.inr i n)
 (∃ n1 : Nat, ((Nth cs (ops0.adr o i 1) (AV.flt FloatKind.f64 n1)) ∧
 (Br (ops0.fcmp BinOp.geq FloatKind.f64 n1 0)
 (Chk (ops0.inr i n)
 (∃ n2 : Nat, ((Nth cs (ops0.adr o i 1) (AV.flt FloatKind.f64 n2)) ∧
 (Br (ops0.fcmp BinOp.gtr FloatKind.f64 n2 9218868437227405311)
 (Q Ex.ret [AV.top, AV.top, (AV.flt FloatKind.f64 9218868437227405312), AV.top, AV.top, AV.top, AV.top, AV.top, AV.top, AV.top, AV.top, AV.top, AV.top, AV.top, AV.top, AV.top, AV.top, AV.top, AV.top, AV.top, AV.top, AV.top, AV.top, AV.top, AV.top, AV.top, AV.top, AV.top, AV.top, AV.top, AV.top, AV.top] [])
 (Chk (ops0.inr i n)
 (∃ n3 : Nat, ((Nth cs (ops0.adr o i 1) (AV.flt FloatKind.f64 n3)) ∧
 (∃ r : Nat, ((((ops0.fbin BinOp.add FloatKind.f64 s n3) : (Option Nat)) = (Option.some r)) ∧
 (Q Ex.norm [AV.top, AV.top, AV.top, AV.top, AV.top, AV.top, AV.top, AV.top, AV.top, AV.top, AV.top, AV.top, AV.top, AV.top, AV.top, AV.top, AV.top, AV.top, AV.top, AV.top, AV.top, AV.top, AV.top, AV.top, AV.top, AV.top, AV.top, AV.top, AV.top, AV.top, AV.top, AV.top] []))))))))))
 (Q Ex.ret [AV.top, AV.top, (AV.flt FloatKind.f64 9218868437227405312), AV.top, AV.top, AV.top, AV.top, AV.top, AV.top, AV.top, AV.top, AV.top, AV.top, AV.top, AV.top, AV.top, AV.top, AV.top, AV.top, AV.top, AV.top, AV.top, AV.top, AV.top, AV.top, AV.top, AV.top, AV.top, AV.top, AV.top, AV.top, AV.top] [])))))
 (Q (Ex.exit 0) [AV.top, AV.top, AV.top, AV.top, AV.top, AV.top, AV.top, AV.top, AV.top, AV.top, AV.top, AV.top, AV.top, AV.top, AV.top, AV.top, AV.top, AV.top, AV.top, AV.top, AV.top, AV.top, AV.top, AV.top, AV.top, AV.top, AV.top, AV.top, AV.top, AV.top, AV.top, AV.top] []))) := by kernel_rfl

theorem vc17 (J : JF) (cs : List AV) (o n c : Nat) (e : Bool) (Q : AV → Hl → Prop) :
  (vcall (vcA kdYes noCn (ln17 J)) ops0 (tabOne 17 vf17) 200 vf17 [.ros cs o n c e] [] (endN (fun _ => 0) Q)) =
 (((((0 : Nat) = 0) ∧
 ((VCis lp17 lp17) ∧
 ((([AV.top, AV.top, AV.top, (AV.flt FloatKind.f64 0), AV.top, AV.top, (AV.ros cs o n c e), (AV.int IntKind.i64 (ops0.ofn n)), (AV.int IntKind.i64 (Int.ofNat 0)), AV.top, AV.top, AV.top, AV.top, AV.top, AV.top, AV.top, AV.top, AV.top, AV.top, AV.top, AV.top, AV.top, AV.top, AV.top, AV.top, AV.top, AV.top, AV.top] : Fr) = [AV.top, AV.top, AV.top, (AV.flt FloatKind.f64 0), AV.top, AV.top, (AV.ros cs o n c e), (AV.int IntKind.i64 (Int.ofNat n)), (AV.int IntKind.i64 (Int.ofNat 0)), AV.top, AV.top, AV.top, AV.top, AV.top, AV.top, AV.top, AV.top, AV.top, AV.top, AV.top, AV.top, AV.top, AV.top, AV.top, AV.top, AV.top, AV.top, AV.top]) ∧
 (FOK cs o n)))) ∧
 (Br (JF.bad J cs o n)
 (Q (AV.flt FloatKind.f64 9218868437227405312) [])
 (Q (AV.flt FloatKind.f64 (JF.sum J cs o n)) [])))) := by kernel_rfl

theorem vc18 (J : JF) (cs : List AV) (o n c : Nat) (e : Bool) (Q : AV → Hl → Prop) :
  (vcall (vcA kdYes noCn (ln18 J)) ops0 (tabOne 18 vf18) 200 vf18 [.ros cs o n c e] [] (endN (fun _ => 0) Q)) =
 (((((0 : Nat) = 0) ∧
 ((VCis lp18 lp18) ∧
 ((([(AV.ros cs o n c e), AV.top, AV.top, (AV.flt FloatKind.f64 0), (AV.int IntKind.i64 (Int.ofNat 0)), AV.top, AV.top, AV.top, AV.top, AV.top, AV.top, AV.top, AV.top, AV.top, AV.top, AV.top, AV.top, AV.top, AV.top, AV.top, AV.top, AV.top, AV.top, AV.top, AV.top, AV.top, AV.top, AV.top, AV.top, AV.top, AV.top, AV.top] : Fr) = [(AV.ros cs o n c e), AV.top, AV.top, (AV.flt FloatKind.f64 0), (AV.int IntKind.i64 (Int.ofNat 0)), AV.top, AV.top, AV.top, AV.top, AV.top, AV.top, AV.top, AV.top, AV.top, AV.top, AV.top, AV.top, AV.top, AV.top, AV.top, AV.top, AV.top, AV.top, AV.top, AV.top, AV.top, AV.top, AV.top, AV.top, AV.top, AV.top, AV.top]) ∧
 (FOK cs o n)))) ∧
 (Br (JF.bad J cs o n)
 (Q (AV.flt FloatKind.f64 9218868437227405312) [])
 (Q (AV.flt FloatKind.f64 (JF.sum J cs o n)) [])))) := by kernel_rfl

theorem fsAt_eq {cs : List AV} {o n : Nat} {l : List Nat} (h : FsAt cs o n l) : fsA cs o n = l := by
  unfold fsA
  apply List.ext_getElem?
  intro i
  rw [List.getElem?_map, List.getElem?_take]
  rcases Nat.lt_or_ge i n with hi | hi
  · have hl : i < l.length := by rw [h.1]; exact hi
    have := (h.2 i l[i] (List.getElem?_eq_getElem hl)).1
    rw [if_pos hi, List.getElem?_drop, this, List.getElem?_eq_getElem hl]
    rfl
  · rw [if_neg (by omega), List.getElem?_eq_none (by rw [h.1]; exact hi)]
    rfl

theorem max_inf : 9218868437227405311 ≤ Inf := by rw [Inf_val]; decide
theorem kM : key 9218868437227405311 = 9218868437227405311 := key_small max_inf
theorem zM : 9218868437227405311 % Wt ≤ Inf := by rw [(small max_inf).1]; exact max_inf
theorem bad_parts {x : Nat} : badF x = true → Inf < x % Wt ∨ (x % Wt ≤ Inf ∧ (key x < 0 ∨ (0 ≤ key x ∧ 9218868437227405311 < key x))) := by
  unfold badF
  intro h
  simp only [Bool.or_eq_true, decide_eq_true_eq] at h
  omega
theorem good_parts {x : Nat} (h : badF x = false) : x % Wt ≤ Inf ∧ 0 ≤ key x ∧ key x ≤ 9218868437227405311 := by
  unfold badF at h
  simp only [Bool.or_eq_false_iff, decide_eq_false_iff_not] at h
  omega
theorem natAdd1 {i : Nat} (h : i < 9223372036854775807) : ops0.bin .add .i64 (Int.ofNat i) (Int.ofNat 1) = Int.ofNat (i + 1) := nAdd (by omega)

theorem loop17 {cs : List AV} {o n : Nat} {l : List Nat} (c : Nat) (e : Bool) (hn : n < 9223372036854775808) (h : FsAt cs o n l) :
    ∀ lg, (l.any badF = true → LoopTo Try.prog 0 lp17 (fr17 cs o n c e 0 0) [] lg .ret re17 [] (List.range 0 ++ lg)) ∧ (l.any badF = false → LoopTo Try.prog 0 lp17 (fr17 cs o n c e 0 0) [] lg (.exit 0) (fr17 cs o n c e (sumF l) n) [] (List.range 0 ++ lg)) := by
  intro lg
  obtain ⟨d, hd, hgood, hend⟩ := first_bad l
  have hl := h.1
  have norm : ∀ i, 0 ≤ i → i < 0 + d → BodyTo Try.prog 0 lp17 (fr17 cs o n c e (sumF (l.take i)) i) [] .norm (fr17 cs o n c e (sumF (l.take (i + 1))) (i + 1 : Nat)) [] := by
    intro i _ hi
    have hlt : i < l.length := by omega
    have hx : l[i]? = some l[i] := List.getElem?_eq_getElem hlt
    have hb := hgood i l[i] (by omega) hx
    obtain ⟨g1, g2, g3⟩ := good_parts hb
    obtain ⟨hc, hx64⟩ := h.2 i _ hx
    refine body_x (noCn_ok _) (noLn_ok _) (tabM_ok ok17) (n := 100) (g := kdYes) (bs := mk17) ?_ (by simp)
    show vm _ _ _ _ _ _ (fr17 cs o n c e (sumF (l.take i)) (Int.ofNat i)) [] _ _
    rw [vcl17, natAdd1 (by omega), nLss, nInr, sumF_succ hx]
    refine Br.t (decide_eq_true (by omega)) (Chk.mk (decide_eq_true (by omega)) ⟨l[i], Nth.mk (by rw [nAdr, Nat.mul_one]; exact hc), ?_⟩)
    rw [fcmp_key rfl g1 g1, fcmp_key rfl g1 z0, fcmp_key rfl g1 zM, k0, kM, iNeq, iLss, iGtr]
    exact Br.f (decide_eq_false (by simp)) (Br.f (decide_eq_false (by omega)) (Br.f (decide_eq_false (by omega)) ⟨_, o_fad (sumF_le _) hx64 hb, rfl, rfl, rfl⟩))
  refine ⟨fun hb => ?_, fun hb => ?_⟩
  · rcases hend with ⟨_, h2⟩ | ⟨x, h1, h2, _⟩
    · rw [hb] at h2; cases h2
    · have hlt : d < l.length := (List.getElem?_eq_some_iff.1 h1).1
      refine loop_chain (P := Try.prog) (n0 := 0) (b := lp17) (ex := .ret) (fr' := re17) (H' := []) (by intro h; cases h) (fun i => (fr17 cs o n c e (sumF (l.take i)) i, [])) d 0 norm ?_ lg
      rw [Nat.zero_add]
      obtain ⟨hc, hx64⟩ := h.2 d _ h1
      refine body_x (noCn_ok _) (noLn_ok _) (tabM_ok ok17) (n := 100) (g := kdYes) (bs := mr17) ?_ (by simp)
      show vm _ _ _ _ _ _ (fr17 cs o n c e (sumF (l.take d)) (Int.ofNat d)) [] _ _
      rw [vcr17, nLss, nInr]
      refine Br.t (decide_eq_true (by omega)) (Chk.mk (decide_eq_true (by omega)) ⟨x, Nth.mk (by rw [nAdr, Nat.mul_one]; exact hc), ?_⟩)
      rcases bad_parts h2 with g | ⟨g1, g⟩
      · exact Br.t (fcmp_nan rfl (Or.inl g)) ⟨rfl, rfl, rfl⟩
      · rw [fcmp_key rfl g1 g1, fcmp_key rfl g1 z0, fcmp_key rfl g1 zM, k0, kM, iNeq, iLss, iGtr]
        refine Br.f (decide_eq_false (by simp)) ?_
        rcases g with g | ⟨g, g3⟩
        · exact Br.t (decide_eq_true (by omega)) ⟨rfl, rfl, rfl⟩
        · exact Br.f (decide_eq_false (by omega)) (Br.t (decide_eq_true (by omega)) ⟨rfl, rfl, rfl⟩)
  · rcases hend with ⟨h2, _⟩ | ⟨x, _, _, h2⟩
    · refine loop_chain (P := Try.prog) (n0 := 0) (b := lp17) (ex := .exit 0) (fr' := fr17 cs o n c e (sumF l) n) (H' := []) (by intro h; cases h) (fun i => (fr17 cs o n c e (sumF (l.take i)) i, [])) d 0 norm ?_ lg
      rw [Nat.zero_add]
      refine body_x (noCn_ok _) (noLn_ok _) (tabM_ok ok17) (n := 100) (g := kdYes) (bs := mk17) ?_ (by simp)
      show vm _ _ _ _ _ _ (fr17 cs o n c e (sumF (l.take d)) (Int.ofNat d)) [] _ _
      have hdn : d = n := by omega
      rw [List.take_of_length_le (by omega), hdn, vcl17, nLss]
      exact Br.f (decide_eq_false (by omega)) ⟨rfl, rfl, rfl⟩
    · rw [hb] at h2; cases h2

theorem loop18 {cs : List AV} {o n : Nat} {l : List Nat} (c : Nat) (e : Bool) (hn : n < 9223372036854775808) (h : FsAt cs o n l) :
    ∀ lg, (l.any badF = true → LoopTo Try.prog 0 lp18 (fr18 cs o n c e 0 0) [] lg .ret re18 [] (List.range 0 ++ lg)) ∧ (l.any badF = false → LoopTo Try.prog 0 lp18 (fr18 cs o n c e 0 0) [] lg (.exit 0) (fr18 cs o n c e (sumF l) n) [] (List.range 0 ++ lg)) := by
  intro lg
  obtain ⟨d, hd, hgood, hend⟩ := first_bad l
  have hl := h.1
  have norm : ∀ i, 0 ≤ i → i < 0 + d → BodyTo Try.prog 0 lp18 (fr18 cs o n c e (sumF (l.take i)) i) [] .norm (fr18 cs o n c e (sumF (l.take (i + 1))) (i + 1 : Nat)) [] := by
    intro i _ hi
    have hlt : i < l.length := by omega
    have hx : l[i]? = some l[i] := List.getElem?_eq_getElem hlt
    have hb := hgood i l[i] (by omega) hx
    obtain ⟨g1, g2, g3⟩ := good_parts hb
    obtain ⟨hc, hx64⟩ := h.2 i _ hx
    have hnth : Nth cs (ops0.adr o (Int.ofNat i) 1) (.flt .f64 l[i]) := Nth.mk (by rw [nAdr, Nat.mul_one]; exact hc)
    refine body_x (noCn_ok _) (noLn_ok _) (tabM_ok ok18) (n := 100) (g := kdYes) (bs := mk18) ?_ (by simp)
    show vm _ _ _ _ _ _ (fr18 cs o n c e (sumF (l.take i)) (Int.ofNat i)) [] _ _
    rw [vcl18, natAdd1 (by omega), nOfn, nLss, nInr, sumF_succ hx]
    refine Br.t (decide_eq_true (by omega)) (Chk.mk (decide_eq_true (by omega)) ⟨l[i], hnth, Br.t ?_ (Chk.mk (decide_eq_true (by omega)) ⟨l[i], hnth, Br.f ?_ (Chk.mk (decide_eq_true (by omega)) ⟨l[i], hnth, _, o_fad (sumF_le _) hx64 hb, rfl, rfl, rfl⟩)⟩)⟩)
    · rw [fcmp_key rfl g1 z0, k0, iGeq]; exact decide_eq_true (by omega)
    · rw [fcmp_key rfl g1 zM, kM, iGtr]; exact decide_eq_false (by omega)
  refine ⟨fun hb => ?_, fun hb => ?_⟩
  · rcases hend with ⟨_, h2⟩ | ⟨x, h1, h2, _⟩
    · rw [hb] at h2; cases h2
    · have hlt : d < l.length := (List.getElem?_eq_some_iff.1 h1).1
      refine loop_chain (P := Try.prog) (n0 := 0) (b := lp18) (ex := .ret) (fr' := re18) (H' := []) (by intro h; cases h) (fun i => (fr18 cs o n c e (sumF (l.take i)) i, [])) d 0 norm ?_ lg
      rw [Nat.zero_add]
      obtain ⟨hc, hx64⟩ := h.2 d _ h1
      have hnth : Nth cs (ops0.adr o (Int.ofNat d) 1) (.flt .f64 x) := Nth.mk (by rw [nAdr, Nat.mul_one]; exact hc)
      refine body_x (noCn_ok _) (noLn_ok _) (tabM_ok ok18) (n := 100) (g := kdYes) (bs := mr18) ?_ (by simp)
      show vm _ _ _ _ _ _ (fr18 cs o n c e (sumF (l.take d)) (Int.ofNat d)) [] _ _
      rw [vcr18, nOfn, nLss, nInr]
      refine Br.t (decide_eq_true (by omega)) (Chk.mk (decide_eq_true (by omega)) ⟨x, hnth, ?_⟩)
      rcases bad_parts h2 with g | ⟨g1, g⟩
      · exact Br.f (fcmp_nan rfl (Or.inl g)) ⟨rfl, rfl, rfl⟩
      · rw [fcmp_key rfl g1 z0, k0, iGeq]
        rcases g with g | ⟨g, g3⟩
        · exact Br.f (decide_eq_false (by omega)) ⟨rfl, rfl, rfl⟩
        · refine Br.t (decide_eq_true (by omega)) (Chk.mk (decide_eq_true (by omega)) ⟨x, hnth, Br.t ?_ ⟨rfl, rfl, rfl⟩⟩)
          rw [fcmp_key rfl g1 zM, kM, iGtr]; exact decide_eq_true (by omega)
  · rcases hend with ⟨h2, _⟩ | ⟨x, _, _, h2⟩
    · refine loop_chain (P := Try.prog) (n0 := 0) (b := lp18) (ex := .exit 0) (fr' := fr18 cs o n c e (sumF l) n) (H' := []) (by intro h; cases h) (fun i => (fr18 cs o n c e (sumF (l.take i)) i, [])) d 0 norm ?_ lg
      rw [Nat.zero_add]
      refine body_x (noCn_ok _) (noLn_ok _) (tabM_ok ok18) (n := 100) (g := kdYes) (bs := mk18) ?_ (by simp)
      show vm _ _ _ _ _ _ (fr18 cs o n c e (sumF (l.take d)) (Int.ofNat d)) [] _ _
      have hdn : d = n := by omega
      rw [List.take_of_length_le (by omega), hdn, vcl18, nOfn, nLss]
      exact Br.f (decide_eq_false (by omega)) ⟨rfl, rfl, rfl⟩
    · rw [hb] at h2; cases h2

theorem ln17_ok : LnOK Try.prog (ln17 jf0) := by
  intro n0 b fr H p x e hn hp lg
  unfold ln17 at e
  split at e <;> cases e
  rename_i cs o n c e h1
  obtain ⟨rfl, hb, hf, _, hn, l, hl⟩ := hp
  have hb : b = lp17 := hb
  subst hb
  have ej : jf0.bad cs o n = l.any badF := by show (fsA cs o n).any badF = _; rw [fsAt_eq hl]
  have es : jf0.sum cs o n = sumF l := by show sumF (fsA cs o n) = _; rw [fsAt_eq hl]
  rw [ej, es]
  cases hbad : l.any badF with
  | true => exact LoopTo.pre (Weak.forget (by simp) mk17) (fun lg => by rw [hf]; exact (loop17 c e hn hl lg).1 hbad) lg
  | false => exact LoopTo.pre (Weak.forget (by simp) mk17) (fun lg => by rw [hf]; exact (loop17 c e hn hl lg).2 hbad) lg
theorem ln18_ok : LnOK Try.prog (ln18 jf0) := by
  intro n0 b fr H p x e hn hp lg
  unfold ln18 at e
  split at e <;> cases e
  rename_i cs o n c e h1
  obtain ⟨rfl, hb, hf, _, hn, l, hl⟩ := hp
  have hb : b = lp18 := hb
  subst hb
  have ej : jf0.bad cs o n = l.any badF := by show (fsA cs o n).any badF = _; rw [fsAt_eq hl]
  have es : jf0.sum cs o n = sumF l := by show sumF (fsA cs o n) = _; rw [fsAt_eq hl]
  rw [ej, es]
  cases hbad : l.any badF with
  | true => exact LoopTo.pre (Weak.forget (by simp) mk18) (fun lg => by rw [hf]; exact (loop18 c e hn hl lg).1 hbad) lg
  | false => exact LoopTo.pre (Weak.forget (by simp) mk18) (fun lg => by rw [hf]; exact (loop18 c e hn hl lg).2 hbad) lg

end
end Go.Proofs.Vm

namespace Go.Proofs.Vm
open Go.Vm Go.Fl
noncomputable section
-- SCORE
/-- What the larger functions come to (kept apart). -/
structure SG where
  ch : Int → Int → Int → Int → Int → Int → Int → Nat
  co : Int → Int → Nat → Nat
  jo : List AV → Nat → Nat → Nat
def sg0 : SG := ⟨chB, coB, fun cs o n => joF (fsA cs o n)⟩
def cnS2 (T : SG) : CnF := fun f vals H => match f, vals with
  | 27, [.agg [.int .i64 g, .int .i64 ga, .int .i64 b, .int .i64 ba], .int .i64 a, .int .i64 c, .int .i64 t] => some (c < 9223372036854775808, .ok (.flt .f64 (T.ch g ga b ba a c t)) H [])
  | 28, [.agg [.int .i64 g, .int .i64 ga, .int .i64 b, .int .i64 ba], .int .i64 a, .int .i64 c, .int .i64 t] => some (c < 9223372036854775808, .ok (.flt .f64 (T.ch g ga b ba a c t)) H [])
  | 14, [.int .i64 a, .int .i64 d, .flt .f64 x] => some (a < 9223372036854775808 ∧ d < 9223372036854775808 ∧ x < 18446744073709551616, .ok (.flt .f64 (T.co a d x)) H [])
  | 16, [.int .i64 a, .int .i64 d, .flt .f64 x] => some (a < 9223372036854775808 ∧ d < 9223372036854775808 ∧ x < 18446744073709551616, .ok (.flt .f64 (T.co a d x)) H [])
  | 17, [x] => match vw1 H x with
    | .ros cs o n _ _ => some (FOK cs o n, .ok (.flt .f64 (T.jo cs o n)) H [])
    | _ => none
  | 18, [x] => match vw1 H x with
    | .ros cs o n _ _ => some (FOK cs o n, .ok (.flt .f64 (T.jo cs o n)) H [])
    | _ => none
  | _, _ => none
def cnS3 (S : SF) (T : SG) : CnF := cnOr (cnS1 S) (cnS2 T)
def cnS4 (S : SF) (T : SG) : CnF := cnOr (cnS3 S T) fun f vals H => match f, vals with
  | 11, [] => some (True, .ok (.bool true) H [])
  | _, _ => none

theorem call17 {cs : List AV} {o n : Nat} (c : Nat) (e : Bool) (h : FOK cs o n) : CallTo Try.prog 17 [.ros cs o n c e] [] (.flt .f64 (joF (fsA cs o n))) [] [] := by
  refine call_0 (noCn_ok _) ln17_ok (tabOne_ok ok17) (tabOne_self 17 vf17) (n := 200) (g := kdYes) ?_ rfl
  rw [vc17]
  refine ⟨⟨rfl, rfl, rfl, h⟩, ?_⟩
  unfold joF
  refine Br.mk (fun hb => ?_) (fun hb => ?_)
  · have hb : (fsA cs o n).any badF = true := hb
    rw [if_pos hb, Inf_val]; exact ⟨rfl, rfl⟩
  · have hb : (fsA cs o n).any badF = false := hb
    rw [if_neg (by rw [hb]; simp)]; exact ⟨rfl, rfl⟩
theorem call18 {cs : List AV} {o n : Nat} (c : Nat) (e : Bool) (h : FOK cs o n) : CallTo Try.prog 18 [.ros cs o n c e] [] (.flt .f64 (joF (fsA cs o n))) [] [] := by
  refine call_0 (noCn_ok _) ln18_ok (tabOne_ok ok18) (tabOne_self 18 vf18) (n := 200) (g := kdYes) ?_ rfl
  rw [vc18]
  refine ⟨⟨rfl, rfl, rfl, h⟩, ?_⟩
  unfold joF
  refine Br.mk (fun hb => ?_) (fun hb => ?_)
  · have hb : (fsA cs o n).any badF = true := hb
    rw [if_pos hb, Inf_val]; exact ⟨rfl, rfl⟩
  · have hb : (fsA cs o n).any badF = false := hb
    rw [if_neg (by rw [hb]; simp)]; exact ⟨rfl, rfl⟩

theorem flat4 (a b c d : Int) : flatL [.int .i64 a, .int .i64 b, .int .i64 c, .int .i64 d] := by
  intro x hx
  simp only [List.mem_cons, List.not_mem_nil, or_false] at hx
  rcases hx with rfl | rfl | rfl | rfl <;> rfl
theorem cnS2_ok : CnOK Try.prog (cnS2 sg0) := by
  intro f vals H p x e hp
  unfold cnS2 at e
  split at e
  · cases e
    exact CallTo.lookV (H := H) (call27 _ _ _ _ _ _ _ hp) (.cons (Vw.agg H (Still.flat (flat4 _ _ _ _))) (.cons (Vw.int H _ _) (.cons (Vw.int H _ _) (.cons (Vw.int H _ _) .nil))))
  · cases e
    exact CallTo.lookV (H := H) (call28 _ _ _ _ _ _ _ hp) (.cons (Vw.agg H (Still.flat (flat4 _ _ _ _))) (.cons (Vw.int H _ _) (.cons (Vw.int H _ _) (.cons (Vw.int H _ _) .nil))))
  · cases e
    exact CallTo.lookV (H := H) (call14 _ _ hp.1 hp.2.1 hp.2.2) (.cons (Vw.int H _ _) (.cons (Vw.int H _ _) (.cons (Vw.flt H _ _) .nil)))
  · cases e
    exact CallTo.lookV (H := H) (call16 _ _ hp.1 hp.2.1 hp.2.2) (.cons (Vw.int H _ _) (.cons (Vw.int H _ _) (.cons (Vw.flt H _ _) .nil)))
  · split at e
    · rename_i cs o n c ex hv
      cases e
      exact CallTo.lookV (H := H) (call17 c ex hp) (.cons (Vw.one hv hp.1) .nil)
    · cases e
  · split at e
    · rename_i cs o n c ex hv
      cases e
      exact CallTo.lookV (H := H) (call18 c ex hp) (.cons (Vw.one hv hp.1) .nil)
    · cases e
  · cases e
theorem cnS3_ok : CnOK Try.prog (cnS3 sf0 sg0) := cnOr_ok cnS1_ok cnS2_ok

theorem vc11 (S : SF) (T : SG) (Q : AV → Hl → Prop) :
  (vcall (vcA kdYes (cnS3 S T) noLn) ops0 (tabM 11 vf11) 200 vf11 [] [] (endN (fun _ => 0) Q)) =
 ((((Int.ofNat 64) < (Int.ofNat 9223372036854775808)) ∧
 (Br (ops0.fcmp BinOp.eql FloatKind.f64 (SF.wt S (Int.ofNat 64)) 4602678819172646912)
 (((Int.ofNat 32) < (Int.ofNat 9223372036854775808)) ∧
 (Br (ops0.fcmp BinOp.eql FloatKind.f64 (SF.wt S (Int.ofNat 32)) 4604930618986332160)
 (((Int.ofNat 9) < (Int.ofNat 9223372036854775808)) ∧
 (Br (ops0.fcmp BinOp.eql FloatKind.f64 (SF.gu S (Int.ofNat 0) (Int.ofNat 9)) 4607182418800017408)
 ((((Int.ofNat 1) < (Int.ofNat 9223372036854775808)) ∧
 (((Int.ofNat 0) < (Int.ofNat 9223372036854775808)) ∧
 (0 < 18446744073709551616))) ∧
 (Br (ops0.fcmp BinOp.gtr FloatKind.f64 (SG.co T (Int.ofNat 1) (Int.ofNat 0) 0) 9218868437227405311)
 ((((Int.ofNat 1) < (Int.ofNat 9223372036854775808)) ∧
 (((Int.ofNat 2) < (Int.ofNat 9223372036854775808)) ∧
 (4602678819172646912 < 18446744073709551616))) ∧
 (Br (ops0.fcmp BinOp.eql FloatKind.f64 (SG.co T (Int.ofNat 1) (Int.ofNat 2) 4602678819172646912) 4641979762795872256)
 (True ∧
 (Br (ops0.fcmp BinOp.eql FloatKind.f64 (SF.cl S 9221120237041090561) 0)
 (Q (AV.bool Bool.true) [])
 (Q (AV.bool Bool.false) [])))
 (Q (AV.bool Bool.false) [])))
 (Q (AV.bool Bool.false) [])))
 (Q (AV.bool Bool.false) [])))
 (Q (AV.bool Bool.false) [])))
 (Q (AV.bool Bool.false) [])))) := by kernel_rfl

theorem half_cl : clB 4602678819172646912 = 4602678819172646912 := by
  have hk : (4602678819172646912 : Nat) ≤ Inf := by rw [Inf_val]; decide
  have hkey : key 4602678819172646912 = 4602678819172646912 := key_small hk
  unfold clB
  rw [(small hk).1, hkey, if_neg (by omega), if_neg (by omega), if_neg (by decide)]
theorem zero_cl : clB 0 = 0 := by
  unfold clB
  rw [Nat.zero_mod, k0, if_neg (by omega), if_pos (by omega)]
theorem nan_cl : clB 9221120237041090561 = 0 := by
  unfold clB
  rw [if_pos]
  rw [Inf_val, Wt_val]
  decide
theorem gu09 : guB 0 9 = oneB := by
  unfold guB
  rw [if_neg (by decide), if_neg (by decide)]
  have h2 : fadd (fint (9 : Int).toNat) oneB < Inf := by
    have := fadd_fin (n := (9 : Int).toNat) (by decide)
    rw [Inf_val]; omega
  have h4 : 0 < fadd (fint (9 : Int).toNat) oneB := by
    have := fadd_ge' (x := fint (9 : Int).toNat) (y := oneB) (Nat.le_of_lt inf_big)
    have : 0 < oneB := by decide
    omega
  have h0 : fint (0 : Int).toNat = 0 := by
    have h : ops0.i2f .f64 (Int.ofNat 0) = 0 := by decide +kernel
    rw [o_int] at h
    exact h
  have h5 : ∀ x, x ≤ Inf → fsub x 0 = x := fun x hx => by
    unfold fsub
    rw [val_zero, Nat.sub_zero, nearQ_val hx]
  rw [h0, h5 _ (Nat.le_of_lt h2), fdiv_self (Nat.le_of_lt h2) h4]
theorem co221 : coB 1 2 4602678819172646912 = 4641979762795872256 := by
  unfold coB
  rw [half_cl, if_neg (by decide), if_neg (by decide), if_neg (by decide)]
  have a1 : fint (1 : Int).toNat = 4607182418800017408 := by
    have h : ops0.i2f .f64 (Int.ofNat 1) = 4607182418800017408 := by decide +kernel
    rw [o_int] at h
    exact h
  have a2 : fint (2 : Int).toNat = 4611686018427387904 := by
    have h : ops0.i2f .f64 (Int.ofNat 2) = 4611686018427387904 := by decide +kernel
    rw [o_int] at h
    exact h
  have a3 : fmul 4611686018427387904 4621819117588971520 = 4626322717216342016 := by
    have h : ops0.fbin .mul .f64 4611686018427387904 4621819117588971520 = some 4626322717216342016 := by decide +kernel
    rw [o_mul (by rw [Inf_val]; decide) (by rw [Inf_val]; decide)] at h
    exact Option.some.inj h
  have a4 : fadd 4607182418800017408 4626322717216342016 = 4626604192193052672 := by
    have h : ops0.fbin .add .f64 4607182418800017408 4626322717216342016 = some 4626604192193052672 := by decide +kernel
    rw [o_add (by rw [Inf_val]; decide) (by rw [Inf_val]; decide)] at h
    exact Option.some.inj h
  have a5 : fdiv 4636737291354636288 4602678819172646912 = 4641240890982006784 := by
    have h : ops0.fbin .quo .f64 4636737291354636288 4602678819172646912 = some 4641240890982006784 := by decide +kernel
    rw [o_div (by rw [Inf_val]; decide) (by rw [Inf_val]; decide) (by decide)] at h
    exact Option.some.inj h
  have a6 : fadd 4626604192193052672 4641240890982006784 = 4641979762795872256 := by
    have h : ops0.fbin .add .f64 4626604192193052672 4641240890982006784 = some 4641979762795872256 := by decide +kernel
    rw [o_add (by rw [Inf_val]; decide) (by rw [Inf_val]; decide)] at h
    exact Option.some.inj h
  rw [a1, a2, a3, a4, a5, a6]
theorem co_inf : coB 1 0 0 = 9218868437227405312 := by
  unfold coB
  rw [zero_cl, if_neg (by decide), if_neg (by decide), if_pos rfl, Inf_val]

theorem eqlF {x y : Nat} (hx : x ≤ Inf) (h : x = y) : ops0.fcmp .eql .f64 x y = true := by
  subst h
  rw [fcmp_small rfl hx hx, nEql]
  exact decide_eq_true rfl
theorem call11 : CallTo Try.prog 11 [] [] (.bool true) [] [] := by
  refine call_0 cnS3_ok (noLn_ok _) (tabM_ok ok11) (tabM_self 11 vf11) (n := 200) (g := kdYes) ?_ rfl
  rw [vc11]
  refine ⟨by decide, Br.t (eqlF (Nat.le_trans (wt_le 64) (Nat.le_of_lt inf_big)) (by decide)) ⟨by decide, Br.t (eqlF (Nat.le_trans (wt_le 32) (Nat.le_of_lt inf_big)) (by decide)) ⟨by decide, Br.t (eqlF (show guB 0 9 ≤ Inf by rw [gu09]; exact Nat.le_of_lt inf_big) gu09)
    ⟨⟨by decide, by decide, by decide⟩, Br.t ?_ ⟨⟨by decide, by decide, by decide⟩, Br.t (eqlF ?_ co221) ⟨trivial, Br.t (eqlF ?_ nan_cl) ⟨rfl, rfl⟩⟩⟩⟩⟩⟩⟩
  · show ops0.fcmp .gtr .f64 (coB 1 0 0) 9218868437227405311 = true
    rw [co_inf, fcmp_small rfl (by rw [Inf_val]; exact Nat.le_refl _) max_inf, nGtr]
    decide
  · show coB 1 2 4602678819172646912 ≤ Inf
    rw [co221, Inf_val]; decide
  · show clB 9221120237041090561 ≤ Inf
    rw [nan_cl]; exact Nat.zero_le _
theorem cnS4_ok : CnOK Try.prog (cnS4 sf0 sg0) := by
  refine cnOr_ok cnS3_ok ?_
  intro f vals H p x e hp
  dsimp only at e
  split at e <;> cases e
  exact CallTo.lookV (H := H) call11 .nil

end
end Go.Proofs.Vm

namespace Go.Proofs.Vm
open Go.Vm Go.Fl
noncomputable section
-- SCORE
/-- Below? -/
def lessB (a b : Nat) : Bool := if Inf < a % Wt then false else if Inf < b % Wt then true else decide (key a < key b)
def cnS5 (S : SF) (T : SG) (L : Nat → Nat → Bool) : CnF := cnOr (cnS4 S T) fun f vals H => match f, vals with
  | 12, [.flt .f64 a, .flt .f64 b] => some (True, .cond (L a b) (.ok (.bool true) H []) (.ok (.bool false) H []))
  | 19, [.flt .f64 a, .flt .f64 b] => some (True, .cond (L a b) (.ok (.bool true) H []) (.ok (.bool false) H []))
  | _, _ => none
def tabN (k : Nat) (vf : VF) (f : Nat) : Option VF := match Nat.beq f k with
  | true => some vf
  | false => match f with
    | 15 => some vf15
    | 29 => some vf29
    | _ => none
theorem tabN_ok {k : Nat} {vf : VF} (h : FnOK Try.prog k vf) : ∀ f v, tabN k vf f = some v → FnOK Try.prog f v := by
  intro f v e
  unfold tabN at e
  split at e
  · rename_i hb
    have := Nat.eq_of_beq_eq_true hb
    subst this
    cases e
    exact h
  · split at e <;> cases e
    · exact ok15
    · exact ok29
theorem tabN_self (k : Nat) (vf : VF) : tabN k vf k = some vf := by unfold tabN; rw [Nat.beq_refl]

theorem vc12 (a b : Nat) (Q : AV → Hl → Prop) :
  (vcall (vcA kdYes noCn noLn) ops0 (tabM 12 vf12) 200 vf12 [.flt .f64 a, .flt .f64 b] [] (endN (fun _ => 0) Q)) =
 ((Br (ops0.fcmp BinOp.neq FloatKind.f64 a a)
 (Q (AV.bool Bool.false) [])
 (Br (ops0.fcmp BinOp.neq FloatKind.f64 b b)
 (Q (AV.bool Bool.true) [])
 (Br (ops0.fcmp BinOp.lss FloatKind.f64 a b)
 (Q (AV.bool Bool.true) [])
 (Q (AV.bool Bool.false) []))))) := by kernel_rfl

theorem vc19 (a b : Nat) (Q : AV → Hl → Prop) :
  (vcall (vcA kdYes noCn noLn) ops0 (tabM 19 vf19) 200 vf19 [.flt .f64 a, .flt .f64 b] [] (endN (fun _ => 0) Q)) =
 ((Br (ops0.fcmp BinOp.neq FloatKind.f64 a a)
 (Q (AV.bool Bool.false) [])
 (Br (ops0.fcmp BinOp.neq FloatKind.f64 b b)
 (Q (AV.bool Bool.true) [])
 (Br (ops0.fcmp BinOp.lss FloatKind.f64 a b)
 (Q (AV.bool Bool.true) [])
 (Q (AV.bool Bool.false) []))))) := by kernel_rfl

theorem vc3 (S : SF) (T : SG) (L : Nat → Nat → Bool) (a b c : Nat) (Q : AV → Prop) :
  (vcall (vcA kdYes (cnS5 S T L) noLn) ops0 (tabN 3 vf3) 200 vf3 [.flt .f64 a, .flt .f64 b, .flt .f64 c] [] (fun r _ _ => Q r)) =
 ((True ∧
 (True ∧
 (Br (L a a)
 (Q (AV.bool Bool.false))
 (True ∧
 (Br (L a b)
 (True ∧
 (Br (L b a)
 (Q (AV.bool Bool.false))
 (True ∧
 (Br (L a b)
 (True ∧
 (Br (L b c)
 (True ∧
 (Br (L a c)
 (True ∧
 (Br (L a b)
 (Q (AV.bool Bool.true))
 (True ∧
 (Br (L b a)
 (Q (AV.bool Bool.true))
 (True ∧
 (Br (L a c)
 (True ∧
 (Br (L b c)
 (True ∧
 (Br (L c a)
 (True ∧
 (Br (L c b)
 (Q (AV.bool Bool.true))
 (Q (AV.bool Bool.false))))
 (True ∧
 (Br (L c b)
 (Q (AV.bool Bool.false))
 (Q (AV.bool Bool.true))))))
 (Q (AV.bool Bool.false))))
 (True ∧
 (Br (L b c)
 (Q (AV.bool Bool.false))
 (True ∧
 (Br (L c a)
 (True ∧
 (Br (L c b)
 (Q (AV.bool Bool.true))
 (Q (AV.bool Bool.false))))
 (True ∧
 (Br (L c b)
 (Q (AV.bool Bool.false))
 (Q (AV.bool Bool.true))))))))))))))
 (Q (AV.bool Bool.false))))
 (True ∧
 (Br (L a b)
 (Q (AV.bool Bool.true))
 (True ∧
 (Br (L b a)
 (Q (AV.bool Bool.true))
 (True ∧
 (Br (L a c)
 (True ∧
 (Br (L b c)
 (True ∧
 (Br (L c a)
 (True ∧
 (Br (L c b)
 (Q (AV.bool Bool.true))
 (Q (AV.bool Bool.false))))
 (True ∧
 (Br (L c b)
 (Q (AV.bool Bool.false))
 (Q (AV.bool Bool.true))))))
 (Q (AV.bool Bool.false))))
 (True ∧
 (Br (L b c)
 (Q (AV.bool Bool.false))
 (True ∧
 (Br (L c a)
 (True ∧
 (Br (L c b)
 (Q (AV.bool Bool.true))
 (Q (AV.bool Bool.false))))
 (True ∧
 (Br (L c b)
 (Q (AV.bool Bool.false))
 (Q (AV.bool Bool.true))))))))))))))))
 (True ∧
 (Br (L a b)
 (Q (AV.bool Bool.true))
 (True ∧
 (Br (L b a)
 (Q (AV.bool Bool.true))
 (True ∧
 (Br (L a c)
 (True ∧
 (Br (L b c)
 (True ∧
 (Br (L c a)
 (True ∧
 (Br (L c b)
 (Q (AV.bool Bool.true))
 (Q (AV.bool Bool.false))))
 (True ∧
 (Br (L c b)
 (Q (AV.bool Bool.false))
 (Q (AV.bool Bool.true))))))
 (Q (AV.bool Bool.false))))
 (True ∧
 (Br (L b c)
 (Q (AV.bool Bool.false))
 (True ∧
 (Br (L c a)
 (True ∧
 (Br (L c b)
 (Q (AV.bool Bool.true))
 (Q (AV.bool Bool.false))))
 (True ∧
 (Br (L c b)
 (Q (AV.bool Bool.false))
 (Q (AV.bool Bool.true))))))))))))))))))
 (True ∧
 (Br (L a b)
 (True ∧
 (Br (L b c)
 (True ∧
 (Br (L a c)
 (True ∧
 (Br (L a b)
 (Q (AV.bool Bool.true))
 (True ∧
 (Br (L b a)
 (Q (AV.bool Bool.true))
 (True ∧
 (Br (L a c)
 (True ∧
 (Br (L b c)
 (True ∧
 (Br (L c a)
 (True ∧
 (Br (L c b)
 (Q (AV.bool Bool.true))
 (Q (AV.bool Bool.false))))
 (True ∧
 (Br (L c b)
 (Q (AV.bool Bool.false))
 (Q (AV.bool Bool.true))))))
 (Q (AV.bool Bool.false))))
 (True ∧
 (Br (L b c)
 (Q (AV.bool Bool.false))
 (True ∧
 (Br (L c a)
 (True ∧
 (Br (L c b)
 (Q (AV.bool Bool.true))
 (Q (AV.bool Bool.false))))
 (True ∧
 (Br (L c b)
 (Q (AV.bool Bool.false))
 (Q (AV.bool Bool.true))))))))))))))
 (Q (AV.bool Bool.false))))
 (True ∧
 (Br (L a b)
 (Q (AV.bool Bool.true))
 (True ∧
 (Br (L b a)
 (Q (AV.bool Bool.true))
 (True ∧
 (Br (L a c)
 (True ∧
 (Br (L b c)
 (True ∧
 (Br (L c a)
 (True ∧
 (Br (L c b)
 (Q (AV.bool Bool.true))
 (Q (AV.bool Bool.false))))
 (True ∧
 (Br (L c b)
 (Q (AV.bool Bool.false))
 (Q (AV.bool Bool.true))))))
 (Q (AV.bool Bool.false))))
 (True ∧
 (Br (L b c)
 (Q (AV.bool Bool.false))
 (True ∧
 (Br (L c a)
 (True ∧
 (Br (L c b)
 (Q (AV.bool Bool.true))
 (Q (AV.bool Bool.false))))
 (True ∧
 (Br (L c b)
 (Q (AV.bool Bool.false))
 (Q (AV.bool Bool.true))))))))))))))))
 (True ∧
 (Br (L a b)
 (Q (AV.bool Bool.true))
 (True ∧
 (Br (L b a)
 (Q (AV.bool Bool.true))
 (True ∧
 (Br (L a c)
 (True ∧
 (Br (L b c)
 (True ∧
 (Br (L c a)
 (True ∧
 (Br (L c b)
 (Q (AV.bool Bool.true))
 (Q (AV.bool Bool.false))))
 (True ∧
 (Br (L c b)
 (Q (AV.bool Bool.false))
 (Q (AV.bool Bool.true))))))
 (Q (AV.bool Bool.false))))
 (True ∧
 (Br (L b c)
 (Q (AV.bool Bool.false))
 (True ∧
 (Br (L c a)
 (True ∧
 (Br (L c b)
 (Q (AV.bool Bool.true))
 (Q (AV.bool Bool.false))))
 (True ∧
 (Br (L c b)
 (Q (AV.bool Bool.false))
 (Q (AV.bool Bool.true)))))))))))))))))))))) := by kernel_rfl

theorem vc4 (S : SF) (T : SG) (L : Nat → Nat → Bool) (a b : Int) (Q : AV → Prop) :
  (vcall (vcA kdYes (cnS5 S T L) noLn) ops0 (tabN 4 vf4) 200 vf4 [.int .i64 a, .int .i64 b] [] (fun r _ _ => Q r)) =
 ((Br (ops0.cmp BinOp.gtr a b)
 ((b < (Int.ofNat 9223372036854775808)) ∧
 ((a < (Int.ofNat 9223372036854775808)) ∧
 (True ∧
 (Br (ops0.fcmp BinOp.geq FloatKind.f64 (SF.wt S b) (SF.wt S a))
 (Br (ops0.fcmp BinOp.leq FloatKind.f64 (SF.wt S b) 4607182418800017408)
 (Br (ops0.fcmp BinOp.geq FloatKind.f64 (SF.wt S a) 0)
 (Q (AV.bool Bool.true))
 (Q (AV.bool Bool.false)))
 (Q (AV.bool Bool.false)))
 (Q (AV.bool Bool.false))))))
 ((a < (Int.ofNat 9223372036854775808)) ∧
 ((b < (Int.ofNat 9223372036854775808)) ∧
 (True ∧
 (Br (ops0.fcmp BinOp.geq FloatKind.f64 (SF.wt S a) (SF.wt S b))
 (Br (ops0.fcmp BinOp.leq FloatKind.f64 (SF.wt S a) 4607182418800017408)
 (Br (ops0.fcmp BinOp.geq FloatKind.f64 (SF.wt S b) 0)
 (Q (AV.bool Bool.true))
 (Q (AV.bool Bool.false)))
 (Q (AV.bool Bool.false)))
 (Q (AV.bool Bool.false)))))))) := by kernel_rfl

theorem vc5 (S : SF) (T : SG) (L : Nat → Nat → Bool) (f m d : Int) (p q : Nat) (Q : AV → Prop) :
  (vcall (vcA kdYes (cnS5 S T L) noLn) ops0 (tabN 5 vf5) 200 vf5 [.int .i64 f, .int .i64 m, .int .i64 d, .flt .f64 p, .flt .f64 q] [] (fun r _ _ => Q r)) =
 ((Br (ops0.fcmp BinOp.leq FloatKind.f64 p q)
 (True ∧
 (Br (ops0.cmp BinOp.lss f (Int.ofNat 0))
 (True ∧
 (Q (AV.bool Bool.true)))
 (Br (ops0.cmp BinOp.lss m f)
 (True ∧
 (Q (AV.bool Bool.true)))
 (Br (ops0.cmp BinOp.lss d (Int.ofNat 0))
 (True ∧
 (Q (AV.bool Bool.true)))
 (Br (ops0.fcmp BinOp.leq FloatKind.f64 p q)
 (((f < (Int.ofNat 9223372036854775808)) ∧
 ((d < (Int.ofNat 9223372036854775808)) ∧
 (p < 18446744073709551616))) ∧
 (((f < (Int.ofNat 9223372036854775808)) ∧
 ((d < (Int.ofNat 9223372036854775808)) ∧
 (q < 18446744073709551616))) ∧
 (True ∧
 (Br (L (SG.co T f d p) (SG.co T f d q))
 (Q (AV.bool Bool.false))
 (((m < (Int.ofNat 9223372036854775808)) ∧
 ((d < (Int.ofNat 9223372036854775808)) ∧
 (p < 18446744073709551616))) ∧
 (((f < (Int.ofNat 9223372036854775808)) ∧
 ((d < (Int.ofNat 9223372036854775808)) ∧
 (p < 18446744073709551616))) ∧
 (True ∧
 (Br (L (SG.co T m d p) (SG.co T f d p))
 (Q (AV.bool Bool.false))
 (Q (AV.bool Bool.true))))))))))
 (True ∧
 (Q (AV.bool Bool.true))))))))
 (True ∧
 (Br (ops0.cmp BinOp.lss f (Int.ofNat 0))
 (True ∧
 (Q (AV.bool Bool.true)))
 (Br (ops0.cmp BinOp.lss m f)
 (True ∧
 (Q (AV.bool Bool.true)))
 (Br (ops0.cmp BinOp.lss d (Int.ofNat 0))
 (True ∧
 (Q (AV.bool Bool.true)))
 (Br (ops0.fcmp BinOp.leq FloatKind.f64 q p)
 (((f < (Int.ofNat 9223372036854775808)) ∧
 ((d < (Int.ofNat 9223372036854775808)) ∧
 (q < 18446744073709551616))) ∧
 (((f < (Int.ofNat 9223372036854775808)) ∧
 ((d < (Int.ofNat 9223372036854775808)) ∧
 (p < 18446744073709551616))) ∧
 (True ∧
 (Br (L (SG.co T f d q) (SG.co T f d p))
 (Q (AV.bool Bool.false))
 (((m < (Int.ofNat 9223372036854775808)) ∧
 ((d < (Int.ofNat 9223372036854775808)) ∧
 (q < 18446744073709551616))) ∧
 (((f < (Int.ofNat 9223372036854775808)) ∧
 ((d < (Int.ofNat 9223372036854775808)) ∧
 (q < 18446744073709551616))) ∧
 (True ∧
 (Br (L (SG.co T m d q) (SG.co T f d q))
 (Q (AV.bool Bool.false))
 (Q (AV.bool Bool.true))))))))))
 (True ∧
 (Q (AV.bool Bool.true)))))))))) := by kernel_rfl

theorem vc9 (S : SF) (T : SG) (L : Nat → Nat → Bool) (g ga b ba a c t : Int) (x : Nat) (Q : AV → Prop) :
  (vcall (vcA kdNo (cnS5 S T L) noLn) ops0 (tabN 9 vf9) 200 vf9 [.agg [.int .i64 g, .int .i64 ga, .int .i64 b, .int .i64 ba], .int .i64 a, .int .i64 c, .int .i64 t, .flt .f64 x] [] (fun r _ _ => Q r)) =
 ((True ∧
 (True ∧
 (True ∧
 (Br (ops0.cmp BinOp.eql (ops0.ofn (SF.cl S x)) (ops0.ofn (SF.cl S x)))
 ((t < (Int.ofNat 9223372036854775808)) ∧
 ((t < (Int.ofNat 9223372036854775808)) ∧
 (Br (ops0.cmp BinOp.eql (ops0.ofn (SF.wt S t)) (ops0.ofn (SF.wt S t)))
 ((c < (Int.ofNat 9223372036854775808)) ∧
 ((c < (Int.ofNat 9223372036854775808)) ∧
 (Br (ops0.cmp BinOp.eql (ops0.ofn (SF.gu S a c)) (ops0.ofn (SF.gu S a c)))
 ((c < (Int.ofNat 9223372036854775808)) ∧
 ((c < (Int.ofNat 9223372036854775808)) ∧
 (Br (ops0.cmp BinOp.eql (ops0.ofn (SG.ch T g ga b ba a c t)) (ops0.ofn (SG.ch T g ga b ba a c t)))
 (Q (AV.bool Bool.true))
 (Br (ops0.fcmp BinOp.neq FloatKind.f64 (SG.ch T g ga b ba a c t) (SG.ch T g ga b ba a c t))
 (Br (ops0.fcmp BinOp.neq FloatKind.f64 (SG.ch T g ga b ba a c t) (SG.ch T g ga b ba a c t))
 (Q (AV.bool Bool.true))
 (Q (AV.bool Bool.false)))
 (Q (AV.bool Bool.false))))))
 (Br (ops0.fcmp BinOp.neq FloatKind.f64 (SF.gu S a c) (SF.gu S a c))
 (Br (ops0.fcmp BinOp.neq FloatKind.f64 (SF.gu S a c) (SF.gu S a c))
 ((c < (Int.ofNat 9223372036854775808)) ∧
 ((c < (Int.ofNat 9223372036854775808)) ∧
 (Br (ops0.cmp BinOp.eql (ops0.ofn (SG.ch T g ga b ba a c t)) (ops0.ofn (SG.ch T g ga b ba a c t)))
 (Q (AV.bool Bool.true))
 (Br (ops0.fcmp BinOp.neq FloatKind.f64 (SG.ch T g ga b ba a c t) (SG.ch T g ga b ba a c t))
 (Br (ops0.fcmp BinOp.neq FloatKind.f64 (SG.ch T g ga b ba a c t) (SG.ch T g ga b ba a c t))
 (Q (AV.bool Bool.true))
 (Q (AV.bool Bool.false)))
 (Q (AV.bool Bool.false))))))
 (Q (AV.bool Bool.false)))
 (Q (AV.bool Bool.false))))))
 (Br (ops0.fcmp BinOp.neq FloatKind.f64 (SF.wt S t) (SF.wt S t))
 (Br (ops0.fcmp BinOp.neq FloatKind.f64 (SF.wt S t) (SF.wt S t))
 ((c < (Int.ofNat 9223372036854775808)) ∧
 ((c < (Int.ofNat 9223372036854775808)) ∧
 (Br (ops0.cmp BinOp.eql (ops0.ofn (SF.gu S a c)) (ops0.ofn (SF.gu S a c)))
 ((c < (Int.ofNat 9223372036854775808)) ∧
 ((c < (Int.ofNat 9223372036854775808)) ∧
 (Br (ops0.cmp BinOp.eql (ops0.ofn (SG.ch T g ga b ba a c t)) (ops0.ofn (SG.ch T g ga b ba a c t)))
 (Q (AV.bool Bool.true))
 (Br (ops0.fcmp BinOp.neq FloatKind.f64 (SG.ch T g ga b ba a c t) (SG.ch T g ga b ba a c t))
 (Br (ops0.fcmp BinOp.neq FloatKind.f64 (SG.ch T g ga b ba a c t) (SG.ch T g ga b ba a c t))
 (Q (AV.bool Bool.true))
 (Q (AV.bool Bool.false)))
 (Q (AV.bool Bool.false))))))
 (Br (ops0.fcmp BinOp.neq FloatKind.f64 (SF.gu S a c) (SF.gu S a c))
 (Br (ops0.fcmp BinOp.neq FloatKind.f64 (SF.gu S a c) (SF.gu S a c))
 ((c < (Int.ofNat 9223372036854775808)) ∧
 ((c < (Int.ofNat 9223372036854775808)) ∧
 (Br (ops0.cmp BinOp.eql (ops0.ofn (SG.ch T g ga b ba a c t)) (ops0.ofn (SG.ch T g ga b ba a c t)))
 (Q (AV.bool Bool.true))
 (Br (ops0.fcmp BinOp.neq FloatKind.f64 (SG.ch T g ga b ba a c t) (SG.ch T g ga b ba a c t))
 (Br (ops0.fcmp BinOp.neq FloatKind.f64 (SG.ch T g ga b ba a c t) (SG.ch T g ga b ba a c t))
 (Q (AV.bool Bool.true))
 (Q (AV.bool Bool.false)))
 (Q (AV.bool Bool.false))))))
 (Q (AV.bool Bool.false)))
 (Q (AV.bool Bool.false))))))
 (Q (AV.bool Bool.false)))
 (Q (AV.bool Bool.false))))))
 (Br (ops0.fcmp BinOp.neq FloatKind.f64 (SF.cl S x) (SF.cl S x))
 (Br (ops0.fcmp BinOp.neq FloatKind.f64 (SF.cl S x) (SF.cl S x))
 ((t < (Int.ofNat 9223372036854775808)) ∧
 ((t < (Int.ofNat 9223372036854775808)) ∧
 (Br (ops0.cmp BinOp.eql (ops0.ofn (SF.wt S t)) (ops0.ofn (SF.wt S t)))
 ((c < (Int.ofNat 9223372036854775808)) ∧
 ((c < (Int.ofNat 9223372036854775808)) ∧
 (Br (ops0.cmp BinOp.eql (ops0.ofn (SF.gu S a c)) (ops0.ofn (SF.gu S a c)))
 ((c < (Int.ofNat 9223372036854775808)) ∧
 ((c < (Int.ofNat 9223372036854775808)) ∧
 (Br (ops0.cmp BinOp.eql (ops0.ofn (SG.ch T g ga b ba a c t)) (ops0.ofn (SG.ch T g ga b ba a c t)))
 (Q (AV.bool Bool.true))
 (Br (ops0.fcmp BinOp.neq FloatKind.f64 (SG.ch T g ga b ba a c t) (SG.ch T g ga b ba a c t))
 (Br (ops0.fcmp BinOp.neq FloatKind.f64 (SG.ch T g ga b ba a c t) (SG.ch T g ga b ba a c t))
 (Q (AV.bool Bool.true))
 (Q (AV.bool Bool.false)))
 (Q (AV.bool Bool.false))))))
 (Br (ops0.fcmp BinOp.neq FloatKind.f64 (SF.gu S a c) (SF.gu S a c))
 (Br (ops0.fcmp BinOp.neq FloatKind.f64 (SF.gu S a c) (SF.gu S a c))
 ((c < (Int.ofNat 9223372036854775808)) ∧
 ((c < (Int.ofNat 9223372036854775808)) ∧
 (Br (ops0.cmp BinOp.eql (ops0.ofn (SG.ch T g ga b ba a c t)) (ops0.ofn (SG.ch T g ga b ba a c t)))
 (Q (AV.bool Bool.true))
 (Br (ops0.fcmp BinOp.neq FloatKind.f64 (SG.ch T g ga b ba a c t) (SG.ch T g ga b ba a c t))
 (Br (ops0.fcmp BinOp.neq FloatKind.f64 (SG.ch T g ga b ba a c t) (SG.ch T g ga b ba a c t))
 (Q (AV.bool Bool.true))
 (Q (AV.bool Bool.false)))
 (Q (AV.bool Bool.false))))))
 (Q (AV.bool Bool.false)))
 (Q (AV.bool Bool.false))))))
 (Br (ops0.fcmp BinOp.neq FloatKind.f64 (SF.wt S t) (SF.wt S t))
 (Br (ops0.fcmp BinOp.neq FloatKind.f64 (SF.wt S t) (SF.wt S t))
 ((c < (Int.ofNat 9223372036854775808)) ∧
 ((c < (Int.ofNat 9223372036854775808)) ∧
 (Br (ops0.cmp BinOp.eql (ops0.ofn (SF.gu S a c)) (ops0.ofn (SF.gu S a c)))
 ((c < (Int.ofNat 9223372036854775808)) ∧
 ((c < (Int.ofNat 9223372036854775808)) ∧
 (Br (ops0.cmp BinOp.eql (ops0.ofn (SG.ch T g ga b ba a c t)) (ops0.ofn (SG.ch T g ga b ba a c t)))
 (Q (AV.bool Bool.true))
 (Br (ops0.fcmp BinOp.neq FloatKind.f64 (SG.ch T g ga b ba a c t) (SG.ch T g ga b ba a c t))
 (Br (ops0.fcmp BinOp.neq FloatKind.f64 (SG.ch T g ga b ba a c t) (SG.ch T g ga b ba a c t))
 (Q (AV.bool Bool.true))
 (Q (AV.bool Bool.false)))
 (Q (AV.bool Bool.false))))))
 (Br (ops0.fcmp BinOp.neq FloatKind.f64 (SF.gu S a c) (SF.gu S a c))
 (Br (ops0.fcmp BinOp.neq FloatKind.f64 (SF.gu S a c) (SF.gu S a c))
 ((c < (Int.ofNat 9223372036854775808)) ∧
 ((c < (Int.ofNat 9223372036854775808)) ∧
 (Br (ops0.cmp BinOp.eql (ops0.ofn (SG.ch T g ga b ba a c t)) (ops0.ofn (SG.ch T g ga b ba a c t)))
 (Q (AV.bool Bool.true))
 (Br (ops0.fcmp BinOp.neq FloatKind.f64 (SG.ch T g ga b ba a c t) (SG.ch T g ga b ba a c t))
 (Br (ops0.fcmp BinOp.neq FloatKind.f64 (SG.ch T g ga b ba a c t) (SG.ch T g ga b ba a c t))
 (Q (AV.bool Bool.true))
 (Q (AV.bool Bool.false)))
 (Q (AV.bool Bool.false))))))
 (Q (AV.bool Bool.false)))
 (Q (AV.bool Bool.false))))))
 (Q (AV.bool Bool.false)))
 (Q (AV.bool Bool.false))))))
 (Q (AV.bool Bool.false)))
 (Q (AV.bool Bool.false)))))))) := by kernel_rfl

theorem vc10 (S : SF) (T : SG) (L : Nat → Nat → Bool) (g ga b ba a m c t : Int) (Q : AV → Prop) :
  (vcall (vcA kdNo (cnS5 S T L) noLn) ops0 (tabN 10 vf10) 200 vf10 [.agg [.int .i64 g, .int .i64 ga, .int .i64 b, .int .i64 ba], .int .i64 a, .int .i64 m, .int .i64 c, .int .i64 t] [] (fun r _ _ => Q r)) =
 (((c < (Int.ofNat 9223372036854775808)) ∧
 (True ∧
 (Br (ops0.fcmp BinOp.geq FloatKind.f64 (SG.ch T g ga b ba a c t) 0)
 (Br (ops0.fcmp BinOp.leq FloatKind.f64 (SG.ch T g ga b ba a c t) 4607182418800017408)
 (Br (ops0.cmp BinOp.lss (ops0.cvt IntKind.i64 (ops0.ofn (SG.ch T g ga b ba a c t))) (Int.ofNat 0))
 (Q (AV.bool Bool.false))
 (Br (ops0.cmp BinOp.lss m a)
 (Br (ops0.cmp BinOp.lss m (Int.ofNat 0))
 (Q (AV.bool Bool.true))
 ((c < (Int.ofNat 9223372036854775808)) ∧
 ((c < (Int.ofNat 9223372036854775808)) ∧
 (Br (ops0.fcmp BinOp.leq FloatKind.f64 (SG.ch T (Int.ofNat 0) (Int.ofNat 0) (Int.ofNat 0) (Int.ofNat 0) a c t) (SG.ch T (Int.ofNat 0) (Int.ofNat 0) (Int.ofNat 0) (Int.ofNat 0) m c t))
 (Q (AV.bool Bool.true))
 (Q (AV.bool Bool.false))))))
 (Br (ops0.cmp BinOp.lss a (Int.ofNat 0))
 (Q (AV.bool Bool.true))
 ((c < (Int.ofNat 9223372036854775808)) ∧
 ((c < (Int.ofNat 9223372036854775808)) ∧
 (Br (ops0.fcmp BinOp.leq FloatKind.f64 (SG.ch T (Int.ofNat 0) (Int.ofNat 0) (Int.ofNat 0) (Int.ofNat 0) m c t) (SG.ch T (Int.ofNat 0) (Int.ofNat 0) (Int.ofNat 0) (Int.ofNat 0) a c t))
 (Q (AV.bool Bool.true))
 (Q (AV.bool Bool.false))))))))
 (Q (AV.bool Bool.false)))
 (Q (AV.bool Bool.false)))))) := by kernel_rfl

theorem call12 (a b : Nat) : CallTo Try.prog 12 [.flt .f64 a, .flt .f64 b] [] (.bool (lessB a b)) [] [] := by
  refine call_0 (noCn_ok _) (noLn_ok _) (tabM_ok ok12) (tabM_self 12 vf12) (n := 200) (g := kdYes) ?_ rfl
  rw [vc12]
  unfold lessB
  by_cases ha : Inf < a % Wt
  · rw [if_pos ha]; exact Br.t (fcmp_nan rfl (Or.inl ha)) ⟨rfl, rfl⟩
  · rw [if_neg ha]
    have ha' : a % Wt ≤ Inf := by omega
    refine Br.f (by rw [fcmp_key rfl ha' ha', iNeq]; exact decide_eq_false (by simp)) ?_
    by_cases hb : Inf < b % Wt
    · rw [if_pos hb]; exact Br.t (fcmp_nan rfl (Or.inl hb)) ⟨rfl, rfl⟩
    · rw [if_neg hb]
      have hb' : b % Wt ≤ Inf := by omega
      refine Br.f (by rw [fcmp_key rfl hb' hb', iNeq]; exact decide_eq_false (by simp)) ?_
      rw [fcmp_key rfl ha' hb', iLss]
      exact Br.mk (fun h => by rw [h]; exact ⟨rfl, rfl⟩) (fun h => by rw [h]; exact ⟨rfl, rfl⟩)
theorem call19 (a b : Nat) : CallTo Try.prog 19 [.flt .f64 a, .flt .f64 b] [] (.bool (lessB a b)) [] [] := by
  refine call_0 (noCn_ok _) (noLn_ok _) (tabM_ok ok19) (tabM_self 19 vf19) (n := 200) (g := kdYes) ?_ rfl
  rw [vc19]
  unfold lessB
  by_cases ha : Inf < a % Wt
  · rw [if_pos ha]; exact Br.t (fcmp_nan rfl (Or.inl ha)) ⟨rfl, rfl⟩
  · rw [if_neg ha]
    have ha' : a % Wt ≤ Inf := by omega
    refine Br.f (by rw [fcmp_key rfl ha' ha', iNeq]; exact decide_eq_false (by simp)) ?_
    by_cases hb : Inf < b % Wt
    · rw [if_pos hb]; exact Br.t (fcmp_nan rfl (Or.inl hb)) ⟨rfl, rfl⟩
    · rw [if_neg hb]
      have hb' : b % Wt ≤ Inf := by omega
      refine Br.f (by rw [fcmp_key rfl hb' hb', iNeq]; exact decide_eq_false (by simp)) ?_
      rw [fcmp_key rfl ha' hb', iLss]
      exact Br.mk (fun h => by rw [h]; exact ⟨rfl, rfl⟩) (fun h => by rw [h]; exact ⟨rfl, rfl⟩)
theorem cnS5_ok : CnOK Try.prog (cnS5 sf0 sg0 lessB) := by
  refine cnOr_ok cnS4_ok ?_
  intro f vals H p x e hp
  dsimp only at e
  split at e <;> cases e
  · rename_i a b
    have h := CallTo.lookV (H := H) (call12 a b) (.cons (Vw.flt H _ _) (.cons (Vw.flt H _ _) .nil))
    cases hl : lessB a b <;> rw [hl] at h <;> exact h
  · rename_i a b
    have h := CallTo.lookV (H := H) (call19 a b) (.cons (Vw.flt H _ _) (.cons (Vw.flt H _ _) .nil))
    cases hl : lessB a b <;> rw [hl] at h <;> exact h

theorem less_irr (a : Nat) : lessB a a = false := by
  unfold lessB
  split
  · rfl
  · exact decide_eq_false (by omega)
theorem less_asym {a b : Nat} (h : lessB a b = true) : lessB b a = false := by
  unfold lessB at h ⊢
  by_cases ha : Inf < a % Wt <;> by_cases hb : Inf < b % Wt <;> simp_all <;> omega
theorem less_trans {a b c : Nat} (h : lessB a b = true) (k : lessB b c = true) : lessB a c = true := by
  unfold lessB at h k ⊢
  by_cases ha : Inf < a % Wt <;> by_cases hb : Inf < b % Wt <;> by_cases hc : Inf < c % Wt <;> simp_all <;> omega
theorem less_alike {a b : Nat} (c : Nat) (h : lessB a b = false) (k : lessB b a = false) : lessB a c = lessB b c ∧ lessB c a = lessB c b := by
  unfold lessB at h k ⊢
  by_cases ha : Inf < a % Wt <;> by_cases hb : Inf < b % Wt
  · simp only [if_pos ha, if_pos hb]
    exact ⟨trivial, trivial⟩
  · rw [if_neg hb, if_pos ha] at k; cases k
  · rw [if_neg ha, if_pos hb] at h; cases h
  · rw [if_neg ha, if_neg hb] at h
    rw [if_neg hb, if_neg ha] at k
    have h := of_decide_eq_false h
    have k := of_decide_eq_false k
    have e : key a = key b := by omega
    simp only [if_neg ha, if_neg hb, e]
    exact ⟨trivial, trivial⟩

theorem law3 (a b c : Nat) : ∃ H' lg, CallTo Try.prog 3 [.flt .f64 a, .flt .f64 b, .flt .f64 c] [] (.bool true) H' lg := by
  have hv : ∀ Q : AV → Prop, Q (.bool true) → vcall (vcA kdYes (cnS5 sf0 sg0 lessB) noLn) ops0 (tabN 3 vf3) 200 vf3 [.flt .f64 a, .flt .f64 b, .flt .f64 c] [] (fun r _ _ => Q r) := by
    intro Q hQ
    rw [vc3]
    simp only [true_and]
    rw [less_irr a]
    cases hab : lessB a b with
    | true =>
      rw [less_asym hab]
      cases hbc : lessB b c with
      | true => rw [less_trans hab hbc]; exact hQ
      | false => exact hQ
    | false =>
      cases hba : lessB b a with
      | true => exact hQ
      | false =>
        obtain ⟨h1, h2⟩ := less_alike c hab hba
        rw [h1, h2]
        cases lessB b c <;> cases lessB c b <;> exact hQ
  obtain ⟨r, H', lg, hc, rfl⟩ := call_vcx cnS5_ok (noLn_ok _) (tabN_ok ok3) (tabN_self 3 vf3) (hv (fun r => r = .bool true) rfl)
  exact ⟨H', lg, hc⟩

theorem wt_anti {a b : Int} (h : a ≤ b) : wtB b ≤ wtB a := by
  unfold wtB
  by_cases h1 : a < 0
  · rw [if_pos h1]
    exact wt_le b
  · rw [if_neg (show ¬ b < 0 by omega), if_neg h1]
    by_cases h2 : 4159 < b
    · rw [if_pos h2]; exact Nat.zero_le _
    · rw [if_neg h2, if_neg (show ¬ 4159 < a by omega)]
      omega
theorem wt_inf (a : Int) : wtB a ≤ Inf := Nat.le_trans (wt_le a) (Nat.le_of_lt inf_big)
theorem geqF {x y : Nat} (hx : x ≤ Inf) (h : y ≤ x) : ops0.fcmp .geq .f64 x y = true := by
  rw [fcmp_small rfl hx (Nat.le_trans h hx), nGeq]; exact decide_eq_true h
theorem leqF {x y : Nat} (hy : y ≤ Inf) (h : x ≤ y) : ops0.fcmp .leq .f64 x y = true := by
  rw [fcmp_small rfl (Nat.le_trans h hy) hy, nLeq]; exact decide_eq_true h
theorem one_inf : 4607182418800017408 ≤ Inf := Nat.le_of_lt inf_big
theorem law4 (a b : Int) (ha : a < 9223372036854775808) (hb : b < 9223372036854775808) : ∃ H' lg, CallTo Try.prog 4 [.int .i64 a, .int .i64 b] [] (.bool true) H' lg := by
  have hv : vcall (vcA kdYes (cnS5 sf0 sg0 lessB) noLn) ops0 (tabN 4 vf4) 200 vf4 [.int .i64 a, .int .i64 b] [] (fun r _ _ => r = .bool true) := by
    rw [vc4, iGtr]
    refine Br.mk (fun h => ?_) (fun h => ?_)
    · have h : b < a := of_decide_eq_true h
      exact ⟨hb, ha, trivial, Br.t (geqF (wt_inf b) (wt_anti (by omega))) (Br.t (leqF one_inf (wt_le b)) (Br.t (geqF (wt_inf a) (Nat.zero_le _)) rfl))⟩
    · have h : ¬ b < a := of_decide_eq_false h
      exact ⟨ha, hb, trivial, Br.t (geqF (wt_inf a) (wt_anti (by omega))) (Br.t (leqF one_inf (wt_le a)) (Br.t (geqF (wt_inf b) (Nat.zero_le _)) rfl))⟩
  obtain ⟨r, H', lg, hc, rfl⟩ := call_vcx cnS5_ok (noLn_ok _) (tabN_ok ok4) (tabN_self 4 vf4) hv
  exact ⟨H', lg, hc⟩

/-! ### Costs -/
theorem key_pos {x : Nat} (hx : x < 18446744073709551616) (h : 0 < key x) : key x = Int.ofNat x := by
  unfold key at h ⊢
  cases hs : sgn x with
  | true => exfalso; rw [hs, if_pos rfl] at h; omega
  | false =>
    rw [hs] at h
    simp only [Bool.false_eq_true, if_false, Int.ofNat_eq_natCast]
    unfold sgn at hs
    rw [Wt_val] at hs ⊢
    have hs : ¬ x / 9223372036854775808 % 2 = 1 := by simpa using hs
    omega
theorem cl_mono {p q : Nat} (hp : p < 18446744073709551616) (hq : q < 18446744073709551616) (hn : ¬ Inf < p % Wt) (hm : ¬ Inf < q % Wt) (h : key p ≤ key q) : clB p ≤ clB q := by
  have hl := cl_le hp
  unfold clB at hl ⊢
  rw [if_neg hn] at hl ⊢
  rw [if_neg hm]
  by_cases h1 : key p ≤ 0
  · rw [if_pos h1]; exact Nat.zero_le _
  · rw [if_neg h1] at hl ⊢
    rw [if_neg (show ¬ key q ≤ 0 by omega)]
    by_cases h2 : Int.ofNat oneB < key q
    · rw [if_pos h2]; exact hl
    · have kp := key_pos hp (by omega)
      have kq := key_pos hq (by omega)
      rw [if_neg (show ¬ Int.ofNat oneB < key p by omega), if_neg h2]
      rw [kp, kq] at h
      simp only [Int.ofNat_eq_natCast] at h
      omega
theorem co_inf_le (a d : Int) (x : Nat) : coB a d x ≤ Inf := by
  unfold coB
  split
  · exact Nat.le_refl _
  · split
    · exact Nat.le_refl _
    · split
      · exact Nat.le_refl _
      · exact fadd_inf _ _
theorem co_anti {a d : Int} {p q : Nat} (hq : q < 18446744073709551616) (h : clB p ≤ clB q) : coB a d q ≤ coB a d p := by
  by_cases hp0 : clB p = 0
  · have : coB a d p = Inf := by unfold coB; rw [if_pos hp0]; split <;> (first | rfl | (split <;> rfl))
    rw [this]
    exact co_inf_le _ _ _
  · unfold coB
    rw [if_neg hp0, if_neg (show ¬ clB q = 0 by omega)]
    split
    · exact Nat.le_refl _
    · split
      · exact Nat.le_refl _
      · exact fadd_mono (nearQ_le_inf _ _) (nearQ_le_inf _ _) (Nat.le_refl _) (fdiv_anti (Nat.le_trans (cl_le hq) (Nat.le_of_lt inf_big)) (Nat.pos_of_ne_zero hp0) h)
theorem co_mono {a m d : Int} {p : Nat} (h0 : 0 ≤ a) (h : a ≤ m) : coB a d p ≤ coB m d p := by
  unfold coB
  rw [if_neg (show ¬ a < 0 by omega), if_neg (show ¬ m < 0 by omega)]
  split
  · exact Nat.le_refl _
  · split
    · exact Nat.le_refl _
    · exact fadd_mono (nearQ_le_inf _ _) (nearQ_le_inf _ _) (fadd_mono (nearQ_le_inf _ _) (nearQ_le_inf _ _) (fint_mono (by omega)) (Nat.le_refl _)) (Nat.le_refl _)
theorem less_small {x y : Nat} (hx : x ≤ Inf) (hy : y ≤ Inf) (h : y ≤ x) : lessB x y = false := by
  unfold lessB
  rw [(small hx).1, (small hy).1, if_neg (by omega), if_neg (by omega), key_small hx, key_small hy]
  exact decide_eq_false (by simp only [Int.ofNat_eq_natCast]; omega)
theorem leq_cases (p q : Nat) : (ops0.fcmp .leq .f64 p q = true ∧ ¬ Inf < p % Wt ∧ ¬ Inf < q % Wt ∧ key p ≤ key q) ∨ ops0.fcmp .leq .f64 p q = false := by
  by_cases hp : Inf < p % Wt
  · exact Or.inr (fcmp_nan rfl (Or.inl hp))
  · by_cases hq : Inf < q % Wt
    · exact Or.inr (fcmp_nan rfl (Or.inr hq))
    · rw [fcmp_key rfl (by omega) (by omega), iLeq]
      by_cases h : key p ≤ key q
      · exact Or.inl ⟨decide_eq_true h, hp, hq, h⟩
      · exact Or.inr (decide_eq_false h)
theorem law5 (f m d : Int) (p q : Nat) (hf : f < 9223372036854775808) (hm : m < 9223372036854775808) (hd : d < 9223372036854775808) (hp : p < 18446744073709551616) (hq : q < 18446744073709551616) :
    ∃ H' lg, CallTo Try.prog 5 [.int .i64 f, .int .i64 m, .int .i64 d, .flt .f64 p, .flt .f64 q] [] (.bool true) H' lg := by
  have hv : ∀ Q : AV → Prop, Q (.bool true) → vcall (vcA kdYes (cnS5 sf0 sg0 lessB) noLn) ops0 (tabN 5 vf5) 200 vf5 [.int .i64 f, .int .i64 m, .int .i64 d, .flt .f64 p, .flt .f64 q] [] (fun r _ _ => Q r) := by
    intro Q hQ
    rw [vc5, iLss, iLss, iLss]
    simp only [true_and]
    have hco : ∀ a b c, SG.co sg0 a b c = coB a b c := fun _ _ _ => rfl
    rcases leq_cases p q with ⟨h, h1, h2, h3⟩ | h
    · refine Br.t h (Br.mk (fun _ => hQ) (fun e1 => Br.mk (fun _ => hQ) (fun e2 => Br.mk (fun _ => hQ) (fun _ => Br.t h ⟨⟨hf, hd, hp⟩, ⟨hf, hd, hq⟩, Br.f ?_ ⟨⟨hm, hd, hp⟩, ⟨hf, hd, hp⟩, Br.f ?_ hQ⟩⟩))))
      · rw [hco, hco]; exact less_small (co_inf_le _ _ _) (co_inf_le _ _ _) (co_anti hq (cl_mono hp hq h1 h2 h3))
      · have e1 : ¬ f < 0 := of_decide_eq_false e1
        have e2 : ¬ m < f := of_decide_eq_false e2
        rw [hco, hco]; exact less_small (co_inf_le _ _ _) (co_inf_le _ _ _) (co_mono (by omega) (by omega))
    · refine Br.f h (Br.mk (fun _ => hQ) (fun e1 => Br.mk (fun _ => hQ) (fun e2 => Br.mk (fun _ => hQ) (fun _ => ?_))))
      rcases leq_cases q p with ⟨h, h1, h2, h3⟩ | h
      · refine Br.t h ⟨⟨hf, hd, hq⟩, ⟨hf, hd, hp⟩, Br.f ?_ ⟨⟨hm, hd, hq⟩, ⟨hf, hd, hq⟩, Br.f ?_ hQ⟩⟩
        · rw [hco, hco]; exact less_small (co_inf_le _ _ _) (co_inf_le _ _ _) (co_anti hp (cl_mono hq hp h1 h2 h3))
        · have e1 : ¬ f < 0 := of_decide_eq_false e1
          have e2 : ¬ m < f := of_decide_eq_false e2
          rw [hco, hco]; exact less_small (co_inf_le _ _ _) (co_inf_le _ _ _) (co_mono (by omega) (by omega))
      · exact Br.f h hQ
  obtain ⟨r, H', lg, hc, rfl⟩ := call_vcx cnS5_ok (noLn_ok _) (tabN_ok ok5) (tabN_self 5 vf5) (hv (fun r => r = .bool true) rfl)
  exact ⟨H', lg, hc⟩

theorem same_t {x : Int} {r s : Prop} (h : r) : Br (ops0.cmp .eql x x) r s := Br.t (by rw [iEql]; exact decide_eq_true rfl) h
theorem law9 (g ga b ba a c t : Int) (x : Nat) (hc : c < 9223372036854775808) (ht : t < 9223372036854775808) :
    ∃ H' lg, CallTo Try.prog 9 [.agg [.int .i64 g, .int .i64 ga, .int .i64 b, .int .i64 ba], .int .i64 a, .int .i64 c, .int .i64 t, .flt .f64 x] [] (.bool true) H' lg := by
  have hv : vcall (vcA kdNo (cnS5 sf0 sg0 lessB) noLn) ops0 (tabN 9 vf9) 200 vf9 [.agg [.int .i64 g, .int .i64 ga, .int .i64 b, .int .i64 ba], .int .i64 a, .int .i64 c, .int .i64 t, .flt .f64 x] [] (fun r _ _ => r = .bool true) := by
    rw [vc9]
    exact ⟨trivial, trivial, trivial, same_t ⟨ht, ht, same_t ⟨hc, hc, same_t ⟨hc, hc, same_t rfl⟩⟩⟩⟩
  obtain ⟨r, H', lg, hc, rfl⟩ := call_vcx cnS5_ok (noLn_ok _) (tabN_ok ok9) (tabN_self 9 vf9) hv
  exact ⟨H', lg, hc⟩

/-! ### Chances -/
theorem ch2_inf {y : Nat} {b ba a t : Int} (hy : y ≤ Inf) : ch2 y b ba a t ≤ Inf := by
  unfold ch2
  split
  · split
    · exact nearQ_le_inf _ _
    · exact hy
  · exact hy
theorem inf_64 {x : Nat} (h : x ≤ Inf) : x < 18446744073709551616 := by rw [Inf_val] at h; omega
theorem ch_le (g ga b ba a c t : Int) (hc : c < 9223372036854775808) : chB g ga b ba a c t ≤ oneB := by
  unfold chB
  split
  · exact Nat.zero_le _
  · split
    · exact Nat.zero_le _
    · exact cl_le (inf_64 (ch2_inf (Nat.le_trans (ch1_le hc) (Nat.le_of_lt two_inf))))
theorem cl_id {x : Nat} (h : x ≤ oneB) : clB x = x := by
  have hx : x ≤ Inf := Nat.le_trans h (Nat.le_of_lt inf_big)
  unfold clB
  rw [(small hx).1, if_neg (by omega), key_small hx]
  simp only [Int.ofNat_eq_natCast]
  split
  · omega
  · rw [if_neg (by omega)]
theorem gu_anti {a m c : Int} (h0 : 0 ≤ a) (h : a ≤ m) : guB m c ≤ guB a c := by
  unfold guB
  rw [if_neg (show ¬ m < 0 by omega), if_neg (show ¬ a < 0 by omega)]
  by_cases h1 : c < m
  · rw [if_pos h1]; exact Nat.zero_le _
  · rw [if_neg h1, if_neg (show ¬ c < a by omega)]
    have h4 : 0 < fadd (fint c.toNat) oneB := by
      have := fadd_ge' (x := fint c.toNat) (y := oneB) (Nat.le_of_lt inf_big)
      have : 0 < oneB := by decide
      omega
    exact fdiv_mono (nearQ_le_inf _ _) (nearQ_le_inf _ _) h4 (fsub_anti (nearQ_le_inf _ _) (fint_mono (by omega)))
theorem ch_zero {a c t : Int} (hc : c < 9223372036854775808) : chB 0 0 0 0 a c t = guB a c := by
  have e1 : ch2 (ch1 0 0 a c t) 0 0 a t = guB a c := by
    unfold ch2 ch1
    rw [if_neg (by decide), if_neg (by decide)]
  unfold chB
  rw [e1, cl_id (gu_le hc)]
  unfold guB
  split
  · rfl
  · split <;> rfl
theorem law10 (g ga b ba a m c t : Int) (hc : c < 9223372036854775808) :
    ∃ H' lg, CallTo Try.prog 10 [.agg [.int .i64 g, .int .i64 ga, .int .i64 b, .int .i64 ba], .int .i64 a, .int .i64 m, .int .i64 c, .int .i64 t] [] (.bool true) H' lg := by
  have hv : vcall (vcA kdNo (cnS5 sf0 sg0 lessB) noLn) ops0 (tabN 10 vf10) 200 vf10 [.agg [.int .i64 g, .int .i64 ga, .int .i64 b, .int .i64 ba], .int .i64 a, .int .i64 m, .int .i64 c, .int .i64 t] [] (fun r _ _ => r = .bool true) := by
    have hch : ∀ a b c d e f g, SG.ch sg0 a b c d e f g = chB a b c d e f g := fun _ _ _ _ _ _ _ => rfl
    have hle := ch_le g ga b ba a c t hc
    have hinf := Nat.le_trans hle (Nat.le_of_lt inf_big)
    have h1 : oneB = 4607182418800017408 := rfl
    rw [vc10, hch, nOfn, nCi (by omega), nLss, iLss, iLss, iLss]
    have z : ∀ x y : Int, chB (Int.ofNat 0) (Int.ofNat 0) (Int.ofNat 0) (Int.ofNat 0) x y t = chB 0 0 0 0 x y t := fun _ _ => rfl
    refine ⟨hc, trivial, Br.t (geqF hinf (Nat.zero_le _)) (Br.t (leqF one_inf hle) (Br.f (decide_eq_false (by omega)) (Br.mk (fun e => ?_) (fun e => ?_))))⟩
    · have e : m < a := of_decide_eq_true e
      refine Br.mk (fun _ => rfl) (fun e1 => ⟨hc, hc, ?_⟩)
      have e1 : ¬ m < 0 := of_decide_eq_false e1
      rw [hch, hch, z, z, ch_zero hc, ch_zero hc]
      exact Br.t (leqF (Nat.le_trans (gu_le hc) (Nat.le_of_lt inf_big)) (gu_anti (by omega) (by omega))) rfl
    · have e : ¬ m < a := of_decide_eq_false e
      refine Br.mk (fun _ => rfl) (fun e1 => ⟨hc, hc, ?_⟩)
      have e1 : ¬ a < 0 := of_decide_eq_false e1
      rw [hch, hch, z, z, ch_zero hc, ch_zero hc]
      exact Br.t (leqF (Nat.le_trans (gu_le hc) (Nat.le_of_lt inf_big)) (gu_anti (by omega) (by omega))) rfl
  obtain ⟨r, H', lg, hc, rfl⟩ := call_vcx cnS5_ok (noLn_ok _) (tabN_ok ok10) (tabN_self 10 vf10) hv
  exact ⟨H', lg, hc⟩

end
end Go.Proofs.Vm

namespace Go.Proofs.Vm
open Go.Vm Go.Fl
noncomputable section
-- SCORE
/-- Whole numbers in cells. -/
def IsAt (cs : List AV) (o n : Nat) (l : List Int) : Prop := l.length = n ∧ ∀ (i : Nat) (x : Int), l[i]? = some x → cs[o + i]? = some (.int .i64 x) ∧ x < 9223372036854775808
def IOK (cs : List AV) (o n : Nat) : Prop := flatL cs ∧ n < 9223372036854775808 ∧ ∃ l, IsAt cs o n l
/-- What is known, and what is learnt. -/
structure Q4 where
  g : Int
  ga : Int
  b : Int
  ba : Int
def lrn (q : Q4) (a t : Int) (gd : Bool) : Q4 :=
  if a < 1 then q else if t < 1 then q else if gd = true then ⟨if q.g < a then a else q.g, t, if q.b ≤ a then 0 else q.b, if q.b ≤ a then 0 else q.ba⟩
  else ⟨if a ≤ q.g then a - 1 else q.g, q.ga, if q.ba = 0 then a else if a < q.b then a else q.b, t⟩
structure LF where
  l1 : Int → Int → Int → Int → Int → Int → Bool → Int
  l2 : Int → Int → Int → Int → Int → Int → Bool → Int
  l3 : Int → Int → Int → Int → Int → Int → Bool → Int
  l4 : Int → Int → Int → Int → Int → Int → Bool → Int
  out : List AV → List AV → Nat → Nat → List AV → Nat → Nat → List AV
def cnS6 (S : LF) : CnF := fun f vals H => match f, vals with
  | 20, [.agg [.int .i64 g, .int .i64 ga, .int .i64 b, .int .i64 ba], .int .i64 a, .int .i64 t, .bool gd] => some (a < 9223372036854775808, .ok (.agg [.int .i64 (S.l1 g ga b ba a t gd), .int .i64 (S.l2 g ga b ba a t gd), .int .i64 (S.l3 g ga b ba a t gd), .int .i64 (S.l4 g ga b ba a t gd)]) H [])
  | 21, [.agg [.int .i64 g, .int .i64 ga, .int .i64 b, .int .i64 ba], .int .i64 a, .int .i64 t, .bool gd] => some (a < 9223372036854775808, .ok (.agg [.int .i64 (S.l1 g ga b ba a t gd), .int .i64 (S.l2 g ga b ba a t gd), .int .i64 (S.l3 g ga b ba a t gd), .int .i64 (S.l4 g ga b ba a t gd)]) H [])
  | 11, [] => some (True, .ok (.bool true) H [])
  | _, _ => none
def lp8 : VC := (.seq (.seq (.reg .false [] [⟨(.some 12), .none, .mov, [(.t 9)]⟩, ⟨(.some 13), .none, .mov, [(.t 1)]⟩, ⟨(.some 14), .none, .len, [(.t 13)]⟩, ⟨(.some 15), .none, (.cmp .lss), [(.t 12), (.t 14)]⟩, ⟨(.some 16), .none, .mov, [(.t 15)]⟩, ⟨(.some 17), (.some ⟨16, .true⟩), .mov, [(.t 9)]⟩, ⟨(.some 18), (.some ⟨16, .true⟩), .mov, [(.t 2)]⟩, ⟨(.some 19), (.some ⟨16, .true⟩), .len, [(.t 18)]⟩, ⟨(.some 20), (.some ⟨16, .true⟩), (.cmp .lss), [(.t 17), (.t 19)]⟩, ⟨(.some 21), .none, .pick, [(.t 16), (.t 20), (.c (.bool .false))]⟩]) (.cond (.t 21) .skip (.exit 0))) (.seq (.block 1 (.seq (.reg .true [0, 0, 0, 6, 14, 0, 0, 96, 224, 0, 512, 1536, 4095, 8191] [⟨(.some 24), .none, (.ldn 4), [(.t 7)]⟩, ⟨(.some 25), .none, .mov, [(.t 1)]⟩, ⟨(.some 26), .none, .mov, [(.t 9)]⟩, ⟨(.some 27), .none, (.ixS 1), [(.t 25), (.t 26)]⟩, ⟨(.some 28), .none, (.ld1 (.int .i64)), [(.t 27)]⟩, ⟨(.some 29), .none, .mov, [(.t 2)]⟩, ⟨(.some 30), .none, .mov, [(.t 9)]⟩, ⟨(.some 31), .none, (.ixS 1), [(.t 29), (.t 30)]⟩, ⟨(.some 32), .none, (.ld1 (.int .i64)), [(.t 31)]⟩, ⟨(.some 33), .none, .mov, [(.t 9)]⟩, ⟨(.some 34), .none, (.div .rem .i64), [(.t 33), (.c (.int .i64 (.ofNat 3)))]⟩, ⟨(.some 35), .none, (.cmp .neq), [(.t 34), (.c (.int .i64 (.ofNat 1)))]⟩, ⟨(.some 36), .none, (.call 20), [(.t 24), (.t 28), (.t 32), (.t 35)]⟩, ⟨.none, .none, (.stn 4), [(.t 7), (.t 36)]⟩]) (.seq (.reg .true [0, 0, 0, 6, 14, 0, 0, 96, 224, 0, 512, 1536, 4095, 8191] [⟨(.some 37), .none, (.ldn 4), [(.t 8)]⟩, ⟨(.some 38), .none, .mov, [(.t 1)]⟩, ⟨(.some 39), .none, .mov, [(.t 9)]⟩, ⟨(.some 40), .none, (.ixS 1), [(.t 38), (.t 39)]⟩, ⟨(.some 41), .none, (.ld1 (.int .i64)), [(.t 40)]⟩, ⟨(.some 42), .none, .mov, [(.t 2)]⟩, ⟨(.some 43), .none, .mov, [(.t 9)]⟩, ⟨(.some 44), .none, (.ixS 1), [(.t 42), (.t 43)]⟩, ⟨(.some 45), .none, (.ld1 (.int .i64)), [(.t 44)]⟩, ⟨(.some 46), .none, .mov, [(.t 9)]⟩, ⟨(.some 47), .none, (.div .rem .i64), [(.t 46), (.c (.int .i64 (.ofNat 3)))]⟩, ⟨(.some 48), .none, (.cmp .neq), [(.t 47), (.c (.int .i64 (.ofNat 1)))]⟩, ⟨(.some 49), .none, (.call 21), [(.t 37), (.t 41), (.t 45), (.t 48)]⟩, ⟨.none, .none, (.stn 4), [(.t 8), (.t 49)]⟩]) (.seq (.reg .false [] [⟨(.some 50), .none, (.ldn 4), [(.t 7)]⟩, ⟨(.some 51), .none, (.ldn 4), [(.t 8)]⟩, ⟨(.some 52), .none, (.acmp .true 4 [⟨0, ⟨.i64, 1⟩⟩, ⟨1, ⟨.i64, 1⟩⟩, ⟨2, ⟨.i64, 1⟩⟩, ⟨3, ⟨.i64, 1⟩⟩]), [(.t 50), (.t 51)]⟩]) (.cond (.t 52) (.seq (.reg .false [] [⟨(.some 6), .none, .mov, [(.c (.bool .false))]⟩]) .ret) .skip))))) (.reg .false [] [⟨(.some 22), .none, .mov, [(.t 9)]⟩, ⟨(.some 23), .none, (.bin .add .i64), [(.t 22), (.c (.int .i64 (.ofNat 1)))]⟩, ⟨(.some 9), .none, .mov, [(.t 23)]⟩])))
def fr8 (c1 : List AV) (o1 n1 k1 : Nat) (e1 : Bool) (c2 : List AV) (o2 n2 k2 : Nat) (e2 : Bool) (i : Int) : Fr := [.top, .ros c1 o1 n1 k1 e1, .ros c2 o2 n2 k2 e2, .top, .top, .top, .top, .ptr 1 0, .ptr 2 0, .int .i64 i, .top, .top, .top, .top, .top, .top, .top, .top, .top, .top, .top, .top, .top, .top, .top, .top, .top, .top, .top, .top, .top, .top, .top, .top, .top, .top, .top, .top, .top, .top, .top, .top, .top, .top, .top, .top, .top, .top, .top, .top, .top, .top, .top, .top]
def mk8 : List Bool := [true, false, false, true, true, true, true, false, false, false, true, true, true, true, true, true, true, true, true, true, true, true, true, true, true, true, true, true, true, true, true, true, true, true, true, true, true, true, true, true, true, true, true, true, true, true, true, true, true, true, true, true, true, true]
def ln8 (S : LF) : LnF := fun n0 b fr H => match slot fr 1, slot fr 2, H with
  | .ros c1 o1 n1 k1 e1, .ros c2 o2 n2 k2 e2, [.cells p, .cells [.int .i64 g, .int .i64 ga, .int .i64 b', .int .i64 ba], .cells [.int .i64 h, .int .i64 ha, .int .i64 d, .int .i64 da]] =>
    some (n0 = 0 ∧ VCis b lp8 ∧ forget mk8 fr = fr8 c1 o1 n1 k1 e1 c2 o2 n2 k2 e2 0 ∧ (flatL p ∧ IOK c1 o1 n1 ∧ IOK c2 o2 n2 ∧ h = g ∧ ha = ga ∧ d = b' ∧ da = ba),
      .ok (.exit 0) (fr8 c1 o1 n1 k1 e1 c2 o2 n2 k2 e2 (Nat.min n1 n2)) [.cells p, .cells (S.out [.int .i64 g, .int .i64 ga, .int .i64 b', .int .i64 ba] c1 o1 n1 c2 o2 n2), .cells (S.out [.int .i64 g, .int .i64 ga, .int .i64 b', .int .i64 ba] c1 o1 n1 c2 o2 n2)])
  | _, _, _ => none
def cellsQ (q : Q4) : List AV := [.int .i64 q.g, .int .i64 q.ga, .int .i64 q.b, .int .i64 q.ba]
def intAV : AV → Int
  | .int _ n => n
  | _ => 0
def isA (cs : List AV) (o n : Nat) : List Int := ((cs.drop o).take n).map intAV
def qst (q : Q4) (l m : List Int) : Nat → Q4
  | 0 => q
  | i + 1 => lrn (qst q l m i) (l.getD i 0) (m.getD i 0) (decide (i % 3 ≠ 1))
def lf0 : LF := ⟨fun g ga b ba a t gd => (lrn ⟨g, ga, b, ba⟩ a t gd).g, fun g ga b ba a t gd => (lrn ⟨g, ga, b, ba⟩ a t gd).ga, fun g ga b ba a t gd => (lrn ⟨g, ga, b, ba⟩ a t gd).b, fun g ga b ba a t gd => (lrn ⟨g, ga, b, ba⟩ a t gd).ba,
  fun cs c1 o1 n1 c2 o2 n2 => match cs with
    | [.int _ g, .int _ ga, .int _ b, .int _ ba] => cellsQ (qst ⟨g, ga, b, ba⟩ (isA c1 o1 n1) (isA c2 o2 n2) (Nat.min n1 n2))
    | _ => cs⟩

theorem vc20 (g ga b ba a t : Int) (gd : Bool) (Q : AV → Hl → Prop) :
  (vcall (vcA kdNo noCn noLn) ops0 (tabN 20 vf20) 200 vf20 [.agg [.int .i64 g, .int .i64 ga, .int .i64 b, .int .i64 ba], .int .i64 a, .int .i64 t, .bool gd] [] (endN (fun _ => 0) Q)) =
 ((Br (ops0.cmp BinOp.lss a (Int.ofNat 1))
 (Q (AV.agg [(AV.int IntKind.i64 g), (AV.int IntKind.i64 ga), (AV.int IntKind.i64 b), (AV.int IntKind.i64 ba)]) [])
 (Br (ops0.cmp BinOp.lss t (Int.ofNat 1))
 (Q (AV.agg [(AV.int IntKind.i64 g), (AV.int IntKind.i64 ga), (AV.int IntKind.i64 b), (AV.int IntKind.i64 ba)]) [])
 (Br gd
 (Br (ops0.cmp BinOp.leq b a)
 (Q (AV.agg [(AV.int IntKind.i64 (ops0.mnx Bool.true g a)), (AV.int IntKind.i64 t), (AV.int IntKind.i64 (Int.ofNat 0)), (AV.int IntKind.i64 (Int.ofNat 0))]) [])
 (Q (AV.agg [(AV.int IntKind.i64 (ops0.mnx Bool.true g a)), (AV.int IntKind.i64 t), (AV.int IntKind.i64 b), (AV.int IntKind.i64 ba)]) []))
 (Br (ops0.cmp BinOp.eql ba (Int.ofNat 0))
 (Q (AV.agg [(AV.int IntKind.i64 (ops0.mnx Bool.false g (ops0.bin BinOp.sub IntKind.i64 a (Int.ofNat 1)))), (AV.int IntKind.i64 ga), (AV.int IntKind.i64 a), (AV.int IntKind.i64 t)]) [])
 (Br (ops0.cmp BinOp.lss a b)
 (Q (AV.agg [(AV.int IntKind.i64 (ops0.mnx Bool.false g (ops0.bin BinOp.sub IntKind.i64 a (Int.ofNat 1)))), (AV.int IntKind.i64 ga), (AV.int IntKind.i64 a), (AV.int IntKind.i64 t)]) [])
 (Q (AV.agg [(AV.int IntKind.i64 (ops0.mnx Bool.false g (ops0.bin BinOp.sub IntKind.i64 a (Int.ofNat 1)))), (AV.int IntKind.i64 ga), (AV.int IntKind.i64 b), (AV.int IntKind.i64 t)]) []))))))) := by kernel_rfl

theorem vc21 (g ga b ba a t : Int) (gd : Bool) (Q : AV → Hl → Prop) :
  (vcall (vcA kdNo noCn noLn) ops0 (tabN 21 vf21) 200 vf21 [.agg [.int .i64 g, .int .i64 ga, .int .i64 b, .int .i64 ba], .int .i64 a, .int .i64 t, .bool gd] [] (endN (fun _ => 0) Q)) =
 ((Br (ops0.cmp BinOp.lss a (Int.ofNat 1))
 (Q (AV.agg [(AV.int IntKind.i64 g), (AV.int IntKind.i64 ga), (AV.int IntKind.i64 b), (AV.int IntKind.i64 ba)]) [])
 (Br (ops0.cmp BinOp.lss t (Int.ofNat 1))
 (Q (AV.agg [(AV.int IntKind.i64 g), (AV.int IntKind.i64 ga), (AV.int IntKind.i64 b), (AV.int IntKind.i64 ba)]) [])
 (Br gd
 (Br (ops0.cmp BinOp.gtr a g)
 (Br (ops0.cmp BinOp.leq b a)
 (Q (AV.agg [(AV.int IntKind.i64 a), (AV.int IntKind.i64 t), (AV.int IntKind.i64 (Int.ofNat 0)), (AV.int IntKind.i64 (Int.ofNat 0))]) [])
 (Q (AV.agg [(AV.int IntKind.i64 a), (AV.int IntKind.i64 t), (AV.int IntKind.i64 b), (AV.int IntKind.i64 ba)]) []))
 (Br (ops0.cmp BinOp.leq b a)
 (Q (AV.agg [(AV.int IntKind.i64 g), (AV.int IntKind.i64 t), (AV.int IntKind.i64 (Int.ofNat 0)), (AV.int IntKind.i64 (Int.ofNat 0))]) [])
 (Q (AV.agg [(AV.int IntKind.i64 g), (AV.int IntKind.i64 t), (AV.int IntKind.i64 b), (AV.int IntKind.i64 ba)]) [])))
 (Br (ops0.cmp BinOp.eql ba (Int.ofNat 0))
 (Br (ops0.cmp BinOp.geq g a)
 (Q (AV.agg [(AV.int IntKind.i64 (ops0.bin BinOp.sub IntKind.i64 a (Int.ofNat 1))), (AV.int IntKind.i64 ga), (AV.int IntKind.i64 a), (AV.int IntKind.i64 t)]) [])
 (Q (AV.agg [(AV.int IntKind.i64 g), (AV.int IntKind.i64 ga), (AV.int IntKind.i64 a), (AV.int IntKind.i64 t)]) []))
 (Br (ops0.cmp BinOp.lss a b)
 (Br (ops0.cmp BinOp.geq g a)
 (Q (AV.agg [(AV.int IntKind.i64 (ops0.bin BinOp.sub IntKind.i64 a (Int.ofNat 1))), (AV.int IntKind.i64 ga), (AV.int IntKind.i64 a), (AV.int IntKind.i64 t)]) [])
 (Q (AV.agg [(AV.int IntKind.i64 g), (AV.int IntKind.i64 ga), (AV.int IntKind.i64 a), (AV.int IntKind.i64 t)]) []))
 (Br (ops0.cmp BinOp.geq g a)
 (Q (AV.agg [(AV.int IntKind.i64 (ops0.bin BinOp.sub IntKind.i64 a (Int.ofNat 1))), (AV.int IntKind.i64 ga), (AV.int IntKind.i64 b), (AV.int IntKind.i64 t)]) [])
 (Q (AV.agg [(AV.int IntKind.i64 g), (AV.int IntKind.i64 ga), (AV.int IntKind.i64 b), (AV.int IntKind.i64 t)]) [])))))))) := by kernel_rfl

theorem vcl8 (S : LF) (p c1 : List AV) (o1 n1 k1 : Nat) (e1 : Bool) (c2 : List AV) (o2 n2 k2 : Nat) (e2 : Bool) (i g ga b ba : Int) (Q : Ex → Fr → Hl → Prop) :
  (vm (vcA kdYes (cnS6 S) noLn) ops0 noTab 100 0 lp8 (fr8 c1 o1 n1 k1 e1 c2 o2 n2 k2 e2 i) [.cells p, .cells [.int .i64 g, .int .i64 ga, .int .i64 b, .int .i64 ba], .cells [.int .i64 g, .int .i64 ga, .int .i64 b, .int .i64 ba]] [] (bodyX mk8 Q)) =
 ((Br (ops0.cmp BinOp.lss i (ops0.ofn n1))
 (Br (ops0.cmp BinOp.lss i (ops0.ofn n2))
 (Chk (ops0.inr i n1)
 (∃ n : Int, ((Nth c1 (ops0.adr o1 i 1) (AV.int IntKind.i64 n)) ∧
 (Chk (ops0.inr i n2)
 (∃ n3 : Int, ((Nth c2 (ops0.adr o2 i 1) (AV.int IntKind.i64 n3)) ∧
 (Br (ops0.cmp BinOp.neq (ops0.bin BinOp.rem IntKind.i64 i (Int.ofNat 3)) (Int.ofNat 1))
 ((n < (Int.ofNat 9223372036854775808)) ∧
 (Chk (ops0.inr i n1)
 (∃ n4 : Int, ((Nth c1 (ops0.adr o1 i 1) (AV.int IntKind.i64 n4)) ∧
 (Chk (ops0.inr i n2)
 (∃ n5 : Int, ((Nth c2 (ops0.adr o2 i 1) (AV.int IntKind.i64 n5)) ∧
 (Br (ops0.cmp BinOp.neq (ops0.bin BinOp.rem IntKind.i64 i (Int.ofNat 3)) (Int.ofNat 1))
 ((n4 < (Int.ofNat 9223372036854775808)) ∧
 (∃ l : (List Int), ((([(AV.int IntKind.i64 (LF.l1 S g ga b ba n n3 Bool.true))] : (List AV)) = (List.map (AV.int IntKind.i64) l)) ∧
 (∃ l1 : (List Int), ((([(AV.int IntKind.i64 (LF.l1 S g ga b ba n4 n5 Bool.true))] : (List AV)) = (List.map (AV.int IntKind.i64) l1)) ∧
 (Br (ops0.eqi l l1)
 (∃ l2 : (List Int), ((([(AV.int IntKind.i64 (LF.l2 S g ga b ba n n3 Bool.true))] : (List AV)) = (List.map (AV.int IntKind.i64) l2)) ∧
 (∃ l3 : (List Int), ((([(AV.int IntKind.i64 (LF.l2 S g ga b ba n4 n5 Bool.true))] : (List AV)) = (List.map (AV.int IntKind.i64) l3)) ∧
 (Br (ops0.eqi l2 l3)
 (∃ l4 : (List Int), ((([(AV.int IntKind.i64 (LF.l3 S g ga b ba n n3 Bool.true))] : (List AV)) = (List.map (AV.int IntKind.i64) l4)) ∧
 (∃ l5 : (List Int), ((([(AV.int IntKind.i64 (LF.l3 S g ga b ba n4 n5 Bool.true))] : (List AV)) = (List.map (AV.int IntKind.i64) l5)) ∧
 (Br (ops0.eqi l4 l5)
 (∃ l6 : (List Int), ((([(AV.int IntKind.i64 (LF.l4 S g ga b ba n n3 Bool.true))] : (List AV)) = (List.map (AV.int IntKind.i64) l6)) ∧
 (∃ l7 : (List Int), ((([(AV.int IntKind.i64 (LF.l4 S g ga b ba n4 n5 Bool.true))] : (List AV)) = (List.map (AV.int IntKind.i64) l7)) ∧
 (Br (ops0.eqi l6 l7)
 (Q Ex.norm [AV.top, (AV.ros c1 o1 n1 k1 e1), (AV.ros c2 o2 n2 k2 e2), AV.top, AV.top, AV.top, AV.top, (AV.ptr 1 0), (AV.ptr 2 0), (AV.int IntKind.i64 (ops0.bin BinOp.add IntKind.i64 i (Int.ofNat 1))), AV.top, AV.top, AV.top, AV.top, AV.top, AV.top, AV.top, AV.top, AV.top, AV.top, AV.top, AV.top, AV.top, AV.top, AV.top, AV.top, AV.top, AV.top, AV.top, AV.top, AV.top, AV.top, AV.top, AV.top, AV.top, AV.top, AV.top, AV.top, AV.top, AV.top, AV.top, AV.top, AV.top, AV.top, AV.top, AV.top, AV.top, AV.top, AV.top, AV.top, AV.top, AV.top, AV.top, AV.top] [(Blk.cells p), (Blk.cells [(AV.int IntKind.i64 (LF.l1 S g ga b ba n n3 Bool.true)), (AV.int IntKind.i64 (LF.l2 S g ga b ba n n3 Bool.true)), (AV.int IntKind.i64 (LF.l3 S g ga b ba n n3 Bool.true)), (AV.int IntKind.i64 (LF.l4 S g ga b ba n n3 Bool.true))]), (Blk.cells [(AV.int IntKind.i64 (LF.l1 S g ga b ba n4 n5 Bool.true)), (AV.int IntKind.i64 (LF.l2 S g ga b ba n4 n5 Bool.true)), (AV.int IntKind.i64 (LF.l3 S g ga b ba n4 n5 Bool.true)), (AV.int IntKind.i64 (LF.l4 S g ga b ba n4 n5 Bool.true))])])
 (Q Ex.ret [AV.top, (AV.ros c1 o1 n1 k1 e1), (AV.ros c2 o2 n2 k2 e2), AV.top, AV.top, AV.top, AV.top, (AV.ptr 1 0), (AV.ptr 2 0), (AV.int IntKind.i64 i), AV.top, AV.top, AV.top, AV.top, AV.top, AV.top, AV.top, AV.top, AV.top, AV.top, AV.top, AV.top, AV.top, AV.top, AV.top, AV.top, AV.top, AV.top, AV.top, AV.top, AV.top, AV.top, AV.top, AV.top, AV.top, AV.top, AV.top, AV.top, AV.top, AV.top, AV.top, AV.top, AV.top, AV.top, AV.top, AV.top, AV.top, AV.top, AV.top, AV.top, AV.top, AV.top, AV.top, AV.top] [(Blk.cells p), (Blk.cells [(AV.int IntKind.i64 (LF.l1 S g ga b ba n n3 Bool.true)), (AV.int IntKind.i64 (LF.l2 S g ga b ba n n3 Bool.true)), (AV.int IntKind.i64 (LF.l3 S g ga b ba n n3 Bool.true)), (AV.int IntKind.i64 (LF.l4 S g ga b ba n n3 Bool.true))]), (Blk.cells [(AV.int IntKind.i64 (LF.l1 S g ga b ba n4 n5 Bool.true)), (AV.int IntKind.i64 (LF.l2 S g ga b ba n4 n5 Bool.true)), (AV.int IntKind.i64 (LF.l3 S g ga b ba n4 n5 Bool.true)), (AV.int IntKind.i64 (LF.l4 S g ga b ba n4 n5 Bool.true))])]))))))
 (Q Ex.ret [AV.top, (AV.ros c1 o1 n1 k1 e1), (AV.ros c2 o2 n2 k2 e2), AV.top, AV.top, AV.top, AV.top, (AV.ptr 1 0), (AV.ptr 2 0), (AV.int IntKind.i64 i), AV.top, AV.top, AV.top, AV.top, AV.top, AV.top, AV.top, AV.top, AV.top, AV.top, AV.top, AV.top, AV.top, AV.top, AV.top, AV.top, AV.top, AV.top, AV.top, AV.top, AV.top, AV.top, AV.top, AV.top, AV.top, AV.top, AV.top, AV.top, AV.top, AV.top, AV.top, AV.top, AV.top, AV.top, AV.top, AV.top, AV.top, AV.top, AV.top, AV.top, AV.top, AV.top, AV.top, AV.top] [(Blk.cells p), (Blk.cells [(AV.int IntKind.i64 (LF.l1 S g ga b ba n n3 Bool.true)), (AV.int IntKind.i64 (LF.l2 S g ga b ba n n3 Bool.true)), (AV.int IntKind.i64 (LF.l3 S g ga b ba n n3 Bool.true)), (AV.int IntKind.i64 (LF.l4 S g ga b ba n n3 Bool.true))]), (Blk.cells [(AV.int IntKind.i64 (LF.l1 S g ga b ba n4 n5 Bool.true)), (AV.int IntKind.i64 (LF.l2 S g ga b ba n4 n5 Bool.true)), (AV.int IntKind.i64 (LF.l3 S g ga b ba n4 n5 Bool.true)), (AV.int IntKind.i64 (LF.l4 S g ga b ba n4 n5 Bool.true))])]))))))
 (Q Ex.ret [AV.top, (AV.ros c1 o1 n1 k1 e1), (AV.ros c2 o2 n2 k2 e2), AV.top, AV.top, AV.top, AV.top, (AV.ptr 1 0), (AV.ptr 2 0), (AV.int IntKind.i64 i), AV.top, AV.top, AV.top, AV.top, AV.top, AV.top, AV.top, AV.top, AV.top, AV.top, AV.top, AV.top, AV.top, AV.top, AV.top, AV.top, AV.top, AV.top, AV.top, AV.top, AV.top, AV.top, AV.top, AV.top, AV.top, AV.top, AV.top, AV.top, AV.top, AV.top, AV.top, AV.top, AV.top, AV.top, AV.top, AV.top, AV.top, AV.top, AV.top, AV.top, AV.top, AV.top, AV.top, AV.top] [(Blk.cells p), (Blk.cells [(AV.int IntKind.i64 (LF.l1 S g ga b ba n n3 Bool.true)), (AV.int IntKind.i64 (LF.l2 S g ga b ba n n3 Bool.true)), (AV.int IntKind.i64 (LF.l3 S g ga b ba n n3 Bool.true)), (AV.int IntKind.i64 (LF.l4 S g ga b ba n n3 Bool.true))]), (Blk.cells [(AV.int IntKind.i64 (LF.l1 S g ga b ba n4 n5 Bool.true)), (AV.int IntKind.i64 (LF.l2 S g ga b ba n4 n5 Bool.true)), (AV.int IntKind.i64 (LF.l3 S g ga b ba n4 n5 Bool.true)), (AV.int IntKind.i64 (LF.l4 S g ga b ba n4 n5 Bool.true))])]))))))
 (Q Ex.ret [AV.top, (AV.ros c1 o1 n1 k1 e1), (AV.ros c2 o2 n2 k2 e2), AV.top, AV.top, AV.top, AV.top, (AV.ptr 1 0), (AV.ptr 2 0), (AV.int IntKind.i64 i), AV.top, AV.top, AV.top, AV.top, AV.top, AV.top, AV.top, AV.top, AV.top, AV.top, AV.top, AV.top, AV.top, AV.top, AV.top, AV.top, AV.top, AV.top, AV.top, AV.top, AV.top, AV.top, AV.top, AV.top, AV.top, AV.top, AV.top, AV.top, AV.top, AV.top, AV.top, AV.top, AV.top, AV.top, AV.top, AV.top, AV.top, AV.top, AV.top, AV.top, AV.top, AV.top, AV.top, AV.top] [(Blk.cells p), (Blk.cells [(AV.int IntKind.i64 (LF.l1 S g ga b ba n n3 Bool.true)), (AV.int IntKind.i64 (LF.l2 S g ga b ba n n3 Bool.true)), (AV.int IntKind.i64 (LF.l3 S g ga b ba n n3 Bool.true)), (AV.int IntKind.i64 (LF.l4 S g ga b ba n n3 Bool.true))]), (Blk.cells [(AV.int IntKind.i64 (LF.l1 S g ga b ba n4 n5 Bool.true)), (AV.int IntKind.i64 (LF.l2 S g ga b ba n4 n5 Bool.true)), (AV.int IntKind.i64 (LF.l3 S g ga b ba n4 n5 Bool.true)), (AV.int IntKind.i64 (LF.l4 S g ga b ba n4 n5 Bool.true))])])))))))
 ((n4 < (Int.ofNat 9223372036854775808)) ∧
 (∃ l : (List Int), ((([(AV.int IntKind.i64 (LF.l1 S g ga b ba n n3 Bool.true))] : (List AV)) = (List.map (AV.int IntKind.i64) l)) ∧
 (∃ l1 : (List Int), ((([(AV.int IntKind.i64 (LF.l1 S g ga b ba n4 n5 Bool.false))] : (List AV)) = (List.map (AV.int IntKind.i64) l1)) ∧
 (Br (ops0.eqi l l1)
 (∃ l2 : (List Int), ((([(AV.int IntKind.i64 (LF.l2 S g ga b ba n n3 Bool.true))] : (List AV)) = (List.map (AV.int IntKind.i64) l2)) ∧
 (∃ l3 : (List Int), ((([(AV.int IntKind.i64 (LF.l2 S g ga b ba n4 n5 Bool.false))] : (List AV)) = (List.map (AV.int IntKind.i64) l3)) ∧
 (Br (ops0.eqi l2 l3)
 (∃ l4 : (List Int), ((([(AV.int IntKind.i64 (LF.l3 S g ga b ba n n3 Bool.true))] : (List AV)) = (List.map (AV.int IntKind.i64) l4)) ∧
 (∃ l5 : (List Int), ((([(AV.int IntKind.i64 (LF.l3 S g ga b ba n4 n5 Bool.false))] : (List AV)) = (List.map (AV.int IntKind.i64) l5)) ∧
 (Br (ops0.eqi l4 l5)
 (∃ l6 : (List Int), ((([(AV.int IntKind.i64 (LF.l4 S g ga b ba n n3 Bool.true))] : (List AV)) = (List.map (AV.int IntKind.i64) l6)) ∧
 (∃ l7 : (List Int), ((([(AV.int IntKind.i64 (LF.l4 S g ga b ba n4 n5 Bool.false))] : (List AV)) = (List.map (AV.int IntKind.i64) l7)) ∧
 (Br (ops0.eqi l6 l7)
 (Q Ex.norm [AV.top, (AV.ros c1 o1 n1 k1 e1), (AV.ros c2 o2 n2 k2 e2), AV.top, AV.top, AV.top, AV.top, (AV.ptr 1 0), (AV.ptr 2 0), (AV.int IntKind.i64 (ops0.bin BinOp.add IntKind.i64 i (Int.ofNat 1))), AV.top, AV.top, AV.top, AV.top, AV.top, AV.top, AV.top, AV.top, AV.top, AV.top, AV.top, AV.top, AV.top, AV.top, AV.top, AV.top, AV.top, AV.top, AV.top, AV.top, AV.top, AV.top, AV.top, AV.top, AV.top, AV.top, AV.top, AV.top, AV.top, AV.top, AV.top, AV.top, AV.top, AV.top, AV.top, AV.top, AV.top, AV.top, AV.top, AV.top, AV.top, AV.top, AV.top, AV.top] [(Blk.cells p), (Blk.cells [(AV.int IntKind.i64 (LF.l1 S g ga b ba n n3 Bool.true)), (AV.int IntKind.i64 (LF.l2 S g ga b ba n n3 Bool.true)), (AV.int IntKind.i64 (LF.l3 S g ga b ba n n3 Bool.true)), (AV.int IntKind.i64 (LF.l4 S g ga b ba n n3 Bool.true))]), (Blk.cells [(AV.int IntKind.i64 (LF.l1 S g ga b ba n4 n5 Bool.false)), (AV.int IntKind.i64 (LF.l2 S g ga b ba n4 n5 Bool.false)), (AV.int IntKind.i64 (LF.l3 S g ga b ba n4 n5 Bool.false)), (AV.int IntKind.i64 (LF.l4 S g ga b ba n4 n5 Bool.false))])])
 (Q Ex.ret [AV.top, (AV.ros c1 o1 n1 k1 e1), (AV.ros c2 o2 n2 k2 e2), AV.top, AV.top, AV.top, AV.top, (AV.ptr 1 0), (AV.ptr 2 0), (AV.int IntKind.i64 i), AV.top, AV.top, AV.top, AV.top, AV.top, AV.top, AV.top, AV.top, AV.top, AV.top, AV.top, AV.top, AV.top, AV.top, AV.top, AV.top, AV.top, AV.top, AV.top, AV.top, AV.top, AV.top, AV.top, AV.top, AV.top, AV.top, AV.top, AV.top, AV.top, AV.top, AV.top, AV.top, AV.top, AV.top, AV.top, AV.top, AV.top, AV.top, AV.top, AV.top, AV.top, AV.top, AV.top, AV.top] [(Blk.cells p), (Blk.cells [(AV.int IntKind.i64 (LF.l1 S g ga b ba n n3 Bool.true)), (AV.int IntKind.i64 (LF.l2 S g ga b ba n n3 Bool.true)), (AV.int IntKind.i64 (LF.l3 S g ga b ba n n3 Bool.true)), (AV.int IntKind.i64 (LF.l4 S g ga b ba n n3 Bool.true))]), (Blk.cells [(AV.int IntKind.i64 (LF.l1 S g ga b ba n4 n5 Bool.false)), (AV.int IntKind.i64 (LF.l2 S g ga b ba n4 n5 Bool.false)), (AV.int IntKind.i64 (LF.l3 S g ga b ba n4 n5 Bool.false)), (AV.int IntKind.i64 (LF.l4 S g ga b ba n4 n5 Bool.false))])]))))))
 (Q Ex.ret [AV.top, (AV.ros c1 o1 n1 k1 e1), (AV.ros c2 o2 n2 k2 e2), AV.top, AV.top, AV.top, AV.top, (AV.ptr 1 0), (AV.ptr 2 0), (AV.int IntKind.i64 i), AV.top, AV.top, AV.top, AV.top, AV.top, AV.top, AV.top, AV.top, AV.top, AV.top, AV.top, AV.top, AV.top, AV.top, AV.top, AV.top, AV.top, AV.top, AV.top, AV.top, AV.top, AV.top, AV.top, AV.top, AV.top, AV.top, AV.top, AV.top, AV.top, AV.top, AV.top, AV.top, AV.top, AV.top, AV.top, AV.top, AV.top, AV.top, AV.top, AV.top, AV.top, AV.top, AV.top, AV.top] [(Blk.cells p), (Blk.cells [(AV.int IntKind.i64 (LF.l1 S g ga b ba n n3 Bool.true)), (AV.int IntKind.i64 (LF.l2 S g ga b ba n n3 Bool.true)), (AV.int IntKind.i64 (LF.l3 S g ga b ba n n3 Bool.true)), (AV.int IntKind.i64 (LF.l4 S g ga b ba n n3 Bool.true))]), (Blk.cells [(AV.int IntKind.i64 (LF.l1 S g ga b ba n4 n5 Bool.false)), (AV.int IntKind.i64 (LF.l2 S g ga b ba n4 n5 Bool.false)), (AV.int IntKind.i64 (LF.l3 S g ga b ba n4 n5 Bool.false)), (AV.int IntKind.i64 (LF.l4 S g ga b ba n4 n5 Bool.false))])]))))))
 (Q Ex.ret [AV.top, (AV.ros c1 o1 n1 k1 e1), (AV.ros c2 o2 n2 k2 e2), AV.top, AV.top, AV.top, AV.top, (AV.ptr 1 0), (AV.ptr 2 0), (AV.int IntKind.i64 i), AV.top, AV.top, AV.top, AV.top, AV.top, AV.top, AV.top, AV.top, AV.top, AV.top, AV.top, AV.top, AV.top, AV.top, AV.top, AV.top, AV.top, AV.top, AV.top, AV.top, AV.top, AV.top, AV.top, AV.top, AV.top, AV.top, AV.top, AV.top, AV.top, AV.top, AV.top, AV.top, AV.top, AV.top, AV.top, AV.top, AV.top, AV.top, AV.top, AV.top, AV.top, AV.top, AV.top, AV.top] [(Blk.cells p), (Blk.cells [(AV.int IntKind.i64 (LF.l1 S g ga b ba n n3 Bool.true)), (AV.int IntKind.i64 (LF.l2 S g ga b ba n n3 Bool.true)), (AV.int IntKind.i64 (LF.l3 S g ga b ba n n3 Bool.true)), (AV.int IntKind.i64 (LF.l4 S g ga b ba n n3 Bool.true))]), (Blk.cells [(AV.int IntKind.i64 (LF.l1 S g ga b ba n4 n5 Bool.false)), (AV.int IntKind.i64 (LF.l2 S g ga b ba n4 n5 Bool.false)), (AV.int IntKind.i64 (LF.l3 S g ga b ba n4 n5 Bool.false)), (AV.int IntKind.i64 (LF.l4 S g ga b ba n4 n5 Bool.false))])]))))))
 (Q Ex.ret [AV.top, (AV.ros c1 o1 n1 k1 e1), (AV.ros c2 o2 n2 k2 e2), AV.top, AV.top, AV.top, AV.top, (AV.ptr 1 0), (AV.ptr 2 0), (AV.int IntKind.i64 i), AV.top, AV.top, AV.top, AV.top, AV.top, AV.top, AV.top, AV.top, AV.top, AV.top, AV.top, AV.top, AV.top, AV.top, AV.top, AV.top, AV.top, AV.top, AV.top, AV.top, AV.top, AV.top, AV.top, AV.top, AV.top, AV.top, AV.top, AV.top, AV.top, AV.top, AV.top, AV.top, AV.top, AV.top, AV.top, AV.top, AV.top, AV.top, AV.top, AV.top, AV.top, AV.top, AV.top, AV.top] [(Blk.cells p), (Blk.cells [(AV.int IntKind.i64 (LF.l1 S g ga b ba n n3 Bool.true)), (AV.int IntKind.i64 (LF.l2 S g ga b ba n n3 Bool.true)), (AV.int IntKind.i64 (LF.l3 S g ga b ba n n3 Bool.true)), (AV.int IntKind.i64 (LF.l4 S g ga b ba n n3 Bool.true))]), (Blk.cells [(AV.int IntKind.i64 (LF.l1 S g ga b ba n4 n5 Bool.false)), (AV.int IntKind.i64 (LF.l2 S g ga b ba n4 n5 Bool.false)), (AV.int IntKind.i64 (LF.l3 S g ga b ba n4 n5 Bool.false)), (AV.int IntKind.i64 (LF.l4 S g ga b ba n4 n5 Bool.false))])])))))))))))))))
 ((n < (Int.ofNat 9223372036854775808)) ∧
 (Chk (ops0.inr i n1)
 (∃ n4 : Int, ((Nth c1 (ops0.adr o1 i 1) (AV.int IntKind.i64 n4)) ∧
 (Chk (ops0.inr i n2)
 (∃ n5 : Int, ((Nth c2 (ops0.adr o2 i 1) (AV.int IntKind.i64 n5)) ∧
 (Br (ops0.cmp BinOp.neq (ops0.bin BinOp.rem IntKind.i64 i (Int.ofNat 3)) (Int.ofNat 1))
 ((n4 < (Int.ofNat 9223372036854775808)) ∧
 (∃ l : (List Int), ((([(AV.int IntKind.i64 (LF.l1 S g ga b ba n n3 Bool.false))] : (List AV)) = (List.map (AV.int IntKind.i64) l)) ∧
 (∃ l1 : (List Int), ((([(AV.int IntKind.i64 (LF.l1 S g ga b ba n4 n5 Bool.true))] : (List AV)) = (List.map (AV.int IntKind.i64) l1)) ∧
 (Br (ops0.eqi l l1)
 (∃ l2 : (List Int), ((([(AV.int IntKind.i64 (LF.l2 S g ga b ba n n3 Bool.false))] : (List AV)) = (List.map (AV.int IntKind.i64) l2)) ∧
 (∃ l3 : (List Int), ((([(AV.int IntKind.i64 (LF.l2 S g ga b ba n4 n5 Bool.true))] : (List AV)) = (List.map (AV.int IntKind.i64) l3)) ∧
 (Br (ops0.eqi l2 l3)
 (∃ l4 : (List Int), ((([(AV.int IntKind.i64 (LF.l3 S g ga b ba n n3 Bool.false))] : (List AV)) = (List.map (AV.int IntKind.i64) l4)) ∧
 (∃ l5 : (List Int), ((([(AV.int IntKind.i64 (LF.l3 S g ga b ba n4 n5 Bool.true))] : (List AV)) = (List.map (AV.int IntKind.i64) l5)) ∧
 (Br (ops0.eqi l4 l5)
 (∃ l6 : (List Int), ((([(AV.int IntKind.i64 (LF.l4 S g ga b ba n n3 Bool.false))] : (List AV)) = (List.map (AV.int IntKind.i64) l6)) ∧
 (∃ l7 : (List Int), ((([(AV.int IntKind.i64 (LF.l4 S g ga b ba n4 n5 Bool.true))] : (List AV)) = (List.map (AV.int IntKind.i64) l7)) ∧
 (Br (ops0.eqi l6 l7)
 (Q Ex.norm [AV.top, (AV.ros c1 o1 n1 k1 e1), (AV.ros c2 o2 n2 k2 e2), AV.top, AV.top, AV.top, AV.top, (AV.ptr 1 0), (AV.ptr 2 0), (AV.int IntKind.i64 (ops0.bin BinOp.add IntKind.i64 i (Int.ofNat 1))), AV.top, AV.top, AV.top, AV.top, AV.top, AV.top, AV.top, AV.top, AV.top, AV.top, AV.top, AV.top, AV.top, AV.top, AV.top, AV.top, AV.top, AV.top, AV.top, AV.top, AV.top, AV.top, AV.top, AV.top, AV.top, AV.top, AV.top, AV.top, AV.top, AV.top, AV.top, AV.top, AV.top, AV.top, AV.top, AV.top, AV.top, AV.top, AV.top, AV.top, AV.top, AV.top, AV.top, AV.top] [(Blk.cells p), (Blk.cells [(AV.int IntKind.i64 (LF.l1 S g ga b ba n n3 Bool.false)), (AV.int IntKind.i64 (LF.l2 S g ga b ba n n3 Bool.false)), (AV.int IntKind.i64 (LF.l3 S g ga b ba n n3 Bool.false)), (AV.int IntKind.i64 (LF.l4 S g ga b ba n n3 Bool.false))]), (Blk.cells [(AV.int IntKind.i64 (LF.l1 S g ga b ba n4 n5 Bool.true)), (AV.int IntKind.i64 (LF.l2 S g ga b ba n4 n5 Bool.true)), (AV.int IntKind.i64 (LF.l3 S g ga b ba n4 n5 Bool.true)), (AV.int IntKind.i64 (LF.l4 S g ga b ba n4 n5 Bool.true))])])
 (Q Ex.ret [AV.top, (AV.ros c1 o1 n1 k1 e1), (AV.ros c2 o2 n2 k2 e2), AV.top, AV.top, AV.top, AV.top, (AV.ptr 1 0), (AV.ptr 2 0), (AV.int IntKind.i64 i), AV.top, AV.top, AV.top, AV.top, AV.top, AV.top, AV.top, AV.top, AV.top, AV.top, AV.top, AV.top, AV.top, AV.top, AV.top, AV.top, AV.top, AV.top, AV.top, AV.top, AV.top, AV.top, AV.top, AV.top, AV.top, AV.top, AV.top, AV.top, AV.top, AV.top, AV.top, AV.top, AV.top, AV.top, AV.top, AV.top, AV.top, AV.top, AV.top, AV.top, AV.top, AV.top, AV.top, AV.top] [(Blk.cells p), (Blk.cells [(AV.int IntKind.i64 (LF.l1 S g ga b ba n n3 Bool.false)), (AV.int IntKind.i64 (LF.l2 S g ga b ba n n3 Bool.false)), (AV.int IntKind.i64 (LF.l3 S g ga b ba n n3 Bool.false)), (AV.int IntKind.i64 (LF.l4 S g ga b ba n n3 Bool.false))]), (Blk.cells [(AV.int IntKind.i64 (LF.l1 S g ga b ba n4 n5 Bool.true)), (AV.int IntKind.i64 (LF.l2 S g ga b ba n4 n5 Bool.true)), (AV.int IntKind.i64 (LF.l3 S g ga b ba n4 n5 Bool.true)), (AV.int IntKind.i64 (LF.l4 S g ga b ba n4 n5 Bool.true))])]))))))
 (Q Ex.ret [AV.top, (AV.ros c1 o1 n1 k1 e1), (AV.ros c2 o2 n2 k2 e2), AV.top, AV.top, AV.top, AV.top, (AV.ptr 1 0), (AV.ptr 2 0), (AV.int IntKind.i64 i), AV.top, AV.top, AV.top, AV.top, AV.top, AV.top, AV.top, AV.top, AV.top, AV.top, AV.top, AV.top, AV.top, AV.top, AV.top, AV.top, AV.top, AV.top, AV.top, AV.top, AV.top, AV.top, AV.top, AV.top, AV.top, AV.top, AV.top, AV.top, AV.top, AV.top, AV.top, AV.top, AV.top, AV.top, AV.top, AV.top, AV.top, AV.top, AV.top, AV.top, AV.top, AV.top, AV.top, AV.top] [(Blk.cells p), (Blk.cells [(AV.int IntKind.i64 (LF.l1 S g ga b ba n n3 Bool.false)), (AV.int IntKind.i64 (LF.l2 S g ga b ba n n3 Bool.false)), (AV.int IntKind.i64 (LF.l3 S g ga b ba n n3 Bool.false)), (AV.int IntKind.i64 (LF.l4 S g ga b ba n n3 Bool.false))]), (Blk.cells [(AV.int IntKind.i64 (LF.l1 S g ga b ba n4 n5 Bool.true)), (AV.int IntKind.i64 (LF.l2 S g ga b ba n4 n5 Bool.true)), (AV.int IntKind.i64 (LF.l3 S g ga b ba n4 n5 Bool.true)), (AV.int IntKind.i64 (LF.l4 S g ga b ba n4 n5 Bool.true))])]))))))
 (Q Ex.ret [AV.top, (AV.ros c1 o1 n1 k1 e1), (AV.ros c2 o2 n2 k2 e2), AV.top, AV.top, AV.top, AV.top, (AV.ptr 1 0), (AV.ptr 2 0), (AV.int IntKind.i64 i), AV.top, AV.top, AV.top, AV.top, AV.top, AV.top, AV.top, AV.top, AV.top, AV.top, AV.top, AV.top, AV.top, AV.top, AV.top, AV.top, AV.top, AV.top, AV.top, AV.top, AV.top, AV.top, AV.top, AV.top, AV.top, AV.top, AV.top, AV.top, AV.top, AV.top, AV.top, AV.top, AV.top, AV.top, AV.top, AV.top, AV.top, AV.top, AV.top, AV.top, AV.top, AV.top, AV.top, AV.top] [(Blk.cells p), (Blk.cells [(AV.int IntKind.i64 (LF.l1 S g ga b ba n n3 Bool.false)), (AV.int IntKind.i64 (LF.l2 S g ga b ba n n3 Bool.false)), (AV.int IntKind.i64 (LF.l3 S g ga b ba n n3 Bool.false)), (AV.int IntKind.i64 (LF.l4 S g ga b ba n n3 Bool.false))]), (Blk.cells [(AV.int IntKind.i64 (LF.l1 S g ga b ba n4 n5 Bool.true)), (AV.int IntKind.i64 (LF.l2 S g ga b ba n4 n5 Bool.true)), (AV.int IntKind.i64 (LF.l3 S g ga b ba n4 n5 Bool.true)), (AV.int IntKind.i64 (LF.l4 S g ga b ba n4 n5 Bool.true))])]))))))
 (Q Ex.ret [AV.top, (AV.ros c1 o1 n1 k1 e1), (AV.ros c2 o2 n2 k2 e2), AV.top, AV.top, AV.top, AV.top, (AV.ptr 1 0), (AV.ptr 2 0), (AV.int IntKind.i64 i), AV.top, AV.top, AV.top, AV.top, AV.top, AV.top, AV.top, AV.top, AV.top, AV.top, AV.top, AV.top, AV.top, AV.top, AV.top, AV.top, AV.top, AV.top, AV.top, AV.top, AV.top, AV.top, AV.top, AV.top, AV.top, AV.top, AV.top, AV.top, AV.top, AV.top, AV.top, AV.top, AV.top, AV.top, AV.top, AV.top, AV.top, AV.top, AV.top, AV.top, AV.top, AV.top, AV.top, AV.top] [(Blk.cells p), (Blk.cells [(AV.int IntKind.i64 (LF.l1 S g ga b ba n n3 Bool.false)), (AV.int IntKind.i64 (LF.l2 S g ga b ba n n3 Bool.false)), (AV.int IntKind.i64 (LF.l3 S g ga b ba n n3 Bool.false)), (AV.int IntKind.i64 (LF.l4 S g ga b ba n n3 Bool.false))]), (Blk.cells [(AV.int IntKind.i64 (LF.l1 S g ga b ba n4 n5 Bool.true)), (AV.int IntKind.i64 (LF.l2 S g ga b ba n4 n5 Bool.true)), (AV.int IntKind.i64 (LF.l3 S g ga b ba n4 n5 Bool.true)), (AV.int IntKind.i64 (LF.l4 S g ga b ba n4 n5 Bool.true))])])))))))
 ((n4 < (Int.ofNat 9223372036854775808)) ∧
 (∃ l : (List Int), ((([(AV.int IntKind.i64 (LF.l1 S g ga b ba n n3 Bool.false))] : (List AV)) = (List.map (AV.int IntKind.i64) l)) ∧
 (∃ l1 : (List Int), ((([(AV.int IntKind.i64 (LF.l1 S g ga b ba n4 n5 Bool.false))] : (List AV)) = (List.map (AV.int IntKind.i64) l1)) ∧
 (Br (ops0.eqi l l1)
 (∃ l2 : (List Int), ((([(AV.int IntKind.i64 (LF.l2 S g ga b ba n n3 Bool.false))] : (List AV)) = (List.map (AV.int IntKind.i64) l2)) ∧
 (∃ l3 : (List Int), ((([(AV.int IntKind.i64 (LF.l2 S g ga b ba n4 n5 Bool.false))] : (List AV)) = (List.map (AV.int IntKind.i64) l3)) ∧
 (Br (ops0.eqi l2 l3)
 (∃ l4 : (List Int), ((([(AV.int IntKind.i64 (LF.l3 S g ga b ba n n3 Bool.false))] : (List AV)) = (List.map (AV.int IntKind.i64) l4)) ∧
 (∃ l5 : (List Int), ((([(AV.int IntKind.i64 (LF.l3 S g ga b ba n4 n5 Bool.false))] : (List AV)) = (List.map (AV.int IntKind.i64) l5)) ∧
 (Br (ops0.eqi l4 l5)
 (∃ l6 : (List Int), ((([(AV.int IntKind.i64 (LF.l4 S g ga b ba n n3 Bool.false))] : (List AV)) = (List.map (AV.int IntKind.i64) l6)) ∧
 (∃ l7 : (List Int), ((([(AV.int IntKind.i64 (LF.l4 S g ga b ba n4 n5 Bool.false))] : (List AV)) = (List.map (AV.int IntKind.i64) l7)) ∧
 (Br (ops0.eqi l6 l7)
 (Q Ex.norm [AV.top, (AV.ros c1 o1 n1 k1 e1), (AV.ros c2 o2 n2 k2 e2), AV.top, AV.top, AV.top, AV.top, (AV.ptr 1 0), (AV.ptr 2 0), (AV.int IntKind.i64 (ops0.bin BinOp.add IntKind.i64 i (Int.ofNat 1))), AV.top, AV.top, AV.top, AV.top, AV.top, AV.top, AV.top, AV.top, AV.top, AV.top, AV.top, AV.top, AV.top, AV.top, AV.top, AV.top, AV.top, AV.top, AV.top, AV.top, AV.top, AV.top, AV.top, AV.top, AV.top, AV.top, AV.top, AV.top, AV.top, AV.top, AV.top, AV.top, AV.top, AV.top, AV.top, AV.top, AV.top, AV.top, AV.top, AV.top, AV.top, AV.top, AV.top, AV.top] [(Blk.cells p), (Blk.cells [(AV.int IntKind.i64 (LF.l1 S g ga b ba n n3 Bool.false)), (AV.int IntKind.i64 (LF.l2 S g ga b ba n n3 Bool.false)), (AV.int IntKind.i64 (LF.l3 S g ga b ba n n3 Bool.false)), (AV.int IntKind.i64 (LF.l4 S g ga b ba n n3 Bool.false))]), (Blk.cells [(AV.int IntKind.i64 (LF.l1 S g ga b ba n4 n5 Bool.false)), (AV.int IntKind.i64 (LF.l2 S g ga b ba n4 n5 Bool.false)), (AV.int IntKind.i64 (LF.l3 S g ga b ba n4 n5 Bool.false)), (AV.int IntKind.i64 (LF.l4 S g ga b ba n4 n5 Bool.false))])])
 (Q Ex.ret [AV.top, (AV.ros c1 o1 n1 k1 e1), (AV.ros c2 o2 n2 k2 e2), AV.top, AV.top, AV.top, AV.top, (AV.ptr 1 0), (AV.ptr 2 0), (AV.int IntKind.i64 i), AV.top, AV.top, AV.top, AV.top, AV.top, AV.top, AV.top, AV.top, AV.top, AV.top, AV.top, AV.top, AV.top, AV.top, AV.top, AV.top, AV.top, AV.top, AV.top, AV.top, AV.top, AV.top, AV.top, AV.top, AV.top, AV.top, AV.top, AV.top, AV.top, AV.top, AV.top, AV.top, AV.top, AV.top, AV.top, AV.top, AV.top, AV.top, AV.top, AV.top, AV.top, AV.top, AV.top, AV.top] [(Blk.cells p), (Blk.cells [(AV.int IntKind.i64 (LF.l1 S g ga b ba n n3 Bool.false)), (AV.int IntKind.i64 (LF.l2 S g ga b ba n n3 Bool.false)), (AV.int IntKind.i64 (LF.l3 S g ga b ba n n3 Bool.false)), (AV.int IntKind.i64 (LF.l4 S g ga b ba n n3 Bool.false))]), (Blk.cells [(AV.int IntKind.i64 (LF.l1 S g ga b ba n4 n5 Bool.false)), (AV.int IntKind.i64 (LF.l2 S g ga b ba n4 n5 Bool.false)), (AV.int IntKind.i64 (LF.l3 S g ga b ba n4 n5 Bool.false)), (AV.int IntKind.i64 (LF.l4 S g ga b ba n4 n5 Bool.false))])]))))))
 (Q Ex.ret [AV.top, (AV.ros c1 o1 n1 k1 e1), (AV.ros c2 o2 n2 k2 e2), AV.top, AV.top, AV.top, AV.top, (AV.ptr 1 0), (AV.ptr 2 0), (AV.int IntKind.i64 i), AV.top, AV.top, AV.top, AV.top, AV.top, AV.top, AV.top, AV.top, AV.top, AV.top, AV.top, AV.top, AV.top, AV.top, AV.top, AV.top, AV.top, AV.top, AV.top, AV.top, AV.top, AV.top, AV.top, AV.top, AV.top, AV.top, AV.top, AV.top, AV.top, AV.top, AV.top, AV.top, AV.top, AV.top, AV.top, AV.top, AV.top, AV.top, AV.top, AV.top, AV.top, AV.top, AV.top, AV.top] [(Blk.cells p), (Blk.cells [(AV.int IntKind.i64 (LF.l1 S g ga b ba n n3 Bool.false)), (AV.int IntKind.i64 (LF.l2 S g ga b ba n n3 Bool.false)), (AV.int IntKind.i64 (LF.l3 S g ga b ba n n3 Bool.false)), (AV.int IntKind.i64 (LF.l4 S g ga b ba n n3 Bool.false))]), (Blk.cells [(AV.int IntKind.i64 (LF.l1 S g ga b ba n4 n5 Bool.false)), (AV.int IntKind.i64 (LF.l2 S g ga b ba n4 n5 Bool.false)), (AV.int IntKind.i64 (LF.l3 S g ga b ba n4 n5 Bool.false)), (AV.int IntKind.i64 (LF.l4 S g ga b ba n4 n5 Bool.false))])]))))))
 (Q Ex.ret [AV.top, (AV.ros c1 o1 n1 k1 e1), (AV.ros c2 o2 n2 k2 e2), AV.top, AV.top, AV.top, AV.top, (AV.ptr 1 0), (AV.ptr 2 0), (AV.int IntKind.i64 i), AV.top, AV.top, AV.top, AV.top, AV.top, AV.top, AV.top, AV.top, AV.top, AV.top, AV.top, AV.top, AV.top, AV.top, AV.top, AV.top, AV.top, AV.top, AV.top, AV.top, AV.top, AV.top, AV.top, AV.top, AV.top, AV.top, AV.top, AV.top, AV.top, AV.top, AV.top, AV.top, AV.top, AV.top, AV.top, AV.top, AV.top, AV.top, AV.top, AV.top, AV.top, AV.top, AV.top, AV.top] [(Blk.cells p), (Blk.cells [(AV.int IntKind.i64 (LF.l1 S g ga b ba n n3 Bool.false)), (AV.int IntKind.i64 (LF.l2 S g ga b ba n n3 Bool.false)), (AV.int IntKind.i64 (LF.l3 S g ga b ba n n3 Bool.false)), (AV.int IntKind.i64 (LF.l4 S g ga b ba n n3 Bool.false))]), (Blk.cells [(AV.int IntKind.i64 (LF.l1 S g ga b ba n4 n5 Bool.false)), (AV.int IntKind.i64 (LF.l2 S g ga b ba n4 n5 Bool.false)), (AV.int IntKind.i64 (LF.l3 S g ga b ba n4 n5 Bool.false)), (AV.int IntKind.i64 (LF.l4 S g ga b ba n4 n5 Bool.false))])]))))))
 (Q Ex.ret [AV.top, (AV.ros c1 o1 n1 k1 e1), (AV.ros c2 o2 n2 k2 e2), AV.top, AV.top, AV.top, AV.top, (AV.ptr 1 0), (AV.ptr 2 0), (AV.int IntKind.i64 i), AV.top, AV.top, AV.top, AV.top, AV.top, AV.top, AV.top, AV.top, AV.top, AV.top, AV.top, AV.top, AV.top, AV.top, AV.top, AV.top, AV.top, AV.top, AV.top, AV.top, AV.top, AV.top, AV.top, AV.top, AV.top, AV.top, AV.top, AV.top, AV.top, AV.top, AV.top, AV.top, AV.top, AV.top, AV.top, AV.top, AV.top, AV.top, AV.top, AV.top, AV.top, AV.top, AV.top, AV.top] [(Blk.cells p), (Blk.cells [(AV.int IntKind.i64 (LF.l1 S g ga b ba n n3 Bool.false)), (AV.int IntKind.i64 (LF.l2 S g ga b ba n n3 Bool.false)), (AV.int IntKind.i64 (LF.l3 S g ga b ba n n3 Bool.false)), (AV.int IntKind.i64 (LF.l4 S g ga b ba n n3 Bool.false))]), (Blk.cells [(AV.int IntKind.i64 (LF.l1 S g ga b ba n4 n5 Bool.false)), (AV.int IntKind.i64 (LF.l2 S g ga b ba n4 n5 Bool.false)), (AV.int IntKind.i64 (LF.l3 S g ga b ba n4 n5 Bool.false)), (AV.int IntKind.i64 (LF.l4 S g ga b ba n4 n5 Bool.false))])]))))))))))))))))))))))
 (Q (Ex.exit 0) [AV.top, (AV.ros c1 o1 n1 k1 e1), (AV.ros c2 o2 n2 k2 e2), AV.top, AV.top, AV.top, AV.top, (AV.ptr 1 0), (AV.ptr 2 0), (AV.int IntKind.i64 i), AV.top, AV.top, AV.top, AV.top, AV.top, AV.top, AV.top, AV.top, AV.top, AV.top, AV.top, AV.top, AV.top, AV.top, AV.top, AV.top, AV.top, AV.top, AV.top, AV.top, AV.top, AV.top, AV.top, AV.top, AV.top, AV.top, AV.top, AV.top, AV.top, AV.top, AV.top, AV.top, AV.top, AV.top, AV.top, AV.top, AV.top, AV.top, AV.top, AV.top, AV.top, AV.top, AV.top, AV.top] [(Blk.cells p), (Blk.cells [(AV.int IntKind.i64 g), (AV.int IntKind.i64 ga), (AV.int IntKind.i64 b), (AV.int IntKind.i64 ba)]), (Blk.cells [(AV.int IntKind.i64 g), (AV.int IntKind.i64 ga), (AV.int IntKind.i64 b), (AV.int IntKind.i64 ba)])]))
 (Q (Ex.exit 0) [AV.top, (AV.ros c1 o1 n1 k1 e1), (AV.ros c2 o2 n2 k2 e2), AV.top, AV.top, AV.top, AV.top, (AV.ptr 1 0), (AV.ptr 2 0), (AV.int IntKind.i64 i), AV.top, AV.top, AV.top, AV.top, AV.top, AV.top, AV.top, AV.top, AV.top, AV.top, AV.top, AV.top, AV.top, AV.top, AV.top, AV.top, AV.top, AV.top, AV.top, AV.top, AV.top, AV.top, AV.top, AV.top, AV.top, AV.top, AV.top, AV.top, AV.top, AV.top, AV.top, AV.top, AV.top, AV.top, AV.top, AV.top, AV.top, AV.top, AV.top, AV.top, AV.top, AV.top, AV.top, AV.top] [(Blk.cells p), (Blk.cells [(AV.int IntKind.i64 g), (AV.int IntKind.i64 ga), (AV.int IntKind.i64 b), (AV.int IntKind.i64 ba)]), (Blk.cells [(AV.int IntKind.i64 g), (AV.int IntKind.i64 ga), (AV.int IntKind.i64 b), (AV.int IntKind.i64 ba)])]))) := by kernel_rfl

theorem vc8 (S : LF) (g ga b ba : Int) (c1 : List AV) (o1 n1 k1 : Nat) (e1 : Bool) (c2 : List AV) (o2 n2 k2 : Nat) (e2 : Bool) (Q : AV → Prop) :
  (vcall (vcA kdYes (cnS6 S) (ln8 S)) ops0 (tabOne 8 vf8) 200 vf8 [.agg [.int .i64 g, .int .i64 ga, .int .i64 b, .int .i64 ba], .ros c1 o1 n1 k1 e1, .ros c2 o2 n2 k2 e2] [] (fun r _ _ => Q r)) =
 (((((0 : Nat) = 0) ∧
 ((VCis lp8 lp8) ∧
 ((([AV.top, (AV.ros c1 o1 n1 k1 e1), (AV.ros c2 o2 n2 k2 e2), AV.top, AV.top, AV.top, AV.top, (AV.ptr 1 0), (AV.ptr 2 0), (AV.int IntKind.i64 (Int.ofNat 0)), AV.top, AV.top, AV.top, AV.top, AV.top, AV.top, AV.top, AV.top, AV.top, AV.top, AV.top, AV.top, AV.top, AV.top, AV.top, AV.top, AV.top, AV.top, AV.top, AV.top, AV.top, AV.top, AV.top, AV.top, AV.top, AV.top, AV.top, AV.top, AV.top, AV.top, AV.top, AV.top, AV.top, AV.top, AV.top, AV.top, AV.top, AV.top, AV.top, AV.top, AV.top, AV.top, AV.top, AV.top] : Fr) = [AV.top, (AV.ros c1 o1 n1 k1 e1), (AV.ros c2 o2 n2 k2 e2), AV.top, AV.top, AV.top, AV.top, (AV.ptr 1 0), (AV.ptr 2 0), (AV.int IntKind.i64 (Int.ofNat 0)), AV.top, AV.top, AV.top, AV.top, AV.top, AV.top, AV.top, AV.top, AV.top, AV.top, AV.top, AV.top, AV.top, AV.top, AV.top, AV.top, AV.top, AV.top, AV.top, AV.top, AV.top, AV.top, AV.top, AV.top, AV.top, AV.top, AV.top, AV.top, AV.top, AV.top, AV.top, AV.top, AV.top, AV.top, AV.top, AV.top, AV.top, AV.top, AV.top, AV.top, AV.top, AV.top, AV.top, AV.top]) ∧
 ((flatL [(AV.int IntKind.i64 g), (AV.int IntKind.i64 ga), (AV.int IntKind.i64 b), (AV.int IntKind.i64 ba)]) ∧
 ((IOK c1 o1 n1) ∧
 ((IOK c2 o2 n2) ∧
 (((g : Int) = g) ∧
 (((ga : Int) = ga) ∧
 (((b : Int) = b) ∧
 ((ba : Int) = ba)))))))))) ∧
 (True ∧
 (Q (AV.bool Bool.true))))) := by kernel_rfl

theorem sub1 {a : Int} (h1 : 1 ≤ a) (h : a < 9223372036854775808) : ops0.bin .sub .i64 a (Int.ofNat 1) = a - 1 := i64_wrap (by simp only [Int.ofNat_eq_natCast]; omega) (by simp only [Int.ofNat_eq_natCast]; omega)
theorem mnxT (x y : Int) : ops0.mnx true x y = if x < y then y else x := rfl
theorem mnxF (x y : Int) : ops0.mnx false x y = if y < x then y else x := rfl
theorem min1 (g a : Int) : (if a - 1 < g then a - 1 else g) = if a ≤ g then a - 1 else g := by
  by_cases h : a ≤ g
  · rw [if_pos h]
    split <;> omega
  · rw [if_neg h, if_neg (by omega)]
theorem call20 (g ga b ba a t : Int) (gd : Bool) (ha : a < 9223372036854775808) : CallTo Try.prog 20 [.agg [.int .i64 g, .int .i64 ga, .int .i64 b, .int .i64 ba], .int .i64 a, .int .i64 t, .bool gd] [] (.agg (cellsQ (lrn ⟨g, ga, b, ba⟩ a t gd))) [] [] := by
  refine call_0 (noCn_ok _) (noLn_ok _) (tabN_ok ok20) (tabN_self 20 vf20) (n := 200) (g := kdNo) ?_ rfl
  rw [vc20, iLss, iLss, iLss, iLeq, iEql, mnxT, mnxF]
  unfold lrn cellsQ
  refine Br.mk (fun h => ?_) (fun h => ?_)
  · rw [if_pos (show a < 1 from of_decide_eq_true h)]; exact ⟨rfl, rfl⟩
  · have h : ¬ a < 1 := of_decide_eq_false h
    rw [if_neg h, sub1 (by omega) ha, min1]
    refine Br.mk (fun h1 => ?_) (fun h1 => ?_)
    · rw [if_pos (show t < 1 from of_decide_eq_true h1)]; exact ⟨rfl, rfl⟩
    · rw [if_neg (show ¬ t < 1 from of_decide_eq_false h1)]
      cases gd with
      | true =>
        rw [if_pos (show (true = true) from rfl)]
        refine Br.t rfl (Br.mk (fun h2 => ?_) (fun h2 => ?_))
        · have h2 : b ≤ a := of_decide_eq_true h2
          simp only [if_pos h2]; exact ⟨rfl, trivial⟩
        · have h2 : ¬ b ≤ a := of_decide_eq_false h2
          simp only [if_neg h2]; exact ⟨trivial, trivial⟩
      | false =>
        rw [if_neg (show ¬ (false = true) by simp)]
        refine Br.f rfl (Br.mk (fun h2 => ?_) (fun h2 => ?_))
        · have h2 : ba = 0 := of_decide_eq_true h2
          simp only [if_pos h2]; exact ⟨trivial, trivial⟩
        · have h2 : ¬ ba = 0 := of_decide_eq_false h2
          simp only [if_neg h2]
          refine Br.mk (fun h3 => ?_) (fun h3 => ?_)
          · have h3 : a < b := of_decide_eq_true h3
            simp only [if_pos h3]; exact ⟨trivial, trivial⟩
          · have h3 : ¬ a < b := of_decide_eq_false h3
            simp only [if_neg h3]; exact ⟨trivial, trivial⟩
theorem call21 (g ga b ba a t : Int) (gd : Bool) (ha : a < 9223372036854775808) : CallTo Try.prog 21 [.agg [.int .i64 g, .int .i64 ga, .int .i64 b, .int .i64 ba], .int .i64 a, .int .i64 t, .bool gd] [] (.agg (cellsQ (lrn ⟨g, ga, b, ba⟩ a t gd))) [] [] := by
  refine call_0 (noCn_ok _) (noLn_ok _) (tabN_ok ok21) (tabN_self 21 vf21) (n := 200) (g := kdNo) ?_ rfl
  rw [vc21, iLss, iLss, iLss, iLeq, iEql, iGtr, iGeq]
  unfold lrn cellsQ
  refine Br.mk (fun h => ?_) (fun h => ?_)
  · rw [if_pos (show a < 1 from of_decide_eq_true h)]; exact ⟨rfl, rfl⟩
  · have h : ¬ a < 1 := of_decide_eq_false h
    rw [if_neg h, sub1 (by omega) ha]
    refine Br.mk (fun h1 => ?_) (fun h1 => ?_)
    · rw [if_pos (show t < 1 from of_decide_eq_true h1)]; exact ⟨rfl, rfl⟩
    · rw [if_neg (show ¬ t < 1 from of_decide_eq_false h1)]
      cases gd with
      | true =>
        rw [if_pos (show (true = true) from rfl)]
        refine Br.t rfl (Br.mk (fun h2 => Br.mk (fun h3 => ?_) (fun h3 => ?_)) (fun h2 => Br.mk (fun h3 => ?_) (fun h3 => ?_)))
        · have h2 : g < a := of_decide_eq_true h2
          have h3 : b ≤ a := of_decide_eq_true h3
          simp only [if_pos h2, if_pos h3]; exact ⟨rfl, trivial⟩
        · have h2 : g < a := of_decide_eq_true h2
          have h3 : ¬ b ≤ a := of_decide_eq_false h3
          simp only [if_pos h2, if_neg h3]; exact ⟨trivial, trivial⟩
        · have h2 : ¬ g < a := of_decide_eq_false h2
          have h3 : b ≤ a := of_decide_eq_true h3
          simp only [if_neg h2, if_pos h3]; exact ⟨rfl, trivial⟩
        · have h2 : ¬ g < a := of_decide_eq_false h2
          have h3 : ¬ b ≤ a := of_decide_eq_false h3
          simp only [if_neg h2, if_neg h3]; exact ⟨trivial, trivial⟩
      | false =>
        rw [if_neg (show ¬ (false = true) by simp)]
        refine Br.f rfl (Br.mk (fun h2 => ?_) (fun h2 => ?_))
        · have h2 : ba = 0 := of_decide_eq_true h2
          simp only [if_pos h2]
          refine Br.mk (fun h4 => ?_) (fun h4 => ?_)
          · have h4 : a ≤ g := of_decide_eq_true h4
            simp only [if_pos h4]; exact ⟨trivial, trivial⟩
          · have h4 : ¬ a ≤ g := of_decide_eq_false h4
            simp only [if_neg h4]; exact ⟨trivial, trivial⟩
        · have h2 : ¬ ba = 0 := of_decide_eq_false h2
          simp only [if_neg h2]
          refine Br.mk (fun h3 => ?_) (fun h3 => ?_)
          · have h3 : a < b := of_decide_eq_true h3
            simp only [if_pos h3]
            refine Br.mk (fun h4 => ?_) (fun h4 => ?_)
            · have h4 : a ≤ g := of_decide_eq_true h4
              simp only [if_pos h4]; exact ⟨trivial, trivial⟩
            · have h4 : ¬ a ≤ g := of_decide_eq_false h4
              simp only [if_neg h4]; exact ⟨trivial, trivial⟩
          · have h3 : ¬ a < b := of_decide_eq_false h3
            simp only [if_neg h3]
            refine Br.mk (fun h4 => ?_) (fun h4 => ?_)
            · have h4 : a ≤ g := of_decide_eq_true h4
              simp only [if_pos h4]; exact ⟨trivial, trivial⟩
            · have h4 : ¬ a ≤ g := of_decide_eq_false h4
              simp only [if_neg h4]; exact ⟨trivial, trivial⟩

theorem cnS6_ok : CnOK Try.prog (cnS6 lf0) := by
  intro f vals H p x e hp
  unfold cnS6 at e
  split at e <;> cases e
  · exact CallTo.lookV (H := H) (call20 _ _ _ _ _ _ _ hp) (.cons (Vw.agg H (Still.flat (flat4 _ _ _ _))) (.cons (Vw.int H _ _) (.cons (Vw.int H _ _) (.cons (Vw.same fun _ _ => rfl) .nil))))
  · exact CallTo.lookV (H := H) (call21 _ _ _ _ _ _ _ hp) (.cons (Vw.agg H (Still.flat (flat4 _ _ _ _))) (.cons (Vw.int H _ _) (.cons (Vw.int H _ _) (.cons (Vw.same fun _ _ => rfl) .nil))))
  · exact CallTo.lookV (H := H) call11 .nil

theorem isAt_eq {cs : List AV} {o n : Nat} {l : List Int} (h : IsAt cs o n l) : isA cs o n = l := by
  unfold isA
  apply List.ext_getElem?
  intro i
  rw [List.getElem?_map, List.getElem?_take]
  rcases Nat.lt_or_ge i n with hi | hi
  · have hl : i < l.length := by rw [h.1]; exact hi
    have := (h.2 i l[i] (List.getElem?_eq_getElem hl)).1
    rw [if_pos hi, List.getElem?_drop, this, List.getElem?_eq_getElem hl]
    rfl
  · rw [if_neg (by omega), List.getElem?_eq_none (by rw [h.1]; exact hi)]
    rfl
theorem eqEx {x : Int} {r s : Prop} (h : r) : ∃ l : List Int, ([AV.int .i64 x] = List.map (AV.int .i64) l) ∧ ∃ l1 : List Int, ([AV.int .i64 x] = List.map (AV.int .i64) l1) ∧ Br (ops0.eqi l l1) r s :=
  ⟨[x], rfl, [x], rfl, Br.t (by rw [nEqi]; exact decide_eq_true rfl) h⟩

theorem body8 {p c1 c2 : List AV} {o1 n1 o2 n2 i : Nat} (k1 : Nat) (e1 : Bool) (k2 : Nat) (e2 : Bool) (q : Q4) {x y : Int} (hi1 : i < n1) (hi2 : i < n2) (hn1 : n1 < 9223372036854775808) (h1 : c1[o1 + i]? = some (.int .i64 x)) (hx : x < 9223372036854775808)
    (h2 : c2[o2 + i]? = some (.int .i64 y)) :
    BodyTo Try.prog 0 lp8 (fr8 c1 o1 n1 k1 e1 c2 o2 n2 k2 e2 (Int.ofNat i)) [.cells p, .cells (cellsQ q), .cells (cellsQ q)] .norm (fr8 c1 o1 n1 k1 e1 c2 o2 n2 k2 e2 (Int.ofNat (i + 1)))
      [.cells p, .cells (cellsQ (lrn q x y (decide (i % 3 ≠ 1)))), .cells (cellsQ (lrn q x y (decide (i % 3 ≠ 1))))] := by
  refine body_x cnS6_ok (noLn_ok _) (noTab_ok _) (n := 100) (g := kdYes) (bs := mk8) ?_ (by simp)
  have hr : ops0.bin .rem .i64 (Int.ofNat i) (Int.ofNat 3) = Int.ofNat (i % 3) := nRem
  have c1n : Nth c1 (ops0.adr o1 (Int.ofNat i) 1) (.int .i64 x) := Nth.mk (by rw [nAdr, Nat.mul_one]; exact h1)
  have c2n : Nth c2 (ops0.adr o2 (Int.ofNat i) 1) (.int .i64 y) := Nth.mk (by rw [nAdr, Nat.mul_one]; exact h2)
  obtain ⟨g, ga, b, ba⟩ := q
  show vm _ _ _ _ _ _ (fr8 c1 o1 n1 k1 e1 c2 o2 n2 k2 e2 (Int.ofNat i)) [.cells p, .cells [.int .i64 g, .int .i64 ga, .int .i64 b, .int .i64 ba], .cells [.int .i64 g, .int .i64 ga, .int .i64 b, .int .i64 ba]] _ _
  rw [vcl8, hr, nNeq, natAdd1 (by omega), nOfn, nOfn, nLss, nLss, nInr, nInr]
  refine Br.t (decide_eq_true hi1) (Br.t (decide_eq_true hi2) (Chk.mk (decide_eq_true hi1) ⟨x, c1n, Chk.mk (decide_eq_true hi2) ⟨y, c2n, ?_⟩⟩))
  by_cases hm : i % 3 ≠ 1
  · have hd := decide_eq_true hm
    rw [hd]
    exact Br.t rfl ⟨hx, Chk.mk (decide_eq_true hi1) ⟨x, c1n, Chk.mk (decide_eq_true hi2) ⟨y, c2n, Br.t rfl ⟨hx, eqEx (eqEx (eqEx (eqEx ⟨rfl, rfl, rfl⟩)))⟩⟩⟩⟩
  · have hd := decide_eq_false hm
    rw [hd]
    exact Br.f rfl ⟨hx, Chk.mk (decide_eq_true hi1) ⟨x, c1n, Chk.mk (decide_eq_true hi2) ⟨y, c2n, Br.f rfl ⟨hx, eqEx (eqEx (eqEx (eqEx ⟨rfl, rfl, rfl⟩)))⟩⟩⟩⟩

theorem loop8 {p c1 c2 : List AV} {o1 n1 o2 n2 : Nat} {l m : List Int} (k1 : Nat) (e1 : Bool) (k2 : Nat) (e2 : Bool) (q : Q4) (hn1 : n1 < 9223372036854775808) (h1 : IsAt c1 o1 n1 l) (h2 : IsAt c2 o2 n2 m) :
    ∀ lg, LoopTo Try.prog 0 lp8 (fr8 c1 o1 n1 k1 e1 c2 o2 n2 k2 e2 (Int.ofNat 0)) [.cells p, .cells (cellsQ q), .cells (cellsQ q)] lg (.exit 0) (fr8 c1 o1 n1 k1 e1 c2 o2 n2 k2 e2 (Int.ofNat (Nat.min n1 n2)))
      [.cells p, .cells (cellsQ (qst q l m (Nat.min n1 n2))), .cells (cellsQ (qst q l m (Nat.min n1 n2)))] (List.range 0 ++ lg) := by
  have hmin1 : Nat.min n1 n2 ≤ n1 := Nat.min_le_left _ _
  have hmin2 : Nat.min n1 n2 ≤ n2 := Nat.min_le_right _ _
  have hor : Nat.min n1 n2 = n1 ∨ Nat.min n1 n2 = n2 := by
    rcases Nat.le_total n1 n2 with h | h
    · exact Or.inl (Nat.min_eq_left h)
    · exact Or.inr (Nat.min_eq_right h)
  generalize Nat.min n1 n2 = d at hmin1 hmin2 hor
  refine loop_chain (P := Try.prog) (n0 := 0) (b := lp8) (ex := .exit 0) (fr' := fr8 c1 o1 n1 k1 e1 c2 o2 n2 k2 e2 (Int.ofNat d)) (H' := [.cells p, .cells (cellsQ (qst q l m d)), .cells (cellsQ (qst q l m d))]) (by intro h; cases h)
    (fun i => (fr8 c1 o1 n1 k1 e1 c2 o2 n2 k2 e2 (Int.ofNat i), [.cells p, .cells (cellsQ (qst q l m i)), .cells (cellsQ (qst q l m i))])) d 0 (fun i _ hi => ?_) ?_
  · have hl : i < l.length := by rw [h1.1]; omega
    have hm : i < m.length := by rw [h2.1]; omega
    obtain ⟨g1, g2⟩ := h1.2 i l[i] (List.getElem?_eq_getElem hl)
    obtain ⟨g3, g4⟩ := h2.2 i m[i] (List.getElem?_eq_getElem hm)
    have h := body8 (p := p) k1 e1 k2 e2 (qst q l m i) (show i < n1 by omega) (show i < n2 by omega) hn1 g1 g2 g3
    have e : qst q l m (i + 1) = lrn (qst q l m i) l[i] m[i] (decide (i % 3 ≠ 1)) := by
      show lrn (qst q l m i) (l.getD i 0) (m.getD i 0) _ = _
      rw [List.getD_eq_getElem?_getD, List.getD_eq_getElem?_getD, List.getElem?_eq_getElem hl, List.getElem?_eq_getElem hm]
      rfl
    show BodyTo _ _ _ _ _ _ (fr8 c1 o1 n1 k1 e1 c2 o2 n2 k2 e2 (Int.ofNat (i + 1))) [.cells p, .cells (cellsQ (qst q l m (i + 1))), .cells (cellsQ (qst q l m (i + 1)))]
    rw [e]
    exact h
  · rw [Nat.zero_add]
    refine body_x cnS6_ok (noLn_ok _) (noTab_ok _) (n := 100) (g := kdYes) (bs := mk8) ?_ (by simp)
    show vm _ _ _ _ _ _ (fr8 c1 o1 n1 k1 e1 c2 o2 n2 k2 e2 (Int.ofNat d)) [.cells p, .cells [.int .i64 _, .int .i64 _, .int .i64 _, .int .i64 _], .cells [.int .i64 _, .int .i64 _, .int .i64 _, .int .i64 _]] _ _
    rw [vcl8, nOfn, nOfn, nLss, nLss]
    rcases hor with hd | hd
    · exact Br.f (decide_eq_false (by omega)) ⟨rfl, rfl, rfl⟩
    · exact Br.mk (fun _ => Br.f (decide_eq_false (by omega)) ⟨rfl, rfl, rfl⟩) (fun _ => ⟨rfl, rfl, rfl⟩)

theorem ln8_ok : LnOK Try.prog (ln8 lf0) := by
  intro n0 b fr H p x e hn hp lg
  unfold ln8 at e
  split at e <;> cases e
  rename_i c1 o1 n1 k1 e1 c2 o2 n2 k2 e2 p g ga b' ba h ha d da _ _
  obtain ⟨rfl, hb, hf, _, ⟨_, hn1, l, hl⟩, ⟨_, hn2, m, hm⟩, rfl, rfl, rfl, rfl⟩ := hp
  have hb : b = lp8 := hb
  subst hb
  refine LoopTo.pre (Weak.forget (by simp) mk8) ?_ lg
  rw [hf]
  have e : lf0.out [.int .i64 h, .int .i64 ha, .int .i64 d, .int .i64 da] c1 o1 n1 c2 o2 n2 = cellsQ (qst ⟨h, ha, d, da⟩ l m (Nat.min n1 n2)) := by
    show cellsQ (qst _ (isA c1 o1 n1) (isA c2 o2 n2) _) = _
    rw [isAt_eq hl, isAt_eq hm]
  rw [e]
  exact loop8 (p := p) k1 e1 k2 e2 ⟨h, ha, d, da⟩ hn1 hl hm

theorem law8 (g ga b ba : Int) {c1 : List AV} {o1 n1 : Nat} (k1 : Nat) (e1 : Bool) {c2 : List AV} {o2 n2 : Nat} (k2 : Nat) (e2 : Bool) (h1 : IOK c1 o1 n1) (h2 : IOK c2 o2 n2) :
    ∃ H' lg, CallTo Try.prog 8 [.agg [.int .i64 g, .int .i64 ga, .int .i64 b, .int .i64 ba], .ros c1 o1 n1 k1 e1, .ros c2 o2 n2 k2 e2] [] (.bool true) H' lg := by
  have hv : vcall (vcA kdYes (cnS6 lf0) (ln8 lf0)) ops0 (tabOne 8 vf8) 200 vf8 [.agg [.int .i64 g, .int .i64 ga, .int .i64 b, .int .i64 ba], .ros c1 o1 n1 k1 e1, .ros c2 o2 n2 k2 e2] [] (fun r _ _ => r = .bool true) := by
    rw [vc8]
    exact ⟨⟨rfl, rfl, rfl, flat4 _ _ _ _, h1, h2, rfl, rfl, rfl, rfl⟩, trivial, rfl⟩
  obtain ⟨r, H', lg, hc, rfl⟩ := call_vcx cnS6_ok ln8_ok (tabOne_ok ok8) (tabOne_self 8 vf8) hv
  exact ⟨H', lg, hc⟩

end
end Go.Proofs.Vm

namespace Go.Proofs.Vm
open Go.Vm Go.ChangeShapes Go.WideShapes Go.ChangeAt Go.RowKit

set_option maxRecDepth 100000

theorem i64_lt {a : Int} (h : (Lit.int .i64 a).wf = true) : a < 9223372036854775808 := by
  have hx : -9223372036854775808 ≤ a ∧ a ≤ 9223372036854775807 := by simpa [Lit.wf, IntKind.min, IntKind.max, IntKind.signed, IntKind.bits] using h
  omega
theorem f64_lt {a : Nat} (h : (Lit.float .f64 a).wf = true) : a < 18446744073709551616 := by simpa [Lit.wf] using h
theorem trod_float {H : Type} {enc : TypeId × Value → H} {P : Program} {w : World} {base : Nat} {spare : Nat → Bool} {held : Bool} {fuel : Nat} {t : TypeId} {cs : List Value} {x : DataW H × List MemPlace} {k : FloatKind} (ht : P.underlying t = some (.float k))
    (h : DataW.trod enc P w base spare held fuel t cs = some x) : ∃ n, cs = [.float k n] ∧ (Lit.float k n).wf = true := by
  cases fuel with
  | zero => simp [DataW.trod] at h
  | succ n =>
    unfold DataW.trod at h
    rw [ht] at h
    split at h <;> simp_all

theorem spot_of' {W : World} {a : Addr} {v : Value} (h : W.cell? a = some v) : a = ⟨a.block, a.off, none⟩ ∧ a.block < W.heap.size := by
  obtain ⟨b, o, s⟩ := a
  simp only [World.cell?] at h
  constructor
  · cases s with
    | none => rfl
    | some k =>
      exfalso
      split at h <;> simp at h
  · show b < W.heap.size
    rcases Nat.lt_or_ge b W.heap.size with h' | h'
    · exact h'
    · simp [Array.getElem?_eq_none h'] at h

/-- Values side by side in memory, none of which names anything. -/
theorem open_row {W : World} {a : Addr} {n : Nat} {avs : List AV} {vs : List Value} (ha : avs.length = n) (hv : vs.length = n) (hf : flatL avs) (hone : ∀ v ∈ vs, vone v = true)
    (hrel : ∀ (i : Nat) x v, avs[i]? = some x → vs[i]? = some v → VRel noRho W x v) (hcell : ∀ (i : Nat) v, vs[i]? = some v → W.cell? (a.add i) = some v) {cap : Nat} (hcap : n ≤ cap) (hs : a.spot = none) :
    VRel noRho W (.ros avs 0 n n false) (.slice (some a) n cap) := by
  have hspot : avs ≠ [] → a = ⟨a.block, a.off, none⟩ ∧ a.block < W.heap.size := by
    intro hn
    have h0 : 0 < vs.length := by
      rw [hv, ← ha]
      exact List.length_pos_iff.2 hn
    have h1 := hcell 0 vs[0] (List.getElem?_eq_getElem h0)
    have e0 : a.add 0 = a := by simp [Addr.add]
    rw [e0] at h1
    exact spot_of' h1
  refine .ros avs 0 n n false a.block a.off (some a) cap vs (fun hn => (hspot hn).2) (fun _ b F' h => by cases h) (by omega) hone ?_ hrel (by omega) (by omega) (fun h => by cases h) (fun _ => by obtain ⟨b, o, s⟩ := a; cases hs; rfl)
  intro i v hi
  have hlt : i < vs.length := (List.getElem?_eq_some_iff.1 hi).1
  have hne : avs ≠ [] := by intro e; rw [e] at ha; simp at ha; omega
  have h1 := hcell i v hi
  rw [(hspot hne).1] at h1
  have e2 : (Addr.add ⟨a.block, a.off, none⟩ i) = ⟨a.block, a.off + i, none⟩ := by
    unfold Addr.add
    by_cases h0 : i = 0
    · subst h0; simp
    · rw [if_neg h0]
  rw [e2] at h1
  exact h1

theorem pick_row {α : Type} {n : Nat} {R : Nat → α → Prop} (h : ∀ i, i < n → ∃ x, R i x) : ∃ l : List α, l.length = n ∧ ∀ (i : Nat) x, l[i]? = some x → R i x := by
  induction n with
  | zero => exact ⟨[], rfl, fun i x hx => by cases hx⟩
  | succ n ih =>
    obtain ⟨l, h1, h2⟩ := ih fun i hi => h i (by omega)
    obtain ⟨x, hx⟩ := h n (by omega)
    refine ⟨l ++ [x], by simp [h1], fun i y hy => ?_⟩
    rcases Nat.lt_or_ge i n with hi | hi
    · rw [List.getElem?_append_left (by omega)] at hy
      exact h2 i y hy
    · have hlt : i < (l ++ [x]).length := (List.getElem?_eq_some_iff.1 hy).1
      have hin : i = n := by simp [h1] at hlt; omega
      subst hin
      rw [List.getElem?_append_right (by omega), h1, Nat.sub_self] at hy
      cases hy
      exact hx

theorem nil_rel (W : World) : VRel noRho W (.ros [] 0 0 0 true) (.slice none 0 0) :=
  .ros [] 0 0 0 true 0 0 none 0 [] (fun h => absurd rfl h) (fun h => absurd rfl h) rfl (by simp) (by simp) (by simp) (Nat.le_refl _) (Nat.le_refl _) (fun _ => rfl) (fun h => absurd rfl h)

/-- A slice of floats that came in. -/
theorem open_floats {H : Type} {enc : TypeId × Value → H} {W : World} {base : Nat} {t e : TypeId} {v : Value} {d : DataW H} {p : List MemPlace} (ht : Try.prog.underlying t = some (.slice e)) (he : Try.prog.underlying e = some (.float .f64)) (hc : Try.prog.cellsOf e = 1)
    (hval : Value.okWide Try.prog W .any base t v) (h : DataW.Trod enc Try.prog W 0 (fun _ => true) true t v d p) :
    ∃ (cs : List AV) (n c : Nat) (ex : Bool), VRel noRho W (.ros cs 0 n c ex) v ∧ FOK cs 0 n := by
  obtain ⟨a0, len, cap, rfl⟩ := okWide_slice ht hval
  obtain ⟨fuel, hf⟩ := h
  rcases DataW.trod_slice ht hf with ⟨hcs, hx⟩ | ⟨a, len', cap', elems, rest, n, _, hcs, hx, _, hl, hm, hlen, hel, hsp, hns⟩
  · simp [Value.cells] at hcs
    obtain ⟨rfl, rfl, rfl⟩ := hcs
    exact ⟨[], 0, 0, true, nil_rel W, fun a ha => (by cases ha), by decide, [], rfl, fun i x hx => by cases hx⟩
  · simp [Value.cells] at hcs
    obtain ⟨rfl, rfl, rfl⟩ := hcs
    have each : ∀ i, i < len → ∃ b : Nat, W.cell? (a.add i) = some (.float .f64 b) ∧ b < 18446744073709551616 := by
      intro i hi
      have h1 := hel i hi
      rw [hc, Nat.mul_one, List.getElem?_eq_getElem (by omega), Option.bind_eq_some_iff] at h1
      obtain ⟨cs', hcs', hy⟩ := h1
      obtain ⟨b, rfl, hw⟩ := trod_float he hy
      exact ⟨b, cell_of_cells?_one hcs', by simpa [Lit.wf] using hw⟩
    have hspot : a.spot = none := by
      simp only [Value.okWide, ht, Cell.okWide, Cell.ok] at hval
      exact hval.2.2.2.1
    obtain ⟨l, hl1, hl2⟩ := pick_row each
    refine ⟨l.map (AV.flt .f64), len, len, false, open_row (vs := l.map (Value.float .f64)) (by simp [hl1]) (by simp [hl1]) ?_ ?_ ?_ ?_ hl hspot, ?_, ?_, l, hl1, ?_⟩
    · intro x hx; obtain ⟨b, _, rfl⟩ := List.mem_map.1 hx; rfl
    · intro x hx; obtain ⟨b, _, rfl⟩ := List.mem_map.1 hx; rfl
    · intro i x v hx hv
      rw [List.getElem?_map] at hx hv
      obtain ⟨b, hb, rfl⟩ := Option.map_eq_some_iff.1 hx
      rw [hb] at hv
      cases hv
      exact .flt _ _
    · intro i v hv
      rw [List.getElem?_map] at hv
      obtain ⟨b, hb, rfl⟩ := Option.map_eq_some_iff.1 hv
      exact (hl2 i b hb).1
    · intro x hx; obtain ⟨b, _, rfl⟩ := List.mem_map.1 hx; rfl
    · have : maxLen = 9223372036854775807 := by decide
      omega
    · intro i x hx
      refine ⟨?_, (hl2 i x hx).2⟩
      rw [Nat.zero_add, List.getElem?_map, hx]
      rfl

/-- A slice of whole numbers that came in. -/
theorem open_is {H : Type} {enc : TypeId × Value → H} {W : World} {base : Nat} {t e : TypeId} {v : Value} {d : DataW H} {p : List MemPlace} (ht : Try.prog.underlying t = some (.slice e)) (he : Try.prog.underlying e = some (.int .i64)) (hc : Try.prog.cellsOf e = 1)
    (hval : Value.okWide Try.prog W .any base t v) (h : DataW.Trod enc Try.prog W 0 (fun _ => true) true t v d p) :
    ∃ (cs : List AV) (n c : Nat) (ex : Bool), VRel noRho W (.ros cs 0 n c ex) v ∧ IOK cs 0 n := by
  obtain ⟨a0, len, cap, rfl⟩ := okWide_slice ht hval
  obtain ⟨fuel, hf⟩ := h
  rcases DataW.trod_slice ht hf with ⟨hcs, hx⟩ | ⟨a, len', cap', elems, rest, n, _, hcs, hx, _, hl, hm, hlen, hel, hsp, hns⟩
  · simp [Value.cells] at hcs
    obtain ⟨rfl, rfl, rfl⟩ := hcs
    exact ⟨[], 0, 0, true, nil_rel W, fun a ha => (by cases ha), by decide, [], rfl, fun i x hx => by cases hx⟩
  · simp [Value.cells] at hcs
    obtain ⟨rfl, rfl, rfl⟩ := hcs
    have each : ∀ i, i < len → ∃ b : Int, W.cell? (a.add i) = some (.int .i64 b) ∧ b < 9223372036854775808 := by
      intro i hi
      have h1 := hel i hi
      rw [hc, Nat.mul_one, List.getElem?_eq_getElem (by omega), Option.bind_eq_some_iff] at h1
      obtain ⟨cs', hcs', hy⟩ := h1
      obtain ⟨b, rfl, _, hw⟩ := DataW.trod_int he hy
      have hx : -9223372036854775808 ≤ b ∧ b ≤ 9223372036854775807 := by simpa [Lit.wf, IntKind.min, IntKind.max, IntKind.signed, IntKind.bits] using hw
      exact ⟨b, cell_of_cells?_one hcs', by omega⟩
    have hspot : a.spot = none := by
      simp only [Value.okWide, ht, Cell.okWide, Cell.ok] at hval
      exact hval.2.2.2.1
    obtain ⟨l, hl1, hl2⟩ := pick_row each
    refine ⟨l.map (AV.int .i64), len, len, false, open_row (vs := l.map (Value.int .i64)) (by simp [hl1]) (by simp [hl1]) ?_ ?_ ?_ ?_ hl hspot, ?_, ?_, l, hl1, ?_⟩
    · intro x hx; obtain ⟨b, _, rfl⟩ := List.mem_map.1 hx; rfl
    · intro x hx; obtain ⟨b, _, rfl⟩ := List.mem_map.1 hx; rfl
    · intro i x v hx hv
      rw [List.getElem?_map] at hx hv
      obtain ⟨b, hb, rfl⟩ := Option.map_eq_some_iff.1 hx
      rw [hb] at hv
      cases hv
      exact .int _ _
    · intro i v hv
      rw [List.getElem?_map] at hv
      obtain ⟨b, hb, rfl⟩ := Option.map_eq_some_iff.1 hv
      exact (hl2 i b hb).1
    · intro x hx; obtain ⟨b, _, rfl⟩ := List.mem_map.1 hx; rfl
    · have : maxLen = 9223372036854775807 := by decide
      omega
    · intro i x hx
      refine ⟨?_, (hl2 i x hx).2⟩
      rw [Nat.zero_add, List.getElem?_map, hx]
      rfl

/-- What is known of a channel. -/
theorem open_past {W : World} {base : Nat} {t e : TypeId} {fs : Array Field} {v : Value} (ht : Try.prog.underlying t = some (.struct fs)) (he : Try.prog.underlying e = some (.int .i64)) (hc : Try.prog.cellsOf t = 4)
    (hts : Try.prog.cellTypes Try.prog.depth t = some [e, e, e, e]) (hval : Value.okWide Try.prog W .any base t v) :
    ∃ g ga b ba : Int, v = .agg #[.int .i64 g, .int .i64 ga, .int .i64 b, .int .i64 ba] ∧ VRel noRho W (.agg [.int .i64 g, .int .i64 ga, .int .i64 b, .int .i64 ba]) v := by
  simp only [Value.okWide, ht] at hval
  obtain ⟨cs, rfl, hsz, ts, h1, _, h3⟩ := hval
  rw [hts] at h1
  cases h1
  rw [hc] at hsz
  have each : ∀ (i : Nat) (v : Value), cs[i]? = some v → ∃ z, v = Value.int .i64 z := by
    intro i v hv
    have hi : i < 4 := by
      have := (Array.getElem?_eq_some_iff.1 hv).1
      omega
    obtain ⟨u, hu, hx⟩ := h3 i v hv
    have hue : u = e := by
      have : i = 0 ∨ i = 1 ∨ i = 2 ∨ i = 3 := by omega
      rcases this with rfl | rfl | rfl | rfl <;> (cases hu; rfl)
    subst hue
    simp only [Cell.okWide, he, Cell.ok] at hx
    cases v <;> simp_all
  obtain ⟨l, rfl⟩ : ∃ l : List Value, cs = l.toArray := ⟨cs.toList, by simp⟩
  match l, hsz with
  | [x0, x1, x2, x3], _ =>
    obtain ⟨z0, rfl⟩ := each 0 x0 rfl
    obtain ⟨z1, rfl⟩ := each 1 x1 rfl
    obtain ⟨z2, rfl⟩ := each 2 x2 rfl
    obtain ⟨z3, rfl⟩ := each 3 x3 rfl
    refine ⟨z0, z1, z2, z3, rfl, ?_⟩
    refine .agg _ _ (by simp) (fun v hv => ?_) (fun i a v ha hv => ?_)
    · simp at hv
      rcases hv with rfl | rfl | rfl | rfl <;> rfl
    · have hi : i < 4 := (List.getElem?_eq_some_iff.1 ha).1
      have : i = 0 ∨ i = 1 ∨ i = 2 ∨ i = 3 := by omega
      rcases this with rfl | rfl | rfl | rfl <;> (cases ha; cases hv; exact .int _ _)

end Go.Proofs.Vm
