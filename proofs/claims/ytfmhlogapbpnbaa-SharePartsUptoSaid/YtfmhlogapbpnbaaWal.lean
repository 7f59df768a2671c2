/-
  SHARE, PART 1: shares, joined.
-/
import Derived.Test.YtfmhlogapbpnbaaWak
import Derived.Test.YtfmhlogapbpnbaaWaj
import Derived.Test.YtfmhlogapbpnbaaRows
import Derived.ProofKit
import Derived.OpenShut
import Derived.JoinedCond
import Derived.Test.YtfmhlogapbpnbaaWaf

namespace Go.Proofs.Vm
open Go.Vm
noncomputable section
/-- Shares in cells. -/
def ShAt (cs : List AV) (o n : Nat) (L : List (List UInt8)) : Prop := L.length = n ∧ ∀ (i : Nat) (x : List UInt8), L[i]? = some x → x.length = 32 ∧ (cs.drop (o + i * 32)).take 32 = x.map by8
def PSh (cs : List AV) (o n : Nat) : Prop := flatL cs ∧ o + n * 32 ≤ cs.length ∧ n < 1099511627776 ∧ ∃ L, ShAt cs o n L
def zero32 : List UInt8 := List.replicate 32 0
def joinL (L : List (List UInt8)) : List UInt8 := L.foldl xorL zero32
def shA (cs : List AV) (o n : Nat) : List (List UInt8) := (List.range n).map fun i => bytesA ((cs.drop (o + i * 32)).take 32)
structure JX where
  xr : List AV → List AV → List AV
  jn : List AV → Nat → Nat → List AV
def jx0 : JX := ⟨fun s t => (xorL (bytesA s) (bytesA t)).map by8, fun cs o n => (joinL (shA cs o n)).map by8⟩
def P52 (ss ts : List AV) : Prop := PKey ss ∧ PKey ts
def P57 (cs : List AV) (o n : Nat) (i : Int) (ss : List AV) : Prop := PSh cs o n ∧ 0 ≤ i ∧ i < n ∧ PKey ss
def lpJi : VC := (.seq (.reg .false [] [⟨(.some 16), .none, (.cmp .lss), [(.t 15), (.c (.int .i64 (.ofNat 32)))]⟩]) (.seq (.cond (.t 16) .skip (.exit 2)) (.seq (.block 3 (.seq (.reg .false [] [⟨(.some 17), .none, .mov, [(.t 15)]⟩, ⟨(.some 18), .none, (.ixV 32 (.int .u8)), [(.t 14), (.t 15)]⟩, ⟨(.some 6), .none, .mov, [(.t 17)]⟩, ⟨(.some 7), .none, .mov, [(.t 18)]⟩]) (.reg .false [] [⟨(.some 19), .none, .mov, [(.t 6)]⟩, ⟨(.some 20), .none, (.ixA 32 1), [(.t 3), (.t 19)]⟩, ⟨(.some 21), .none, (.ld1 (.int .u8)), [(.t 20)]⟩, ⟨(.some 22), .none, .mov, [(.t 7)]⟩, ⟨(.some 23), .none, (.bin .xor .u8), [(.t 21), (.t 22)]⟩, ⟨(.some 24), .none, (.ixA 32 1), [(.t 3), (.t 19)]⟩, ⟨.none, .none, .st1, [(.t 24), (.t 23)]⟩]))) (.reg .false [] [⟨(.some 25), .none, (.bin .add .i64), [(.t 15), (.c (.int .i64 (.ofNat 1)))]⟩, ⟨(.some 15), .none, .mov, [(.t 25)]⟩]))))
def frJi (cs : List AV) (o n c : Nat) (e : Bool) (i : Int) (ts : List AV) (k : Int) : Fr := [.top, .top, .ptr 0 0, .ptr 1 0, .top, .top, .top, .top, .ros cs o n c e, .int .i64 (Int.ofNat n), .int .i64 i, .top, .top, .top, .agg ts, .int .i64 k, .top, .top, .top, .top, .top, .top, .top, .top, .top, .top, .top, .top]
def mkJi : List Bool := [true, true, false, false, true, true, true, true, false, false, false, true, true, true, false, false, true, true, true, true, true, true, true, true, true, true, true, true]
def lnJi (S : JX) : LnF := fun n0 b fr H => match slot fr 8, slot fr 10, slot fr 14, H with
  | .ros cs o n c e, .int .i64 i, .agg ts, [.cells rs, .cells ss, .cells us] => some (n0 = 0 ∧ VCis b lpJi ∧ forget mkJi fr = frJi cs o n c e i ts 0 ∧ P52 ss ts, .ok (.exit 2) (frJi cs o n c e i ts 32) [.cells rs, .cells (S.xr ss ts), .cells us])
  | _, _, _, _ => none
def lpJ : VC := (.seq (.reg .false [] [⟨(.some 11), .none, (.cmp .lss), [(.t 10), (.t 9)]⟩]) (.seq (.cond (.t 11) .skip (.exit 0)) (.seq (.block 1 (.seq (.reg .false [] [⟨(.some 12), .none, (.ixS 32), [(.t 8), (.t 10)]⟩, ⟨(.some 13), .none, (.ldn 32), [(.t 12)]⟩, ⟨(.some 5), .none, (.alloc [(.int .u8 (.ofNat 0)), (.int .u8 (.ofNat 0)), (.int .u8 (.ofNat 0)), (.int .u8 (.ofNat 0)), (.int .u8 (.ofNat 0)), (.int .u8 (.ofNat 0)), (.int .u8 (.ofNat 0)), (.int .u8 (.ofNat 0)), (.int .u8 (.ofNat 0)), (.int .u8 (.ofNat 0)), (.int .u8 (.ofNat 0)), (.int .u8 (.ofNat 0)), (.int .u8 (.ofNat 0)), (.int .u8 (.ofNat 0)), (.int .u8 (.ofNat 0)), (.int .u8 (.ofNat 0)), (.int .u8 (.ofNat 0)), (.int .u8 (.ofNat 0)), (.int .u8 (.ofNat 0)), (.int .u8 (.ofNat 0)), (.int .u8 (.ofNat 0)), (.int .u8 (.ofNat 0)), (.int .u8 (.ofNat 0)), (.int .u8 (.ofNat 0)), (.int .u8 (.ofNat 0)), (.int .u8 (.ofNat 0)), (.int .u8 (.ofNat 0)), (.int .u8 (.ofNat 0)), (.int .u8 (.ofNat 0)), (.int .u8 (.ofNat 0)), (.int .u8 (.ofNat 0)), (.int .u8 (.ofNat 0))]), []⟩, ⟨.none, .none, (.stn 32), [(.t 5), (.t 13)]⟩]) (.seq (.reg .false [] [⟨(.some 14), .none, (.ldn 32), [(.t 5)]⟩, ⟨(.some 15), .none, .mov, [(.c (.int .i64 (.ofNat 0)))]⟩]) (.block 2 (.loop (.seq (.reg .false [] [⟨(.some 16), .none, (.cmp .lss), [(.t 15), (.c (.int .i64 (.ofNat 32)))]⟩]) (.seq (.cond (.t 16) .skip (.exit 2)) (.seq (.block 3 (.seq (.reg .false [] [⟨(.some 17), .none, .mov, [(.t 15)]⟩, ⟨(.some 18), .none, (.ixV 32 (.int .u8)), [(.t 14), (.t 15)]⟩, ⟨(.some 6), .none, .mov, [(.t 17)]⟩, ⟨(.some 7), .none, .mov, [(.t 18)]⟩]) (.reg .false [] [⟨(.some 19), .none, .mov, [(.t 6)]⟩, ⟨(.some 20), .none, (.ixA 32 1), [(.t 3), (.t 19)]⟩, ⟨(.some 21), .none, (.ld1 (.int .u8)), [(.t 20)]⟩, ⟨(.some 22), .none, .mov, [(.t 7)]⟩, ⟨(.some 23), .none, (.bin .xor .u8), [(.t 21), (.t 22)]⟩, ⟨(.some 24), .none, (.ixA 32 1), [(.t 3), (.t 19)]⟩, ⟨.none, .none, .st1, [(.t 24), (.t 23)]⟩]))) (.reg .false [] [⟨(.some 25), .none, (.bin .add .i64), [(.t 15), (.c (.int .i64 (.ofNat 1)))]⟩, ⟨(.some 15), .none, .mov, [(.t 25)]⟩]))))))))) (.reg .false [] [⟨(.some 26), .none, (.bin .add .i64), [(.t 10), (.c (.int .i64 (.ofNat 1)))]⟩, ⟨(.some 10), .none, .mov, [(.t 26)]⟩]))))
def frJ (cs : List AV) (o n c : Nat) (e : Bool) (i : Int) : Fr := [.top, .top, .ptr 0 0, .ptr 1 0, .top, .top, .top, .top, .ros cs o n c e, .int .i64 (Int.ofNat n), .int .i64 i, .top, .top, .top, .top, .top, .top, .top, .top, .top, .top, .top, .top, .top, .top, .top, .top, .top]
def mkJ : List Bool := [true, true, false, false, true, true, true, true, false, false, false, true, true, true, true, true, true, true, true, true, true, true, true, true, true, true, true, true]
def lnJ (S : JX) : LnF := fun n0 b fr H => match slot fr 8, H with
  | .ros cs o n c e, [.cells rs, .cells ss] => some (n0 = 0 ∧ VCis b lpJ ∧ forget mkJ fr = frJ cs o n c e 0 ∧ flatL rs ∧ PSh cs o n ∧ ss = z8 32, .ok (.exit 0) (frJ cs o n c e n) [.cells rs, .cells (S.jn cs o n)])
  | _, _ => none
def lpRi : VC := (.seq (.seq (.reg .false [] [⟨(.some 12), .none, .mov, [(.t 5)]⟩, ⟨(.some 13), .none, (.cmp .lss), [(.t 12), (.c (.int .i64 (.ofNat 32)))]⟩]) (.cond (.t 13) .skip (.exit 2))) (.seq (.block 3 (.reg .true [0, 0, 2, 6, 0, 0, 0, 48, 240, 496, 1022, 2047, 4095] [⟨(.some 16), .none, .mov, [(.t 5)]⟩, ⟨(.some 17), .none, .mov, [(.t 5)]⟩, ⟨(.some 18), .none, (.ixA 32 1), [(.t 3), (.t 17)]⟩, ⟨(.some 19), .none, (.ld1 (.int .u8)), [(.t 18)]⟩, ⟨(.some 20), .none, .mov, [(.t 0)]⟩, ⟨(.some 21), .none, .mov, [(.t 4)]⟩, ⟨(.some 22), .none, .mov, [(.t 5)]⟩, ⟨(.some 23), .none, (.ixS 32), [(.t 20), (.t 21)]⟩, ⟨(.some 24), .none, (.ixA 32 1), [(.t 23), (.t 22)]⟩, ⟨(.some 25), .none, (.ld1 (.int .u8)), [(.t 24)]⟩, ⟨(.some 26), .none, (.bin .xor .u8), [(.t 19), (.t 25)]⟩, ⟨(.some 27), .none, (.ixA 32 1), [(.t 3), (.t 16)]⟩, ⟨.none, .none, .st1, [(.t 27), (.t 26)]⟩])) (.reg .false [] [⟨(.some 14), .none, .mov, [(.t 5)]⟩, ⟨(.some 15), .none, (.bin .add .i64), [(.t 14), (.c (.int .i64 (.ofNat 1)))]⟩, ⟨(.some 5), .none, .mov, [(.t 15)]⟩])))
def frRi (cs : List AV) (o n c : Nat) (e : Bool) (i k : Int) : Fr := [.ros cs o n c e, .top, .ptr 0 0, .ptr 1 0, .int .i64 i, .int .i64 k, .top, .top, .top, .top, .top, .top, .top, .top, .top, .top, .top, .top, .top, .top, .top, .top, .top, .top, .top, .top, .top, .top, .top]
def mkRi : List Bool := [false, true, false, false, false, false, true, true, true, true, true, true, true, true, true, true, true, true, true, true, true, true, true, true, true, true, true, true, true]
def lnRi (S : JX) : LnF := fun n0 b fr H => match slot fr 0, slot fr 4, H with
  | .ros cs o n c e, .int .i64 i, [.cells rs, .cells ss] => some (n0 = 0 ∧ VCis b lpRi ∧ forget mkRi fr = frRi cs o n c e i 0 ∧ P57 cs o n i ss, .ok (.exit 2) (frRi cs o n c e i 32) [.cells rs, .cells (S.xr ss (ops0.ext cs (ops0.adr o i 32) 32))])
  | _, _, _ => none
def lpR : VC := (.seq (.seq (.reg .false [] [⟨(.some 6), .none, .mov, [(.t 4)]⟩, ⟨(.some 7), .none, .mov, [(.t 0)]⟩, ⟨(.some 8), .none, .len, [(.t 7)]⟩, ⟨(.some 9), .none, (.cmp .lss), [(.t 6), (.t 8)]⟩]) (.cond (.t 9) .skip (.exit 0))) (.seq (.block 1 (.seq (.reg .false [] [⟨(.some 5), .none, .mov, [(.c (.int .i64 (.ofNat 0)))]⟩]) (.block 2 (.loop (.seq (.seq (.reg .false [] [⟨(.some 12), .none, .mov, [(.t 5)]⟩, ⟨(.some 13), .none, (.cmp .lss), [(.t 12), (.c (.int .i64 (.ofNat 32)))]⟩]) (.cond (.t 13) .skip (.exit 2))) (.seq (.block 3 (.reg .true [0, 0, 2, 6, 0, 0, 0, 48, 240, 496, 1022, 2047, 4095] [⟨(.some 16), .none, .mov, [(.t 5)]⟩, ⟨(.some 17), .none, .mov, [(.t 5)]⟩, ⟨(.some 18), .none, (.ixA 32 1), [(.t 3), (.t 17)]⟩, ⟨(.some 19), .none, (.ld1 (.int .u8)), [(.t 18)]⟩, ⟨(.some 20), .none, .mov, [(.t 0)]⟩, ⟨(.some 21), .none, .mov, [(.t 4)]⟩, ⟨(.some 22), .none, .mov, [(.t 5)]⟩, ⟨(.some 23), .none, (.ixS 32), [(.t 20), (.t 21)]⟩, ⟨(.some 24), .none, (.ixA 32 1), [(.t 23), (.t 22)]⟩, ⟨(.some 25), .none, (.ld1 (.int .u8)), [(.t 24)]⟩, ⟨(.some 26), .none, (.bin .xor .u8), [(.t 19), (.t 25)]⟩, ⟨(.some 27), .none, (.ixA 32 1), [(.t 3), (.t 16)]⟩, ⟨.none, .none, .st1, [(.t 27), (.t 26)]⟩])) (.reg .false [] [⟨(.some 14), .none, .mov, [(.t 5)]⟩, ⟨(.some 15), .none, (.bin .add .i64), [(.t 14), (.c (.int .i64 (.ofNat 1)))]⟩, ⟨(.some 5), .none, .mov, [(.t 15)]⟩]))))))) (.reg .false [] [⟨(.some 10), .none, .mov, [(.t 4)]⟩, ⟨(.some 11), .none, (.bin .add .i64), [(.t 10), (.c (.int .i64 (.ofNat 1)))]⟩, ⟨(.some 4), .none, .mov, [(.t 11)]⟩])))
def frR (cs : List AV) (o n c : Nat) (e : Bool) (i : Int) : Fr := [.ros cs o n c e, .top, .ptr 0 0, .ptr 1 0, .int .i64 i, .top, .top, .top, .top, .top, .top, .top, .top, .top, .top, .top, .top, .top, .top, .top, .top, .top, .top, .top, .top, .top, .top, .top, .top]
def mkR : List Bool := [false, true, false, false, false, true, true, true, true, true, true, true, true, true, true, true, true, true, true, true, true, true, true, true, true, true, true, true, true]
def lnR (S : JX) : LnF := fun n0 b fr H => match slot fr 0, H with
  | .ros cs o n c e, [.cells rs, .cells ss] => some (n0 = 0 ∧ VCis b lpR ∧ forget mkR fr = frR cs o n c e 0 ∧ flatL rs ∧ PSh cs o n ∧ ss = z8 32, .ok (.exit 0) (frR cs o n c e n) [.cells rs, .cells (S.jn cs o n)])
  | _, _ => none

theorem vclJi (rs ss us cs : List AV) (o n c : Nat) (e : Bool) (i : Int) (ts : List AV) (k : Int) (Q : Ex → Fr → Hl → Prop) :
  (vm (vcA kdYes noCn noLn) ops0 noTab 100 0 lpJi (frJi cs o n c e i ts k) [.cells rs, .cells ss, .cells us] [] (bodyX mkJi Q)) =
 ((Br (ops0.cmp BinOp.lss k (Int.ofNat 32))
 (Chk (ops0.inr k 32)
 (∃ n1 : Int, ((Nth ts (ops0.nat k) (AV.int IntKind.u8 n1)) ∧
 (Chk (ops0.inr k 32)
 (∃ n2 : Int, ((Nth ss (ops0.adr 0 k 1) (AV.int IntKind.u8 n2)) ∧
 (Chk (ops0.inr k 32)
 (Chk (ops0.lt (ops0.adr 0 k 1) (ops0.len ss))
 (Q Ex.norm [AV.top, AV.top, (AV.ptr 0 0), (AV.ptr 1 0), AV.top, AV.top, AV.top, AV.top, (AV.ros cs o n c e), (AV.int IntKind.i64 (Int.ofNat n)), (AV.int IntKind.i64 i), AV.top, AV.top, AV.top, (AV.agg ts), (AV.int IntKind.i64 (ops0.bin BinOp.add IntKind.i64 k (Int.ofNat 1))), AV.top, AV.top, AV.top, AV.top, AV.top, AV.top, AV.top, AV.top, AV.top, AV.top, AV.top, AV.top] [(Blk.cells rs), (Blk.cells (ops0.set ss (ops0.adr 0 k 1) (AV.int IntKind.u8 (ops0.bin BinOp.xor IntKind.u8 n2 n1)))), (Blk.cells us)])))))))))
 (Q (Ex.exit 2) [AV.top, AV.top, (AV.ptr 0 0), (AV.ptr 1 0), AV.top, AV.top, AV.top, AV.top, (AV.ros cs o n c e), (AV.int IntKind.i64 (Int.ofNat n)), (AV.int IntKind.i64 i), AV.top, AV.top, AV.top, (AV.agg ts), (AV.int IntKind.i64 k), AV.top, AV.top, AV.top, AV.top, AV.top, AV.top, AV.top, AV.top, AV.top, AV.top, AV.top, AV.top] [(Blk.cells rs), (Blk.cells ss), (Blk.cells us)]))) := by kernel_rfl

theorem vclJ (S : JX) (rs ss cs : List AV) (o n c : Nat) (e : Bool) (i : Int) (Q : Ex → Fr → Hl → Prop) :
  (vm (vcA kdYes noCn (lnJi S)) ops0 noTab 100 0 lpJ (frJ cs o n c e i) [.cells rs, .cells ss] [] (bodyX mkJ Q)) =
 ((Br (ops0.cmp BinOp.lss i (Int.ofNat n))
 (Chk (ops0.inr i n)
 (Chk (ops0.le (ops0.add (ops0.adr o i 32) 32) (ops0.len cs))
 (Chk (ops0.eq (ops0.len (ops0.ext cs (ops0.adr o i 32) 32)) 32)
 (Chk (ops0.le 32 (ops0.len (ops0.spl (z8 32) 0 (ops0.ext cs (ops0.adr o i 32) 32))))
 ((((0 : Nat) = 0) ∧
 ((VCis lpJi lpJi) ∧
 ((([AV.top, AV.top, (AV.ptr 0 0), (AV.ptr 1 0), AV.top, AV.top, AV.top, AV.top, (AV.ros cs o n c e), (AV.int IntKind.i64 (Int.ofNat n)), (AV.int IntKind.i64 i), AV.top, AV.top, AV.top, (AV.agg (ops0.ext (ops0.spl (z8 32) 0 (ops0.ext cs (ops0.adr o i 32) 32)) 0 32)), (AV.int IntKind.i64 (Int.ofNat 0)), AV.top, AV.top, AV.top, AV.top, AV.top, AV.top, AV.top, AV.top, AV.top, AV.top, AV.top, AV.top] : Fr) = [AV.top, AV.top, (AV.ptr 0 0), (AV.ptr 1 0), AV.top, AV.top, AV.top, AV.top, (AV.ros cs o n c e), (AV.int IntKind.i64 (Int.ofNat n)), (AV.int IntKind.i64 i), AV.top, AV.top, AV.top, (AV.agg (ops0.ext (ops0.spl (z8 32) 0 (ops0.ext cs (ops0.adr o i 32) 32)) 0 32)), (AV.int IntKind.i64 (Int.ofNat 0)), AV.top, AV.top, AV.top, AV.top, AV.top, AV.top, AV.top, AV.top, AV.top, AV.top, AV.top, AV.top]) ∧
 (P52 ss (ops0.ext (ops0.spl (z8 32) 0 (ops0.ext cs (ops0.adr o i 32) 32)) 0 32))))) ∧
 (Q Ex.norm [AV.top, AV.top, (AV.ptr 0 0), (AV.ptr 1 0), AV.top, AV.top, AV.top, AV.top, (AV.ros cs o n c e), (AV.int IntKind.i64 (Int.ofNat n)), (AV.int IntKind.i64 (ops0.bin BinOp.add IntKind.i64 i (Int.ofNat 1))), AV.top, AV.top, AV.top, AV.top, AV.top, AV.top, AV.top, AV.top, AV.top, AV.top, AV.top, AV.top, AV.top, AV.top, AV.top, AV.top, AV.top] [(Blk.cells rs), (Blk.cells (JX.xr S ss (ops0.ext (ops0.spl (z8 32) 0 (ops0.ext cs (ops0.adr o i 32) 32)) 0 32))), (Blk.cells (ops0.spl (z8 32) 0 (ops0.ext cs (ops0.adr o i 32) 32)))]))))))
 (Q (Ex.exit 0) [AV.top, AV.top, (AV.ptr 0 0), (AV.ptr 1 0), AV.top, AV.top, AV.top, AV.top, (AV.ros cs o n c e), (AV.int IntKind.i64 (Int.ofNat n)), (AV.int IntKind.i64 i), AV.top, AV.top, AV.top, AV.top, AV.top, AV.top, AV.top, AV.top, AV.top, AV.top, AV.top, AV.top, AV.top, AV.top, AV.top, AV.top, AV.top] [(Blk.cells rs), (Blk.cells ss)]))) := by kernel_rfl

theorem vc52 (S : JX) (cs : List AV) (o n c : Nat) (e : Bool) (Q : AV → Hl → Prop) :
  (vcall (vcA kdYes noCn (lnJ S)) ops0 (tabOne 52 vf52) 200 vf52 [.ros cs o n c e] [] (endN (fun _ => 0) Q)) =
 (((((0 : Nat) = 0) ∧
 ((VCis lpJ lpJ) ∧
 ((([AV.top, AV.top, (AV.ptr 0 0), (AV.ptr 1 0), AV.top, AV.top, AV.top, AV.top, (AV.ros cs o n c e), (AV.int IntKind.i64 (ops0.ofn n)), (AV.int IntKind.i64 (Int.ofNat 0)), AV.top, AV.top, AV.top, AV.top, AV.top, AV.top, AV.top, AV.top, AV.top, AV.top, AV.top, AV.top, AV.top, AV.top, AV.top, AV.top, AV.top] : Fr) = [AV.top, AV.top, (AV.ptr 0 0), (AV.ptr 1 0), AV.top, AV.top, AV.top, AV.top, (AV.ros cs o n c e), (AV.int IntKind.i64 (Int.ofNat n)), (AV.int IntKind.i64 (Int.ofNat 0)), AV.top, AV.top, AV.top, AV.top, AV.top, AV.top, AV.top, AV.top, AV.top, AV.top, AV.top, AV.top, AV.top, AV.top, AV.top, AV.top, AV.top]) ∧
 ((flatL (z8 32)) ∧
 ((PSh cs o n) ∧
 (((z8 32) : (List AV)) = (z8 32))))))) ∧
 (Chk (ops0.le 32 (ops0.len (JX.jn S cs o n)))
 (Chk (ops0.eq (ops0.len (ops0.ext (JX.jn S cs o n) 0 32)) 32)
 (Chk (ops0.le 32 (ops0.len (ops0.spl (z8 32) 0 (ops0.ext (JX.jn S cs o n) 0 32))))
 (Q (AV.agg (ops0.ext (ops0.spl (z8 32) 0 (ops0.ext (JX.jn S cs o n) 0 32)) 0 32)) [])))))) := by kernel_rfl

theorem vclRi (rs ss cs : List AV) (o n c : Nat) (e : Bool) (i k : Int) (Q : Ex → Fr → Hl → Prop) :
  (vm (vcA kdYes noCn noLn) ops0 noTab 100 0 lpRi (frRi cs o n c e i k) [.cells rs, .cells ss] [] (bodyX mkRi Q)) =
 ((Br (ops0.cmp BinOp.lss k (Int.ofNat 32))
 (Chk (ops0.inr k 32)
 (∃ n1 : Int, ((Nth ss (ops0.adr 0 k 1) (AV.int IntKind.u8 n1)) ∧
 (Chk (ops0.inr i n)
 (Chk (ops0.inr k 32)
 (∃ n2 : Int, ((Nth cs (ops0.adr (ops0.adr o i 32) k 1) (AV.int IntKind.u8 n2)) ∧
 (Chk (ops0.inr k 32)
 (Chk (ops0.lt (ops0.adr 0 k 1) (ops0.len ss))
 (Q Ex.norm [(AV.ros cs o n c e), AV.top, (AV.ptr 0 0), (AV.ptr 1 0), (AV.int IntKind.i64 i), (AV.int IntKind.i64 (ops0.bin BinOp.add IntKind.i64 k (Int.ofNat 1))), AV.top, AV.top, AV.top, AV.top, AV.top, AV.top, AV.top, AV.top, AV.top, AV.top, AV.top, AV.top, AV.top, AV.top, AV.top, AV.top, AV.top, AV.top, AV.top, AV.top, AV.top, AV.top, AV.top] [(Blk.cells rs), (Blk.cells (ops0.set ss (ops0.adr 0 k 1) (AV.int IntKind.u8 (ops0.bin BinOp.xor IntKind.u8 n1 n2))))]))))))))))
 (Q (Ex.exit 2) [(AV.ros cs o n c e), AV.top, (AV.ptr 0 0), (AV.ptr 1 0), (AV.int IntKind.i64 i), (AV.int IntKind.i64 k), AV.top, AV.top, AV.top, AV.top, AV.top, AV.top, AV.top, AV.top, AV.top, AV.top, AV.top, AV.top, AV.top, AV.top, AV.top, AV.top, AV.top, AV.top, AV.top, AV.top, AV.top, AV.top, AV.top] [(Blk.cells rs), (Blk.cells ss)]))) := by kernel_rfl

theorem vclR (S : JX) (rs ss cs : List AV) (o n c : Nat) (e : Bool) (i : Int) (Q : Ex → Fr → Hl → Prop) :
  (vm (vcA kdYes noCn (lnRi S)) ops0 noTab 100 0 lpR (frR cs o n c e i) [.cells rs, .cells ss] [] (bodyX mkR Q)) =
 ((Br (ops0.cmp BinOp.lss i (ops0.ofn n))
 ((((0 : Nat) = 0) ∧
 ((VCis lpRi lpRi) ∧
 ((([(AV.ros cs o n c e), AV.top, (AV.ptr 0 0), (AV.ptr 1 0), (AV.int IntKind.i64 i), (AV.int IntKind.i64 (Int.ofNat 0)), AV.top, AV.top, AV.top, AV.top, AV.top, AV.top, AV.top, AV.top, AV.top, AV.top, AV.top, AV.top, AV.top, AV.top, AV.top, AV.top, AV.top, AV.top, AV.top, AV.top, AV.top, AV.top, AV.top] : Fr) = [(AV.ros cs o n c e), AV.top, (AV.ptr 0 0), (AV.ptr 1 0), (AV.int IntKind.i64 i), (AV.int IntKind.i64 (Int.ofNat 0)), AV.top, AV.top, AV.top, AV.top, AV.top, AV.top, AV.top, AV.top, AV.top, AV.top, AV.top, AV.top, AV.top, AV.top, AV.top, AV.top, AV.top, AV.top, AV.top, AV.top, AV.top, AV.top, AV.top]) ∧
 (P57 cs o n i ss)))) ∧
 (Q Ex.norm [(AV.ros cs o n c e), AV.top, (AV.ptr 0 0), (AV.ptr 1 0), (AV.int IntKind.i64 (ops0.bin BinOp.add IntKind.i64 i (Int.ofNat 1))), AV.top, AV.top, AV.top, AV.top, AV.top, AV.top, AV.top, AV.top, AV.top, AV.top, AV.top, AV.top, AV.top, AV.top, AV.top, AV.top, AV.top, AV.top, AV.top, AV.top, AV.top, AV.top, AV.top, AV.top] [(Blk.cells rs), (Blk.cells (JX.xr S ss (ops0.ext cs (ops0.adr o i 32) 32)))]))
 (Q (Ex.exit 0) [(AV.ros cs o n c e), AV.top, (AV.ptr 0 0), (AV.ptr 1 0), (AV.int IntKind.i64 i), AV.top, AV.top, AV.top, AV.top, AV.top, AV.top, AV.top, AV.top, AV.top, AV.top, AV.top, AV.top, AV.top, AV.top, AV.top, AV.top, AV.top, AV.top, AV.top, AV.top, AV.top, AV.top, AV.top, AV.top] [(Blk.cells rs), (Blk.cells ss)]))) := by kernel_rfl

theorem vc57 (S : JX) (cs : List AV) (o n c : Nat) (e : Bool) (Q : AV → Hl → Prop) :
  (vcall (vcA kdYes noCn (lnR S)) ops0 (tabOne 57 vf57) 200 vf57 [.ros cs o n c e] [] (endN (fun _ => 0) Q)) =
 (((((0 : Nat) = 0) ∧
 ((VCis lpR lpR) ∧
 ((([(AV.ros cs o n c e), AV.top, (AV.ptr 0 0), (AV.ptr 1 0), (AV.int IntKind.i64 (Int.ofNat 0)), AV.top, AV.top, AV.top, AV.top, AV.top, AV.top, AV.top, AV.top, AV.top, AV.top, AV.top, AV.top, AV.top, AV.top, AV.top, AV.top, AV.top, AV.top, AV.top, AV.top, AV.top, AV.top, AV.top, AV.top] : Fr) = [(AV.ros cs o n c e), AV.top, (AV.ptr 0 0), (AV.ptr 1 0), (AV.int IntKind.i64 (Int.ofNat 0)), AV.top, AV.top, AV.top, AV.top, AV.top, AV.top, AV.top, AV.top, AV.top, AV.top, AV.top, AV.top, AV.top, AV.top, AV.top, AV.top, AV.top, AV.top, AV.top, AV.top, AV.top, AV.top, AV.top, AV.top]) ∧
 ((flatL (z8 32)) ∧
 ((PSh cs o n) ∧
 (((z8 32) : (List AV)) = (z8 32))))))) ∧
 (Chk (ops0.le 32 (ops0.len (JX.jn S cs o n)))
 (Chk (ops0.eq (ops0.len (ops0.ext (JX.jn S cs o n) 0 32)) 32)
 (Chk (ops0.le 32 (ops0.len (ops0.spl (z8 32) 0 (ops0.ext (JX.jn S cs o n) 0 32))))
 (Q (AV.agg (ops0.ext (ops0.spl (z8 32) 0 (ops0.ext (JX.jn S cs o n) 0 32)) 0 32)) [])))))) := by kernel_rfl

/-! ### One share more -/
def mixL (s t : List UInt8) (k : Nat) : List UInt8 := xorL (s.take k) (t.take k) ++ s.drop k
theorem mix_zero (s t : List UInt8) : mixL s t 0 = s := by unfold mixL xorL; simp
theorem mix_end {s t : List UInt8} (hs : s.length = 32) (ht : t.length = 32) : mixL s t 32 = xorL s t := by
  unfold mixL
  rw [List.take_of_length_le (by omega), List.take_of_length_le (by omega), List.drop_of_length_le (by omega), List.append_nil]
theorem mix_xl {s t : List UInt8} (hs : s.length = 32) (ht : t.length = 32) {k : Nat} (hk : k ≤ 32) : (xorL (s.take k) (t.take k)).length = k := by
  rw [xorL_length, List.length_take, List.length_take]; omega
theorem mix_length {s t : List UInt8} (hs : s.length = 32) (ht : t.length = 32) {k : Nat} (hk : k ≤ 32) : (mixL s t k).length = 32 := by
  unfold mixL
  rw [List.length_append, mix_xl hs ht hk, List.length_drop]; omega
theorem mix_get {s t : List UInt8} (hs : s.length = 32) (ht : t.length = 32) {k : Nat} (hk : k < 32) : (mixL s t k)[k]? = some (s[k]'(by omega)) := by
  unfold mixL
  rw [List.getElem?_append_right (by rw [mix_xl hs ht (by omega)]; exact Nat.le_refl _), mix_xl hs ht (by omega), Nat.sub_self, List.getElem?_drop, Nat.add_zero, List.getElem?_eq_getElem]
theorem mix_set {s t : List UInt8} (hs : s.length = 32) (ht : t.length = 32) {k : Nat} (hk : k < 32) : (mixL s t k).set k (s[k]'(by omega) ^^^ t[k]'(by omega)) = mixL s t (k + 1) := by
  unfold mixL
  rw [xorL_snoc (show k < s.length by omega) (show k < t.length by omega), List.set_append_right _ _ (by rw [mix_xl hs ht (by omega)]; exact Nat.le_refl _), mix_xl hs ht (by omega), Nat.sub_self, List.drop_eq_getElem_cons (show k < s.length by omega), List.set_cons_zero, List.append_assoc]
  rfl
theorem map_set8 (l : List UInt8) (k : Nat) (v : UInt8) : (l.map by8).set k (by8 v) = (l.set k v).map by8 := by rw [List.map_set]
theorem lt32 {k : Nat} (h : k < 32) : ops0.inr (Int.ofNat k) 32 = true := by rw [nInr]; exact decide_eq_true h
theorem nth8 {l : List UInt8} {k : Nat} {b : UInt8} (h : l[k]? = some b) : Nth (l.map by8) k (.int .u8 (Int.ofNat b.toNat)) := Nth.mk (by rw [List.getElem?_map, h]; rfl)
theorem add1 {k : Nat} (h : k < 9223372036854775807) : ops0.bin .add .i64 (Int.ofNat k) (Int.ofNat 1) = Int.ofNat (k + 1) := nAdd (by omega)

theorem bodyJi {s t : List UInt8} (hs : s.length = 32) (ht : t.length = 32) {k : Nat} (hk : k < 32) (rs us cs : List AV) (o n c : Nat) (e : Bool) (i : Int) :
    BodyTo Try.prog 0 lpJi (frJi cs o n c e i (t.map by8) (Int.ofNat k)) [.cells rs, .cells ((mixL s t k).map by8), .cells us] .norm (frJi cs o n c e i (t.map by8) (Int.ofNat (k + 1))) [.cells rs, .cells ((mixL s t (k + 1)).map by8), .cells us] := by
  refine body_x (noCn_ok _) (noLn_ok _) (noTab_ok _) (n := 100) (g := kdYes) (bs := mkJi) ?_ (by simp)
  have hl := mix_length hs ht (show k ≤ 32 by omega)
  rw [vclJi, add1 (by omega), nLss, lt32 hk, nNat, nAdr, Nat.zero_add, Nat.mul_one, nLen, nLt]
  refine Br.t (decide_eq_true hk) (Chk.mk rfl ⟨_, nth8 (List.getElem?_eq_getElem (show k < t.length by omega)), Chk.mk rfl ⟨_, nth8 (mix_get hs ht hk), Chk.mk rfl (Chk.mk (decide_eq_true (by rw [List.length_map]; omega)) ?_)⟩⟩)
  rw [xor_u8, nSet]
  have e1 : ((mixL s t k).map by8).set k (.int .u8 (Int.ofNat (s[k] ^^^ t[k]).toNat)) = (mixL s t (k + 1)).map by8 := by
    rw [← mix_set hs ht hk]
    exact map_set8 _ _ _
  rw [e1]
  exact ⟨rfl, rfl, rfl⟩
theorem lnJi_ok : LnOK Try.prog (lnJi jx0) := by
  intro n0 b fr H p x e hn0 hp lg
  unfold lnJi at e
  split at e <;> cases e
  rename_i cs o n c e i ts rs ss us h1 h2 h3
  obtain ⟨rfl, hb, hf, ⟨s, hs, rfl⟩, ⟨t, ht, rfl⟩⟩ := hp
  have hb : b = lpJi := hb
  subst hb
  refine LoopTo.pre (Weak.forget (by simp) mkJi) ?_ lg
  rw [hf]
  have ex : jx0.xr (s.map by8) (t.map by8) = (mixL s t 32).map by8 := by
    show (xorL (bytesA _) (bytesA _)).map by8 = _
    rw [bytesA_by8, bytesA_by8, mix_end hs ht]
  rw [ex]
  have h := loop_chain (P := Try.prog) (n0 := 0) (b := lpJi) (ex := .exit 2) (fr' := frJi cs o n c e i (t.map by8) (Int.ofNat 32)) (H' := [.cells rs, .cells ((mixL s t 32).map by8), .cells us]) (by intro h; cases h)
    (fun k => (frJi cs o n c e i (t.map by8) (Int.ofNat k), [.cells rs, .cells ((mixL s t k).map by8), .cells us])) 32 0 (fun k _ hk => bodyJi hs ht (by omega) rs us cs o n c e i) ?_
  · simp only [mix_zero] at h
    exact h
  · refine body_x (noCn_ok _) (noLn_ok _) (noTab_ok _) (n := 100) (g := kdYes) (bs := mkJi) ?_ (by simp)
    show vm _ _ _ _ _ _ (frJi cs o n c e i (t.map by8) (Int.ofNat 32)) [.cells rs, .cells ((mixL s t 32).map by8), .cells us] _ _
    rw [vclJi, nLss]
    exact Br.f (decide_eq_false (by omega)) ⟨rfl, rfl, rfl⟩

/-! ### All shares -/
theorem shA_eq {cs : List AV} {o n : Nat} {L : List (List UInt8)} (h : ShAt cs o n L) : shA cs o n = L := by
  unfold shA
  apply List.ext_getElem?
  intro i
  rw [List.getElem?_map]
  rcases Nat.lt_or_ge i n with hi | hi
  · have hl : i < L.length := by rw [h.1]; exact hi
    obtain ⟨_, h2⟩ := h.2 i L[i] (List.getElem?_eq_getElem hl)
    rw [List.getElem?_range hi, Option.map_some, h2, bytesA_by8, List.getElem?_eq_getElem hl]
  · rw [List.getElem?_eq_none (by simpa using hi), List.getElem?_eq_none (by rw [h.1]; exact hi)]
    rfl
def upto (L : List (List UInt8)) (j : Nat) : List UInt8 := joinL (L.take j)
theorem xorL32 {a b : List UInt8} (ha : a.length = 32) (hb : b.length = 32) : (xorL a b).length = 32 := by rw [xorL_length, ha, hb]; rfl
theorem upto_succ {L : List (List UInt8)} {j : Nat} {x : List UInt8} (h : L[j]? = some x) : upto L (j + 1) = xorL (upto L j) x := by
  unfold upto joinL
  rw [List.take_add_one, h, List.foldl_append, Option.toList_some, List.foldl_cons, List.foldl_nil]
theorem join_length {L : List (List UInt8)} (h : ∀ x, x ∈ L → x.length = 32) : (joinL L).length = 32 := by
  unfold joinL
  have key : ∀ (L : List (List UInt8)) (s : List UInt8), s.length = 32 → (∀ x, x ∈ L → x.length = 32) → (L.foldl xorL s).length = 32 := by
    intro L
    induction L with
    | nil => intro s hs _; exact hs
    | cons y L ih => intro s hs h; rw [List.foldl_cons]; exact ih _ (xorL32 hs (h y List.mem_cons_self)) fun x hx => h x (List.mem_cons_of_mem _ hx)
  exact key L zero32 (by unfold zero32; rw [List.length_replicate]) h
theorem sh_len {cs : List AV} {o n : Nat} {L : List (List UInt8)} (h : ShAt cs o n L) : ∀ x, x ∈ L → x.length = 32 := by
  intro x hx
  obtain ⟨i, hi⟩ := List.getElem?_of_mem hx
  exact (h.2 i x hi).1
theorem upto_length {cs : List AV} {o n : Nat} {L : List (List UInt8)} (h : ShAt cs o n L) (j : Nat) : (upto L j).length = 32 :=
  join_length fun x hx => sh_len h x (List.mem_of_mem_take hx)
theorem zero_cells : z8 32 = zero32.map by8 := z8_eq 32
theorem spl32 {x : List UInt8} (h : x.length = 32) : ops0.spl (z8 32) 0 (x.map by8) = x.map by8 := by
  rw [nSpl, List.take_zero, List.nil_append, List.drop_of_length_le (by rw [z8_length, List.length_map]; omega), List.append_nil]
theorem frJ_ren {σ : Nat → Option Nat} {φ : Nat → Option (List AV)} (h0 : σ 0 = some 0) (h1 : σ 1 = some 1) {cs : List AV} (hcs : flatL cs) (o n c : Nat) (e : Bool) (i : Int) :
    forget mkJ (renL σ φ true (frJ cs o n c e i)) = frJ cs o n c e i := by
  unfold frJ mkJ
  simp only [renL, ren, h0, h1, forget, renL_flat hcs]

theorem bodyJ {rs cs : List AV} {o n j : Nat} {L : List (List UInt8)} (c : Nat) (e : Bool) (hrs : flatL rs) (hcs : flatL cs) (ho : o + n * 32 ≤ cs.length) (hn : n < 1099511627776) (h : ShAt cs o n L) (hj : j < n) :
    BodyTo Try.prog 0 lpJ (frJ cs o n c e (Int.ofNat j)) [.cells rs, .cells ((upto L j).map by8)] .norm (frJ cs o n c e (Int.ofNat (j + 1))) [.cells rs, .cells ((upto L (j + 1)).map by8)] := by
  have hl : j < L.length := by rw [h.1]; exact hj
  have hx := List.getElem?_eq_getElem hl
  obtain ⟨h1, h2⟩ := h.2 j L[j] hx
  rw [upto_succ hx]
  have hu := upto_length h j
  generalize L[j] = x at h1 h2
  have hb : BodyTo Try.prog 0 lpJ (frJ cs o n c e (Int.ofNat j)) [.cells rs, .cells ((upto L j).map by8)] .norm (frJ cs o n c e (Int.ofNat (j + 1))) [.cells rs, .cells ((xorL (upto L j) x).map by8), .cells (x.map by8)] := by
    refine body_x (noCn_ok _) lnJi_ok (noTab_ok _) (n := 100) (g := kdYes) (bs := mkJ) ?_ (by simp)
    have e1 : ops0.ext cs (ops0.adr o (Int.ofNat j) 32) 32 = x.map by8 := by rw [nExt, nAdr]; exact h2
    have e2 : jx0.xr ((upto L j).map by8) (x.map by8) = (xorL (upto L j) x).map by8 := by
      show (xorL (bytesA _) (bytesA _)).map by8 = _
      rw [bytesA_by8, bytesA_by8]
    have hm : (x.map by8).length = 32 := by rw [List.length_map, h1]
    rw [vclJ, e1, spl32 h1, ext32 hm, e2, add1 (by omega), nLss, nInr, nLe, nLe, nPlus, nAdr, nLen, nLen]
    refine Br.t (decide_eq_true hj) (Chk.mk (decide_eq_true hj) (Chk.mk (decide_eq_true (by omega)) (Chk.mk (by rw [nEq]; exact decide_eq_true hm) (Chk.mk (decide_eq_true (by omega)) ⟨⟨rfl, rfl, rfl, pkey _ hu, pkey _ h1⟩, rfl, rfl, rfl⟩))))
  have h3 := hb.post (Weak.pickV [0, 1] mkJ 2 (by simp) (by simp) (by simp))
  rw [frJ_ren (show pickN [0, 1] 0 = some 0 from rfl) (show pickN [0, 1] 1 = some 1 from rfl) hcs] at h3
  have e3 : pickH (viewF [.cells rs, .cells ((xorL (upto L j) x).map by8), .cells (x.map by8)] [0, 1] 2) [0, 1] [.cells rs, .cells ((xorL (upto L j) x).map by8), .cells (x.map by8)] = [.cells rs, .cells ((xorL (upto L j) x).map by8)] := by
    show [renB _ _ true (.cells rs), renB _ _ true (.cells ((xorL (upto L j) x).map by8))] = _
    simp only [renB, renL_flat hrs, renL_flat (flat_by8 _)]
  rw [e3] at h3
  exact h3
theorem lnJ_ok : LnOK Try.prog (lnJ jx0) := by
  intro n0 b fr H p x e hn0 hp lg
  unfold lnJ at e
  split at e <;> cases e
  rename_i cs o n c e rs ss h1
  obtain ⟨rfl, hb, hf, hrs, ⟨hcs, ho, hn, L, hL⟩, rfl⟩ := hp
  have hb : b = lpJ := hb
  subst hb
  refine LoopTo.pre (Weak.forget (by simp) mkJ) ?_ lg
  rw [hf]
  have ej : jx0.jn cs o n = (upto L n).map by8 := by
    show (joinL (shA cs o n)).map by8 = _
    unfold upto
    rw [shA_eq hL, List.take_of_length_le (by rw [hL.1]; exact Nat.le_refl _)]
  rw [ej, zero_cells]
  refine loop_chain (P := Try.prog) (n0 := 0) (b := lpJ) (ex := .exit 0) (fr' := frJ cs o n c e (Int.ofNat n)) (H' := [.cells rs, .cells ((upto L n).map by8)]) (by intro h; cases h)
    (fun j => (frJ cs o n c e (Int.ofNat j), [.cells rs, .cells ((upto L j).map by8)])) n 0 (fun j _ hj => bodyJ c e hrs hcs ho hn hL (by omega)) ?_
  rw [Nat.zero_add]
  refine body_x (noCn_ok _) lnJi_ok (noTab_ok _) (n := 100) (g := kdYes) (bs := mkJ) ?_ (by simp)
  rw [vclJ, nLss]
  exact Br.f (decide_eq_false (by omega)) ⟨rfl, rfl, rfl⟩
theorem call52 {cs : List AV} {o n : Nat} (c : Nat) (e : Bool) (h : PSh cs o n) : CallTo Try.prog 52 [.ros cs o n c e] [] (.agg ((joinL (shA cs o n)).map by8)) [] [] := by
  refine call_n (noCn_ok _) lnJ_ok (tabOne_ok ok52) (tabOne_self 52 vf52) (n := 200) (g := kdYes) (m := fun _ => 0) [] ?_ (Nat.le_refl 0) ?_ (fun b hb => by simp at hb)
  · have ej : jx0.jn cs o n = (joinL (shA cs o n)).map by8 := rfl
    have hl : (joinL (shA cs o n)).length = 32 := by
      obtain ⟨_, _, _, L, hL⟩ := h
      rw [shA_eq hL]
      exact join_length (sh_len hL)
    have hm : ((joinL (shA cs o n)).map by8).length = 32 := by rw [List.length_map, hl]
    rw [vc52, ej, ext32 hm, spl32 hl, ext32 hm, nLen, nLe, nEq]
    exact ⟨⟨rfl, rfl, rfl, z8_flat 32, h, rfl⟩, Chk.mk (decide_eq_true (by omega)) (Chk.mk (decide_eq_true hm) (Chk.mk (decide_eq_true (by omega)) ⟨rfl, rfl⟩))⟩
  · unfold cutV
    rw [ren, renL_flat (flat_by8 _)]

/-! ### The document's -/
theorem bodyRi {cs : List AV} {o n i : Nat} {s t : List UInt8} (c : Nat) (e : Bool) (hs : s.length = 32) (ht : t.length = 32) (h : (cs.drop (o + i * 32)).take 32 = t.map by8) (hi : i < n) {k : Nat} (hk : k < 32) (rs : List AV) :
    BodyTo Try.prog 0 lpRi (frRi cs o n c e (Int.ofNat i) (Int.ofNat k)) [.cells rs, .cells ((mixL s t k).map by8)] .norm (frRi cs o n c e (Int.ofNat i) (Int.ofNat (k + 1))) [.cells rs, .cells ((mixL s t (k + 1)).map by8)] := by
  refine body_x (noCn_ok _) (noLn_ok _) (noTab_ok _) (n := 100) (g := kdYes) (bs := mkRi) ?_ (by simp)
  have hl := mix_length hs ht (show k ≤ 32 by omega)
  have hc : Nth cs (o + i * 32 + k) (.int .u8 (Int.ofNat (t[k]'(by omega)).toNat)) := by
    refine Nth.mk ?_
    have e1 : ((cs.drop (o + i * 32)).take 32)[k]? = cs[o + i * 32 + k]? := by rw [List.getElem?_take, if_pos hk, List.getElem?_drop]
    rw [← e1, h, List.getElem?_map, List.getElem?_eq_getElem (show k < t.length by omega)]
    rfl
  rw [vclRi, add1 (by omega), nLss, lt32 hk, nAdr, nAdr, nAdr, Nat.zero_add, Nat.mul_one, nLen, nLt, nInr]
  refine Br.t (decide_eq_true hk) (Chk.mk rfl ⟨_, nth8 (mix_get hs ht hk), Chk.mk (decide_eq_true hi) (Chk.mk rfl ⟨_, hc, Chk.mk rfl (Chk.mk (decide_eq_true (by rw [List.length_map]; omega)) ?_)⟩)⟩)
  rw [xor_u8, nSet]
  have e1 : ((mixL s t k).map by8).set k (.int .u8 (Int.ofNat (s[k] ^^^ t[k]).toNat)) = (mixL s t (k + 1)).map by8 := by
    rw [← mix_set hs ht hk]
    exact map_set8 _ _ _
  rw [e1]
  exact ⟨rfl, rfl, rfl⟩
theorem lnRi_ok : LnOK Try.prog (lnRi jx0) := by
  intro n0 b fr H p x e hn0 hp lg
  unfold lnRi at e
  split at e <;> cases e
  rename_i cs o n c e i rs ss h1 h2
  obtain ⟨rfl, hb, hf, ⟨hcs, ho, hn, L, hL⟩, hi0, hin, ⟨s, hs, rfl⟩⟩ := hp
  have hb : b = lpRi := hb
  subst hb
  obtain ⟨m, rfl⟩ : ∃ m : Nat, i = Int.ofNat m := ⟨i.toNat, (Int.toNat_of_nonneg hi0).symm⟩
  have hm : m < n := by simp only [Int.ofNat_eq_natCast] at hin; omega
  have hl : m < L.length := by rw [hL.1]; exact hm
  obtain ⟨ht, h2⟩ := hL.2 m L[m] (List.getElem?_eq_getElem hl)
  generalize L[m] = t at ht h2
  refine LoopTo.pre (Weak.forget (by simp) mkRi) ?_ lg
  rw [hf]
  have ex : jx0.xr (s.map by8) (ops0.ext cs (ops0.adr o (Int.ofNat m) 32) 32) = (mixL s t 32).map by8 := by
    rw [nExt, nAdr, h2]
    show (xorL (bytesA _) (bytesA _)).map by8 = _
    rw [bytesA_by8, bytesA_by8, mix_end hs ht]
  rw [ex]
  have h := loop_chain (P := Try.prog) (n0 := 0) (b := lpRi) (ex := .exit 2) (fr' := frRi cs o n c e (Int.ofNat m) (Int.ofNat 32)) (H' := [.cells rs, .cells ((mixL s t 32).map by8)]) (by intro h; cases h)
    (fun k => (frRi cs o n c e (Int.ofNat m) (Int.ofNat k), [.cells rs, .cells ((mixL s t k).map by8)])) 32 0 (fun k _ hk => bodyRi c e hs ht h2 hm (by omega) rs) ?_
  · simp only [mix_zero] at h
    exact h
  · refine body_x (noCn_ok _) (noLn_ok _) (noTab_ok _) (n := 100) (g := kdYes) (bs := mkRi) ?_ (by simp)
    show vm _ _ _ _ _ _ (frRi cs o n c e (Int.ofNat m) (Int.ofNat 32)) [.cells rs, .cells ((mixL s t 32).map by8)] _ _
    rw [vclRi, nLss]
    exact Br.f (decide_eq_false (by omega)) ⟨rfl, rfl, rfl⟩
theorem lnR_ok : LnOK Try.prog (lnR jx0) := by
  intro n0 b fr H p x e hn0 hp lg
  unfold lnR at e
  split at e <;> cases e
  rename_i cs o n c e rs ss h1
  obtain ⟨rfl, hb, hf, hrs, ⟨hcs, ho, hn, L, hL⟩, rfl⟩ := hp
  have hb : b = lpR := hb
  subst hb
  refine LoopTo.pre (Weak.forget (by simp) mkR) ?_ lg
  rw [hf]
  have ej : jx0.jn cs o n = (upto L n).map by8 := by
    show (joinL (shA cs o n)).map by8 = _
    unfold upto
    rw [shA_eq hL, List.take_of_length_le (by rw [hL.1]; exact Nat.le_refl _)]
  rw [ej, zero_cells]
  refine loop_chain (P := Try.prog) (n0 := 0) (b := lpR) (ex := .exit 0) (fr' := frR cs o n c e (Int.ofNat n)) (H' := [.cells rs, .cells ((upto L n).map by8)]) (by intro h; cases h)
    (fun j => (frR cs o n c e (Int.ofNat j), [.cells rs, .cells ((upto L j).map by8)])) n 0 (fun j _ hj => ?_) ?_
  · have hl : j < L.length := by rw [hL.1]; omega
    have hx := List.getElem?_eq_getElem hl
    obtain ⟨_, h2⟩ := hL.2 j L[j] hx
    have hu := upto_length hL j
    show BodyTo _ _ _ (frR cs o n c e (Int.ofNat j)) [.cells rs, .cells ((upto L j).map by8)] _ (frR cs o n c e (Int.ofNat (j + 1))) [.cells rs, .cells ((upto L (j + 1)).map by8)]
    rw [upto_succ hx]
    refine body_x (noCn_ok _) lnRi_ok (noTab_ok _) (n := 100) (g := kdYes) (bs := mkR) ?_ (by simp)
    have e2 : jx0.xr ((upto L j).map by8) (ops0.ext cs (ops0.adr o (Int.ofNat j) 32) 32) = (xorL (upto L j) L[j]).map by8 := by
      rw [nExt, nAdr, h2]
      show (xorL (bytesA _) (bytesA _)).map by8 = _
      rw [bytesA_by8, bytesA_by8]
    rw [vclR, e2, add1 (by omega), nOfn, nLss]
    exact Br.t (decide_eq_true (by omega)) ⟨⟨rfl, rfl, rfl, ⟨hcs, ho, hn, L, hL⟩, Int.natCast_nonneg _, by simp only [Int.ofNat_eq_natCast]; omega, pkey _ hu⟩, rfl, rfl, rfl⟩
  · rw [Nat.zero_add]
    refine body_x (noCn_ok _) lnRi_ok (noTab_ok _) (n := 100) (g := kdYes) (bs := mkR) ?_ (by simp)
    rw [vclR, nOfn, nLss]
    exact Br.f (decide_eq_false (by omega)) ⟨rfl, rfl, rfl⟩
theorem call57 {cs : List AV} {o n : Nat} (c : Nat) (e : Bool) (h : PSh cs o n) : CallTo Try.prog 57 [.ros cs o n c e] [] (.agg ((joinL (shA cs o n)).map by8)) [] [] := by
  refine call_n (noCn_ok _) lnR_ok (tabOne_ok ok57) (tabOne_self 57 vf57) (n := 200) (g := kdYes) (m := fun _ => 0) [] ?_ (Nat.le_refl 0) ?_ (fun b hb => by simp at hb)
  · have ej : jx0.jn cs o n = (joinL (shA cs o n)).map by8 := rfl
    have hl : (joinL (shA cs o n)).length = 32 := by
      obtain ⟨_, _, _, L, hL⟩ := h
      rw [shA_eq hL]
      exact join_length (sh_len hL)
    have hm : ((joinL (shA cs o n)).map by8).length = 32 := by rw [List.length_map, hl]
    rw [vc57, ej, ext32 hm, spl32 hl, ext32 hm, nLen, nLe, nEq]
    exact ⟨⟨rfl, rfl, rfl, z8_flat 32, h, rfl⟩, Chk.mk (decide_eq_true (by omega)) (Chk.mk (decide_eq_true hm) (Chk.mk (decide_eq_true (by omega)) ⟨rfl, rfl⟩))⟩
  · unfold cutV
    rw [ren, renL_flat (flat_by8 _)]

end
end Go.Proofs.Vm

namespace Go.Proofs.Vm
open Go.Vm
noncomputable section
def cnJ1 (S : JX) : CnF := fun f vals H => match f, vals with
  | 52, [x] => match vw1 H x with
    | .ros cs o n _ _ => some (PSh cs o n, .ok (.agg (S.jn cs o n)) H [])
    | _ => none
  | 57, [x] => match vw1 H x with
    | .ros cs o n _ _ => some (PSh cs o n, .ok (.agg (S.jn cs o n)) H [])
    | _ => none
  | _, _ => none
def cnJ2 (S : JX) (F : HF) : CnF := cnOr (cnJ1 S) (cnM F)
def tab81 (k : Nat) (vf : VF) (f : Nat) : Option VF := match Nat.beq f k with
  | true => some vf
  | false => match f with
    | 81 => some vf81
    | _ => none
theorem tab81_ok {k : Nat} {vf : VF} (h : FnOK Try.prog k vf) : ∀ f v, tab81 k vf f = some v → FnOK Try.prog f v := by
  intro f v e
  unfold tab81 at e
  split at e
  · rename_i hb
    have := Nat.eq_of_beq_eq_true hb
    subst this
    cases e
    exact h
  · split at e <;> cases e
    exact ok81
theorem tab81_self (k : Nat) (vf : VF) : tab81 k vf k = some vf := by unfold tab81; rw [Nat.beq_refl]
structure JY where
  sec : List AV → List AV → Int → List AV
  hsh : List AV → List AV → Int → List AV
def secL (r s : List UInt8) (i : Int) : List UInt8 := if 0 ≤ i then (if i ≤ 2147483647 then tagL r [112, 97, 114, 116] [s, bytesN i.toNat] else zero32) else zero32
def hshL (r s : List UInt8) (i : Int) : List UInt8 := if 0 ≤ i then (if i ≤ 2147483647 then sumL (secL r s i) else zero32) else zero32
def jy0 : JY := ⟨fun r s i => (secL (bytesA r) (bytesA s) i).map by8, fun r s i => (hshL (bytesA r) (bytesA s) i).map by8⟩
def cnJ3 (S : JX) (Y : JY) (F : HF) : CnF := cnOr (fun f vals H => match f, vals with
  | 53, [.agg rs, .agg ss, .int .i64 i] => some (PKey rs ∧ PKey ss, .ok (.agg (Y.sec rs ss i)) H [])
  | 54, [.agg rs, .agg ss, .int .i64 i] => some (PKey rs ∧ PKey ss, .ok (.agg (Y.sec rs ss i)) H [])
  | _, _ => none) (cnJ2 S F)

theorem vc55 (S : JX) (Y : JY) (F : HF) (rs ss : List AV) (i : Int) (Q : AV → Hl → Prop) :
  (vcall (vcA kdYes (cnJ3 S Y F) noLn) ops0 (tab81 55 vf55) 200 vf55 [.agg rs, .agg ss, .int .i64 i] [] (endN (fun _ => 0) Q)) =
 ((Br (ops0.cmp BinOp.geq i (Int.ofNat 0))
 (Br (ops0.cmp BinOp.leq i (Int.ofNat 2147483647))
 (Chk (ops0.le 32 (ops0.len rs))
 (Chk (ops0.le 32 (ops0.len ss))
 (((PKey (ops0.ext rs 0 32)) ∧
 (PKey (ops0.ext ss 0 32))) ∧
 ((PKey (JY.sec Y (ops0.ext rs 0 32) (ops0.ext ss 0 32) i)) ∧
 (Chk (ops0.eq (ops0.len (HF.hash F (JY.sec Y (ops0.ext rs 0 32) (ops0.ext ss 0 32) i))) 32)
 (Chk (ops0.le 32 (ops0.len (ops0.spl (z8 32) 0 (HF.hash F (JY.sec Y (ops0.ext rs 0 32) (ops0.ext ss 0 32) i)))))
 (Q (AV.agg (ops0.ext (ops0.spl (z8 32) 0 (HF.hash F (JY.sec Y (ops0.ext rs 0 32) (ops0.ext ss 0 32) i))) 0 32)) [])))))))
 (Q (AV.agg (z8 32)) []))
 (Q (AV.agg (z8 32)) []))) := by kernel_rfl

theorem vc56 (S : JX) (Y : JY) (F : HF) (rs ss : List AV) (i : Int) (Q : AV → Hl → Prop) :
  (vcall (vcA kdYes (cnJ3 S Y F) noLn) ops0 (tab81 56 vf56) 200 vf56 [.agg rs, .agg ss, .int .i64 i] [] (endN (fun _ => 0) Q)) =
 ((Br (ops0.cmp BinOp.lss i (Int.ofNat 0))
 (Q (AV.agg (z8 32)) [])
 (Br (ops0.cmp BinOp.gtr i (Int.ofNat 2147483647))
 (Q (AV.agg (z8 32)) [])
 (Chk (ops0.le 32 (ops0.len rs))
 (Chk (ops0.le 32 (ops0.len ss))
 (((PKey (ops0.ext rs 0 32)) ∧
 (PKey (ops0.ext ss 0 32))) ∧
 (Chk (ops0.eq (ops0.len (JY.sec Y (ops0.ext rs 0 32) (ops0.ext ss 0 32) i)) 32)
 (Chk (ops0.le 32 (ops0.len (ops0.spl (z8 32) 0 (JY.sec Y (ops0.ext rs 0 32) (ops0.ext ss 0 32) i))))
 ((PB (ops0.spl (z8 32) 0 (JY.sec Y (ops0.ext rs 0 32) (ops0.ext ss 0 32) i)) 0 32) ∧
 (Chk (ops0.eq (ops0.len (KF.sum (AF.toKF (NF.toAF (NG.toNF (HF.toNG F)))) (rdB (ops0.spl (z8 32) 0 (JY.sec Y (ops0.ext rs 0 32) (ops0.ext ss 0 32) i)) 0 32))) 32)
 (Chk (ops0.le 32 (ops0.len (ops0.spl (z8 32) 0 (KF.sum (AF.toKF (NF.toAF (NG.toNF (HF.toNG F)))) (rdB (ops0.spl (z8 32) 0 (JY.sec Y (ops0.ext rs 0 32) (ops0.ext ss 0 32) i)) 0 32)))))
 (Q (AV.agg (ops0.ext (ops0.spl (z8 32) 0 (KF.sum (AF.toKF (NF.toAF (NG.toNF (HF.toNG F)))) (rdB (ops0.spl (z8 32) 0 (JY.sec Y (ops0.ext rs 0 32) (ops0.ext ss 0 32) i)) 0 32))) 0 32)) [])))))))))))) := by kernel_rfl

theorem vc53 (S : JX) (F : HF) (rs ss : List AV) (i : Int) (Q : AV → Hl → Prop) :
  (vcall (vcA kdYes (cnJ2 S F) noLn) ops0 (tab81 53 vf53) 200 vf53 [.agg rs, .agg ss, .int .i64 i] [] (endN (fun _ => 0) Q)) =
 ((Br (ops0.cmp BinOp.geq i (Int.ofNat 0))
 (Br (ops0.cmp BinOp.leq i (Int.ofNat 2147483647))
 (Chk (ops0.le 32 (ops0.len rs))
 (Chk (ops0.le 32 (ops0.len ss))
 (((Int.ofNat 0) ≤ (ops0.cvt IntKind.u64 i)) ∧
 (((PKey (ops0.ext rs 0 32)) ∧
 (PTag [(AV.ros ss 0 32 32 Bool.false), (AV.ros (MF.bytes (NF.toMF (NG.toNF (HF.toNG F))) (ops0.cvt IntKind.u64 i)) 0 8 8 Bool.false)] 0 2)) ∧
 (Chk (ops0.eq (ops0.len (GF.tag (NG.toGF (HF.toNG F)) (ops0.ext rs 0 32) [112, 97, 114, 116] [(partA (AV.ros ss 0 32 32 Bool.false)), (partA (AV.ros (MF.bytes (NF.toMF (NG.toNF (HF.toNG F))) (ops0.cvt IntKind.u64 i)) 0 8 8 Bool.false))])) 32)
 (Chk (ops0.le 32 (ops0.len (ops0.spl (z8 32) 0 (GF.tag (NG.toGF (HF.toNG F)) (ops0.ext rs 0 32) [112, 97, 114, 116] [(partA (AV.ros ss 0 32 32 Bool.false)), (partA (AV.ros (MF.bytes (NF.toMF (NG.toNF (HF.toNG F))) (ops0.cvt IntKind.u64 i)) 0 8 8 Bool.false))]))))
 (Q (AV.agg (ops0.ext (ops0.spl (z8 32) 0 (GF.tag (NG.toGF (HF.toNG F)) (ops0.ext rs 0 32) [112, 97, 114, 116] [(partA (AV.ros ss 0 32 32 Bool.false)), (partA (AV.ros (MF.bytes (NF.toMF (NG.toNF (HF.toNG F))) (ops0.cvt IntKind.u64 i)) 0 8 8 Bool.false))])) 0 32)) [])))))))
 (Q (AV.agg (z8 32)) []))
 (Q (AV.agg (z8 32)) []))) := by kernel_rfl

theorem vc54 (S : JX) (F : HF) (rs ss : List AV) (i : Int) (Q : AV → Hl → Prop) :
  (vcall (vcA kdYes (cnJ2 S F) noLn) ops0 (tab81 54 vf54) 200 vf54 [.agg rs, .agg ss, .int .i64 i] [] (endN (fun _ => 0) Q)) =
 ((Br (ops0.cmp BinOp.lss i (Int.ofNat 0))
 (Q (AV.agg (z8 32)) [])
 (Br (ops0.cmp BinOp.gtr i (Int.ofNat 2147483647))
 (Q (AV.agg (z8 32)) [])
 (Chk (ops0.le 32 (ops0.len rs))
 (Chk (ops0.le 32 (ops0.len ss))
 (((Int.ofNat 0) ≤ (ops0.cvt IntKind.u64 i)) ∧
 (((PKey (ops0.ext rs 0 32)) ∧
 (PTag [(AV.ros ss 0 32 32 Bool.false), (AV.ros (MF.bytes (NF.toMF (NG.toNF (HF.toNG F))) (ops0.cvt IntKind.u64 i)) 0 8 8 Bool.false)] 0 2)) ∧
 (Chk (ops0.eq (ops0.len (GF.tag (NG.toGF (HF.toNG F)) (ops0.ext rs 0 32) [112, 97, 114, 116] [(partA (AV.ros ss 0 32 32 Bool.false)), (partA (AV.ros (MF.bytes (NF.toMF (NG.toNF (HF.toNG F))) (ops0.cvt IntKind.u64 i)) 0 8 8 Bool.false))])) 32)
 (Chk (ops0.le 32 (ops0.len (ops0.spl (z8 32) 0 (GF.tag (NG.toGF (HF.toNG F)) (ops0.ext rs 0 32) [112, 97, 114, 116] [(partA (AV.ros ss 0 32 32 Bool.false)), (partA (AV.ros (MF.bytes (NF.toMF (NG.toNF (HF.toNG F))) (ops0.cvt IntKind.u64 i)) 0 8 8 Bool.false))]))))
 (Q (AV.agg (ops0.ext (ops0.spl (z8 32) 0 (GF.tag (NG.toGF (HF.toNG F)) (ops0.ext rs 0 32) [112, 97, 114, 116] [(partA (AV.ros ss 0 32 32 Bool.false)), (partA (AV.ros (MF.bytes (NF.toMF (NG.toNF (HF.toNG F))) (ops0.cvt IntKind.u64 i)) 0 8 8 Bool.false))])) 0 32)) [])))))))))) := by kernel_rfl

theorem cnJ1_ok : CnOK Try.prog (cnJ1 jx0) := by
  intro f vals H p x e hp
  unfold cnJ1 at e
  split at e
  · split at e
    · rename_i cs o n c ex hv
      cases e
      have h := CallTo.lookV (H := H) (call52 c ex hp) (.cons (Vw.one hv hp.1) .nil)
      rw [backV_flat (flat_by8 _)] at h
      exact h
    · cases e
  · split at e
    · rename_i cs o n c ex hv
      cases e
      have h := CallTo.lookV (H := H) (call57 c ex hp) (.cons (Vw.one hv hp.1) .nil)
      rw [backV_flat (flat_by8 _)] at h
      exact h
    · cases e
  · cases e
theorem cnJ2_ok : CnOK Try.prog (cnJ2 jx0 hf0) := cnOr_ok cnJ1_ok cnM_ok

theorem secL_length (r s : List UInt8) (i : Int) : (secL r s i).length = 32 := by
  unfold secL
  split
  · split
    · exact tagL_length _ _ _
    · unfold zero32; rw [List.length_replicate]
  · unfold zero32; rw [List.length_replicate]
theorem hshL_length (r s : List UInt8) (i : Int) : (hshL r s i).length = 32 := by
  unfold hshL
  split
  · split
    · exact sumL_length _
    · unfold zero32; rw [List.length_replicate]
  · unfold zero32; rw [List.length_replicate]
theorem iGeq' {a b : Int} : ops0.cmp .geq a b = decide (b ≤ a) := rfl
theorem iLeq' {a b : Int} : ops0.cmp .leq a b = decide (a ≤ b) := rfl
theorem iLss' {a b : Int} : ops0.cmp .lss a b = decide (a < b) := rfl
theorem iGtr' {a b : Int} : ops0.cmp .gtr a b = decide (b < a) := rfl
theorem flat0 {l : List UInt8} : cutV 0 (.agg (l.map by8)) = .agg (l.map by8) := by
  unfold cutV
  rw [ren, renL_flat (flat_by8 _)]

/-- The secret, once the index may be. -/
theorem sec_wp {r s : List UInt8} (hr : r.length = 32) (hs : s.length = 32) {i : Int} (h0 : 0 ≤ i) (h1 : i ≤ 2147483647) {Q : AV → Hl → Prop} (hQ : Q (.agg ((secL r s i).map by8)) []) :
    Chk (ops0.le 32 (ops0.len (r.map by8))) (Chk (ops0.le 32 (ops0.len (s.map by8))) ((Int.ofNat 0 ≤ ops0.cvt .u64 i) ∧ ((PKey (ops0.ext (r.map by8) 0 32) ∧
      PTag [.ros (s.map by8) 0 32 32 false, .ros (MF.bytes (NF.toMF (NG.toNF (HF.toNG hf0))) (ops0.cvt .u64 i)) 0 8 8 false] 0 2) ∧
      Chk (ops0.eq (ops0.len (GF.tag (NG.toGF (HF.toNG hf0)) (ops0.ext (r.map by8) 0 32) [112, 97, 114, 116] [partA (.ros (s.map by8) 0 32 32 false), partA (.ros (MF.bytes (NF.toMF (NG.toNF (HF.toNG hf0))) (ops0.cvt .u64 i)) 0 8 8 false)])) 32)
      (Chk (ops0.le 32 (ops0.len (ops0.spl (z8 32) 0 (GF.tag (NG.toGF (HF.toNG hf0)) (ops0.ext (r.map by8) 0 32) [112, 97, 114, 116] [partA (.ros (s.map by8) 0 32 32 false), partA (.ros (MF.bytes (NF.toMF (NG.toNF (HF.toNG hf0))) (ops0.cvt .u64 i)) 0 8 8 false)]))))
      (Q (.agg (ops0.ext (ops0.spl (z8 32) 0 (GF.tag (NG.toGF (HF.toNG hf0)) (ops0.ext (r.map by8) 0 32) [112, 97, 114, 116] [partA (.ros (s.map by8) 0 32 32 false), partA (.ros (MF.bytes (NF.toMF (NG.toNF (HF.toNG hf0))) (ops0.cvt .u64 i)) 0 8 8 false)])) 0 32)) []))))) := by
  obtain ⟨m, rfl⟩ : ∃ m : Nat, i = Int.ofNat m := ⟨i.toNat, (Int.toNat_of_nonneg h0).symm⟩
  have hm : m ≤ 2147483647 := by simp only [Int.ofNat_eq_natCast] at h1; omega
  have hb : MF.bytes (NF.toMF (NG.toNF (HF.toNG hf0))) (Int.ofNat m) = (bytesN m).map by8 := rfl
  have hbl : (bytesN m).length = 8 := bytesN_length _
  have ht : GF.tag (NG.toGF (HF.toNG hf0)) (r.map by8) [112, 97, 114, 116] [s, bytesN m] = (tagL r [112, 97, 114, 116] [s, bytesN m]).map by8 := gtag_eq _ _ _
  have hl := tagL_length r [112, 97, 114, 116] [s, bytesN m]
  have hlm : ((tagL r [112, 97, 114, 116] [s, bytesN m]).map by8).length = 32 := by rw [List.length_map, hl]
  have hsec : secL r s (Int.ofNat m) = tagL r [112, 97, 114, 116] [s, bytesN m] := by
    unfold secL
    rw [if_pos h0, if_pos h1]
    rfl
  rw [hsec] at hQ
  rw [nC64 (by omega), hb, key_ext hr, partA_whole s 32 32 hs.symm, partA_whole (bytesN m) 8 8 hbl.symm, ht, spl32 hl, ext32 hlm, nEq, nLe, nLe, nLe, nLen, nLen, nLen, List.length_map, List.length_map, List.length_map]
  refine Chk.mk (decide_eq_true (by omega)) (Chk.mk (decide_eq_true (by omega)) ⟨Int.natCast_nonneg _, ⟨pkey r hr, ?_⟩, Chk.mk (decide_eq_true (by omega)) (Chk.mk (decide_eq_true (by omega)) hQ)⟩)
  have a1 : BytesAt (s.map by8) 0 32 s := by have := bytesAt_whole s; rw [hs] at this; exact this
  have a2 : BytesAt ((bytesN m).map by8) 0 8 (bytesN m) := by have := bytesAt_whole (bytesN m); rw [hbl] at this; exact this
  exact ptag_two 32 false 8 false (flat_by8 _) a1 (by rw [List.length_map]; omega) (by omega) (flat_by8 _) a2 (by rw [List.length_map]; omega) (by omega)

theorem call53 {r s : List UInt8} (hr : r.length = 32) (hs : s.length = 32) (i : Int) : CallTo Try.prog 53 [.agg (r.map by8), .agg (s.map by8), .int .i64 i] [] (.agg ((secL r s i).map by8)) [] [] := by
  refine call_n cnJ2_ok (noLn_ok _) (tab81_ok ok53) (tab81_self 53 vf53) (n := 200) (g := kdYes) (m := fun _ => 0) [] ?_ (Nat.le_refl 0) flat0 (fun b hb => by simp at hb)
  rw [vc53, iGeq', iLeq', zero_cells]
  refine Br.mk (fun h => ?_) (fun h => ?_)
  · have h : 0 ≤ i := of_decide_eq_true h
    refine Br.mk (fun h1 => ?_) (fun h1 => ?_)
    · have h1 : i ≤ 2147483647 := of_decide_eq_true h1
      rw [← zero_cells]
      exact sec_wp hr hs h h1 (Q := fun x H' => x = .agg ((secL r s i).map by8) ∧ H' = []) ⟨rfl, rfl⟩
    · have h1 : ¬ i ≤ 2147483647 := of_decide_eq_false h1
      unfold secL
      rw [if_pos h, if_neg h1]
      exact ⟨rfl, rfl⟩
  · have h : ¬ 0 ≤ i := of_decide_eq_false h
    unfold secL
    rw [if_neg h]
    exact ⟨rfl, rfl⟩
theorem call54 {r s : List UInt8} (hr : r.length = 32) (hs : s.length = 32) (i : Int) : CallTo Try.prog 54 [.agg (r.map by8), .agg (s.map by8), .int .i64 i] [] (.agg ((secL r s i).map by8)) [] [] := by
  refine call_n cnJ2_ok (noLn_ok _) (tab81_ok ok54) (tab81_self 54 vf54) (n := 200) (g := kdYes) (m := fun _ => 0) [] ?_ (Nat.le_refl 0) flat0 (fun b hb => by simp at hb)
  rw [vc54, iLss', iGtr', zero_cells]
  refine Br.mk (fun h => ?_) (fun h => ?_)
  · have h : i < 0 := of_decide_eq_true h
    unfold secL
    rw [if_neg (by omega)]
    exact ⟨rfl, rfl⟩
  · have h : ¬ i < 0 := of_decide_eq_false h
    refine Br.mk (fun h1 => ?_) (fun h1 => ?_)
    · have h1 : 2147483647 < i := of_decide_eq_true h1
      unfold secL
      rw [if_pos (by omega), if_neg (by omega)]
      exact ⟨rfl, rfl⟩
    · have h1 : ¬ 2147483647 < i := of_decide_eq_false h1
      rw [← zero_cells]
      exact sec_wp hr hs (by omega) (by omega) (Q := fun x H' => x = .agg ((secL r s i).map by8) ∧ H' = []) ⟨rfl, rfl⟩
theorem vwA (H : Hl) (l : List UInt8) : Vw H (.agg (l.map by8)) (.agg (l.map by8)) := Vw.agg H (Still.flat (flat_by8 l))
theorem cnJ3_ok : CnOK Try.prog (cnJ3 jx0 jy0 hf0) := by
  refine cnOr_ok ?_ cnJ2_ok
  intro f vals H p x e hp
  dsimp only at e
  split at e <;> cases e
  · rename_i rs ss i
    obtain ⟨⟨r, hr, rfl⟩, ⟨s, hs, rfl⟩⟩ := hp
    have h := CallTo.lookV (H := H) (call53 hr hs i) (.cons (vwA H r) (.cons (vwA H s) (.cons (Vw.int H _ _) .nil)))
    rw [backV_flat (flat_by8 _)] at h
    show CallTo _ _ _ _ (.agg ((secL (bytesA (r.map by8)) (bytesA (s.map by8)) _).map by8)) _ _
    rw [bytesA_by8, bytesA_by8]
    exact h
  · rename_i rs ss i
    obtain ⟨⟨r, hr, rfl⟩, ⟨s, hs, rfl⟩⟩ := hp
    have h := CallTo.lookV (H := H) (call54 hr hs i) (.cons (vwA H r) (.cons (vwA H s) (.cons (Vw.int H _ _) .nil)))
    rw [backV_flat (flat_by8 _)] at h
    show CallTo _ _ _ _ (.agg ((secL (bytesA (r.map by8)) (bytesA (s.map by8)) _).map by8)) _ _
    rw [bytesA_by8, bytesA_by8]
    exact h

theorem call55 {r s : List UInt8} (hr : r.length = 32) (hs : s.length = 32) (i : Int) : CallTo Try.prog 55 [.agg (r.map by8), .agg (s.map by8), .int .i64 i] [] (.agg ((hshL r s i).map by8)) [] [] := by
  refine call_n cnJ3_ok (noLn_ok _) (tab81_ok ok55) (tab81_self 55 vf55) (n := 200) (g := kdYes) (m := fun _ => 0) [] ?_ (Nat.le_refl 0) flat0 (fun b hb => by simp at hb)
  have e1 : jy0.sec (r.map by8) (s.map by8) i = (secL r s i).map by8 := by
    show (secL (bytesA _) (bytesA _) i).map by8 = _
    rw [bytesA_by8, bytesA_by8]
  rw [vc55, iGeq', iLeq', key_ext hr, key_ext hs, e1, hhash_eq, spl32 (sumL_length _), ext32 (sum32 _)]
  unfold hshL
  refine Br.mk (fun h => ?_) (fun h => ?_)
  · have h : 0 ≤ i := of_decide_eq_true h
    rw [if_pos h]
    refine Br.mk (fun h1 => ?_) (fun h1 => ?_)
    · have h1 : i ≤ 2147483647 := of_decide_eq_true h1
      rw [if_pos h1]
      exact Chk.mk (key_len hr) (Chk.mk (key_len hs) ⟨⟨pkey r hr, pkey s hs⟩, pkey _ (secL_length r s i), Chk.mk (eq32 (sum32 _)) (Chk.mk (key_len (sumL_length _)) ⟨rfl, rfl⟩)⟩)
    · have h1 : ¬ i ≤ 2147483647 := of_decide_eq_false h1
      rw [if_neg h1, zero_cells]
      exact ⟨rfl, rfl⟩
  · have h : ¬ 0 ≤ i := of_decide_eq_false h
    rw [if_neg h, zero_cells]
    exact ⟨rfl, rfl⟩
theorem call56 {r s : List UInt8} (hr : r.length = 32) (hs : s.length = 32) (i : Int) : CallTo Try.prog 56 [.agg (r.map by8), .agg (s.map by8), .int .i64 i] [] (.agg ((hshL r s i).map by8)) [] [] := by
  refine call_n cnJ3_ok (noLn_ok _) (tab81_ok ok56) (tab81_self 56 vf56) (n := 200) (g := kdYes) (m := fun _ => 0) [] ?_ (Nat.le_refl 0) flat0 (fun b hb => by simp at hb)
  have e1 : jy0.sec (r.map by8) (s.map by8) i = (secL r s i).map by8 := by
    show (secL (bytesA _) (bytesA _) i).map by8 = _
    rw [bytesA_by8, bytesA_by8]
  have hl := secL_length r s i
  rw [vc56, iLss', iGtr', key_ext hr, key_ext hs, e1, spl32 hl, rdW hl, hsum_eq, spl32 (sumL_length _), ext32 (sum32 _)]
  unfold hshL
  refine Br.mk (fun h => ?_) (fun h => ?_)
  · have h : i < 0 := of_decide_eq_true h
    rw [if_neg (by omega), zero_cells]
    exact ⟨rfl, rfl⟩
  · have h : ¬ i < 0 := of_decide_eq_false h
    rw [if_pos (by omega)]
    refine Br.mk (fun h1 => ?_) (fun h1 => ?_)
    · have h1 : 2147483647 < i := of_decide_eq_true h1
      rw [if_neg (by omega), zero_cells]
      exact ⟨rfl, rfl⟩
    · have h1 : ¬ 2147483647 < i := of_decide_eq_false h1
      rw [if_pos (by omega)]
      exact Chk.mk (key_len hr) (Chk.mk (key_len hs) ⟨⟨pkey r hr, pkey s hs⟩, Chk.mk (eq32 (by rw [List.length_map, hl])) (Chk.mk (key_len hl) ⟨pb_whole _ 32 hl.symm (by omega), Chk.mk (eq32 (sum32 _)) (Chk.mk (key_len (sumL_length _)) ⟨rfl, rfl⟩)⟩)⟩)

end
end Go.Proofs.Vm

namespace Go.Proofs.Vm
open Go.Vm
noncomputable section
/-- The end of a call that hands back a slice and a number. -/
def endT (Q : Nat → Nat → Nat → Nat → List AV → Int → Prop) (N : Int → Prop) : AV → Hl → List Nat → Prop := fun r H _ => match r with
  | .tup [.slc b o n c sz, .int .i64 v] => match nth H b with
    | some (.cells cs) => flatL cs ∧ Q o n c sz cs v
    | _ => False
  | .tup [.nils, .int .i64 v] => N v
  | _ => False
structure JZ where
  out : List AV → List AV → Int → List AV
  wnt : List AV → List AV → Int → List AV
def P48 (rs ss os ws : List AV) (n m : Int) (N : Nat) : Prop := flatL rs ∧ PKey ss ∧ PKey ws ∧ os = (z8 (N * 32)) ∧ 1 ≤ n ∧ n ≤ 16 ∧ n = N ∧ m = n - 1
def lp48 : VC := (.seq (.reg .false [] [⟨(.some 23), .none, (.cmp .lss), [(.t 22), (.t 21)]⟩]) (.seq (.cond (.t 23) .skip (.exit 0)) (.seq (.block 1 (.seq (.reg .false [] [⟨(.some 24), .none, .mov, [(.t 22)]⟩, ⟨(.some 10), .none, .mov, [(.t 24)]⟩]) (.seq (.reg .false [] [⟨(.some 25), .none, .mov, [(.t 8)]⟩, ⟨(.some 26), .none, .mov, [(.t 10)]⟩, ⟨(.some 27), .none, (.ldn 32), [(.t 4)]⟩, ⟨(.some 28), .none, .mov, [(.t 10)]⟩, ⟨(.some 29), .none, (.cvt .u64), [(.t 28)]⟩, ⟨(.some 30), .none, (.call 42), [(.t 27), (.c (.str [115, 104, 97, 114, 101])), (.t 29)]⟩, ⟨(.some 31), .none, (.ixS 32), [(.t 25), (.t 26)]⟩, ⟨.none, .none, (.stn 32), [(.t 31), (.t 30)]⟩]) (.reg .true [0, 0, 0, 6, 14, 31, 63, 127] [⟨(.some 32), .none, (.ldn 32), [(.t 9)]⟩, ⟨(.some 33), .none, .mov, [(.t 8)]⟩, ⟨(.some 34), .none, .mov, [(.t 10)]⟩, ⟨(.some 35), .none, (.ixS 32), [(.t 33), (.t 34)]⟩, ⟨(.some 36), .none, (.ldn 32), [(.t 35)]⟩, ⟨(.some 37), .none, (.mks [(.int .u8 (.ofNat 0)), (.int .u8 (.ofNat 0)), (.int .u8 (.ofNat 0)), (.int .u8 (.ofNat 0)), (.int .u8 (.ofNat 0)), (.int .u8 (.ofNat 0)), (.int .u8 (.ofNat 0)), (.int .u8 (.ofNat 0)), (.int .u8 (.ofNat 0)), (.int .u8 (.ofNat 0)), (.int .u8 (.ofNat 0)), (.int .u8 (.ofNat 0)), (.int .u8 (.ofNat 0)), (.int .u8 (.ofNat 0)), (.int .u8 (.ofNat 0)), (.int .u8 (.ofNat 0)), (.int .u8 (.ofNat 0)), (.int .u8 (.ofNat 0)), (.int .u8 (.ofNat 0)), (.int .u8 (.ofNat 0)), (.int .u8 (.ofNat 0)), (.int .u8 (.ofNat 0)), (.int .u8 (.ofNat 0)), (.int .u8 (.ofNat 0)), (.int .u8 (.ofNat 0)), (.int .u8 (.ofNat 0)), (.int .u8 (.ofNat 0)), (.int .u8 (.ofNat 0)), (.int .u8 (.ofNat 0)), (.int .u8 (.ofNat 0)), (.int .u8 (.ofNat 0)), (.int .u8 (.ofNat 0)), (.int .u8 (.ofNat 0)), (.int .u8 (.ofNat 0)), (.int .u8 (.ofNat 0)), (.int .u8 (.ofNat 0)), (.int .u8 (.ofNat 0)), (.int .u8 (.ofNat 0)), (.int .u8 (.ofNat 0)), (.int .u8 (.ofNat 0)), (.int .u8 (.ofNat 0)), (.int .u8 (.ofNat 0)), (.int .u8 (.ofNat 0)), (.int .u8 (.ofNat 0)), (.int .u8 (.ofNat 0)), (.int .u8 (.ofNat 0)), (.int .u8 (.ofNat 0)), (.int .u8 (.ofNat 0)), (.int .u8 (.ofNat 0)), (.int .u8 (.ofNat 0)), (.int .u8 (.ofNat 0)), (.int .u8 (.ofNat 0)), (.int .u8 (.ofNat 0)), (.int .u8 (.ofNat 0)), (.int .u8 (.ofNat 0)), (.int .u8 (.ofNat 0)), (.int .u8 (.ofNat 0)), (.int .u8 (.ofNat 0)), (.int .u8 (.ofNat 0)), (.int .u8 (.ofNat 0)), (.int .u8 (.ofNat 0)), (.int .u8 (.ofNat 0)), (.int .u8 (.ofNat 0)), (.int .u8 (.ofNat 0))] 2 [⟨0, 32⟩, ⟨32, 32⟩]), [(.t 32), (.t 36)]⟩, ⟨(.some 38), .none, (.call 52), [(.t 37)]⟩, ⟨.none, .none, (.stn 32), [(.t 9), (.t 38)]⟩])))) (.reg .false [] [⟨(.some 39), .none, (.bin .add .i64), [(.t 22), (.c (.int .i64 (.ofNat 1)))]⟩, ⟨(.some 22), .none, .mov, [(.t 39)]⟩]))))
def fr48 (n m : Int) (N : Nat) (i : Int) : Fr := [.top, .top, .int .i64 n, .top, .ptr 1 0, .top, .top, .top, .slc 2 0 N N 32, .ptr 3 0, .top, .top, .top, .top, .top, .top, .top, .top, .top, .top, .top, .int .i64 m, .int .i64 i, .top, .top, .top, .top, .top, .top, .top, .top, .top, .top, .top, .top, .top, .top, .top, .top, .top, .top, .top, .top, .top, .top, .top]
def mk48 : List Bool := [true, true, false, true, false, true, true, true, false, false, true, true, true, true, true, true, true, true, true, true, true, false, false, true, true, true, true, true, true, true, true, true, true, true, true, true, true, true, true, true, true, true, true, true, true, true]
def ln48 (Z : JZ) : LnF := fun n0 b fr H => match slot fr 2, slot fr 21, slot fr 8, H with
  | .int .i64 n, .int .i64 m, .slc 2 0 N _ 32, [.cells rs, .cells ss, .cells os, .cells ws] =>
    some (n0 = 0 ∧ VCis b lp48 ∧ forget mk48 fr = fr48 n m N 0 ∧ P48 rs ss os ws n m N, .ok (.exit 0) (fr48 n m N m) [.cells rs, .cells ss, .cells (Z.out ss os m), .cells (Z.wnt ws ss m)])
  | _, _, _, _ => none

theorem vcl48 (S : JX) (Y : JY) (F : HF) (rs ss os ws : List AV) (n m : Int) (N : Nat) (i : Int) (Q : Ex → Fr → Hl → Prop) :
  (vm (vcA kdYes (cnJ3 S Y F) noLn) ops0 noTab 100 0 lp48 (fr48 n m N i) [.cells rs, .cells ss, .cells os, .cells ws] [] (bodyX mk48 Q)) =
 ((Br (ops0.cmp BinOp.lss i m)
 (Chk (ops0.le 32 (ops0.len ss))
 (((PKey (ops0.ext ss 0 32)) ∧
 ((Int.ofNat 0) ≤ (ops0.cvt IntKind.u64 i))) ∧
 (Chk (ops0.inr i N)
 (Chk (ops0.eq (ops0.len (HF.drv F (ops0.ext ss 0 32) [115, 104, 97, 114, 101] (ops0.cvt IntKind.u64 i))) 32)
 (Chk (ops0.le (ops0.add (ops0.adr 0 i 32) 32) (ops0.len os))
 (Chk (ops0.le 32 (ops0.len ws))
 (Chk (ops0.inr i N)
 (Chk (ops0.le (ops0.add (ops0.adr 0 i 32) 32) (ops0.len (ops0.spl os (ops0.adr 0 i 32) (HF.drv F (ops0.ext ss 0 32) [115, 104, 97, 114, 101] (ops0.cvt IntKind.u64 i)))))
 (Chk (ops0.eq (ops0.len (ops0.ext ws 0 32)) 32)
 (Chk (ops0.eq (ops0.len (ops0.ext (ops0.spl os (ops0.adr 0 i 32) (HF.drv F (ops0.ext ss 0 32) [115, 104, 97, 114, 101] (ops0.cvt IntKind.u64 i))) (ops0.adr 0 i 32) 32)) 32)
 (Chk (ops0.le 64 (ops0.len (ops0.spl (z8 64) 0 (ops0.ext ws 0 32))))
 ((PSh (ops0.spl (ops0.spl (z8 64) 0 (ops0.ext ws 0 32)) 32 (ops0.ext (ops0.spl os (ops0.adr 0 i 32) (HF.drv F (ops0.ext ss 0 32) [115, 104, 97, 114, 101] (ops0.cvt IntKind.u64 i))) (ops0.adr 0 i 32) 32)) 0 2) ∧
 (Chk (ops0.eq (ops0.len (JX.jn S (ops0.spl (ops0.spl (z8 64) 0 (ops0.ext ws 0 32)) 32 (ops0.ext (ops0.spl os (ops0.adr 0 i 32) (HF.drv F (ops0.ext ss 0 32) [115, 104, 97, 114, 101] (ops0.cvt IntKind.u64 i))) (ops0.adr 0 i 32) 32)) 0 2)) 32)
 (Chk (ops0.le 32 (ops0.len ws))
 (Q Ex.norm [AV.top, AV.top, (AV.int IntKind.i64 n), AV.top, (AV.ptr 1 0), AV.top, AV.top, AV.top, (AV.slc 2 0 N N 32), (AV.ptr 3 0), AV.top, AV.top, AV.top, AV.top, AV.top, AV.top, AV.top, AV.top, AV.top, AV.top, AV.top, (AV.int IntKind.i64 m), (AV.int IntKind.i64 (ops0.bin BinOp.add IntKind.i64 i (Int.ofNat 1))), AV.top, AV.top, AV.top, AV.top, AV.top, AV.top, AV.top, AV.top, AV.top, AV.top, AV.top, AV.top, AV.top, AV.top, AV.top, AV.top, AV.top, AV.top, AV.top, AV.top, AV.top, AV.top, AV.top] [(Blk.cells rs), (Blk.cells ss), (Blk.cells (ops0.spl os (ops0.adr 0 i 32) (HF.drv F (ops0.ext ss 0 32) [115, 104, 97, 114, 101] (ops0.cvt IntKind.u64 i)))), (Blk.cells (ops0.spl ws 0 (JX.jn S (ops0.spl (ops0.spl (z8 64) 0 (ops0.ext ws 0 32)) 32 (ops0.ext (ops0.spl os (ops0.adr 0 i 32) (HF.drv F (ops0.ext ss 0 32) [115, 104, 97, 114, 101] (ops0.cvt IntKind.u64 i))) (ops0.adr 0 i 32) 32)) 0 2)))])))))))))))))))
 (Q (Ex.exit 0) [AV.top, AV.top, (AV.int IntKind.i64 n), AV.top, (AV.ptr 1 0), AV.top, AV.top, AV.top, (AV.slc 2 0 N N 32), (AV.ptr 3 0), AV.top, AV.top, AV.top, AV.top, AV.top, AV.top, AV.top, AV.top, AV.top, AV.top, AV.top, (AV.int IntKind.i64 m), (AV.int IntKind.i64 i), AV.top, AV.top, AV.top, AV.top, AV.top, AV.top, AV.top, AV.top, AV.top, AV.top, AV.top, AV.top, AV.top, AV.top, AV.top, AV.top, AV.top, AV.top, AV.top, AV.top, AV.top, AV.top, AV.top] [(Blk.cells rs), (Blk.cells ss), (Blk.cells os), (Blk.cells ws)]))) := by kernel_rfl

theorem vc48 (S : JX) (Y : JY) (F : HF) (Z : JZ) (rs ss : List AV) (n : Int) (Q : Nat → Nat → Nat → Nat → List AV → Int → Prop) (QN : Int → Prop) :
  (vcall (vcA kdYes (cnJ3 S Y F) (ln48 Z)) ops0 (tabOne 48 vf48) 200 vf48 [.agg rs, .agg ss, .int .i64 n] [] (endT Q QN)) =
 ((Br (ops0.cmp BinOp.lss n (Int.ofNat 1))
 (QN (Int.ofNat 1))
 (Br (ops0.cmp BinOp.gtr n (Int.ofNat 16))
 (QN (Int.ofNat 1))
 (Chk (ops0.mkr n n 32)
 (Chk (ops0.le 32 (ops0.len rs))
 (Chk (ops0.eq (ops0.len (ops0.ext rs 0 32)) 32)
 ((((0 : Nat) = 0) ∧
 ((VCis lp48 lp48) ∧
 ((([AV.top, AV.top, (AV.int IntKind.i64 n), AV.top, (AV.ptr 1 0), AV.top, AV.top, AV.top, (AV.slc 2 0 (ops0.nat n) (ops0.nat n) 32), (AV.ptr 3 0), AV.top, AV.top, AV.top, AV.top, AV.top, AV.top, AV.top, AV.top, AV.top, AV.top, AV.top, (AV.int IntKind.i64 (ops0.bin BinOp.sub IntKind.i64 n (Int.ofNat 1))), (AV.int IntKind.i64 (Int.ofNat 0)), AV.top, AV.top, AV.top, AV.top, AV.top, AV.top, AV.top, AV.top, AV.top, AV.top, AV.top, AV.top, AV.top, AV.top, AV.top, AV.top, AV.top, AV.top, AV.top, AV.top, AV.top, AV.top, AV.top] : Fr) = [AV.top, AV.top, (AV.int IntKind.i64 n), AV.top, (AV.ptr 1 0), AV.top, AV.top, AV.top, (AV.slc 2 0 (ops0.nat n) (ops0.nat n) 32), (AV.ptr 3 0), AV.top, AV.top, AV.top, AV.top, AV.top, AV.top, AV.top, AV.top, AV.top, AV.top, AV.top, (AV.int IntKind.i64 (ops0.bin BinOp.sub IntKind.i64 n (Int.ofNat 1))), (AV.int IntKind.i64 (Int.ofNat 0)), AV.top, AV.top, AV.top, AV.top, AV.top, AV.top, AV.top, AV.top, AV.top, AV.top, AV.top, AV.top, AV.top, AV.top, AV.top, AV.top, AV.top, AV.top, AV.top, AV.top, AV.top, AV.top, AV.top]) ∧
 (P48 rs ss (ops0.rep (ops0.nat n) (z8 32)) (ops0.spl (z8 32) 0 (ops0.ext rs 0 32)) n (ops0.bin BinOp.sub IntKind.i64 n (Int.ofNat 1)) (ops0.nat n))))) ∧
 (Chk (ops0.le 32 (ops0.len (JZ.wnt Z (ops0.spl (z8 32) 0 (ops0.ext rs 0 32)) ss (ops0.bin BinOp.sub IntKind.i64 n (Int.ofNat 1)))))
 (Chk (ops0.inr (ops0.bin BinOp.sub IntKind.i64 n (Int.ofNat 1)) (ops0.nat n))
 (Chk (ops0.eq (ops0.len (ops0.ext (JZ.wnt Z (ops0.spl (z8 32) 0 (ops0.ext rs 0 32)) ss (ops0.bin BinOp.sub IntKind.i64 n (Int.ofNat 1))) 0 32)) 32)
 (Chk (ops0.le (ops0.add (ops0.adr 0 (ops0.bin BinOp.sub IntKind.i64 n (Int.ofNat 1)) 32) 32) (ops0.len (JZ.out Z ss (ops0.rep (ops0.nat n) (z8 32)) (ops0.bin BinOp.sub IntKind.i64 n (Int.ofNat 1)))))
 ((flatL (ops0.spl (JZ.out Z ss (ops0.rep (ops0.nat n) (z8 32)) (ops0.bin BinOp.sub IntKind.i64 n (Int.ofNat 1))) (ops0.adr 0 (ops0.bin BinOp.sub IntKind.i64 n (Int.ofNat 1)) 32) (ops0.ext (JZ.wnt Z (ops0.spl (z8 32) 0 (ops0.ext rs 0 32)) ss (ops0.bin BinOp.sub IntKind.i64 n (Int.ofNat 1))) 0 32))) ∧
 (Q 0 (ops0.nat n) (ops0.nat n) 32 (ops0.spl (JZ.out Z ss (ops0.rep (ops0.nat n) (z8 32)) (ops0.bin BinOp.sub IntKind.i64 n (Int.ofNat 1))) (ops0.adr 0 (ops0.bin BinOp.sub IntKind.i64 n (Int.ofNat 1)) 32) (ops0.ext (JZ.wnt Z (ops0.spl (z8 32) 0 (ops0.ext rs 0 32)) ss (ops0.bin BinOp.sub IntKind.i64 n (Int.ofNat 1))) 0 32)) (Int.ofNat 0)))))))))))))) := by kernel_rfl

/-! ### Shares side by side -/
theorem flat_len {L : List (List UInt8)} (h : ∀ x, x ∈ L → x.length = 32) : L.flatten.length = L.length * 32 := by
  induction L with
  | nil => rfl
  | cons y L ih =>
    have := ih fun x hx => h x (List.mem_cons_of_mem _ hx)
    rw [List.flatten_cons, List.length_append, this, h y List.mem_cons_self, List.length_cons]
    omega
theorem sh_drop (rest : List AV) : ∀ (L : List (List UInt8)) (i : Nat) (x : List UInt8), (∀ x, x ∈ L → x.length = 32) → L[i]? = some x → ((L.flatten.map by8 ++ rest).drop (i * 32)).take 32 = x.map by8
  | [], i, x, _, hx => by cases hx
  | y :: L, i, x, h, hx => by
    have hy := h y List.mem_cons_self
    have hym : (y.map by8).length = 32 := by rw [List.length_map, hy]
    rw [List.flatten_cons, List.map_append, List.append_assoc]
    cases i with
    | zero =>
      cases hx
      rw [Nat.zero_mul, List.drop_zero, List.take_append_of_le_length (by omega), List.take_of_length_le (by omega)]
    | succ i =>
      have ih := sh_drop rest L i x (fun x hx => h x (List.mem_cons_of_mem _ hx)) hx
      have e0 : (y.map by8 ++ (L.flatten.map by8 ++ rest)).drop 32 = L.flatten.map by8 ++ rest := by
        rw [List.drop_append_of_le_length (by omega), List.drop_of_length_le (by omega), List.nil_append]
      rw [show (i + 1) * 32 = 32 + i * 32 by omega, ← List.drop_drop, e0]
      exact ih
theorem sh_flat {L : List (List UInt8)} (h : ∀ x, x ∈ L → x.length = 32) (rest : List AV) : ShAt (L.flatten.map by8 ++ rest) 0 L.length L :=
  ⟨rfl, fun i x hx => ⟨h x (List.mem_of_getElem? hx), by rw [Nat.zero_add]; exact sh_drop rest L i x h hx⟩⟩
theorem psh_flat {L : List (List UInt8)} (h : ∀ x, x ∈ L → x.length = 32) (hn : L.length < 1099511627776) {n : Nat} (hl : n = L.length) : PSh (L.flatten.map by8) 0 n := by
  subst hl
  have e := sh_flat h []
  rw [List.append_nil] at e
  exact ⟨flat_by8 _, by rw [List.length_map, flat_len h]; omega, hn, L, e⟩
theorem sha_flat {L : List (List UInt8)} (h : ∀ x, x ∈ L → x.length = 32) {n : Nat} (hl : n = L.length) : shA (L.flatten.map by8) 0 n = L := by
  subst hl
  have e := sh_flat h []
  rw [List.append_nil] at e
  exact shA_eq e
theorem zero_xor {a : List UInt8} (h : a.length = 32) : xorL zero32 a = a := by
  unfold xorL zero32
  apply List.ext_getElem
  · simp [h]
  · intro i h1 h2
    simp only [List.getElem_zipWith, List.getElem_replicate, UInt8.zero_xor]
theorem xor_comm' (a b : List UInt8) : xorL a b = xorL b a := by
  unfold xorL
  rw [List.zipWith_comm]
  congr 1
  funext x y
  exact UInt8.xor_comm _ _
theorem xor_assoc' (a b c : List UInt8) : xorL (xorL a b) c = xorL a (xorL b c) := by
  unfold xorL
  apply List.ext_getElem
  · first | (simp; done) | (simp; omega)
  · intro i h1 h2
    simp only [List.getElem_zipWith, UInt8.xor_assoc]
theorem xor_self' {a : List UInt8} (h : a.length = 32) : xorL a a = zero32 := by
  unfold xorL zero32
  apply List.ext_getElem
  · simp [h]
  · intro i h1 h2
    simp only [List.getElem_zipWith, List.getElem_replicate, UInt8.xor_self]
theorem fold_join {L : List (List UInt8)} (h : ∀ x, x ∈ L → x.length = 32) : ∀ a : List UInt8, a.length = 32 → L.foldl xorL a = xorL a (joinL L) := by
  induction L with
  | nil => intro a ha; unfold joinL; rw [List.foldl_nil, List.foldl_nil, xor_comm', zero_xor ha]
  | cons x L ih =>
    intro a ha
    have hx := h x List.mem_cons_self
    have ih := ih fun y hy => h y (List.mem_cons_of_mem _ hy)
    have e : joinL (x :: L) = xorL x (joinL L) := by
      show L.foldl xorL (xorL zero32 x) = _
      rw [zero_xor hx, ih x hx]
    rw [List.foldl_cons, ih _ (xorL32 ha hx), e, xor_assoc']

/-! ### The shares of a root -/
def shareW : List UInt8 := [115, 104, 97, 114, 101]
def dL (s : List UInt8) (i : Nat) : List UInt8 := tagL s shareW [bytesN i]
def dsL (s : List UInt8) (k : Nat) : List (List UInt8) := (List.range k).map (dL s)
def splL (r s : List UInt8) (n : Nat) : List (List UInt8) := dsL s (n - 1) ++ [(dsL s (n - 1)).foldl xorL r]
theorem dL_length (s : List UInt8) (i : Nat) : (dL s i).length = 32 := tagL_length _ _ _
theorem ds_32 (s : List UInt8) (k : Nat) : ∀ x, x ∈ dsL s k → x.length = 32 := by
  intro x hx
  obtain ⟨i, _, rfl⟩ := List.mem_map.1 hx
  exact dL_length s i
theorem ds_length (s : List UInt8) (k : Nat) : (dsL s k).length = k := by unfold dsL; rw [List.length_map, List.length_range]
theorem ds_succ (s : List UInt8) (k : Nat) : dsL s (k + 1) = dsL s k ++ [dL s k] := by unfold dsL; rw [List.range_succ, List.map_append]; rfl
theorem want_32 {r : List UInt8} (h : r.length = 32) (s : List UInt8) (k : Nat) : ((dsL s k).foldl xorL r).length = 32 := by
  rw [fold_join (ds_32 s k) r h]
  exact xorL32 h (join_length (ds_32 s k))
theorem spl_32 {r : List UInt8} (h : r.length = 32) (s : List UInt8) (n : Nat) : ∀ x, x ∈ splL r s n → x.length = 32 := by
  intro x hx
  unfold splL at hx
  rcases List.mem_append.1 hx with hx | hx
  · exact ds_32 _ _ x hx
  · rw [List.mem_singleton] at hx
    rw [hx]; exact want_32 h s _
theorem spl_length (r s : List UInt8) {n : Nat} (h : 1 ≤ n) : (splL r s n).length = n := by
  unfold splL
  rw [List.length_append, ds_length, List.length_singleton]; omega
theorem z8_drop (a b : Nat) : (z8 a).drop b = z8 (a - b) := by unfold z8; rw [List.drop_replicate]
def jz0 : JZ := ⟨fun ss os m => (dsL (bytesA ss) m.toNat).flatten.map by8 ++ os.drop (m.toNat * 32), fun ws ss m => ((dsL (bytesA ss) m.toNat).foldl xorL (bytesA ws)).map by8⟩
theorem drv_eq (s : List UInt8) (i : Nat) : HF.drv hf0 (s.map by8) [115, 104, 97, 114, 101] (Int.ofNat i) = (dL s i).map by8 := by
  show (tagL (bytesA (s.map by8)) _ [bytesN (Int.ofNat i).toNat]).map by8 = _
  rw [bytesA_by8]
  rfl
theorem spl_out {A d : List UInt8} {p k : Nat} (hA : A.length = p) (hd : d.length = 32) : ops0.spl (A.map by8 ++ z8 k) p (d.map by8) = (A ++ d).map by8 ++ z8 (k - 32) := by
  have hAm : (A.map by8).length = p := by rw [List.length_map, hA]
  rw [nSpl, List.take_append_of_le_length (by omega), List.take_of_length_le (by omega), List.length_map, hd, List.drop_append, List.drop_of_length_le (by omega), List.nil_append, hAm, z8_drop, show p + 32 - p = 32 by omega, List.map_append, List.append_assoc]
theorem ext_out {A d : List UInt8} {p k : Nat} (hA : A.length = p) (hd : d.length = 32) : ops0.ext ((A ++ d).map by8 ++ z8 k) p 32 = d.map by8 := by
  have hAm : (A.map by8).length = p := by rw [List.length_map, hA]
  have hdm : (d.map by8).length = 32 := by rw [List.length_map, hd]
  rw [nExt, List.map_append, List.append_assoc, List.drop_append_of_le_length (by omega), List.drop_of_length_le (by omega), List.nil_append, List.take_append_of_le_length (by omega), List.take_of_length_le (by omega)]
theorem two_cells {w d : List UInt8} (hw : w.length = 32) (hd : d.length = 32) : ops0.spl (ops0.spl (z8 64) 0 (w.map by8)) 32 (d.map by8) = ([w, d] : List (List UInt8)).flatten.map by8 := by
  have h1 := spl_out (A := []) (d := w) (p := 0) (k := 64) rfl hw
  rw [List.map_nil, List.nil_append, List.nil_append] at h1
  rw [h1, spl_out hw hd]
  show _ ++ z8 0 = _
  rw [show z8 0 = [] from rfl, List.append_nil]
  simp
theorem pair_32 {w d : List UInt8} (hw : w.length = 32) (hd : d.length = 32) : ∀ x, x ∈ ([w, d] : List (List UInt8)) → x.length = 32 := by
  intro x hx
  simp at hx
  rcases hx with rfl | rfl
  · exact hw
  · exact hd
theorem join_pair {w d : List UInt8} (hw : w.length = 32) : joinL [w, d] = xorL w d := by
  show xorL (xorL zero32 w) d = _
  rw [zero_xor hw]
theorem spl_ws {a b : List UInt8} (ha : a.length = 32) (hb : b.length = 32) : ops0.spl (a.map by8) 0 (b.map by8) = b.map by8 := by
  rw [nSpl, List.take_zero, List.nil_append, List.drop_of_length_le (by rw [List.length_map, List.length_map]; omega), List.append_nil]

theorem body48 {rs : List AV} {r s : List UInt8} {N i : Nat} (hr : r.length = 32) (hs : s.length = 32) (hN : N ≤ 16) (hi : i + 1 < N) :
    BodyTo Try.prog 0 lp48 (fr48 (Int.ofNat N) (Int.ofNat (N - 1)) N (Int.ofNat i)) [.cells rs, .cells (s.map by8), .cells ((dsL s i).flatten.map by8 ++ z8 ((N - i) * 32)), .cells (((dsL s i).foldl xorL r).map by8)] .norm
      (fr48 (Int.ofNat N) (Int.ofNat (N - 1)) N (Int.ofNat (i + 1))) [.cells rs, .cells (s.map by8), .cells ((dsL s (i + 1)).flatten.map by8 ++ z8 ((N - (i + 1)) * 32)), .cells (((dsL s (i + 1)).foldl xorL r).map by8)] := by
  refine body_x cnJ3_ok (noLn_ok _) (noTab_ok _) (n := 100) (g := kdYes) (bs := mk48) ?_ (by simp)
  have hw := want_32 hr s i
  have hd := dL_length s i
  have hA : (dsL s i).flatten.length = i * 32 := by rw [flat_len (ds_32 s i), ds_length]
  have e1 : (dsL s (i + 1)).flatten = (dsL s i).flatten ++ dL s i := by rw [ds_succ, List.flatten_append]; simp
  have e2 : (dsL s (i + 1)).foldl xorL r = xorL ((dsL s i).foldl xorL r) (dL s i) := by rw [ds_succ, List.foldl_append]; rfl
  have e3 : (N - i) * 32 - 32 = (N - (i + 1)) * 32 := by omega
  rw [e1, e2]
  generalize (dsL s i).foldl xorL r = w at hw
  generalize (dsL s i).flatten = A at hA
  have ej : jx0.jn (([w, dL s i] : List (List UInt8)).flatten.map by8) 0 2 = (xorL w (dL s i)).map by8 := by
    show (joinL (shA _ 0 2)).map by8 = _
    rw [sha_flat (n := 2) (pair_32 hw hd) rfl, join_pair hw]
  have hx := xorL32 hw hd
  have hin : ops0.inr (Int.ofNat i) N = true := by rw [nInr]; exact decide_eq_true (by omega)
  rw [vcl48, nC64 (by omega), key_ext hs, drv_eq, nAdr, Nat.zero_add, spl_out hA hd, ext_out hA hd, ext32 (by rw [List.length_map, hw]), two_cells hw hd, ej, spl_ws hw hx, add1 (by omega), nLss, hin, e3]
  refine Br.t (decide_eq_true (by omega)) (Chk.mk (key_len hs) ⟨⟨pkey s hs, Int.natCast_nonneg _⟩, Chk.mk rfl (Chk.mk (eq32 (by rw [List.length_map, hd])) (Chk.mk ?_ (Chk.mk (key_len hw) (Chk.mk rfl (Chk.mk ?_ (Chk.mk (eq32 (by rw [List.length_map, hw])) (Chk.mk (eq32 (by rw [List.length_map, hd])) (Chk.mk ?_ ⟨psh_flat (pair_32 hw hd) (by simp) rfl, Chk.mk (eq32 (by rw [List.length_map, hx])) (Chk.mk (key_len hw) ⟨rfl, rfl, rfl⟩)⟩))))))))⟩)
  · rw [nLe, nPlus, nLen, List.length_append, List.length_map, z8_length]; exact decide_eq_true (by omega)
  · rw [nLe, nPlus, nLen, List.length_append, List.length_map, List.length_append, z8_length]; exact decide_eq_true (by omega)
  · have h1 := spl_out (A := []) (d := w) (p := 0) (k := 64) rfl hw
    rw [List.map_nil, List.nil_append, List.nil_append] at h1
    rw [h1, nLe, nLen, List.length_append, List.length_map, z8_length]; exact decide_eq_true (by omega)
theorem ln48_ok : LnOK Try.prog (ln48 jz0) := by
  intro n0 b fr H p x e hn0 hp lg
  unfold ln48 at e
  split at e <;> cases e
  rename_i n m N c rs ss os ws h1 h2 h3
  obtain ⟨rfl, hb, hf, hrs, ⟨s, hs, rfl⟩, ⟨r, hr, rfl⟩, rfl, hn1, hn2, rfl, rfl⟩ := hp
  have hb : b = lp48 := hb
  subst hb
  have hN1 : 1 ≤ N := by omega
  have hN2 : N ≤ 16 := by omega
  have em : ((N : Nat) : Int) - 1 = Int.ofNat (N - 1) := by simp only [Int.ofNat_eq_natCast]; omega
  rw [em] at hf ⊢
  refine LoopTo.pre (Weak.forget (by simp) mk48) ?_ lg
  rw [hf]
  have eo : jz0.out (s.map by8) (z8 (N * 32)) (Int.ofNat (N - 1)) = (dsL s (N - 1)).flatten.map by8 ++ z8 ((N - (N - 1)) * 32) := by
    show (dsL (bytesA (s.map by8)) (N - 1)).flatten.map by8 ++ (z8 (N * 32)).drop ((N - 1) * 32) = _
    rw [bytesA_by8, z8_drop, show N * 32 - (N - 1) * 32 = (N - (N - 1)) * 32 by omega]
  have ew : jz0.wnt (r.map by8) (s.map by8) (Int.ofNat (N - 1)) = ((dsL s (N - 1)).foldl xorL r).map by8 := by
    show ((dsL (bytesA (s.map by8)) (N - 1)).foldl xorL (bytesA (r.map by8))).map by8 = _
    rw [bytesA_by8, bytesA_by8]
  rw [eo, ew]
  have h := loop_chain (P := Try.prog) (n0 := 0) (b := lp48) (ex := .exit 0) (fr' := fr48 (Int.ofNat N) (Int.ofNat (N - 1)) N (Int.ofNat (N - 1))) (H' := [.cells rs, .cells (s.map by8), .cells ((dsL s (N - 1)).flatten.map by8 ++ z8 ((N - (N - 1)) * 32)), .cells (((dsL s (N - 1)).foldl xorL r).map by8)]) (by intro h; cases h)
    (fun i => (fr48 (Int.ofNat N) (Int.ofNat (N - 1)) N (Int.ofNat i), [.cells rs, .cells (s.map by8), .cells ((dsL s i).flatten.map by8 ++ z8 ((N - i) * 32)), .cells (((dsL s i).foldl xorL r).map by8)])) (N - 1) 0 (fun i _ hi => body48 hr hs hN2 (by omega)) ?_
  · exact h
  · rw [Nat.zero_add]
    refine body_x cnJ3_ok (noLn_ok _) (noTab_ok _) (n := 100) (g := kdYes) (bs := mk48) ?_ (by simp)
    rw [vcl48, nLss]
    exact Br.f (decide_eq_false (by omega)) ⟨rfl, rfl, rfl⟩

/-! ### Calls that hand back a slice and a number -/
theorem call_t {P : Program} {g : Kd → Bool} {C : CnF} (hC : CnOK P C) {E : LnF} (hE : LnOK P E) {T : Nat → Option VF} (hT : ∀ f vf, T f = some vf → FnOK P f vf) {f n : Nat} {vf : VF} (hf : T f = some vf) {vals : List AV}
    {o m c sz : Nat} {cs : List AV} {v : Int} (h : vcall (vcA g C E) ops0 T n vf vals [] (endT (fun o' m' c' sz' cs' v' => o' = o ∧ m' = m ∧ c' = c ∧ sz' = sz ∧ cs' = cs ∧ v' = v) fun _ => False)) :
    CallTo P f vals [] (.tup [.slc 0 o m c sz, .int .i64 v]) [.cells cs] [] := by
  obtain ⟨r, H', lg, hc, e⟩ := call_vcx hC hE hT hf h
  unfold endT at e
  split at e
  · rename_i b o' m' c' sz' v'
    split at e
    · rename_i cs' hb
      obtain ⟨hfl, rfl, rfl, rfl, rfl, rfl, rfl⟩ := e
      rw [nth_eq] at hb
      have hlt : b < H'.length := (List.getElem?_eq_some_iff.1 hb).1
      have h1 := hc.pick [b] (by simp) (by simpa using hlt) (by simp) (lg0 := []) (by simp)
      have e1 : ren (pickN [b]) Go.Vm.noView true (.tup [.slc b o' m' c' sz', .int .i64 v']) = .tup [.slc 0 o' m' c' sz', .int .i64 v'] := by
        simp only [ren, renL, pickN_self]
      have e2 : wkH [b] H' = [.cells cs'] := by
        simp only [wkH, pickH, List.map_cons, List.map_nil, hb, renB, renL_flat hfl]
      rw [e1, e2] at h1
      exact h1
    · exact e.elim
  · exact e.elim
  · exact e.elim
theorem call_tn {P : Program} {g : Kd → Bool} {C : CnF} (hC : CnOK P C) {E : LnF} (hE : LnOK P E) {T : Nat → Option VF} (hT : ∀ f vf, T f = some vf → FnOK P f vf) {f n : Nat} {vf : VF} (hf : T f = some vf) {vals : List AV}
    {v : Int} (h : vcall (vcA g C E) ops0 T n vf vals [] (endT (fun _ _ _ _ _ _ => False) fun v' => v' = v)) : CallTo P f vals [] (.tup [.nils, .int .i64 v]) [] [] := by
  obtain ⟨r, H', lg, hc, e⟩ := call_vcx hC hE hT hf h
  unfold endT at e
  split at e
  · split at e
    · exact e.2.elim
    · exact e.elim
  · subst e
    have h1 := hc.pick [] (by simp) (by simp) (by simp) (lg0 := []) (by simp)
    simpa [wkH, pickH, ren, renL] using h1
  · exact e.elim

theorem rep_z8 (N : Nat) : ops0.rep N (z8 32) = z8 (N * 32) := by
  rw [nRep]
  unfold z8
  rw [List.flatten_replicate_replicate]
theorem call48 {r s : List UInt8} (hr : r.length = 32) (hs : s.length = 32) {N : Nat} (h1 : 1 ≤ N) (h2 : N ≤ 16) :
    CallTo Try.prog 48 [.agg (r.map by8), .agg (s.map by8), .int .i64 (Int.ofNat N)] [] (.tup [.slc 0 0 N N 32, .int .i64 0]) [.cells ((splL r s N).flatten.map by8)] [] := by
  refine call_t cnJ3_ok ln48_ok (tabOne_ok ok48) (tabOne_self 48 vf48) (n := 200) (g := kdYes) ?_
  have hw := want_32 hr s (N - 1)
  have hA : (dsL s (N - 1)).flatten.length = (N - 1) * 32 := by rw [flat_len (ds_32 s (N - 1)), ds_length]
  have hb : ops0.bin .sub .i64 (Int.ofNat N) (Int.ofNat 1) = Int.ofNat (N - 1) := nSub h1 (by omega)
  have eo : jz0.out (s.map by8) (z8 (N * 32)) (Int.ofNat (N - 1)) = (dsL s (N - 1)).flatten.map by8 ++ z8 32 := by
    show (dsL (bytesA (s.map by8)) (N - 1)).flatten.map by8 ++ (z8 (N * 32)).drop ((N - 1) * 32) = _
    rw [bytesA_by8, z8_drop, show N * 32 - (N - 1) * 32 = 32 by omega]
  have ew : jz0.wnt (r.map by8) (s.map by8) (Int.ofNat (N - 1)) = ((dsL s (N - 1)).foldl xorL r).map by8 := by
    show ((dsL (bytesA (s.map by8)) (N - 1)).foldl xorL (bytesA (r.map by8))).map by8 = _
    rw [bytesA_by8, bytesA_by8]
  have ef : ((dsL s (N - 1)).flatten ++ (dsL s (N - 1)).foldl xorL r).map by8 ++ z8 (32 - 32) = (splL r s N).flatten.map by8 := by
    unfold splL
    rw [show z8 (32 - 32) = [] from rfl, List.append_nil, List.flatten_append]
    simp
  rw [vc48, hb, nNat, rep_z8, key_ext hr, spl32 hr, eo, ew, ext32 (by rw [List.length_map, hw]), nAdr, Nat.zero_add, spl_out hA hw, ef, nLss, nGtr, nMkr, nInr]
  refine Br.f (decide_eq_false (by omega)) (Br.f (decide_eq_false (by omega)) (Chk.mk (by simp; omega) (Chk.mk (key_len hr) (Chk.mk (eq32 (by rw [List.length_map, hr])) ⟨⟨rfl, rfl, rfl, ?_⟩, Chk.mk (key_len hw) (Chk.mk (decide_eq_true (by omega)) (Chk.mk (eq32 (by rw [List.length_map, hw])) (Chk.mk ?_ ⟨flat_by8 _, rfl, rfl, rfl, rfl, rfl, rfl⟩)))⟩))))
  · exact ⟨flat_by8 _, pkey s hs, pkey r hr, rfl, by simp only [Int.ofNat_eq_natCast]; omega, by simp only [Int.ofNat_eq_natCast]; omega, rfl, by simp only [Int.ofNat_eq_natCast]; omega⟩
  · rw [nLe, nPlus, nLen, List.length_append, List.length_map, z8_length]; exact decide_eq_true (by omega)
theorem call48n {r s : List UInt8} {n : Int} (h : n < 1 ∨ 16 < n) : CallTo Try.prog 48 [.agg (r.map by8), .agg (s.map by8), .int .i64 n] [] (.tup [.nils, .int .i64 1]) [] [] := by
  refine call_tn cnJ3_ok ln48_ok (tabOne_ok ok48) (tabOne_self 48 vf48) (n := 200) (g := kdYes) ?_
  rw [vc48, iLss', iGtr']
  refine Br.mk (fun _ => rfl) (fun h1 => ?_)
  have h1 : ¬ n < 1 := of_decide_eq_false h1
  exact Br.t (decide_eq_true (show (16 : Int) < n by omega)) rfl

end
end Go.Proofs.Vm

namespace Go.Proofs.Vm
open Go.Vm
noncomputable section
structure JW where
  out : List AV → Int → List AV
def P49 (rs ss : List AV) (n : Int) : Prop := flatL rs ∧ PKey ss ∧ 1 ≤ n ∧ n ≤ 16
def lp49 : VC := (.seq (.seq (.reg .false [] [⟨(.some 16), .none, .mov, [(.t 9)]⟩, ⟨(.some 17), .none, .mov, [(.t 2)]⟩, ⟨(.some 18), .none, (.bin .sub .i64), [(.t 17), (.c (.int .i64 (.ofNat 1)))]⟩, ⟨(.some 19), .none, (.cmp .lss), [(.t 16), (.t 18)]⟩]) (.cond (.t 19) .skip (.exit 0))) (.seq (.block 1 (.reg .false [] [⟨(.some 22), .none, .mov, [(.t 8)]⟩, ⟨(.some 23), .none, (.ldn 32), [(.t 4)]⟩, ⟨(.some 24), .none, .mov, [(.t 9)]⟩, ⟨(.some 25), .none, (.cvt .u64), [(.t 24)]⟩, ⟨(.some 26), .none, (.call 43), [(.t 23), (.c (.str [115, 104, 97, 114, 101])), (.t 25)]⟩, ⟨(.some 27), .none, (.mks [(.int .u8 (.ofNat 0)), (.int .u8 (.ofNat 0)), (.int .u8 (.ofNat 0)), (.int .u8 (.ofNat 0)), (.int .u8 (.ofNat 0)), (.int .u8 (.ofNat 0)), (.int .u8 (.ofNat 0)), (.int .u8 (.ofNat 0)), (.int .u8 (.ofNat 0)), (.int .u8 (.ofNat 0)), (.int .u8 (.ofNat 0)), (.int .u8 (.ofNat 0)), (.int .u8 (.ofNat 0)), (.int .u8 (.ofNat 0)), (.int .u8 (.ofNat 0)), (.int .u8 (.ofNat 0)), (.int .u8 (.ofNat 0)), (.int .u8 (.ofNat 0)), (.int .u8 (.ofNat 0)), (.int .u8 (.ofNat 0)), (.int .u8 (.ofNat 0)), (.int .u8 (.ofNat 0)), (.int .u8 (.ofNat 0)), (.int .u8 (.ofNat 0)), (.int .u8 (.ofNat 0)), (.int .u8 (.ofNat 0)), (.int .u8 (.ofNat 0)), (.int .u8 (.ofNat 0)), (.int .u8 (.ofNat 0)), (.int .u8 (.ofNat 0)), (.int .u8 (.ofNat 0)), (.int .u8 (.ofNat 0))] 1 [⟨0, 32⟩]), [(.t 26)]⟩, ⟨(.some 28), .none, (.app 32 32), [(.t 22), (.t 27)]⟩, ⟨(.some 8), .none, .mov, [(.t 28)]⟩])) (.reg .false [] [⟨(.some 20), .none, .mov, [(.t 9)]⟩, ⟨(.some 21), .none, (.bin .add .i64), [(.t 20), (.c (.int .i64 (.ofNat 1)))]⟩, ⟨(.some 9), .none, .mov, [(.t 21)]⟩])))
def fr49 (n : Int) (x : AV) (i : Int) : Fr := [.top, .top, .int .i64 n, .ptr 0 0, .ptr 1 0, .top, .top, .top, x, .int .i64 i, .top, .top, .top, .top, .top, .top, .top, .top, .top, .top, .top, .top, .top, .top, .top, .top, .top, .top, .top, .top, .top, .top, .top, .top, .top, .top, .top, .top, .top]
def mk49 : List Bool := [true, true, false, false, false, true, true, true, false, false, true, true, true, true, true, true, true, true, true, true, true, true, true, true, true, true, true, true, true, true, true, true, true, true, true, true, true, true, true]
def ln49 (Z : JW) (z : Int → Bool) : LnF := fun n0 b fr H => match slot fr 2, slot fr 8, H with
  | .int .i64 n, .nils, [.cells rs, .cells ss] =>
    some (n0 = 0 ∧ VCis b lp49 ∧ forget mk49 fr = fr49 n .nils 0 ∧ P49 rs ss n, .cond (z n) (.ok (.exit 0) (fr49 n .nils 0) [.cells rs, .cells ss]) (.ok (.exit 0) (fr49 n (.slc 2 0 (ops0.nat (ops0.bin .sub .i64 n 1)) (ops0.nat (ops0.bin .sub .i64 n 1)) 32) (ops0.bin .sub .i64 n 1)) [.cells rs, .cells ss, .cells (Z.out ss n)]))
  | _, _, _ => none

theorem vcl49a (S : JX) (Y : JY) (F : HF) (rs ss : List AV) (n : Int) (i : Int) (Q : Ex → Fr → Hl → Prop) :
  (vm (vcA kdYes (cnJ3 S Y F) noLn) ops0 noTab 100 0 lp49 (fr49 n .nils i) [.cells rs, .cells ss] [] (bodyX mk49 Q)) =
 ((Br (ops0.cmp BinOp.lss i (ops0.bin BinOp.sub IntKind.i64 n (Int.ofNat 1)))
 (Chk (ops0.le 32 (ops0.len ss))
 (((PKey (ops0.ext ss 0 32)) ∧
 ((Int.ofNat 0) ≤ (ops0.cvt IntKind.u64 i))) ∧
 (Chk (ops0.eq (ops0.len (HF.drv F (ops0.ext ss 0 32) [115, 104, 97, 114, 101] (ops0.cvt IntKind.u64 i))) 32)
 (Chk (ops0.le 32 (ops0.len (ops0.spl (z8 32) 0 (HF.drv F (ops0.ext ss 0 32) [115, 104, 97, 114, 101] (ops0.cvt IntKind.u64 i)))))
 (Q Ex.norm [AV.top, AV.top, (AV.int IntKind.i64 n), (AV.ptr 0 0), (AV.ptr 1 0), AV.top, AV.top, AV.top, (AV.slc 2 0 1 1 32), (AV.int IntKind.i64 (ops0.bin BinOp.add IntKind.i64 i (Int.ofNat 1))), AV.top, AV.top, AV.top, AV.top, AV.top, AV.top, AV.top, AV.top, AV.top, AV.top, AV.top, AV.top, AV.top, AV.top, AV.top, AV.top, AV.top, AV.top, AV.top, AV.top, AV.top, AV.top, AV.top, AV.top, AV.top, AV.top, AV.top, AV.top, AV.top] [(Blk.cells rs), (Blk.cells ss), (Blk.cells (ops0.ext (ops0.spl (z8 32) 0 (HF.drv F (ops0.ext ss 0 32) [115, 104, 97, 114, 101] (ops0.cvt IntKind.u64 i))) 0 32))])))))
 (Q (Ex.exit 0) [AV.top, AV.top, (AV.int IntKind.i64 n), (AV.ptr 0 0), (AV.ptr 1 0), AV.top, AV.top, AV.top, AV.nils, (AV.int IntKind.i64 i), AV.top, AV.top, AV.top, AV.top, AV.top, AV.top, AV.top, AV.top, AV.top, AV.top, AV.top, AV.top, AV.top, AV.top, AV.top, AV.top, AV.top, AV.top, AV.top, AV.top, AV.top, AV.top, AV.top, AV.top, AV.top, AV.top, AV.top, AV.top, AV.top] [(Blk.cells rs), (Blk.cells ss)]))) := by kernel_rfl

theorem vcl49b (S : JX) (Y : JY) (F : HF) (rs ss os : List AV) (n : Int) (N : Nat) (i : Int) (Q : Ex → Fr → Hl → Prop) :
  (vm (vcA kdYes (cnJ3 S Y F) noLn) ops0 noTab 100 0 lp49 (fr49 n (.slc 2 0 N N 32) i) [.cells rs, .cells ss, .cells os] [] (bodyX mk49 Q)) =
 ((Br (ops0.cmp BinOp.lss i (ops0.bin BinOp.sub IntKind.i64 n (Int.ofNat 1)))
 (Chk (ops0.le 32 (ops0.len ss))
 (((PKey (ops0.ext ss 0 32)) ∧
 ((Int.ofNat 0) ≤ (ops0.cvt IntKind.u64 i))) ∧
 (Chk (ops0.eq (ops0.len (HF.drv F (ops0.ext ss 0 32) [115, 104, 97, 114, 101] (ops0.cvt IntKind.u64 i))) 32)
 (Chk (ops0.le (ops0.add 0 (ops0.mul N 32)) (ops0.len os))
 (Chk (ops0.le 32 (ops0.len (ops0.spl (z8 32) 0 (HF.drv F (ops0.ext ss 0 32) [115, 104, 97, 114, 101] (ops0.cvt IntKind.u64 i)))))
 (Chk (ops0.room N 1 32)
 (Q Ex.norm [AV.top, AV.top, (AV.int IntKind.i64 n), (AV.ptr 0 0), (AV.ptr 1 0), AV.top, AV.top, AV.top, (AV.slc 3 0 (ops0.add N 1) (ops0.add N 1) 32), (AV.int IntKind.i64 (ops0.bin BinOp.add IntKind.i64 i (Int.ofNat 1))), AV.top, AV.top, AV.top, AV.top, AV.top, AV.top, AV.top, AV.top, AV.top, AV.top, AV.top, AV.top, AV.top, AV.top, AV.top, AV.top, AV.top, AV.top, AV.top, AV.top, AV.top, AV.top, AV.top, AV.top, AV.top, AV.top, AV.top, AV.top, AV.top] [(Blk.cells rs), (Blk.cells ss), Blk.dead, (Blk.cells (ops0.app (ops0.ext os 0 (ops0.mul N 32)) (ops0.ext (ops0.spl (z8 32) 0 (HF.drv F (ops0.ext ss 0 32) [115, 104, 97, 114, 101] (ops0.cvt IntKind.u64 i))) 0 32)))])))))))
 (Q (Ex.exit 0) [AV.top, AV.top, (AV.int IntKind.i64 n), (AV.ptr 0 0), (AV.ptr 1 0), AV.top, AV.top, AV.top, (AV.slc 2 0 N N 32), (AV.int IntKind.i64 i), AV.top, AV.top, AV.top, AV.top, AV.top, AV.top, AV.top, AV.top, AV.top, AV.top, AV.top, AV.top, AV.top, AV.top, AV.top, AV.top, AV.top, AV.top, AV.top, AV.top, AV.top, AV.top, AV.top, AV.top, AV.top, AV.top, AV.top, AV.top, AV.top] [(Blk.cells rs), (Blk.cells ss), (Blk.cells os)]))) := by kernel_rfl

theorem vc49 (S : JX) (Y : JY) (F : HF) (Z : JW) (z : Int → Bool) (rs ss : List AV) (n : Int) (Q : Nat → Nat → Nat → Nat → List AV → Int → Prop) (QN : Int → Prop) :
  (vcall (vcA kdYes (cnJ3 S Y F) (ln49 Z z)) ops0 (tabOne 49 vf49) 200 vf49 [.agg rs, .agg ss, .int .i64 n] [] (endT Q QN)) =
 ((Br (ops0.cmp BinOp.lss n (Int.ofNat 1))
 (QN (Int.ofNat 1))
 (Br (ops0.cmp BinOp.gtr n (Int.ofNat 16))
 (QN (Int.ofNat 1))
 ((((0 : Nat) = 0) ∧
 ((VCis lp49 lp49) ∧
 ((([AV.top, AV.top, (AV.int IntKind.i64 n), (AV.ptr 0 0), (AV.ptr 1 0), AV.top, AV.top, AV.top, AV.nils, (AV.int IntKind.i64 (Int.ofNat 0)), AV.top, AV.top, AV.top, AV.top, AV.top, AV.top, AV.top, AV.top, AV.top, AV.top, AV.top, AV.top, AV.top, AV.top, AV.top, AV.top, AV.top, AV.top, AV.top, AV.top, AV.top, AV.top, AV.top, AV.top, AV.top, AV.top, AV.top, AV.top, AV.top] : Fr) = [AV.top, AV.top, (AV.int IntKind.i64 n), (AV.ptr 0 0), (AV.ptr 1 0), AV.top, AV.top, AV.top, AV.nils, (AV.int IntKind.i64 (Int.ofNat 0)), AV.top, AV.top, AV.top, AV.top, AV.top, AV.top, AV.top, AV.top, AV.top, AV.top, AV.top, AV.top, AV.top, AV.top, AV.top, AV.top, AV.top, AV.top, AV.top, AV.top, AV.top, AV.top, AV.top, AV.top, AV.top, AV.top, AV.top, AV.top, AV.top]) ∧
 (P49 rs ss n)))) ∧
 (Br (z n)
 (Chk (ops0.le 32 (ops0.len rs))
 (Chk (ops0.eq (ops0.len (ops0.ext rs 0 32)) 32)
 (Chk (ops0.le 32 (ops0.len (ops0.spl (z8 32) 0 (ops0.ext rs 0 32))))
 ((PSh (ops0.app [] (ops0.ext (ops0.spl (z8 32) 0 (ops0.ext rs 0 32)) 0 32)) 0 1) ∧
 (Chk (ops0.eq (ops0.len (JX.jn S (ops0.app [] (ops0.ext (ops0.spl (z8 32) 0 (ops0.ext rs 0 32)) 0 32)) 0 1)) 32)
 (Chk (ops0.le 32 (ops0.len (ops0.spl (z8 32) 0 (JX.jn S (ops0.app [] (ops0.ext (ops0.spl (z8 32) 0 (ops0.ext rs 0 32)) 0 32)) 0 1))))
 ((flatL (ops0.ext (ops0.spl (z8 32) 0 (JX.jn S (ops0.app [] (ops0.ext (ops0.spl (z8 32) 0 (ops0.ext rs 0 32)) 0 32)) 0 1)) 0 32)) ∧
 (Q 0 1 1 32 (ops0.ext (ops0.spl (z8 32) 0 (JX.jn S (ops0.app [] (ops0.ext (ops0.spl (z8 32) 0 (ops0.ext rs 0 32)) 0 32)) 0 1)) 0 32) (Int.ofNat 0)))))))))
 (Chk (ops0.le (ops0.add 0 (ops0.mul (ops0.nat (ops0.bin BinOp.sub IntKind.i64 n (Int.ofNat 1))) 32)) (ops0.len (JW.out Z ss n)))
 (Chk (ops0.room 0 (ops0.nat (ops0.bin BinOp.sub IntKind.i64 n (Int.ofNat 1))) 32)
 (Chk (ops0.le 32 (ops0.len rs))
 (Chk (ops0.eq (ops0.len (ops0.ext rs 0 32)) 32)
 (Chk (ops0.le (ops0.add 0 (ops0.mul (ops0.nat (ops0.bin BinOp.sub IntKind.i64 n (Int.ofNat 1))) 32)) (ops0.len (ops0.ext (JW.out Z ss n) 0 (ops0.mul (ops0.nat (ops0.bin BinOp.sub IntKind.i64 n (Int.ofNat 1))) 32))))
 (Chk (ops0.le 32 (ops0.len (ops0.spl (z8 32) 0 (ops0.ext rs 0 32))))
 (Chk (ops0.room (ops0.nat (ops0.bin BinOp.sub IntKind.i64 n (Int.ofNat 1))) 1 32)
 ((PSh (ops0.app (ops0.ext (ops0.ext (JW.out Z ss n) 0 (ops0.mul (ops0.nat (ops0.bin BinOp.sub IntKind.i64 n (Int.ofNat 1))) 32)) 0 (ops0.mul (ops0.nat (ops0.bin BinOp.sub IntKind.i64 n (Int.ofNat 1))) 32)) (ops0.ext (ops0.spl (z8 32) 0 (ops0.ext rs 0 32)) 0 32)) 0 (ops0.add (ops0.nat (ops0.bin BinOp.sub IntKind.i64 n (Int.ofNat 1))) 1)) ∧
 (Chk (ops0.eq (ops0.len (JX.jn S (ops0.app (ops0.ext (ops0.ext (JW.out Z ss n) 0 (ops0.mul (ops0.nat (ops0.bin BinOp.sub IntKind.i64 n (Int.ofNat 1))) 32)) 0 (ops0.mul (ops0.nat (ops0.bin BinOp.sub IntKind.i64 n (Int.ofNat 1))) 32)) (ops0.ext (ops0.spl (z8 32) 0 (ops0.ext rs 0 32)) 0 32)) 0 (ops0.add (ops0.nat (ops0.bin BinOp.sub IntKind.i64 n (Int.ofNat 1))) 1))) 32)
 (Chk (ops0.le (ops0.add 0 (ops0.mul (ops0.nat (ops0.bin BinOp.sub IntKind.i64 n (Int.ofNat 1))) 32)) (ops0.len (JW.out Z ss n)))
 (Chk (ops0.le 32 (ops0.len (ops0.spl (z8 32) 0 (JX.jn S (ops0.app (ops0.ext (ops0.ext (JW.out Z ss n) 0 (ops0.mul (ops0.nat (ops0.bin BinOp.sub IntKind.i64 n (Int.ofNat 1))) 32)) 0 (ops0.mul (ops0.nat (ops0.bin BinOp.sub IntKind.i64 n (Int.ofNat 1))) 32)) (ops0.ext (ops0.spl (z8 32) 0 (ops0.ext rs 0 32)) 0 32)) 0 (ops0.add (ops0.nat (ops0.bin BinOp.sub IntKind.i64 n (Int.ofNat 1))) 1)))))
 (Chk (ops0.room (ops0.nat (ops0.bin BinOp.sub IntKind.i64 n (Int.ofNat 1))) 1 32)
 ((flatL (ops0.app (ops0.ext (JW.out Z ss n) 0 (ops0.mul (ops0.nat (ops0.bin BinOp.sub IntKind.i64 n (Int.ofNat 1))) 32)) (ops0.ext (ops0.spl (z8 32) 0 (JX.jn S (ops0.app (ops0.ext (ops0.ext (JW.out Z ss n) 0 (ops0.mul (ops0.nat (ops0.bin BinOp.sub IntKind.i64 n (Int.ofNat 1))) 32)) 0 (ops0.mul (ops0.nat (ops0.bin BinOp.sub IntKind.i64 n (Int.ofNat 1))) 32)) (ops0.ext (ops0.spl (z8 32) 0 (ops0.ext rs 0 32)) 0 32)) 0 (ops0.add (ops0.nat (ops0.bin BinOp.sub IntKind.i64 n (Int.ofNat 1))) 1))) 0 32))) ∧
 (Q 0 (ops0.add (ops0.nat (ops0.bin BinOp.sub IntKind.i64 n (Int.ofNat 1))) 1) (ops0.add (ops0.nat (ops0.bin BinOp.sub IntKind.i64 n (Int.ofNat 1))) 1) 32 (ops0.app (ops0.ext (JW.out Z ss n) 0 (ops0.mul (ops0.nat (ops0.bin BinOp.sub IntKind.i64 n (Int.ofNat 1))) 32)) (ops0.ext (ops0.spl (z8 32) 0 (JX.jn S (ops0.app (ops0.ext (ops0.ext (JW.out Z ss n) 0 (ops0.mul (ops0.nat (ops0.bin BinOp.sub IntKind.i64 n (Int.ofNat 1))) 32)) 0 (ops0.mul (ops0.nat (ops0.bin BinOp.sub IntKind.i64 n (Int.ofNat 1))) 32)) (ops0.ext (ops0.spl (z8 32) 0 (ops0.ext rs 0 32)) 0 32)) 0 (ops0.add (ops0.nat (ops0.bin BinOp.sub IntKind.i64 n (Int.ofNat 1))) 1))) 0 32)) (Int.ofNat 0)))))))))))))))))))) := by kernel_rfl

def jw0 : JW := ⟨fun ss n => (dsL (bytesA ss) (n.toNat - 1)).flatten.map by8⟩
def isOne (n : Int) : Bool := decide (n = 1)
theorem sub_one {N : Nat} (h1 : 1 ≤ N) (h2 : N ≤ 16) : ops0.bin .sub .i64 (Int.ofNat N) (Int.ofNat 1) = Int.ofNat (N - 1) := nSub h1 (by omega)
theorem fr49_ren {σ : Nat → Option Nat} {φ : Nat → Option (List AV)} (h0 : σ 0 = some 0) (h1 : σ 1 = some 1) (n : Int) (x : AV) (i : Int) :
    forget mk49 (renL σ φ true (fr49 n x i)) = fr49 n (ren σ φ true x) i := by
  unfold fr49 mk49
  simp only [renL, ren, h0, h1, forget]
theorem body49a {rs : List AV} {s : List UInt8} {N : Nat} (hs : s.length = 32) (h1 : 2 ≤ N) (h2 : N ≤ 16) :
    BodyTo Try.prog 0 lp49 (fr49 (Int.ofNat N) .nils (Int.ofNat 0)) [.cells rs, .cells (s.map by8)] .norm (fr49 (Int.ofNat N) (.slc 2 0 1 1 32) (Int.ofNat 1)) [.cells rs, .cells (s.map by8), .cells ((dsL s 1).flatten.map by8)] := by
  refine body_x cnJ3_ok (noLn_ok _) (noTab_ok _) (n := 100) (g := kdYes) (bs := mk49) ?_ (by simp)
  have hd := dL_length s 0
  have e1 : (dsL s 1).flatten = dL s 0 := by rw [ds_succ, List.flatten_append]; simp [dsL]
  rw [vcl49a, sub_one (by omega) h2, nC64 (by omega), key_ext hs, drv_eq, spl32 hd, ext32 (by rw [List.length_map, hd]), add1 (by omega), nLss, e1]
  exact Br.t (decide_eq_true (by omega)) (Chk.mk (key_len hs) ⟨⟨pkey s hs, Int.natCast_nonneg _⟩, Chk.mk (eq32 (by rw [List.length_map, hd])) (Chk.mk (key_len hd) ⟨rfl, rfl, rfl⟩)⟩)
theorem body49b {rs : List AV} {s : List UInt8} {N i : Nat} (hrs : flatL rs) (hs : s.length = 32) (hi : i + 1 < N) (h2 : N ≤ 16) :
    BodyTo Try.prog 0 lp49 (fr49 (Int.ofNat N) (.slc 2 0 i i 32) (Int.ofNat i)) [.cells rs, .cells (s.map by8), .cells ((dsL s i).flatten.map by8)] .norm (fr49 (Int.ofNat N) (.slc 2 0 (i + 1) (i + 1) 32) (Int.ofNat (i + 1))) [.cells rs, .cells (s.map by8), .cells ((dsL s (i + 1)).flatten.map by8)] := by
  have hd := dL_length s i
  have hA : ((dsL s i).flatten.map by8).length = i * 32 := by rw [List.length_map, flat_len (ds_32 s i), ds_length]
  have e1 : (dsL s (i + 1)).flatten.map by8 = (dsL s i).flatten.map by8 ++ (dL s i).map by8 := by rw [ds_succ, List.flatten_append, List.map_append]; simp
  have hb : BodyTo Try.prog 0 lp49 (fr49 (Int.ofNat N) (.slc 2 0 i i 32) (Int.ofNat i)) [.cells rs, .cells (s.map by8), .cells ((dsL s i).flatten.map by8)] .norm (fr49 (Int.ofNat N) (.slc 3 0 (i + 1) (i + 1) 32) (Int.ofNat (i + 1)))
      [.cells rs, .cells (s.map by8), .dead, .cells ((dsL s (i + 1)).flatten.map by8)] := by
    refine body_x cnJ3_ok (noLn_ok _) (noTab_ok _) (n := 100) (g := kdYes) (bs := mk49) ?_ (by simp)
    have ee : ops0.ext ((dsL s i).flatten.map by8) 0 (ops0.mul i 32) = (dsL s i).flatten.map by8 := by rw [nExt, nTimes, List.drop_zero, List.take_of_length_le (by omega)]
    rw [vcl49b, ee, sub_one (by omega) h2, nC64 (by omega), key_ext hs, drv_eq, spl32 hd, ext32 (by rw [List.length_map, hd]), add1 (by omega), nLss, nApp, e1]
    refine Br.t (decide_eq_true (by omega)) (Chk.mk (key_len hs) ⟨⟨pkey s hs, Int.natCast_nonneg _⟩, Chk.mk (eq32 (by rw [List.length_map, hd])) (Chk.mk ?_ (Chk.mk (key_len hd) (Chk.mk ?_ ⟨rfl, rfl, rfl⟩)))⟩)
    · rw [nLe, nPlus, nTimes, nLen]; exact decide_eq_true (by omega)
    · rw [nRoom]; exact decide_eq_true (by omega)
  have h3 := hb.post (Weak.pickV [0, 1, 3] mk49 2 (by simp) (by simp) (by simp))
  rw [fr49_ren (show pickN [0, 1, 3] 0 = some 0 from rfl) (show pickN [0, 1, 3] 1 = some 1 from rfl)] at h3
  have e3 : pickH (viewF [.cells rs, .cells (s.map by8), .dead, .cells ((dsL s (i + 1)).flatten.map by8)] [0, 1, 3] 2) [0, 1, 3] [.cells rs, .cells (s.map by8), .dead, .cells ((dsL s (i + 1)).flatten.map by8)] = [.cells rs, .cells (s.map by8), .cells ((dsL s (i + 1)).flatten.map by8)] := by
    show [renB _ _ true (.cells rs), renB _ _ true (.cells (s.map by8)), renB _ _ true (.cells ((dsL s (i + 1)).flatten.map by8))] = _
    simp only [renB, renL_flat hrs, renL_flat (flat_by8 _)]
  have p3 : pickN [0, 1, 3] 3 = some 2 := rfl
  rw [e3] at h3
  simp only [ren, p3] at h3
  exact h3
theorem ln49_ok : LnOK Try.prog (ln49 jw0 isOne) := by
  intro n0 b fr H p x e hn0 hp lg
  unfold ln49 at e
  split at e <;> cases e
  rename_i n rs ss h1 h2
  obtain ⟨rfl, hb, hf, hrs, ⟨s, hs, rfl⟩, hn1, hn2⟩ := hp
  have hb : b = lp49 := hb
  subst hb
  obtain ⟨N, rfl⟩ : ∃ N : Nat, n = Int.ofNat N := ⟨n.toNat, (Int.toNat_of_nonneg (by omega)).symm⟩
  have hN1 : 1 ≤ N := by simp only [Int.ofNat_eq_natCast] at hn1; omega
  have hN2 : N ≤ 16 := by simp only [Int.ofNat_eq_natCast] at hn2; omega
  by_cases h : N = 1
  · subst h
    refine LoopTo.pre (Weak.forget (by simp) mk49) ?_ lg
    rw [hf]
    refine loop_chain (P := Try.prog) (n0 := 0) (b := lp49) (ex := .exit 0) (fr' := fr49 (Int.ofNat 1) .nils (Int.ofNat 0)) (H' := [.cells rs, .cells (s.map by8)]) (by intro h; cases h) (fun _ => (fr49 (Int.ofNat 1) .nils (Int.ofNat 0), [.cells rs, .cells (s.map by8)])) 0 0 (fun j h1 h2 => by omega) ?_
    refine body_x cnJ3_ok (noLn_ok _) (noTab_ok _) (n := 100) (g := kdYes) (bs := mk49) ?_ (by simp)
    rw [vcl49a, sub_one (by omega) hN2, nLss]
    exact Br.f (decide_eq_false (by omega)) ⟨rfl, rfl, rfl⟩
  · have hz : isOne (Int.ofNat N) = false := decide_eq_false (by simp only [Int.ofNat_eq_natCast]; omega)
    rw [hz]
    have eo : jw0.out (s.map by8) (Int.ofNat N) = (dsL s (N - 1)).flatten.map by8 := by
      show (dsL (bytesA (s.map by8)) (N - 1)).flatten.map by8 = _
      rw [bytesA_by8]
    show LoopTo _ _ _ _ _ _ _ (fr49 (Int.ofNat N) (.slc 2 0 (ops0.nat (ops0.bin .sub .i64 (Int.ofNat N) (Int.ofNat 1))) (ops0.nat (ops0.bin .sub .i64 (Int.ofNat N) (Int.ofNat 1))) 32) (ops0.bin .sub .i64 (Int.ofNat N) (Int.ofNat 1))) [.cells rs, .cells (s.map by8), .cells (jw0.out (s.map by8) (Int.ofNat N))] _
    rw [eo, sub_one hN1 hN2, nNat]
    refine LoopTo.pre (Weak.forget (by simp) mk49) ?_ lg
    rw [hf]
    have h := loop_chain (P := Try.prog) (n0 := 0) (b := lp49) (ex := .exit 0) (fr' := fr49 (Int.ofNat N) (.slc 2 0 (N - 1) (N - 1) 32) (Int.ofNat (N - 1))) (H' := [.cells rs, .cells (s.map by8), .cells ((dsL s (N - 1)).flatten.map by8)]) (by intro h; cases h)
      (fun i => match i with
        | 0 => (fr49 (Int.ofNat N) .nils (Int.ofNat 0), [.cells rs, .cells (s.map by8)])
        | k + 1 => (fr49 (Int.ofNat N) (.slc 2 0 (k + 1) (k + 1) 32) (Int.ofNat (k + 1)), [.cells rs, .cells (s.map by8), .cells ((dsL s (k + 1)).flatten.map by8)])) (N - 1) 0 (fun i _ hi => ?_) ?_
    · exact h
    · cases i with
      | zero => exact body49a hs (by omega) hN2
      | succ k => exact body49b hrs hs (by omega) hN2
    · rw [Nat.zero_add]
      obtain ⟨k, rfl⟩ : ∃ k, N = k + 2 := ⟨N - 2, by omega⟩
      show BodyTo _ _ _ (fr49 (Int.ofNat (k + 2)) (.slc 2 0 (k + 1) (k + 1) 32) (Int.ofNat (k + 1))) [.cells rs, .cells (s.map by8), .cells ((dsL s (k + 1)).flatten.map by8)] _ _ _
      refine body_x cnJ3_ok (noLn_ok _) (noTab_ok _) (n := 100) (g := kdYes) (bs := mk49) ?_ (by simp)
      rw [vcl49b, sub_one (by omega) hN2, nLss]
      exact Br.f (decide_eq_false (by omega)) ⟨rfl, rfl, rfl⟩

theorem one_32 {r : List UInt8} (hr : r.length = 32) : ∀ x, x ∈ ([r] : List (List UInt8)) → x.length = 32 := by
  intro x hx
  rw [List.mem_singleton] at hx
  rw [hx]; exact hr
theorem join_one {r : List UInt8} (hr : r.length = 32) : joinL [r] = r := by
  show xorL zero32 r = r
  exact zero_xor hr
theorem join_snoc {L : List (List UInt8)} (h : ∀ x, x ∈ L → x.length = 32) {r : List UInt8} (hr : r.length = 32) : joinL (L ++ [r]) = L.foldl xorL r := by
  rw [fold_join h r hr]
  unfold joinL
  rw [List.foldl_append, List.foldl_cons, List.foldl_nil, xor_comm']
theorem call49 {r s : List UInt8} (hr : r.length = 32) (hs : s.length = 32) {N : Nat} (h1 : 1 ≤ N) (h2 : N ≤ 16) :
    CallTo Try.prog 49 [.agg (r.map by8), .agg (s.map by8), .int .i64 (Int.ofNat N)] [] (.tup [.slc 0 0 N N 32, .int .i64 0]) [.cells ((splL r s N).flatten.map by8)] [] := by
  refine call_t cnJ3_ok ln49_ok (tabOne_ok ok49) (tabOne_self 49 vf49) (n := 200) (g := kdYes) ?_
  have hP : P49 (r.map by8) (s.map by8) (Int.ofNat N) := ⟨flat_by8 _, pkey s hs, by simp only [Int.ofNat_eq_natCast]; omega, by simp only [Int.ofNat_eq_natCast]; omega⟩
  have hrm : (r.map by8).length = 32 := by rw [List.length_map, hr]
  rw [vc49, key_ext hr, spl32 hr, ext32 hrm, nLss, nGtr]
  refine Br.f (decide_eq_false (by omega)) (Br.f (decide_eq_false (by omega)) ⟨⟨rfl, rfl, rfl, hP⟩, ?_⟩)
  by_cases h : N = 1
  · subst h
    refine Br.t rfl ?_
    have e1 : ops0.app [] (r.map by8) = ([r] : List (List UInt8)).flatten.map by8 := by rw [nApp]; simp
    have ej : jx0.jn (([r] : List (List UInt8)).flatten.map by8) 0 1 = r.map by8 := by
      show (joinL (shA _ 0 1)).map by8 = _
      rw [sha_flat (n := 1) (one_32 hr) rfl, join_one hr]
    have ef : (splL r s 1).flatten = r := by unfold splL; simp [dsL]
    rw [e1, ej, spl32 hr, ext32 hrm, ef]
    exact Chk.mk (key_len hr) (Chk.mk (eq32 hrm) (Chk.mk (key_len hr) ⟨psh_flat (one_32 hr) (by simp) rfl, Chk.mk (eq32 hrm) (Chk.mk (key_len hr) ⟨flat_by8 _, rfl, rfl, rfl, rfl, rfl, rfl⟩)⟩))
  · have hz : isOne (Int.ofNat N) = false := decide_eq_false (by simp only [Int.ofNat_eq_natCast]; omega)
    refine Br.f hz ?_
    have hw := want_32 hr s (N - 1)
    have hwm : (((dsL s (N - 1)).foldl xorL r).map by8).length = 32 := by rw [List.length_map, hw]
    have hA : ((dsL s (N - 1)).flatten.map by8).length = (N - 1) * 32 := by rw [List.length_map, flat_len (ds_32 s (N - 1)), ds_length]
    have eo : jw0.out (s.map by8) (Int.ofNat N) = (dsL s (N - 1)).flatten.map by8 := by
      show (dsL (bytesA (s.map by8)) (N - 1)).flatten.map by8 = _
      rw [bytesA_by8]
    have ee : ops0.ext ((dsL s (N - 1)).flatten.map by8) 0 (ops0.mul (N - 1) 32) = (dsL s (N - 1)).flatten.map by8 := by rw [nExt, nTimes, List.drop_zero, List.take_of_length_le (by omega)]
    have ea : ops0.app ((dsL s (N - 1)).flatten.map by8) (r.map by8) = (dsL s (N - 1) ++ [r]).flatten.map by8 := by rw [nApp, List.flatten_append, List.map_append]; simp
    have h32 : ∀ x, x ∈ dsL s (N - 1) ++ [r] → x.length = 32 := by
      intro x hx
      rcases List.mem_append.1 hx with hx | hx
      · exact ds_32 _ _ x hx
      · exact one_32 hr x hx
    have hlen : (dsL s (N - 1) ++ [r]).length = N - 1 + 1 := by rw [List.length_append, ds_length, List.length_singleton]
    have ej : jx0.jn ((dsL s (N - 1) ++ [r]).flatten.map by8) 0 (N - 1 + 1) = ((dsL s (N - 1)).foldl xorL r).map by8 := by
      show (joinL (shA _ 0 (N - 1 + 1))).map by8 = _
      rw [sha_flat h32 hlen.symm, join_snoc (ds_32 s (N - 1)) hr]
    have ef : ops0.app ((dsL s (N - 1)).flatten.map by8) (((dsL s (N - 1)).foldl xorL r).map by8) = (splL r s N).flatten.map by8 := by
      unfold splL
      rw [nApp, List.flatten_append, List.map_append]; simp
    rw [sub_one h1 h2, nNat, eo, ee, ee, ea, nPlus, nPlus, ej, spl32 hw, ext32 hwm, ef, nTimes, Nat.zero_add, show N - 1 + 1 = N by omega]
    have c1 : ops0.le ((N - 1) * 32) (ops0.len ((dsL s (N - 1)).flatten.map by8)) = true := by rw [nLe, nLen]; exact decide_eq_true (by omega)
    have c2 : ops0.room (N - 1) 1 32 = true := by rw [nRoom]; exact decide_eq_true (by omega)
    have c3 : ops0.room 0 (N - 1) 32 = true := by rw [nRoom]; exact decide_eq_true (by omega)
    refine Chk.mk c1 (Chk.mk c3 (Chk.mk (key_len hr) (Chk.mk (eq32 hrm) (Chk.mk c1 (Chk.mk (key_len hr) (Chk.mk c2 ⟨psh_flat h32 (by rw [hlen]; omega) (by rw [hlen]; omega), Chk.mk (eq32 hwm) (Chk.mk c1 (Chk.mk (key_len hw) (Chk.mk c2 ⟨flat_by8 _, rfl, rfl, rfl, rfl, rfl, rfl⟩)))⟩))))))
theorem call49n {r s : List UInt8} {n : Int} (h : n < 1 ∨ 16 < n) : CallTo Try.prog 49 [.agg (r.map by8), .agg (s.map by8), .int .i64 n] [] (.tup [.nils, .int .i64 1]) [] [] := by
  refine call_tn cnJ3_ok ln49_ok (tabOne_ok ok49) (tabOne_self 49 vf49) (n := 200) (g := kdYes) ?_
  rw [vc49, iLss', iGtr']
  refine Br.mk (fun _ => rfl) (fun h1 => ?_)
  have h1 : ¬ n < 1 := of_decide_eq_false h1
  exact Br.t (decide_eq_true (show (16 : Int) < n by omega)) rfl

end
end Go.Proofs.Vm

namespace Go.Proofs.Vm
open Go.Vm
noncomputable section
/-- A byte, and 31 of zero. -/
def b1 (k : Nat) : List AV := .int .u8 (Int.ofNat k) :: z8 31
def P51 (pa : List AV) (oa la : Nat) (pb : List AV) (ob lb : Nat) : Prop := PSh pa oa la ∧ PSh pb ob lb ∧ la = lb ∧ shA pa oa la = shA pb ob lb
structure JS where
  spl : List AV → List AV → Int → List AV
  inN : Int → Bool
def js0 : JS := ⟨fun rs ss n => (splL (bytesA rs) (bytesA ss) n.toNat).flatten.map by8, fun n => decide (1 ≤ n) && decide (n ≤ 16)⟩
def cnJ4 (S : JX) (Y : JY) (F : HF) (K : JS) : CnF := cnOr (fun f vals H => match f, vals with
  | 48, [.agg rs, .agg ss, .int .i64 n] => some (PKey rs ∧ PKey ss, .cond (K.inN n) (.ok (.tup [.slc (size H) 0 (ops0.nat n) (ops0.nat n) 32, .int .i64 0]) (join H [.cells (K.spl rs ss n)]) []) (.ok (.tup [.nils, .int .i64 1]) H []))
  | 49, [.agg rs, .agg ss, .int .i64 n] => some (PKey rs ∧ PKey ss, .cond (K.inN n) (.ok (.tup [.slc (size H) 0 (ops0.nat n) (ops0.nat n) 32, .int .i64 0]) (join H [.cells (K.spl rs ss n)]) []) (.ok (.tup [.nils, .int .i64 1]) H []))
  | 55, [.agg rs, .agg ss, .int .i64 i] => some (PKey rs ∧ PKey ss, .ok (.agg (Y.hsh rs ss i)) H [])
  | 56, [.agg rs, .agg ss, .int .i64 i] => some (PKey rs ∧ PKey ss, .ok (.agg (Y.hsh rs ss i)) H [])
  | 51, [x, y] => match vw1 H x, vw1 H y with
    | .ros pa oa la _ _, .ros pb ob lb _ _ => some (P51 pa oa la pb ob lb, .ok (.bool true) H [])
    | _, _ => none
  | _, _ => none) (cnJ3 S Y F)
def cnJ5 (S : JX) (Y : JY) (F : HF) (K : JS) : CnF := cnOr (fun f vals H => match f, vals with
  | 50, [] => some (True, .ok (.bool true) H [])
  | _, _ => none) (cnJ4 S Y F K)
def lp51 : VC := (.seq (.seq (.reg .false [] [⟨(.some 11), .none, .mov, [(.t 5)]⟩, ⟨(.some 12), .none, .mov, [(.t 0)]⟩, ⟨(.some 13), .none, .len, [(.t 12)]⟩, ⟨(.some 14), .none, (.cmp .lss), [(.t 11), (.t 13)]⟩]) (.cond (.t 14) .skip (.exit 0))) (.seq (.block 1 (.seq (.reg .true [0, 0, 3, 7, 0, 0, 48, 112, 255] [⟨(.some 17), .none, .mov, [(.t 0)]⟩, ⟨(.some 18), .none, .mov, [(.t 5)]⟩, ⟨(.some 19), .none, (.ixS 32), [(.t 17), (.t 18)]⟩, ⟨(.some 20), .none, (.ldn 32), [(.t 19)]⟩, ⟨(.some 21), .none, .mov, [(.t 1)]⟩, ⟨(.some 22), .none, .mov, [(.t 5)]⟩, ⟨(.some 23), .none, (.ixS 32), [(.t 21), (.t 22)]⟩, ⟨(.some 24), .none, (.ldn 32), [(.t 23)]⟩, ⟨(.some 25), .none, (.acmp .true 32 [⟨0, ⟨.u8, 32⟩⟩]), [(.t 20), (.t 24)]⟩]) (.cond (.t 25) (.seq (.reg .false [] [⟨(.some 4), .none, .mov, [(.c (.bool .false))]⟩]) .ret) .skip))) (.reg .false [] [⟨(.some 15), .none, .mov, [(.t 5)]⟩, ⟨(.some 16), .none, (.bin .add .i64), [(.t 15), (.c (.int .i64 (.ofNat 1)))]⟩, ⟨(.some 5), .none, .mov, [(.t 16)]⟩])))
def fr51 (pa : List AV) (oa la ca : Nat) (ea : Bool) (pb : List AV) (ob lb cb : Nat) (eb : Bool) (i : Int) : Fr := [.ros pa oa la ca ea, .ros pb ob lb cb eb, .top, .top, .top, .int .i64 i, .top, .top, .top, .top, .top, .top, .top, .top, .top, .top, .top, .top, .top, .top, .top, .top, .top, .top, .top, .top]
def mk51 : List Bool := [false, false, true, true, true, false, true, true, true, true, true, true, true, true, true, true, true, true, true, true, true, true, true, true, true, true]
def ln51 : LnF := fun n0 b fr H => match slot fr 0, slot fr 1, H with
  | .ros pa oa la ca ea, .ros pb ob lb cb eb, [] => some (n0 = 0 ∧ VCis b lp51 ∧ forget mk51 fr = fr51 pa oa la ca ea pb ob lb cb eb 0 ∧ P51 pa oa la pb ob lb, .ok (.exit 0) (fr51 pa oa la ca ea pb ob lb cb eb la) [])
  | _, _, _ => none

theorem vcl51 (pa : List AV) (oa la ca : Nat) (ea : Bool) (pb : List AV) (ob lb cb : Nat) (eb : Bool) (i : Int) (Q : Ex → Fr → Hl → Prop) :
  (vm (vcA kdYes noCn noLn) ops0 noTab 100 0 lp51 (fr51 pa oa la ca ea pb ob lb cb eb i) [] [] (bodyX mk51 Q)) =
 ((Br (ops0.cmp BinOp.lss i (ops0.ofn la))
 (Chk (ops0.inr i la)
 (Chk (ops0.le (ops0.add (ops0.adr oa i 32) 32) (ops0.len pa))
 (Chk (ops0.inr i lb)
 (Chk (ops0.le (ops0.add (ops0.adr ob i 32) 32) (ops0.len pb))
 (Chk (ops0.eq (ops0.len (ops0.ext pa (ops0.adr oa i 32) 32)) 32)
 (Chk (ops0.eq (ops0.len (ops0.ext pb (ops0.adr ob i 32) 32)) 32)
 (Chk (ops0.le 32 (ops0.len (ops0.ext pa (ops0.adr oa i 32) 32)))
 (Chk (ops0.le 32 (ops0.len (ops0.ext pb (ops0.adr ob i 32) 32)))
 (∃ l : (List Int), ((((ops0.ext (ops0.ext pa (ops0.adr oa i 32) 32) 0 32) : (List AV)) = (List.map (AV.int IntKind.u8) l)) ∧
 (∃ l1 : (List Int), ((((ops0.ext (ops0.ext pb (ops0.adr ob i 32) 32) 0 32) : (List AV)) = (List.map (AV.int IntKind.u8) l1)) ∧
 (Br (ops0.eqi l l1)
 (Q Ex.norm [(AV.ros pa oa la ca ea), (AV.ros pb ob lb cb eb), AV.top, AV.top, AV.top, (AV.int IntKind.i64 (ops0.bin BinOp.add IntKind.i64 i (Int.ofNat 1))), AV.top, AV.top, AV.top, AV.top, AV.top, AV.top, AV.top, AV.top, AV.top, AV.top, AV.top, AV.top, AV.top, AV.top, AV.top, AV.top, AV.top, AV.top, AV.top, AV.top] [])
 (Q Ex.ret [(AV.ros pa oa la ca ea), (AV.ros pb ob lb cb eb), AV.top, AV.top, AV.top, (AV.int IntKind.i64 i), AV.top, AV.top, AV.top, AV.top, AV.top, AV.top, AV.top, AV.top, AV.top, AV.top, AV.top, AV.top, AV.top, AV.top, AV.top, AV.top, AV.top, AV.top, AV.top, AV.top] []))))))))))))))
 (Q (Ex.exit 0) [(AV.ros pa oa la ca ea), (AV.ros pb ob lb cb eb), AV.top, AV.top, AV.top, (AV.int IntKind.i64 i), AV.top, AV.top, AV.top, AV.top, AV.top, AV.top, AV.top, AV.top, AV.top, AV.top, AV.top, AV.top, AV.top, AV.top, AV.top, AV.top, AV.top, AV.top, AV.top, AV.top] []))) := by kernel_rfl

theorem vc51 (pa : List AV) (oa la ca : Nat) (ea : Bool) (pb : List AV) (ob lb cb : Nat) (eb : Bool) (Q : AV → Hl → Prop) :
  (vcall (vcA kdYes noCn ln51) ops0 (tabOne 51 vf51) 200 vf51 [.ros pa oa la ca ea, .ros pb ob lb cb eb] [] (endN (fun _ => 0) Q)) =
 ((Br (ops0.cmp BinOp.neq (ops0.ofn la) (ops0.ofn lb))
 (Q (AV.bool Bool.false) [])
 ((((0 : Nat) = 0) ∧
 ((VCis lp51 lp51) ∧
 ((([(AV.ros pa oa la ca ea), (AV.ros pb ob lb cb eb), AV.top, AV.top, AV.top, (AV.int IntKind.i64 (Int.ofNat 0)), AV.top, AV.top, AV.top, AV.top, AV.top, AV.top, AV.top, AV.top, AV.top, AV.top, AV.top, AV.top, AV.top, AV.top, AV.top, AV.top, AV.top, AV.top, AV.top, AV.top] : Fr) = [(AV.ros pa oa la ca ea), (AV.ros pb ob lb cb eb), AV.top, AV.top, AV.top, (AV.int IntKind.i64 (Int.ofNat 0)), AV.top, AV.top, AV.top, AV.top, AV.top, AV.top, AV.top, AV.top, AV.top, AV.top, AV.top, AV.top, AV.top, AV.top, AV.top, AV.top, AV.top, AV.top, AV.top, AV.top]) ∧
 (P51 pa oa la pb ob lb)))) ∧
 (Q (AV.bool Bool.true) [])))) := by kernel_rfl

theorem vc50 (S : JX) (Y : JY) (F : HF) (K : JS) (Q : AV → Hl → Prop) :
  (vcall (vcA kdYes (cnJ4 S Y F K) noLn) ops0 (tabOne 50 vf50) 200 vf50 [] [] (endN (fun _ => 0) Q)) =
 ((((PKey (b1 1)) ∧
 (PKey (b1 2))) ∧
 (Br (JS.inN K (Int.ofNat 3))
 (((PKey (b1 1)) ∧
 (PKey (b1 2))) ∧
 (Br (JS.inN K (Int.ofNat 17))
 (Q (AV.bool Bool.false) [])
 ((PSh (JS.spl K (b1 1) (b1 2) (Int.ofNat 3)) 0 3) ∧
 (Chk (ops0.eq (ops0.len (JX.jn S (JS.spl K (b1 1) (b1 2) (Int.ofNat 3)) 0 3)) 32)
 (Chk (ops0.le 32 (ops0.len (JX.jn S (JS.spl K (b1 1) (b1 2) (Int.ofNat 3)) 0 3)))
 (∃ l : (List Int), ((((ops0.ext (JX.jn S (JS.spl K (b1 1) (b1 2) (Int.ofNat 3)) 0 3) 0 32) : (List AV)) = (List.map (AV.int IntKind.u8) l)) ∧
 (∃ l1 : (List Int), ((((b1 1) : (List AV)) = (List.map (AV.int IntKind.u8) l1)) ∧
 (Br (ops0.eqi l l1)
 (((PKey (b1 1)) ∧
 (PKey (b1 2))) ∧
 (Chk (ops0.eq (ops0.len (JY.sec Y (b1 1) (b1 2) (Int.ofNat 0))) 32)
 (Chk (ops0.le 32 (ops0.len (JY.sec Y (b1 1) (b1 2) (Int.ofNat 0))))
 (∃ l2 : (List Int), ((((ops0.ext (JY.sec Y (b1 1) (b1 2) (Int.ofNat 0)) 0 32) : (List AV)) = (List.map (AV.int IntKind.u8) l2)) ∧
 (∃ l3 : (List Int), ((((z8 32) : (List AV)) = (List.map (AV.int IntKind.u8) l3)) ∧
 (Br (ops0.eqi l2 l3)
 (Q (AV.bool Bool.false) [])
 (Q (AV.bool Bool.true) [])))))))))
 (Q (AV.bool Bool.false) [])))))))))))
 (((PKey (b1 1)) ∧
 (PKey (b1 2))) ∧
 (Br (JS.inN K (Int.ofNat 17))
 (Q (AV.bool Bool.false) [])
 (Q (AV.bool Bool.false) [])))))) := by kernel_rfl

theorem vc18 (S : JX) (Y : JY) (F : HF) (K : JS) (rs ss : List AV) (i : Int) (cs : List AV) (o n c : Nat) (e : Bool) (Q : AV → Prop) :
  (vcall (vcA kdYes (cnJ5 S Y F K) noLn) ops0 (tabOne 18 vf18) 200 vf18 [.agg rs, .agg ss, .int .i64 i, .ros cs o n c e] [] (fun r _ _ => Q r)) =
 ((Chk (ops0.le 32 (ops0.len rs))
 (Chk (ops0.le 32 (ops0.len ss))
 (((PKey (ops0.ext rs 0 32)) ∧
 (PKey (ops0.ext ss 0 32))) ∧
 (Chk (ops0.eq (ops0.len (JY.sec Y (ops0.ext rs 0 32) (ops0.ext ss 0 32) i)) 32)
 (True ∧
 (Chk (ops0.le 32 (ops0.len (ops0.spl (z8 32) 0 (JY.sec Y (ops0.ext rs 0 32) (ops0.ext ss 0 32) i))))
 (Chk (ops0.le 32 (ops0.len rs))
 (Chk (ops0.le 32 (ops0.len ss))
 (((PKey (ops0.ext rs 0 32)) ∧
 (PKey (ops0.ext ss 0 32))) ∧
 (Chk (ops0.eq (ops0.len (ops0.ext (ops0.spl (z8 32) 0 (JY.sec Y (ops0.ext rs 0 32) (ops0.ext ss 0 32) i)) 0 32)) 32)
 (Chk (ops0.eq (ops0.len (JY.sec Y (ops0.ext rs 0 32) (ops0.ext ss 0 32) i)) 32)
 (Chk (ops0.le 32 (ops0.len (ops0.ext (ops0.spl (z8 32) 0 (JY.sec Y (ops0.ext rs 0 32) (ops0.ext ss 0 32) i)) 0 32)))
 (Chk (ops0.le 32 (ops0.len (JY.sec Y (ops0.ext rs 0 32) (ops0.ext ss 0 32) i)))
 (∃ l : (List Int), ((((ops0.ext (ops0.ext (ops0.spl (z8 32) 0 (JY.sec Y (ops0.ext rs 0 32) (ops0.ext ss 0 32) i)) 0 32) 0 32) : (List AV)) = (List.map (AV.int IntKind.u8) l)) ∧
 (∃ l1 : (List Int), ((((ops0.ext (JY.sec Y (ops0.ext rs 0 32) (ops0.ext ss 0 32) i) 0 32) : (List AV)) = (List.map (AV.int IntKind.u8) l1)) ∧
 (Br (ops0.eqi l l1)
 (Chk (ops0.le 32 (ops0.len rs))
 (Chk (ops0.le 32 (ops0.len ss))
 (((PKey (ops0.ext rs 0 32)) ∧
 (PKey (ops0.ext ss 0 32))) ∧
 (Chk (ops0.le 32 (ops0.len rs))
 (Chk (ops0.le 32 (ops0.len ss))
 (((PKey (ops0.ext rs 0 32)) ∧
 (PKey (ops0.ext ss 0 32))) ∧
 (Chk (ops0.eq (ops0.len (JY.hsh Y (ops0.ext rs 0 32) (ops0.ext ss 0 32) i)) 32)
 (Chk (ops0.eq (ops0.len (JY.hsh Y (ops0.ext rs 0 32) (ops0.ext ss 0 32) i)) 32)
 (Chk (ops0.le 32 (ops0.len (JY.hsh Y (ops0.ext rs 0 32) (ops0.ext ss 0 32) i)))
 (Chk (ops0.le 32 (ops0.len (JY.hsh Y (ops0.ext rs 0 32) (ops0.ext ss 0 32) i)))
 (∃ l2 : (List Int), ((((ops0.ext (JY.hsh Y (ops0.ext rs 0 32) (ops0.ext ss 0 32) i) 0 32) : (List AV)) = (List.map (AV.int IntKind.u8) l2)) ∧
 (∃ l3 : (List Int), ((((ops0.ext (JY.hsh Y (ops0.ext rs 0 32) (ops0.ext ss 0 32) i) 0 32) : (List AV)) = (List.map (AV.int IntKind.u8) l3)) ∧
 (Br (ops0.eqi l2 l3)
 ((PSh cs o n) ∧
 ((PSh cs o n) ∧
 (Chk (ops0.eq (ops0.len (JX.jn S cs o n)) 32)
 (Chk (ops0.eq (ops0.len (JX.jn S cs o n)) 32)
 (Chk (ops0.le 32 (ops0.len (JX.jn S cs o n)))
 (Chk (ops0.le 32 (ops0.len (JX.jn S cs o n)))
 (∃ l4 : (List Int), ((((ops0.ext (JX.jn S cs o n) 0 32) : (List AV)) = (List.map (AV.int IntKind.u8) l4)) ∧
 (∃ l5 : (List Int), ((((ops0.ext (JX.jn S cs o n) 0 32) : (List AV)) = (List.map (AV.int IntKind.u8) l5)) ∧
 (Br (ops0.eqi l4 l5)
 (Br (ops0.cmp BinOp.lss i (Int.ofNat 0))
 (Q (AV.bool Bool.true))
 (Br (ops0.cmp BinOp.gtr i (Int.ofNat 2147483647))
 (Q (AV.bool Bool.true))
 (Chk (ops0.le 32 (ops0.len rs))
 (Chk (ops0.le 32 (ops0.len ss))
 (((PKey (ops0.ext rs 0 32)) ∧
 (PKey (ops0.ext ss 0 32))) ∧
 (Chk (ops0.le 32 (ops0.len (ops0.spl (z8 32) 0 (JY.sec Y (ops0.ext rs 0 32) (ops0.ext ss 0 32) i))))
 ((PKey (ops0.ext (ops0.spl (z8 32) 0 (JY.sec Y (ops0.ext rs 0 32) (ops0.ext ss 0 32) i)) 0 32)) ∧
 (Chk (ops0.eq (ops0.len (JY.hsh Y (ops0.ext rs 0 32) (ops0.ext ss 0 32) i)) 32)
 (Chk (ops0.eq (ops0.len (HF.hash F (ops0.ext (ops0.spl (z8 32) 0 (JY.sec Y (ops0.ext rs 0 32) (ops0.ext ss 0 32) i)) 0 32))) 32)
 (Chk (ops0.le 32 (ops0.len (JY.hsh Y (ops0.ext rs 0 32) (ops0.ext ss 0 32) i)))
 (Chk (ops0.le 32 (ops0.len (HF.hash F (ops0.ext (ops0.spl (z8 32) 0 (JY.sec Y (ops0.ext rs 0 32) (ops0.ext ss 0 32) i)) 0 32))))
 (∃ l6 : (List Int), ((((ops0.ext (JY.hsh Y (ops0.ext rs 0 32) (ops0.ext ss 0 32) i) 0 32) : (List AV)) = (List.map (AV.int IntKind.u8) l6)) ∧
 (∃ l7 : (List Int), ((((ops0.ext (HF.hash F (ops0.ext (ops0.spl (z8 32) 0 (JY.sec Y (ops0.ext rs 0 32) (ops0.ext ss 0 32) i)) 0 32)) 0 32) : (List AV)) = (List.map (AV.int IntKind.u8) l7)) ∧
 (Br (ops0.eqi l6 l7)
 (Q (AV.bool Bool.true))
 (Q (AV.bool Bool.false))))))))))))))))))
 (Q (AV.bool Bool.false)))))))))))))
 (Q (AV.bool Bool.false)))))))))))))))))
 (Q (AV.bool Bool.false))))))))))))))))))))) := by kernel_rfl

theorem intEx2 {x : List UInt8} {r t : Prop} (h : r) : ∃ l : List Int, (x.map by8 = List.map (AV.int .u8) l) ∧ ∃ l1 : List Int, (x.map by8 = List.map (AV.int .u8) l1) ∧ Br (ops0.eqi l l1) r t :=
  ⟨_, by8_ints x, _, by8_ints x, Br.t (by rw [nEqi]; exact decide_eq_true rfl) h⟩
theorem neEx {x y : List UInt8} (hne : ¬ x = y) {r t : Prop} (h : t) : ∃ l : List Int, (x.map by8 = List.map (AV.int .u8) l) ∧ ∃ l1 : List Int, (y.map by8 = List.map (AV.int .u8) l1) ∧ Br (ops0.eqi l l1) r t :=
  ⟨_, by8_ints x, _, by8_ints y, Br.f (by rw [nEqi]; exact decide_eq_false fun h => hne (ints_inj h)) h⟩
theorem le32' {x : List UInt8} (h : x.length = 32) : ops0.le 32 (ops0.len (x.map by8)) = true := key_len h
theorem eq32' {x : List UInt8} (h : x.length = 32) : ops0.eq (ops0.len (x.map by8)) 32 = true := eq32 (by rw [List.length_map, h])
theorem ext32' {x : List UInt8} (h : x.length = 32) : ops0.ext (x.map by8) 0 32 = x.map by8 := ext32 (by rw [List.length_map, h])
theorem chk_t (r : Prop) : Chk true r = r := rfl

/-! ### The same shares -/
theorem body51 {pa pb : List AV} {oa ob n i : Nat} {L : List (List UInt8)} (ca : Nat) (ea : Bool) (cb : Nat) (eb : Bool) (ha : ShAt pa oa n L) (hb : ShAt pb ob n L) (hoa : oa + n * 32 ≤ pa.length) (hob : ob + n * 32 ≤ pb.length) (hn : n < 1099511627776) (hi : i < n) :
    BodyTo Try.prog 0 lp51 (fr51 pa oa n ca ea pb ob n cb eb (Int.ofNat i)) [] .norm (fr51 pa oa n ca ea pb ob n cb eb (Int.ofNat (i + 1))) [] := by
  have hl : i < L.length := by rw [ha.1]; exact hi
  obtain ⟨hx, h1⟩ := ha.2 i L[i] (List.getElem?_eq_getElem hl)
  obtain ⟨_, h2⟩ := hb.2 i L[i] (List.getElem?_eq_getElem hl)
  generalize L[i] = x at hx h1 h2
  refine body_x (noCn_ok _) (noLn_ok _) (noTab_ok _) (n := 100) (g := kdYes) (bs := mk51) ?_ (by simp)
  have e1 : ops0.ext pa (oa + i * 32) 32 = x.map by8 := by rw [nExt]; exact h1
  have e2 : ops0.ext pb (ob + i * 32) 32 = x.map by8 := by rw [nExt]; exact h2
  rw [vcl51, nAdr, nAdr, e1, e2, ext32' hx, le32' hx, eq32' hx, add1 (by omega), nOfn, nLss, nInr, nLe, nLe, nPlus, nPlus, nLen, nLen]
  exact Br.t (decide_eq_true hi) (Chk.mk (decide_eq_true hi) (Chk.mk (decide_eq_true (by omega)) (Chk.mk (decide_eq_true hi) (Chk.mk (decide_eq_true (by omega)) (Chk.mk rfl (Chk.mk rfl (Chk.mk rfl (Chk.mk rfl (intEx2 ⟨rfl, rfl, rfl⟩)))))))))
theorem ln51_ok : LnOK Try.prog ln51 := by
  intro n0 b fr H p x e hn0 hp lg
  unfold ln51 at e
  split at e <;> cases e
  rename_i pa oa la ca ea pb ob lb cb eb h1 h2
  obtain ⟨rfl, hb, hf, ⟨_, hoa, hn, L, hL⟩, ⟨_, hob, _, M, hM⟩, rfl, hq⟩ := hp
  have hb : b = lp51 := hb
  subst hb
  rw [shA_eq hL, shA_eq hM] at hq
  subst hq
  refine LoopTo.pre (Weak.forget (by simp) mk51) ?_ lg
  rw [hf]
  refine loop_chain (P := Try.prog) (n0 := 0) (b := lp51) (ex := .exit 0) (fr' := fr51 pa oa la ca ea pb ob la cb eb (Int.ofNat la)) (H' := []) (by intro h; cases h) (fun i => (fr51 pa oa la ca ea pb ob la cb eb (Int.ofNat i), [])) la 0 (fun i _ hi => body51 ca ea cb eb hL hM hoa hob hn (by omega)) ?_
  rw [Nat.zero_add]
  refine body_x (noCn_ok _) (noLn_ok _) (noTab_ok _) (n := 100) (g := kdYes) (bs := mk51) ?_ (by simp)
  rw [vcl51, nOfn, nLss]
  exact Br.f (decide_eq_false (by omega)) ⟨rfl, rfl, rfl⟩
theorem call51 {pa pb : List AV} {oa la ob lb : Nat} (ca : Nat) (ea : Bool) (cb : Nat) (eb : Bool) (h : P51 pa oa la pb ob lb) : CallTo Try.prog 51 [.ros pa oa la ca ea, .ros pb ob lb cb eb] [] (.bool true) [] [] := by
  refine call_n (noCn_ok _) ln51_ok (tabOne_ok ok51) (tabOne_self 51 vf51) (n := 200) (g := kdYes) (m := fun _ => 0) [] ?_ (Nat.le_refl 0) rfl (fun b hb => by simp at hb)
  have hl := h.2.2.1
  subst hl
  rw [vc51, nOfn, nNeq]
  exact Br.f (decide_eq_false (by simp)) ⟨⟨rfl, rfl, rfl, h⟩, rfl, rfl⟩

/-! ### The contracts -/
theorem CallTo.lookT {P : Program} {f : Nat} {vals vals0 : List AV} {o n c sz : Nat} {v : Int} {cs : List AV} {H : Hl} {lg : List Nat} (hc : CallTo P f vals0 [] (.tup [.slc 0 o n c sz, .int .i64 v]) [.cells cs] lg) (h1 : flatL cs) (h : Vws H vals vals0) :
    CallTo P f vals H (.tup [.slc (size H) o n c sz, .int .i64 v]) (join H [.cells cs]) [] := by
  have hc' : CallTo P f (renL (pickN []) (viewF H [] 3) true vals) (pickH (viewF H [] 3) [] H) (.tup [.slc 0 o n c sz, .int .i64 v]) [.cells cs] lg := hc.le fun ρ w us hv => vws_rel h hv
  have h := CallTo.frame (H := H) (vals := vals) [] 3 List.nodup_nil (fun b hb => by cases hb) hc' (fun b c hp => by cases hp)
  have e1 : backH [] H [.cells cs] = join H [.cells cs] := by
    apply List.ext_getElem?
    intro b
    rw [backH_get, join_eq]
    by_cases hb : b < H.length
    · rw [if_pos hb, List.getElem?_append_left hb]; rfl
    · rw [if_neg hb, List.getElem?_append_right (by omega)]
      simp only [List.length_nil, Nat.zero_add]
      cases b - H.length with
      | zero => simp [backB, renB, renL_flat h1]
      | succ d => simp
  have e2 : backL [] lg = [] := by simp [backL]
  have e3 : backV [] H.length (.tup [.slc 0 o n c sz, .int .i64 v]) = .tup [.slc (size H) o n c sz, .int .i64 v] := by simp [backV, ren, renL, backN, size_eq]
  rw [e1, e2, e3] at h
  exact h
theorem backV_nil (n : Nat) (v : Int) : backV [] n (.tup [.nils, .int .i64 v]) = .tup [.nils, .int .i64 v] := by simp [backV, ren, renL]
theorem js_spl (r s : List UInt8) (N : Nat) : js0.spl (r.map by8) (s.map by8) (Int.ofNat N) = (splL r s N).flatten.map by8 := by
  show (splL (bytesA (r.map by8)) (bytesA (s.map by8)) N).flatten.map by8 = _
  rw [bytesA_by8, bytesA_by8]
theorem inN_cases (n : Int) : (js0.inN n = true ∧ ∃ N : Nat, n = Int.ofNat N ∧ 1 ≤ N ∧ N ≤ 16) ∨ (js0.inN n = false ∧ (n < 1 ∨ 16 < n)) := by
  show ((decide (1 ≤ n) && decide (n ≤ 16)) = true ∧ _) ∨ ((decide (1 ≤ n) && decide (n ≤ 16)) = false ∧ _)
  by_cases h1 : 1 ≤ n
  · by_cases h2 : n ≤ 16
    · exact Or.inl ⟨by rw [decide_eq_true h1, decide_eq_true h2]; rfl, n.toNat, (Int.toNat_of_nonneg (by omega)).symm, by omega, by omega⟩
    · exact Or.inr ⟨by rw [decide_eq_false h2, Bool.and_false], Or.inr (by omega)⟩
  · exact Or.inr ⟨by rw [decide_eq_false h1, Bool.false_and], Or.inl (by omega)⟩
theorem cnJ4_ok : CnOK Try.prog (cnJ4 jx0 jy0 hf0 js0) := by
  refine cnOr_ok ?_ cnJ3_ok
  intro f vals H p x e hp
  dsimp only at e
  split at e
  · rename_i rs ss n
    cases e
    obtain ⟨⟨r, hr, rfl⟩, ⟨s, hs, rfl⟩⟩ := hp
    have hv : Vws H [.agg (r.map by8), .agg (s.map by8), .int .i64 n] [.agg (r.map by8), .agg (s.map by8), .int .i64 n] := .cons (vwA H r) (.cons (vwA H s) (.cons (Vw.int H _ _) .nil))
    rcases inN_cases n with ⟨h, N, rfl, h1, h2⟩ | ⟨h, h1⟩
    · rw [h, js_spl]
      exact CallTo.lookT (call48 hr hs h1 h2) (flat_by8 _) hv
    · rw [h]
      have h3 := CallTo.lookV (H := H) (call48n (r := r) (s := s) h1) hv
      rw [backV_nil] at h3
      exact h3
  · rename_i rs ss n
    cases e
    obtain ⟨⟨r, hr, rfl⟩, ⟨s, hs, rfl⟩⟩ := hp
    have hv : Vws H [.agg (r.map by8), .agg (s.map by8), .int .i64 n] [.agg (r.map by8), .agg (s.map by8), .int .i64 n] := .cons (vwA H r) (.cons (vwA H s) (.cons (Vw.int H _ _) .nil))
    rcases inN_cases n with ⟨h, N, rfl, h1, h2⟩ | ⟨h, h1⟩
    · rw [h, js_spl]
      exact CallTo.lookT (call49 hr hs h1 h2) (flat_by8 _) hv
    · rw [h]
      have h3 := CallTo.lookV (H := H) (call49n (r := r) (s := s) h1) hv
      rw [backV_nil] at h3
      exact h3
  · rename_i rs ss n
    cases e
    obtain ⟨⟨r, hr, rfl⟩, ⟨s, hs, rfl⟩⟩ := hp
    have h := CallTo.lookV (H := H) (call55 hr hs n) (.cons (vwA H r) (.cons (vwA H s) (.cons (Vw.int H _ _) .nil)))
    rw [backV_flat (flat_by8 _)] at h
    show CallTo _ _ _ _ (.agg ((hshL (bytesA (r.map by8)) (bytesA (s.map by8)) _).map by8)) _ _
    rw [bytesA_by8, bytesA_by8]
    exact h
  · rename_i rs ss n
    cases e
    obtain ⟨⟨r, hr, rfl⟩, ⟨s, hs, rfl⟩⟩ := hp
    have h := CallTo.lookV (H := H) (call56 hr hs n) (.cons (vwA H r) (.cons (vwA H s) (.cons (Vw.int H _ _) .nil)))
    rw [backV_flat (flat_by8 _)] at h
    show CallTo _ _ _ _ (.agg ((hshL (bytesA (r.map by8)) (bytesA (s.map by8)) _).map by8)) _ _
    rw [bytesA_by8, bytesA_by8]
    exact h
  · split at e
    · rename_i pa oa la ca ea pb ob lb cb eb hv1 hv2
      cases e
      exact CallTo.lookV (H := H) (call51 ca ea cb eb hp) (.cons (Vw.one hv1 hp.1.1) (.cons (Vw.one hv2 hp.2.1.1) .nil))
    · cases e
  · cases e

/-! ### What must come of every program -/
def one8 (k : UInt8) : List UInt8 := k :: List.replicate 31 0
theorem one8_length (k : UInt8) : (one8 k).length = 32 := by unfold one8; rw [List.length_cons, List.length_replicate]
theorem b1_1 : b1 1 = (one8 1).map by8 := by
  unfold b1 one8
  rw [List.map_cons, z8_eq]
  rfl
theorem b1_2 : b1 2 = (one8 2).map by8 := by
  unfold b1 one8
  rw [List.map_cons, z8_eq]
  rfl
theorem sec_ne : decide (secL (one8 1) (one8 2) 0 = zero32) = false := by kernel_rfl
theorem join_split {r : List UInt8} (hr : r.length = 32) (s : List UInt8) (N : Nat) : joinL (splL r s N) = r := by
  have hJ := join_length (ds_32 s (N - 1))
  unfold splL
  rw [join_snoc (ds_32 s (N - 1)) (want_32 hr s _), fold_join (ds_32 s (N - 1)) _ (want_32 hr s _), fold_join (ds_32 s (N - 1)) r hr, xor_assoc', xor_self' hJ, xor_comm', zero_xor hr]
theorem psh_split {r s : List UInt8} (hr : r.length = 32) {N : Nat} (h1 : 1 ≤ N) (h2 : N ≤ 16) : PSh ((splL r s N).flatten.map by8) 0 N :=
  psh_flat (spl_32 hr s N) (by rw [spl_length r s h1]; omega) (spl_length r s h1).symm
theorem jn_split {r s : List UInt8} (hr : r.length = 32) {N : Nat} (h1 : 1 ≤ N) : jx0.jn ((splL r s N).flatten.map by8) 0 N = r.map by8 := by
  show (joinL (shA _ 0 N)).map by8 = _
  rw [sha_flat (spl_32 hr s N) (spl_length r s h1).symm, join_split hr]
theorem call50 : CallTo Try.prog 50 [] [] (.bool true) [] [] := by
  refine call_n cnJ4_ok (noLn_ok _) (tabOne_ok ok50) (tabOne_self 50 vf50) (n := 200) (g := kdYes) (m := fun _ => 0) [] ?_ (Nat.le_refl 0) rfl (fun b hb => by simp at hb)
  have h1 := one8_length 1
  have h2 := one8_length 2
  have es : js0.spl ((one8 1).map by8) ((one8 2).map by8) (Int.ofNat 3) = (splL (one8 1) (one8 2) 3).flatten.map by8 := js_spl _ _ 3
  have ey : jy0.sec ((one8 1).map by8) ((one8 2).map by8) (Int.ofNat 0) = (secL (one8 1) (one8 2) 0).map by8 := by
    show (secL (bytesA _) (bytesA _) _).map by8 = _
    rw [bytesA_by8, bytesA_by8]
    rfl
  have hl := secL_length (one8 1) (one8 2) 0
  have hne : ¬ secL (one8 1) (one8 2) 0 = zero32 := of_decide_eq_false sec_ne
  generalize secL (one8 1) (one8 2) 0 = x at ey hl hne
  rw [vc50, b1_1, b1_2, es, ey, jn_split h1 (by omega), ext32' h1, ext32' hl, le32' h1, eq32' h1, le32' hl, eq32' hl, zero_cells]
  refine ⟨⟨pkey _ h1, pkey _ h2⟩, Br.t rfl ⟨⟨pkey _ h1, pkey _ h2⟩, Br.f rfl ⟨psh_split h1 (by omega) (by omega), Chk.mk rfl (Chk.mk rfl (intEx2 ⟨⟨pkey _ h1, pkey _ h2⟩, Chk.mk rfl (Chk.mk rfl neEx hne ⟨rfl, rfl⟩)⟩))⟩⟩⟩
theorem cnJ5_ok : CnOK Try.prog (cnJ5 jx0 jy0 hf0 js0) := by
  refine cnOr_ok ?_ cnJ4_ok
  intro f vals H p x e hp
  dsimp only at e
  split at e <;> cases e
  exact CallTo.lookV (H := H) call50 .nil

/-! ### The laws -/
end
end Go.Proofs.Vm

namespace Go.Proofs.Vm
open Go.Vm
noncomputable section

theorem eqT {p : Prop} (h : p) : p = True := eq_true h
theorem law18 {r s : List UInt8} (hr : r.length = 32) (hs : s.length = 32) (i : Int) {cs : List AV} {o n : Nat} (c : Nat) (e : Bool) (hP : PSh cs o n) :
    ∃ H' lg, CallTo Try.prog 18 [.agg (r.map by8), .agg (s.map by8), .int .i64 i, .ros cs o n c e] [] (.bool true) H' lg := by
  have hx := secL_length r s i
  have hh := hshL_length r s i
  have ey : jy0.sec (r.map by8) (s.map by8) i = (secL r s i).map by8 := by
    show (secL (bytesA _) (bytesA _) i).map by8 = _
    rw [bytesA_by8, bytesA_by8]
  have eh : jy0.hsh (r.map by8) (s.map by8) i = (hshL r s i).map by8 := by
    show (hshL (bytesA _) (bytesA _) i).map by8 = _
    rw [bytesA_by8, bytesA_by8]
  have hj : (joinL (shA cs o n)).length = 32 := by
    obtain ⟨_, _, _, L, hL⟩ := hP
    rw [shA_eq hL]
    exact join_length (sh_len hL)
  have ej : jx0.jn cs o n = (joinL (shA cs o n)).map by8 := rfl
  have hq : PKey ((secL r s i).map by8) := pkey _ hx
  have hsum : (sumL (secL r s i)).length = 32 := sumL_length _
  have hv : ∀ Q : AV → Prop, Q (.bool true) → vcall (vcA kdYes (cnJ5 jx0 jy0 hf0 js0) noLn) ops0 (tabOne 18 vf18) 200 vf18 [.agg (r.map by8), .agg (s.map by8), .int .i64 i, .ros cs o n c e] [] (fun r _ _ => Q r) := by
    intro Q hQ
    rw [vc18]
    simp only [ext32' hr, ext32' hs, ey, eh, ej, spl32 hx, ext32' hx, ext32' hh, ext32' hj, le32' hr, le32' hs, le32' hx, le32' hh, le32' hj, eq32' hx, eq32' hh, eq32' hj, eqT hP, eqT (pkey r hr), eqT (pkey s hs), eqT hq, hhash_eq, ext32' hsum, le32' hsum, eq32' hsum, chk_t, true_and]
    refine intEx2 (intEx2 (intEx2 (Br.mk (fun _ => hQ) (fun h1 => Br.mk (fun _ => hQ) (fun h2 => ?_)))))
    have h1 : ¬ i < 0 := of_decide_eq_false h1
    have h2 : ¬ 2147483647 < i := of_decide_eq_false h2
    have eq : hshL r s i = sumL (secL r s i) := by
      unfold hshL
      rw [if_pos (by omega), if_pos (by omega)]
    rw [eq]
    exact intEx2 hQ
  obtain ⟨r', H', lg, hc, rfl⟩ := call_vcx cnJ5_ok (noLn_ok _) (tabOne_ok ok18) (tabOne_self 18 vf18) (hv (fun r => r = .bool true) rfl)
  exact ⟨H', lg, hc⟩

end
end Go.Proofs.Vm

namespace Go.Proofs.Vm
open Go.Vm Go.ChangeShapes Go.WideShapes Go.ChangeAt Go.RowKit

theorem Try.own : ownKnob Try.prog.godebug = none := by kernel_rfl
theorem Try.laidOut : laidOutB Try.prog = true := by kernel_rfl

theorem trodAll_below {H : Type} {enc : TypeId × Value → H} {P : Program} (hl : laidOutB P = true) {W W' : World} (hb : Below W.heap.size W W') : ∀ {ts : List TypeId} {vs : List Value} {ds : List (DataW H)} {ps : List MemPlace},
    (∀ t ∈ ts, P.readableRec t = true ∧ t < P.types.size) → DataW.TrodAll enc P W 0 (fun _ => true) true ts vs ds ps → (∀ x ∈ ps, x.block < W.heap.size) → DataW.TrodAll enc P W' 0 (fun b => decide (b < W.heap.size)) true ts vs ds ps
  | [], vs, ds, ps, _, h, _ => by
    obtain ⟨rfl, rfl, rfl⟩ := trodAll_nil h
    exact trodAll_mk0
  | t :: ts, vs, ds, ps, ht, h, hlt => by
    obtain ⟨v, vs1, d, ds1, a, b, rfl, rfl, rfl, h1, h2⟩ := trodAll_cons h
    refine trodAll_cons_mk (Below.trod hl (ht t (by simp)).1 (ht t (by simp)).2 h1 hb (fun x hx => hlt x (by simp [hx]))) (trodAll_below hl hb (fun t h => ht t (by simp [h])) h2 (fun x hx => hlt x (by simp [hx])))

/-- THE LAW's STEP: the call returns true, and below the heap's old size nothing has turned. -/
theorem law_step {H : Type} {enc : TypeId × Value → H} {f : Func} {s : ChangeSpec} {n : Nat} {W : World} {args : Array Value} {ds gs : List (DataW H)} {before : List MemPlace} (hres : f.resultTypes.toList = [4])
    (hts : ∀ t ∈ f.params.toList, Try.prog.readableRec t = true ∧ t < Try.prog.types.size) (hvars : s.vars = []) (hW : DataW.Whole enc Try.prog f.params.toList s.vars false W args.toList ds gs before)
    (hfn : s.fn H (ds ++ []) = { results := [.lit (.bool true)], args := ds }) (hcall : Calls Try.prog n args W fun e W' => e = .returned (.bool true) ∧ Below W.heap.size W W') :
    Calls Try.prog n args W fun e W' => ∃ v, e = .returned v ∧ s.post enc Try.prog f false true false false W args v W' := by
  have hW' := hW
  obtain ⟨p, q, hA, hV, rfl, hfz, hnd⟩ := hW
  rw [hvars] at hV
  obtain ⟨rfl, rfl⟩ := trodVars_none hV
  have hlt : ∀ x ∈ p, x.block < W.heap.size := fun x hx => by
    have := hW'.lt x (by simp [hx])
    simpa using this
  refine hcall.mono fun e W' ⟨he, hb⟩ => ?_
  subst he
  have h2 : f.resultTypes.size = 1 := by rw [← Array.length_toList, hres]; rfl
  refine ⟨_, rfl, ds, [], p ++ [], [], p, [], hW', ?_, ?_, ?_, hb.frame _, fun h => by cases h⟩
  · rw [hfn, hres, h2]
    exact trodAll_cons_mk (shut_bool Try.underlying4 _) trodAll_mk0
  · rw [hfn]
    exact trodAll_below Try.laidOut hb hts hA hlt
  · rw [hfn, hvars]
    exact rfl

theorem enter_law {n : Nat} {vals : List AV} {H' : Hl} {lg : List Nat} (hc : CallTo Try.prog n vals [] (.bool true) H' lg) {w : World} {us : List Value} (hv : VRels noRho w vals us) :
    Calls Try.prog n us.toArray w fun e w' => e = .returned (.bool true) ∧ Below w.heap.size w w' :=
  (hc.enter hv).mono fun e w' ⟨v, ρ', he, h2, h3⟩ => by
    have := inv_bool h2
    subst this
    exact ⟨he, h3⟩

end Go.Proofs.Vm

namespace Go.Proofs.Vm
open Go.Vm Go.ChangeShapes Go.WideShapes Go.ChangeAt Go.RowKit

theorem bulk_one {H : Type} (d : DataW H) : 1 ≤ Ytfmhlogapbpnbaa.Rows.uptoBulk d := by
  cases d with
  | lit l => cases l <;> simp [Ytfmhlogapbpnbaa.Rows.uptoBulk]
  | nil => simp [Ytfmhlogapbpnbaa.Rows.uptoBulk]
  | ptr d => simp [Ytfmhlogapbpnbaa.Rows.uptoBulk]
  | slice elems spare => simp [Ytfmhlogapbpnbaa.Rows.uptoBulk]
  | agg parts => simp [Ytfmhlogapbpnbaa.Rows.uptoBulk]
  | iface t d => simp [Ytfmhlogapbpnbaa.Rows.uptoBulk]
  | map entries => simp [Ytfmhlogapbpnbaa.Rows.uptoBulk]
  | held h => simp [Ytfmhlogapbpnbaa.Rows.uptoBulk]
theorem bulk_part {H : Type} {d : DataW H} {l : List (DataW H)} (h : d ∈ l) : Ytfmhlogapbpnbaa.Rows.uptoBulk d ≤ Ytfmhlogapbpnbaa.Rows.uptoBulkAll l := by
  induction l with
  | nil => cases h
  | cons x r ih =>
    simp only [Ytfmhlogapbpnbaa.Rows.uptoBulkAll]
    cases List.mem_cons.1 h with
    | inl e => subst e; omega
    | inr e => have := ih e; omega
theorem bulk_length {H : Type} (l : List (DataW H)) : l.length ≤ Ytfmhlogapbpnbaa.Rows.uptoBulkAll l := by
  induction l with
  | nil => simp [Ytfmhlogapbpnbaa.Rows.uptoBulkAll]
  | cons x r ih => have := bulk_one x; simp only [Ytfmhlogapbpnbaa.Rows.uptoBulkAll, List.length_cons]; omega
theorem bulk_slice {H : Type} (elems spare : List (DataW H)) : elems.length ≤ Ytfmhlogapbpnbaa.Rows.uptoBulk (.slice elems spare) := by
  have h1 := bulk_length elems
  simp only [Ytfmhlogapbpnbaa.Rows.uptoBulk]
  omega

theorem by8_int {n : Int} (h : (Lit.int .u8 n).wf = true) : by8 (UInt8.ofNat n.toNat) = .int .u8 n := by
  have hx : 0 ≤ n ∧ n ≤ 255 := by simpa [Lit.wf, IntKind.min, IntKind.max, IntKind.signed, IntKind.bits] using h
  unfold by8
  congr 1
  rw [UInt8.toNat_ofNat_of_lt' (by show _ < 256; omega)]
  simp only [Int.ofNat_eq_natCast]
  omega

/-- The number in a value. -/
def intA' : Value → Int
  | .int _ n => n
  | _ => 0

set_option maxRecDepth 100000

/-- An array of whole numbers that came in. -/
theorem open_arr_ints {W : World} {base : Nat} {t e n : Nat} {k : IntKind} {v : Value} (ht : Try.prog.underlying t = some (.array n e)) (he : Try.prog.underlying e = some (.int k)) (hc : Try.prog.cellsOf t = n) (hts : Try.prog.cellTypes Try.prog.depth t = some (List.replicate n e))
    (hval : Value.okWide Try.prog W .any base t v) : ∃ zs : List Int, v = .agg (zs.map (Value.int k)).toArray ∧ zs.length = n ∧ ∀ z ∈ zs, k.has z := by
  simp only [Value.okWide, ht] at hval
  obtain ⟨cs, rfl, hsz, ts, h1, _, h3⟩ := hval
  rw [hts] at h1
  cases h1
  rw [hc] at hsz
  have each : ∀ (i : Nat) (v : Value), cs[i]? = some v → ∃ z, v = Value.int k z ∧ k.has z := by
    intro i v hv
    obtain ⟨u, hu, hx⟩ := h3 i v hv
    have hue : u = e := by
      rw [List.getElem?_replicate] at hu
      split at hu <;> cases hu
      rfl
    subst hue
    simp only [Cell.okWide, he, Cell.ok] at hx
    cases v <;> simp_all
  refine ⟨cs.toList.map intA', ?_, by simp [hsz], ?_⟩
  · congr 1
    apply Array.ext
    · simp
    · intro i h1 h2
      have hi : cs[i]? = some cs[i] := by simp [h1]
      obtain ⟨z, hz, _⟩ := each i _ hi
      simp [intA', hz]
  · intro z hz
    obtain ⟨v, hv, rfl⟩ := List.mem_map.1 hz
    obtain ⟨i, hi, e⟩ := List.mem_iff_getElem.1 hv
    have hi' : cs[i]? = some v := by
      rw [← e]
      have : i < cs.size := by simpa using hi
      simp [this]
    obtain ⟨z, hz, hh⟩ := each i v hi'
    rw [hz]
    exact hh

theorem arr_rel (w : World) (k : IntKind) (zs : List Int) : VRel noRho w (.agg (zs.map (AV.int k))) (.agg (zs.map (Value.int k)).toArray) := by
  refine .agg _ _ (by simp) (fun v hv => ?_) (fun i a v ha hv => ?_)
  · obtain ⟨n, _, rfl⟩ := List.mem_map.1 hv
    rfl
  · rw [List.getElem?_map] at ha hv
    obtain ⟨n, hn, rfl⟩ := Option.map_eq_some_iff.1 ha
    rw [hn] at hv
    cases hv
    exact .int _ _

end Go.Proofs.Vm

namespace Go.Proofs.Vm
open Go.Vm Go.ChangeShapes Go.WideShapes Go.ChangeAt Go.RowKit

set_option maxRecDepth 100000

/-- An array of bytes. -/
theorem key_of {zs : List Int} {n : Nat} (hz : zs.length = n) (hw : ∀ z ∈ zs, IntKind.u8.has z) (W : World) : ∃ key : List UInt8, key.length = n ∧ VRel noRho W (.agg (key.map by8)) (.agg (zs.map (Value.int .u8)).toArray) := by
  refine ⟨zs.map fun z => UInt8.ofNat z.toNat, by simp [hz], ?_⟩
  have e : (zs.map fun z => UInt8.ofNat z.toNat).map by8 = zs.map (AV.int .u8) := by
    rw [List.map_map]
    apply List.map_congr_left
    intro z hz'
    refine by8_int ?_
    have := hw z hz'
    simp only [Lit.wf]
    simpa [IntKind.has, IntKind.min, IntKind.max, IntKind.signed, IntKind.bits] using this
  rw [e]
  exact arr_rel W .u8 zs

theorem spot_of {W : World} {a : Addr} {v : Value} (h : W.cell? a = some v) : a = ⟨a.block, a.off, none⟩ ∧ a.block < W.heap.size := by
  obtain ⟨b, o, s⟩ := a
  simp only [World.cell?] at h
  constructor
  · cases s with
    | none => rfl
    | some k =>
      exfalso
      split at h <;> simp at h
  · show b < W.heap.size
    rcases Nat.lt_or_ge b W.heap.size with h' | h'
    · exact h'
    · simp [Array.getElem?_eq_none h'] at h

theorem add_none {b o i : Nat} : (Addr.add ⟨b, o, none⟩ i) = ⟨b, o + i, none⟩ := by
  unfold Addr.add
  by_cases h0 : i = 0
  · subst h0; simp
  · rw [if_neg h0]

end Go.Proofs.Vm
