/-
  KECCAK, PART 10: the rounds' constants.
-/
import Derived.Test.YtfmhlogapbpnbaaWah

namespace Go.Proofs.Vm
open Go.Vm
noncomputable section

def bitC : Con := fun f vals H => match f, vals with
  | 73, [.int .i64 (.ofNat n)] => match Nat.blt n 168 with
    | true => some (.int .u64 (IntKind.u64.wrap (bin0 .rem .i64 (.ofNat (reg n)) 2)), H, [])
    | false => none
  | _, _ => none
theorem bitC_ok : ConOK Try.prog bitC := by
  intro f vals H r H' lg h
  unfold bitC at h
  split at h
  · rename_i n
    split at h <;> cases h
    rename_i hn
    have hn := (blt_iff _ _).1 hn
    exact CallTo.pure (H := H) 0 (vals := [.int .i64 (.ofNat n)]) (bit73 n hn)
  · cases h

theorem c33_0 : vcall (optA bitC) ops0 (tabOne 33 vf33) 100 vf33 [.int .i64 (.ofNat 0)] [] (cutK 0) = some (.int .u64 (rcs.getD 0 0), [], []) := by kernel_rfl
theorem c33_1 : vcall (optA bitC) ops0 (tabOne 33 vf33) 100 vf33 [.int .i64 (.ofNat 1)] [] (cutK 0) = some (.int .u64 (rcs.getD 1 0), [], []) := by kernel_rfl
theorem c33_2 : vcall (optA bitC) ops0 (tabOne 33 vf33) 100 vf33 [.int .i64 (.ofNat 2)] [] (cutK 0) = some (.int .u64 (rcs.getD 2 0), [], []) := by kernel_rfl
theorem c33_3 : vcall (optA bitC) ops0 (tabOne 33 vf33) 100 vf33 [.int .i64 (.ofNat 3)] [] (cutK 0) = some (.int .u64 (rcs.getD 3 0), [], []) := by kernel_rfl
theorem c33_4 : vcall (optA bitC) ops0 (tabOne 33 vf33) 100 vf33 [.int .i64 (.ofNat 4)] [] (cutK 0) = some (.int .u64 (rcs.getD 4 0), [], []) := by kernel_rfl
theorem c33_5 : vcall (optA bitC) ops0 (tabOne 33 vf33) 100 vf33 [.int .i64 (.ofNat 5)] [] (cutK 0) = some (.int .u64 (rcs.getD 5 0), [], []) := by kernel_rfl
theorem c33_6 : vcall (optA bitC) ops0 (tabOne 33 vf33) 100 vf33 [.int .i64 (.ofNat 6)] [] (cutK 0) = some (.int .u64 (rcs.getD 6 0), [], []) := by kernel_rfl
theorem c33_7 : vcall (optA bitC) ops0 (tabOne 33 vf33) 100 vf33 [.int .i64 (.ofNat 7)] [] (cutK 0) = some (.int .u64 (rcs.getD 7 0), [], []) := by kernel_rfl
theorem c33_8 : vcall (optA bitC) ops0 (tabOne 33 vf33) 100 vf33 [.int .i64 (.ofNat 8)] [] (cutK 0) = some (.int .u64 (rcs.getD 8 0), [], []) := by kernel_rfl
theorem c33_9 : vcall (optA bitC) ops0 (tabOne 33 vf33) 100 vf33 [.int .i64 (.ofNat 9)] [] (cutK 0) = some (.int .u64 (rcs.getD 9 0), [], []) := by kernel_rfl
theorem c33_10 : vcall (optA bitC) ops0 (tabOne 33 vf33) 100 vf33 [.int .i64 (.ofNat 10)] [] (cutK 0) = some (.int .u64 (rcs.getD 10 0), [], []) := by kernel_rfl
theorem c33_11 : vcall (optA bitC) ops0 (tabOne 33 vf33) 100 vf33 [.int .i64 (.ofNat 11)] [] (cutK 0) = some (.int .u64 (rcs.getD 11 0), [], []) := by kernel_rfl
theorem c33_12 : vcall (optA bitC) ops0 (tabOne 33 vf33) 100 vf33 [.int .i64 (.ofNat 12)] [] (cutK 0) = some (.int .u64 (rcs.getD 12 0), [], []) := by kernel_rfl
theorem c33_13 : vcall (optA bitC) ops0 (tabOne 33 vf33) 100 vf33 [.int .i64 (.ofNat 13)] [] (cutK 0) = some (.int .u64 (rcs.getD 13 0), [], []) := by kernel_rfl
theorem c33_14 : vcall (optA bitC) ops0 (tabOne 33 vf33) 100 vf33 [.int .i64 (.ofNat 14)] [] (cutK 0) = some (.int .u64 (rcs.getD 14 0), [], []) := by kernel_rfl
theorem c33_15 : vcall (optA bitC) ops0 (tabOne 33 vf33) 100 vf33 [.int .i64 (.ofNat 15)] [] (cutK 0) = some (.int .u64 (rcs.getD 15 0), [], []) := by kernel_rfl
theorem c33_16 : vcall (optA bitC) ops0 (tabOne 33 vf33) 100 vf33 [.int .i64 (.ofNat 16)] [] (cutK 0) = some (.int .u64 (rcs.getD 16 0), [], []) := by kernel_rfl
theorem c33_17 : vcall (optA bitC) ops0 (tabOne 33 vf33) 100 vf33 [.int .i64 (.ofNat 17)] [] (cutK 0) = some (.int .u64 (rcs.getD 17 0), [], []) := by kernel_rfl
theorem c33_18 : vcall (optA bitC) ops0 (tabOne 33 vf33) 100 vf33 [.int .i64 (.ofNat 18)] [] (cutK 0) = some (.int .u64 (rcs.getD 18 0), [], []) := by kernel_rfl
theorem c33_19 : vcall (optA bitC) ops0 (tabOne 33 vf33) 100 vf33 [.int .i64 (.ofNat 19)] [] (cutK 0) = some (.int .u64 (rcs.getD 19 0), [], []) := by kernel_rfl
theorem c33_20 : vcall (optA bitC) ops0 (tabOne 33 vf33) 100 vf33 [.int .i64 (.ofNat 20)] [] (cutK 0) = some (.int .u64 (rcs.getD 20 0), [], []) := by kernel_rfl
theorem c33_21 : vcall (optA bitC) ops0 (tabOne 33 vf33) 100 vf33 [.int .i64 (.ofNat 21)] [] (cutK 0) = some (.int .u64 (rcs.getD 21 0), [], []) := by kernel_rfl
theorem c33_22 : vcall (optA bitC) ops0 (tabOne 33 vf33) 100 vf33 [.int .i64 (.ofNat 22)] [] (cutK 0) = some (.int .u64 (rcs.getD 22 0), [], []) := by kernel_rfl
theorem c33_23 : vcall (optA bitC) ops0 (tabOne 33 vf33) 100 vf33 [.int .i64 (.ofNat 23)] [] (cutK 0) = some (.int .u64 (rcs.getD 23 0), [], []) := by kernel_rfl
theorem c32_0 : vcall (optA noCon) ops0 (tabOne 32 vf32) 1000 vf32 [.int .i64 (.ofNat 0)] [] (cutK 0) = some (.int .u64 (rcs.getD 0 0), [], []) := by kernel_rfl
theorem c32_1 : vcall (optA noCon) ops0 (tabOne 32 vf32) 1000 vf32 [.int .i64 (.ofNat 1)] [] (cutK 0) = some (.int .u64 (rcs.getD 1 0), [], []) := by kernel_rfl
theorem c32_2 : vcall (optA noCon) ops0 (tabOne 32 vf32) 1000 vf32 [.int .i64 (.ofNat 2)] [] (cutK 0) = some (.int .u64 (rcs.getD 2 0), [], []) := by kernel_rfl
theorem c32_3 : vcall (optA noCon) ops0 (tabOne 32 vf32) 1000 vf32 [.int .i64 (.ofNat 3)] [] (cutK 0) = some (.int .u64 (rcs.getD 3 0), [], []) := by kernel_rfl
theorem c32_4 : vcall (optA noCon) ops0 (tabOne 32 vf32) 1000 vf32 [.int .i64 (.ofNat 4)] [] (cutK 0) = some (.int .u64 (rcs.getD 4 0), [], []) := by kernel_rfl
theorem c32_5 : vcall (optA noCon) ops0 (tabOne 32 vf32) 1000 vf32 [.int .i64 (.ofNat 5)] [] (cutK 0) = some (.int .u64 (rcs.getD 5 0), [], []) := by kernel_rfl
theorem c32_6 : vcall (optA noCon) ops0 (tabOne 32 vf32) 1000 vf32 [.int .i64 (.ofNat 6)] [] (cutK 0) = some (.int .u64 (rcs.getD 6 0), [], []) := by kernel_rfl
theorem c32_7 : vcall (optA noCon) ops0 (tabOne 32 vf32) 1000 vf32 [.int .i64 (.ofNat 7)] [] (cutK 0) = some (.int .u64 (rcs.getD 7 0), [], []) := by kernel_rfl
theorem c32_8 : vcall (optA noCon) ops0 (tabOne 32 vf32) 1000 vf32 [.int .i64 (.ofNat 8)] [] (cutK 0) = some (.int .u64 (rcs.getD 8 0), [], []) := by kernel_rfl
theorem c32_9 : vcall (optA noCon) ops0 (tabOne 32 vf32) 1000 vf32 [.int .i64 (.ofNat 9)] [] (cutK 0) = some (.int .u64 (rcs.getD 9 0), [], []) := by kernel_rfl
theorem c32_10 : vcall (optA noCon) ops0 (tabOne 32 vf32) 1000 vf32 [.int .i64 (.ofNat 10)] [] (cutK 0) = some (.int .u64 (rcs.getD 10 0), [], []) := by kernel_rfl
theorem c32_11 : vcall (optA noCon) ops0 (tabOne 32 vf32) 1000 vf32 [.int .i64 (.ofNat 11)] [] (cutK 0) = some (.int .u64 (rcs.getD 11 0), [], []) := by kernel_rfl
theorem c32_12 : vcall (optA noCon) ops0 (tabOne 32 vf32) 1000 vf32 [.int .i64 (.ofNat 12)] [] (cutK 0) = some (.int .u64 (rcs.getD 12 0), [], []) := by kernel_rfl
theorem c32_13 : vcall (optA noCon) ops0 (tabOne 32 vf32) 1000 vf32 [.int .i64 (.ofNat 13)] [] (cutK 0) = some (.int .u64 (rcs.getD 13 0), [], []) := by kernel_rfl
theorem c32_14 : vcall (optA noCon) ops0 (tabOne 32 vf32) 1000 vf32 [.int .i64 (.ofNat 14)] [] (cutK 0) = some (.int .u64 (rcs.getD 14 0), [], []) := by kernel_rfl
theorem c32_15 : vcall (optA noCon) ops0 (tabOne 32 vf32) 1000 vf32 [.int .i64 (.ofNat 15)] [] (cutK 0) = some (.int .u64 (rcs.getD 15 0), [], []) := by kernel_rfl
theorem c32_16 : vcall (optA noCon) ops0 (tabOne 32 vf32) 1000 vf32 [.int .i64 (.ofNat 16)] [] (cutK 0) = some (.int .u64 (rcs.getD 16 0), [], []) := by kernel_rfl
theorem c32_17 : vcall (optA noCon) ops0 (tabOne 32 vf32) 1000 vf32 [.int .i64 (.ofNat 17)] [] (cutK 0) = some (.int .u64 (rcs.getD 17 0), [], []) := by kernel_rfl
theorem c32_18 : vcall (optA noCon) ops0 (tabOne 32 vf32) 1000 vf32 [.int .i64 (.ofNat 18)] [] (cutK 0) = some (.int .u64 (rcs.getD 18 0), [], []) := by kernel_rfl
theorem c32_19 : vcall (optA noCon) ops0 (tabOne 32 vf32) 1000 vf32 [.int .i64 (.ofNat 19)] [] (cutK 0) = some (.int .u64 (rcs.getD 19 0), [], []) := by kernel_rfl
theorem c32_20 : vcall (optA noCon) ops0 (tabOne 32 vf32) 1000 vf32 [.int .i64 (.ofNat 20)] [] (cutK 0) = some (.int .u64 (rcs.getD 20 0), [], []) := by kernel_rfl
theorem c32_21 : vcall (optA noCon) ops0 (tabOne 32 vf32) 1000 vf32 [.int .i64 (.ofNat 21)] [] (cutK 0) = some (.int .u64 (rcs.getD 21 0), [], []) := by kernel_rfl
theorem c32_22 : vcall (optA noCon) ops0 (tabOne 32 vf32) 1000 vf32 [.int .i64 (.ofNat 22)] [] (cutK 0) = some (.int .u64 (rcs.getD 22 0), [], []) := by kernel_rfl
theorem c32_23 : vcall (optA noCon) ops0 (tabOne 32 vf32) 1000 vf32 [.int .i64 (.ofNat 23)] [] (cutK 0) = some (.int .u64 (rcs.getD 23 0), [], []) := by kernel_rfl
theorem c33_run : ∀ n, n < 24 → vcall (optA bitC) ops0 (tabOne 33 vf33) 100 vf33 [.int .i64 (.ofNat n)] [] (cutK 0) = some (.int .u64 (rcs.getD n 0), [], [])
  | 0, _ => c33_0
  | 1, _ => c33_1
  | 2, _ => c33_2
  | 3, _ => c33_3
  | 4, _ => c33_4
  | 5, _ => c33_5
  | 6, _ => c33_6
  | 7, _ => c33_7
  | 8, _ => c33_8
  | 9, _ => c33_9
  | 10, _ => c33_10
  | 11, _ => c33_11
  | 12, _ => c33_12
  | 13, _ => c33_13
  | 14, _ => c33_14
  | 15, _ => c33_15
  | 16, _ => c33_16
  | 17, _ => c33_17
  | 18, _ => c33_18
  | 19, _ => c33_19
  | 20, _ => c33_20
  | 21, _ => c33_21
  | 22, _ => c33_22
  | 23, _ => c33_23
  | n + 24, h => absurd h (by omega)
theorem c32_run : ∀ n, n < 24 → vcall (optA noCon) ops0 (tabOne 32 vf32) 1000 vf32 [.int .i64 (.ofNat n)] [] (cutK 0) = some (.int .u64 (rcs.getD n 0), [], [])
  | 0, _ => c32_0
  | 1, _ => c32_1
  | 2, _ => c32_2
  | 3, _ => c32_3
  | 4, _ => c32_4
  | 5, _ => c32_5
  | 6, _ => c32_6
  | 7, _ => c32_7
  | 8, _ => c32_8
  | 9, _ => c32_9
  | 10, _ => c32_10
  | 11, _ => c32_11
  | 12, _ => c32_12
  | 13, _ => c32_13
  | 14, _ => c32_14
  | 15, _ => c32_15
  | 16, _ => c32_16
  | 17, _ => c32_17
  | 18, _ => c32_18
  | 19, _ => c32_19
  | 20, _ => c32_20
  | 21, _ => c32_21
  | 22, _ => c32_22
  | 23, _ => c32_23
  | n + 24, h => absurd h (by omega)

end
end Go.Proofs.Vm
