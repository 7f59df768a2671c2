/-
  KECCAK, PART 11: a round of a state.
-/
import Derived.Test.YtfmhlogapbpnbaaVmK10
namespace Go.Proofs.Vm
open Go.Vm
noncomputable section

/-- What 'keccak.Round' calls. -/
def roundK (F : List Int → Int → List Int) : Con := fun f vals H => match f, vals with
  | 74, [] => some (.tup [.agg byL, .agg toL], H, [])
  | 32, [.int .i64 (.ofNat n)] => match Nat.blt n 24 with
    | true => some (.int .u64 (rcs.getD n 0), H, [])
    | false => none
  | 75, [.ptr b 0, .ptr c 0, .ptr d 0, .int .u64 k] => match Nat.beq b c, Nat.beq b d, Nat.beq c d with
    | false, false, false => match nth H b, nth H c, nth H d with
      | some (.cells cs), some (.cells xs), some (.cells ys) => match toInts .u64 cs, toInts .i64 xs, toInts .i64 ys with
        | some ws, some l, some m => match Nat.beq (size ws) 25, l == byI, m == toI with
          | true, true, true => some (.tup [], put H b (.cells ((ex25 (F ws k)).map w)), [b])
          | _, _, _ => none
        | _, _, _ => none
      | _, _, _ => none
    | _, _, _ => none
  | _, _ => none

theorem roundK_ok : ConOK Try.prog (roundK rnd) := by
  intro f vals H r H' lg h
  unfold roundK at h
  split at h
  · cases h
    exact tabC_ok 74 [] H _ H [] rfl
  · rename_i n
    split at h <;> cases h
    rename_i hn
    have hn := (blt_iff _ _).1 hn
    exact CallTo.pure (H := H) 0 (vals := [.int .i64 (.ofNat n)]) (call_cut (noCon_ok _) (tabOne_ok ok32) (tabOne_self 32 vf32) 0 [] (c32_run n hn) (by simp) (fun b hb => by cases hb))
  · rename_i b c d k
    split at h <;> first | cases h | skip
    rename_i n1 n2 n3
    split at h <;> first | cases h | skip
    rename_i cs xs ys hb hx hy
    split at h <;> first | cases h | skip
    rename_i ws l m g1 g2 g3
    split at h <;> cases h
    rename_i hl e1 e2
    have hl := Nat.eq_of_beq_eq_true hl
    rw [size_eq] at hl
    rw [nth_eq] at hb hx hy
    have e1 : l = byI := by simpa using e1
    have e2 : m = toI := by simpa using e2
    have g1 := toInts_ok g1
    have g2 := toInts_ok g2
    have g3 := toInts_ok g3
    subst g1 g2 g3 e1 e2
    obtain ⟨s0, s1, s2, s3, s4, s5, s6, s7, s8, s9, s10, s11, s12, s13, s14, s15, s16, s17, s18, s19, s20, s21, s22, s23, s24, rfl⟩ := list25 hl
    have hrun := mix_sep (fun op => bin0 op .u64) (fun op => shf0 op .u64) rotl s0 s1 s2 s3 s4 s5 s6 s7 s8 s9 s10 s11 s12 s13 s14 s15 s16 s17 s18 s19 s20 s21 s22 s23 s24 k
    rw [opsW_eq] at hrun
    have hc := call_cut rotC_ok tabM_ok (f := 75) rfl 3 [0] hrun (by simp) (fun i hi hn => by
      match i, hi, hn with
      | 0, _, hn => exact absurd (List.mem_singleton.2 rfl) hn
      | 1, _, _ => rfl
      | 2, _, _ => rfl)
    have ne : ∀ {x y : Nat}, Nat.beq x y = false → x ≠ y := fun h e => by subst e; simp [Nat.beq_refl] at h
    have h2 := CallTo.three (vals := [.ptr b 0, .ptr c 0, .ptr d 0, .int .u64 k]) hc hb hx hy (ne n1) (ne n2) (ne n3) (flatL_ints .u64 [s0, s1, s2, s3, s4, s5, s6, s7, s8, s9, s10, s11, s12, s13, s14, s15, s16, s17, s18, s19, s20, s21, s22, s23, s24]) (flatL_ints .u64 _) (flatL_ints .i64 byI) (flatL_ints .i64 toI) (fun φ => by
      simp [renL, ren, pickN, placeIn, Nat.beq_refl, n1, n2, n3])
    rw [show ex25 (rnd [s0, s1, s2, s3, s4, s5, s6, s7, s8, s9, s10, s11, s12, s13, s14, s15, s16, s17, s18, s19, s20, s21, s22, s23, s24] k) = rnd [s0, s1, s2, s3, s4, s5, s6, s7, s8, s9, s10, s11, s12, s13, s14, s15, s16, s17, s18, s19, s20, s21, s22, s23, s24] k from ex25_eq (rnd_length ..)]
    exact h2
  · cases h

theorem round34_run (F : List Int → Int → List Int) (s0 s1 s2 s3 s4 s5 s6 s7 s8 s9 s10 s11 s12 s13 s14 s15 s16 s17 s18 s19 s20 s21 s22 s23 s24 : Int) : ∀ n, n < 24 →
    vcall (optA (roundK F)) ops0 (tabOne 34 vf34) 100 vf34 [.agg (([s0, s1, s2, s3, s4, s5, s6, s7, s8, s9, s10, s11, s12, s13, s14, s15, s16, s17, s18, s19, s20, s21, s22, s23, s24] : List Int).map w), .int .i64 (.ofNat n)] [] (cutK 0) = some (.agg ((ex25 (F [s0, s1, s2, s3, s4, s5, s6, s7, s8, s9, s10, s11, s12, s13, s14, s15, s16, s17, s18, s19, s20, s21, s22, s23, s24] (rcs.getD n 0))).map w), [], [])
  | 0, _ => by kernel_rfl
  | 1, _ => by kernel_rfl
  | 2, _ => by kernel_rfl
  | 3, _ => by kernel_rfl
  | 4, _ => by kernel_rfl
  | 5, _ => by kernel_rfl
  | 6, _ => by kernel_rfl
  | 7, _ => by kernel_rfl
  | 8, _ => by kernel_rfl
  | 9, _ => by kernel_rfl
  | 10, _ => by kernel_rfl
  | 11, _ => by kernel_rfl
  | 12, _ => by kernel_rfl
  | 13, _ => by kernel_rfl
  | 14, _ => by kernel_rfl
  | 15, _ => by kernel_rfl
  | 16, _ => by kernel_rfl
  | 17, _ => by kernel_rfl
  | 18, _ => by kernel_rfl
  | 19, _ => by kernel_rfl
  | 20, _ => by kernel_rfl
  | 21, _ => by kernel_rfl
  | 22, _ => by kernel_rfl
  | 23, _ => by kernel_rfl
  | i + 24, h => absurd h (by omega)

/-- 'keccak.Round', of a round that there is. -/
theorem round34 {s : List Int} (hs : s.length = 25) {n : Nat} (hn : n < 24) (H : Hl) : CallTo Try.prog 34 [.agg (s.map w), .int .i64 (.ofNat n)] H (.agg ((rndN s n).map w)) H [] := by
  obtain ⟨s0, s1, s2, s3, s4, s5, s6, s7, s8, s9, s10, s11, s12, s13, s14, s15, s16, s17, s18, s19, s20, s21, s22, s23, s24, rfl⟩ := list25 hs
  have h := call_cut roundK_ok (tabOne_ok ok34) (tabOne_self 34 vf34) 0 [] (round34_run rnd s0 s1 s2 s3 s4 s5 s6 s7 s8 s9 s10 s11 s12 s13 s14 s15 s16 s17 s18 s19 s20 s21 s22 s23 s24 n hn) (by simp) (fun b hb => by cases hb)
  rw [show ex25 (rnd [s0, s1, s2, s3, s4, s5, s6, s7, s8, s9, s10, s11, s12, s13, s14, s15, s16, s17, s18, s19, s20, s21, s22, s23, s24] (rcs.getD n 0)) = rndN [s0, s1, s2, s3, s4, s5, s6, s7, s8, s9, s10, s11, s12, s13, s14, s15, s16, s17, s18, s19, s20, s21, s22, s23, s24] n from ex25_eq (rnd_length ..)] at h
  have h2 := CallTo.pure (H := H) 0 (vals := [.agg (([s0, s1, s2, s3, s4, s5, s6, s7, s8, s9, s10, s11, s12, s13, s14, s15, s16, s17, s18, s19, s20, s21, s22, s23, s24] : List Int).map w), .int .i64 (.ofNat n)]) h
  have e : backV [] H.length (.agg ((rndN [s0, s1, s2, s3, s4, s5, s6, s7, s8, s9, s10, s11, s12, s13, s14, s15, s16, s17, s18, s19, s20, s21, s22, s23, s24] n).map w)) = .agg ((rndN [s0, s1, s2, s3, s4, s5, s6, s7, s8, s9, s10, s11, s12, s13, s14, s15, s16, s17, s18, s19, s20, s21, s22, s23, s24] n).map w) := by
    simp only [backV, ren]
    exact congrArg AV.agg (renL_flat (flatL_ints .u64 _))
  rw [e] at h2
  exact h2

end
end Go.Proofs.Vm
