/-
  KECCAK, PART 8: the document's 'Rounds'.
-/
import Derived.Test.YtfmhlogapbpnbaaVmK7
namespace Go.Proofs.Vm
open Go.Vm
noncomputable section

def roundsC (F : List Int → List Int) : Con := fun f vals H => match f, vals with
  | 76, [] => some (.agg (byL ++ rcL), H, [])
  | 78, [.ptr b 0, .agg cs] => match nth H b with
    | some (.cells t) => match isTab t, toInts .u64 cs with
      | true, some ws => match Nat.beq (size ws) 25 with
        | true => some (.agg ((ex25 (F ws)).map w), H, [])
        | false => none
      | _, _ => none
    | _ => none
  | _, _ => none

theorem roundsC_ok : ConOK Try.prog (roundsC allF) := by
  intro f vals H r H' lg h
  unfold roundsC at h
  split at h
  · cases h
    exact roundC_ok 76 [] H _ H [] rfl
  · rename_i b cs
    split at h <;> first | cases h | skip
    rename_i t hb
    split at h <;> first | cases h | skip
    rename_i ws ht hw
    split at h <;> cases h
    rename_i hl
    have hl := Nat.eq_of_beq_eq_true hl
    rw [size_eq] at hl
    have ht := isTab_ok ht
    subst ht
    have hw := toInts_ok hw
    subst hw
    rw [nth_eq] at hb
    have h2 := CallTo.look (vals := [.ptr b 0, .agg (ws.map (AV.int .u64))]) (rounds78 hl) hb tab_flat (fun φ => by
      simp only [renL, ren, pickN, placeIn, Nat.beq_refl]
      rw [renL_flat (flatL_ints _ _)]
      rfl)
    have e : backV [b] H.length (.agg ((allF ws).map w)) = .agg ((allF ws).map w) := by
      simp only [backV, ren]
      exact congrArg AV.agg (renL_flat (flatL_ints .u64 _))
    rw [e] at h2
    rw [allF_ex hl]
    exact h2
  · cases h

theorem refRounds_run (F : List Int → List Int) (s0 s1 s2 s3 s4 s5 s6 s7 s8 s9 s10 s11 s12 s13 s14 s15 s16 s17 s18 s19 s20 s21 s22 s23 s24 : Int) : vcall (optA (roundsC F)) ops0 (tabOne 36 vf36) 100 vf36 [.agg (([s0, s1, s2, s3, s4, s5, s6, s7, s8, s9, s10, s11, s12, s13, s14, s15, s16, s17, s18, s19, s20, s21, s22, s23, s24] : List Int).map w)] [] (cutK 0) = some (.agg ((ex25 (F [s0, s1, s2, s3, s4, s5, s6, s7, s8, s9, s10, s11, s12, s13, s14, s15, s16, s17, s18, s19, s20, s21, s22, s23, s24])).map w), [], []) := by kernel_rfl

/-- 'tollhouseref03.Rounds'. -/
theorem rounds36 {s : List Int} (hs : s.length = 25) (H : Hl) : CallTo Try.prog 36 [.agg (s.map w)] H (.agg ((allF s).map w)) H [] := by
  obtain ⟨s0, s1, s2, s3, s4, s5, s6, s7, s8, s9, s10, s11, s12, s13, s14, s15, s16, s17, s18, s19, s20, s21, s22, s23, s24, rfl⟩ := list25 hs
  have h := call_cut roundsC_ok (tabOne_ok ok36) (tabOne_self 36 vf36) 0 [] (refRounds_run allF s0 s1 s2 s3 s4 s5 s6 s7 s8 s9 s10 s11 s12 s13 s14 s15 s16 s17 s18 s19 s20 s21 s22 s23 s24) (by simp) (fun b hb => by cases hb)
  rw [allF_ex hs] at h
  have h2 := CallTo.pure (H := H) 0 (vals := [.agg (([s0, s1, s2, s3, s4, s5, s6, s7, s8, s9, s10, s11, s12, s13, s14, s15, s16, s17, s18, s19, s20, s21, s22, s23, s24] : List Int).map w)]) h
  have e : backV [] H.length (.agg ((allF [s0, s1, s2, s3, s4, s5, s6, s7, s8, s9, s10, s11, s12, s13, s14, s15, s16, s17, s18, s19, s20, s21, s22, s23, s24]).map w)) = .agg ((allF [s0, s1, s2, s3, s4, s5, s6, s7, s8, s9, s10, s11, s12, s13, s14, s15, s16, s17, s18, s19, s20, s21, s22, s23, s24]).map w) := by
    simp only [backV, ren]
    exact congrArg AV.agg (renL_flat (flatL_ints .u64 _))
  rw [e] at h2
  exact h2

end
end Go.Proofs.Vm
