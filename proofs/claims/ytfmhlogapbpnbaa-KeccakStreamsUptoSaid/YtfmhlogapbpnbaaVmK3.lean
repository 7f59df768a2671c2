/-
  KECCAK, PART 3: all rounds, in the sponge.
-/
import Derived.Test.YtfmhlogapbpnbaaVmK2
import Derived.Test.YtfmhlogapbpnbaaVmLp
namespace Go.Proofs.Vm
open Go.Vm
noncomputable section

def byI : List Int := [0, 1, 62, 28, 27, 36, 44, 6, 55, 20, 3, 10, 43, 25, 39, 41, 45, 15, 21, 8, 18, 2, 61, 56, 14]
def toI : List Int := [0, 10, 20, 5, 15, 16, 1, 11, 21, 6, 7, 17, 2, 12, 22, 23, 8, 18, 3, 13, 14, 24, 9, 19, 4]

/-- What stands behind the state in the sponge. -/
def tail (rate at_ : Int) : List AV := byL ++ (toL ++ (rcL ++ [.int .i64 rate, .int .i64 at_]))

def tailOf (cs : List AV) : Option (Int × Int) :=
  match toInts .i64 (cs.take 50), toInts .u64 ((cs.drop 50).take 24), (cs.drop 50).drop 24 with
  | some l, some m, [.int .i64 r, .int .i64 a] => match l == byI ++ toI, m == rcs with
    | true, true => some (r, a)
    | _, _ => none
  | _, _, _ => none

theorem tailOf_ok {cs : List AV} {r a : Int} (h : tailOf cs = some (r, a)) : cs = tail r a := by
  unfold tailOf at h
  split at h <;> first | cases h | skip
  rename_i l m r' a' h1 h2 h3
  split at h <;> cases h
  rename_i e1 e2
  have e1 : l = byI ++ toI := by simpa using e1
  have e2 : m = rcs := by simpa using e2
  have g1 := toInts_ok h1
  have g2 := toInts_ok h2
  rw [e1] at g1
  rw [e2] at g2
  rw [← List.take_append_drop 50 cs, g1, ← List.take_append_drop 24 (cs.drop 50), g2, h3]
  rfl

/-- A round in the sponge. -/
def mixInC (F : List Int → Int → List Int) : Con := fun f vals H => match f, vals, H with
  | 75, [.ptr 0 0, .ptr 0 25, .ptr 0 50, .int .u64 c], [.cells cs] => match toInts .u64 (cs.take 25), tailOf (cs.drop 25) with
    | some ws, some _ => match Nat.beq ws.length 25 with
      | true => some (.tup [], [.cells ((F ws c).map w ++ cs.drop 25)], [0])
      | false => none
    | _, _ => none
  | _, _, _ => none

theorem list25 {l : List Int} (h : l.length = 25) : ∃ s0 s1 s2 s3 s4 s5 s6 s7 s8 s9 s10 s11 s12 s13 s14 s15 s16 s17 s18 s19 s20 s21 s22 s23 s24, l = [s0, s1, s2, s3, s4, s5, s6, s7, s8, s9, s10, s11, s12, s13, s14, s15, s16, s17, s18, s19, s20, s21, s22, s23, s24] := by
  match l, h with
  | [s0, s1, s2, s3, s4, s5, s6, s7, s8, s9, s10, s11, s12, s13, s14, s15, s16, s17, s18, s19, s20, s21, s22, s23, s24], _ => exact ⟨s0, s1, s2, s3, s4, s5, s6, s7, s8, s9, s10, s11, s12, s13, s14, s15, s16, s17, s18, s19, s20, s21, s22, s23, s24, rfl⟩

/-- Words as Go reckons them. -/
def rnd : List Int → Int → List Int := mixW (bin0 .xor .u64) (bin0 .andNot .u64) rotl

theorem mixInC_ok : ConOK Try.prog (mixInC rnd) := by
  intro f vals H r H' lg h
  unfold mixInC at h
  split at h <;> first | cases h | skip
  rename_i c cs
  split at h <;> first | cases h | skip
  rename_i ws ra h1 h2
  split at h <;> cases h
  rename_i hl
  have hl := Nat.eq_of_beq_eq_true hl
  have g1 := toInts_ok h1
  obtain ⟨rate, at_⟩ := ra
  have g2 := tailOf_ok h2
  obtain ⟨s0, s1, s2, s3, s4, s5, s6, s7, s8, s9, s10, s11, s12, s13, s14, s15, s16, s17, s18, s19, s20, s21, s22, s23, s24, rfl⟩ := list25 hl
  have hcs : cs = ([s0, s1, s2, s3, s4, s5, s6, s7, s8, s9, s10, s11, s12, s13, s14, s15, s16, s17, s18, s19, s20, s21, s22, s23, s24] : List Int).map (AV.int .u64) ++ tail rate at_ := by rw [← List.take_append_drop 25 cs, g1, g2]
  have hd : cs.drop 25 = tail rate at_ := g2
  rw [hd]
  subst hcs
  have hrun := mix_in (fun op => bin0 op .u64) (fun op => shf0 op .u64) rotl s0 s1 s2 s3 s4 s5 s6 s7 s8 s9 s10 s11 s12 s13 s14 s15 s16 s17 s18 s19 s20 s21 s22 s23 s24 c rate at_
  rw [opsW_eq] at hrun
  exact call_cut rotC_ok tabM_ok rfl 1 [0] hrun (by simp) (fun b hb hn => by simp at hb hn; omega)

end
end Go.Proofs.Vm
