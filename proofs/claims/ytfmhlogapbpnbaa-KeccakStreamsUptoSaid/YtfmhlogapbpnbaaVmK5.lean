/-
  KECCAK, PART 5: tables; a new sponge; all rounds of a state.
-/
import Derived.Test.YtfmhlogapbpnbaaVmK4
import Derived.Test.YtfmhlogapbpnbaaVmFl
namespace Go.Proofs.Vm
open Go.Vm
noncomputable section

theorem turns_run : vcall (optA noCon) ops0 tabK 1000 vf74 [] [] (cutK 0) = some (.tup [.agg byL, .agg toL], [], []) := by kernel_rfl
theorem consts_run : vcall (optA noCon) ops0 tabK 1000 vf101 [] [] (cutK 0) = some (.agg rcL, [], []) := by kernel_rfl

/-- The tables. -/
def tabC : Con := fun f vals H => match f, vals with
  | 74, [] => some (.tup [.agg byL, .agg toL], H, [])
  | 101, [] => some (.agg rcL, H, [])
  | _, _ => none

theorem tabC_ok : ConOK Try.prog tabC := by
  intro f vals H r H' lg h
  unfold tabC at h
  split at h <;> cases h
  · exact CallTo.pure (H := H) 0 (vals := []) (call_cut (noCon_ok _) tabK_ok rfl 0 [] turns_run (by simp) (fun b hb => by cases hb))
  · exact CallTo.pure (H := H) 0 (vals := []) (call_cut (noCon_ok _) tabK_ok rfl 0 [] consts_run (by simp) (fun b hb => by cases hb))

def zero25 : List AV := [.int .u64 0, .int .u64 0, .int .u64 0, .int .u64 0, .int .u64 0, .int .u64 0, .int .u64 0, .int .u64 0, .int .u64 0, .int .u64 0, .int .u64 0, .int .u64 0, .int .u64 0, .int .u64 0, .int .u64 0, .int .u64 0, .int .u64 0, .int .u64 0, .int .u64 0, .int .u64 0, .int .u64 0, .int .u64 0, .int .u64 0, .int .u64 0, .int .u64 0]

theorem start_run (rate : Int) : vcall (optA tabC) ops0 (tabOne 68 vf68) 100 vf68 [.int .i64 rate] [] (cutK 1) = some (.ptr 0 0, [.cells (zero25 ++ tail rate 0)], []) := by kernel_rfl

theorem tail_flat (rate at_ : Int) : flatL (tail rate at_) := by
  intro a ha
  simp only [tail, byL, toL, rcL, List.mem_append, List.mem_cons, List.not_mem_nil, or_false] at ha
  rcases ha with ha | ha | ha | ha
  · rcases ha with rfl | rfl | rfl | rfl | rfl | rfl | rfl | rfl | rfl | rfl | rfl | rfl | rfl | rfl | rfl | rfl | rfl | rfl | rfl | rfl | rfl | rfl | rfl | rfl | rfl <;> rfl
  · rcases ha with rfl | rfl | rfl | rfl | rfl | rfl | rfl | rfl | rfl | rfl | rfl | rfl | rfl | rfl | rfl | rfl | rfl | rfl | rfl | rfl | rfl | rfl | rfl | rfl | rfl <;> rfl
  · rcases ha with rfl | rfl | rfl | rfl | rfl | rfl | rfl | rfl | rfl | rfl | rfl | rfl | rfl | rfl | rfl | rfl | rfl | rfl | rfl | rfl | rfl | rfl | rfl | rfl <;> rfl
  · rcases ha with rfl | rfl <;> rfl

/-- The state behind all rounds. -/
def allF (s : List Int) : List Int := st s 24

/-- 25 words, one by one. -/
def ex25 (l : List Int) : List Int := [l.getD 0 0, l.getD 1 0, l.getD 2 0, l.getD 3 0, l.getD 4 0, l.getD 5 0, l.getD 6 0, l.getD 7 0, l.getD 8 0, l.getD 9 0, l.getD 10 0, l.getD 11 0, l.getD 12 0, l.getD 13 0, l.getD 14 0, l.getD 15 0, l.getD 16 0, l.getD 17 0, l.getD 18 0, l.getD 19 0, l.getD 20 0, l.getD 21 0, l.getD 22 0, l.getD 23 0, l.getD 24 0]
theorem ex25_eq {l : List Int} (h : l.length = 25) : ex25 l = l := by
  obtain ⟨s0, s1, s2, s3, s4, s5, s6, s7, s8, s9, s10, s11, s12, s13, s14, s15, s16, s17, s18, s19, s20, s21, s22, s23, s24, rfl⟩ := list25 h
  rfl
theorem allF_ex {s : List Int} (h : s.length = 25) : ex25 (allF s) = allF s := ex25_eq (st_length h 24)

/-- A new sponge; all rounds in it. -/
def spongeC (F : List Int → List Int) : Con := fun f vals H => match f, vals with
  | 68, [.int .i64 rate] => some (.ptr (size H) 0, join H [.cells (zero25 ++ tail rate 0)], [])
  | 71, [.ptr b 0] => match nth H b with
    | some (.cells cs) => match toInts .u64 (cs.take 25), tailOf (cs.drop 25) with
      | some ws, some (rate, _) => match Nat.beq (size ws) 25 with
        | true => some (.tup [], put H b (.cells ((ex25 (F ws)).map w ++ tail rate 0)), [b])
        | false => none
      | _, _ => none
    | _ => none
  | _, _ => none

theorem spongeC_ok : ConOK Try.prog (spongeC allF) := by
  intro f vals H r H' lg h
  unfold spongeC at h
  split at h
  · rename_i rate
    cases h
    refine CallTo.new (vals := [.int .i64 rate]) (call_cut tabC_ok (tabOne_ok ok68) (tabOne_self 68 vf68) 1 [] (start_run rate) (by simp) (fun b hb => by cases hb)) (flatL_append ?_ (tail_flat _ _)) (fun φ => rfl)
    intro a ha
    simp only [zero25, List.mem_cons, List.not_mem_nil, or_false] at ha
    rcases ha with rfl | rfl | rfl | rfl | rfl | rfl | rfl | rfl | rfl | rfl | rfl | rfl | rfl | rfl | rfl | rfl | rfl | rfl | rfl | rfl | rfl | rfl | rfl | rfl | rfl <;> rfl
  · rename_i b
    split at h <;> first | cases h | skip
    rename_i cs hb
    split at h <;> first | cases h | skip
    rename_i ws rate at_ h1 h2
    split at h <;> cases h
    rename_i hl
    have hl := Nat.eq_of_beq_eq_true hl
    rw [size_eq] at hl
    rw [nth_eq] at hb
    have g1 := toInts_ok h1
    have g2 := tailOf_ok h2
    have hcs : cs = ws.map w ++ tail rate at_ := by rw [← List.take_append_drop 25 cs, g1, g2]; rfl
    subst hcs
    rw [allF_ex hl]
    refine CallTo.one (vals := [.ptr b 0]) (all71 hl rate at_) hb (flatL_append (flatL_ints _ _) (tail_flat _ _)) (flatL_append (flatL_ints _ _) (tail_flat _ _)) (fun φ => ?_)
    simp [renL, ren, pickN, placeIn, Nat.beq_refl]
  · cases h

theorem rounds_run (F : List Int → List Int) (s0 s1 s2 s3 s4 s5 s6 s7 s8 s9 s10 s11 s12 s13 s14 s15 s16 s17 s18 s19 s20 s21 s22 s23 s24 : Int) : vcall (optA (spongeC F)) ops0 (tabOne 29 vf29) 100 vf29 [.agg (([s0, s1, s2, s3, s4, s5, s6, s7, s8, s9, s10, s11, s12, s13, s14, s15, s16, s17, s18, s19, s20, s21, s22, s23, s24] : List Int).map w)] [] (cutK 0) = some (.agg ((ex25 (F [s0, s1, s2, s3, s4, s5, s6, s7, s8, s9, s10, s11, s12, s13, s14, s15, s16, s17, s18, s19, s20, s21, s22, s23, s24])).map w), [], []) := by kernel_rfl

/-- 'keccak.Rounds'. -/
theorem rounds29 {s : List Int} (hs : s.length = 25) (H : Hl) : CallTo Try.prog 29 [.agg (s.map w)] H (.agg ((allF s).map w)) H [] := by
  obtain ⟨s0, s1, s2, s3, s4, s5, s6, s7, s8, s9, s10, s11, s12, s13, s14, s15, s16, s17, s18, s19, s20, s21, s22, s23, s24, rfl⟩ := list25 hs
  have h := call_cut spongeC_ok (tabOne_ok ok29) (tabOne_self 29 vf29) 0 [] (rounds_run allF s0 s1 s2 s3 s4 s5 s6 s7 s8 s9 s10 s11 s12 s13 s14 s15 s16 s17 s18 s19 s20 s21 s22 s23 s24) (by simp) (fun b hb => by cases hb)
  rw [allF_ex hs] at h
  have h2 := CallTo.pure (H := H) 0 (vals := [.agg (([s0, s1, s2, s3, s4, s5, s6, s7, s8, s9, s10, s11, s12, s13, s14, s15, s16, s17, s18, s19, s20, s21, s22, s23, s24] : List Int).map w)]) h
  have e : backV [] H.length (.agg ((allF [s0, s1, s2, s3, s4, s5, s6, s7, s8, s9, s10, s11, s12, s13, s14, s15, s16, s17, s18, s19, s20, s21, s22, s23, s24]).map w)) = .agg ((allF [s0, s1, s2, s3, s4, s5, s6, s7, s8, s9, s10, s11, s12, s13, s14, s15, s16, s17, s18, s19, s20, s21, s22, s23, s24]).map w) := by
    simp only [backV, ren]
    exact congrArg AV.agg (renL_flat (flatL_ints .u64 _))
  rw [e] at h2
  exact h2

end
end Go.Proofs.Vm
