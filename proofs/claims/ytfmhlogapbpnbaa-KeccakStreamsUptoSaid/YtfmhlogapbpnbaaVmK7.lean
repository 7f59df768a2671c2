/-
  KECCAK, PART 7: the document's rounds.
-/
import Derived.Test.YtfmhlogapbpnbaaVmK6
namespace Go.Proofs.Vm
open Go.Vm
noncomputable section

theorem u64_back (x : BitVec 64) : IntKind.u64.wrap (x.toNat : Int) = (x.toNat : Int) := by
  have := x.isLt
  simp [IntKind.wrap, IntKind.bits, IntKind.signed]
  omega
theorem u64_of (x : BitVec 64) : BitVec.ofInt 64 (x.toNat : Int) = x := by
  apply BitVec.eq_of_toNat_eq
  simp
theorem andNot_two (p q : Int) : bin0 .and .u64 (bin0 .xor .u64 (IntKind.u64.max) q) p = bin0 .andNot .u64 p q := by
  have h1 : bin0 .xor .u64 IntKind.u64.max q = ((~~~ (BitVec.ofInt 64 q)).toNat : Int) := by
    show IntKind.u64.wrap ((BitVec.ofInt 64 IntKind.u64.max ^^^ BitVec.ofInt 64 q).toNat : Int) = _
    rw [u64_back]
    congr 2
  rw [h1]
  show IntKind.u64.wrap ((BitVec.ofInt 64 ((~~~ (BitVec.ofInt 64 q)).toNat : Int) &&& BitVec.ofInt 64 p).toNat : Int) = IntKind.u64.wrap ((BitVec.ofInt 64 p &&& ~~~ BitVec.ofInt 64 q).toNat : Int)
  rw [u64_of, BitVec.and_comm]
theorem nw_eq : nw (fun op => bin0 op .u64) = bin0 .andNot .u64 := by
  funext p q
  exact andNot_two p q

def isTab (t : List AV) : Bool := match toInts .i64 (t.take 25), toInts .u64 (t.drop 25) with
  | some l, some m => match l == byI, m == rcs with
    | true, true => true
    | _, _ => false
  | _, _ => false
theorem isTab_ok {t : List AV} (h : isTab t = true) : t = byL ++ rcL := by
  unfold isTab at h
  split at h <;> first | cases h | skip
  rename_i l m h1 h2
  split at h <;> first | cases h | skip
  rename_i e1 e2
  have e1 : l = byI := by simpa using e1
  have e2 : m = rcs := by simpa using e2
  have g1 := toInts_ok h1
  have g2 := toInts_ok h2
  rw [e1] at g1
  rw [e2] at g2
  rw [← List.take_append_drop 25 t, g1, g2]
  rfl

/-- The document's round, and its table. -/
def roundC (F : List Int → Nat → List Int) : Con := fun f vals H => match f, vals with
  | 76, [] => some (.agg (byL ++ rcL), H, [])
  | 77, [.ptr b 0, .agg cs, .int .i64 (.ofNat n)] => match nth H b with
    | some (.cells t) => match isTab t, toInts .u64 cs with
      | true, some ws => match Nat.beq (size ws) 25, Nat.blt n 24 with
        | true, true => some (.agg ((ex25 (F ws n)).map w), H, [])
        | _, _ => none
      | _, _ => none
    | _ => none
  | _, _ => none

def rndN (ws : List Int) (n : Nat) : List Int := rnd ws (rcs.getD n 0)

theorem tab_flat : flatL (byL ++ rcL) := fun a ha => by
  have h := tail_flat 0 0 a
  simp only [tail, List.mem_append] at h ha
  rcases ha with ha | ha
  · exact h (.inl ha)
  · exact h (.inr (.inr (.inl ha)))

theorem roundC_ok : ConOK Try.prog (roundC rndN) := by
  intro f vals H r H' lg h
  unfold roundC at h
  split at h
  · cases h
    have h2 := CallTo.pure (H := H) 0 (vals := []) (call_cut (noCon_ok _) tabK_ok (f := 76) rfl 0 [] all76_run (by simp) (fun b hb => by cases hb))
    have e : backV [] H.length (.agg (byL ++ rcL)) = .agg (byL ++ rcL) := by
      simp only [backV, ren]
      exact congrArg AV.agg (renL_flat tab_flat)
    rw [e] at h2
    exact h2
  · rename_i b cs n
    split at h <;> first | cases h | skip
    rename_i t hb
    split at h <;> first | cases h | skip
    rename_i ws ht hw
    split at h <;> cases h
    rename_i hl hn
    have hl := Nat.eq_of_beq_eq_true hl
    rw [size_eq] at hl
    have hn := (blt_iff _ _).1 hn
    have ht := isTab_ok ht
    subst ht
    have hw := toInts_ok hw
    subst hw
    rw [nth_eq] at hb
    obtain ⟨s0, s1, s2, s3, s4, s5, s6, s7, s8, s9, s10, s11, s12, s13, s14, s15, s16, s17, s18, s19, s20, s21, s22, s23, s24, rfl⟩ := list25 hl
    have hrun := round77_run (fun op => bin0 op .u64) (fun op => shf0 op .u64) rotl s0 s1 s2 s3 s4 s5 s6 s7 s8 s9 s10 s11 s12 s13 s14 s15 s16 s17 s18 s19 s20 s21 s22 s23 s24 n hn
    rw [opsW_eq, nw_eq] at hrun
    have hc := call_cut rotC_ok (tabOne_ok ok77) (tabOne_self 77 vf77) 1 [0] hrun (by simp) (fun b hb hn => by simp at hb hn; omega)
    have h2 := CallTo.look (vals := [.ptr b 0, .agg (([s0, s1, s2, s3, s4, s5, s6, s7, s8, s9, s10, s11, s12, s13, s14, s15, s16, s17, s18, s19, s20, s21, s22, s23, s24] : List Int).map (AV.int .u64)), .int .i64 (.ofNat n)]) hc hb tab_flat (fun φ => by
      simp only [renL, ren, pickN, placeIn, Nat.beq_refl]
      rw [renL_flat (flatL_ints _ _)]
      rfl)
    have e : backV [b] H.length (.agg ((mixW (bin0 .xor .u64) (bin0 .andNot .u64) rotl [s0, s1, s2, s3, s4, s5, s6, s7, s8, s9, s10, s11, s12, s13, s14, s15, s16, s17, s18, s19, s20, s21, s22, s23, s24] (rcs.getD n 0)).map w)) = .agg ((mixW (bin0 .xor .u64) (bin0 .andNot .u64) rotl [s0, s1, s2, s3, s4, s5, s6, s7, s8, s9, s10, s11, s12, s13, s14, s15, s16, s17, s18, s19, s20, s21, s22, s23, s24] (rcs.getD n 0)).map w) := by
      simp only [backV, ren]
      exact congrArg AV.agg (renL_flat (flatL_ints .u64 _))
    rw [e] at h2
    have e2 : ex25 (rndN [s0, s1, s2, s3, s4, s5, s6, s7, s8, s9, s10, s11, s12, s13, s14, s15, s16, s17, s18, s19, s20, s21, s22, s23, s24] n) = mixW (bin0 .xor .u64) (bin0 .andNot .u64) rotl [s0, s1, s2, s3, s4, s5, s6, s7, s8, s9, s10, s11, s12, s13, s14, s15, s16, s17, s18, s19, s20, s21, s22, s23, s24] (rcs.getD n 0) := ex25_eq (rnd_length ..)
    rw [e2]
    exact h2
  · cases h

def lp78 : VC := (.seq (.seq (.reg .false [] [⟨(.some 6), .none, .mov, [(.t 5)]⟩, ⟨(.some 7), .none, (.cmp .lss), [(.t 6), (.c (.int .i64 (.ofNat 24)))]⟩]) (.cond (.t 7) .skip (.exit 0))) (.seq (.block 1 (.reg .false [] [⟨(.some 10), .none, .mov, [(.t 0)]⟩, ⟨(.some 11), .none, (.ldn 25), [(.t 3)]⟩, ⟨(.some 12), .none, .mov, [(.t 5)]⟩, ⟨(.some 13), .none, (.call 77), [(.t 10), (.t 11), (.t 12)]⟩, ⟨.none, .none, (.stn 25), [(.t 3), (.t 13)]⟩])) (.reg .false [] [⟨(.some 8), .none, .mov, [(.t 5)]⟩, ⟨(.some 9), .none, (.bin .add .i64), [(.t 8), (.c (.int .i64 (.ofNat 1)))]⟩, ⟨(.some 5), .none, .mov, [(.t 9)]⟩])))
def mask78 : List Bool := [false, true, true, false, false, false, true, true, true, true, true, true, true, true, true]
def fr78 (i : Int) : Fr := [.ptr 0 0, .top, .top, .ptr 1 0, .ptr 2 0, .int .i64 i, .top, .top, .top, .top, .top, .top, .top, .top, .top]
def in78 (s : List Int) : Fr := [.ptr 0 0, .agg (s.map w), .tup [], .ptr 1 0, .ptr 2 0, .int .i64 0, .tup [], .tup [], .tup [], .tup [], .tup [], .tup [], .tup [], .tup [], .tup []]

theorem body78 (F : List Int → Nat → List Int) (s0 s1 s2 s3 s4 s5 s6 s7 s8 s9 s10 s11 s12 s13 s14 s15 s16 s17 s18 s19 s20 s21 s22 s23 s24 : Int) : ∀ i, i < 24 →
    vm (optC (roundC F)) ops0 noTab 100 1 lp78 (fr78 (.ofNat i)) [.cells (byL ++ rcL), .cells (([s0, s1, s2, s3, s4, s5, s6, s7, s8, s9, s10, s11, s12, s13, s14, s15, s16, s17, s18, s19, s20, s21, s22, s23, s24] : List Int).map w), .cells zero25] [] (bodyF mask78) =
      some (.norm, fr78 (.ofNat (i + 1)), [.cells (byL ++ rcL), .cells ((ex25 (F [s0, s1, s2, s3, s4, s5, s6, s7, s8, s9, s10, s11, s12, s13, s14, s15, s16, s17, s18, s19, s20, s21, s22, s23, s24] i)).map w), .cells zero25], [])
  | 0, _ => by kernel_rfl
  | 1, _ => by kernel_rfl
  | 2, _ => by kernel_rfl
  | 3, _ => by kernel_rfl
  | 4, _ => by kernel_rfl
  | 5, _ => by kernel_rfl
  | 6, _ => by kernel_rfl
  | 7, _ => by kernel_rfl
  | 8, _ => by kernel_rfl
  | 9, _ => by kernel_rfl
  | 10, _ => by kernel_rfl
  | 11, _ => by kernel_rfl
  | 12, _ => by kernel_rfl
  | 13, _ => by kernel_rfl
  | 14, _ => by kernel_rfl
  | 15, _ => by kernel_rfl
  | 16, _ => by kernel_rfl
  | 17, _ => by kernel_rfl
  | 18, _ => by kernel_rfl
  | 19, _ => by kernel_rfl
  | 20, _ => by kernel_rfl
  | 21, _ => by kernel_rfl
  | 22, _ => by kernel_rfl
  | 23, _ => by kernel_rfl
  | i + 24, h => absurd h (by omega)

theorem end78 (F : List Int → Nat → List Int) (H : Hl) :
    vm (optC (roundC F)) ops0 noTab 100 1 lp78 (fr78 (.ofNat 24)) H [] (bodyF mask78) = some (.exit 0, fr78 (.ofNat 24), H, []) := by kernel_rfl

theorem loop78 {s : List Int} (hs : s.length = 25) : ∀ lg, LoopTo Try.prog 1 lp78 (fr78 (.ofNat 0)) [.cells (byL ++ rcL), .cells (s.map w), .cells zero25] lg (.exit 0) (fr78 (.ofNat 24)) [.cells (byL ++ rcL), .cells ((st s 24).map w), .cells zero25] (List.range 1 ++ lg) := by
  refine loop_chain (ex := .exit 0) (by intro h; cases h) (fun i => (fr78 (.ofNat i), [.cells (byL ++ rcL), .cells ((st s i).map w), .cells zero25])) 24 0 (fun j _ hj => ?_) ?_
  · obtain ⟨s0, s1, s2, s3, s4, s5, s6, s7, s8, s9, s10, s11, s12, s13, s14, s15, s16, s17, s18, s19, s20, s21, s22, s23, s24, e⟩ := list25 (st_length hs j)
    have h := body78 rndN s0 s1 s2 s3 s4 s5 s6 s7 s8 s9 s10 s11 s12 s13 s14 s15 s16 s17 s18 s19 s20 s21 s22 s23 s24 j (by omega)
    rw [show ex25 (rndN [s0, s1, s2, s3, s4, s5, s6, s7, s8, s9, s10, s11, s12, s13, s14, s15, s16, s17, s18, s19, s20, s21, s22, s23, s24] j) = rnd [s0, s1, s2, s3, s4, s5, s6, s7, s8, s9, s10, s11, s12, s13, s14, s15, s16, s17, s18, s19, s20, s21, s22, s23, s24] (rcs.getD j 0) from ex25_eq (rnd_length ..)] at h
    simp only [st, e]
    exact body_forget roundC_ok (noTab_ok _) h (by simp)
  · exact body_forget roundC_ok (noTab_ok _) (end78 rndN _) (by simp)

def ent78 (s y : List Int) : Lent := ⟨1, lp78, in78 s, [.cells (byL ++ rcL), .cells (s.map w), .cells zero25], .exit 0, fr78 (.ofNat 24), [.cells (byL ++ rcL), .cells (y.map w), .cells zero25]⟩

theorem run78 (s0 s1 s2 s3 s4 s5 s6 s7 s8 s9 s10 s11 s12 s13 s14 s15 s16 s17 s18 s19 s20 s21 s22 s23 s24 y0 y1 y2 y3 y4 y5 y6 y7 y8 y9 y10 y11 y12 y13 y14 y15 y16 y17 y18 y19 y20 y21 y22 y23 y24 : Int) :
    vcall (propL noCon fun _ _ => some (ent78 [s0, s1, s2, s3, s4, s5, s6, s7, s8, s9, s10, s11, s12, s13, s14, s15, s16, s17, s18, s19, s20, s21, s22, s23, s24] [y0, y1, y2, y3, y4, y5, y6, y7, y8, y9, y10, y11, y12, y13, y14, y15, y16, y17, y18, y19, y20, y21, y22, y23, y24])) ops0 (tabOne 78 vf78) 100 vf78 [.ptr 0 0, .agg (([s0, s1, s2, s3, s4, s5, s6, s7, s8, s9, s10, s11, s12, s13, s14, s15, s16, s17, s18, s19, s20, s21, s22, s23, s24] : List Int).map w)] [.cells (byL ++ rcL)] (fun r H lg => cutK 1 r H lg = some (.agg (([y0, y1, y2, y3, y4, y5, y6, y7, y8, y9, y10, y11, y12, y13, y14, y15, y16, y17, y18, y19, y20, y21, y22, y23, y24] : List Int).map w), [.cells (byL ++ rcL)], [])) =
      (1 = 1 ∧ lp78 = lp78 ∧ in78 [s0, s1, s2, s3, s4, s5, s6, s7, s8, s9, s10, s11, s12, s13, s14, s15, s16, s17, s18, s19, s20, s21, s22, s23, s24] = in78 [s0, s1, s2, s3, s4, s5, s6, s7, s8, s9, s10, s11, s12, s13, s14, s15, s16, s17, s18, s19, s20, s21, s22, s23, s24] ∧ [Blk.cells (byL ++ rcL), .cells (([s0, s1, s2, s3, s4, s5, s6, s7, s8, s9, s10, s11, s12, s13, s14, s15, s16, s17, s18, s19, s20, s21, s22, s23, s24] : List Int).map w), .cells zero25] = [Blk.cells (byL ++ rcL), .cells (([s0, s1, s2, s3, s4, s5, s6, s7, s8, s9, s10, s11, s12, s13, s14, s15, s16, s17, s18, s19, s20, s21, s22, s23, s24] : List Int).map w), .cells zero25] ∧
        some ((.agg (([y0, y1, y2, y3, y4, y5, y6, y7, y8, y9, y10, y11, y12, y13, y14, y15, y16, y17, y18, y19, y20, y21, y22, y23, y24] : List Int).map w), [.cells (byL ++ rcL)], []) : Out) = some (.agg (([y0, y1, y2, y3, y4, y5, y6, y7, y8, y9, y10, y11, y12, y13, y14, y15, y16, y17, y18, y19, y20, y21, y22, y23, y24] : List Int).map w), [.cells (byL ++ rcL)], [])) := by kernel_rfl

/-- The document's rounds, by the table. -/
theorem rounds78 {s : List Int} (hs : s.length = 25) : CallTo Try.prog 78 [.ptr 0 0, .agg (s.map w)] [.cells (byL ++ rcL)] (.agg ((allF s).map w)) [.cells (byL ++ rcL)] [] := by
  have hl := loop78 hs
  have hy := st_length hs 24
  unfold allF
  generalize st s 24 = y at hl hy
  obtain ⟨s0, s1, s2, s3, s4, s5, s6, s7, s8, s9, s10, s11, s12, s13, s14, s15, s16, s17, s18, s19, s20, s21, s22, s23, s24, rfl⟩ := list25 hs
  obtain ⟨y0, y1, y2, y3, y4, y5, y6, y7, y8, y9, y10, y11, y12, y13, y14, y15, y16, y17, y18, y19, y20, y21, y22, y23, y24, rfl⟩ := list25 hy
  have hE : (ent78 [s0, s1, s2, s3, s4, s5, s6, s7, s8, s9, s10, s11, s12, s13, s14, s15, s16, s17, s18, s19, s20, s21, s22, s23, s24] [y0, y1, y2, y3, y4, y5, y6, y7, y8, y9, y10, y11, y12, y13, y14, y15, y16, y17, y18, y19, y20, y21, y22, y23, y24]).OK Try.prog := LoopTo.pre (Weak.forget (show 1 ≤ 3 by decide) mask78) hl
  exact call_loop (noCon_ok _) (E := fun _ _ => some (ent78 [s0, s1, s2, s3, s4, s5, s6, s7, s8, s9, s10, s11, s12, s13, s14, s15, s16, s17, s18, s19, s20, s21, s22, s23, s24] [y0, y1, y2, y3, y4, y5, y6, y7, y8, y9, y10, y11, y12, y13, y14, y15, y16, y17, y18, y19, y20, y21, y22, y23, y24])) (fun fr H e he => by cases he; exact hE) (tabOne_ok ok78) (tabOne_self 78 vf78) 1 []
    (Eq.mpr (run78 s0 s1 s2 s3 s4 s5 s6 s7 s8 s9 s10 s11 s12 s13 s14 s15 s16 s17 s18 s19 s20 s21 s22 s23 s24 y0 y1 y2 y3 y4 y5 y6 y7 y8 y9 y10 y11 y12 y13 y14 y15 y16 y17 y18 y19 y20 y21 y22 y23 y24) ⟨rfl, rfl, rfl, rfl, rfl⟩) (by simp) (fun b hb hn => by simp at hb; subst hb; rfl)

end
end Go.Proofs.Vm
