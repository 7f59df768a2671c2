/-
  A VERIFIED SYMBOLIC MACHINE, PART S: the operations in another order.
-/
import Derived.Test.YtfmhlogapbpnbaaYac

namespace Go.Vm

/-- What lies in a slot. -/
theorem set_get (fr : Fr) (d : Nat) (v : AV) (t : Nat) : (fr.set d v)[t]? = if d = t then (if t < fr.length then some v else none) else fr[t]? := by
  by_cases h : d = t
  · subst h
    simp only [if_true]
    by_cases hl : d < fr.length
    · simp [hl]
    · simp [hl]
  · rw [if_neg h, List.getElem?_set_ne h]

theorem VRels.set {ρ : Rho} {w : World} {as : List AV} {vs : List Value} (h : VRels ρ w as vs) (i : Nat) {a : AV} {v : Value} (hv : VRel ρ w a v) : VRels ρ w (as.set i a) (vs.set i v) :=
  ⟨by simp [h.len], fun j b u hb hu => by
    by_cases hj : i = j
    · subst hj
      have hl := h.len
      by_cases h1 : i < as.length
      · rw [List.getElem?_set_self h1] at hb
        rw [List.getElem?_set_self (by omega)] at hu
        cases hb; cases hu; exact hv
      · rw [List.getElem?_eq_none (by simp; omega)] at hb; cases hb
    · rw [List.getElem?_set_ne hj] at hb hu
      exact h.at_ j b u hb hu⟩

theorem frel_put {ρ : Rho} {w : World} {fr : Fr} {a : Act} (h : FRel ρ w fr a.tmps) (d : Option Nat) {x : AV} {v : Value} (hv : VRel ρ w x v) : FRel ρ w (setD fr d x) (a.put d v).tmps := by
  cases d with
  | none => exact h
  | some d =>
    have := VRels.set h d hv
    simp only [setD, Act.put, put_eq, FRel]
    rw [Array.toList_setIfInBounds]
    exact this

theorem put_defers (a : Act) (d : Option Nat) (v : Value) : (a.put d v).defers = a.defers := by cases d <;> rfl

/-- Slots that are alike are read alike. -/
theorem slot_congr {f g : Fr} {t : Nat} (h : f[t]? = g[t]?) : slot f t = slot g t := by rw [slot_eq, slot_eq, h]

theorem evs_congr {f g : Fr} : ∀ {as : List Arg}, (∀ t, t ∈ readsA as → f[t]? = g[t]?) → evs f as = evs g as
  | [], _ => rfl
  | .t n :: as, h => by
    simp only [evs, ev]
    rw [slot_congr (h n (by simp [readsA])), evs_congr (fun t ht => h t (by simp [readsA, ht]))]
  | .c v :: as, h => by
    simp only [evs, ev]
    rw [evs_congr (fun t ht => h t (by simpa [readsA] using ht))]

/-- A guard says the same in both. -/
theorem guard_wanted {ρ : Rho} {w : World} {fr : Fr} {a : Act} {all : Array Oper} {o : Oper} {v : VO} (hf : FRel ρ w fr a.tmps) (hg : GuardOK all o v) :
    (guardOf fr v.guard = .run → Region.wanted o (yielded all a.tmps) = true) ∧ (guardOf fr v.guard = .pass → Region.wanted o (yielded all a.tmps) = false) := by
  rcases hg.guard with ⟨e1, e2⟩ | ⟨gi, want, d, e1, e2, e3⟩
  · rw [e2]
    refine ⟨fun _ => by simp [Region.wanted, e1], fun h => by cases h⟩
  · rw [e3]
    have hsl := slot_rel hf d
    have hy : ∀ b, a.tmps.getD d undef = .bool b → yielded all a.tmps gi = some b := by
      intro b hb
      have h3 : a.tmps[d]? = some (.bool b) := by
        rw [Array.getD_eq_getD_getElem?] at hb
        cases h3 : a.tmps[d]? with
        | none => rw [h3] at hb; cases hb
        | some v => rw [h3] at hb; exact congrArg some hb
      simp [yielded, e2, h3]
    have hn : a.tmps.getD d undef = .tuple #[] → yielded all a.tmps gi = none := by
      intro hb
      unfold yielded
      rw [e2]
      simp only [Option.bind_some]
      have h3 : a.tmps[d]? = some (.tuple #[]) ∨ a.tmps[d]? = none := by
        rw [Array.getD_eq_getD_getElem?] at hb
        cases h3 : a.tmps[d]? with
        | none => exact .inr rfl
        | some v => rw [h3] at hb; exact .inl (congrArg some hb)
      rcases h3 with h3 | h3 <;> rw [h3]
    have hw : Region.wanted o (yielded all a.tmps) = (yielded all a.tmps gi == some want) := by simp [Region.wanted, e1]
    rw [hw]
    simp only [guardOf]
    generalize hx : slot fr d = x at hsl
    cases x with
    | bool b =>
      rw [hy b (inv_bool hsl)]
      cases b <;> cases want <;> simp
    | tup l =>
      cases l with
      | nil =>
        have : a.tmps.getD d undef = .tuple #[] := by
          generalize a.tmps.getD d undef = v at hsl
          cases hsl with
          | tup _ vs hl _ =>
            have : vs = [] := List.eq_nil_of_length_eq_zero (by simpa using hl)
            subst this; rfl
        rw [hn this]
        cases want <;> simp
      | cons => cases want <;> constructor <;> intro h <;> cases h
    | _ => cases want <;> constructor <;> intro h <;> cases h

/-- What stands of the operations in D: the memory and the slots as in the text, wherever those ahead of place p, and no others, have been at them. -/
structure Inv (n : Nat) (vf : Nat → VO) (t : Tr) (ρ0 : Rho) (w0 : World) (ds : List Deferred) (D : Nat → Prop) (a : Act) (w : World) : Prop where
  ex : ∃ (ρ : Rho) (fr : Fr) (g : Hp), HRel ρ w g ∧ FRel ρ w fr a.tmps ∧ (∀ m, Ext m ρ0 w0 ρ w) ∧
    (∀ s p, p ≤ n → (∀ j, j < n → (vf j).dst = some s → (D j ↔ j < p)) → fr[s]? = (t.fr p)[s]?) ∧
    (∀ b p, p ≤ n → (∀ j, j < n → t.run j = true → b ∈ t.T j → (D j ↔ j < p)) → g b = (t.H p)[b]?)
  defers : a.defers = ds

/-- The operations' clashes, settled. (B i j: i is surely ahead of j.) -/
structure Settled (n : Nat) (vf : Nat → VO) (t : Tr) (B : Nat → Nat → Prop) : Prop where
  slots : ∀ i j, i < j → j < n → slotClash (vf i) (vf j) = true → B i j
  blocks : ∀ i j, i < j → j < n → t.run i = true → t.run j = true →
    (∃ b, (b ∈ t.T i ∧ b ∈ t.T j) ∨ (b ∈ t.T i ∧ b ∈ t.F j) ∨ (b ∈ t.F i ∧ b ∈ t.T j) ∨ ((isCall (vf i).op = true ∧ allT (oksOf (vf i) t i) = false) ∧ (t.H i).length ≤ b ∧ b ∈ t.T j)) → B i j

theorem slotClash_iff (u v : VO) : slotClash u v = true ↔ (∃ d, u.dst = some d ∧ d ∈ readsOf v) ∨ (∃ d, u.dst = some d ∧ v.dst = some d) ∨ ∃ d, v.dst = some d ∧ d ∈ readsOf u := by
  have h1 : ∀ (o : Option Nat) l, hasO o l = true ↔ ∃ d, o = some d ∧ d ∈ l := by
    intro o l
    cases o with
    | none => simp [hasO]
    | some d => simp [hasO, has_iff]
  have h2 : ∀ (o p : Option Nat), sameO o p = true ↔ ∃ d, o = some d ∧ p = some d := by
    intro o p
    cases o <;> cases p <;> simp [sameO]
    exact eq_comm
  simp only [slotClash, Bool.or_eq_true, h1, h2, or_assoc]

theorem lens {n : Nat} {P : Program} {all : Array Oper} {vf : Nat → VO} {t : Tr} (hn : n = all.size) (hst : ∀ j o, j < n → all[j]? = some o → StepAt P all o (vf j) t j) :
    ∀ d i, i + d ≤ n → (t.H i).length ≤ (t.H (i + d)).length
  | 0, i, _ => Nat.le_refl _
  | d + 1, i, h => by
    have hl : i + d < all.size := by omega
    have := (hst (i + d) all[i + d] (by omega) (by simp [hl])).grow
    exact Nat.le_trans (lens hn hst d i (by omega)) this

section
variable {P : Program} {all : Array Oper} {vf : Nat → VO} {t : Tr} {n : Nat} {ρ0 : Rho} {w0 : World} {ds : List Deferred} {B : Nat → Nat → Prop}
  (hn : n = all.size) (hst : ∀ j o, j < n → all[j]? = some o → StepAt P all o (vf j) t j) (hB : Settled n vf t B)
include hn hst

theorem len_le {i j : Nat} (hij : i ≤ j) (hj : j ≤ n) : (t.H i).length ≤ (t.H j).length := by
  have := lens hn hst (j - i) i (by omega)
  rwa [show i + (j - i) = j by omega] at this

include hB
/-- One step more, in whatever order. -/
theorem inv_step {Q : Exit → Act → World → Prop} {D : Nat → Prop} {a : Act} {w : World} {j : Nat} (hj : j < n) (hnot : ¬ D j) (hbef : ∀ i, i < j → B i j → D i) (hclosed : ∀ i, i < n → D i → ∀ k, k < i → B k i → D k)
    (h : Inv n vf t ρ0 w0 ds D a w) {K : Act → World → Prop} (hK : ∀ a' w', Inv n vf t ρ0 w0 ds (fun i => D i ∨ i = j) a' w' → K a' w') : wpOp P all Q j K a w := by
  have hjs : j < all.size := by omega
  have ho : all[j]? = some all[j] := by simp [hjs]
  generalize all[j] = o at ho
  have hs := hst j o hj ho
  obtain ⟨⟨ρ, fr, g, hg, hf, hext, hS, hH⟩, hds⟩ := h
  -- the others that write a slot that this one reads or writes
  have ahead : ∀ s, (s ∈ readsOf (vf j) ∨ (vf j).dst = some s) → ∀ i, i < n → (vf i).dst = some s → (D i ↔ i < j) := by
    intro s hs' i hi hd
    rcases Nat.lt_trichotomy i j with hlt | heq | hgt
    · refine ⟨fun _ => hlt, fun _ => hbef i hlt (hB.slots i j hlt hj ((slotClash_iff _ _).2 ?_))⟩
      rcases hs' with hs' | hs'
      · exact .inl ⟨s, hd, hs'⟩
      · exact .inr (.inl ⟨s, hd, hs'⟩)
    · subst heq; exact ⟨fun hD => absurd hD hnot, fun h => absurd h (Nat.lt_irrefl _)⟩
    · refine ⟨fun hD => absurd (hclosed i hi hD j hgt (hB.slots j i hgt hi ((slotClash_iff _ _).2 ?_))) hnot, fun h => absurd h (Nat.lt_asymm hgt)⟩
      rcases hs' with hs' | hs'
      · exact .inr (.inr ⟨s, hd, hs'⟩)
      · exact .inr (.inl ⟨s, hs', hd⟩)
  have hread : ∀ s, s ∈ readsOf (vf j) → fr[s]? = (t.fr j)[s]? := fun s hs' => hS s j (by omega) (ahead s (.inl hs'))
  -- the slots behind it
  have after : ∀ (x : AV), t.r j = x → ∀ s p, p ≤ n → (∀ i, i < n → (vf i).dst = some s → ((D i ∨ i = j) ↔ i < p)) → (setD fr (vf j).dst x)[s]? = (t.fr p)[s]? := by
    intro x hx s p hp hw
    by_cases hd : (vf j).dst = some s
    · have hjp : j < p := (hw j hj hd).1 (.inr rfl)
      have e0 : fr[s]? = (t.fr j)[s]? := hS s j (by omega) (ahead s (.inr hd))
      have e1 : (setD fr (vf j).dst x)[s]? = (t.fr (j + 1))[s]? := by
        rw [hs.fr, hd, hx]
        simp only [setD, put_eq]
        have hl : s < fr.length ↔ s < (t.fr j).length := by
          have h1 := List.getElem?_eq_none_iff (l := fr) (i := s)
          have h2 := List.getElem?_eq_none_iff (l := t.fr j) (i := s)
          rw [e0] at h1
          have := h1.symm.trans h2
          omega
        rw [set_get, set_get]
        simp only [if_true]
        by_cases h : s < fr.length
        · rw [if_pos h, if_pos (hl.1 h)]
        · rw [if_neg h, if_neg (fun h' => h (hl.2 h'))]
      rw [e1]
      -- nobody writes it between j + 1 and p
      have mid : ∀ d, j + 1 + d ≤ p → (t.fr (j + 1 + d))[s]? = (t.fr (j + 1))[s]? := by
        intro d
        induction d with
        | zero => intro _; rfl
        | succ d ih =>
          intro hd'
          have hlt : j + 1 + d < all.size := by omega
          have hst' := hst (j + 1 + d) all[j + 1 + d] (by omega) (by simp [hlt])
          rw [show j + 1 + (d + 1) = (j + 1 + d) + 1 by omega, hst'.fr]
          have hne : (vf (j + 1 + d)).dst ≠ some s := by
            intro e
            have hD : D (j + 1 + d) ∨ j + 1 + d = j := (hw (j + 1 + d) (by omega) e).2 (by omega)
            rcases hD with hD | hD
            · have := (ahead s (.inr hd) (j + 1 + d) (by omega) e).1 hD
              omega
            · omega
          cases hdd : (vf (j + 1 + d)).dst with
          | none => exact ih (by omega)
          | some d2 =>
            simp only [setD, put_eq]
            rw [set_get, if_neg (by intro e; subst e; exact hne hdd)]
            exact ih (by omega)
      have := mid (p - (j + 1)) (by omega)
      rw [show j + 1 + (p - (j + 1)) = p by omega] at this
      exact this.symm
    · have e : (setD fr (vf j).dst x)[s]? = fr[s]? := by
        cases hdd : (vf j).dst with
        | none => rfl
        | some d2 =>
          simp only [setD, put_eq]
          rw [set_get, if_neg (by intro e; subst e; exact hd hdd)]
      rw [e]
      refine hS s p hp fun i hi hdi => ?_
      have := hw i hi hdi
      have hne : i ≠ j := by intro e; subst e; exact hd hdi
      constructor
      · intro hD; exact this.1 (.inl hD)
      · intro hp'
        rcases this.2 hp' with h' | h'
        · exact h'
        · exact absurd h' hne
  have hgs : ∀ d want, (vf j).guard = some (d, want) → d ∈ readsOf (vf j) := by
    intro d want e; simp [readsOf, e]
  have hguard : guardOf fr (vf j).guard = guardOf (t.fr j) (vf j).guard := by
    cases hgd : (vf j).guard with
    | none => rfl
    | some dw =>
      obtain ⟨d, want⟩ := dw
      simp only [guardOf, slot_congr (hread d (hgs d want hgd))]
  have hw := guard_wanted hf hs.gd
  unfold wpOp
  rw [ho]
  simp only
  cases hrun : t.run j with
  | false =>
    obtain ⟨p1, p2, p3, p4⟩ := hs.passed hrun
    rw [hguard] at hw
    rw [hw.2 p1]
    simp only [Bool.false_eq_true, if_false]
    refine hK _ _ ⟨⟨ρ, setD fr (vf j).dst (.tup []), g, hg, ?_, hext, after _ p2, ?_⟩, by rw [put_defers]; exact hds⟩
    · rw [← hs.gd.dst]; exact frel_put hf _ (undef_rel ρ w)
    · intro b p hp hwr
      refine hH b p hp fun i hi hr hb => ?_
      have := hwr i hi hr hb
      have hne : i ≠ j := by intro e; subst e; rw [hrun] at hr; cases hr
      constructor
      · intro hD; exact this.1 (.inl hD)
      · intro hp'
        rcases this.2 hp' with h' | h'
        · exact h'
        · exact absurd h' hne
  | true =>
    obtain ⟨p1, tch, xs, hT, hc, ha, hsx1, hsx2⟩ := hs.ran hrun
    -- of a call: may others lie there besides?
    obtain ⟨cl, hcl, hsx⟩ : ∃ cl : Bool, (cl = true → isCall (vf j).op = true ∧ allT (oksOf (vf j) t j) = false) ∧ StepX P o cl xs (evs (t.fr j) (vf j).args) (t.H j) (t.r j) (t.H (j + 1)) tch (t.F j) := by
      cases hok : allT (oksOf (vf j) t j) with
      | true => exact ⟨false, ⟨fun h => (by cases h), hsx2 hok⟩⟩
      | false => exact ⟨isCall (vf j).op, ⟨fun h => ⟨h, rfl⟩, hsx1⟩⟩
    rw [hguard] at hw
    rw [hw.1 p1]
    simp only [if_true]
    refine .inl ?_
    -- the blocks that it looks at, or turns, or (if it is a call) any that are new
    have bl : ∀ b, (b ∈ t.T j ∨ b ∈ t.F j ∨ (cl = true ∧ (t.H j).length ≤ b)) → ∀ i, i < n → t.run i = true → b ∈ t.T i → (D i ↔ i < j) := by
      intro b hb i hi hr hbi
      rcases Nat.lt_trichotomy i j with hlt | heq | hgt
      · refine ⟨fun _ => hlt, fun _ => ?_⟩
        rcases hb with hb | hb | ⟨hb1, hb2⟩
        · exact hbef i hlt (hB.blocks i j hlt hj hr hrun ⟨b, .inl ⟨hbi, hb⟩⟩)
        · exact hbef i hlt (hB.blocks i j hlt hj hr hrun ⟨b, .inr (.inl ⟨hbi, hb⟩)⟩)
        · have h1 : i < all.size := by omega
          have h2 := (hst i all[i] hi (by simp [h1])).in_ b hbi
          have h3 := len_le hn hst (i := i + 1) (j := j) (by omega) (by omega)
          omega
      · subst heq; exact ⟨fun hD => absurd hD hnot, fun h => absurd h (Nat.lt_irrefl _)⟩
      · refine ⟨fun hD => absurd (hclosed i hi hD j hgt ?_) hnot, fun h => absurd h (Nat.lt_asymm hgt)⟩
        rcases hb with hb | hb | ⟨hb1, hb2⟩
        · exact hB.blocks j i hgt hi hrun hr ⟨b, .inl ⟨hb, hbi⟩⟩
        · exact hB.blocks j i hgt hi hrun hr ⟨b, .inr (.inr (.inl ⟨hb, hbi⟩))⟩
        · exact hB.blocks j i hgt hi hrun hr ⟨b, .inr (.inr (.inr ⟨hcl hb1, hb2, hbi⟩))⟩
    have hargs : VRels ρ w (evs (t.fr j) (vf j).args) (xs.map a.eval) := by
      rw [← evs_congr (f := fr) (g := t.fr j)]
      · exact args_rel hf ha
      · intro s hs'
        refine hread s ?_
        unfold readsOf
        split
        · exact List.mem_cons_of_mem _ hs'
        · exact hs'
    refine hsx.does ρ w a g hargs (fun b hb => hH b j (by omega) (bl b (.inr (.inl hb)))) (fun b hb => hH b j (by omega) (bl b (.inl (by rw [hT]; exact List.mem_append_left _ hb)))) ?_ hg K Q ?_
    · intro b hb hor
      rw [hH b j (by omega) (bl b ?_), List.getElem?_eq_none hb]
      rcases hor with hc' | hlt
      · exact .inr (.inr ⟨hc', hb⟩)
      · exact .inl (by rw [hT]; exact List.mem_append_right _ ((mem_news _ _ _).2 ⟨hb, hlt⟩))
    · rintro v w' ⟨ρ', h1, h2, h3⟩
      rw [← hT] at h1
      refine hK _ _ ⟨⟨ρ', setD fr (vf j).dst (t.r j), _, h1, ?_, fun m => (hext m).trans (h3 m), after _ rfl, ?_⟩, by rw [put_defers]; exact hds⟩
      · rw [← hs.gd.dst]; exact frel_put (vrels_bound h3 hf) _ h2
      · intro b p hp hwr
        by_cases hb : b ∈ t.T j
        · have hjp : j < p := (hwr j hj hrun hb).1 (.inr rfl)
          rw [show upd g (t.H (j + 1)) (t.T j) b = (t.H (j + 1))[b]? by simp [upd, hb]]
          have mid : ∀ d, j + 1 + d ≤ p → (t.H (j + 1 + d))[b]? = (t.H (j + 1))[b]? := by
            intro d
            induction d with
            | zero => intro _; rfl
            | succ d ih =>
              intro hd'
              have hlt : j + 1 + d < all.size := by omega
              have hst' := hst (j + 1 + d) all[j + 1 + d] (by omega) (by simp [hlt])
              rw [show j + 1 + (d + 1) = (j + 1 + d) + 1 by omega, hst'.keep b ?_]
              · exact ih (by omega)
              · intro hbd
                have hr : t.run (j + 1 + d) = true := by
                  cases hr : t.run (j + 1 + d) with
                  | true => rfl
                  | false => rw [(hst'.passed hr).2.2.1] at hbd; cases hbd
                have hD : D (j + 1 + d) ∨ j + 1 + d = j := (hwr (j + 1 + d) (by omega) hr hbd).2 (by omega)
                rcases hD with hD | hD
                · have := (bl b (.inl hb) (j + 1 + d) (by omega) hr hbd).1 hD
                  omega
                · omega
          have := mid (p - (j + 1)) (by omega)
          rw [show j + 1 + (p - (j + 1)) = p by omega] at this
          exact this.symm
        · rw [show upd g (t.H (j + 1)) (t.T j) b = g b by simp [upd, hb]]
          refine hH b p hp fun i hi hr hbi => ?_
          have := hwr i hi hr hbi
          have hne : i ≠ j := by intro e; subst e; exact hb hbi
          constructor
          · intro hD; exact this.1 (.inl hD)
          · intro hp'
            rcases this.2 hp' with h' | h'
            · exact h'
            · exact absurd h' hne
end

end Go.Vm

namespace Go.Vm

/-- What a piece of code comes to, from a frame and a memory. (W: what 'it comes to Q' means of it.) -/
structure Goes (W : (Exit → Act → World → Prop) → Act → World → Prop) (n0 : Nat) (fr : Fr) (H : Hl) (lg : List Nat) (e : Exit) (fr' : Fr) (H' : Hl) (lg' : List Nat) : Prop where
  grow : n0 ≤ H'.length
  sub : ∀ b, b ∈ lg → b ∈ lg'
  keep : ∀ b, b < n0 → b ∉ lg' → H'[b]? = H[b]?
  does : ∀ (ρ : Rho) (w : World) (a : Act) (Q : Exit → Act → World → Prop), HRel ρ w (fun b => H[b]?) → FRel ρ w fr a.tmps →
    (∀ (a' : Act) (w' : World) (ρ' : Rho), HRel ρ' w' (fun b => H'[b]?) → FRel ρ' w' fr' a'.tmps → a'.defers = a.defers → Ext n0 ρ w ρ' w' → Q e a' w') → W Q a w

theorem Goes.trans {W V X : (Exit → Act → World → Prop) → Act → World → Prop} {n0 : Nat} {fr fr' fr'' : Fr} {H H' H'' : Hl} {lg lg' lg'' : List Nat} {e e' : Exit}
    (h : Goes W n0 fr H lg e fr' H' lg') (k : Goes V n0 fr' H' lg' e' fr'' H'' lg'')
    (hX : ∀ Q a w, W (fun e1 a1 w1 => (e1 = e ∧ V Q a1 w1)) a w → X Q a w) : Goes X n0 fr H lg e' fr'' H'' lg'' where
  grow := k.grow
  sub b hb := k.sub b (h.sub b hb)
  keep b hb hn := (k.keep b hb hn).trans (h.keep b hb fun h' => hn (k.sub b h'))
  does ρ w a Q hg hf hQ := hX Q a w (h.does ρ w a _ hg hf fun a' w' ρ' h1 h2 h3 h4 =>
    ⟨rfl, k.does ρ' w' a' Q h1 h2 fun a'' w'' ρ'' g1 g2 g3 g4 => hQ a'' w'' ρ'' g1 g2 (g3.trans h3) (h4.trans g4)⟩)

theorem Goes.weak {W X : (Exit → Act → World → Prop) → Act → World → Prop} {n0 : Nat} {fr fr' : Fr} {H H' : Hl} {lg lg' : List Nat} {e e' : Exit} (h : Goes W n0 fr H lg e fr' H' lg')
    (hX : ∀ (Q : Exit → Act → World → Prop) a w, W (fun e1 a1 w1 => e1 = e ∧ Q e' a1 w1) a w → X Q a w) : Goes X n0 fr H lg e' fr' H' lg' where
  grow := h.grow
  sub := h.sub
  keep := h.keep
  does ρ w a Q hg hf hQ := hX Q a w (h.does ρ w a _ hg hf fun a' w' ρ' h1 h2 h3 h4 => ⟨rfl, hQ a' w' ρ' h1 h2 h3 h4⟩)

/-! ### Edges -/

theorem fold_bits (on : Edge → Bool) (acc : Array Nat) : ∀ (es : List Edge) (s i : Nat), (es.foldl (fun s e => if on e then s ||| 2 ^ e.on ||| acc.getD e.on 0 else s) s).testBit i = true →
    s.testBit i = true ∨ ∃ e, e ∈ es ∧ on e = true ∧ (i = e.on ∨ (acc.getD e.on 0).testBit i = true)
  | [], s, i, h => .inl h
  | e :: es, s, i, h => by
    simp only [List.foldl_cons] at h
    rcases fold_bits on acc es _ i h with h' | ⟨e', h1, h2, h3⟩
    · split at h'
      · rename_i hon
        rw [Nat.testBit_or, Nat.testBit_or] at h'
        simp only [Bool.or_eq_true] at h'
        rcases h' with (h' | h') | h'
        · exact .inl h'
        · rw [Nat.testBit_two_pow] at h'
          exact .inr ⟨e, by simp, hon, .inl (of_decide_eq_true h').symm⟩
        · exact .inr ⟨e, by simp, hon, .inr h'⟩
      · exact .inl h'
    · exact .inr ⟨e', List.mem_cons_of_mem _ h1, h2, h3⟩

theorem before_spec (ops : Array Oper) (j i : Nat) (h : ((Region.before ops).getD j 0).testBit i = true) :
    ∃ o e, ops[j]? = some o ∧ e ∈ o.after ∧ Region.binds .any e = true ∧ (i = e.on ∨ (e.on < j ∧ ((Region.before ops).getD e.on 0).testBit i = true)) := by
  have key : ∀ (l : List Oper) (d : Nat) (acc : Array Nat), acc.size = d → (∀ k, l[k]? = ops[d + k]?) →
      (∀ j i, (acc.getD j 0).testBit i = true → ∃ o e, ops[j]? = some o ∧ e ∈ o.after ∧ Region.binds .any e = true ∧ (i = e.on ∨ (e.on < j ∧ (acc.getD e.on 0).testBit i = true))) →
      let r := l.foldl (fun acc o => acc.push (o.after.foldl (fun s e => if Region.binds .any e then s ||| 2 ^ e.on ||| acc.getD e.on 0 else s) 0)) acc
      ∀ j i, (r.getD j 0).testBit i = true → ∃ o e, ops[j]? = some o ∧ e ∈ o.after ∧ Region.binds .any e = true ∧ (i = e.on ∨ (e.on < j ∧ (r.getD e.on 0).testBit i = true)) := by
    intro l
    induction l with
    | nil => intro d acc _ _ h; exact h
    | cons o l ih =>
      intro d acc hd hl hacc
      simp only [List.foldl_cons]
      have h0 : ops[d]? = some o := by have := hl 0; simpa using this.symm
      refine ih (d + 1) _ (by simp [hd]) (fun k => by have := hl (k + 1); rw [show d + (k + 1) = d + 1 + k by omega] at this; simpa using this) ?_
      intro j i hji
      rcases Nat.lt_trichotomy j d with hlt | heq | hgt
      · have e1 : ∀ (x : Nat), j < acc.size → (acc.push x).getD j 0 = acc.getD j 0 := by
          intro x hx
          rw [Array.getD_eq_getD_getElem?, Array.getD_eq_getD_getElem?, Array.getElem?_push_lt hx]
          simp [hx]
        rw [e1 _ (by omega)] at hji
        obtain ⟨o', e, a, b, c, f⟩ := hacc j i hji
        refine ⟨o', e, a, b, c, ?_⟩
        rcases f with f | ⟨f, g⟩
        · exact .inl f
        · refine .inr ⟨f, ?_⟩
          have he : e.on < acc.size := by omega
          rw [Array.getD_eq_getD_getElem?, Array.getElem?_push_lt he]
          rw [Array.getD_eq_getD_getElem?] at g
          simpa [he] using g
      · subst heq
        have e1 : ∀ x, (acc.push x).getD j 0 = x := by
          intro x
          rw [Array.getD_eq_getD_getElem?, ← hd, Array.getElem?_push_size]
          rfl
        rw [e1, ← Array.foldl_toList] at hji
        rcases fold_bits (Region.binds .any) acc _ _ i hji with h' | ⟨e, h1, h2, h3⟩
        · simp at h'
        · refine ⟨o, e, h0, by simpa using h1, h2, ?_⟩
          rcases h3 with h3 | h3
          · exact .inl h3
          · have he : e.on < acc.size := by
              rcases Nat.lt_or_ge e.on acc.size with h | h
              · exact h
              · rw [Array.getD_eq_getD_getElem?, Array.getElem?_eq_none h] at h3; simp at h3
            refine .inr ⟨by omega, ?_⟩
            rw [Array.getD_eq_getD_getElem?, Array.getElem?_push_lt he]
            rw [Array.getD_eq_getD_getElem?] at h3
            simpa [he] using h3
      · have e1 : ∀ x, (acc.push x).getD j 0 = 0 := by
          intro x
          rw [Array.getD_eq_getD_getElem?, Array.getElem?_eq_none (by simp; omega)]
          rfl
        rw [e1] at hji
        simp at hji
  have := key ops.toList 0 #[] rfl (fun k => by simp) (fun j i h => by simp at h) j i
  unfold Region.before at h ⊢
  rw [← Array.foldl_toList] at h ⊢
  exact this h

/-- The edges lead back. -/
def edgesOK : Nat → List Oper → Bool
  | _, [] => true
  | j, o :: os => (o.after.all fun e => !(Region.binds .any e) || decide (e.on < j)) && edgesOK (j + 1) os

theorem edgesOK_ok : ∀ {os : List Oper} {j : Nat}, edgesOK j os = true → ∀ k o, os[k]? = some o → ∀ e, e ∈ o.after → Region.binds .any e = true → e.on < j + k
  | [], _, _, k, o, ho, _, _, _ => by simp at ho
  | x :: os, j, h, k, o, ho, e, he, hb => by
    simp only [edgesOK, Bool.and_eq_true] at h
    cases k with
    | zero =>
      simp at ho; subst ho
      have := Array.all_eq_true_iff_forall_mem.1 h.1 e he
      simp [hb] at this
      omega
    | succ k =>
      have := edgesOK_ok h.2 k o (by simpa using ho) e he hb
      omega

/-- The region, as the machine's code. -/
def regOf (P : Program) (ops : Array Oper) (draw : Bool) : VC :=
  match draw with
  | false => .reg false [] (vosOf P ops)
  | true => match (P.follows .mixedOrders || !Region.departs ops) && edgesOK 0 ops.toList && slotsOK (Region.before ops).toList 0 (vosOf P ops) with
    | true => .reg true (Region.before ops).toList (vosOf P ops)
    | false => .reg false [] [badO]

/-! ### Races -/

theorem note_cases (i : Nat) (t f : List Nat) (l : Option (Nat × List Bool)) (rs : List Rec) : (note i t f l rs = rs ∧ t = [] ∧ f = [] ∧ l = none) ∨ note i t f l rs = (i, t, f, l) :: rs := by
  unfold note
  split
  · exact .inl ⟨rfl, rfl, rfl, rfl⟩
  · exact .inr rfl

/-- A call may not be passed by what makes these blocks. -/
def overO (l : Option (Nat × List Bool)) (T : List Nat) : Bool :=
  match l with
  | none => false
  | some (n, oks) => over n T && !(allT oks)

section
variable {R : Type} {A : Alg R} {holds : R → Prop} (good : A.Good holds)
include good
theorem chkAll_out {r : R} : ∀ {l : List Bool}, holds (chkAll A l r) → allT l = true ∧ holds r
  | [], h => ⟨rfl, h⟩
  | b :: bs, h => by
    obtain ⟨h1, h2⟩ := good.chk _ _ h
    obtain ⟨h3, h4⟩ := chkAll_out h2
    subst h1
    exact ⟨h3, h4⟩

theorem raceOne_cons {bef : Nat} {T F : List Nat} {i : Nat} {t f : List Nat} {l : Option (Nat × List Bool)} {rest : List Rec} {r : R} (h : holds (raceOneK A bef T F ((i, t, f, l) :: rest) r)) : holds (raceOneK A bef T F rest r) ∧
    ((meet t T || meet t F || meet f T || overO l T) = true → bef.testBit i = true) := by
  unfold raceOneK at h
  split at h
  · rename_i hc
    split at h
    · rename_i hb; exact ⟨h, fun _ => hb⟩
    · exact (good.fail h).elim
  · rename_i hc
    split at h
    · refine ⟨h, fun h' => ?_⟩
      rw [hc] at h'
      cases h'
    · rename_i n oks
      split at h
      · rename_i ho
        refine ⟨h, fun h' => ?_⟩
        rw [hc] at h'
        simp only [overO, ho, Bool.false_and, Bool.or_false] at h'
        cases h'
      · rename_i ho
        split at h
        · rename_i hb; exact ⟨h, fun _ => hb⟩
        · obtain ⟨h1, h2⟩ := chkAll_out good h
          refine ⟨h2, fun h' => ?_⟩
          rw [hc] at h'
          simp only [overO, h1, Bool.not_true, Bool.and_false, Bool.or_false] at h'
          cases h'

theorem raceOne_ok {vf : Nat → VO} {t : Tr} {bef : Nat} {T F : List Nat} {r : R} : ∀ {n : Nat}, holds (raceOneK A bef T F (recs vf t n) r) → holds r ∧ ∀ i, i < n → t.run i = true →
    (meet (t.T i) T || meet (t.T i) F || meet (t.F i) T || overO (limOf (vf i).op (t.H i).length (oksOf (vf i) t i)) T) = true → bef.testBit i = true
  | 0, h => ⟨h, fun i hi _ _ => by omega⟩
  | n + 1, h => by
    unfold recs at h
    by_cases hn : t.run n = true
    · rw [if_pos hn] at h
      rcases note_cases n (t.T n) (t.F n) (limOf (vf n).op (t.H n).length (oksOf (vf n) t n)) (recs vf t n) with ⟨e, e1, e2, e3⟩ | e
      · rw [e] at h
        obtain ⟨k1, k2⟩ := raceOne_ok h
        refine ⟨k1, fun i hi hr hc => ?_⟩
        by_cases hin : i = n
        · subst hin
          rw [e1, e2, e3] at hc
          cases hc
        · exact k2 i (by omega) hr hc
      · rw [e] at h
        obtain ⟨h1, h2⟩ := raceOne_cons good h
        obtain ⟨k1, k2⟩ := raceOne_ok h1
        refine ⟨k1, fun i hi hr hc => ?_⟩
        by_cases hin : i = n
        · subst hin; exact h2 hc
        · exact k2 i (by omega) hr hc
    · rw [if_neg hn] at h
      obtain ⟨k1, k2⟩ := raceOne_ok h
      refine ⟨k1, fun i hi hr hc => ?_⟩
      by_cases hin : i = n
      · subst hin; exact absurd hr hn
      · exact k2 i (by omega) hr hc

omit good in
theorem clash_iff (vf : Nat → VO) (t : Tr) (T F : List Nat) (i : Nat) : (∃ b, (b ∈ t.T i ∧ b ∈ T) ∨ (b ∈ t.T i ∧ b ∈ F) ∨ (b ∈ t.F i ∧ b ∈ T) ∨ ((isCall (vf i).op = true ∧ allT (oksOf (vf i) t i) = false) ∧ (t.H i).length ≤ b ∧ b ∈ T)) →
    (meet (t.T i) T || meet (t.T i) F || meet (t.F i) T || overO (limOf (vf i).op (t.H i).length (oksOf (vf i) t i)) T) = true := by
  rintro ⟨b, hb⟩
  simp only [Bool.or_eq_true, meet_iff, or_assoc]
  rcases hb with hb | hb | hb | ⟨⟨h1, h4⟩, h2, h3⟩
  · exact .inl ⟨b, hb⟩
  · exact .inr (.inl ⟨b, hb⟩)
  · exact .inr (.inr (.inl ⟨b, hb⟩))
  · refine .inr (.inr (.inr ?_))
    simp only [limOf, h1, overO, h4, Bool.not_false, Bool.and_true, over_iff]
    exact ⟨b, h3, h2⟩

theorem races_ok {vf : Nat → VO} {t : Tr} {bef : List Nat} {r : R} : ∀ {n : Nat}, holds (racesK A bef (recs vf t n) r) → holds r ∧ ∀ i j, i < j → j < n → t.run i = true → t.run j = true →
    (∃ b, (b ∈ t.T i ∧ b ∈ t.T j) ∨ (b ∈ t.T i ∧ b ∈ t.F j) ∨ (b ∈ t.F i ∧ b ∈ t.T j) ∨ ((isCall (vf i).op = true ∧ allT (oksOf (vf i) t i) = false) ∧ (t.H i).length ≤ b ∧ b ∈ t.T j)) → (slotN bef j).testBit i = true
  | 0, h => ⟨h, fun i j _ hj _ _ _ => by omega⟩
  | n + 1, h => by
    unfold recs at h
    by_cases hn : t.run n = true
    · rw [if_pos hn] at h
      rcases note_cases n (t.T n) (t.F n) (limOf (vf n).op (t.H n).length (oksOf (vf n) t n)) (recs vf t n) with ⟨e, e1, e2, e3⟩ | e
      · rw [e] at h
        obtain ⟨k1, k2⟩ := races_ok h
        refine ⟨k1, fun i j hij hj hri hrj hc => ?_⟩
        by_cases hjn : j = n
        · subst hjn
          obtain ⟨b, hb⟩ := hc
          rw [e1, e2] at hb
          simp at hb
        · exact k2 i j hij (by omega) hri hrj hc
      · rw [e] at h
        unfold racesK at h
        obtain ⟨h1, h2⟩ := raceOne_ok good h
        obtain ⟨k1, k2⟩ := races_ok h1
        refine ⟨k1, fun i j hij hj hri hrj hc => ?_⟩
        by_cases hjn : j = n
        · subst hjn
          exact h2 i hij hri (clash_iff vf t _ _ i hc)
        · exact k2 i j hij (by omega) hri hrj hc
    · rw [if_neg hn] at h
      obtain ⟨k1, k2⟩ := races_ok h
      refine ⟨k1, fun i j hij hj hri hrj hc => ?_⟩
      by_cases hjn : j = n
      · subst hjn; exact absurd hrj hn
      · exact k2 i j hij (by omega) hri hrj hc
end

/-! ### Orders -/

/-- How many are not listed yet. -/
def cnt (p : Nat → Bool) : Nat → Nat
  | 0 => 0
  | n + 1 => cnt p n + (if p n then 1 else 0)
theorem cnt_congr {p q : Nat → Bool} {n : Nat} (h : ∀ i, i < n → p i = q i) : cnt p n = cnt q n := by
  induction n with
  | zero => rfl
  | succ n ih => simp only [cnt, ih (fun i hi => h i (by omega)), h n (by omega)]
theorem cnt_less {p q : Nat → Bool} {n i : Nat} (hi : i < n) (hp : p i = true) (hq : q i = false) (h : ∀ j, j ≠ i → p j = q j) : cnt p n = cnt q n + 1 := by
  induction n with
  | zero => omega
  | succ n ih =>
    by_cases hin : i = n
    · subst hin
      simp only [cnt, hp, hq, if_true, Bool.false_eq_true, if_false]
      rw [cnt_congr (p := p) (q := q) (fun j hj => h j (by omega))]
    · simp only [cnt, ih (by omega), h n (by omega)]
      omega
theorem cnt_zero {p : Nat → Bool} {n : Nat} (h : cnt p n = 0) : ∀ i, i < n → p i = false := by
  induction n with
  | zero => intro i hi; omega
  | succ n ih =>
    simp only [cnt] at h
    intro i hi
    by_cases hin : i = n
    · subst hin
      cases hp : p i
      · rfl
      · simp [hp] at h
    · exact ih (by omega) i (by omega)
theorem cnt_all (n : Nat) : cnt (fun _ => true) n = n := by
  induction n with
  | zero => rfl
  | succ n ih => simp [cnt, ih]

section
variable {P : Program} {all : Array Oper} {vf : Nat → VO} {t : Tr} {n : Nat} {ρ0 : Rho} {w0 : World} {ds : List Deferred} {Q : Exit → Act → World → Prop}
  (hn : n = all.size) (hst : ∀ j o, j < n → all[j]? = some o → StepAt P all o (vf j) t j)
include hn hst

omit hn hst in
theorem inv_mono {D D' : Nat → Prop} (h : ∀ i, i < n → (D i ↔ D' i)) {a : Act} {w : World} (hi : Inv n vf t ρ0 w0 ds D a w) : Inv n vf t ρ0 w0 ds D' a w := by
  obtain ⟨⟨ρ, fr, g, h1, h2, h3, h4, h5⟩, h6⟩ := hi
  exact ⟨⟨ρ, fr, g, h1, h2, h3, fun s p hp hw => h4 s p hp fun j hj hd => (h j hj).trans (hw j hj hd), fun b p hp hw => h5 b p hp fun j hj hr hb => (h j hj).trans (hw j hj hr hb)⟩, h6⟩

/-- In the text's order. -/
theorem ops_text (hB : Settled n vf t fun i j => i < j) (hQ : ∀ a w, Inv n vf t ρ0 w0 ds (fun _ => True) a w → Q .normal a w) :
    ∀ (d p : Nat) (a : Act) (w : World), p + d = n → Inv n vf t ρ0 w0 ds (fun i => i < p) a w → wpOps P all Q (List.range' p d) a w
  | 0, p, a, w, hp, h => hQ a w (inv_mono (fun i hi => ⟨fun _ => trivial, fun _ => by omega⟩) h)
  | d + 1, p, a, w, hp, h => by
    rw [List.range'_succ, wpOps_cons]
    refine inv_step hn hst hB (D := fun i => i < p) (j := p) (by omega) (Nat.lt_irrefl _) (fun i hi _ => hi) (fun i _ hi k hk _ => Nat.lt_trans hk hi) h fun a' w' h' => ?_
    exact ops_text hB hQ d (p + 1) a' w' (by omega) (inv_mono (fun i _ => by constructor <;> intro h <;> omega) h')

/-- In any order that the edges let. -/
theorem ops_any {bef : List Nat} (hbef : bef = (Region.before all).toList) (he : ∀ j o, all[j]? = some o → ∀ e, e ∈ o.after → Region.binds .any e = true → e.on < j) (hB : Settled n vf t fun i j => (slotN bef j).testBit i = true)
    (hQ : ∀ a w, Inv n vf t ρ0 w0 ds (fun _ => True) a w → Q .normal a w) :
    ∀ (fuel : Nat) (listed : Array Bool) (a : Act) (w : World), listed.size = n → cnt (fun i => !listed.getD i true) n = fuel →
      (∀ j o, all[j]? = some o → listed.getD j false = true → ∀ e, e ∈ o.after → Region.binds .any e = true → listed.getD e.on false = true) →
      Inv n vf t ρ0 w0 ds (fun i => listed.getD i false = true) a w → wpAny P .any all Q fuel listed a w := by
  have hbits : ∀ (listed : Array Bool), (∀ j o, all[j]? = some o → listed.getD j false = true → ∀ e, e ∈ o.after → Region.binds .any e = true → listed.getD e.on false = true) →
      ∀ (j : Nat) (o : Oper), all[j]? = some o → (∀ e, e ∈ o.after → Region.binds .any e = true → listed.getD e.on false = true) → ∀ i, (slotN bef j).testBit i = true → listed.getD i false = true := by
    intro listed hcl j
    induction j using Nat.strongRecOn with
    | _ j ih =>
      intro o ho hall i hi
      have : ((Region.before all).getD j 0).testBit i = true := by
        rw [slotN_eq, hbef] at hi
        rw [Array.getD_eq_getD_getElem?]
        simpa using hi
      obtain ⟨o', e, h1, h2, h3, h4⟩ := before_spec all j i this
      rw [ho] at h1; cases h1
      have hl := hall e h2 h3
      rcases h4 with h4 | ⟨h4, h5⟩
      · rw [h4]; exact hl
      · have hes : e.on < all.size := by
          have := (Array.getElem?_eq_some_iff.1 ho).1
          omega
        refine ih e.on h4 all[e.on] (by simp [hes]) (hcl e.on all[e.on] (by simp [hes]) hl) i ?_
        rw [slotN_eq, hbef]
        rw [Array.getD_eq_getD_getElem?] at h5
        simpa using h5
  have hf : ∀ (listed : Array Bool) (j : Nat), listed.size = n → j < n → listed.getD j false = listed.getD j true := by
    intro listed j hs hj
    rw [Array.getD_eq_getD_getElem?, Array.getD_eq_getD_getElem?]
    have : j < listed.size := by omega
    simp [this]
  -- nothing ready: all are listed
  have hdone : ∀ (listed : Array Bool), listed.size = n → Region.ready .any all listed = [] → ∀ j, j < n → listed.getD j false = true := by
    intro listed hs hr j
    induction j using Nat.strongRecOn with
    | _ j ih =>
      intro hj
      cases hc : listed.getD j false with
      | true => rfl
      | false =>
        have hjs : j < all.size := by omega
        have : j ∈ Region.ready .any all listed := by
          refine mem_ready.2 ⟨by rw [← hf listed j hs hj]; exact hc, all[j], by simp [hjs], fun e h1 h2 => ?_⟩
          have := he j all[j] (by simp [hjs]) e h1 h2
          exact ih e.on this (by omega)
        rw [hr] at this; cases this
  intro fuel
  induction fuel with
  | zero =>
    intro listed a w hs hc hcl hi
    have hall : ∀ j, j < n → listed.getD j false = true := fun j hj => by
      have := cnt_zero hc j hj
      rw [hf listed j hs hj]
      simpa using this
    refine ⟨?_, hQ a w (inv_mono (fun j hj => ⟨fun _ => trivial, fun _ => hall j hj⟩) hi)⟩
    apply List.eq_nil_iff_forall_not_mem.2
    intro j hj
    obtain ⟨h1, o, ho, _⟩ := mem_ready.1 hj
    have hjn : j < n := by
      have := (Array.getElem?_eq_some_iff.1 ho).1
      omega
    have := hall j hjn
    rw [hf listed j hs hjn] at this
    rw [h1] at this; cases this
  | succ fuel ih =>
    intro listed a w hs hc hcl hi
    refine ⟨fun hr => hQ a w (inv_mono (fun j hj => ⟨fun _ => trivial, fun _ => hdone listed hs hr j hj⟩) hi), fun j hj => ?_⟩
    obtain ⟨h1, o, ho, hall⟩ := mem_ready.1 hj
    have hjn : j < n := by
      have := (Array.getElem?_eq_some_iff.1 ho).1
      omega
    have hjl : listed.getD j false = false := by rw [hf listed j hs hjn]; exact h1
    refine inv_step hn hst hB (j := j) hjn (by rw [hjl]; simp) (fun i _ hb => hbits listed hcl j o ho hall i hb) ?_ hi fun a' w' h' => ?_
    · intro i hin hil k _ hb
      have his : i < all.size := by omega
      exact hbits listed hcl i all[i] (by simp [his]) (hcl i all[i] (by simp [his]) hil) k hb
    · have hset : ∀ i d, i < n → (listed.setIfInBounds j true).getD i d = if i = j then true else listed.getD i d := by
        intro i d hi'
        have : j < listed.size := by omega
        by_cases h : i = j
        · subst h
          simp [this]
        · rw [if_neg h]
          exact getD_set_ne d (fun e => h e.symm)
      refine ih _ a' w' (by simp [hs]) ?_ ?_ ?_
      · have := cnt_less (p := fun i => !listed.getD i true) (q := fun i => !(listed.setIfInBounds j true).getD i true) hjn (by simp [← hf listed j hs hjn, hjl]) (by simp [hset j true hjn]) (fun i hi' => by
          simp only [getD_set_ne true (fun e => hi' e.symm)])
        omega
      · intro i o' ho' hil e h2 h3
        have hin : i < n := by
          have := (Array.getElem?_eq_some_iff.1 ho').1
          omega
        refine getD_set_true ?_
        rw [hset i false hin] at hil
        split at hil
        · rename_i e'; subst e'
          rw [ho] at ho'; cases ho'
          exact hall e h2 h3
        · exact hcl i o' ho' hil e h2 h3
      · refine inv_mono (fun i hi' => ?_) h'
        rw [hset i false hi']
        by_cases h : i = j
        · subst h; simp
        · simp [h]
end

end Go.Vm

namespace Go.Vm

/-- The machine's code of a piece of Go code. -/
def compile (P : Program) : Code → VC
  | .skip => .skip
  | .ret => .ret
  | .exit id => .exit id
  | .region _ ops draw => regOf P ops draw
  | .seq a b => .seq (compile P a) (compile P b)
  | .cond c a b => match argOf c with
    | some x => .cond x (compile P a) (compile P b)
    | none => .reg false [] [badO]
  | .block id b => .block id (compile P b)
  | .loop b => .loop (compile P b)
  | _ => .reg false [] [badO]

def exitOf : Ex → Exit
  | .norm => .normal
  | .ret => .ret
  | .exit id => .exit id

/-- A loop, from its body's start on. -/
def LoopWp (P : Program) (c : Code) (Q : Exit → Act → World → Prop) (a : Act) (w : World) : Prop :=
  ∀ (b : Frame) (k : List Item) (cs : List Frame), ∃ e a' w', Q e a' w' ∧ Arrives P (lone (b.at a (.code c :: .inLoop c :: k)) cs w) b k cs e a' w'

theorem LoopWp.wp {P : Program} {c : Code} {Q : Exit → Act → World → Prop} {a : Act} {w : World} (h : LoopWp P c Q a w) : (Code.loop c).wp P Q a w := fun b k cs =>
  let ⟨e, a', w', hq, harr⟩ := h b k cs
  ⟨e, a', w', hq, .of_steps (.one step_loop) harr⟩

theorem LoopWp.step {P : Program} {c : Code} {Q : Exit → Act → World → Prop} {a : Act} {w : World} (h : c.wp P (Exit.then (LoopWp P c Q) Q) a w) : LoopWp P c Q a w := by
  intro b k cs
  obtain ⟨e, a₁, w₁, hq, harr⟩ := h b (.inLoop c :: k) cs
  cases e with
  | normal =>
    obtain ⟨e₂, a₂, w₂, hq₂, harr₂⟩ := hq b k cs
    exact ⟨e₂, a₂, w₂, hq₂, .of_steps (Steps.trans harr (.one step_inLoop)) harr₂⟩
  | exit id => exact ⟨_, a₁, w₁, hq, .pass (x := .inLoop c) rfl (fun _ _ => .inl (by simp)) harr⟩
  | goto l => exact ⟨_, a₁, w₁, hq, .pass (x := .inLoop c) rfl (fun _ _ => .inl (by simp)) harr⟩
  | ret => exact ⟨_, a₁, w₁, hq, .pass (x := .inLoop c) rfl (fun _ _ => .inl (by simp)) harr⟩
  | panic ch => exact ⟨_, a₁, w₁, hq, .pass (x := .inLoop c) rfl (fun _ _ => .inl (by simp)) harr⟩
  | outgrown => exact ⟨_, a₁, w₁, hq, .pass (x := .inLoop c) rfl (fun _ _ => .inl (by simp)) harr⟩

/-- What a loop comes to. -/
def LoopTo (P : Program) (n0 : Nat) (b : VC) (fr : Fr) (H : Hl) (lg : List Nat) (ex : Ex) (fr' : Fr) (H' : Hl) (lg' : List Nat) : Prop :=
  ∀ c, compile P c = b → Goes (LoopWp P c) n0 fr H lg (exitOf ex) fr' H' lg'

/-- The algebra's words for calls and loops are good. -/
structure Alg.Fine {R : Type} (A : Alg R) (P : Program) (holds : R → Prop) : Prop extends A.Good holds where
  call : CallOK P holds A.call
  loop : ∀ n0 b fr H lg k u, n0 ≤ H.length → holds (A.loop n0 b fr H lg k u) → holds (u ()) ∨ ∃ ex fr' H' lg', LoopTo P n0 b fr H lg ex fr' H' lg' ∧ holds (k ex fr' H' lg')

theorem inv_end {n : Nat} {vf : Nat → VO} {t : Tr} {ρ0 : Rho} {w0 : World} {ds : List Deferred} {a : Act} {w : World} (h : Inv n vf t ρ0 w0 ds (fun _ => True) a w) :
    ∃ ρ, HRel ρ w (fun b => (t.H n)[b]?) ∧ FRel ρ w (t.fr n) a.tmps ∧ (∀ m, Ext m ρ0 w0 ρ w) ∧ a.defers = ds := by
  obtain ⟨⟨ρ, fr, g, h1, h2, h3, h4, h5⟩, h6⟩ := h
  have e1 : fr = t.fr n := List.ext_getElem? fun s => h4 s n (Nat.le_refl _) fun j hj _ => ⟨fun _ => hj, fun _ => trivial⟩
  have e2 : g = fun b => (t.H n)[b]? := funext fun b => h5 b n (Nat.le_refl _) fun j hj _ _ => ⟨fun _ => hj, fun _ => trivial⟩
  subst e1; subst e2
  exact ⟨ρ, h1, h2, h3, h6⟩

section
variable {R : Type} {A : Alg R} {holds : R → Prop} {P : Program} {cf : CallF R} (good : A.Good holds) (hcf : CallOK P holds cf)
include good

theorem bad_region {i : Nat} {fr : Fr} {H : Hl} {lg : List Nat} {rs : List Rec} {k : Fr → Hl → List Nat → List Rec → R} (h : holds (vops A ops0 cf i [badO] fr H lg rs k)) : False := good.fail h

include hcf
theorem region_sound {id : Nat} {all : Array Oper} {draw : Bool} {n0 : Nat} {fr : Fr} {H : Hl} {lg : List Nat} {k : Fr → Hl → List Nat → R} (hn0 : n0 ≤ H.length)
    (h : ∀ d bef vs, regOf P all draw = .reg d bef vs → holds (vops A ops0 cf 0 vs fr H lg [] fun fr H lg rs => match d with
      | false => k fr H lg
      | true => racesK A bef rs (k fr H lg))) :
    ∃ fr' H' lg', Goes ((Code.region id all draw).wp P) n0 fr H lg .normal fr' H' lg' ∧ holds (k fr' H' lg') := by
  let vf : Nat → VO := fun j => (vosOf P all).getD j badO
  have hvf : ∀ j o, all[j]? = some o → vf j = voOf P all o := by
    intro j o ho
    simp [vf, vosOf, List.getD_eq_getElem?_getD, ho]
  let t0 : Tr := ⟨fun _ => fr, fun _ => H, fun _ => .top, fun _ => [], fun _ => [], fun _ => false⟩
  have main : ∀ (k' : Fr → Hl → List Nat → List Rec → R), holds (vops A ops0 cf 0 (vosOf P all) fr H lg [] k') → ∃ t lg', t.fr 0 = fr ∧ t.H 0 = H ∧ (∀ j o, j < all.size → all[j]? = some o → StepAt P all o (vf j) t j) ∧
      (∀ b, b ∈ lg → b ∈ lg') ∧ (∀ b, b < H.length → b ∉ lg' → (t.H all.size)[b]? = H[b]?) ∧ H.length ≤ (t.H all.size).length ∧ holds (k' (t.fr all.size) (t.H all.size) lg' (recs vf t all.size)) := by
    intro k' hk'
    have := vops_sound good hcf all vf hvf H lg all.toList 0 t0 lg (fun j => by simp) (fun j o hj => by omega) (fun b hb => hb) (fun b _ _ => rfl) (Nat.le_refl _) hk'
    simpa using this
  have start : ∀ (t : Tr) (ρ : Rho) (w w1 : World) (a : Act) (D : Nat → Prop), t.fr 0 = fr → t.H 0 = H → (∀ j o, j < all.size → all[j]? = some o → StepAt P all o (vf j) t j) → (∀ j, j < all.size → ¬ D j) →
      HRel ρ w1 (fun b => H[b]?) → FRel ρ w1 fr a.tmps → (∀ m, Ext m ρ w ρ w1) → Inv all.size vf t ρ w a.defers D a w1 := by
    intro t ρ w w1 a D h1 h2 hst hD hg hf hE
    refine ⟨⟨ρ, fr, _, hg, hf, hE, fun s p hp hw => ?_, fun b p hp hw => ?_⟩, rfl⟩
    · -- nobody ahead of p writes it
      have mid : ∀ d, d ≤ p → (t.fr d)[s]? = fr[s]? := by
        intro d
        induction d with
        | zero => intro _; rw [h1]
        | succ d ih =>
          intro hd
          have hlt : d < all.size := by omega
          have hst' := hst d all[d] hlt (by simp [hlt])
          rw [hst'.fr]
          have hne : (vf d).dst ≠ some s := fun e => hD d hlt ((hw d hlt e).2 (by omega))
          cases hdd : (vf d).dst with
          | none => exact ih (by omega)
          | some d2 =>
            simp only [setD, put_eq]
            rw [set_get, if_neg (by intro e; subst e; exact hne hdd)]
            exact ih (by omega)
      exact (mid p (Nat.le_refl _)).symm
    · have mid : ∀ d, d ≤ p → (t.H d)[b]? = H[b]? := by
        intro d
        induction d with
        | zero => intro _; rw [h2]
        | succ d ih =>
          intro hd
          have hlt : d < all.size := by omega
          have hst' := hst d all[d] hlt (by simp [hlt])
          rw [hst'.keep b ?_]
          · exact ih (by omega)
          · intro hb
            have hr : t.run d = true := by
              cases hr : t.run d with
              | true => rfl
              | false => rw [(hst'.passed hr).2.2.1] at hb; cases hb
            exact hD d hlt ((hw d hlt hr hb).2 (by omega))
      exact (mid p (Nat.le_refl _)).symm
  cases draw with
  | false =>
    have h := h false [] (vosOf P all) rfl
    obtain ⟨t, lg', t1, t2, hst, s1, s2, s3, h⟩ := main _ h
    refine ⟨t.fr all.size, t.H all.size, lg', ⟨Nat.le_trans hn0 s3, s1, fun b hb hn => s2 b (by omega) hn, ?_⟩, h⟩
    intro ρ w a Q hg hf hQ
    apply wp_region
    rw [List.range_eq_range']
    refine ops_text (vf := vf) (t := t) (ρ0 := ρ) (w0 := w) (ds := a.defers) rfl hst ⟨fun i j hij _ _ => hij, fun i j hij _ _ _ _ => hij⟩ ?_ all.size 0 a w (by omega) ?_
    · intro a' w' hi
      obtain ⟨ρ', g1, g2, g3, g4⟩ := inv_end hi
      exact hQ a' w' ρ' g1 g2 g4 (g3 n0)
    · exact start t ρ w w a _ t1 t2 hst (fun j _ => by omega) hg hf (fun m => Ext.refl m ρ w)
  | true =>
    unfold regOf at h
    simp only at h
    split at h
    · rename_i hok
      simp only [Bool.and_eq_true] at hok
      have h := h true _ _ rfl
      obtain ⟨t, lg', t1, t2, hst, s1, s2, s3, h⟩ := main _ h
      obtain ⟨h, hr⟩ := races_ok good h
      refine ⟨t.fr all.size, t.H all.size, lg', ⟨Nat.le_trans hn0 s3, s1, fun b hb hn => s2 b (by omega) hn, ?_⟩, h⟩
      intro ρ w a Q hg hf hQ
      apply wp_region_draw
      intro tp
      have hsch : Region.schedule (P.follows .mixedOrders) all tp = Region.linearise .any all tp := by
        unfold Region.schedule
        rw [if_pos hok.1.1]
      rw [hsch]
      unfold Region.linearise
      have hv : ∀ j, j < all.size → (vosOf P all)[j]? = some (vf j) := by
        intro j hj
        simp [vf, vosOf, List.getD_eq_getElem?_getD, hj]
      refine wpAny_sound all.size tp _ a _ ?_
      refine ops_any (vf := vf) (t := t) (ρ0 := ρ) (w0 := w) (ds := a.defers) rfl hst rfl (fun j o ho e h1 h2 => by
          have := edgesOK_ok hok.1.2 j o (by simpa using ho) e h1 h2
          omega) ⟨fun i j hij hj hc => ?_, fun i j hij hj hri hrj hc => hr i j hij hj hri hrj hc⟩ ?_ all.size _ a _ (by simp) ?_ ?_ ?_
      · have := slotsOK_ok hok.2 i j _ _ (hv i (by omega)) (hv j hj) hij hc
        simpa using this
      · intro a' w' hi
        obtain ⟨ρ', g1, g2, g3, g4⟩ := inv_end hi
        exact hQ a' w' ρ' g1 g2 g4 (g3 n0)
      · rw [cnt_congr (q := fun _ => true) (fun i hi => by simp [hi])]
        exact cnt_all _
      · intro j o _ hl
        exfalso
        rw [Array.getD_eq_getD_getElem?] at hl
        rcases Nat.lt_or_ge j all.size with h' | h'
        · simp [h'] at hl
        · rw [Array.getElem?_eq_none (by simpa using h')] at hl; cases hl
      · refine start t ρ w _ a _ t1 t2 hst ?_ (hg.drew _) (vrels_bound (drew_ext ρ w _) hf) (drew_ext ρ w _)
        intro j hj
        rw [Array.getD_eq_getD_getElem?]
        simp [hj]
    · have h := h false [] [badO] rfl
      exact (bad_region good h).elim
end

end Go.Vm

namespace Go.Vm

def resOf (P : Program) : List ResultVar → Option (List RV)
  | [] => some []
  | .tmp t :: rs => match resOf P rs with
    | some xs => some (.tmp t :: xs)
    | none => none
  | .cell a ty :: rs => match resOf P rs, P.underlying ty, P.info? ty with
    | some xs, some d, some i => match isAggD d with
      | true => some (.cell a i.size :: xs)
      | false => some (.cell1 a (kdOf d) :: xs)
    | _, _, _ => none

/-- vf is the function f, as the machine sees it. -/
structure FnOK (P : Program) (f : Nat) (vf : VF) : Prop where
  ex : ∃ fn c, P.funcs[f]? = some fn ∧ fn.body = some c ∧ (fn.name == "runtime.NumGoroutine") = false ∧ compile P c = vf.body ∧ fn.ntmps = vf.ntmps ∧ resOf P fn.results.toList = some vf.results

theorem FnOK.real {P : Program} {f : Nat} {vf : VF} (h : FnOK P f vf) (args : Array Value) (w : World) : (callFunc f args).run P w = .ok (.enter f args) w := by
  obtain ⟨fn, c, h1, h2, h3, _⟩ := h.ex
  have h3 : fn.name ≠ "runtime.NumGoroutine" := by simpa using h3
  simp [callFunc, h1, h2, h3]

/-- What a result is read off. -/
def resVar (tmps : Array Value) : ResultVar → Sem Value
  | .tmp t => pure (tmps.getD t undef)
  | .cell a t => do loadVar t (← asAddr (tmps.getD a undef))

section
variable {R : Type} {A : Alg R} {holds : R → Prop} {P : Program} (good : A.Good holds)
include good

theorem results_sound {fr : Fr} {H : Hl} : ∀ {rvs : List ResultVar} {rv : List RV} {k : List AV → R}, resOf P rvs = some rv → holds (results A ops0 rv fr H k) →
    ∃ vs, holds (k vs) ∧ ∀ (ρ : Rho) (w : World) (tmps : Array Value), HRel ρ w (fun b => H[b]?) → FRel ρ w fr tmps →
      ∃ us : List Value, (rvs.mapM (resVar tmps)).run P w = .ok us w ∧ VRels ρ w vs us
  | [], rv, k, hr, h => by
    cases hr
    exact ⟨[], h, fun ρ w tmps _ _ => ⟨[], by simp, .nil⟩⟩
  | .tmp t :: rs, rv, k, hr, h => by
    simp only [resOf] at hr
    split at hr <;> first | cases hr | skip
    rename_i xs hx
    obtain ⟨vs, h, hv⟩ := results_sound hx (show holds (results A ops0 xs fr H fun vs => k (slot fr t :: vs)) from h)
    refine ⟨_, h, fun ρ w tmps hg hf => ?_⟩
    obtain ⟨us, h1, h2⟩ := hv ρ w tmps hg hf
    exact ⟨_, by simp only [List.mapM_cons, resVar, Sem.run_bind, Sem.run_pure, Result.andThen_ok, h1], .cons (slot_rel hf t) h2⟩
  | .cell t ty :: rs, rv, k, hr, h => by
    simp only [resOf] at hr
    split at hr <;> first | cases hr | skip
    rename_i xs d i hx hd hi
    split at hr <;> cases hr
    · rename_i ha
      unfold results at h
      split at h
      · rename_i b o hs
        obtain ⟨cs, hb, h⟩ := blkK_sound good h
        obtain ⟨hle, h⟩ := good.chk _ _ h
        have hle : o + i.size ≤ cs.length := by simpa [ops0] using hle
        obtain ⟨vs, h, hv⟩ := results_sound hx h
        refine ⟨_, h, fun ρ w tmps hg hf => ?_⟩
        obtain ⟨us, h1, h2⟩ := hv ρ w tmps hg hf
        have hp := slot_rel hf t
        rw [hs] at hp
        obtain ⟨B, F, c, e, lo, hi', hl, hve, hc, hsz, hfz, hli⟩ := ptr_live hg hb hp
        obtain ⟨ws, hwl, hwc, hwl2, hwo⟩ := (Lies.sub hli o i.size).values
        have hlen : ((cs.drop o).take i.size).length = i.size := by simp; omega
        have hrun := run_ldn hd ha hi (B := B) (X := F + o) (w := w) (vs := ws) (by omega) (fun j v hv => by rw [cell_at hc]; exact hwc j v hv)
        refine ⟨.agg ws.toArray :: us, ?_, .cons (agg_of_lies hwl hwl2) h2⟩
        simp only [List.mapM_cons, resVar, Sem.run_bind, hve, asAddr, Sem.run_pure, Result.andThen_ok, hrun, h1]
      · exact (good.fail h).elim
    · rename_i ha
      unfold results at h
      split at h
      · rename_i b o hs
        obtain ⟨cs, hb, h⟩ := blkK_sound good h
        obtain ⟨x, hx', h⟩ := good.get _ _ _ _ h
        obtain ⟨vs, h, hv⟩ := results_sound hx h
        refine ⟨_, h, fun ρ w tmps hg hf => ?_⟩
        obtain ⟨us, h1, h2⟩ := hv ρ w tmps hg hf
        have hp := slot_rel hf t
        rw [hs] at hp
        obtain ⟨B, F, c, e, lo, hi', hl, hve, hc, hsz, hfz, hli⟩ := ptr_live hg hb hp
        obtain ⟨v, hvc, _, hvr⟩ := hli o x hx'
        have hrun := run_ld1 hd ha ⟨B, F + o, none⟩ w (v := v) (by rw [cell_at hc]; exact hvc)
        refine ⟨v :: us, ?_, .cons hvr h2⟩
        simp only [List.mapM_cons, resVar, Sem.run_bind, hve, asAddr, Sem.run_pure, Result.andThen_ok, hrun, h1]
      · exact (good.fail h).elim

omit good in
theorem pack_rel {ρ : Rho} {w : World} {vs : List AV} {us : List Value} (h : VRels ρ w vs us) : VRel ρ w (pack vs) (if h : us.toArray.size = 1 then us.toArray[0] else .tuple us.toArray) := by
  have hl := h.len
  rcases vs with _ | ⟨x, _ | ⟨y, vs⟩⟩
  · have : us = [] := List.eq_nil_of_length_eq_zero (by simpa using hl)
    subst this
    exact .tup [] [] rfl (fun i a v ha _ => by simp at ha)
  · rcases us with _ | ⟨u, _ | ⟨v, us⟩⟩
    · simp at hl
    · exact h.one
    · simp at hl
  · rcases us with _ | ⟨u, _ | ⟨v, us⟩⟩
    · simp at hl
    · simp at hl
    · exact .tup _ _ h.len h.at_

theorem fn_results {fn : Func} {rv : List RV} {fr : Fr} {H : Hl} {k : List AV → R} (hr : resOf P fn.results.toList = some rv) (h : holds (results A ops0 rv fr H k)) :
    ∃ vs, holds (k vs) ∧ ∀ (ρ : Rho) (w : World) (tmps : Array Value), HRel ρ w (fun b => H[b]?) → FRel ρ w fr tmps → ∃ v, (Go.results fn tmps).run P w = .ok v w ∧ VRel ρ w (pack vs) v := by
  obtain ⟨vs, h, hv⟩ := results_sound good hr h
  refine ⟨vs, h, fun ρ w tmps hg hf => ?_⟩
  obtain ⟨us, h1, h2⟩ := hv ρ w tmps hg hf
  refine ⟨_, ?_, pack_rel h2⟩
  have hm : (fn.results.mapM (resVar tmps)).run P w = .ok us.toArray w := by
    rw [Array.mapM_eq_mapM_toList, Sem.run_map, h1]
    rfl
  show ((fn.results.mapM (resVar tmps) >>= fun vs => pure (if h : vs.size = 1 then vs[0] else .tuple vs)) : Sem Value).run P w = _
  rw [Sem.run_bind, hm]
  rfl
end

theorem pad_eq (n : Nat) : pad n = List.replicate n (.tup []) := by
  induction n with
  | zero => rfl
  | succ n ih => simp [pad, ih, List.replicate_succ]

/-- The frame of a call. -/
theorem frame0 {ρ : Rho} {w : World} {vals : List AV} {us : List Value} (h : VRels ρ w vals us) (n : Nat) :
    FRel ρ w (join vals (pad (n - size vals))) (us.toArray ++ Array.replicate (n - us.toArray.size) undef) := by
  have hl := h.len
  rw [join_eq, pad_eq, size_eq]
  have : (us.toArray ++ Array.replicate (n - us.toArray.size) undef).toList = us ++ List.replicate (n - vals.length) undef := by
    simp [hl]
  unfold FRel
  rw [this]
  refine h.append ⟨by simp, fun i a v ha hv => ?_⟩
  rw [List.getElem?_replicate] at ha hv
  split at ha
  · rename_i hi
    rw [if_pos hi] at hv
    cases ha; cases hv
    exact undef_rel ρ w
  · cases ha

section
variable {R : Type} {A : Alg R} {holds : R → Prop} {P : Program} (fine : A.Fine P holds) {T : Nat → Option VF} (hT : ∀ f vf, T f = some vf → FnOK P f vf)
include fine

/-- A function's body, gone through, is a call. -/
theorem call_of_body {f : Nat} {vf : VF} (hfn : FnOK P f vf) {vals : List AV} {H : Hl} {k : AV → Hl → List Nat → R} {n : Nat}
    (ih : ∀ c n0 fr H lg (k : Ex → Fr → Hl → List Nat → R), n0 ≤ H.length → holds (vm A ops0 T n n0 (compile P c) fr H lg k) → ∃ ex fr' H' lg', Goes (c.wp P) n0 fr H lg (exitOf ex) fr' H' lg' ∧ holds (k ex fr' H' lg'))
    (h : holds (vcall A ops0 T n vf vals H k)) : ∃ r H' lg, CallTo P f vals H r H' lg ∧ holds (k r H' lg) := by
  have hreal := hfn.real
  obtain ⟨fn, c, hf, hb, hname, hcomp, hnt, hres⟩ := hfn.ex
  unfold vcall at h
  rw [← hcomp, ← hnt] at h
  obtain ⟨ex, fr', H', lg', hg, h⟩ := ih c (size H) _ H [] _ (by rw [size_eq]; exact Nat.le_refl _) h
  have fin : ∀ e, (e = .normal ∨ e = .ret) → exitOf ex = e → holds (results A ops0 vf.results fr' H' fun vs => k (pack vs) H' lg') → ∃ r H' lg, CallTo P f vals H r H' lg ∧ holds (k r H' lg) := by
    intro e he hee h
    obtain ⟨vs, h, hv⟩ := fn_results fine.toGood hres h
    refine ⟨_, _, _, ⟨hreal, by have := hg.grow; rwa [size_eq] at this, fun b hb hn => hg.keep b (by rw [size_eq]; exact hb) hn, ?_⟩, h⟩
    intro ρ w us hgw hvs
    refine calls_of_wp hf hb ?_
    refine hg.does ρ w _ _ hgw (frame0 hvs _) fun a' w' ρ' g1 g2 g3 g4 => ?_
    obtain ⟨v, h1, h2⟩ := hv ρ' w' a'.tmps g1 g2
    rw [size_eq] at g4
    rw [hee]
    rcases he with rfl | rfl
    · exact ⟨g3, v, h1, v, ρ', rfl, g1, h2, g4⟩
    · exact ⟨g3, v, h1, v, ρ', rfl, g1, h2, g4⟩
  cases ex with
  | norm => exact fin .normal (.inl rfl) rfl h
  | ret => exact fin .ret (.inr rfl) rfl h
  | exit id => exact (fine.fail h).elim

include hT
theorem vm_sound : ∀ (n : Nat),
    (∀ c n0 fr H lg (k : Ex → Fr → Hl → List Nat → R), n0 ≤ H.length → holds (vm A ops0 T n n0 (compile P c) fr H lg k) → ∃ ex fr' H' lg', Goes (c.wp P) n0 fr H lg (exitOf ex) fr' H' lg' ∧ holds (k ex fr' H' lg')) ∧
    (∀ c n0 fr H lg (k : Ex → Fr → Hl → List Nat → R), n0 ≤ H.length → holds (vm A ops0 T n n0 (.loop (compile P c)) fr H lg k) → ∃ ex fr' H' lg', Goes (LoopWp P c) n0 fr H lg (exitOf ex) fr' H' lg' ∧ holds (k ex fr' H' lg'))
  | 0 => ⟨fun c n0 fr H lg k _ h => (fine.fail h).elim, fun c n0 fr H lg k _ h => (fine.fail h).elim⟩
  | n + 1 => by
    obtain ⟨ihS, ihL⟩ := vm_sound n
    have hcf : CallOK P holds (fun f vals H k => match T f with
        | none => A.call f vals H k
        | some vf => vm A ops0 T n (size H) vf.body (join vals (pad (vf.ntmps - size vals))) H [] fun ex fr H' lg => match ex with
          | .exit _ => A.fail
          | _ => results A ops0 vf.results fr H' fun vs => k (pack vs) H' lg) := by
      intro f vals H k h
      simp only at h
      split at h
      · exact fine.call f vals H k h
      · rename_i vf hvf
        exact call_of_body fine (hT f vf hvf) ihS h
    have L : ∀ c n0 fr H lg (k : Ex → Fr → Hl → List Nat → R), n0 ≤ H.length → holds (vm A ops0 T (n + 1) n0 (.loop (compile P c)) fr H lg k) → ∃ ex fr' H' lg', Goes (LoopWp P c) n0 fr H lg (exitOf ex) fr' H' lg' ∧ holds (k ex fr' H' lg') := by
      intro c n0 fr H lg k hn0 h
      unfold vm at h
      rcases fine.loop _ _ _ _ _ _ _ hn0 h with h | ⟨ex, fr', H', lg', h1, h2⟩
      · obtain ⟨ex, fr', H', lg', hg, h⟩ := ihS c n0 fr H lg _ hn0 h
        cases ex with
        | norm =>
          obtain ⟨ex2, fr2, H2, lg2, hg2, h⟩ := ihL c n0 fr' H' lg' k hg.grow h
          exact ⟨ex2, fr2, H2, lg2, hg.trans hg2 fun Q a w hw => LoopWp.step (wp_mono hw (by rintro e a w ⟨rfl, h⟩; exact h)), h⟩
        | ret => exact ⟨.ret, fr', H', lg', hg.weak fun Q a w hw => LoopWp.step (wp_mono hw (by rintro e a w ⟨rfl, h⟩; exact h)), h⟩
        | exit id => exact ⟨.exit id, fr', H', lg', hg.weak fun Q a w hw => LoopWp.step (wp_mono hw (by rintro e a w ⟨rfl, h⟩; exact h)), h⟩
      · exact ⟨ex, fr', H', lg', h1 c rfl, h2⟩
    refine ⟨?_, L⟩
    intro c n0 fr H lg k hn0 h
    cases c with
    | skip => exact ⟨.norm, fr, H, lg, ⟨hn0, fun b hb => hb, fun b _ _ => rfl, fun ρ w a Q h1 h2 hQ => wp_skip (hQ a w ρ h1 h2 rfl (Ext.refl _ _ _))⟩, h⟩
    | ret => exact ⟨.ret, fr, H, lg, ⟨hn0, fun b hb => hb, fun b _ _ => rfl, fun ρ w a Q h1 h2 hQ => wp_ret (hQ a w ρ h1 h2 rfl (Ext.refl _ _ _))⟩, h⟩
    | exit id => exact ⟨.exit id, fr, H, lg, ⟨hn0, fun b hb => hb, fun b _ _ => rfl, fun ρ w a Q h1 h2 hQ => wp_exit (hQ a w ρ h1 h2 rfl (Ext.refl _ _ _))⟩, h⟩
    | region id ops draw =>
      obtain ⟨fr', H', lg', hg, h⟩ := region_sound fine.toGood hcf (id := id) (all := ops) (draw := draw) (n0 := n0) (fr := fr) (H := H) (lg := lg) (k := fun fr H lg => k .norm fr H lg) hn0 (fun d bef vs e => by
        have h : holds (vm A ops0 T (n + 1) n0 (regOf P ops draw) fr H lg k) := h
        rw [e] at h
        exact h)
      exact ⟨.norm, fr', H', lg', hg, h⟩
    | seq x y =>
      obtain ⟨ex, fr', H', lg', hg, h⟩ := ihS x n0 fr H lg _ hn0 h
      cases ex with
      | norm =>
        obtain ⟨ex2, fr2, H2, lg2, hg2, h⟩ := ihS y n0 fr' H' lg' k hg.grow h
        exact ⟨ex2, fr2, H2, lg2, hg.trans hg2 fun Q a w hw => wp_seq (wp_mono hw (by rintro e a w ⟨rfl, h⟩; exact h)), h⟩
      | ret => exact ⟨.ret, fr', H', lg', hg.weak fun Q a w hw => wp_seq (wp_mono hw (by rintro e a w ⟨rfl, h⟩; exact h)), h⟩
      | exit id => exact ⟨.exit id, fr', H', lg', hg.weak fun Q a w hw => wp_seq (wp_mono hw (by rintro e a w ⟨rfl, h⟩; exact h)), h⟩
    | cond c x y =>
      simp only [compile] at h
      cases hc : argOf c with
      | none => rw [hc] at h; exact (fine.fail h).elim
      | some z =>
        rw [hc] at h
        have h : holds (match ev fr z with
          | .bool true => vm A ops0 T n n0 (compile P x) fr H lg k
          | .bool false => vm A ops0 T n n0 (compile P y) fr H lg k
          | _ => A.fail) := h
        split at h
        · rename_i hev
          obtain ⟨ex, fr', H', lg', hg, h⟩ := ihS x n0 fr H lg k hn0 h
          refine ⟨ex, fr', H', lg', ⟨hg.grow, hg.sub, hg.keep, fun ρ w a Q h1 h2 hQ => ?_⟩, h⟩
          have := arg_rel h2 hc
          rw [hev] at this
          exact wp_cond_true (inv_bool this) (hg.does ρ w a Q h1 h2 hQ)
        · rename_i hev
          obtain ⟨ex, fr', H', lg', hg, h⟩ := ihS y n0 fr H lg k hn0 h
          refine ⟨ex, fr', H', lg', ⟨hg.grow, hg.sub, hg.keep, fun ρ w a Q h1 h2 hQ => ?_⟩, h⟩
          have := arg_rel h2 hc
          rw [hev] at this
          exact wp_cond_false (inv_bool this) (hg.does ρ w a Q h1 h2 hQ)
        · exact (fine.fail h).elim
    | block id x =>
      replace h := ihS x n0 fr H lg _ hn0 h
      obtain ⟨ex, fr', H', lg', hg, h⟩ := h
      cases ex with
      | norm => exact ⟨.norm, fr', H', lg', hg.weak fun Q a w hw => wp_block (wp_mono hw (by rintro e a w ⟨rfl, h⟩; exact h)), h⟩
      | ret => exact ⟨.ret, fr', H', lg', hg.weak fun Q a w hw => wp_block (wp_mono hw (by rintro e a w ⟨rfl, h⟩; exact h)), h⟩
      | exit j =>
        simp only at h
        split at h
        · rename_i hj
          have hj := Nat.eq_of_beq_eq_true hj
          subst hj
          exact ⟨.norm, fr', H', lg', hg.weak fun Q a w hw => wp_block (wp_mono hw (by rintro e a w ⟨rfl, h⟩; simpa [exitOf, Exit.inBlock] using h)), h⟩
        · rename_i hj
          have hj : j ≠ id := by intro e; subst e; simp [Nat.beq_refl] at hj
          exact ⟨.exit j, fr', H', lg', hg.weak fun Q a w hw => wp_block (wp_mono hw (by rintro e a w ⟨rfl, h⟩; simpa [exitOf, Exit.inBlock, hj] using h)), h⟩
    | loop x =>
      obtain ⟨ex, fr', H', lg', hg, h⟩ := L x n0 fr H lg k hn0 h
      exact ⟨ex, fr', H', lg', hg.weak fun Q a w hw => LoopWp.wp (by
        have : (fun e1 a1 w1 => e1 = exitOf ex ∧ Q (exitOf ex) a1 w1) = fun e1 a1 w1 => e1 = exitOf ex ∧ Q e1 a1 w1 := by
          funext e1 a1 w1
          exact propext ⟨fun ⟨a, b⟩ => ⟨a, a ▸ b⟩, fun ⟨a, b⟩ => ⟨a, a ▸ b⟩⟩
        rw [this] at hw
        intro b k cs
        obtain ⟨e, a', w', hq, harr⟩ := hw b k cs
        exact ⟨e, a', w', hq.2, harr⟩), h⟩
    | _ => exact (fine.fail h).elim

/-- A CALL, by the machine. -/
theorem vcall_sound {n : Nat} {f : Nat} {vf : VF} (hfn : FnOK P f vf) {vals : List AV} {H : Hl} {k : AV → Hl → List Nat → R} (h : holds (vcall A ops0 T n vf vals H k)) :
    ∃ r H' lg, CallTo P f vals H r H' lg ∧ holds (k r H' lg) :=
  call_of_body fine hfn (vm_sound fine hT n).1 h
end

end Go.Vm

namespace Go.Vm
noncomputable section

def toInts (kd : IntKind) : List AV → Option (List Int)
  | [] => some []
  | .int k n :: cs => match sameK k kd, toInts kd cs with
    | true, some l => some (n :: l)
    | _, _ => none
  | _ => none

def toByts : List AV → Option (List UInt8)
  | [] => some []
  | .int .u8 (.ofNat m) :: cs => match Nat.blt m 256, toByts cs with
    | true, some l => some (UInt8.ofNat m :: l)
    | _, _ => none
  | _ => none

theorem toInts_ok {kd : IntKind} : ∀ {cs : List AV} {l : List Int}, toInts kd cs = some l → cs = l.map (AV.int kd)
  | [], l, h => by cases h; rfl
  | c :: cs, l, h => by
    cases c with
    | int k n =>
      simp only [toInts] at h
      split at h <;> first | cases h | skip
      rename_i h1 h2
      rw [sameK_eq h1, toInts_ok h2]
      rfl
    | _ => cases h

theorem toByts_ok : ∀ {cs : List AV} {l : List UInt8}, toByts cs = some l → cs = l.map (fun b => AV.int .u8 b.toNat)
  | [], l, h => by cases h; rfl
  | c :: cs, l, h => by
    cases c with
    | int k n =>
      cases k with
      | u8 =>
        cases n with
        | ofNat m =>
          simp only [toByts] at h
          split at h <;> first | cases h | skip
          rename_i h1 h2
          have h1 := (blt_iff _ _).1 h1
          rw [toByts_ok h2]
          simp only [List.map_cons]
          congr 2
          have : (UInt8.ofNat m).toNat = m := by simp [UInt8.toNat_ofNat']; omega
          rw [this]
          rfl
        | negSucc m => cases h
      | _ => cases h
    | _ => cases h

/-- Reckoning on, as far as it goes. -/
def stdA (R : Type) (ff : R) (call : CallF R) : Alg R where
  fail := ff
  chk b r := match b with
    | true => r
    | false => ff
  br b r s := match b with
    | true => r
    | false => s
  get _ cs i k := match nth cs i with
    | some v => k v
    | none => ff
  flo o k := match o with
    | some r => k r
    | none => ff
  ints kd cs k := match toInts kd cs with
    | some l => k l
    | none => ff
  byts cs k := match toByts cs with
    | some l => k l
    | none => ff
  call := call
  loop _ _ _ _ _ _ u := u ()

theorem stdA_fine {R : Type} {ff : R} {call : CallF R} {P : Program} {holds : R → Prop} (h0 : ¬ holds ff) (hc : CallOK P holds call) : (stdA R ff call).Fine P holds where
  fail := h0
  chk b r h := by
    cases b with
    | true => exact ⟨rfl, h⟩
    | false => exact absurd h h0
  br b r s h := by
    cases b with
    | true => exact .inl ⟨rfl, h⟩
    | false => exact .inr ⟨rfl, h⟩
  get kd cs i k h := by
    have h : holds (match nth cs i with
      | some v => k v
      | none => ff) := h
    rw [nth_eq] at h
    split at h
    · rename_i v e; exact ⟨v, e, h⟩
    · exact absurd h h0
  flo o k h := by
    cases o with
    | some r => exact ⟨r, rfl, h⟩
    | none => exact absurd h h0
  ints kd cs k h := by
    have h : holds (match toInts kd cs with
      | some l => k l
      | none => ff) := h
    split at h
    · rename_i l e; exact ⟨l, toInts_ok e, h⟩
    · exact absurd h h0
  byts cs k h := by
    have h : holds (match toByts cs with
      | some l => k l
      | none => ff) := h
    split at h
    · rename_i l e; exact ⟨l, toByts_ok e, h⟩
    · exact absurd h h0
  call := hc
  loop n0 b fr H lg k u _ h := .inl h

/-- Contracts: what calls come to. -/
abbrev Con := Nat → List AV → Hl → Option (AV × Hl × List Nat)
def ConOK (P : Program) (C : Con) : Prop := ∀ f vals H r H' lg, C f vals H = some (r, H', lg) → CallTo P f vals H r H' lg
def conF {R : Type} (ff : R) (C : Con) : CallF R := fun f vals H k => match C f vals H with
  | some (r, H', lg) => k r H' lg
  | none => ff
theorem conF_ok {R : Type} {ff : R} {P : Program} {holds : R → Prop} (h0 : ¬ holds ff) {C : Con} (hC : ConOK P C) : CallOK P holds (conF ff C) := by
  intro f vals H k h
  unfold conF at h
  split at h
  · rename_i r H' lg e; exact ⟨r, H', lg, hC _ _ _ _ _ _ e, h⟩
  · exact absurd h h0

def noCon : Con := fun _ _ _ => none
theorem noCon_ok (P : Program) : ConOK P noCon := fun _ _ _ _ _ _ h => by cases h

/-- Yes or no. -/
def boolA (C : Con) : Alg Bool := stdA Bool false (conF false C)
theorem boolA_fine {P : Program} {C : Con} (hC : ConOK P C) : (boolA C).Fine P (fun b => b = true) := stdA_fine (by simp) (conF_ok (by simp) hC)

/-- Statements. -/
def propA (C : Con) : Alg Prop := stdA Prop False (conF False C)
theorem propA_fine {P : Program} {C : Con} (hC : ConOK P C) : (propA C).Fine P (fun p => p) := stdA_fine (fun h => h) (conF_ok (fun h => h) hC)

/-! ### Functions -/

def vfOf (P : Program) (fn : Func) : Option VF :=
  match fn.body, resOf P fn.results.toList with
  | some c, some rv => some ⟨fn.ntmps, rv, compile P c⟩
  | _, _ => none

theorem FnOK.of {P : Program} {f : Nat} {fn : Func} {vf : VF} (h1 : P.funcs[f]? = some fn) (h2 : (fn.name == "runtime.NumGoroutine") = false) (h3 : vfOf P fn = some vf) : FnOK P f vf := by
  unfold vfOf at h3
  split at h3
  · rename_i c rv hb hr
    cases h3
    exact ⟨fn, c, h1, hb, h2, rfl, rfl, hr⟩
  · cases h3

abbrev Tab := List (Option VF)
def tabF (t : Tab) (f : Nat) : Option VF := match nth t f with
  | some v => v
  | none => none

/-- A call, reckoned: it comes to what it comes to. -/
theorem call_bool {P : Program} {C : Con} (hC : ConOK P C) {T : Nat → Option VF} (hT : ∀ f vf, T f = some vf → FnOK P f vf) {f n : Nat} {vf : VF} (hf : T f = some vf) {vals : List AV} {H : Hl} {k : AV → Hl → List Nat → Bool}
    (h : vcall (boolA C) ops0 T n vf vals H k = true) : ∃ r H' lg, CallTo P f vals H r H' lg ∧ k r H' lg = true :=
  vcall_sound (boolA_fine hC) hT (hT f vf hf) (holds := fun b => b = true) h
theorem call_prop {P : Program} {C : Con} (hC : ConOK P C) {T : Nat → Option VF} (hT : ∀ f vf, T f = some vf → FnOK P f vf) {f n : Nat} {vf : VF} (hf : T f = some vf) {vals : List AV} {H : Hl} {k : AV → Hl → List Nat → Prop}
    (h : vcall (propA C) ops0 T n vf vals H k) : ∃ r H' lg, CallTo P f vals H r H' lg ∧ k r H' lg :=
  vcall_sound (propA_fine hC) hT (hT f vf hf) (holds := fun p => p) h

end
end Go.Vm

namespace Go.Vm
noncomputable section

abbrev Out := AV × Hl × List Nat
def optA (C : Con) : Alg (Option Out) := stdA (Option Out) none (conF none C)
def outK : AV → Hl → List Nat → Option Out := fun r H lg => some (r, H, lg)

/-- A call, reckoned. -/
theorem call_opt {P : Program} {C : Con} (hC : ConOK P C) {T : Nat → Option VF} (hT : ∀ f vf, T f = some vf → FnOK P f vf) {f n : Nat} {vf : VF} (hf : T f = some vf) {vals : List AV} {H H' : Hl} {r : AV} {lg : List Nat}
    (h : vcall (optA C) ops0 T n vf vals H outK = some (r, H', lg)) : CallTo P f vals H r H' lg := by
  have hfine : (optA C).Fine P (fun x => x = some (r, H', lg)) := stdA_fine (by simp) (conF_ok (by simp) hC)
  obtain ⟨r1, H1, lg1, hc, e⟩ := vcall_sound hfine hT (hT f vf hf) (holds := fun x => x = some (r, H', lg)) h
  cases e
  exact hc

/-- 64-bit words: by what is handed in. -/
def opsW (β σ : BinOp → Int → Int → Int) : Ops := { ops0 with
  bin := fun op k x y => match k with
    | .u64 => β op x y
    | k => bin0 op k x y
  shf := fun op k x y => match k with
    | .u64 => σ op x y
    | k => shf0 op k x y }

theorem opsW_eq : opsW (fun op => bin0 op .u64) (fun op => shf0 op .u64) = ops0 := by
  have h1 : (opsW (fun op => bin0 op .u64) (fun op => shf0 op .u64)).bin = ops0.bin := by
    funext op k x y
    cases k <;> rfl
  have h2 : (opsW (fun op => bin0 op .u64) (fun op => shf0 op .u64)).shf = ops0.shf := by
    funext op k x y
    cases k <;> rfl
  show { ops0 with bin := (opsW (fun op => bin0 op .u64) (fun op => shf0 op .u64)).bin, shf := (opsW (fun op => bin0 op .u64) (fun op => shf0 op .u64)).shf } = ops0
  rw [h1, h2]

end
end Go.Vm

namespace Go.Vm
noncomputable section

mutual
/-- A value under other names. (σ: a block's new name. φ: what lies in a block that bears none: its slices become views.) -/
def ren (σ : Nat → Option Nat) (φ : Nat → Option (List AV)) (kp : Bool) : AV → AV
  | .ptr b o => match σ b with
    | some c => .ptr c o
    | none => .top
  | .slc b o len cap sz => match σ b with
    | some c => .slc c o len cap sz
    | none => match φ b with
      | some cs => .ros cs o len cap false
      | none => .top
  | .ros cs o len cap e => match kp with
    | true => .ros (renL σ φ true cs) o len cap e
    | false => match cs with
      | [] => .ros [] o len cap e
      | _ => .top
  | .rop cs o => match kp with
    | true => .rop (renL σ φ true cs) o
    | false => .top
  | .agg cs => .agg (renL σ φ kp cs)
  | .tup cs => .tup (renL σ φ kp cs)
  | .fn f xs ys => .fn f (renL σ φ kp xs) (renL σ φ kp ys)
  | .ifc t v => .ifc t (ren σ φ kp v)
  | .top => .top
  | .bool b => .bool b
  | .int k n => .int k n
  | .flt k n => .flt k n
  | .str s => .str s
  | .nilp => .nilp
  | .nils => .nils
  | .nilf => .nilf
  | .nili => .nili
def renL (σ : Nat → Option Nat) (φ : Nat → Option (List AV)) (kp : Bool) : List AV → List AV
  | [] => []
  | x :: xs => ren σ φ kp x :: renL σ φ kp xs
end

theorem renL_get (σ : Nat → Option Nat) (φ : Nat → Option (List AV)) (kp : Bool) (cs : List AV) (i : Nat) : (renL σ φ kp cs)[i]? = (cs[i]?).map (ren σ φ kp) := by
  induction cs generalizing i with
  | nil => simp [renL]
  | cons x cs ih => cases i <;> simp [renL, ih]
theorem renL_length (σ : Nat → Option Nat) (φ : Nat → Option (List AV)) (kp : Bool) (cs : List AV) : (renL σ φ kp cs).length = cs.length := by
  induction cs with
  | nil => simp [renL]
  | cons x cs ih => simp [renL, ih]
theorem renL_nil (σ : Nat → Option Nat) (φ : Nat → Option (List AV)) (kp : Bool) (cs : List AV) : renL σ φ kp cs = [] ↔ cs = [] := by
  cases cs <;> simp [renL]

/-- What is only looked at: where it lies, and that nobody who knows the new names owns it. -/
structure Views (ρ ρ' : Rho) (w : World) (σ : Nat → Option Nat) (φ : Nat → Option (List AV)) : Prop where
  at_ : ∀ b cs, σ b = none → φ b = some cs → (ρ b = .void ∧ cs = []) ∨ ρ b = .dead ∨ ∃ B F, ∃ vs : List Value, ρ b = .live B F ∧ B < w.heap.size ∧ (∀ c F', ρ' c ≠ .live B F') ∧ vs.length = cs.length ∧ (∀ v ∈ vs, vone v = true) ∧
    (∀ i v, vs[i]? = some v → w.cell? ⟨B, F + i, none⟩ = some v) ∧ (∀ (i : Nat) (a : AV) (v : Value), cs[i]? = some a → vs[i]? = some v → VRel ρ' w a v)
  dead : ∀ b cs, φ b = some cs → ρ b ≠ .dead

theorem ren_rel {ρ ρ' : Rho} {w : World} {σ : Nat → Option Nat} {φ : Nat → Option (List AV)} {kp : Bool} (hσ : ∀ b c, σ b = some c → ρ' c = ρ b) (hown : kp = true → ∀ c B F, ρ' c = .live B F → ∃ b F', ρ b = .live B F') (hφ : Views ρ ρ' w σ φ) {a : AV} {v : Value}
    (h : VRel ρ w a v) : VRel ρ' w (ren σ φ kp a) v := by
  have hlist : ∀ (cs : List AV) (vs : List Value), (∀ (i : Nat) (a : AV) (v : Value), cs[i]? = some a → vs[i]? = some v → VRel ρ' w (ren σ φ kp a) v) →
      ∀ (i : Nat) (a : AV) (v : Value), (renL σ φ kp cs)[i]? = some a → vs[i]? = some v → VRel ρ' w a v := by
    intro cs vs h i a v ha hv
    rw [renL_get] at ha
    obtain ⟨x, hx, e⟩ := Option.map_eq_some_iff.1 ha
    subst e
    exact h i x v hx hv
  induction h with
  | top v => exact .top v
  | bool b => exact .bool b
  | int k n => exact .int k n
  | flt k n => exact .flt k n
  | str s => exact .str s
  | nilp => exact .nilp
  | ptr b o v h0 h1 hs h =>
    simp only [ren]
    split
    · rename_i c hc
      have e := hσ b c hc
      exact .ptr c o v (by rw [e]; exact h0) (by rw [e]; exact h1) hs (by rw [e]; exact h)
    · exact .top v
  | nils => exact .nils
  | slc b o len cap sz v h0 hs hv h =>
    simp only [ren]
    split
    · rename_i c hc
      have e := hσ b c hc
      exact .slc c o len cap sz v (by rw [e]; exact h0) hs (by rw [e]; exact hv) (by rw [e]; exact h)
    · rename_i hc
      split
      · rename_i cs hcs
        rcases hφ.at_ b cs hc hcs with ⟨g0, g1⟩ | g | ⟨B, F, vs, g1, g2, g3, g4, g5, g6, g7⟩
        · obtain ⟨ao, rfl, rfl, rfl⟩ := hv g0
          subst g1
          exact .ros [] o 0 0 false 0 0 ao 0 [] (fun h => absurd rfl h) (fun h => absurd rfl h) rfl (by simp) (by simp) (by simp) (Nat.le_refl _) (Nat.le_refl _) (fun h => by cases h) (fun h => absurd rfl h)
        · exact absurd g (hφ.dead b cs hcs)
        · obtain ⟨ao, cap', k1, k2, rfl, k4, k5⟩ := h B F g1
          exact .ros cs o len cap false B F ao cap' vs (fun _ => g2) (fun _ => g3) g4 g5 g6 g7 k1 k2 (fun h => by cases h) k4
      · exact .top v
  | ros cells off len cap exact B F ao cap' vs hlt hp hl ho hc hr hcap hlen he ha ih =>
    simp only [ren]
    split
    · refine .ros _ off len cap exact B F ao cap' vs (fun hn => hlt fun h => hn ((renL_nil σ φ true cells).2 h)) (fun hn c F' hl' => ?_) (by rw [renL_length]; exact hl) ho hc (hlist _ _ ih) hcap hlen he ha
      obtain ⟨b, F2, hb⟩ := hown rfl c B F' hl'
      exact hp (fun h => hn ((renL_nil σ φ true cells).2 h)) b F2 hb
    · split
      · exact .ros [] off len cap exact B F ao cap' vs (fun h => absurd rfl h) (fun h => absurd rfl h) hl ho hc (by simp) hcap hlen he ha
      · exact .top _
  | rop cells off B F vs hlt hp hl ho hc hr ih =>
    simp only [ren]
    split
    · refine .rop _ off B F vs (fun hn => hlt fun h => hn ((renL_nil σ φ true cells).2 h)) (fun hn c F' hl' => ?_) (by rw [renL_length]; exact hl) ho hc (hlist _ _ ih)
      obtain ⟨b, F2, hb⟩ := hown rfl c B F' hl'
      exact hp (fun h => hn ((renL_nil σ φ true cells).2 h)) b F2 hb
    · exact .top _
  | agg cs vs hl ho hr ih => simp only [ren]; exact .agg _ vs (by rw [renL_length]; exact hl) ho (hlist _ _ ih)
  | tup cs vs hl hr ih => simp only [ren]; exact .tup _ vs (by rw [renL_length]; exact hl) (hlist _ _ ih)
  | fn f xs ys us vs hl hl' hr hr' ih ih' =>
    simp only [ren]
    exact .fn f _ _ us vs (by rw [renL_length]; exact hl) (by rw [renL_length]; exact hl') (hlist _ _ ih) (hlist _ _ ih')
  | nilf => exact .nilf
  | ifc t a v h ih => simp only [ren]; exact .ifc t _ v ih
  | nili => exact .nili

theorem rens_rel {ρ ρ' : Rho} {w : World} {σ : Nat → Option Nat} {φ : Nat → Option (List AV)} {kp : Bool} (hσ : ∀ b c, σ b = some c → ρ' c = ρ b) (hown : kp = true → ∀ c B F, ρ' c = .live B F → ∃ b F', ρ b = .live B F') (hφ : Views ρ ρ' w σ φ) {as : List AV} {vs : List Value}
    (h : VRels ρ w as vs) : VRels ρ' w (renL σ φ kp as) vs :=
  ⟨by rw [renL_length]; exact h.len, fun i a v ha hv => by
    rw [renL_get] at ha
    obtain ⟨x, hx, e⟩ := Option.map_eq_some_iff.1 ha
    subst e
    exact ren_rel hσ hown hφ (h.at_ i x v hx hv)⟩

def noView : Nat → Option (List AV) := fun _ => none
theorem noView_ok (ρ ρ' : Rho) (w : World) (σ : Nat → Option Nat) : Views ρ ρ' w σ noView := ⟨fun b cs _ h => (by cases h), fun b cs h => (by cases h)⟩

def renB (σ : Nat → Option Nat) (φ : Nat → Option (List AV)) (kp : Bool) : Blk → Blk
  | .dead => .dead
  | .cells cs => .cells (renL σ φ kp cs)

/-! ### Some of the blocks -/

/-- The place of b in the list. -/
def placeIn (b : Nat) : Nat → List Nat → Option Nat
  | _, [] => none
  | c, x :: xs => match Nat.beq x b with
    | true => some c
    | false => placeIn b (c + 1) xs

theorem placeIn_some {b : Nat} : ∀ {l : List Nat} {c d : Nat}, placeIn b c l = some d → c ≤ d ∧ l[d - c]? = some b
  | [], _, _, h => by cases h
  | x :: xs, c, d, h => by
    unfold placeIn at h
    split at h
    · rename_i e
      have e := Nat.eq_of_beq_eq_true e
      cases h
      simp [e]
    · obtain ⟨h1, h2⟩ := placeIn_some h
      refine ⟨by omega, ?_⟩
      rw [show d - c = (d - (c + 1)) + 1 by omega]
      simpa using h2
theorem placeIn_none {b : Nat} : ∀ {l : List Nat} {c : Nat}, placeIn b c l = none → b ∉ l
  | [], _, _ => by simp
  | x :: xs, c, h => by
    unfold placeIn at h
    split at h
    · cases h
    · rename_i e
      have hx : x ≠ b := by intro e'; subst e'; simp [Nat.beq_refl] at e
      have := placeIn_none h
      simp only [List.mem_cons, not_or]
      exact ⟨fun e' => hx e'.symm, this⟩
theorem placeIn_at {l : List Nat} (hn : l.Nodup) {b c : Nat} (h : l[c]? = some b) : placeIn b 0 l = some c := by
  cases hp : placeIn b 0 l with
  | none => exact absurd (List.mem_of_getElem? h) (placeIn_none hp)
  | some d =>
    have := (placeIn_some hp).2
    rw [Nat.sub_zero] at this
    obtain ⟨h1, e1⟩ := List.getElem?_eq_some_iff.1 h
    obtain ⟨h2, e2⟩ := List.getElem?_eq_some_iff.1 this
    have hp := List.pairwise_iff_getElem.1 hn
    have : c = d := by
      rcases Nat.lt_trichotomy c d with h | h | h
      · exact absurd (e1.trans e2.symm) (hp c d h1 h2 h)
      · exact h
      · exact absurd (e2.trans e1.symm) (hp d c h2 h1 h)
    rw [this]

def pickN (ids : List Nat) : Nat → Option Nat := fun b => placeIn b 0 ids
def pickR (ids : List Nat) (ρ : Rho) : Rho := fun c => match ids[c]? with
  | some b => ρ b
  | none => .unborn
def pickH (φ : Nat → Option (List AV)) (ids : List Nat) (H : Hl) : Hl := ids.map fun b => match H[b]? with
  | some k => renB (pickN ids) φ true k
  | none => .dead

theorem pickR_of {ids : List Nat} {ρ : Rho} {b c : Nat} (h : pickN ids b = some c) : pickR ids ρ c = ρ b := by
  have := (placeIn_some h).2
  rw [Nat.sub_zero] at this
  simp [pickR, this]
theorem pickR_own {ids : List Nat} {ρ : Rho} {c B F : Nat} (h : pickR ids ρ c = .live B F) : ∃ b, ids[c]? = some b ∧ ρ b = .live B F := by
  unfold pickR at h
  split at h
  · rename_i b hb; exact ⟨b, hb, h⟩
  · cases h

theorem HRel.pick {ρ : Rho} {w : World} {H : Hl} (hg : HRel ρ w (fun b => H[b]?)) {ids : List Nat} (hn : ids.Nodup) (hlt : ∀ b, b ∈ ids → b < H.length) {φ : Nat → Option (List AV)} (hφ : Views ρ (pickR ids ρ) w (pickN ids) φ) :
    HRel (pickR ids ρ) w (fun c => (pickH φ ids H)[c]?) where
  unborn c h := by
    simp only [pickH, List.getElem?_map, Option.map_eq_none_iff] at h
    simp [pickR, h]
  dead c h := by
    simp only [pickH, List.getElem?_map] at h
    obtain ⟨b, hb, e⟩ := Option.map_eq_some_iff.1 h
    have hbl := hlt b (List.mem_of_getElem? hb)
    have hH : H[b]? = some H[b] := by simp [hbl]
    rw [hH] at e
    have e : renB (pickN ids) φ true H[b] = .dead := e
    have hd : H[b]? = some .dead := by
      rw [hH]
      cases hk : H[b] with
      | dead => rfl
      | cells cs => rw [hk] at e; cases e
    simp only [pickR, hb]
    exact hg.dead b hd
  inj c c' B F F' h h' := by
    obtain ⟨b, hb, e⟩ := pickR_own h
    obtain ⟨b', hb', e'⟩ := pickR_own h'
    have := hg.inj b b' B F F' e e'
    subst this
    have h1 := placeIn_at hn hb
    have h2 := placeIn_at hn hb'
    rw [h1] at h2
    exact Option.some.inj h2
  live c cs h := by
    simp only [pickH, List.getElem?_map] at h
    obtain ⟨b, hb, e⟩ := Option.map_eq_some_iff.1 h
    have hbl := hlt b (List.mem_of_getElem? hb)
    have hH : H[b]? = some H[b] := by simp [hbl]
    rw [hH] at e
    have e : renB (pickN ids) φ true H[b] = .cells cs := e
    cases hk : H[b] with
    | dead => rw [hk] at e; cases e
    | cells cs0 =>
      rw [hk] at e hH
      have e : renL (pickN ids) φ true cs0 = cs := by cases e; rfl
      subst e
      have hr : pickR ids ρ c = ρ b := by simp [pickR, hb]
      rcases hg.live b cs0 hH with ⟨h1, h2⟩ | ⟨B, F, cc, el, lo, hi, h1, h2, h3, h4, h5⟩
      · subst h2; exact .inl ⟨hr.trans h1, by simp [renL]⟩
      · refine .inr ⟨B, F, cc, el, lo, hi, hr.trans h1, h2, by rw [renL_length]; exact h3, h4, fun i a ha => ?_⟩
        rw [renL_get] at ha
        obtain ⟨x, hx, e⟩ := Option.map_eq_some_iff.1 ha
        subst e
        obtain ⟨v, g1, g2, g3⟩ := h5 i x hx
        exact ⟨v, g1, g2, ren_rel (fun b c => pickR_of) (fun _ c B F h => let ⟨b, _, e⟩ := pickR_own h; ⟨b, F, e⟩) hφ g3⟩
  marks c B F cc e lo hi h1 h2 := by
    obtain ⟨b, _, h⟩ := pickR_own h1
    exact hg.marks b B F cc e lo hi h h2

end
end Go.Vm

namespace Go.Vm
noncomputable section

/-! ### New blocks forgotten -/

def cutH (m : Nat) (H : Hl) : Hl := pickH noView (List.range m) H
def cutV (m : Nat) (r : AV) : AV := ren (pickN (List.range m)) noView true r

theorem pick_range {m b c : Nat} (h : pickN (List.range m) b = some c) : c = b ∧ b < m := by
  have := (placeIn_some h).2
  rw [Nat.sub_zero] at this
  obtain ⟨h1, h2⟩ := List.getElem?_eq_some_iff.1 this
  simp at h1 h2
  omega

theorem pickR_range (m : Nat) (ρ : Rho) (b : Nat) : pickR (List.range m) ρ b = if b < m then ρ b else .unborn := by
  unfold pickR
  by_cases h : b < m
  · simp [h]
  · simp [h]

theorem CallTo.cut {P : Program} {f : Nat} {vals : List AV} {H H' : Hl} {r : AV} {lg lg0 : List Nat} (hc : CallTo P f vals H r H' lg) (m : Nat) (h1 : H.length ≤ m) (h2 : m ≤ H'.length)
    (hk : ∀ b, b < H.length → b ∉ lg0 → (cutH m H')[b]? = H[b]?) : CallTo P f vals H (cutV m r) (cutH m H') lg0 where
  real := hc.real
  grow := by simpa [cutH, pickH] using h1
  keep := hk
  does ρ w us hg hv := (hc.does ρ w us hg hv).mono fun e w' h => by
    obtain ⟨v, ρ', rfl, g1, g2, g3⟩ := h
    refine ⟨v, pickR (List.range m) ρ', rfl, g1.pick List.nodup_range (fun b hb => Nat.lt_of_lt_of_le (List.mem_range.1 hb) h2) (noView_ok _ _ _ _),
      ren_rel (fun b c => pickR_of) (fun _ c B F h => let ⟨b, _, e⟩ := pickR_own h; ⟨b, F, e⟩) (noView_ok _ _ _ _) g2, ⟨g3.size, g3.os, g3.tape, g3.output, g3.keep, fun b hb hn => ?_, fun b B F hl => ?_, g3.rows⟩⟩
    · rw [pickR_range, if_pos (by omega)]
      exact g3.slot b hb hn
    · rw [pickR_range] at hl
      split at hl
      · exact g3.fresh b B F hl
      · cases hl

/-- What is handed out, and the first m blocks. -/
def cutK (m : Nat) : AV → Hl → List Nat → Option Out := fun r H _ => match Nat.ble m (size H) with
  | true => some (cutV m r, cutH m H, [])
  | false => none

theorem call_cut {P : Program} {C : Con} (hC : ConOK P C) {T : Nat → Option VF} (hT : ∀ f vf, T f = some vf → FnOK P f vf) {f n : Nat} {vf : VF} (hf : T f = some vf) {vals : List AV} {H H0 : Hl} {r0 : AV} (m : Nat) (lg0 : List Nat)
    (h : vcall (optA C) ops0 T n vf vals H (cutK m) = some (r0, H0, [])) (h1 : H.length ≤ m) (hk : ∀ b, b < H.length → b ∉ lg0 → H0[b]? = H[b]?) : CallTo P f vals H r0 H0 lg0 := by
  have hfine : (optA C).Fine P (fun x => x = some (r0, H0, [])) := stdA_fine (by simp) (conF_ok (by simp) hC)
  obtain ⟨r, H', lg, hc, e⟩ := vcall_sound hfine hT (hT f vf hf) (holds := fun x => x = some (r0, H0, [])) h
  unfold cutK at e
  split at e <;> cases e
  rename_i hm
  rw [size_eq] at hm
  exact hc.cut m h1 (Nat.le_of_ble_eq_true hm) hk

/-! ### In a greater memory -/

/-- What lies in the caller's other blocks, to be looked at (blocks within blocks: n deep). -/
def viewF (H : Hl) (ids : List Nat) : Nat → Nat → Option (List AV)
  | 0, _ => none
  | n + 1, b => match H[b]? with
    | some (.cells cs) => some (renL (pickN ids) (viewF H ids n) true cs)
    | _ => none

theorem viewF_ok {ρ : Rho} {w : World} {H : Hl} (hg : HRel ρ w (fun b => H[b]?)) {ids : List Nat} : ∀ n, Views ρ (pickR ids ρ) w (pickN ids) (viewF H ids n)
  | 0 => ⟨fun b cs _ h => (by cases h), fun b cs h => (by cases h)⟩
  | n + 1 => by
    have ih := viewF_ok hg (ids := ids) n
    refine ⟨fun b cs hb h => ?_, fun b cs h => ?_⟩
    · unfold viewF at h
      split at h <;> first | cases h | skip
      rename_i cs0 hH
      rcases hg.live b cs0 hH with ⟨h1, h2⟩ | ⟨B, F, c, el, lo, hi, h1, h2, h3, h4, h5⟩
      · subst h2; exact .inl ⟨h1, by simp [renL]⟩
      · refine .inr (.inr ?_)
        obtain ⟨vs, k1, k2, k3, k4⟩ := Lies.values (show Lies ρ w cs0 F c from h5)
        refine ⟨B, F, vs, h1, hg.lt h1, fun c' F' hl => ?_, by rw [renL_length]; exact k1, k4, fun i v hv => ?_, fun i a v ha hv => ?_⟩
        · obtain ⟨b', hb', e⟩ := pickR_own hl
          have := hg.inj b b' B F F' h1 e
          subst this
          exact placeIn_none hb (List.mem_of_getElem? hb')
        · rw [cell_at h2]; exact k2 i v hv
        · rw [renL_get] at ha
          obtain ⟨x, hx, e⟩ := Option.map_eq_some_iff.1 ha
          subst e
          obtain ⟨u, q1, _, q3⟩ := k3 i x hx
          have : v = u := by
            simp only [Nat.zero_add, List.getElem?_toArray] at q1
            exact Option.some.inj (hv.symm.trans q1)
          subst this
          exact ren_rel (fun b c => pickR_of) (fun _ c B F h => let ⟨b, _, e⟩ := pickR_own h; ⟨b, F, e⟩) ih q3
    · unfold viewF at h
      split at h <;> first | cases h | skip
      rename_i cs0 hH
      rcases hg.live b cs0 hH with ⟨h1, h2⟩ | ⟨B, F, c, el, lo, hi, h1, h2, h3, h4, h5⟩ <;> rw [h1] <;> simp

/-- The names back. -/
def backN (ids : List Nat) (n : Nat) : Nat → Option Nat := fun c => match ids[c]? with
  | some b => some b
  | none => some (n + (c - ids.length))
def backV (ids : List Nat) (n : Nat) (r : AV) : AV := ren (backN ids n) noView false r
def backB (ids : List Nat) (n : Nat) (k : Blk) : Blk := renB (backN ids n) noView false k
def backR (ids : List Nat) (n : Nat) (ρ ρ0 : Rho) : Rho := fun b => match placeIn b 0 ids with
  | some c => ρ0 c
  | none => if b < n then ρ b else ρ0 (ids.length + (b - n))
def oldH (ids : List Nat) (n : Nat) (H H0 : Hl) : Hl := (List.range n).map fun b => match placeIn b 0 ids with
  | some c => backB ids n (H0[c]?.getD .dead)
  | none => H[b]?.getD .dead
def backH (ids : List Nat) (H H0 : Hl) : Hl := oldH ids H.length H H0 ++ (H0.drop ids.length).map (backB ids H.length)
def backL (ids : List Nat) (lg : List Nat) : List Nat := lg.filterMap fun c => ids[c]?

theorem backH_get (ids : List Nat) (H H0 : Hl) (b : Nat) : (backH ids H H0)[b]? = if b < H.length then (match placeIn b 0 ids with
    | some c => some (backB ids H.length (H0[c]?.getD .dead))
    | none => H[b]?) else (H0[ids.length + (b - H.length)]?).map (backB ids H.length) := by
  unfold backH
  by_cases h : b < H.length
  · rw [if_pos h, List.getElem?_append_left (by simpa [oldH] using h)]
    simp only [oldH, List.getElem?_map, List.getElem?_range h, Option.map_some]
    cases placeIn b 0 ids with
    | some c => rfl
    | none => simp [h]
  · rw [if_neg h, List.getElem?_append_right (by simpa [oldH] using h)]
    simp [oldH]

theorem CallTo.frame {P : Program} {f : Nat} {vals : List AV} {H H0 : Hl} {r0 : AV} {lg0 : List Nat} (ids : List Nat) (n : Nat) (hn : ids.Nodup) (hlt : ∀ b, b ∈ ids → b < H.length)
    (hc : CallTo P f (renL (pickN ids) (viewF H ids n) true vals) (pickH (viewF H ids n) ids H) r0 H0 lg0)
    (hk : ∀ b c, placeIn b 0 ids = some c → c ∉ lg0 → some (backB ids H.length (H0[c]?.getD .dead)) = H[b]?) :
    CallTo P f vals H (backV ids H.length r0) (backH ids H H0) (backL ids lg0) where
  real := hc.real
  grow := by simp [backH, oldH]
  keep b hb hn' := by
    rw [backH_get, if_pos hb]
    split
    · rename_i c hp
      refine hk b c hp fun h => hn' ?_
      have := (placeIn_some hp).2
      rw [Nat.sub_zero] at this
      exact List.mem_filterMap.2 ⟨c, h, this⟩
    · rfl
  does ρ w us hg hv := by
    have hV := viewF_ok hg (ids := ids) n
    have hlen : (pickH (viewF H ids n) ids H).length = ids.length := by simp [pickH]
    refine (hc.does (pickR ids ρ) w us (hg.pick hn hlt hV) (rens_rel (fun b c => pickR_of) (fun _ c B F h => let ⟨b, _, e⟩ := pickR_own h; ⟨b, F, e⟩) hV hv)).mono fun e w' h => ?_
    obtain ⟨v, ρ0, rfl, g1, g2, g3⟩ := h
    rw [hlen] at g3
    have grow : ids.length ≤ H0.length := by have := hc.grow; rwa [hlen] at this
    -- the names
    have name : ∀ c b, backN ids H.length c = some b → backR ids H.length ρ ρ0 b = ρ0 c := by
      intro c b h
      unfold backN at h
      split at h
      · rename_i b' hb'
        cases h
        simp [backR, placeIn_at hn hb']
      · rename_i hb'
        cases h
        have hcl : ids.length ≤ c := by simpa using hb'
        have hp : placeIn (H.length + (c - ids.length)) 0 ids = none := by
          cases hp : placeIn (H.length + (c - ids.length)) 0 ids with
          | none => rfl
          | some d =>
            have := (placeIn_some hp).2
            have := hlt _ (List.mem_of_getElem? this)
            omega
        simp only [backR, hp]
        rw [if_neg (by omega), show ids.length + (H.length + (c - ids.length) - H.length) = c by omega]
    have own : ∀ b B F, backR ids H.length ρ ρ0 b = .live B F → (∃ c, ρ0 c = .live B F ∧ (placeIn b 0 ids = some c ∨ (placeIn b 0 ids = none ∧ H.length ≤ b ∧ c = ids.length + (b - H.length)))) ∨ (b < H.length ∧ placeIn b 0 ids = none ∧ ρ b = .live B F) := by
      intro b B F h
      unfold backR at h
      split at h
      · rename_i c hp; exact .inl ⟨c, h, .inl hp⟩
      · rename_i hp
        split at h
        · rename_i hb; exact .inr ⟨hb, hp, h⟩
        · rename_i hb; exact .inl ⟨_, h, .inr ⟨hp, by omega, rfl⟩⟩
    -- what the callee owns is new, or was picked
    have far : ∀ c B F b F', ρ0 c = .live B F → ρ b = .live B F' → placeIn b 0 ids = none → False := by
      intro c B F b F' h1 h2 h3
      rcases g3.fresh c B F h1 with h | ⟨c', F2, h⟩
      · have := hg.lt h2; omega
      · obtain ⟨b', hb', e⟩ := pickR_own h
        have := hg.inj b b' B F' F2 h2 e
        subst this
        exact placeIn_none h3 (List.mem_of_getElem? hb')
    have unown : ∀ b B F, b < H.length → placeIn b 0 ids = none → ρ b = .live B F → ∀ c F', pickR ids ρ c ≠ .live B F' := by
      intro b B F hb hp hl c F' h
      obtain ⟨b', hb', e⟩ := pickR_own h
      have := hg.inj b b' B F F' hl e
      subst this
      exact placeIn_none hp (List.mem_of_getElem? hb')
    have E : Ext H.length ρ w (backR ids H.length ρ ρ0) w' := by
      refine ⟨g3.size, g3.os, g3.tape, g3.output, fun B hB hu => g3.keep B hB fun c F h => ?_, fun b hb hn' => ?_, fun b B F hl => ?_, g3.rows⟩
      · obtain ⟨b, _, e⟩ := pickR_own h
        exact hu b F e
      · unfold backR
        split
        · rename_i c hp
          have hpr := pickR_of (ρ := ρ) hp
          have hc' : c < ids.length := by
            have := (placeIn_some hp).2
            rw [Nat.sub_zero] at this
            exact (List.getElem?_eq_some_iff.1 this).1
          rw [← hpr]
          exact g3.slot c hc' (by rw [hpr]; exact hn')
        · rw [if_pos hb]; exact .inl rfl
      · rcases own b B F hl with ⟨c, h, _⟩ | ⟨_, _, h⟩
        · rcases g3.fresh c B F h with h' | ⟨c', F', h'⟩
          · exact .inl h'
          · obtain ⟨b', _, e⟩ := pickR_own h'
            exact .inr ⟨b', F', e⟩
        · exact .inr ⟨b, F, h⟩
    have renv : ∀ {a : AV} {v : Value}, VRel ρ0 w' a v → VRel (backR ids H.length ρ ρ0) w' (ren (backN ids H.length) noView false a) v := fun h =>
      ren_rel (fun b c => name b c) (fun h => by cases h) (noView_ok _ _ _ _) h
    have monov : ∀ {a : AV} {v : Value}, VRel ρ w a v → VRel (backR ids H.length ρ ρ0) w' a v := fun h =>
      h.mono E fun b hb => by
        rcases Nat.lt_or_ge b H.length with h' | h'
        · exact h'
        · exact absurd (hg.unborn b (List.getElem?_eq_none h')) hb
    refine ⟨v, backR ids H.length ρ ρ0, rfl, ⟨fun b h => ?_, fun b h => ?_, fun b b' B F F' h h' => ?_, fun b cs h => ?_, fun b B F c e lo hi h h' => ?_⟩, renv g2, E⟩
    case refine_5 =>
      rcases own b B F h with ⟨c', h1, _⟩ | ⟨h1, h2, h3⟩
      · exact g1.marks c' B F c e lo hi h1 h'
      · rw [g3.keep B (hg.lt h3) (unown b B F h1 h2 h3)] at h'
        exact hg.marks b B F c e lo hi h3 h'
    · simp only [backH_get] at h
      unfold backR
      split at h
      · rename_i hb
        split at h
        · cases h
        · rw [if_pos hb]
          exact hg.unborn b h
      · rename_i hb
        have hp : placeIn b 0 ids = none := by
          cases hp : placeIn b 0 ids with
          | none => rfl
          | some d =>
            have := (placeIn_some hp).2
            have := hlt _ (List.mem_of_getElem? this)
            omega
        rw [hp]
        simp only
        rw [if_neg hb]
        exact g1.unborn _ (by simpa using h)
    · simp only [backH_get] at h
      unfold backR
      split at h
      · rename_i hb
        split at h
        · rename_i c hp
          have hc' : c < H0.length := by
            have := (placeIn_some hp).2
            rw [Nat.sub_zero] at this
            have := (List.getElem?_eq_some_iff.1 this).1
            omega
          simp only [hc', List.getElem?_eq_getElem, Option.getD_some, Option.some.injEq] at h
          apply g1.dead
          rw [List.getElem?_eq_getElem hc']
          cases hk' : H0[c] with
          | dead => rfl
          | cells cs => rw [hk'] at h; cases h
        · rw [if_pos hb]
          exact hg.dead b h
      · rename_i hb
        have hp : placeIn b 0 ids = none := by
          cases hp : placeIn b 0 ids with
          | none => rfl
          | some d =>
            have := (placeIn_some hp).2
            have := hlt _ (List.mem_of_getElem? this)
            omega
        rw [hp]
        simp only
        rw [if_neg hb]
        obtain ⟨k, hk1, hk2⟩ := Option.map_eq_some_iff.1 h
        apply g1.dead
        rw [hk1]
        cases k with
        | dead => rfl
        | cells cs => cases hk2
    · rcases own b B F h with ⟨c, h1, h2⟩ | ⟨h1, h2, h3⟩
      · rcases own b' B F' h' with ⟨c', k1, k2⟩ | ⟨k1, k2, k3⟩
        · have := g1.inj c c' B F F' h1 k1
          subst this
          rcases h2 with h2 | ⟨h2, h3, h4⟩
          · rcases k2 with k2 | ⟨k2, k3, k4⟩
            · have a1 := (placeIn_some h2).2
              have a2 := (placeIn_some k2).2
              rw [a1] at a2
              exact Option.some.inj a2
            · have a1 := (placeIn_some h2).2
              rw [Nat.sub_zero] at a1
              have := (List.getElem?_eq_some_iff.1 a1).1
              omega
          · rcases k2 with k2 | ⟨k2, k3, k4⟩
            · have a1 := (placeIn_some k2).2
              rw [Nat.sub_zero] at a1
              have := (List.getElem?_eq_some_iff.1 a1).1
              omega
            · omega
        · exact (far c B F b' F' h1 k3 k2).elim
      · rcases own b' B F' h' with ⟨c', k1, k2⟩ | ⟨k1, k2, k3⟩
        · exact (far c' B F' b F k1 h3 h2).elim
        · exact hg.inj b b' B F F' h3 k3
    · -- a block of the callee's, under its name
      have key : ∀ c k, H0[c]? = some k → backB ids H.length k = .cells cs → backR ids H.length ρ ρ0 b = ρ0 c →
          (backR ids H.length ρ ρ0 b = .void ∧ cs = []) ∨ ∃ B F cc elem lo hi, backR ids H.length ρ ρ0 b = .live B F ∧ w'.heap[B]? = some (.cells cc elem (lo, hi)) ∧ F + cs.length ≤ cc.size ∧
            (∀ j, F ≤ j → j < cc.size → ¬ (lo ≤ j ∧ j < hi)) ∧ (∀ i a, cs[i]? = some a → ∃ v, cc[F + i]? = some v ∧ vone v = true ∧ VRel (backR ids H.length ρ ρ0) w' a v) := by
        intro c k hk1 hk2 hr
        cases k with
        | dead => cases hk2
        | cells cs0 =>
          have e : renL (backN ids H.length) noView false cs0 = cs := by cases hk2; rfl
          subst e
          rcases g1.live c cs0 hk1 with ⟨h1, h2⟩ | ⟨B, F, cc, el, lo, hi, h1, h2, h3, h4, h5⟩
          · subst h2; exact .inl ⟨hr.trans h1, by simp [renL]⟩
          · refine .inr ⟨B, F, cc, el, lo, hi, hr.trans h1, h2, by rw [renL_length]; exact h3, h4, fun i a ha => ?_⟩
            rw [renL_get] at ha
            obtain ⟨x, hx, e⟩ := Option.map_eq_some_iff.1 ha
            subst e
            obtain ⟨v, q1, q2, q3⟩ := h5 i x hx
            exact ⟨v, q1, q2, renv q3⟩
      simp only [backH_get] at h
      split at h
      · rename_i hb
        split at h
        · rename_i c hp
          have hc' : c < H0.length := by
            have := (placeIn_some hp).2
            rw [Nat.sub_zero] at this
            have := (List.getElem?_eq_some_iff.1 this).1
            omega
          simp only [hc', List.getElem?_eq_getElem, Option.getD_some, Option.some.injEq] at h
          exact key c H0[c] (List.getElem?_eq_getElem hc') h (by simp [backR, hp])
        · rename_i hp
          have hr : backR ids H.length ρ ρ0 b = ρ b := by simp [backR, hp, hb]
          rcases hg.live b cs h with ⟨h1, h2⟩ | ⟨B, F, cc, el, lo, hi, h1, h2, h3, h4, h5⟩
          · exact .inl ⟨hr.trans h1, h2⟩
          · refine .inr ⟨B, F, cc, el, lo, hi, hr.trans h1, ?_, h3, h4, fun i a ha => ?_⟩
            · rw [g3.keep B (hg.lt h1) (unown b B F hb hp h1)]
              exact h2
            · obtain ⟨v, q1, q2, q3⟩ := h5 i a ha
              exact ⟨v, q1, q2, monov q3⟩
      · rename_i hb
        have hp : placeIn b 0 ids = none := by
          cases hp : placeIn b 0 ids with
          | none => rfl
          | some d =>
            have := (placeIn_some hp).2
            have := hlt _ (List.mem_of_getElem? this)
            omega
        obtain ⟨k, hk1, hk2⟩ := Option.map_eq_some_iff.1 h
        exact key _ k hk1 hk2 (by simp [backR, hp, hb])

/-- A call that looks at values alone, and hands out a value alone. -/
theorem CallTo.pure {P : Program} {f : Nat} {vals : List AV} {r0 : AV} {lg : List Nat} (n : Nat) {H : Hl} (hc : CallTo P f (renL (pickN []) (viewF H [] n) true vals) [] r0 [] lg) : CallTo P f vals H (backV [] H.length r0) H [] := by
  have h := CallTo.frame (H := H) (vals := vals) [] n List.nodup_nil (fun b hb => by cases hb) hc (fun b c hp => by cases hp)
  have e1 : backH [] H [] = H := by
    apply List.ext_getElem?
    intro b
    rw [backH_get]
    by_cases hb : b < H.length
    · rw [if_pos hb]; rfl
    · rw [if_neg hb, List.getElem?_eq_none (Nat.le_of_not_lt hb)]; simp
  have e2 : backL [] lg = [] := by simp [backL]
  rw [e1, e2] at h
  exact h

end
end Go.Vm

namespace Go.Vm
noncomputable section

/-- The same state, less of it known. -/
structure Weak (n0 : Nat) (fr : Fr) (H : Hl) (fr' : Fr) (H' : Hl) : Prop where
  grow : n0 ≤ H'.length
  does : ∀ (ρ : Rho) (w : World), HRel ρ w (fun b => H[b]?) → ∃ ρ', HRel ρ' w (fun b => H'[b]?) ∧ Ext n0 ρ w ρ' w ∧ ∀ tmps, FRel ρ w fr tmps → FRel ρ' w fr' tmps

theorem Weak.refl {n0 : Nat} {fr : Fr} {H : Hl} (h : n0 ≤ H.length) : Weak n0 fr H fr H := ⟨h, fun ρ w hg => ⟨ρ, hg, Ext.refl _ _ _, fun _ h => h⟩⟩

/-- Slots that are of no use any more. -/
def forget : List Bool → Fr → Fr
  | true :: bs, _ :: fr => .top :: forget bs fr
  | false :: bs, x :: fr => x :: forget bs fr
  | _, fr => fr

theorem forget_rel {ρ : Rho} {w : World} : ∀ {bs : List Bool} {fr : Fr} {vs : List Value}, VRels ρ w fr vs → VRels ρ w (forget bs fr) vs
  | [], fr, vs, h => by cases fr <;> exact h
  | true :: bs, [], vs, h => h
  | false :: bs, [], vs, h => h
  | true :: bs, x :: fr, vs, h => by
    cases vs with
    | nil => have := h.len; simp at this
    | cons v vs => exact .cons (.top v) (forget_rel h.tail)
  | false :: bs, x :: fr, vs, h => by
    cases vs with
    | nil => have := h.len; simp at this
    | cons v vs => exact .cons h.head (forget_rel h.tail)

/-- Some blocks under new names, some slots forgotten. (The first n0 blocks keep their names.) -/
def wkF (ids : List Nat) (bs : List Bool) (fr : Fr) : Fr := forget bs (renL (pickN ids) noView true fr)
def wkH (ids : List Nat) (H : Hl) : Hl := pickH noView ids H

theorem Weak.pick {n0 : Nat} {fr : Fr} {H : Hl} (ids : List Nat) (bs : List Bool) (hn : ids.Nodup) (hlt : ∀ b, b ∈ ids → b < H.length) (h0 : ∀ b, b < n0 → ids[b]? = some b) :
    Weak n0 fr H (wkF ids bs fr) (wkH ids H) where
  grow := by
    simp only [wkH, pickH, List.length_map]
    rcases Nat.eq_zero_or_pos n0 with h | h
    · omega
    · have := (List.getElem?_eq_some_iff.1 (h0 (n0 - 1) (by omega))).1
      omega
  does ρ w hg := by
    refine ⟨pickR ids ρ, hg.pick hn hlt (noView_ok _ _ _ _), ⟨Nat.le_refl _, rfl, rfl, rfl, fun _ _ _ => rfl, fun b hb _ => .inl ?_, fun b B F hl => ?_, fun _ _ => rfl⟩, fun tmps h => ?_⟩
    · simp [pickR, h0 b hb]
    · obtain ⟨b', _, e⟩ := pickR_own hl
      exact .inr ⟨b', F, e⟩
    · exact forget_rel (rens_rel (fun b c => pickR_of) (fun _ c B F h => let ⟨b, _, e⟩ := pickR_own h; ⟨b, F, e⟩) (noView_ok _ _ _ _) h)

theorem Weak.forget {n0 : Nat} {fr : Fr} {H : Hl} (h : n0 ≤ H.length) (bs : List Bool) : Weak n0 fr H (forget bs fr) H := ⟨h, fun ρ w hg => ⟨ρ, hg, Ext.refl _ _ _, fun _ h => forget_rel h⟩⟩

theorem Goes.post {W : (Exit → Act → World → Prop) → Act → World → Prop} {n0 : Nat} {fr fr1 fr2 : Fr} {H H1 H2 : Hl} {lg lg1 : List Nat} {e : Exit} (h : Goes W n0 fr H lg e fr1 H1 lg1) (k : Weak n0 fr1 H1 fr2 H2) : Goes W n0 fr H lg e fr2 H2 (List.range n0 ++ lg1) where
  grow := k.grow
  sub b hb := List.mem_append_right _ (h.sub b hb)
  keep b hb hn := absurd (List.mem_append_left _ (List.mem_range.2 hb)) hn
  does ρ w a Q hg hf hQ := h.does ρ w a Q hg hf fun a' w' ρ' h1 h2 h3 h4 => by
    obtain ⟨ρ2, g1, g2, g3⟩ := k.does ρ' w' h1
    exact hQ a' w' ρ2 g1 (g3 _ h2) h3 (h4.trans g2)

theorem Goes.pre {W : (Exit → Act → World → Prop) → Act → World → Prop} {n0 : Nat} {fr fr1 fr2 : Fr} {H H1 H2 : Hl} {lg lg2 : List Nat} {e : Exit} (k : Weak n0 fr H fr1 H1) (h : Goes W n0 fr1 H1 lg e fr2 H2 lg2) : Goes W n0 fr H lg e fr2 H2 (List.range n0 ++ lg2) where
  grow := h.grow
  sub b hb := List.mem_append_right _ (h.sub b hb)
  keep b hb hn := absurd (List.mem_append_left _ (List.mem_range.2 hb)) hn
  does ρ w a Q hg hf hQ := by
    obtain ⟨ρ1, g1, g2, g3⟩ := k.does ρ w hg
    exact h.does ρ1 w a Q g1 (g3 _ hf) fun a' w' ρ' h1 h2 h3 h4 => hQ a' w' ρ' h1 h2 h3 (g2.trans h4)

theorem Goes.log {W : (Exit → Act → World → Prop) → Act → World → Prop} {n0 : Nat} {fr fr1 : Fr} {H H1 : Hl} {lg lg1 lg2 : List Nat} {e : Exit} (h : Goes W n0 fr H lg e fr1 H1 lg1) (hs : ∀ b, b ∈ lg → b ∈ lg2)
    (hk : ∀ b, b < n0 → b ∉ lg2 → H1[b]? = H[b]?) : Goes W n0 fr H lg e fr1 H1 lg2 := ⟨h.grow, hs, hk, h.does⟩

/-- What a loop's body comes to. -/
def BodyTo (P : Program) (n0 : Nat) (b : VC) (fr : Fr) (H : Hl) (ex : Ex) (fr' : Fr) (H' : Hl) : Prop :=
  ∀ c, compile P c = b → ∃ lg', Goes (c.wp P) n0 fr H [] (exitOf ex) fr' H' lg'

abbrev OutC := Ex × Fr × Hl × List Nat
def optC (C : Con) : Alg (Option OutC) := stdA (Option OutC) none (conF none C)
/-- The end of a body: some blocks under new names, some slots forgotten. -/
def bodyK (n0 : Nat) (ids : List Nat) (bs : List Bool) : Ex → Fr → Hl → List Nat → Option OutC := fun ex fr H _ => some (ex, wkF ids bs fr, wkH ids H, [n0, size H])

theorem body_run {P : Program} {C : Con} (hC : ConOK P C) {T : Nat → Option VF} (hT : ∀ f vf, T f = some vf → FnOK P f vf) {n n0 : Nat} {b : VC} {fr fr' : Fr} {H H' : Hl} {ex : Ex} {ids : List Nat} {bs : List Bool} {sz : Nat}
    (h : vm (optC C) ops0 T n n0 b fr H [] (bodyK n0 ids bs) = some (ex, fr', H', [n0, sz])) (h0 : n0 ≤ H.length) (hn : ids.Nodup) (hlt : ∀ b, b ∈ ids → b < sz) (hid : ∀ b, b < n0 → ids[b]? = some b) : BodyTo P n0 b fr H ex fr' H' := by
  intro c hc
  subst hc
  have hfine : (optC C).Fine P (fun x => x = some (ex, fr', H', [n0, sz])) := stdA_fine (by simp) (conF_ok (by simp) hC)
  obtain ⟨ex1, fr1, H1, lg1, hg, e⟩ := (vm_sound hfine hT n).1 c n0 fr H [] _ h0 h
  unfold bodyK at e
  simp only [Option.some.injEq, Prod.mk.injEq, List.cons.injEq, and_true, true_and] at e
  obtain ⟨e1, e2, e3, e4⟩ := e
  subst e1; subst e2; subst e3
  rw [size_eq] at e4
  exact ⟨_, hg.post (Weak.pick ids bs hn (by rw [e4]; exact hlt) hid)⟩

/-- The end of a body: some slots forgotten. -/
def bodyF (bs : List Bool) : Ex → Fr → Hl → List Nat → Option OutC := fun ex fr H _ => some (ex, forget bs fr, H, [])

theorem body_forget {P : Program} {C : Con} (hC : ConOK P C) {T : Nat → Option VF} (hT : ∀ f vf, T f = some vf → FnOK P f vf) {n n0 : Nat} {b : VC} {fr fr' : Fr} {H H' : Hl} {ex : Ex} {bs : List Bool}
    (h : vm (optC C) ops0 T n n0 b fr H [] (bodyF bs) = some (ex, fr', H', [])) (h0 : n0 ≤ H.length) : BodyTo P n0 b fr H ex fr' H' := by
  intro c hc
  subst hc
  have hfine : (optC C).Fine P (fun x => x = some (ex, fr', H', [])) := stdA_fine (by simp) (conF_ok (by simp) hC)
  obtain ⟨ex1, fr1, H1, lg1, hg, e⟩ := (vm_sound hfine hT n).1 c n0 fr H [] _ h0 h
  unfold bodyF at e
  simp only [Option.some.injEq, Prod.mk.injEq, and_true] at e
  obtain ⟨e1, e2, e3⟩ := e
  subst e1; subst e2; subst e3
  exact ⟨_, hg.post (Weak.forget hg.grow bs)⟩

def noTab (_ : Nat) : Option VF := none
theorem noTab_ok (P : Program) : ∀ f vf, noTab f = some vf → FnOK P f vf := fun _ _ h => by cases h

def tabOne (f : Nat) (vf : VF) (g : Nat) : Option VF := match Nat.beq g f with
  | true => some vf
  | false => none
theorem tabOne_ok {P : Program} {f : Nat} {vf : VF} (h : FnOK P f vf) : ∀ g v, tabOne f vf g = some v → FnOK P g v := by
  intro g v e
  unfold tabOne at e
  split at e <;> cases e
  rename_i hb
  have := Nat.eq_of_beq_eq_true hb
  subst this
  exact h
theorem tabOne_self (f : Nat) (vf : VF) : tabOne f vf f = some vf := by simp [tabOne, Nat.beq_refl]

/-- A LOOP that goes through the states S 0, S 1, .. -/
theorem loop_chain {P : Program} {n0 : Nat} {b : VC} {ex : Ex} {fr' : Fr} {H' : Hl} (hex : ex ≠ .norm) (S : Nat → Fr × Hl) : ∀ (d i : Nat), (∀ j, i ≤ j → j < i + d → BodyTo P n0 b (S j).1 (S j).2 .norm (S (j + 1)).1 (S (j + 1)).2) →
    BodyTo P n0 b (S (i + d)).1 (S (i + d)).2 ex fr' H' → ∀ lg, LoopTo P n0 b (S i).1 (S i).2 lg ex fr' H' (List.range n0 ++ lg) := by
  have logs : ∀ {W n0 fr H lg e fr1 H1 lg1}, Goes W n0 fr H [] e fr1 H1 lg1 → Goes W n0 fr H lg e fr1 H1 (List.range n0 ++ lg) := by
    intro W n0 fr H lg e fr1 H1 lg1 h
    exact ⟨h.grow, fun b hb => List.mem_append_right _ hb, fun b hb hn => absurd (List.mem_append_left _ (List.mem_range.2 hb)) hn, h.does⟩
  intro d
  induction d with
  | zero =>
    intro i _ hend lg c hc
    obtain ⟨lg1, hg⟩ := hend c hc
    have h1 : Goes (LoopWp P c) n0 (S i).1 (S i).2 [] (exitOf ex) fr' H' lg1 := hg.weak fun Q a w hw => LoopWp.step (wp_mono hw (by
      rintro e a w ⟨rfl, h⟩
      cases ex with
      | norm => exact absurd rfl hex
      | ret => exact h
      | exit id => exact h))
    exact logs h1
  | succ d ih =>
    intro i hround hend lg c hc
    have hl := ih (i + 1) (fun j h1 h2 => hround j (by omega) (by omega)) (by rw [show i + 1 + d = i + (d + 1) by omega]; exact hend) (List.range n0 ++ lg)
    obtain ⟨lg1, hg⟩ := hround i (Nat.le_refl _) (by omega) c hc
    have h1 : Goes (c.wp P) n0 (S i).1 (S i).2 lg .normal (S (i + 1)).1 (S (i + 1)).2 (List.range n0 ++ lg) := logs hg
    exact (h1.trans (hl c hc) fun Q a w hw => LoopWp.step (wp_mono hw (by rintro e a w ⟨rfl, h⟩; exact h))).log (fun b hb => List.mem_append_right _ hb)
      (fun b hb hn => absurd (List.mem_append_left _ (List.mem_range.2 hb)) hn)

theorem LoopTo.pre {P : Program} {n0 : Nat} {b : VC} {fr fr1 fr' : Fr} {H H1 H' : Hl} {ex : Ex} (k : Weak n0 fr H fr1 H1) (h : ∀ lg, LoopTo P n0 b fr1 H1 lg ex fr' H' (List.range n0 ++ lg)) : ∀ lg, LoopTo P n0 b fr H lg ex fr' H' (List.range n0 ++ lg) :=
  fun lg c hc => (Goes.pre k (h lg c hc)).log (fun b hb => List.mem_append_right _ hb) (fun b hb hn => absurd (List.mem_append_left _ (List.mem_range.2 hb)) hn)

/-- A loop, unrolled. -/
theorem loop_run {P : Program} {C : Con} (hC : ConOK P C) {T : Nat → Option VF} (hT : ∀ f vf, T f = some vf → FnOK P f vf) {n n0 : Nat} {b : VC} {fr fr' : Fr} {H H' : Hl} {ex : Ex} {bs : List Bool}
    (h : vm (optC C) ops0 T n n0 (.loop b) fr H [] (bodyF bs) = some (ex, fr', H', [])) (h0 : n0 ≤ H.length) : ∀ lg, LoopTo P n0 b fr H lg ex fr' H' (List.range n0 ++ lg) := by
  intro lg c hc
  subst hc
  have hfine : (optC C).Fine P (fun x => x = some (ex, fr', H', [])) := stdA_fine (by simp) (conF_ok (by simp) hC)
  obtain ⟨ex1, fr1, H1, lg1, hg, e⟩ := (vm_sound hfine hT n).2 c n0 fr H [] _ h0 h
  unfold bodyF at e
  simp only [Option.some.injEq, Prod.mk.injEq, and_true] at e
  obtain ⟨e1, e2, e3⟩ := e
  subst e1; subst e2; subst e3
  have h2 := hg.post (Weak.forget hg.grow bs)
  exact ⟨h2.grow, fun b hb => List.mem_append_right _ hb, fun b hb hn => absurd (List.mem_append_left _ (List.mem_range.2 hb)) hn, h2.does⟩

/-- A loop whose end is known. -/
structure Lent where
  n0 : Nat
  b : VC
  fr : Fr
  H : Hl
  ex : Ex
  fr' : Fr
  H' : Hl
def Lent.OK (P : Program) (e : Lent) : Prop := ∀ lg, LoopTo P e.n0 e.b e.fr e.H lg e.ex e.fr' e.H' (List.range e.n0 ++ lg)

/-- Statements; loops by what is known of them (E says which: where it says none they are unrolled). -/
def propL (C : Con) (E : Fr → Hl → Option Lent) : Alg Prop := { stdA Prop False (conF False C) with
  loop := fun n0 b fr H lg k u => match E fr H with
    | some e => n0 = e.n0 ∧ b = e.b ∧ fr = e.fr ∧ H = e.H ∧ k e.ex e.fr' e.H' (List.range e.n0 ++ lg)
    | none => u () }

theorem propL_fine {P : Program} {C : Con} (hC : ConOK P C) {E : Fr → Hl → Option Lent} (hE : ∀ fr H e, E fr H = some e → e.OK P) : (propL C E).Fine P (fun p => p) :=
  have h := stdA_fine (R := Prop) (ff := False) (holds := fun p => p) (P := P) (fun h => h) (conF_ok (ff := False) (fun h => h) hC)
  { fail := h.fail, chk := h.chk, br := h.br, get := h.get, flo := h.flo, ints := h.ints, byts := h.byts, call := h.call
    loop := fun n0 b fr H lg k u _ hh => by
      have hh : match E fr H with
        | some e => n0 = e.n0 ∧ b = e.b ∧ fr = e.fr ∧ H = e.H ∧ k e.ex e.fr' e.H' (List.range e.n0 ++ lg)
        | none => u () := hh
      split at hh
      · rename_i e he
        obtain ⟨rfl, rfl, rfl, rfl, hk⟩ := hh
        exact .inr ⟨_, _, _, _, hE _ _ e he lg, hk⟩
      · exact .inl hh }

theorem call_loop {P : Program} {C : Con} (hC : ConOK P C) {E : Fr → Hl → Option Lent} (hE : ∀ fr H e, E fr H = some e → e.OK P) {T : Nat → Option VF} (hT : ∀ f vf, T f = some vf → FnOK P f vf) {f n : Nat} {vf : VF} (hf : T f = some vf) {vals : List AV} {H H0 : Hl} {r0 : AV} (m : Nat) (lg0 : List Nat)
    (h : vcall (propL C E) ops0 T n vf vals H (fun r H lg => cutK m r H lg = some (r0, H0, []))) (h1 : H.length ≤ m) (hk : ∀ b, b < H.length → b ∉ lg0 → H0[b]? = H[b]?) : CallTo P f vals H r0 H0 lg0 := by
  obtain ⟨r, H', lg, hc, e⟩ := vcall_sound (propL_fine hC hE) hT (hT f vf hf) (holds := fun p => p) h
  unfold cutK at e
  split at e <;> cases e
  rename_i hm
  rw [size_eq] at hm
  exact hc.cut m h1 (Nat.le_of_ble_eq_true hm) hk

end
end Go.Vm
