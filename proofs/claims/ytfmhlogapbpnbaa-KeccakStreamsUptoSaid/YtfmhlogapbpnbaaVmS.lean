/-
  A VERIFIED SYMBOLIC MACHINE, PART S: the operations in another order.
-/
import Derived.Test.YtfmhlogapbpnbaaVmR
namespace Go.Vm

/-- What lies in a slot. -/
theorem set_get (fr : Fr) (d : Nat) (v : AV) (t : Nat) : (fr.set d v)[t]? = if d = t then (if t < fr.length then some v else none) else fr[t]? := by
  by_cases h : d = t
  · subst h
    simp only [if_true]
    by_cases hl : d < fr.length
    · simp [hl]
    · simp [hl]
  · rw [if_neg h, List.getElem?_set_ne h]

theorem VRels.set {ρ : Rho} {w : World} {as : List AV} {vs : List Value} (h : VRels ρ w as vs) (i : Nat) {a : AV} {v : Value} (hv : VRel ρ w a v) : VRels ρ w (as.set i a) (vs.set i v) :=
  ⟨by simp [h.len], fun j b u hb hu => by
    by_cases hj : i = j
    · subst hj
      have hl := h.len
      by_cases h1 : i < as.length
      · rw [List.getElem?_set_self h1] at hb
        rw [List.getElem?_set_self (by omega)] at hu
        cases hb; cases hu; exact hv
      · rw [List.getElem?_eq_none (by simp; omega)] at hb; cases hb
    · rw [List.getElem?_set_ne hj] at hb hu
      exact h.at_ j b u hb hu⟩

theorem frel_put {ρ : Rho} {w : World} {fr : Fr} {a : Act} (h : FRel ρ w fr a.tmps) (d : Option Nat) {x : AV} {v : Value} (hv : VRel ρ w x v) : FRel ρ w (setD fr d x) (a.put d v).tmps := by
  cases d with
  | none => exact h
  | some d =>
    have := VRels.set h d hv
    simp only [setD, Act.put, put_eq, FRel]
    rw [Array.toList_setIfInBounds]
    exact this

theorem put_defers (a : Act) (d : Option Nat) (v : Value) : (a.put d v).defers = a.defers := by cases d <;> rfl

/-- Slots that are alike are read alike. -/
theorem slot_congr {f g : Fr} {t : Nat} (h : f[t]? = g[t]?) : slot f t = slot g t := by rw [slot_eq, slot_eq, h]

theorem evs_congr {f g : Fr} : ∀ {as : List Arg}, (∀ t, t ∈ readsA as → f[t]? = g[t]?) → evs f as = evs g as
  | [], _ => rfl
  | .t n :: as, h => by
    simp only [evs, ev]
    rw [slot_congr (h n (by simp [readsA])), evs_congr (fun t ht => h t (by simp [readsA, ht]))]
  | .c v :: as, h => by
    simp only [evs, ev]
    rw [evs_congr (fun t ht => h t (by simpa [readsA] using ht))]

/-- A guard says the same in both. -/
theorem guard_wanted {ρ : Rho} {w : World} {fr : Fr} {a : Act} {all : Array Oper} {o : Oper} {v : VO} (hf : FRel ρ w fr a.tmps) (hg : GuardOK all o v) :
    (guardOf fr v.guard = .run → Region.wanted o (yielded all a.tmps) = true) ∧ (guardOf fr v.guard = .pass → Region.wanted o (yielded all a.tmps) = false) := by
  rcases hg.guard with ⟨e1, e2⟩ | ⟨gi, want, d, e1, e2, e3⟩
  · rw [e2]
    refine ⟨fun _ => by simp [Region.wanted, e1], fun h => by cases h⟩
  · rw [e3]
    have hsl := slot_rel hf d
    have hy : ∀ b, a.tmps.getD d undef = .bool b → yielded all a.tmps gi = some b := by
      intro b hb
      have h3 : a.tmps[d]? = some (.bool b) := by
        rw [Array.getD_eq_getD_getElem?] at hb
        cases h3 : a.tmps[d]? with
        | none => rw [h3] at hb; cases hb
        | some v => rw [h3] at hb; exact congrArg some hb
      simp [yielded, e2, h3]
    have hn : a.tmps.getD d undef = .tuple #[] → yielded all a.tmps gi = none := by
      intro hb
      unfold yielded
      rw [e2]
      simp only [Option.bind_some]
      have h3 : a.tmps[d]? = some (.tuple #[]) ∨ a.tmps[d]? = none := by
        rw [Array.getD_eq_getD_getElem?] at hb
        cases h3 : a.tmps[d]? with
        | none => exact .inr rfl
        | some v => rw [h3] at hb; exact .inl (congrArg some hb)
      rcases h3 with h3 | h3 <;> rw [h3]
    have hw : Region.wanted o (yielded all a.tmps) = (yielded all a.tmps gi == some want) := by simp [Region.wanted, e1]
    rw [hw]
    simp only [guardOf]
    generalize hx : slot fr d = x at hsl
    cases x with
    | bool b =>
      rw [hy b (inv_bool hsl)]
      cases b <;> cases want <;> simp
    | tup l =>
      cases l with
      | nil =>
        have : a.tmps.getD d undef = .tuple #[] := by
          generalize a.tmps.getD d undef = v at hsl
          cases hsl with
          | tup _ vs hl _ =>
            have : vs = [] := List.eq_nil_of_length_eq_zero (by simpa using hl)
            subst this; rfl
        rw [hn this]
        cases want <;> simp
      | cons => cases want <;> constructor <;> intro h <;> cases h
    | _ => cases want <;> constructor <;> intro h <;> cases h

/-- What stands of the operations in D: the memory and the slots as in the text, wherever those ahead of place p, and no others, have been at them. -/
structure Inv (n : Nat) (vf : Nat → VO) (t : Tr) (ρ0 : Rho) (w0 : World) (ds : List Deferred) (D : Nat → Prop) (a : Act) (w : World) : Prop where
  ex : ∃ (ρ : Rho) (fr : Fr) (g : Hp), HRel ρ w g ∧ FRel ρ w fr a.tmps ∧ (∀ m, Ext m ρ0 w0 ρ w) ∧
    (∀ s p, p ≤ n → (∀ j, j < n → (vf j).dst = some s → (D j ↔ j < p)) → fr[s]? = (t.fr p)[s]?) ∧
    (∀ b p, p ≤ n → (∀ j, j < n → t.run j = true → b ∈ t.T j → (D j ↔ j < p)) → g b = (t.H p)[b]?)
  defers : a.defers = ds

/-- The operations' clashes, settled. (B i j: i is surely ahead of j.) -/
structure Settled (n : Nat) (vf : Nat → VO) (t : Tr) (B : Nat → Nat → Prop) : Prop where
  slots : ∀ i j, i < j → j < n → slotClash (vf i) (vf j) = true → B i j
  blocks : ∀ i j, i < j → j < n → t.run i = true → t.run j = true →
    (∃ b, (b ∈ t.T i ∧ b ∈ t.T j) ∨ (b ∈ t.T i ∧ b ∈ t.F j) ∨ (b ∈ t.F i ∧ b ∈ t.T j) ∨ (isCall (vf i).op = true ∧ (t.H i).length ≤ b ∧ b ∈ t.T j)) → B i j

theorem slotClash_iff (u v : VO) : slotClash u v = true ↔ (∃ d, u.dst = some d ∧ d ∈ readsOf v) ∨ (∃ d, u.dst = some d ∧ v.dst = some d) ∨ ∃ d, v.dst = some d ∧ d ∈ readsOf u := by
  have h1 : ∀ (o : Option Nat) l, hasO o l = true ↔ ∃ d, o = some d ∧ d ∈ l := by
    intro o l
    cases o with
    | none => simp [hasO]
    | some d => simp [hasO, has_iff]
  have h2 : ∀ (o p : Option Nat), sameO o p = true ↔ ∃ d, o = some d ∧ p = some d := by
    intro o p
    cases o <;> cases p <;> simp [sameO]
    exact eq_comm
  simp only [slotClash, Bool.or_eq_true, h1, h2, or_assoc]

theorem lens {n : Nat} {P : Program} {all : Array Oper} {vf : Nat → VO} {t : Tr} (hn : n = all.size) (hst : ∀ j o, j < n → all[j]? = some o → StepAt P all o (vf j) t j) :
    ∀ d i, i + d ≤ n → (t.H i).length ≤ (t.H (i + d)).length
  | 0, i, _ => Nat.le_refl _
  | d + 1, i, h => by
    have hl : i + d < all.size := by omega
    have := (hst (i + d) all[i + d] (by omega) (by simp [hl])).grow
    exact Nat.le_trans (lens hn hst d i (by omega)) this

section
variable {P : Program} {all : Array Oper} {vf : Nat → VO} {t : Tr} {n : Nat} {ρ0 : Rho} {w0 : World} {ds : List Deferred} {B : Nat → Nat → Prop}
  (hn : n = all.size) (hst : ∀ j o, j < n → all[j]? = some o → StepAt P all o (vf j) t j) (hB : Settled n vf t B)
include hn hst

theorem len_le {i j : Nat} (hij : i ≤ j) (hj : j ≤ n) : (t.H i).length ≤ (t.H j).length := by
  have := lens hn hst (j - i) i (by omega)
  rwa [show i + (j - i) = j by omega] at this

include hB
/-- One step more, in whatever order. -/
theorem inv_step {Q : Exit → Act → World → Prop} {D : Nat → Prop} {a : Act} {w : World} {j : Nat} (hj : j < n) (hnot : ¬ D j) (hbef : ∀ i, i < j → B i j → D i) (hclosed : ∀ i, i < n → D i → ∀ k, k < i → B k i → D k)
    (h : Inv n vf t ρ0 w0 ds D a w) {K : Act → World → Prop} (hK : ∀ a' w', Inv n vf t ρ0 w0 ds (fun i => D i ∨ i = j) a' w' → K a' w') : wpOp P all Q j K a w := by
  have hjs : j < all.size := by omega
  have ho : all[j]? = some all[j] := by simp [hjs]
  generalize all[j] = o at ho
  have hs := hst j o hj ho
  obtain ⟨⟨ρ, fr, g, hg, hf, hext, hS, hH⟩, hds⟩ := h
  -- the others that write a slot that this one reads or writes
  have ahead : ∀ s, (s ∈ readsOf (vf j) ∨ (vf j).dst = some s) → ∀ i, i < n → (vf i).dst = some s → (D i ↔ i < j) := by
    intro s hs' i hi hd
    rcases Nat.lt_trichotomy i j with hlt | heq | hgt
    · refine ⟨fun _ => hlt, fun _ => hbef i hlt (hB.slots i j hlt hj ((slotClash_iff _ _).2 ?_))⟩
      rcases hs' with hs' | hs'
      · exact .inl ⟨s, hd, hs'⟩
      · exact .inr (.inl ⟨s, hd, hs'⟩)
    · subst heq; exact ⟨fun hD => absurd hD hnot, fun h => absurd h (Nat.lt_irrefl _)⟩
    · refine ⟨fun hD => absurd (hclosed i hi hD j hgt (hB.slots j i hgt hi ((slotClash_iff _ _).2 ?_))) hnot, fun h => absurd h (Nat.lt_asymm hgt)⟩
      rcases hs' with hs' | hs'
      · exact .inr (.inr ⟨s, hd, hs'⟩)
      · exact .inr (.inl ⟨s, hs', hd⟩)
  have hread : ∀ s, s ∈ readsOf (vf j) → fr[s]? = (t.fr j)[s]? := fun s hs' => hS s j (by omega) (ahead s (.inl hs'))
  -- the slots behind it
  have after : ∀ (x : AV), t.r j = x → ∀ s p, p ≤ n → (∀ i, i < n → (vf i).dst = some s → ((D i ∨ i = j) ↔ i < p)) → (setD fr (vf j).dst x)[s]? = (t.fr p)[s]? := by
    intro x hx s p hp hw
    by_cases hd : (vf j).dst = some s
    · have hjp : j < p := (hw j hj hd).1 (.inr rfl)
      have e0 : fr[s]? = (t.fr j)[s]? := hS s j (by omega) (ahead s (.inr hd))
      have e1 : (setD fr (vf j).dst x)[s]? = (t.fr (j + 1))[s]? := by
        rw [hs.fr, hd, hx]
        simp only [setD, put_eq]
        have hl : s < fr.length ↔ s < (t.fr j).length := by
          have h1 := List.getElem?_eq_none_iff (l := fr) (i := s)
          have h2 := List.getElem?_eq_none_iff (l := t.fr j) (i := s)
          rw [e0] at h1
          have := h1.symm.trans h2
          omega
        rw [set_get, set_get]
        simp only [if_true]
        by_cases h : s < fr.length
        · rw [if_pos h, if_pos (hl.1 h)]
        · rw [if_neg h, if_neg (fun h' => h (hl.2 h'))]
      rw [e1]
      -- nobody writes it between j + 1 and p
      have mid : ∀ d, j + 1 + d ≤ p → (t.fr (j + 1 + d))[s]? = (t.fr (j + 1))[s]? := by
        intro d
        induction d with
        | zero => intro _; rfl
        | succ d ih =>
          intro hd'
          have hlt : j + 1 + d < all.size := by omega
          have hst' := hst (j + 1 + d) all[j + 1 + d] (by omega) (by simp [hlt])
          rw [show j + 1 + (d + 1) = (j + 1 + d) + 1 by omega, hst'.fr]
          have hne : (vf (j + 1 + d)).dst ≠ some s := by
            intro e
            have hD : D (j + 1 + d) ∨ j + 1 + d = j := (hw (j + 1 + d) (by omega) e).2 (by omega)
            rcases hD with hD | hD
            · have := (ahead s (.inr hd) (j + 1 + d) (by omega) e).1 hD
              omega
            · omega
          cases hdd : (vf (j + 1 + d)).dst with
          | none => exact ih (by omega)
          | some d2 =>
            simp only [setD, put_eq]
            rw [set_get, if_neg (by intro e; subst e; exact hne hdd)]
            exact ih (by omega)
      have := mid (p - (j + 1)) (by omega)
      rw [show j + 1 + (p - (j + 1)) = p by omega] at this
      exact this.symm
    · have e : (setD fr (vf j).dst x)[s]? = fr[s]? := by
        cases hdd : (vf j).dst with
        | none => rfl
        | some d2 =>
          simp only [setD, put_eq]
          rw [set_get, if_neg (by intro e; subst e; exact hd hdd)]
      rw [e]
      refine hS s p hp fun i hi hdi => ?_
      have := hw i hi hdi
      have hne : i ≠ j := by intro e; subst e; exact hd hdi
      constructor
      · intro hD; exact this.1 (.inl hD)
      · intro hp'
        rcases this.2 hp' with h' | h'
        · exact h'
        · exact absurd h' hne
  have hgs : ∀ d want, (vf j).guard = some (d, want) → d ∈ readsOf (vf j) := by
    intro d want e; simp [readsOf, e]
  have hguard : guardOf fr (vf j).guard = guardOf (t.fr j) (vf j).guard := by
    cases hgd : (vf j).guard with
    | none => rfl
    | some dw =>
      obtain ⟨d, want⟩ := dw
      simp only [guardOf, slot_congr (hread d (hgs d want hgd))]
  have hw := guard_wanted hf hs.gd
  unfold wpOp
  rw [ho]
  simp only
  cases hrun : t.run j with
  | false =>
    obtain ⟨p1, p2, p3, p4⟩ := hs.passed hrun
    rw [hguard] at hw
    rw [hw.2 p1]
    simp only [Bool.false_eq_true, if_false]
    refine hK _ _ ⟨⟨ρ, setD fr (vf j).dst (.tup []), g, hg, ?_, hext, after _ p2, ?_⟩, by rw [put_defers]; exact hds⟩
    · rw [← hs.gd.dst]; exact frel_put hf _ (undef_rel ρ w)
    · intro b p hp hwr
      refine hH b p hp fun i hi hr hb => ?_
      have := hwr i hi hr hb
      have hne : i ≠ j := by intro e; subst e; rw [hrun] at hr; cases hr
      constructor
      · intro hD; exact this.1 (.inl hD)
      · intro hp'
        rcases this.2 hp' with h' | h'
        · exact h'
        · exact absurd h' hne
  | true =>
    obtain ⟨p1, tch, xs, hT, hc, ha, hsx⟩ := hs.ran hrun
    rw [hguard] at hw
    rw [hw.1 p1]
    simp only [if_true]
    refine .inl ?_
    -- the blocks that it looks at, or turns, or (if it is a call) any that are new
    have bl : ∀ b, (b ∈ t.T j ∨ b ∈ t.F j ∨ (isCall (vf j).op = true ∧ (t.H j).length ≤ b)) → ∀ i, i < n → t.run i = true → b ∈ t.T i → (D i ↔ i < j) := by
      intro b hb i hi hr hbi
      rcases Nat.lt_trichotomy i j with hlt | heq | hgt
      · refine ⟨fun _ => hlt, fun _ => ?_⟩
        rcases hb with hb | hb | ⟨hb1, hb2⟩
        · exact hbef i hlt (hB.blocks i j hlt hj hr hrun ⟨b, .inl ⟨hbi, hb⟩⟩)
        · exact hbef i hlt (hB.blocks i j hlt hj hr hrun ⟨b, .inr (.inl ⟨hbi, hb⟩)⟩)
        · have h1 : i < all.size := by omega
          have h2 := (hst i all[i] hi (by simp [h1])).in_ b hbi
          have h3 := len_le hn hst (i := i + 1) (j := j) (by omega) (by omega)
          omega
      · subst heq; exact ⟨fun hD => absurd hD hnot, fun h => absurd h (Nat.lt_irrefl _)⟩
      · refine ⟨fun hD => absurd (hclosed i hi hD j hgt ?_) hnot, fun h => absurd h (Nat.lt_asymm hgt)⟩
        rcases hb with hb | hb | ⟨hb1, hb2⟩
        · exact hB.blocks j i hgt hi hrun hr ⟨b, .inl ⟨hb, hbi⟩⟩
        · exact hB.blocks j i hgt hi hrun hr ⟨b, .inr (.inr (.inl ⟨hb, hbi⟩))⟩
        · exact hB.blocks j i hgt hi hrun hr ⟨b, .inr (.inr (.inr ⟨hb1, hb2, hbi⟩))⟩
    have hargs : VRels ρ w (evs (t.fr j) (vf j).args) (xs.map a.eval) := by
      rw [← evs_congr (f := fr) (g := t.fr j)]
      · exact args_rel hf ha
      · intro s hs'
        refine hread s ?_
        unfold readsOf
        split
        · exact List.mem_cons_of_mem _ hs'
        · exact hs'
    refine hsx.does ρ w a g hargs (fun b hb => hH b j (by omega) (bl b (.inr (.inl hb)))) (fun b hb => hH b j (by omega) (bl b (.inl (by rw [hT]; exact List.mem_append_left _ hb)))) ?_ hg K Q ?_
    · intro b hb hor
      rw [hH b j (by omega) (bl b ?_), List.getElem?_eq_none hb]
      rcases hor with hc' | hlt
      · exact .inr (.inr ⟨hc', hb⟩)
      · exact .inl (by rw [hT]; exact List.mem_append_right _ ((mem_news _ _ _).2 ⟨hb, hlt⟩))
    · rintro v w' ⟨ρ', h1, h2, h3⟩
      rw [← hT] at h1
      refine hK _ _ ⟨⟨ρ', setD fr (vf j).dst (t.r j), _, h1, ?_, fun m => (hext m).trans (h3 m), after _ rfl, ?_⟩, by rw [put_defers]; exact hds⟩
      · rw [← hs.gd.dst]; exact frel_put (vrels_bound h3 hf) _ h2
      · intro b p hp hwr
        by_cases hb : b ∈ t.T j
        · have hjp : j < p := (hwr j hj hrun hb).1 (.inr rfl)
          rw [show upd g (t.H (j + 1)) (t.T j) b = (t.H (j + 1))[b]? by simp [upd, hb]]
          have mid : ∀ d, j + 1 + d ≤ p → (t.H (j + 1 + d))[b]? = (t.H (j + 1))[b]? := by
            intro d
            induction d with
            | zero => intro _; rfl
            | succ d ih =>
              intro hd'
              have hlt : j + 1 + d < all.size := by omega
              have hst' := hst (j + 1 + d) all[j + 1 + d] (by omega) (by simp [hlt])
              rw [show j + 1 + (d + 1) = (j + 1 + d) + 1 by omega, hst'.keep b ?_]
              · exact ih (by omega)
              · intro hbd
                have hr : t.run (j + 1 + d) = true := by
                  cases hr : t.run (j + 1 + d) with
                  | true => rfl
                  | false => rw [(hst'.passed hr).2.2.1] at hbd; cases hbd
                have hD : D (j + 1 + d) ∨ j + 1 + d = j := (hwr (j + 1 + d) (by omega) hr hbd).2 (by omega)
                rcases hD with hD | hD
                · have := (bl b (.inl hb) (j + 1 + d) (by omega) hr hbd).1 hD
                  omega
                · omega
          have := mid (p - (j + 1)) (by omega)
          rw [show j + 1 + (p - (j + 1)) = p by omega] at this
          exact this.symm
        · rw [show upd g (t.H (j + 1)) (t.T j) b = g b by simp [upd, hb]]
          refine hH b p hp fun i hi hr hbi => ?_
          have := hwr i hi hr hbi
          have hne : i ≠ j := by intro e; subst e; exact hb hbi
          constructor
          · intro hD; exact this.1 (.inl hD)
          · intro hp'
            rcases this.2 hp' with h' | h'
            · exact h'
            · exact absurd h' hne
end

end Go.Vm
