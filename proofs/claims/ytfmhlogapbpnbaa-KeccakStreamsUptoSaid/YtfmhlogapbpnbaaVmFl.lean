/-
  A VERIFIED SYMBOLIC MACHINE, PART Fl: contracts on memory without names in it.
-/
import Derived.Test.YtfmhlogapbpnbaaVmLp
namespace Go.Vm
noncomputable section

/-- A value that names no block. -/
def flat : AV → Bool
  | .int _ _ | .bool _ | .flt _ _ | .str _ | .nilp | .nils | .nilf | .nili | .top => true
  | _ => false
def flatL (cs : List AV) : Prop := ∀ a, a ∈ cs → flat a = true

theorem ren_flat {σ : Nat → Option Nat} {φ : Nat → Option (List AV)} {kp : Bool} {a : AV} (h : flat a = true) : ren σ φ kp a = a := by
  cases a <;> first | rfl | cases h
theorem renL_flat {σ : Nat → Option Nat} {φ : Nat → Option (List AV)} {kp : Bool} {cs : List AV} (h : flatL cs) : renL σ φ kp cs = cs := by
  induction cs with
  | nil => rfl
  | cons x cs ih => simp only [renL, ren_flat (h x (by simp)), ih (fun a ha => h a (by simp [ha]))]
theorem flatL_ints (k : IntKind) (l : List Int) : flatL (l.map (AV.int k)) := by
  intro a ha
  obtain ⟨n, _, rfl⟩ := List.mem_map.1 ha
  rfl
theorem flatL_append {xs ys : List AV} (h : flatL xs) (k : flatL ys) : flatL (xs ++ ys) := by
  intro a ha
  rcases List.mem_append.1 ha with ha | ha
  · exact h a ha
  · exact k a ha

/-- A call that turns one block, without names in it. -/
theorem CallTo.one {P : Program} {f : Nat} {vals vals0 : List AV} {r : AV} {cs cs' : List AV} {H : Hl} {b : Nat} {lg : List Nat} (hc : CallTo P f vals0 [.cells cs] r [.cells cs'] lg) (hb : H[b]? = some (.cells cs)) (h1 : flatL cs) (h2 : flatL cs')
    (h3 : ∀ φ, renL (pickN [b]) φ true vals = vals0) : CallTo P f vals H (backV [b] H.length r) (put H b (.cells cs')) [b] := by
  have hbl := (List.getElem?_eq_some_iff.1 hb).1
  have e1 : pickH (viewF H [b] 0) [b] H = [.cells cs] := by
    simp only [pickH, List.map_cons, List.map_nil, hb, renB, renL_flat h1]
  have hc' : CallTo P f (renL (pickN [b]) (viewF H [b] 0) true vals) (pickH (viewF H [b] 0) [b] H) r [.cells cs'] [0] := by
    rw [e1, h3]
    exact ⟨hc.real, hc.grow, fun i hi hn => (by simp at hi hn; omega), hc.does⟩
  have h := CallTo.frame [b] 0 (by simp) (fun i hi => by simp at hi; subst hi; exact hbl) hc' (fun i c hp hn => by
    have := (placeIn_some hp).2
    rw [Nat.sub_zero] at this
    have := (List.getElem?_eq_some_iff.1 this).1
    simp at this hn
    omega)
  have e2 : backH [b] H [.cells cs'] = put H b (.cells cs') := by
    apply List.ext_getElem?
    intro i
    rw [backH_get, put_eq]
    by_cases hi : i < H.length
    · rw [if_pos hi]
      by_cases hib : b = i
      · subst hib
        have hp : placeIn b 0 [b] = some 0 := by simp [placeIn, Nat.beq_refl]
        rw [hp]
        simp only [List.getElem?_cons_zero, Option.getD_some, backB, renB, renL_flat h2]
        rw [List.getElem?_set_self hi]
      · have hp : placeIn i 0 [b] = none := by
          have : Nat.beq b i = false := by
            cases h : Nat.beq b i
            · rfl
            · exact absurd (Nat.eq_of_beq_eq_true h) hib
          simp [placeIn, this]
        rw [hp, List.getElem?_set_ne hib]
    · rw [if_neg hi]
      have t1 : ([Blk.cells cs'] : Hl)[[b].length + (i - H.length)]? = none := List.getElem?_eq_none (by simp)
      have t2 : (H.set b (.cells cs'))[i]? = none := List.getElem?_eq_none (by rw [List.length_set]; omega)
      rw [t1, t2]
      rfl
  have e3 : backL [b] [0] = [b] := by simp [backL]
  rw [e2, e3] at h
  exact h

/-- A call that looks at one block, without names in it. -/
theorem CallTo.look {P : Program} {f : Nat} {vals vals0 : List AV} {r : AV} {cs : List AV} {H : Hl} {b : Nat} {lg : List Nat} (hc : CallTo P f vals0 [.cells cs] r [.cells cs] lg) (hb : H[b]? = some (.cells cs)) (h1 : flatL cs)
    (h3 : ∀ φ, renL (pickN [b]) φ true vals = vals0) : CallTo P f vals H (backV [b] H.length r) H [] := by
  have h := CallTo.one hc hb h1 h1 h3
  have e : put H b (.cells cs) = H := by
    rw [put_eq]
    apply List.ext_getElem?
    intro i
    by_cases hi : b = i
    · subst hi
      rw [List.getElem?_set_self (List.getElem?_eq_some_iff.1 hb).1, hb]
    · rw [List.getElem?_set_ne hi]
  rw [e] at h
  exact ⟨h.real, h.grow, fun _ _ _ => rfl, h.does⟩

/-- A call that turns one block and looks at two others, without names in them. -/
theorem CallTo.three {P : Program} {f : Nat} {vals vals0 : List AV} {r : AV} {cs cs' xs ys : List AV} {H : Hl} {b c d : Nat} {lg : List Nat} (hc : CallTo P f vals0 [.cells cs, .cells xs, .cells ys] r [.cells cs', .cells xs, .cells ys] lg)
    (hb : H[b]? = some (.cells cs)) (hx : H[c]? = some (.cells xs)) (hy : H[d]? = some (.cells ys)) (hbc : b ≠ c) (hbd : b ≠ d) (hcd : c ≠ d) (h1 : flatL cs) (h2 : flatL cs') (hxf : flatL xs) (hyf : flatL ys)
    (h3 : ∀ φ, renL (pickN [b, c, d]) φ true vals = vals0) : CallTo P f vals H (backV [b, c, d] H.length r) (put H b (.cells cs')) [b] := by
  have lb := (List.getElem?_eq_some_iff.1 hb).1
  have lc := (List.getElem?_eq_some_iff.1 hx).1
  have ld := (List.getElem?_eq_some_iff.1 hy).1
  have beqf : ∀ {x y : Nat}, x ≠ y → Nat.beq x y = false := by
    intro x y h
    cases e : Nat.beq x y
    · rfl
    · exact absurd (Nat.eq_of_beq_eq_true e) h
  have pb : placeIn b 0 [b, c, d] = some 0 := by simp [placeIn, Nat.beq_refl]
  have pc : placeIn c 0 [b, c, d] = some 1 := by simp [placeIn, Nat.beq_refl, beqf hbc]
  have pd : placeIn d 0 [b, c, d] = some 2 := by simp [placeIn, Nat.beq_refl, beqf hbd, beqf hcd]
  have e1 : pickH (viewF H [b, c, d] 0) [b, c, d] H = [.cells cs, .cells xs, .cells ys] := by
    simp only [pickH, List.map_cons, List.map_nil, hb, hx, hy, renB, renL_flat h1, renL_flat hxf, renL_flat hyf]
  have hc' : CallTo P f (renL (pickN [b, c, d]) (viewF H [b, c, d] 0) true vals) (pickH (viewF H [b, c, d] 0) [b, c, d] H) r [.cells cs', .cells xs, .cells ys] [0] := by
    rw [e1, h3]
    refine ⟨hc.real, hc.grow, fun i hi hn => ?_, hc.does⟩
    match i, hi, hn with
    | 0, _, hn => exact absurd (List.mem_singleton.2 rfl) hn
    | 1, _, _ => rfl
    | 2, _, _ => rfl
  have key : ∀ i k, placeIn i 0 [b, c, d] = some k → (k = 0 ∧ i = b) ∨ (k = 1 ∧ i = c) ∨ (k = 2 ∧ i = d) := by
    intro i k hp
    have := (placeIn_some hp).2
    rw [Nat.sub_zero] at this
    match k, this with
    | 0, h => simp at h; exact .inl ⟨rfl, h.symm⟩
    | 1, h => simp at h; exact .inr (.inl ⟨rfl, h.symm⟩)
    | 2, h => simp at h; exact .inr (.inr ⟨rfl, h.symm⟩)
    | k + 3, h => simp at h
  have h := CallTo.frame [b, c, d] 0 (by simp [hbc, hbd, hcd]) (fun i hi => by
      simp only [List.mem_cons, List.not_mem_nil, or_false] at hi
      rcases hi with rfl | rfl | rfl <;> assumption) hc' (fun i k hp hn => by
    rcases key i k hp with ⟨rfl, rfl⟩ | ⟨rfl, rfl⟩ | ⟨rfl, rfl⟩
    · exact absurd (List.mem_singleton.2 rfl) hn
    · simp [backB, renB, renL_flat hxf, hx]
    · simp [backB, renB, renL_flat hyf, hy])
  have e2 : backH [b, c, d] H [.cells cs', .cells xs, .cells ys] = put H b (.cells cs') := by
    apply List.ext_getElem?
    intro i
    rw [backH_get, put_eq]
    by_cases hi : i < H.length
    · rw [if_pos hi]
      cases hp : placeIn i 0 [b, c, d] with
      | some k =>
        rcases key i k hp with ⟨rfl, rfl⟩ | ⟨rfl, rfl⟩ | ⟨rfl, rfl⟩
        · rw [List.getElem?_set_self hi]
          simp [backB, renB, renL_flat h2]
        · rw [List.getElem?_set_ne hbc, hx]
          simp [backB, renB, renL_flat hxf]
        · rw [List.getElem?_set_ne hbd, hy]
          simp [backB, renB, renL_flat hyf]
      | none =>
        have : b ≠ i := fun e => by subst e; rw [pb] at hp; cases hp
        rw [List.getElem?_set_ne this]
    · rw [if_neg hi]
      have t1 : ([Blk.cells cs', .cells xs, .cells ys] : Hl)[[b, c, d].length + (i - H.length)]? = none := List.getElem?_eq_none (by simp)
      have t2 : (H.set b (.cells cs'))[i]? = none := List.getElem?_eq_none (by rw [List.length_set]; omega)
      rw [t1, t2]
      rfl
  have e3 : backL [b, c, d] [0] = [b] := by simp [backL]
  rw [e2, e3] at h
  exact h

/-- A call that makes one block, without names in it. -/
theorem CallTo.new {P : Program} {f : Nat} {vals : List AV} {o : Nat} {cs : List AV} {H : Hl} {lg : List Nat} (hc : CallTo P f vals [] (.ptr 0 o) [.cells cs] lg) (h1 : flatL cs) (h3 : ∀ φ, renL (pickN []) φ true vals = vals) :
    CallTo P f vals H (.ptr (size H) o) (join H [.cells cs]) [] := by
  have hc' : CallTo P f (renL (pickN []) (viewF H [] 0) true vals) (pickH (viewF H [] 0) [] H) (.ptr 0 o) [.cells cs] lg := by
    rw [h3]; exact hc
  have h := CallTo.frame (H := H) (vals := vals) [] 0 List.nodup_nil (fun b hb => by cases hb) hc' (fun b c hp => by cases hp)
  have e1 : backH [] H [.cells cs] = join H [.cells cs] := by
    apply List.ext_getElem?
    intro b
    rw [backH_get, join_eq]
    by_cases hb : b < H.length
    · rw [if_pos hb, List.getElem?_append_left hb]; rfl
    · rw [if_neg hb, List.getElem?_append_right (by omega)]
      simp only [List.length_nil, Nat.zero_add]
      cases b - H.length with
      | zero => simp [backB, renB, renL_flat h1]
      | succ d => simp
  have e2 : backL [] lg = [] := by simp [backL]
  have e3 : backV [] H.length (.ptr 0 o) = .ptr (size H) o := by simp [backV, ren, backN, size_eq]
  rw [e1, e2, e3] at h
  exact h

end
end Go.Vm
