/-
  A VERIFIED SYMBOLIC MACHINE, PART Lp: loops.
-/
import Derived.Test.YtfmhlogapbpnbaaVmZ
namespace Go.Vm
noncomputable section

/-- The same state, less of it known. -/
structure Weak (n0 : Nat) (fr : Fr) (H : Hl) (fr' : Fr) (H' : Hl) : Prop where
  grow : n0 ≤ H'.length
  does : ∀ (ρ : Rho) (w : World), HRel ρ w (fun b => H[b]?) → ∃ ρ', HRel ρ' w (fun b => H'[b]?) ∧ Ext n0 ρ w ρ' w ∧ ∀ tmps, FRel ρ w fr tmps → FRel ρ' w fr' tmps

theorem Weak.refl {n0 : Nat} {fr : Fr} {H : Hl} (h : n0 ≤ H.length) : Weak n0 fr H fr H := ⟨h, fun ρ w hg => ⟨ρ, hg, Ext.refl _ _ _, fun _ h => h⟩⟩

/-- Slots that are of no use any more. -/
def forget : List Bool → Fr → Fr
  | true :: bs, _ :: fr => .top :: forget bs fr
  | false :: bs, x :: fr => x :: forget bs fr
  | _, fr => fr

theorem forget_rel {ρ : Rho} {w : World} : ∀ {bs : List Bool} {fr : Fr} {vs : List Value}, VRels ρ w fr vs → VRels ρ w (forget bs fr) vs
  | [], fr, vs, h => by cases fr <;> exact h
  | true :: bs, [], vs, h => h
  | false :: bs, [], vs, h => h
  | true :: bs, x :: fr, vs, h => by
    cases vs with
    | nil => have := h.len; simp at this
    | cons v vs => exact .cons (.top v) (forget_rel h.tail)
  | false :: bs, x :: fr, vs, h => by
    cases vs with
    | nil => have := h.len; simp at this
    | cons v vs => exact .cons h.head (forget_rel h.tail)

/-- Some blocks under new names, some slots forgotten. (The first n0 blocks keep their names.) -/
def wkF (ids : List Nat) (bs : List Bool) (fr : Fr) : Fr := forget bs (renL (pickN ids) noView true fr)
def wkH (ids : List Nat) (H : Hl) : Hl := pickH noView ids H

theorem Weak.pick {n0 : Nat} {fr : Fr} {H : Hl} (ids : List Nat) (bs : List Bool) (hn : ids.Nodup) (hlt : ∀ b, b ∈ ids → b < H.length) (h0 : ∀ b, b < n0 → ids[b]? = some b) :
    Weak n0 fr H (wkF ids bs fr) (wkH ids H) where
  grow := by
    simp only [wkH, pickH, List.length_map]
    rcases Nat.eq_zero_or_pos n0 with h | h
    · omega
    · have := (List.getElem?_eq_some_iff.1 (h0 (n0 - 1) (by omega))).1
      omega
  does ρ w hg := by
    refine ⟨pickR ids ρ, hg.pick hn hlt (noView_ok _ _ _ _), ⟨Nat.le_refl _, rfl, rfl, rfl, fun _ _ _ => rfl, fun b hb _ => .inl ?_, fun b B F hl => ?_, fun _ _ => rfl⟩, fun tmps h => ?_⟩
    · simp [pickR, h0 b hb]
    · obtain ⟨b', _, e⟩ := pickR_own hl
      exact .inr ⟨b', F, e⟩
    · exact forget_rel (rens_rel (fun b c => pickR_of) (fun _ c B F h => let ⟨b, _, e⟩ := pickR_own h; ⟨b, F, e⟩) (noView_ok _ _ _ _) h)

theorem Weak.forget {n0 : Nat} {fr : Fr} {H : Hl} (h : n0 ≤ H.length) (bs : List Bool) : Weak n0 fr H (forget bs fr) H := ⟨h, fun ρ w hg => ⟨ρ, hg, Ext.refl _ _ _, fun _ h => forget_rel h⟩⟩

theorem Goes.post {W : (Exit → Act → World → Prop) → Act → World → Prop} {n0 : Nat} {fr fr1 fr2 : Fr} {H H1 H2 : Hl} {lg lg1 : List Nat} {e : Exit} (h : Goes W n0 fr H lg e fr1 H1 lg1) (k : Weak n0 fr1 H1 fr2 H2) : Goes W n0 fr H lg e fr2 H2 (List.range n0 ++ lg1) where
  grow := k.grow
  sub b hb := List.mem_append_right _ (h.sub b hb)
  keep b hb hn := absurd (List.mem_append_left _ (List.mem_range.2 hb)) hn
  does ρ w a Q hg hf hQ := h.does ρ w a Q hg hf fun a' w' ρ' h1 h2 h3 h4 => by
    obtain ⟨ρ2, g1, g2, g3⟩ := k.does ρ' w' h1
    exact hQ a' w' ρ2 g1 (g3 _ h2) h3 (h4.trans g2)

theorem Goes.pre {W : (Exit → Act → World → Prop) → Act → World → Prop} {n0 : Nat} {fr fr1 fr2 : Fr} {H H1 H2 : Hl} {lg lg2 : List Nat} {e : Exit} (k : Weak n0 fr H fr1 H1) (h : Goes W n0 fr1 H1 lg e fr2 H2 lg2) : Goes W n0 fr H lg e fr2 H2 (List.range n0 ++ lg2) where
  grow := h.grow
  sub b hb := List.mem_append_right _ (h.sub b hb)
  keep b hb hn := absurd (List.mem_append_left _ (List.mem_range.2 hb)) hn
  does ρ w a Q hg hf hQ := by
    obtain ⟨ρ1, g1, g2, g3⟩ := k.does ρ w hg
    exact h.does ρ1 w a Q g1 (g3 _ hf) fun a' w' ρ' h1 h2 h3 h4 => hQ a' w' ρ' h1 h2 h3 (g2.trans h4)

theorem Goes.log {W : (Exit → Act → World → Prop) → Act → World → Prop} {n0 : Nat} {fr fr1 : Fr} {H H1 : Hl} {lg lg1 lg2 : List Nat} {e : Exit} (h : Goes W n0 fr H lg e fr1 H1 lg1) (hs : ∀ b, b ∈ lg → b ∈ lg2)
    (hk : ∀ b, b < n0 → b ∉ lg2 → H1[b]? = H[b]?) : Goes W n0 fr H lg e fr1 H1 lg2 := ⟨h.grow, hs, hk, h.does⟩

/-- What a loop's body comes to. -/
def BodyTo (P : Program) (n0 : Nat) (b : VC) (fr : Fr) (H : Hl) (ex : Ex) (fr' : Fr) (H' : Hl) : Prop :=
  ∀ c, compile P c = b → ∃ lg', Goes (c.wp P) n0 fr H [] (exitOf ex) fr' H' lg'

abbrev OutC := Ex × Fr × Hl × List Nat
def optC (C : Con) : Alg (Option OutC) := stdA (Option OutC) none (conF none C)
/-- The end of a body: some blocks under new names, some slots forgotten. -/
def bodyK (n0 : Nat) (ids : List Nat) (bs : List Bool) : Ex → Fr → Hl → List Nat → Option OutC := fun ex fr H _ => some (ex, wkF ids bs fr, wkH ids H, [n0, size H])

theorem body_run {P : Program} {C : Con} (hC : ConOK P C) {T : Nat → Option VF} (hT : ∀ f vf, T f = some vf → FnOK P f vf) {n n0 : Nat} {b : VC} {fr fr' : Fr} {H H' : Hl} {ex : Ex} {ids : List Nat} {bs : List Bool} {sz : Nat}
    (h : vm (optC C) ops0 T n n0 b fr H [] (bodyK n0 ids bs) = some (ex, fr', H', [n0, sz])) (h0 : n0 ≤ H.length) (hn : ids.Nodup) (hlt : ∀ b, b ∈ ids → b < sz) (hid : ∀ b, b < n0 → ids[b]? = some b) : BodyTo P n0 b fr H ex fr' H' := by
  intro c hc
  subst hc
  have hfine : (optC C).Fine P (fun x => x = some (ex, fr', H', [n0, sz])) := stdA_fine (by simp) (conF_ok (by simp) hC)
  obtain ⟨ex1, fr1, H1, lg1, hg, e⟩ := (vm_sound hfine hT n).1 c n0 fr H [] _ h0 h
  unfold bodyK at e
  simp only [Option.some.injEq, Prod.mk.injEq, List.cons.injEq, and_true, true_and] at e
  obtain ⟨e1, e2, e3, e4⟩ := e
  subst e1; subst e2; subst e3
  rw [size_eq] at e4
  exact ⟨_, hg.post (Weak.pick ids bs hn (by rw [e4]; exact hlt) hid)⟩

/-- The end of a body: some slots forgotten. -/
def bodyF (bs : List Bool) : Ex → Fr → Hl → List Nat → Option OutC := fun ex fr H _ => some (ex, forget bs fr, H, [])

theorem body_forget {P : Program} {C : Con} (hC : ConOK P C) {T : Nat → Option VF} (hT : ∀ f vf, T f = some vf → FnOK P f vf) {n n0 : Nat} {b : VC} {fr fr' : Fr} {H H' : Hl} {ex : Ex} {bs : List Bool}
    (h : vm (optC C) ops0 T n n0 b fr H [] (bodyF bs) = some (ex, fr', H', [])) (h0 : n0 ≤ H.length) : BodyTo P n0 b fr H ex fr' H' := by
  intro c hc
  subst hc
  have hfine : (optC C).Fine P (fun x => x = some (ex, fr', H', [])) := stdA_fine (by simp) (conF_ok (by simp) hC)
  obtain ⟨ex1, fr1, H1, lg1, hg, e⟩ := (vm_sound hfine hT n).1 c n0 fr H [] _ h0 h
  unfold bodyF at e
  simp only [Option.some.injEq, Prod.mk.injEq, and_true] at e
  obtain ⟨e1, e2, e3⟩ := e
  subst e1; subst e2; subst e3
  exact ⟨_, hg.post (Weak.forget hg.grow bs)⟩

def noTab (_ : Nat) : Option VF := none
theorem noTab_ok (P : Program) : ∀ f vf, noTab f = some vf → FnOK P f vf := fun _ _ h => by cases h

def tabOne (f : Nat) (vf : VF) (g : Nat) : Option VF := match Nat.beq g f with
  | true => some vf
  | false => none
theorem tabOne_ok {P : Program} {f : Nat} {vf : VF} (h : FnOK P f vf) : ∀ g v, tabOne f vf g = some v → FnOK P g v := by
  intro g v e
  unfold tabOne at e
  split at e <;> cases e
  rename_i hb
  have := Nat.eq_of_beq_eq_true hb
  subst this
  exact h
theorem tabOne_self (f : Nat) (vf : VF) : tabOne f vf f = some vf := by simp [tabOne, Nat.beq_refl]

/-- A LOOP that goes through the states S 0, S 1, .. -/
theorem loop_chain {P : Program} {n0 : Nat} {b : VC} {ex : Ex} {fr' : Fr} {H' : Hl} (hex : ex ≠ .norm) (S : Nat → Fr × Hl) : ∀ (d i : Nat), (∀ j, i ≤ j → j < i + d → BodyTo P n0 b (S j).1 (S j).2 .norm (S (j + 1)).1 (S (j + 1)).2) →
    BodyTo P n0 b (S (i + d)).1 (S (i + d)).2 ex fr' H' → ∀ lg, LoopTo P n0 b (S i).1 (S i).2 lg ex fr' H' (List.range n0 ++ lg) := by
  have logs : ∀ {W n0 fr H lg e fr1 H1 lg1}, Goes W n0 fr H [] e fr1 H1 lg1 → Goes W n0 fr H lg e fr1 H1 (List.range n0 ++ lg) := by
    intro W n0 fr H lg e fr1 H1 lg1 h
    exact ⟨h.grow, fun b hb => List.mem_append_right _ hb, fun b hb hn => absurd (List.mem_append_left _ (List.mem_range.2 hb)) hn, h.does⟩
  intro d
  induction d with
  | zero =>
    intro i _ hend lg c hc
    obtain ⟨lg1, hg⟩ := hend c hc
    have h1 : Goes (LoopWp P c) n0 (S i).1 (S i).2 [] (exitOf ex) fr' H' lg1 := hg.weak fun Q a w hw => LoopWp.step (wp_mono hw (by
      rintro e a w ⟨rfl, h⟩
      cases ex with
      | norm => exact absurd rfl hex
      | ret => exact h
      | exit id => exact h))
    exact logs h1
  | succ d ih =>
    intro i hround hend lg c hc
    have hl := ih (i + 1) (fun j h1 h2 => hround j (by omega) (by omega)) (by rw [show i + 1 + d = i + (d + 1) by omega]; exact hend) (List.range n0 ++ lg)
    obtain ⟨lg1, hg⟩ := hround i (Nat.le_refl _) (by omega) c hc
    have h1 : Goes (c.wp P) n0 (S i).1 (S i).2 lg .normal (S (i + 1)).1 (S (i + 1)).2 (List.range n0 ++ lg) := logs hg
    exact (h1.trans (hl c hc) fun Q a w hw => LoopWp.step (wp_mono hw (by rintro e a w ⟨rfl, h⟩; exact h))).log (fun b hb => List.mem_append_right _ hb)
      (fun b hb hn => absurd (List.mem_append_left _ (List.mem_range.2 hb)) hn)

theorem LoopTo.pre {P : Program} {n0 : Nat} {b : VC} {fr fr1 fr' : Fr} {H H1 H' : Hl} {ex : Ex} (k : Weak n0 fr H fr1 H1) (h : ∀ lg, LoopTo P n0 b fr1 H1 lg ex fr' H' (List.range n0 ++ lg)) : ∀ lg, LoopTo P n0 b fr H lg ex fr' H' (List.range n0 ++ lg) :=
  fun lg c hc => (Goes.pre k (h lg c hc)).log (fun b hb => List.mem_append_right _ hb) (fun b hb hn => absurd (List.mem_append_left _ (List.mem_range.2 hb)) hn)

/-- A loop, unrolled. -/
theorem loop_run {P : Program} {C : Con} (hC : ConOK P C) {T : Nat → Option VF} (hT : ∀ f vf, T f = some vf → FnOK P f vf) {n n0 : Nat} {b : VC} {fr fr' : Fr} {H H' : Hl} {ex : Ex} {bs : List Bool}
    (h : vm (optC C) ops0 T n n0 (.loop b) fr H [] (bodyF bs) = some (ex, fr', H', [])) (h0 : n0 ≤ H.length) : ∀ lg, LoopTo P n0 b fr H lg ex fr' H' (List.range n0 ++ lg) := by
  intro lg c hc
  subst hc
  have hfine : (optC C).Fine P (fun x => x = some (ex, fr', H', [])) := stdA_fine (by simp) (conF_ok (by simp) hC)
  obtain ⟨ex1, fr1, H1, lg1, hg, e⟩ := (vm_sound hfine hT n).2 c n0 fr H [] _ h0 h
  unfold bodyF at e
  simp only [Option.some.injEq, Prod.mk.injEq, and_true] at e
  obtain ⟨e1, e2, e3⟩ := e
  subst e1; subst e2; subst e3
  have h2 := hg.post (Weak.forget hg.grow bs)
  exact ⟨h2.grow, fun b hb => List.mem_append_right _ hb, fun b hb hn => absurd (List.mem_append_left _ (List.mem_range.2 hb)) hn, h2.does⟩

/-- A loop whose end is known. -/
structure Lent where
  n0 : Nat
  b : VC
  fr : Fr
  H : Hl
  ex : Ex
  fr' : Fr
  H' : Hl
def Lent.OK (P : Program) (e : Lent) : Prop := ∀ lg, LoopTo P e.n0 e.b e.fr e.H lg e.ex e.fr' e.H' (List.range e.n0 ++ lg)

/-- Statements; loops by what is known of them (E says which: where it says none they are unrolled). -/
def propL (C : Con) (E : Fr → Hl → Option Lent) : Alg Prop := { stdA Prop False (conF False C) with
  loop := fun n0 b fr H lg k u => match E fr H with
    | some e => n0 = e.n0 ∧ b = e.b ∧ fr = e.fr ∧ H = e.H ∧ k e.ex e.fr' e.H' (List.range e.n0 ++ lg)
    | none => u () }

theorem propL_fine {P : Program} {C : Con} (hC : ConOK P C) {E : Fr → Hl → Option Lent} (hE : ∀ fr H e, E fr H = some e → e.OK P) : (propL C E).Fine P (fun p => p) :=
  have h := stdA_fine (R := Prop) (ff := False) (holds := fun p => p) (P := P) (fun h => h) (conF_ok (ff := False) (fun h => h) hC)
  { fail := h.fail, chk := h.chk, br := h.br, get := h.get, flo := h.flo, ints := h.ints, byts := h.byts, call := h.call
    loop := fun n0 b fr H lg k u _ hh => by
      have hh : match E fr H with
        | some e => n0 = e.n0 ∧ b = e.b ∧ fr = e.fr ∧ H = e.H ∧ k e.ex e.fr' e.H' (List.range e.n0 ++ lg)
        | none => u () := hh
      split at hh
      · rename_i e he
        obtain ⟨rfl, rfl, rfl, rfl, hk⟩ := hh
        exact .inr ⟨_, _, _, _, hE _ _ e he lg, hk⟩
      · exact .inl hh }

theorem call_loop {P : Program} {C : Con} (hC : ConOK P C) {E : Fr → Hl → Option Lent} (hE : ∀ fr H e, E fr H = some e → e.OK P) {T : Nat → Option VF} (hT : ∀ f vf, T f = some vf → FnOK P f vf) {f n : Nat} {vf : VF} (hf : T f = some vf) {vals : List AV} {H H0 : Hl} {r0 : AV} (m : Nat) (lg0 : List Nat)
    (h : vcall (propL C E) ops0 T n vf vals H (fun r H lg => cutK m r H lg = some (r0, H0, []))) (h1 : H.length ≤ m) (hk : ∀ b, b < H.length → b ∉ lg0 → H0[b]? = H[b]?) : CallTo P f vals H r0 H0 lg0 := by
  obtain ⟨r, H', lg, hc, e⟩ := vcall_sound (propL_fine hC hE) hT (hT f vf hf) (holds := fun p => p) h
  unfold cutK at e
  split at e <;> cases e
  rename_i hm
  rw [size_eq] at hm
  exact hc.cut m h1 (Nat.le_of_ble_eq_true hm) hk

end
end Go.Vm
