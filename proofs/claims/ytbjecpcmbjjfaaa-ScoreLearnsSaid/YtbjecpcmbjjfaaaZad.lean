/-
  A VERIFIED SYMBOLIC MACHINE, PART Z: a contract in another memory.
-/
import Derived.Test.YtbjecpcmbjjfaaaZac
import Derived.Below
import Derived.Test.YtbjecpcmbjjfaaaRows
import Derived.ProofKit
import Derived.OpenShut
import Derived.JoinedCond
import Derived.Laws.FloatArith

namespace Go.Vm
noncomputable section

/-! ### New blocks forgotten -/

def cutH (m : Nat) (H : Hl) : Hl := pickH noView (List.range m) H
def cutV (m : Nat) (r : AV) : AV := ren (pickN (List.range m)) noView true r

theorem pick_range {m b c : Nat} (h : pickN (List.range m) b = some c) : c = b ∧ b < m := by
  have := (placeIn_some h).2
  rw [Nat.sub_zero] at this
  obtain ⟨h1, h2⟩ := List.getElem?_eq_some_iff.1 this
  simp at h1 h2
  omega

theorem pickR_range (m : Nat) (ρ : Rho) (b : Nat) : pickR (List.range m) ρ b = if b < m then ρ b else .unborn := by
  unfold pickR
  by_cases h : b < m
  · simp [h]
  · simp [h]

theorem CallTo.cut {P : Program} {f : Nat} {vals : List AV} {H H' : Hl} {r : AV} {lg lg0 : List Nat} (hc : CallTo P f vals H r H' lg) (m : Nat) (h1 : H.length ≤ m) (h2 : m ≤ H'.length)
    (hk : ∀ b, b < H.length → b ∉ lg0 → (cutH m H')[b]? = H[b]?) : CallTo P f vals H (cutV m r) (cutH m H') lg0 where
  real := hc.real
  grow := by simpa [cutH, pickH] using h1
  keep := hk
  does ρ w us hg hv := (hc.does ρ w us hg hv).mono fun e w' h => by
    obtain ⟨v, ρ', rfl, g1, g2, g3⟩ := h
    refine ⟨v, pickR (List.range m) ρ', rfl, g1.pick List.nodup_range (fun b hb => Nat.lt_of_lt_of_le (List.mem_range.1 hb) h2) (noView_ok _ _ _ _),
      ren_rel (fun b c => pickR_of) (fun _ c B F h => let ⟨b, _, e⟩ := pickR_own h; ⟨b, F, e⟩) (noView_ok _ _ _ _) g2, ⟨g3.size, g3.os, g3.tape, g3.output, g3.keep, fun b hb hn => ?_, fun b B F hl => ?_, g3.rows⟩⟩
    · rw [pickR_range, if_pos (by omega)]
      exact g3.slot b hb hn
    · rw [pickR_range] at hl
      split at hl
      · exact g3.fresh b B F hl
      · cases hl

/-- What is handed out, and the first m blocks. -/
def cutK (m : Nat) : AV → Hl → List Nat → Option Out := fun r H _ => match Nat.ble m (size H) with
  | true => some (cutV m r, cutH m H, [])
  | false => none

theorem call_cut {P : Program} {C : Con} (hC : ConOK P C) {T : Nat → Option VF} (hT : ∀ f vf, T f = some vf → FnOK P f vf) {f n : Nat} {vf : VF} (hf : T f = some vf) {vals : List AV} {H H0 : Hl} {r0 : AV} (m : Nat) (lg0 : List Nat)
    (h : vcall (optA C) ops0 T n vf vals H (cutK m) = some (r0, H0, [])) (h1 : H.length ≤ m) (hk : ∀ b, b < H.length → b ∉ lg0 → H0[b]? = H[b]?) : CallTo P f vals H r0 H0 lg0 := by
  have hfine : (optA C).Fine P (fun x => x = some (r0, H0, [])) := stdA_fine (by simp) (conF_ok (by simp) hC)
  obtain ⟨r, H', lg, hc, e⟩ := vcall_sound hfine hT (hT f vf hf) (holds := fun x => x = some (r0, H0, [])) h
  unfold cutK at e
  split at e <;> cases e
  rename_i hm
  rw [size_eq] at hm
  exact hc.cut m h1 (Nat.le_of_ble_eq_true hm) hk

/-! ### In a greater memory -/

/-- What lies in the caller's other blocks, to be looked at (blocks within blocks: n deep). -/
def viewF (H : Hl) (ids : List Nat) : Nat → Nat → Option (List AV)
  | 0, _ => none
  | n + 1, b => match H[b]? with
    | some (.cells cs) => some (renL (pickN ids) (viewF H ids n) true cs)
    | _ => none

theorem viewF_ok {ρ : Rho} {w : World} {H : Hl} (hg : HRel ρ w (fun b => H[b]?)) {ids : List Nat} : ∀ n, Views ρ (pickR ids ρ) w (pickN ids) (viewF H ids n)
  | 0 => ⟨fun b cs _ h => (by cases h), fun b cs h => (by cases h)⟩
  | n + 1 => by
    have ih := viewF_ok hg (ids := ids) n
    refine ⟨fun b cs hb h => ?_, fun b cs h => ?_⟩
    · unfold viewF at h
      split at h <;> first | cases h | skip
      rename_i cs0 hH
      rcases hg.live b cs0 hH with ⟨h1, h2⟩ | ⟨B, F, c, el, lo, hi, h1, h2, h3, h4, h5⟩
      · subst h2; exact .inl ⟨h1, by simp [renL]⟩
      · refine .inr (.inr ?_)
        obtain ⟨vs, k1, k2, k3, k4⟩ := Lies.values (show Lies ρ w cs0 F c from h5)
        refine ⟨B, F, vs, h1, hg.lt h1, fun c' F' hl => ?_, by rw [renL_length]; exact k1, k4, fun i v hv => ?_, fun i a v ha hv => ?_⟩
        · obtain ⟨b', hb', e⟩ := pickR_own hl
          have := hg.inj b b' B F F' h1 e
          subst this
          exact placeIn_none hb (List.mem_of_getElem? hb')
        · rw [cell_at h2]; exact k2 i v hv
        · rw [renL_get] at ha
          obtain ⟨x, hx, e⟩ := Option.map_eq_some_iff.1 ha
          subst e
          obtain ⟨u, q1, _, q3⟩ := k3 i x hx
          have : v = u := by
            simp only [Nat.zero_add, List.getElem?_toArray] at q1
            exact Option.some.inj (hv.symm.trans q1)
          subst this
          exact ren_rel (fun b c => pickR_of) (fun _ c B F h => let ⟨b, _, e⟩ := pickR_own h; ⟨b, F, e⟩) ih q3
    · unfold viewF at h
      split at h <;> first | cases h | skip
      rename_i cs0 hH
      rcases hg.live b cs0 hH with ⟨h1, h2⟩ | ⟨B, F, c, el, lo, hi, h1, h2, h3, h4, h5⟩ <;> rw [h1] <;> simp

/-- The names back. -/
def backN (ids : List Nat) (n : Nat) : Nat → Option Nat := fun c => match ids[c]? with
  | some b => some b
  | none => some (n + (c - ids.length))
def backV (ids : List Nat) (n : Nat) (r : AV) : AV := ren (backN ids n) noView false r
def backB (ids : List Nat) (n : Nat) (k : Blk) : Blk := renB (backN ids n) noView false k
def backR (ids : List Nat) (n : Nat) (ρ ρ0 : Rho) : Rho := fun b => match placeIn b 0 ids with
  | some c => ρ0 c
  | none => if b < n then ρ b else ρ0 (ids.length + (b - n))
def oldH (ids : List Nat) (n : Nat) (H H0 : Hl) : Hl := (List.range n).map fun b => match placeIn b 0 ids with
  | some c => backB ids n (H0[c]?.getD .dead)
  | none => H[b]?.getD .dead
def backH (ids : List Nat) (H H0 : Hl) : Hl := oldH ids H.length H H0 ++ (H0.drop ids.length).map (backB ids H.length)
def backL (ids : List Nat) (lg : List Nat) : List Nat := lg.filterMap fun c => ids[c]?

theorem backH_get (ids : List Nat) (H H0 : Hl) (b : Nat) : (backH ids H H0)[b]? = if b < H.length then (match placeIn b 0 ids with
    | some c => some (backB ids H.length (H0[c]?.getD .dead))
    | none => H[b]?) else (H0[ids.length + (b - H.length)]?).map (backB ids H.length) := by
  unfold backH
  by_cases h : b < H.length
  · rw [if_pos h, List.getElem?_append_left (by simpa [oldH] using h)]
    simp only [oldH, List.getElem?_map, List.getElem?_range h, Option.map_some]
    cases placeIn b 0 ids with
    | some c => rfl
    | none => simp [h]
  · rw [if_neg h, List.getElem?_append_right (by simpa [oldH] using h)]
    simp [oldH]

theorem CallTo.frame {P : Program} {f : Nat} {vals : List AV} {H H0 : Hl} {r0 : AV} {lg0 : List Nat} (ids : List Nat) (n : Nat) (hn : ids.Nodup) (hlt : ∀ b, b ∈ ids → b < H.length)
    (hc : CallTo P f (renL (pickN ids) (viewF H ids n) true vals) (pickH (viewF H ids n) ids H) r0 H0 lg0)
    (hk : ∀ b c, placeIn b 0 ids = some c → c ∉ lg0 → some (backB ids H.length (H0[c]?.getD .dead)) = H[b]?) :
    CallTo P f vals H (backV ids H.length r0) (backH ids H H0) (backL ids lg0) where
  real := hc.real
  grow := by simp [backH, oldH]
  keep b hb hn' := by
    rw [backH_get, if_pos hb]
    split
    · rename_i c hp
      refine hk b c hp fun h => hn' ?_
      have := (placeIn_some hp).2
      rw [Nat.sub_zero] at this
      exact List.mem_filterMap.2 ⟨c, h, this⟩
    · rfl
  does ρ w us hg hv := by
    have hV := viewF_ok hg (ids := ids) n
    have hlen : (pickH (viewF H ids n) ids H).length = ids.length := by simp [pickH]
    refine (hc.does (pickR ids ρ) w us (hg.pick hn hlt hV) (rens_rel (fun b c => pickR_of) (fun _ c B F h => let ⟨b, _, e⟩ := pickR_own h; ⟨b, F, e⟩) hV hv)).mono fun e w' h => ?_
    obtain ⟨v, ρ0, rfl, g1, g2, g3⟩ := h
    rw [hlen] at g3
    have grow : ids.length ≤ H0.length := by have := hc.grow; rwa [hlen] at this
    -- the names
    have name : ∀ c b, backN ids H.length c = some b → backR ids H.length ρ ρ0 b = ρ0 c := by
      intro c b h
      unfold backN at h
      split at h
      · rename_i b' hb'
        cases h
        simp [backR, placeIn_at hn hb']
      · rename_i hb'
        cases h
        have hcl : ids.length ≤ c := by simpa using hb'
        have hp : placeIn (H.length + (c - ids.length)) 0 ids = none := by
          cases hp : placeIn (H.length + (c - ids.length)) 0 ids with
          | none => rfl
          | some d =>
            have := (placeIn_some hp).2
            have := hlt _ (List.mem_of_getElem? this)
            omega
        simp only [backR, hp]
        rw [if_neg (by omega), show ids.length + (H.length + (c - ids.length) - H.length) = c by omega]
    have own : ∀ b B F, backR ids H.length ρ ρ0 b = .live B F → (∃ c, ρ0 c = .live B F ∧ (placeIn b 0 ids = some c ∨ (placeIn b 0 ids = none ∧ H.length ≤ b ∧ c = ids.length + (b - H.length)))) ∨ (b < H.length ∧ placeIn b 0 ids = none ∧ ρ b = .live B F) := by
      intro b B F h
      unfold backR at h
      split at h
      · rename_i c hp; exact .inl ⟨c, h, .inl hp⟩
      · rename_i hp
        split at h
        · rename_i hb; exact .inr ⟨hb, hp, h⟩
        · rename_i hb; exact .inl ⟨_, h, .inr ⟨hp, by omega, rfl⟩⟩
    -- what the callee owns is new, or was picked
    have far : ∀ c B F b F', ρ0 c = .live B F → ρ b = .live B F' → placeIn b 0 ids = none → False := by
      intro c B F b F' h1 h2 h3
      rcases g3.fresh c B F h1 with h | ⟨c', F2, h⟩
      · have := hg.lt h2; omega
      · obtain ⟨b', hb', e⟩ := pickR_own h
        have := hg.inj b b' B F' F2 h2 e
        subst this
        exact placeIn_none h3 (List.mem_of_getElem? hb')
    have unown : ∀ b B F, b < H.length → placeIn b 0 ids = none → ρ b = .live B F → ∀ c F', pickR ids ρ c ≠ .live B F' := by
      intro b B F hb hp hl c F' h
      obtain ⟨b', hb', e⟩ := pickR_own h
      have := hg.inj b b' B F F' hl e
      subst this
      exact placeIn_none hp (List.mem_of_getElem? hb')
    have E : Ext H.length ρ w (backR ids H.length ρ ρ0) w' := by
      refine ⟨g3.size, g3.os, g3.tape, g3.output, fun B hB hu => g3.keep B hB fun c F h => ?_, fun b hb hn' => ?_, fun b B F hl => ?_, g3.rows⟩
      · obtain ⟨b, _, e⟩ := pickR_own h
        exact hu b F e
      · unfold backR
        split
        · rename_i c hp
          have hpr := pickR_of (ρ := ρ) hp
          have hc' : c < ids.length := by
            have := (placeIn_some hp).2
            rw [Nat.sub_zero] at this
            exact (List.getElem?_eq_some_iff.1 this).1
          rw [← hpr]
          exact g3.slot c hc' (by rw [hpr]; exact hn')
        · rw [if_pos hb]; exact .inl rfl
      · rcases own b B F hl with ⟨c, h, _⟩ | ⟨_, _, h⟩
        · rcases g3.fresh c B F h with h' | ⟨c', F', h'⟩
          · exact .inl h'
          · obtain ⟨b', _, e⟩ := pickR_own h'
            exact .inr ⟨b', F', e⟩
        · exact .inr ⟨b, F, h⟩
    have renv : ∀ {a : AV} {v : Value}, VRel ρ0 w' a v → VRel (backR ids H.length ρ ρ0) w' (ren (backN ids H.length) noView false a) v := fun h =>
      ren_rel (fun b c => name b c) (fun h => by cases h) (noView_ok _ _ _ _) h
    have monov : ∀ {a : AV} {v : Value}, VRel ρ w a v → VRel (backR ids H.length ρ ρ0) w' a v := fun h =>
      h.mono E fun b hb => by
        rcases Nat.lt_or_ge b H.length with h' | h'
        · exact h'
        · exact absurd (hg.unborn b (List.getElem?_eq_none h')) hb
    refine ⟨v, backR ids H.length ρ ρ0, rfl, ⟨fun b h => ?_, fun b h => ?_, fun b b' B F F' h h' => ?_, fun b cs h => ?_, fun b B F c e lo hi h h' => ?_⟩, renv g2, E⟩
    case refine_5 =>
      rcases own b B F h with ⟨c', h1, _⟩ | ⟨h1, h2, h3⟩
      · exact g1.marks c' B F c e lo hi h1 h'
      · rw [g3.keep B (hg.lt h3) (unown b B F h1 h2 h3)] at h'
        exact hg.marks b B F c e lo hi h3 h'
    · simp only [backH_get] at h
      unfold backR
      split at h
      · rename_i hb
        split at h
        · cases h
        · rw [if_pos hb]
          exact hg.unborn b h
      · rename_i hb
        have hp : placeIn b 0 ids = none := by
          cases hp : placeIn b 0 ids with
          | none => rfl
          | some d =>
            have := (placeIn_some hp).2
            have := hlt _ (List.mem_of_getElem? this)
            omega
        rw [hp]
        simp only
        rw [if_neg hb]
        exact g1.unborn _ (by simpa using h)
    · simp only [backH_get] at h
      unfold backR
      split at h
      · rename_i hb
        split at h
        · rename_i c hp
          have hc' : c < H0.length := by
            have := (placeIn_some hp).2
            rw [Nat.sub_zero] at this
            have := (List.getElem?_eq_some_iff.1 this).1
            omega
          simp only [hc', List.getElem?_eq_getElem, Option.getD_some, Option.some.injEq] at h
          apply g1.dead
          rw [List.getElem?_eq_getElem hc']
          cases hk' : H0[c] with
          | dead => rfl
          | cells cs => rw [hk'] at h; cases h
        · rw [if_pos hb]
          exact hg.dead b h
      · rename_i hb
        have hp : placeIn b 0 ids = none := by
          cases hp : placeIn b 0 ids with
          | none => rfl
          | some d =>
            have := (placeIn_some hp).2
            have := hlt _ (List.mem_of_getElem? this)
            omega
        rw [hp]
        simp only
        rw [if_neg hb]
        obtain ⟨k, hk1, hk2⟩ := Option.map_eq_some_iff.1 h
        apply g1.dead
        rw [hk1]
        cases k with
        | dead => rfl
        | cells cs => cases hk2
    · rcases own b B F h with ⟨c, h1, h2⟩ | ⟨h1, h2, h3⟩
      · rcases own b' B F' h' with ⟨c', k1, k2⟩ | ⟨k1, k2, k3⟩
        · have := g1.inj c c' B F F' h1 k1
          subst this
          rcases h2 with h2 | ⟨h2, h3, h4⟩
          · rcases k2 with k2 | ⟨k2, k3, k4⟩
            · have a1 := (placeIn_some h2).2
              have a2 := (placeIn_some k2).2
              rw [a1] at a2
              exact Option.some.inj a2
            · have a1 := (placeIn_some h2).2
              rw [Nat.sub_zero] at a1
              have := (List.getElem?_eq_some_iff.1 a1).1
              omega
          · rcases k2 with k2 | ⟨k2, k3, k4⟩
            · have a1 := (placeIn_some k2).2
              rw [Nat.sub_zero] at a1
              have := (List.getElem?_eq_some_iff.1 a1).1
              omega
            · omega
        · exact (far c B F b' F' h1 k3 k2).elim
      · rcases own b' B F' h' with ⟨c', k1, k2⟩ | ⟨k1, k2, k3⟩
        · exact (far c' B F' b F k1 h3 h2).elim
        · exact hg.inj b b' B F F' h3 k3
    · -- a block of the callee's, under its name
      have key : ∀ c k, H0[c]? = some k → backB ids H.length k = .cells cs → backR ids H.length ρ ρ0 b = ρ0 c →
          (backR ids H.length ρ ρ0 b = .void ∧ cs = []) ∨ ∃ B F cc elem lo hi, backR ids H.length ρ ρ0 b = .live B F ∧ w'.heap[B]? = some (.cells cc elem (lo, hi)) ∧ F + cs.length ≤ cc.size ∧
            (∀ j, F ≤ j → j < cc.size → ¬ (lo ≤ j ∧ j < hi)) ∧ (∀ i a, cs[i]? = some a → ∃ v, cc[F + i]? = some v ∧ vone v = true ∧ VRel (backR ids H.length ρ ρ0) w' a v) := by
        intro c k hk1 hk2 hr
        cases k with
        | dead => cases hk2
        | cells cs0 =>
          have e : renL (backN ids H.length) noView false cs0 = cs := by cases hk2; rfl
          subst e
          rcases g1.live c cs0 hk1 with ⟨h1, h2⟩ | ⟨B, F, cc, el, lo, hi, h1, h2, h3, h4, h5⟩
          · subst h2; exact .inl ⟨hr.trans h1, by simp [renL]⟩
          · refine .inr ⟨B, F, cc, el, lo, hi, hr.trans h1, h2, by rw [renL_length]; exact h3, h4, fun i a ha => ?_⟩
            rw [renL_get] at ha
            obtain ⟨x, hx, e⟩ := Option.map_eq_some_iff.1 ha
            subst e
            obtain ⟨v, q1, q2, q3⟩ := h5 i x hx
            exact ⟨v, q1, q2, renv q3⟩
      simp only [backH_get] at h
      split at h
      · rename_i hb
        split at h
        · rename_i c hp
          have hc' : c < H0.length := by
            have := (placeIn_some hp).2
            rw [Nat.sub_zero] at this
            have := (List.getElem?_eq_some_iff.1 this).1
            omega
          simp only [hc', List.getElem?_eq_getElem, Option.getD_some, Option.some.injEq] at h
          exact key c H0[c] (List.getElem?_eq_getElem hc') h (by simp [backR, hp])
        · rename_i hp
          have hr : backR ids H.length ρ ρ0 b = ρ b := by simp [backR, hp, hb]
          rcases hg.live b cs h with ⟨h1, h2⟩ | ⟨B, F, cc, el, lo, hi, h1, h2, h3, h4, h5⟩
          · exact .inl ⟨hr.trans h1, h2⟩
          · refine .inr ⟨B, F, cc, el, lo, hi, hr.trans h1, ?_, h3, h4, fun i a ha => ?_⟩
            · rw [g3.keep B (hg.lt h1) (unown b B F hb hp h1)]
              exact h2
            · obtain ⟨v, q1, q2, q3⟩ := h5 i a ha
              exact ⟨v, q1, q2, monov q3⟩
      · rename_i hb
        have hp : placeIn b 0 ids = none := by
          cases hp : placeIn b 0 ids with
          | none => rfl
          | some d =>
            have := (placeIn_some hp).2
            have := hlt _ (List.mem_of_getElem? this)
            omega
        obtain ⟨k, hk1, hk2⟩ := Option.map_eq_some_iff.1 h
        exact key _ k hk1 hk2 (by simp [backR, hp, hb])

/-- A call that looks at values alone, and hands out a value alone. -/
theorem CallTo.pure {P : Program} {f : Nat} {vals : List AV} {r0 : AV} {lg : List Nat} (n : Nat) {H : Hl} (hc : CallTo P f (renL (pickN []) (viewF H [] n) true vals) [] r0 [] lg) : CallTo P f vals H (backV [] H.length r0) H [] := by
  have h := CallTo.frame (H := H) (vals := vals) [] n List.nodup_nil (fun b hb => by cases hb) hc (fun b c hp => by cases hp)
  have e1 : backH [] H [] = H := by
    apply List.ext_getElem?
    intro b
    rw [backH_get]
    by_cases hb : b < H.length
    · rw [if_pos hb]; rfl
    · rw [if_neg hb, List.getElem?_eq_none (Nat.le_of_not_lt hb)]; simp
  have e2 : backL [] lg = [] := by simp [backL]
  rw [e1, e2] at h
  exact h

end
end Go.Vm

namespace Go.Vm
noncomputable section

/-- The same state, less of it known. -/
structure Weak (n0 : Nat) (fr : Fr) (H : Hl) (fr' : Fr) (H' : Hl) : Prop where
  grow : n0 ≤ H'.length
  does : ∀ (ρ : Rho) (w : World), HRel ρ w (fun b => H[b]?) → ∃ ρ', HRel ρ' w (fun b => H'[b]?) ∧ Ext n0 ρ w ρ' w ∧ ∀ tmps, FRel ρ w fr tmps → FRel ρ' w fr' tmps

theorem Weak.refl {n0 : Nat} {fr : Fr} {H : Hl} (h : n0 ≤ H.length) : Weak n0 fr H fr H := ⟨h, fun ρ w hg => ⟨ρ, hg, Ext.refl _ _ _, fun _ h => h⟩⟩

/-- Slots that are of no use any more. -/
def forget : List Bool → Fr → Fr
  | true :: bs, _ :: fr => .top :: forget bs fr
  | false :: bs, x :: fr => x :: forget bs fr
  | _, fr => fr

theorem forget_rel {ρ : Rho} {w : World} : ∀ {bs : List Bool} {fr : Fr} {vs : List Value}, VRels ρ w fr vs → VRels ρ w (forget bs fr) vs
  | [], fr, vs, h => by cases fr <;> exact h
  | true :: bs, [], vs, h => h
  | false :: bs, [], vs, h => h
  | true :: bs, x :: fr, vs, h => by
    cases vs with
    | nil => have := h.len; simp at this
    | cons v vs => exact .cons (.top v) (forget_rel h.tail)
  | false :: bs, x :: fr, vs, h => by
    cases vs with
    | nil => have := h.len; simp at this
    | cons v vs => exact .cons h.head (forget_rel h.tail)

/-- Some blocks under new names, some slots forgotten. (The first n0 blocks keep their names.) -/
def wkF (ids : List Nat) (bs : List Bool) (fr : Fr) : Fr := forget bs (renL (pickN ids) noView true fr)
def wkH (ids : List Nat) (H : Hl) : Hl := pickH noView ids H

theorem Weak.pick {n0 : Nat} {fr : Fr} {H : Hl} (ids : List Nat) (bs : List Bool) (hn : ids.Nodup) (hlt : ∀ b, b ∈ ids → b < H.length) (h0 : ∀ b, b < n0 → ids[b]? = some b) :
    Weak n0 fr H (wkF ids bs fr) (wkH ids H) where
  grow := by
    simp only [wkH, pickH, List.length_map]
    rcases Nat.eq_zero_or_pos n0 with h | h
    · omega
    · have := (List.getElem?_eq_some_iff.1 (h0 (n0 - 1) (by omega))).1
      omega
  does ρ w hg := by
    refine ⟨pickR ids ρ, hg.pick hn hlt (noView_ok _ _ _ _), ⟨Nat.le_refl _, rfl, rfl, rfl, fun _ _ _ => rfl, fun b hb _ => .inl ?_, fun b B F hl => ?_, fun _ _ => rfl⟩, fun tmps h => ?_⟩
    · simp [pickR, h0 b hb]
    · obtain ⟨b', _, e⟩ := pickR_own hl
      exact .inr ⟨b', F, e⟩
    · exact forget_rel (rens_rel (fun b c => pickR_of) (fun _ c B F h => let ⟨b, _, e⟩ := pickR_own h; ⟨b, F, e⟩) (noView_ok _ _ _ _) h)

theorem Weak.forget {n0 : Nat} {fr : Fr} {H : Hl} (h : n0 ≤ H.length) (bs : List Bool) : Weak n0 fr H (forget bs fr) H := ⟨h, fun ρ w hg => ⟨ρ, hg, Ext.refl _ _ _, fun _ h => forget_rel h⟩⟩

theorem Goes.post {W : (Exit → Act → World → Prop) → Act → World → Prop} {n0 : Nat} {fr fr1 fr2 : Fr} {H H1 H2 : Hl} {lg lg1 : List Nat} {e : Exit} (h : Goes W n0 fr H lg e fr1 H1 lg1) (k : Weak n0 fr1 H1 fr2 H2) : Goes W n0 fr H lg e fr2 H2 (List.range n0 ++ lg1) where
  grow := k.grow
  sub b hb := List.mem_append_right _ (h.sub b hb)
  keep b hb hn := absurd (List.mem_append_left _ (List.mem_range.2 hb)) hn
  does ρ w a Q hg hf hQ := h.does ρ w a Q hg hf fun a' w' ρ' h1 h2 h3 h4 => by
    obtain ⟨ρ2, g1, g2, g3⟩ := k.does ρ' w' h1
    exact hQ a' w' ρ2 g1 (g3 _ h2) h3 (h4.trans g2)

theorem Goes.pre {W : (Exit → Act → World → Prop) → Act → World → Prop} {n0 : Nat} {fr fr1 fr2 : Fr} {H H1 H2 : Hl} {lg lg2 : List Nat} {e : Exit} (k : Weak n0 fr H fr1 H1) (h : Goes W n0 fr1 H1 lg e fr2 H2 lg2) : Goes W n0 fr H lg e fr2 H2 (List.range n0 ++ lg2) where
  grow := h.grow
  sub b hb := List.mem_append_right _ (h.sub b hb)
  keep b hb hn := absurd (List.mem_append_left _ (List.mem_range.2 hb)) hn
  does ρ w a Q hg hf hQ := by
    obtain ⟨ρ1, g1, g2, g3⟩ := k.does ρ w hg
    exact h.does ρ1 w a Q g1 (g3 _ hf) fun a' w' ρ' h1 h2 h3 h4 => hQ a' w' ρ' h1 h2 h3 (g2.trans h4)

theorem Goes.log {W : (Exit → Act → World → Prop) → Act → World → Prop} {n0 : Nat} {fr fr1 : Fr} {H H1 : Hl} {lg lg1 lg2 : List Nat} {e : Exit} (h : Goes W n0 fr H lg e fr1 H1 lg1) (hs : ∀ b, b ∈ lg → b ∈ lg2)
    (hk : ∀ b, b < n0 → b ∉ lg2 → H1[b]? = H[b]?) : Goes W n0 fr H lg e fr1 H1 lg2 := ⟨h.grow, hs, hk, h.does⟩

/-- What a loop's body comes to. -/
def BodyTo (P : Program) (n0 : Nat) (b : VC) (fr : Fr) (H : Hl) (ex : Ex) (fr' : Fr) (H' : Hl) : Prop :=
  ∀ c, compile P c = b → ∃ lg', Goes (c.wp P) n0 fr H [] (exitOf ex) fr' H' lg'

abbrev OutC := Ex × Fr × Hl × List Nat
def optC (C : Con) : Alg (Option OutC) := stdA (Option OutC) none (conF none C)
/-- The end of a body: some blocks under new names, some slots forgotten. -/
def bodyK (n0 : Nat) (ids : List Nat) (bs : List Bool) : Ex → Fr → Hl → List Nat → Option OutC := fun ex fr H _ => some (ex, wkF ids bs fr, wkH ids H, [n0, size H])

theorem body_run {P : Program} {C : Con} (hC : ConOK P C) {T : Nat → Option VF} (hT : ∀ f vf, T f = some vf → FnOK P f vf) {n n0 : Nat} {b : VC} {fr fr' : Fr} {H H' : Hl} {ex : Ex} {ids : List Nat} {bs : List Bool} {sz : Nat}
    (h : vm (optC C) ops0 T n n0 b fr H [] (bodyK n0 ids bs) = some (ex, fr', H', [n0, sz])) (h0 : n0 ≤ H.length) (hn : ids.Nodup) (hlt : ∀ b, b ∈ ids → b < sz) (hid : ∀ b, b < n0 → ids[b]? = some b) : BodyTo P n0 b fr H ex fr' H' := by
  intro c hc
  subst hc
  have hfine : (optC C).Fine P (fun x => x = some (ex, fr', H', [n0, sz])) := stdA_fine (by simp) (conF_ok (by simp) hC)
  obtain ⟨ex1, fr1, H1, lg1, hg, e⟩ := (vm_sound hfine hT n).1 c n0 fr H [] _ h0 h
  unfold bodyK at e
  simp only [Option.some.injEq, Prod.mk.injEq, List.cons.injEq, and_true, true_and] at e
  obtain ⟨e1, e2, e3, e4⟩ := e
  subst e1; subst e2; subst e3
  rw [size_eq] at e4
  exact ⟨_, hg.post (Weak.pick ids bs hn (by rw [e4]; exact hlt) hid)⟩

/-- The end of a body: some slots forgotten. -/
def bodyF (bs : List Bool) : Ex → Fr → Hl → List Nat → Option OutC := fun ex fr H _ => some (ex, forget bs fr, H, [])

theorem body_forget {P : Program} {C : Con} (hC : ConOK P C) {T : Nat → Option VF} (hT : ∀ f vf, T f = some vf → FnOK P f vf) {n n0 : Nat} {b : VC} {fr fr' : Fr} {H H' : Hl} {ex : Ex} {bs : List Bool}
    (h : vm (optC C) ops0 T n n0 b fr H [] (bodyF bs) = some (ex, fr', H', [])) (h0 : n0 ≤ H.length) : BodyTo P n0 b fr H ex fr' H' := by
  intro c hc
  subst hc
  have hfine : (optC C).Fine P (fun x => x = some (ex, fr', H', [])) := stdA_fine (by simp) (conF_ok (by simp) hC)
  obtain ⟨ex1, fr1, H1, lg1, hg, e⟩ := (vm_sound hfine hT n).1 c n0 fr H [] _ h0 h
  unfold bodyF at e
  simp only [Option.some.injEq, Prod.mk.injEq, and_true] at e
  obtain ⟨e1, e2, e3⟩ := e
  subst e1; subst e2; subst e3
  exact ⟨_, hg.post (Weak.forget hg.grow bs)⟩

def noTab (_ : Nat) : Option VF := none
theorem noTab_ok (P : Program) : ∀ f vf, noTab f = some vf → FnOK P f vf := fun _ _ h => by cases h

def tabOne (f : Nat) (vf : VF) (g : Nat) : Option VF := match Nat.beq g f with
  | true => some vf
  | false => none
theorem tabOne_ok {P : Program} {f : Nat} {vf : VF} (h : FnOK P f vf) : ∀ g v, tabOne f vf g = some v → FnOK P g v := by
  intro g v e
  unfold tabOne at e
  split at e <;> cases e
  rename_i hb
  have := Nat.eq_of_beq_eq_true hb
  subst this
  exact h
theorem tabOne_self (f : Nat) (vf : VF) : tabOne f vf f = some vf := by simp [tabOne, Nat.beq_refl]

/-- A LOOP that goes through the states S 0, S 1, .. -/
theorem loop_chain {P : Program} {n0 : Nat} {b : VC} {ex : Ex} {fr' : Fr} {H' : Hl} (hex : ex ≠ .norm) (S : Nat → Fr × Hl) : ∀ (d i : Nat), (∀ j, i ≤ j → j < i + d → BodyTo P n0 b (S j).1 (S j).2 .norm (S (j + 1)).1 (S (j + 1)).2) →
    BodyTo P n0 b (S (i + d)).1 (S (i + d)).2 ex fr' H' → ∀ lg, LoopTo P n0 b (S i).1 (S i).2 lg ex fr' H' (List.range n0 ++ lg) := by
  have logs : ∀ {W n0 fr H lg e fr1 H1 lg1}, Goes W n0 fr H [] e fr1 H1 lg1 → Goes W n0 fr H lg e fr1 H1 (List.range n0 ++ lg) := by
    intro W n0 fr H lg e fr1 H1 lg1 h
    exact ⟨h.grow, fun b hb => List.mem_append_right _ hb, fun b hb hn => absurd (List.mem_append_left _ (List.mem_range.2 hb)) hn, h.does⟩
  intro d
  induction d with
  | zero =>
    intro i _ hend lg c hc
    obtain ⟨lg1, hg⟩ := hend c hc
    have h1 : Goes (LoopWp P c) n0 (S i).1 (S i).2 [] (exitOf ex) fr' H' lg1 := hg.weak fun Q a w hw => LoopWp.step (wp_mono hw (by
      rintro e a w ⟨rfl, h⟩
      cases ex with
      | norm => exact absurd rfl hex
      | ret => exact h
      | exit id => exact h))
    exact logs h1
  | succ d ih =>
    intro i hround hend lg c hc
    have hl := ih (i + 1) (fun j h1 h2 => hround j (by omega) (by omega)) (by rw [show i + 1 + d = i + (d + 1) by omega]; exact hend) (List.range n0 ++ lg)
    obtain ⟨lg1, hg⟩ := hround i (Nat.le_refl _) (by omega) c hc
    have h1 : Goes (c.wp P) n0 (S i).1 (S i).2 lg .normal (S (i + 1)).1 (S (i + 1)).2 (List.range n0 ++ lg) := logs hg
    exact (h1.trans (hl c hc) fun Q a w hw => LoopWp.step (wp_mono hw (by rintro e a w ⟨rfl, h⟩; exact h))).log (fun b hb => List.mem_append_right _ hb)
      (fun b hb hn => absurd (List.mem_append_left _ (List.mem_range.2 hb)) hn)

theorem LoopTo.pre {P : Program} {n0 : Nat} {b : VC} {fr fr1 fr' : Fr} {H H1 H' : Hl} {ex : Ex} (k : Weak n0 fr H fr1 H1) (h : ∀ lg, LoopTo P n0 b fr1 H1 lg ex fr' H' (List.range n0 ++ lg)) : ∀ lg, LoopTo P n0 b fr H lg ex fr' H' (List.range n0 ++ lg) :=
  fun lg c hc => (Goes.pre k (h lg c hc)).log (fun b hb => List.mem_append_right _ hb) (fun b hb hn => absurd (List.mem_append_left _ (List.mem_range.2 hb)) hn)

/-- A loop, unrolled. -/
theorem loop_run {P : Program} {C : Con} (hC : ConOK P C) {T : Nat → Option VF} (hT : ∀ f vf, T f = some vf → FnOK P f vf) {n n0 : Nat} {b : VC} {fr fr' : Fr} {H H' : Hl} {ex : Ex} {bs : List Bool}
    (h : vm (optC C) ops0 T n n0 (.loop b) fr H [] (bodyF bs) = some (ex, fr', H', [])) (h0 : n0 ≤ H.length) : ∀ lg, LoopTo P n0 b fr H lg ex fr' H' (List.range n0 ++ lg) := by
  intro lg c hc
  subst hc
  have hfine : (optC C).Fine P (fun x => x = some (ex, fr', H', [])) := stdA_fine (by simp) (conF_ok (by simp) hC)
  obtain ⟨ex1, fr1, H1, lg1, hg, e⟩ := (vm_sound hfine hT n).2 c n0 fr H [] _ h0 h
  unfold bodyF at e
  simp only [Option.some.injEq, Prod.mk.injEq, and_true] at e
  obtain ⟨e1, e2, e3⟩ := e
  subst e1; subst e2; subst e3
  have h2 := hg.post (Weak.forget hg.grow bs)
  exact ⟨h2.grow, fun b hb => List.mem_append_right _ hb, fun b hb hn => absurd (List.mem_append_left _ (List.mem_range.2 hb)) hn, h2.does⟩

/-- A loop whose end is known. -/
structure Lent where
  n0 : Nat
  b : VC
  fr : Fr
  H : Hl
  ex : Ex
  fr' : Fr
  H' : Hl
def Lent.OK (P : Program) (e : Lent) : Prop := ∀ lg, LoopTo P e.n0 e.b e.fr e.H lg e.ex e.fr' e.H' (List.range e.n0 ++ lg)

/-- Statements; loops by what is known of them (E says which: where it says none they are unrolled). -/
def propL (C : Con) (E : Fr → Hl → Option Lent) : Alg Prop := { stdA Prop False (conF False C) with
  loop := fun n0 b fr H lg k u => match E fr H with
    | some e => n0 = e.n0 ∧ b = e.b ∧ fr = e.fr ∧ H = e.H ∧ k e.ex e.fr' e.H' (List.range e.n0 ++ lg)
    | none => u () }

theorem propL_fine {P : Program} {C : Con} (hC : ConOK P C) {E : Fr → Hl → Option Lent} (hE : ∀ fr H e, E fr H = some e → e.OK P) : (propL C E).Fine P (fun p => p) :=
  have h := stdA_fine (R := Prop) (ff := False) (holds := fun p => p) (P := P) (fun h => h) (conF_ok (ff := False) (fun h => h) hC)
  { fail := h.fail, chk := h.chk, br := h.br, get := h.get, flo := h.flo, ints := h.ints, byts := h.byts, call := h.call
    loop := fun n0 b fr H lg k u _ hh => by
      have hh : match E fr H with
        | some e => n0 = e.n0 ∧ b = e.b ∧ fr = e.fr ∧ H = e.H ∧ k e.ex e.fr' e.H' (List.range e.n0 ++ lg)
        | none => u () := hh
      split at hh
      · rename_i e he
        obtain ⟨rfl, rfl, rfl, rfl, hk⟩ := hh
        exact .inr ⟨_, _, _, _, hE _ _ e he lg, hk⟩
      · exact .inl hh }

theorem call_loop {P : Program} {C : Con} (hC : ConOK P C) {E : Fr → Hl → Option Lent} (hE : ∀ fr H e, E fr H = some e → e.OK P) {T : Nat → Option VF} (hT : ∀ f vf, T f = some vf → FnOK P f vf) {f n : Nat} {vf : VF} (hf : T f = some vf) {vals : List AV} {H H0 : Hl} {r0 : AV} (m : Nat) (lg0 : List Nat)
    (h : vcall (propL C E) ops0 T n vf vals H (fun r H lg => cutK m r H lg = some (r0, H0, []))) (h1 : H.length ≤ m) (hk : ∀ b, b < H.length → b ∉ lg0 → H0[b]? = H[b]?) : CallTo P f vals H r0 H0 lg0 := by
  obtain ⟨r, H', lg, hc, e⟩ := vcall_sound (propL_fine hC hE) hT (hT f vf hf) (holds := fun p => p) h
  unfold cutK at e
  split at e <;> cases e
  rename_i hm
  rw [size_eq] at hm
  exact hc.cut m h1 (Nat.le_of_ble_eq_true hm) hk

end
end Go.Vm

namespace Go.Vm
noncomputable section

/-- A value that names no block. -/
def flat : AV → Bool
  | .int _ _ | .bool _ | .flt _ _ | .str _ | .nilp | .nils | .nilf | .nili | .top => true
  | _ => false
def flatL (cs : List AV) : Prop := ∀ a, a ∈ cs → flat a = true

theorem ren_flat {σ : Nat → Option Nat} {φ : Nat → Option (List AV)} {kp : Bool} {a : AV} (h : flat a = true) : ren σ φ kp a = a := by
  cases a <;> first | rfl | cases h
theorem renL_flat {σ : Nat → Option Nat} {φ : Nat → Option (List AV)} {kp : Bool} {cs : List AV} (h : flatL cs) : renL σ φ kp cs = cs := by
  induction cs with
  | nil => rfl
  | cons x cs ih => simp only [renL, ren_flat (h x (by simp)), ih (fun a ha => h a (by simp [ha]))]
theorem flatL_ints (k : IntKind) (l : List Int) : flatL (l.map (AV.int k)) := by
  intro a ha
  obtain ⟨n, _, rfl⟩ := List.mem_map.1 ha
  rfl
theorem flatL_append {xs ys : List AV} (h : flatL xs) (k : flatL ys) : flatL (xs ++ ys) := by
  intro a ha
  rcases List.mem_append.1 ha with ha | ha
  · exact h a ha
  · exact k a ha

/-- A call that turns one block, without names in it. -/
theorem CallTo.one {P : Program} {f : Nat} {vals vals0 : List AV} {r : AV} {cs cs' : List AV} {H : Hl} {b : Nat} {lg : List Nat} (hc : CallTo P f vals0 [.cells cs] r [.cells cs'] lg) (hb : H[b]? = some (.cells cs)) (h1 : flatL cs) (h2 : flatL cs')
    (h3 : ∀ φ, renL (pickN [b]) φ true vals = vals0) : CallTo P f vals H (backV [b] H.length r) (put H b (.cells cs')) [b] := by
  have hbl := (List.getElem?_eq_some_iff.1 hb).1
  have e1 : pickH (viewF H [b] 0) [b] H = [.cells cs] := by
    simp only [pickH, List.map_cons, List.map_nil, hb, renB, renL_flat h1]
  have hc' : CallTo P f (renL (pickN [b]) (viewF H [b] 0) true vals) (pickH (viewF H [b] 0) [b] H) r [.cells cs'] [0] := by
    rw [e1, h3]
    exact ⟨hc.real, hc.grow, fun i hi hn => (by simp at hi hn; omega), hc.does⟩
  have h := CallTo.frame [b] 0 (by simp) (fun i hi => by simp at hi; subst hi; exact hbl) hc' (fun i c hp hn => by
    have := (placeIn_some hp).2
    rw [Nat.sub_zero] at this
    have := (List.getElem?_eq_some_iff.1 this).1
    simp at this hn
    omega)
  have e2 : backH [b] H [.cells cs'] = put H b (.cells cs') := by
    apply List.ext_getElem?
    intro i
    rw [backH_get, put_eq]
    by_cases hi : i < H.length
    · rw [if_pos hi]
      by_cases hib : b = i
      · subst hib
        have hp : placeIn b 0 [b] = some 0 := by simp [placeIn, Nat.beq_refl]
        rw [hp]
        simp only [List.getElem?_cons_zero, Option.getD_some, backB, renB, renL_flat h2]
        rw [List.getElem?_set_self hi]
      · have hp : placeIn i 0 [b] = none := by
          have : Nat.beq b i = false := by
            cases h : Nat.beq b i
            · rfl
            · exact absurd (Nat.eq_of_beq_eq_true h) hib
          simp [placeIn, this]
        rw [hp, List.getElem?_set_ne hib]
    · rw [if_neg hi]
      have t1 : ([Blk.cells cs'] : Hl)[[b].length + (i - H.length)]? = none := List.getElem?_eq_none (by simp)
      have t2 : (H.set b (.cells cs'))[i]? = none := List.getElem?_eq_none (by rw [List.length_set]; omega)
      rw [t1, t2]
      rfl
  have e3 : backL [b] [0] = [b] := by simp [backL]
  rw [e2, e3] at h
  exact h

/-- A call that looks at one block, without names in it. -/
theorem CallTo.look {P : Program} {f : Nat} {vals vals0 : List AV} {r : AV} {cs : List AV} {H : Hl} {b : Nat} {lg : List Nat} (hc : CallTo P f vals0 [.cells cs] r [.cells cs] lg) (hb : H[b]? = some (.cells cs)) (h1 : flatL cs)
    (h3 : ∀ φ, renL (pickN [b]) φ true vals = vals0) : CallTo P f vals H (backV [b] H.length r) H [] := by
  have h := CallTo.one hc hb h1 h1 h3
  have e : put H b (.cells cs) = H := by
    rw [put_eq]
    apply List.ext_getElem?
    intro i
    by_cases hi : b = i
    · subst hi
      rw [List.getElem?_set_self (List.getElem?_eq_some_iff.1 hb).1, hb]
    · rw [List.getElem?_set_ne hi]
  rw [e] at h
  exact ⟨h.real, h.grow, fun _ _ _ => rfl, h.does⟩

/-- A call that turns one block and looks at two others, without names in them. -/
theorem CallTo.three {P : Program} {f : Nat} {vals vals0 : List AV} {r : AV} {cs cs' xs ys : List AV} {H : Hl} {b c d : Nat} {lg : List Nat} (hc : CallTo P f vals0 [.cells cs, .cells xs, .cells ys] r [.cells cs', .cells xs, .cells ys] lg)
    (hb : H[b]? = some (.cells cs)) (hx : H[c]? = some (.cells xs)) (hy : H[d]? = some (.cells ys)) (hbc : b ≠ c) (hbd : b ≠ d) (hcd : c ≠ d) (h1 : flatL cs) (h2 : flatL cs') (hxf : flatL xs) (hyf : flatL ys)
    (h3 : ∀ φ, renL (pickN [b, c, d]) φ true vals = vals0) : CallTo P f vals H (backV [b, c, d] H.length r) (put H b (.cells cs')) [b] := by
  have lb := (List.getElem?_eq_some_iff.1 hb).1
  have lc := (List.getElem?_eq_some_iff.1 hx).1
  have ld := (List.getElem?_eq_some_iff.1 hy).1
  have beqf : ∀ {x y : Nat}, x ≠ y → Nat.beq x y = false := by
    intro x y h
    cases e : Nat.beq x y
    · rfl
    · exact absurd (Nat.eq_of_beq_eq_true e) h
  have pb : placeIn b 0 [b, c, d] = some 0 := by simp [placeIn, Nat.beq_refl]
  have pc : placeIn c 0 [b, c, d] = some 1 := by simp [placeIn, Nat.beq_refl, beqf hbc]
  have pd : placeIn d 0 [b, c, d] = some 2 := by simp [placeIn, Nat.beq_refl, beqf hbd, beqf hcd]
  have e1 : pickH (viewF H [b, c, d] 0) [b, c, d] H = [.cells cs, .cells xs, .cells ys] := by
    simp only [pickH, List.map_cons, List.map_nil, hb, hx, hy, renB, renL_flat h1, renL_flat hxf, renL_flat hyf]
  have hc' : CallTo P f (renL (pickN [b, c, d]) (viewF H [b, c, d] 0) true vals) (pickH (viewF H [b, c, d] 0) [b, c, d] H) r [.cells cs', .cells xs, .cells ys] [0] := by
    rw [e1, h3]
    refine ⟨hc.real, hc.grow, fun i hi hn => ?_, hc.does⟩
    match i, hi, hn with
    | 0, _, hn => exact absurd (List.mem_singleton.2 rfl) hn
    | 1, _, _ => rfl
    | 2, _, _ => rfl
  have key : ∀ i k, placeIn i 0 [b, c, d] = some k → (k = 0 ∧ i = b) ∨ (k = 1 ∧ i = c) ∨ (k = 2 ∧ i = d) := by
    intro i k hp
    have := (placeIn_some hp).2
    rw [Nat.sub_zero] at this
    match k, this with
    | 0, h => simp at h; exact .inl ⟨rfl, h.symm⟩
    | 1, h => simp at h; exact .inr (.inl ⟨rfl, h.symm⟩)
    | 2, h => simp at h; exact .inr (.inr ⟨rfl, h.symm⟩)
    | k + 3, h => simp at h
  have h := CallTo.frame [b, c, d] 0 (by simp [hbc, hbd, hcd]) (fun i hi => by
      simp only [List.mem_cons, List.not_mem_nil, or_false] at hi
      rcases hi with rfl | rfl | rfl <;> assumption) hc' (fun i k hp hn => by
    rcases key i k hp with ⟨rfl, rfl⟩ | ⟨rfl, rfl⟩ | ⟨rfl, rfl⟩
    · exact absurd (List.mem_singleton.2 rfl) hn
    · simp [backB, renB, renL_flat hxf, hx]
    · simp [backB, renB, renL_flat hyf, hy])
  have e2 : backH [b, c, d] H [.cells cs', .cells xs, .cells ys] = put H b (.cells cs') := by
    apply List.ext_getElem?
    intro i
    rw [backH_get, put_eq]
    by_cases hi : i < H.length
    · rw [if_pos hi]
      cases hp : placeIn i 0 [b, c, d] with
      | some k =>
        rcases key i k hp with ⟨rfl, rfl⟩ | ⟨rfl, rfl⟩ | ⟨rfl, rfl⟩
        · rw [List.getElem?_set_self hi]
          simp [backB, renB, renL_flat h2]
        · rw [List.getElem?_set_ne hbc, hx]
          simp [backB, renB, renL_flat hxf]
        · rw [List.getElem?_set_ne hbd, hy]
          simp [backB, renB, renL_flat hyf]
      | none =>
        have : b ≠ i := fun e => by subst e; rw [pb] at hp; cases hp
        rw [List.getElem?_set_ne this]
    · rw [if_neg hi]
      have t1 : ([Blk.cells cs', .cells xs, .cells ys] : Hl)[[b, c, d].length + (i - H.length)]? = none := List.getElem?_eq_none (by simp)
      have t2 : (H.set b (.cells cs'))[i]? = none := List.getElem?_eq_none (by rw [List.length_set]; omega)
      rw [t1, t2]
      rfl
  have e3 : backL [b, c, d] [0] = [b] := by simp [backL]
  rw [e2, e3] at h
  exact h

/-- A call that makes one block, without names in it. -/
theorem CallTo.new {P : Program} {f : Nat} {vals : List AV} {o : Nat} {cs : List AV} {H : Hl} {lg : List Nat} (hc : CallTo P f vals [] (.ptr 0 o) [.cells cs] lg) (h1 : flatL cs) (h3 : ∀ φ, renL (pickN []) φ true vals = vals) :
    CallTo P f vals H (.ptr (size H) o) (join H [.cells cs]) [] := by
  have hc' : CallTo P f (renL (pickN []) (viewF H [] 0) true vals) (pickH (viewF H [] 0) [] H) (.ptr 0 o) [.cells cs] lg := by
    rw [h3]; exact hc
  have h := CallTo.frame (H := H) (vals := vals) [] 0 List.nodup_nil (fun b hb => by cases hb) hc' (fun b c hp => by cases hp)
  have e1 : backH [] H [.cells cs] = join H [.cells cs] := by
    apply List.ext_getElem?
    intro b
    rw [backH_get, join_eq]
    by_cases hb : b < H.length
    · rw [if_pos hb, List.getElem?_append_left hb]; rfl
    · rw [if_neg hb, List.getElem?_append_right (by omega)]
      simp only [List.length_nil, Nat.zero_add]
      cases b - H.length with
      | zero => simp [backB, renB, renL_flat h1]
      | succ d => simp
  have e2 : backL [] lg = [] := by simp [backL]
  have e3 : backV [] H.length (.ptr 0 o) = .ptr (size H) o := by simp [backV, ren, backN, size_eq]
  rw [e1, e2, e3] at h
  exact h

end
end Go.Vm

namespace Go.Vm
open Go.RowKit

def noRho : Rho := fun _ => .unborn

/-- A contract on an empty memory: nothing that was there turns. -/
theorem CallTo.enter {P : Program} {f : Nat} {vals : List AV} {r : AV} {H' : Hl} {lg : List Nat} (hc : CallTo P f vals [] r H' lg) {w : World} {us : List Value} (hv : VRels noRho w vals us) :
    Calls P f us.toArray w fun e w' => ∃ v ρ', e = .returned v ∧ VRel ρ' w' r v ∧ Below w.heap.size w w' := by
  have hg : HRel noRho w (fun b => ([] : Hl)[b]?) := ⟨fun _ _ => rfl, fun b h => (by simp at h), fun b b' B F F' h => (by cases h), fun b cs h => (by simp at h), fun b B F c e lo hi h => (by cases h)⟩
  refine (hc.does noRho w us hg hv).mono ?_
  rintro e w' ⟨v, ρ', rfl, _, h2, h3⟩
  exact ⟨v, ρ', rfl, h2, h3.os, h3.tape, h3.output, h3.size, fun k hk => h3.keep k hk (fun b F h => by cases h)⟩

end Go.Vm

namespace Go.Proofs.Vm
open Go.Vm Go.ChangeShapes Go.WideShapes Go.ChangeAt Go.RowKit

theorem Try.own : ownKnob Try.prog.godebug = none := by kernel_rfl
theorem Try.laidOut : laidOutB Try.prog = true := by kernel_rfl

theorem trodAll_below {H : Type} {enc : TypeId × Value → H} {P : Program} (hl : laidOutB P = true) {W W' : World} (hb : Below W.heap.size W W') : ∀ {ts : List TypeId} {vs : List Value} {ds : List (DataW H)} {ps : List MemPlace},
    (∀ t ∈ ts, P.readableRec t = true ∧ t < P.types.size) → DataW.TrodAll enc P W 0 (fun _ => true) true ts vs ds ps → (∀ x ∈ ps, x.block < W.heap.size) → DataW.TrodAll enc P W' 0 (fun b => decide (b < W.heap.size)) true ts vs ds ps
  | [], vs, ds, ps, _, h, _ => by
    obtain ⟨rfl, rfl, rfl⟩ := trodAll_nil h
    exact trodAll_mk0
  | t :: ts, vs, ds, ps, ht, h, hlt => by
    obtain ⟨v, vs1, d, ds1, a, b, rfl, rfl, rfl, h1, h2⟩ := trodAll_cons h
    refine trodAll_cons_mk (Below.trod hl (ht t (by simp)).1 (ht t (by simp)).2 h1 hb (fun x hx => hlt x (by simp [hx]))) (trodAll_below hl hb (fun t h => ht t (by simp [h])) h2 (fun x hx => hlt x (by simp [hx])))

/-- THE LAW's STEP: the call returns true, and below the heap's old size nothing has turned. -/
theorem law_step {H : Type} {enc : TypeId × Value → H} {f : Func} {s : ChangeSpec} {n : Nat} {W : World} {args : Array Value} {ds gs : List (DataW H)} {before : List MemPlace} (hres : f.resultTypes.toList = [4])
    (hts : ∀ t ∈ f.params.toList, Try.prog.readableRec t = true ∧ t < Try.prog.types.size) (hvars : s.vars = []) (hW : DataW.Whole enc Try.prog f.params.toList s.vars false W args.toList ds gs before)
    (hfn : s.fn H (ds ++ []) = { results := [.lit (.bool true)], args := ds }) (hcall : Calls Try.prog n args W fun e W' => e = .returned (.bool true) ∧ Below W.heap.size W W') :
    Calls Try.prog n args W fun e W' => ∃ v, e = .returned v ∧ s.post enc Try.prog f false true false false W args v W' := by
  have hW' := hW
  obtain ⟨p, q, hA, hV, rfl, hfz, hnd⟩ := hW
  rw [hvars] at hV
  obtain ⟨rfl, rfl⟩ := trodVars_none hV
  have hlt : ∀ x ∈ p, x.block < W.heap.size := fun x hx => by
    have := hW'.lt x (by simp [hx])
    simpa using this
  refine hcall.mono fun e W' ⟨he, hb⟩ => ?_
  subst he
  have h2 : f.resultTypes.size = 1 := by rw [← Array.length_toList, hres]; rfl
  refine ⟨_, rfl, ds, [], p ++ [], [], p, [], hW', ?_, ?_, ?_, hb.frame _, fun h => by cases h⟩
  · rw [hfn, hres, h2]
    exact trodAll_cons_mk (shut_bool Try.underlying4 _) trodAll_mk0
  · rw [hfn]
    exact trodAll_below Try.laidOut hb hts hA hlt
  · rw [hfn, hvars]
    exact rfl

theorem enter_law {n : Nat} {vals : List AV} {H' : Hl} {lg : List Nat} (hc : CallTo Try.prog n vals [] (.bool true) H' lg) {w : World} {us : List Value} (hv : VRels noRho w vals us) :
    Calls Try.prog n us.toArray w fun e w' => e = .returned (.bool true) ∧ Below w.heap.size w w' :=
  (hc.enter hv).mono fun e w' ⟨v, ρ', he, h2, h3⟩ => by
    have := inv_bool h2
    subst this
    exact ⟨he, h3⟩

end Go.Proofs.Vm

namespace Go.Vm
noncomputable section

def Chk (b : Bool) (r : Prop) : Prop := match b with
  | true => r
  | false => False
def Br (b : Bool) (r s : Prop) : Prop := match b with
  | true => r
  | false => s
def Nth (cs : List AV) (i : Nat) (v : AV) : Prop := nth cs i = some v
def VCis (b c : VC) : Prop := b = c

theorem Chk.mk {b : Bool} {r : Prop} (h : b = true) (k : r) : Chk b r := by subst h; exact k
theorem Chk.mk' {b : Bool} {r : Prop} (h : b = true) (k : b = true → r) : Chk b r := by subst h; exact k rfl
theorem Chk.out {b : Bool} {r : Prop} (h : Chk b r) : b = true ∧ r := by
  cases b with
  | true => exact ⟨rfl, h⟩
  | false => exact h.elim
theorem Br.mk {b : Bool} {r s : Prop} (h : b = true → r) (k : b = false → s) : Br b r s := by
  cases b with
  | true => exact h rfl
  | false => exact k rfl
theorem Br.t {b : Bool} {r s : Prop} (h : b = true) (k : r) : Br b r s := by subst h; exact k
theorem Br.f {b : Bool} {r s : Prop} (h : b = false) (k : s) : Br b r s := by subst h; exact k
theorem Nth.mk {cs : List AV} {i : Nat} {v : AV} (h : cs[i]? = some v) : Nth cs i v := by unfold Nth; rw [nth_eq]; exact h

/-- What a call comes to, by cases. -/
inductive CRes where
  | ok (r : AV) (H : Hl) (lg : List Nat)
  | cond (c : Bool) (a b : CRes)
def CRes.thn (k : AV → Hl → List Nat → Prop) : CRes → Prop
  | .ok r H lg => k r H lg
  | .cond c a b => match c with
    | true => a.thn k
    | false => b.thn k
def CRes.fin : CRes → AV × Hl × List Nat
  | .ok r H lg => (r, H, lg)
  | .cond c a b => match c with
    | true => a.fin
    | false => b.fin
theorem CRes.thn_fin {k : AV → Hl → List Nat → Prop} : ∀ {x : CRes}, x.thn k → k x.fin.1 x.fin.2.1 x.fin.2.2
  | .ok r H lg, h => h
  | .cond true a b, h => CRes.thn_fin (x := a) h
  | .cond false a b, h => CRes.thn_fin (x := b) h

/-- What a loop comes to, by cases. -/
inductive LRes where
  | ok (ex : Ex) (fr : Fr) (H : Hl)
  | cond (c : Bool) (a b : LRes)
def LRes.thn (k : Ex → Fr → Hl → Prop) : LRes → Prop
  | .ok ex fr H => k ex fr H
  | .cond c a b => match c with
    | true => a.thn k
    | false => b.thn k
def LRes.fin : LRes → Ex × Fr × Hl
  | .ok ex fr H => (ex, fr, H)
  | .cond c a b => match c with
    | true => a.fin
    | false => b.fin
theorem LRes.thn_fin {k : Ex → Fr → Hl → Prop} : ∀ {x : LRes}, x.thn k → k x.fin.1 x.fin.2.1 x.fin.2.2
  | .ok ex fr H, h => h
  | .cond true a b, h => LRes.thn_fin (x := a) h
  | .cond false a b, h => LRes.thn_fin (x := b) h

abbrev CnF := Nat → List AV → Hl → Option (Prop × CRes)
def CnOK (P : Program) (C : CnF) : Prop := ∀ f vals H p x, C f vals H = some (p, x) → p → CallTo P f vals H x.fin.1 x.fin.2.1 x.fin.2.2
abbrev LnF := Nat → VC → Fr → Hl → Option (Prop × LRes)
def LnOK (P : Program) (E : LnF) : Prop := ∀ n0 b fr H p x, E n0 b fr H = some (p, x) → n0 ≤ H.length → p → ∀ lg, LoopTo P n0 b fr H lg x.fin.1 x.fin.2.1 x.fin.2.2 (List.range n0 ++ lg)

def noCn : CnF := fun _ _ _ => none
theorem noCn_ok (P : Program) : CnOK P noCn := fun _ _ _ _ _ h => by cases h
def noLn : LnF := fun _ _ _ _ => none
theorem noLn_ok (P : Program) : LnOK P noLn := fun _ _ _ _ _ _ h => by cases h

/-- A table of exact contracts. -/
def cnOf (C : Con) : CnF := fun f vals H => match C f vals H with
  | some (r, H', lg) => some (True, .ok r H' lg)
  | none => none
theorem cnOf_ok {P : Program} {C : Con} (h : ConOK P C) : CnOK P (cnOf C) := by
  intro f vals H p x e _
  unfold cnOf at e
  cases hc : C f vals H with
  | none => rw [hc] at e; cases e
  | some y =>
    obtain ⟨r, H', lg⟩ := y
    rw [hc] at e
    cases e
    exact h _ _ _ _ _ _ hc
/-- One table, else the other. -/
def cnOr (C D : CnF) : CnF := fun f vals H => match C f vals H with
  | some x => some x
  | none => D f vals H
theorem cnOr_ok {P : Program} {C D : CnF} (h : CnOK P C) (k : CnOK P D) : CnOK P (cnOr C D) := by
  intro f vals H p x e hp
  unfold cnOr at e
  split at e
  · rename_i y hy; cases e; exact h _ _ _ _ _ hy hp
  · exact k _ _ _ _ _ e hp

/-- A cell that is looked at, known by its kind alone. -/
def getV (kd : Kd) (cs : List AV) (i : Nat) (k : AV → Prop) : Prop :=
  match kd with
  | .any => match nth cs i with
    | some v => k v
    | none => False
  | .int kd => ∃ n, Nth cs i (.int kd n) ∧ k (.int kd n)
  | .bool => ∃ b, Nth cs i (.bool b) ∧ Br b (k (.bool true)) (k (.bool false))
  | .str => ∃ s, Nth cs i (.str s) ∧ k (.str s)
  | .flt kd => ∃ n, Nth cs i (.flt kd n) ∧ k (.flt kd n)
  | .slc => ∃ ds off len cap e, Nth cs i (.ros ds off len cap e) ∧ k (.ros ds off len cap e)

theorem Nth.out {cs : List AV} {i : Nat} {v : AV} (h : Nth cs i v) : cs[i]? = some v := by unfold Nth at h; rw [nth_eq] at h; exact h

def kdNo : Kd → Bool := fun _ => false
def kdYes : Kd → Bool := fun _ => true

/-- Statements. (g: which kinds are known by their kind alone.) -/
def vcA (g : Kd → Bool) (C : CnF) (E : LnF) : Alg Prop where
  fail := False
  chk b r := match b with
    | true => r
    | false => False
  br b r s := match b with
    | true => r
    | false => s
  get kd cs i k := match g kd with
    | true => getV kd cs i k
    | false => match nth cs i with
      | some v => k v
      | none => False
  flo o k := ∃ r, o = some r ∧ k r
  ints kd cs k := ∃ l : List Int, cs = l.map (AV.int kd) ∧ k l
  byts cs k := ∃ l : List UInt8, cs = l.map (fun b => AV.int .u8 b.toNat) ∧ k l
  call f vals H k := match C f vals H with
    | some (p, x) => p ∧ x.thn k
    | none => False
  loop n0 b fr H lg k u := match E n0 b fr H with
    | some (p, x) => p ∧ x.thn fun ex fr H => k ex fr H (List.range n0 ++ lg)
    | none => u ()

theorem vcA_fine {P : Program} {g : Kd → Bool} {C : CnF} (hC : CnOK P C) {E : LnF} (hE : LnOK P E) : (vcA g C E).Fine P (fun p => p) where
  fail h := h
  chk b r h := by
    cases b with
    | true => exact ⟨rfl, h⟩
    | false => exact h.elim
  br b r s h := by
    cases b with
    | true => exact .inl ⟨rfl, h⟩
    | false => exact .inr ⟨rfl, h⟩
  get kd cs i k h := by
    have any : (match nth cs i with
      | some v => k v
      | none => False) → ∃ v, cs[i]? = some v ∧ k v := by
      intro h
      rw [nth_eq] at h
      split at h
      · rename_i v e; exact ⟨v, e, h⟩
      · exact h.elim
    have h : (match g kd with
      | true => getV kd cs i k
      | false => match nth cs i with
        | some v => k v
        | none => False) := h
    split at h
    · cases kd with
      | any => exact any h
      | int kd => obtain ⟨n, h1, h2⟩ := h; exact ⟨_, h1.out, h2⟩
      | bool =>
        obtain ⟨b, h1, h2⟩ := h
        cases b with
        | true => exact ⟨_, h1.out, h2⟩
        | false => exact ⟨_, h1.out, h2⟩
      | str => obtain ⟨n, h1, h2⟩ := h; exact ⟨_, h1.out, h2⟩
      | flt kd => obtain ⟨n, h1, h2⟩ := h; exact ⟨_, h1.out, h2⟩
      | slc => obtain ⟨a, b, c, d, e, h1, h2⟩ := h; exact ⟨_, h1.out, h2⟩
    · exact any h
  flo o k h := h
  ints kd cs k h := h
  byts cs k h := h
  call f vals H k h := by
    have h : (match C f vals H with
      | some (p, x) => p ∧ x.thn k
      | none => False) := h
    split at h
    · rename_i p x e
      exact ⟨_, _, _, hC _ _ _ _ _ e h.1, CRes.thn_fin h.2⟩
    · exact h.elim
  loop n0 b fr H lg k u hn h := by
    have h : (match E n0 b fr H with
      | some (p, x) => p ∧ x.thn fun ex fr H => k ex fr H (List.range n0 ++ lg)
      | none => u ()) := h
    split at h
    · rename_i p x e
      exact .inr ⟨_, _, _, _, hE _ _ _ _ _ _ e hn h.1 lg, LRes.thn_fin h.2⟩
    · exact .inl h

/-- The end of a call: the first m blocks. -/
def endK (m : Nat) (Q : AV → Hl → Prop) : AV → Hl → List Nat → Prop := fun r H _ => match Nat.ble m (size H) with
  | true => Q (cutV m r) (cutH m H)
  | false => False

theorem call_vc {P : Program} {g : Kd → Bool} {C : CnF} (hC : CnOK P C) {E : LnF} (hE : LnOK P E) {T : Nat → Option VF} (hT : ∀ f vf, T f = some vf → FnOK P f vf) {f n : Nat} {vf : VF} (hf : T f = some vf) {vals : List AV} {H : Hl}
    {m : Nat} {Q : AV → Hl → Prop} (lg0 : List Nat) (h : vcall (vcA g C E) ops0 T n vf vals H (endK m Q)) (h1 : H.length ≤ m) (hk : ∀ r H0, Q r H0 → ∀ b, b < H.length → b ∉ lg0 → H0[b]? = H[b]?) :
    ∃ r H0, CallTo P f vals H r H0 lg0 ∧ Q r H0 := by
  obtain ⟨r, H', lg, hc, e⟩ := vcall_sound (vcA_fine hC hE) hT (hT f vf hf) (holds := fun p => p) h
  unfold endK at e
  split at e
  · rename_i hm
    rw [size_eq] at hm
    exact ⟨_, _, hc.cut m h1 (Nat.le_of_ble_eq_true hm) (hk _ _ e), e⟩
  · exact e.elim

theorem call_vcx {P : Program} {g : Kd → Bool} {C : CnF} (hC : CnOK P C) {E : LnF} (hE : LnOK P E) {T : Nat → Option VF} (hT : ∀ f vf, T f = some vf → FnOK P f vf) {f n : Nat} {vf : VF} (hf : T f = some vf) {vals : List AV} {H : Hl}
    {Q : AV → Hl → List Nat → Prop} (h : vcall (vcA g C E) ops0 T n vf vals H Q) : ∃ r H0 lg, CallTo P f vals H r H0 lg ∧ Q r H0 lg :=
  vcall_sound (vcA_fine hC hE) hT (hT f vf hf) (holds := fun p => p) h

theorem call_x {P : Program} {g : Kd → Bool} {C : CnF} (hC : CnOK P C) {E : LnF} (hE : LnOK P E) {T : Nat → Option VF} (hT : ∀ f vf, T f = some vf → FnOK P f vf) {f n : Nat} {vf : VF} (hf : T f = some vf) {vals : List AV} {H : Hl}
    {r0 : AV} {H0 : Hl} {lg0 : List Nat} (h : vcall (vcA g C E) ops0 T n vf vals H fun r H' lg => r = r0 ∧ H' = H0 ∧ lg = lg0) : CallTo P f vals H r0 H0 lg0 := by
  obtain ⟨r, H', lg, hc, e1, e2, e3⟩ := call_vcx hC hE hT hf h
  subst e1; subst e2; subst e3
  exact hc

theorem call_vc1 {P : Program} {g : Kd → Bool} {C : CnF} (hC : CnOK P C) {E : LnF} (hE : LnOK P E) {T : Nat → Option VF} (hT : ∀ f vf, T f = some vf → FnOK P f vf) {f n : Nat} {vf : VF} (hf : T f = some vf) {vals : List AV} {H H0 : Hl} {r0 : AV}
    {m : Nat} (lg0 : List Nat) (h : vcall (vcA g C E) ops0 T n vf vals H (endK m fun r H' => r = r0 ∧ H' = H0)) (h1 : H.length ≤ m) (hk : ∀ b, b < H.length → b ∉ lg0 → H0[b]? = H[b]?) :
    CallTo P f vals H r0 H0 lg0 := by
  obtain ⟨r, H1, hc, e1, e2⟩ := call_vc hC hE hT hf lg0 h h1 (fun r H1 hq b hb hn => by rw [hq.2]; exact hk b hb hn)
  subst e1; subst e2
  exact hc

/-- The end of a call: the first blocks; the value names no other one. -/
def endN (m : AV → Nat) (Q : AV → Hl → Prop) : AV → Hl → List Nat → Prop := fun r H _ => match Nat.ble (m r) (size H) with
  | true => Q r (cutH (m r) H)
  | false => False

theorem call_n {P : Program} {g : Kd → Bool} {C : CnF} (hC : CnOK P C) {E : LnF} (hE : LnOK P E) {T : Nat → Option VF} (hT : ∀ f vf, T f = some vf → FnOK P f vf) {f n : Nat} {vf : VF} (hf : T f = some vf) {vals : List AV} {H : Hl}
    {m : AV → Nat} {r0 : AV} {H0 : Hl} (lg0 : List Nat) (h : vcall (vcA g C E) ops0 T n vf vals H (endN m fun r H' => r = r0 ∧ H' = H0)) (h1 : H.length ≤ m r0) (hr : cutV (m r0) r0 = r0) (hk : ∀ b, b < H.length → b ∉ lg0 → H0[b]? = H[b]?) :
    CallTo P f vals H r0 H0 lg0 := by
  obtain ⟨r, H', lg, hc, e⟩ := vcall_sound (vcA_fine hC hE) hT (hT f vf hf) (holds := fun p => p) h
  unfold endN at e
  split at e
  · rename_i hm
    obtain ⟨e1, e2⟩ := e
    subst e1
    rw [size_eq] at hm
    have := hc.cut (m r) h1 (Nat.le_of_ble_eq_true hm) (lg0 := lg0) (by rw [e2]; exact hk)
    rw [hr, e2] at this
    exact this
  · exact e.elim

/-- Names that may be kept. -/
def idsOK (n0 : Nat) (ids : List Nat) (sz : Nat) : Bool := decide (ids.Nodup) && (ids.all fun b => Nat.blt b sz) && (List.range n0).all fun b => match nth ids b with
  | some c => Nat.beq c b
  | none => false

def bodyE (n0 : Nat) (ids : Ex → Nat → List Nat) (bs : List Bool) (Q : Ex → Fr → Hl → Prop) : Ex → Fr → Hl → List Nat → Prop := fun ex fr H _ =>
  match idsOK n0 (ids ex (size H)) (size H) with
  | true => Q ex (wkF (ids ex (size H)) bs fr) (wkH (ids ex (size H)) H)
  | false => False

theorem idsOK_out {n0 : Nat} {ids : List Nat} {sz : Nat} (h : idsOK n0 ids sz = true) : ids.Nodup ∧ (∀ b, b ∈ ids → b < sz) ∧ ∀ b, b < n0 → ids[b]? = some b := by
  unfold idsOK at h
  simp only [Bool.and_eq_true, decide_eq_true_eq, List.all_eq_true, List.mem_range] at h
  obtain ⟨⟨h1, h2⟩, h3⟩ := h
  refine ⟨h1, fun b hb => (blt_iff _ _).1 (h2 b hb), fun b hb => ?_⟩
  have := h3 b hb
  rw [nth_eq] at this
  split at this
  · rename_i c e
    rw [e, Nat.eq_of_beq_eq_true this]
  · cases this

theorem body_vc {P : Program} {g : Kd → Bool} {C : CnF} (hC : CnOK P C) {E : LnF} (hE : LnOK P E) {T : Nat → Option VF} (hT : ∀ f vf, T f = some vf → FnOK P f vf) {n n0 : Nat} {b : VC} {fr fr0 : Fr} {H H0 : Hl} {ex0 : Ex} {ids : Ex → Nat → List Nat} {bs : List Bool}
    (h : vm (vcA g C E) ops0 T n n0 b fr H [] (bodyE n0 ids bs fun ex fr H => ex = ex0 ∧ fr = fr0 ∧ H = H0)) (h0 : n0 ≤ H.length) : BodyTo P n0 b fr H ex0 fr0 H0 := by
  intro c hc
  subst hc
  obtain ⟨ex, fr1, H1, lg1, hg, e⟩ := (vm_sound (vcA_fine hC hE) hT n).1 c n0 fr H [] _ h0 h
  have e : (match idsOK n0 (ids ex (size H1)) (size H1) with
    | true => ex = ex0 ∧ wkF (ids ex (size H1)) bs fr1 = fr0 ∧ wkH (ids ex (size H1)) H1 = H0
    | false => False) := e
  split at e
  · rename_i hi
    rw [size_eq] at hi e
    obtain ⟨i1, i2, i3⟩ := idsOK_out hi
    obtain ⟨e1, e2, e3⟩ := e
    subst e1; subst e2; subst e3
    exact ⟨_, hg.post (Weak.pick _ bs i1 i2 i3)⟩
  · exact e.elim

/-- The end of a body: some slots forgotten. -/
def bodyX (bs : List Bool) (Q : Ex → Fr → Hl → Prop) : Ex → Fr → Hl → List Nat → Prop := fun ex fr H _ => Q ex (forget bs fr) H

theorem body_x {P : Program} {g : Kd → Bool} {C : CnF} (hC : CnOK P C) {E : LnF} (hE : LnOK P E) {T : Nat → Option VF} (hT : ∀ f vf, T f = some vf → FnOK P f vf) {n n0 : Nat} {b : VC} {fr fr0 : Fr} {H H0 : Hl} {ex0 : Ex} {bs : List Bool}
    (h : vm (vcA g C E) ops0 T n n0 b fr H [] (bodyX bs fun ex fr H => ex = ex0 ∧ fr = fr0 ∧ H = H0)) (h0 : n0 ≤ H.length) : BodyTo P n0 b fr H ex0 fr0 H0 := by
  intro c hc
  subst hc
  obtain ⟨ex, fr1, H1, lg1, hg, e1, e2, e3⟩ := (vm_sound (vcA_fine hC hE) hT n).1 c n0 fr H [] _ h0 h
  subst e1; subst e2; subst e3
  exact ⟨_, hg.post (Weak.forget hg.grow bs)⟩

/-- A loop, unrolled (or with loops in it that are known). -/
theorem loop_vc {P : Program} {g : Kd → Bool} {C : CnF} (hC : CnOK P C) {E : LnF} (hE : LnOK P E) {T : Nat → Option VF} (hT : ∀ f vf, T f = some vf → FnOK P f vf) {n n0 : Nat} {b : VC} {fr fr0 : Fr} {H H0 : Hl} {ex0 : Ex} {ids : Ex → Nat → List Nat} {bs : List Bool}
    (h : vm (vcA g C E) ops0 T n n0 (.loop b) fr H [] (bodyE n0 ids bs fun ex fr H => ex = ex0 ∧ fr = fr0 ∧ H = H0)) (h0 : n0 ≤ H.length) : ∀ lg, LoopTo P n0 b fr H lg ex0 fr0 H0 (List.range n0 ++ lg) := by
  intro lg c hc
  subst hc
  obtain ⟨ex, fr1, H1, lg1, hg, e⟩ := (vm_sound (vcA_fine hC hE) hT n).2 c n0 fr H [] _ h0 h
  have e : (match idsOK n0 (ids ex (size H1)) (size H1) with
    | true => ex = ex0 ∧ wkF (ids ex (size H1)) bs fr1 = fr0 ∧ wkH (ids ex (size H1)) H1 = H0
    | false => False) := e
  split at e
  · rename_i hi
    rw [size_eq] at hi e
    obtain ⟨i1, i2, i3⟩ := idsOK_out hi
    obtain ⟨e1, e2, e3⟩ := e
    subst e1; subst e2; subst e3
    have h2 := hg.post (Weak.pick _ bs i1 i2 i3)
    exact ⟨h2.grow, fun b hb => List.mem_append_right _ hb, fun b hb hn => absurd (List.mem_append_left _ (List.mem_range.2 hb)) hn, h2.does⟩
  · exact e.elim

/-! ### The same state, values less known -/

/-- b says less than a. -/
def VLe (a b : AV) : Prop := ∀ ρ w v, VRel ρ w a v → VRel ρ w b v
theorem VLe.refl (a : AV) : VLe a a := fun _ _ _ h => h
theorem VLe.top (a : AV) : VLe a .top := fun _ _ v _ => .top v
theorem VLe.nils : VLe .nils (.ros [] 0 0 0 true) := fun ρ w v h => by
  rw [inv_nils h]
  exact .ros [] 0 0 0 true 0 0 none 0 [] (fun h => absurd rfl h) (fun h => absurd rfl h) rfl (by simp) (by simp) (by simp) (Nat.le_refl _) (Nat.le_refl _) (fun _ => rfl) (fun h => absurd rfl h)

def FLe (fr fr' : Fr) : Prop := fr.length = fr'.length ∧ ∀ (i : Nat) (a b : AV), fr[i]? = some a → fr'[i]? = some b → VLe a b
theorem Weak.le {n0 : Nat} {fr fr' : Fr} {H : Hl} (h : n0 ≤ H.length) (k : FLe fr fr') : Weak n0 fr H fr' H :=
  ⟨h, fun ρ w hg => ⟨ρ, hg, Ext.refl _ _ _, fun tmps hf => ⟨hf.len.trans k.1, fun i a v ha hv => by
    have hi : i < fr.length := by rw [k.1]; exact (List.getElem?_eq_some_iff.1 ha).1
    exact k.2 i fr[i] a (by simp [hi]) ha ρ w v (hf.at_ i fr[i] v (by simp [hi]) hv)⟩⟩⟩
theorem Weak.trans {n0 : Nat} {fr fr1 fr2 : Fr} {H H1 H2 : Hl} (h : Weak n0 fr H fr1 H1) (k : Weak n0 fr1 H1 fr2 H2) : Weak n0 fr H fr2 H2 :=
  ⟨k.grow, fun ρ w hg => by
    obtain ⟨ρ1, g1, g2, g3⟩ := h.does ρ w hg
    obtain ⟨ρ2, k1, k2, k3⟩ := k.does ρ1 w g1
    exact ⟨ρ2, k1, g2.trans k2, fun t ht => k3 t (g3 t ht)⟩⟩

end
end Go.Vm

namespace Go.Vm
noncomputable section

theorem i64_wrap {n : Int} (h0 : -9223372036854775808 ≤ n) (h : n < 9223372036854775808) : IntKind.i64.wrap n = n := IntWalk.i64_in n (by omega)
theorem u8_wrap {n : Int} (h0 : 0 ≤ n) (h : n < 256) : IntKind.u8.wrap n = n := by
  simp [IntKind.wrap, IntKind.bits, IntKind.signed]; omega
theorem u64_wrap {n : Int} (h0 : 0 ≤ n) (h : n < 18446744073709551616) : IntKind.u64.wrap n = n := by
  simp [IntKind.wrap, IntKind.bits, IntKind.signed]; omega

theorem nAdd {a b : Nat} (h : a + b < 9223372036854775808) : ops0.bin .add .i64 (Int.ofNat a) (Int.ofNat b) = Int.ofNat (a + b) := by
  show IntKind.i64.wrap (Int.ofNat a + Int.ofNat b) = _
  rw [i64_wrap (by simp; omega) (by simp; omega)]; rfl
theorem nSub {a b : Nat} (h : b ≤ a) (h2 : a < 9223372036854775808) : ops0.bin .sub .i64 (Int.ofNat a) (Int.ofNat b) = Int.ofNat (a - b) := by
  show IntKind.i64.wrap (Int.ofNat a - Int.ofNat b) = _
  rw [i64_wrap (by simp; omega) (by simp; omega)]; simp; omega
theorem nMul {a b : Nat} (h : a * b < 9223372036854775808) : ops0.bin .mul .i64 (Int.ofNat a) (Int.ofNat b) = Int.ofNat (a * b) := by
  have h' : (Int.ofNat a * Int.ofNat b) = Int.ofNat (a * b) := rfl
  show IntKind.i64.wrap (Int.ofNat a * Int.ofNat b) = _
  rw [h', i64_wrap (by simp; omega) (by simp only [Int.ofNat_eq_natCast]; omega)]
theorem nQuo {a b : Nat} (h : a < 9223372036854775808) : ops0.bin .quo .i64 (Int.ofNat a) (Int.ofNat b) = Int.ofNat (a / b) := by
  have h2 : a / b ≤ a := Nat.div_le_self a b
  show IntKind.i64.wrap ((Int.ofNat a).tdiv (Int.ofNat b)) = _
  have e : (Int.ofNat a).tdiv (Int.ofNat b) = Int.ofNat (a / b) := rfl
  rw [e]
  generalize a / b = q at h2 ⊢
  exact i64_wrap (by simp only [Int.ofNat_eq_natCast]; omega) (by simp only [Int.ofNat_eq_natCast]; omega)
theorem nRem {a b : Nat} : ops0.bin .rem .i64 (Int.ofNat a) (Int.ofNat b) = Int.ofNat (a % b) := rfl
theorem nInr {a n : Nat} : ops0.inr (Int.ofNat a) n = decide (a < n) := by
  show (decide (0 ≤ Int.ofNat a) && decide (Int.ofNat a < (n : Int))) = _
  simp
theorem nInb {a n : Nat} : ops0.inb (Int.ofNat a) n = decide (a ≤ n) := by
  show (decide (0 ≤ Int.ofNat a) && decide (Int.ofNat a ≤ (n : Int))) = _
  simp
theorem nAdr {o a s : Nat} : ops0.adr o (Int.ofNat a) s = o + a * s := rfl
theorem nNn {a : Nat} : ops0.nn (Int.ofNat a) = true := by
  show decide (0 ≤ Int.ofNat a) = true
  simp
theorem nNz {a : Nat} (h : a ≠ 0) : ops0.nz (Int.ofNat a) = true := by
  show (Int.ofNat a != 0) = true
  simp; omega
theorem nNat {a : Nat} : ops0.nat (Int.ofNat a) = a := rfl
theorem nOfn {a : Nat} : ops0.ofn a = Int.ofNat a := rfl
theorem nPlus {a b : Nat} : ops0.add a b = a + b := rfl
theorem nMinus {a b : Nat} : ops0.sub a b = a - b := rfl
theorem nTimes {a b : Nat} : ops0.mul a b = a * b := rfl
theorem nLe {a b : Nat} : ops0.le a b = decide (a ≤ b) := rfl
theorem nLt {a b : Nat} : ops0.lt a b = decide (a < b) := rfl
theorem nEq {a b : Nat} : ops0.eq a b = decide (a = b) := by
  show (a == b) = _
  by_cases h : a = b <;> simp [h]
theorem nLen {cs : List AV} : ops0.len cs = cs.length := rfl
theorem nExt {cs : List AV} {o n : Nat} : ops0.ext cs o n = (cs.drop o).take n := rfl
theorem nSet {cs : List AV} {i : Nat} {v : AV} : ops0.set cs i v = cs.set i v := rfl
theorem nApp {xs ys : List AV} : ops0.app xs ys = xs ++ ys := rfl
theorem nRep {n : Nat} {z : List AV} : ops0.rep n z = (List.replicate n z).flatten := rfl
theorem nSpl {cs xs : List AV} {o : Nat} : ops0.spl cs o xs = cs.take o ++ (xs ++ cs.drop (o + xs.length)) := rfl
theorem nMin {a b : Nat} : ops0.min a b = if a ≤ b then a else b := rfl
theorem nRoom {l n b : Nat} : ops0.room l n b = decide ((l + n + 1) * (b + 1) ≤ 1099511627776) := rfl
theorem nMkr {a b c : Nat} : ops0.mkr (Int.ofNat a) (Int.ofNat b) c = (decide (a ≤ b) && decide ((b + 1) * (c + 1) ≤ 1099511627776)) := by
  show (decide (0 ≤ Int.ofNat a) && decide (Int.ofNat a ≤ Int.ofNat b) && decide ((Int.ofNat b + 1) * ((c : Int) + 1) ≤ 1099511627776)) = _
  have e : (Int.ofNat b + 1) * ((c : Int) + 1) = (((b + 1) * (c + 1) : Nat) : Int) := by simp [Int.natCast_mul]
  rw [e]
  have h1 : (decide (0 ≤ Int.ofNat a)) = true := by simp
  have h2 : decide (Int.ofNat a ≤ Int.ofNat b) = decide (a ≤ b) := by simp
  have h3 : decide ((((b + 1) * (c + 1) : Nat) : Int) ≤ 1099511627776) = decide ((b + 1) * (c + 1) ≤ 1099511627776) := by
    by_cases h : (b + 1) * (c + 1) ≤ 1099511627776
    · rw [decide_eq_true h, decide_eq_true (by omega)]
    · rw [decide_eq_false h, decide_eq_false (by omega)]
  rw [h1, h2, h3, Bool.true_and]
theorem nSlen {s : List UInt8} : ops0.slen s = s.length := rfl
theorem nScells {s : List UInt8} : ops0.scells s = s.map fun b => .int .u8 b.toNat := rfl
theorem nEqs {s t : List UInt8} : ops0.eqs s t = decide (s = t) := by
  show (s == t) = _
  by_cases h : s = t <;> simp [h]
theorem nEqi {s t : List Int} : ops0.eqi s t = decide (s = t) := by
  show (s == t) = _
  by_cases h : s = t <;> simp [h]
theorem nLss {a b : Nat} : ops0.cmp .lss (Int.ofNat a) (Int.ofNat b) = decide (a < b) := by
  show decide (Int.ofNat a < Int.ofNat b) = _
  simp
theorem nLeq {a b : Nat} : ops0.cmp .leq (Int.ofNat a) (Int.ofNat b) = decide (a ≤ b) := by
  show decide (Int.ofNat a ≤ Int.ofNat b) = _
  simp
theorem nGtr {a b : Nat} : ops0.cmp .gtr (Int.ofNat a) (Int.ofNat b) = decide (b < a) := by
  show decide (Int.ofNat a > Int.ofNat b) = _
  simp
theorem nGeq {a b : Nat} : ops0.cmp .geq (Int.ofNat a) (Int.ofNat b) = decide (b ≤ a) := by
  show decide (Int.ofNat a ≥ Int.ofNat b) = _
  simp
theorem nEql {a b : Nat} : ops0.cmp .eql (Int.ofNat a) (Int.ofNat b) = decide (a = b) := by
  show (Int.ofNat a == Int.ofNat b) = _
  by_cases h : a = b
  · simp [h]
  · simp [h]; omega
theorem nNeq {a b : Nat} : ops0.cmp .neq (Int.ofNat a) (Int.ofNat b) = decide (a ≠ b) := by
  show (Int.ofNat a != Int.ofNat b) = _
  by_cases h : a = b
  · simp [h]
  · simp [h]; omega
theorem nC64 {a : Nat} (h : a < 18446744073709551616) : ops0.cvt .u64 (Int.ofNat a) = Int.ofNat a := u64_wrap (by simp) (by simp only [Int.ofNat_eq_natCast]; omega)
theorem nC8 {a : Nat} (h : a < 256) : ops0.cvt .u8 (Int.ofNat a) = Int.ofNat a := u8_wrap (by simp) (by simp only [Int.ofNat_eq_natCast]; omega)
theorem nCi {a : Nat} (h : a < 9223372036854775808) : ops0.cvt .i64 (Int.ofNat a) = Int.ofNat a := i64_wrap (by simp only [Int.ofNat_eq_natCast]; omega) (by simp only [Int.ofNat_eq_natCast]; omega)

end
end Go.Vm

namespace Go.Vm
noncomputable section

/-- A call that turns two blocks, without names in them. -/
theorem CallTo.two {P : Program} {f : Nat} {vals vals0 : List AV} {r : AV} {cs cs' xs xs' : List AV} {H : Hl} {b c : Nat} {lg : List Nat} (hc : CallTo P f vals0 [.cells cs, .cells xs] r [.cells cs', .cells xs'] lg)
    (hb : H[b]? = some (.cells cs)) (hx : H[c]? = some (.cells xs)) (hbc : b ≠ c) (h1 : flatL cs) (h2 : flatL cs') (hxf : flatL xs) (hxf' : flatL xs')
    (h3 : ∀ φ, renL (pickN [b, c]) φ true vals = vals0) : CallTo P f vals H (backV [b, c] H.length r) (put (put H b (.cells cs')) c (.cells xs')) [b, c] := by
  have lb := (List.getElem?_eq_some_iff.1 hb).1
  have lc := (List.getElem?_eq_some_iff.1 hx).1
  have beqf : ∀ {x y : Nat}, x ≠ y → Nat.beq x y = false := by
    intro x y h
    cases e : Nat.beq x y
    · rfl
    · exact absurd (Nat.eq_of_beq_eq_true e) h
  have pb : placeIn b 0 [b, c] = some 0 := by simp [placeIn, Nat.beq_refl]
  have pc : placeIn c 0 [b, c] = some 1 := by simp [placeIn, Nat.beq_refl, beqf hbc]
  have e1 : pickH (viewF H [b, c] 0) [b, c] H = [.cells cs, .cells xs] := by
    simp only [pickH, List.map_cons, List.map_nil, hb, hx, renB, renL_flat h1, renL_flat hxf]
  have hc' : CallTo P f (renL (pickN [b, c]) (viewF H [b, c] 0) true vals) (pickH (viewF H [b, c] 0) [b, c] H) r [.cells cs', .cells xs'] [0, 1] := by
    rw [e1, h3]
    refine ⟨hc.real, hc.grow, fun i hi hn => ?_, hc.does⟩
    match i, hi, hn with
    | 0, _, hn => exact absurd (by simp) hn
    | 1, _, hn => exact absurd (by simp) hn
  have key : ∀ i k, placeIn i 0 [b, c] = some k → (k = 0 ∧ i = b) ∨ (k = 1 ∧ i = c) := by
    intro i k hp
    have := (placeIn_some hp).2
    rw [Nat.sub_zero] at this
    match k, this with
    | 0, h => simp at h; exact .inl ⟨rfl, h.symm⟩
    | 1, h => simp at h; exact .inr ⟨rfl, h.symm⟩
    | k + 2, h => simp at h
  have h := CallTo.frame [b, c] 0 (by simp [hbc]) (fun i hi => by
      simp only [List.mem_cons, List.not_mem_nil, or_false] at hi
      rcases hi with rfl | rfl <;> assumption) hc' (fun i k hp hn => by
    rcases key i k hp with ⟨rfl, rfl⟩ | ⟨rfl, rfl⟩
    · exact absurd (by simp) hn
    · exact absurd (by simp) hn)
  have e2 : backH [b, c] H [.cells cs', .cells xs'] = put (put H b (.cells cs')) c (.cells xs') := by
    apply List.ext_getElem?
    intro i
    rw [backH_get, put_eq, put_eq]
    by_cases hi : i < H.length
    · rw [if_pos hi]
      cases hp : placeIn i 0 [b, c] with
      | some k =>
        rcases key i k hp with ⟨rfl, rfl⟩ | ⟨rfl, rfl⟩
        · rw [List.getElem?_set_ne (fun e => hbc e.symm), List.getElem?_set_self hi]
          simp [backB, renB, renL_flat h2]
        · rw [List.getElem?_set_self (by rw [List.length_set]; exact hi)]
          simp [backB, renB, renL_flat hxf']
      | none =>
        have n1 : b ≠ i := fun e => by subst e; rw [pb] at hp; cases hp
        have n2 : c ≠ i := fun e => by subst e; rw [pc] at hp; cases hp
        rw [List.getElem?_set_ne n2, List.getElem?_set_ne n1]
    · rw [if_neg hi]
      have t1 : ([Blk.cells cs', .cells xs'] : Hl)[[b, c].length + (i - H.length)]? = none := List.getElem?_eq_none (by simp)
      have t2 : ((H.set b (.cells cs')).set c (.cells xs'))[i]? = none := List.getElem?_eq_none (by rw [List.length_set, List.length_set]; omega)
      rw [t1, t2]
      rfl
  have e3 : backL [b, c] [0, 1] = [b, c] := by simp [backL]
  rw [e2, e3] at h
  exact h

/-- A list of values that name no block. -/
def Still (xs : List AV) : Prop := ∀ σ φ, renL σ φ true xs = xs
theorem Still.flat {xs : List AV} (h : flatL xs) : Still xs := fun _ _ => renL_flat h
theorem Still.nil : Still [] := fun _ _ => rfl
theorem Still.cons {x : AV} {xs : List AV} (h : ∀ σ φ, ren σ φ true x = x) (k : Still xs) : Still (x :: xs) := fun σ φ => by
  simp only [renL, h σ φ, k σ φ]
theorem Still.ros {cs : List AV} (h : Still cs) (o len cap : Nat) (e : Bool) (σ : Nat → Option Nat) (φ : Nat → Option (List AV)) : ren σ φ true (.ros cs o len cap e) = .ros cs o len cap e := by
  simp only [ren, h σ φ]
theorem renL_append (σ : Nat → Option Nat) (φ : Nat → Option (List AV)) (kp : Bool) : ∀ (a b : List AV), renL σ φ kp (a ++ b) = renL σ φ kp a ++ renL σ φ kp b
  | [], b => by simp [renL]
  | x :: a, b => by simp only [List.cons_append, renL, renL_append σ φ kp a b]
theorem Still.append {a b : List AV} (h : Still a) (k : Still b) : Still (a ++ b) := fun σ φ => by rw [renL_append, h σ φ, k σ φ]
theorem Still.all {xs : List AV} (h : ∀ x, x ∈ xs → ∀ σ φ, ren σ φ true x = x) : Still xs := by
  induction xs with
  | nil => exact .nil
  | cons x xs ih => exact .cons (h x (by simp)) (ih fun y hy => h y (by simp [hy]))

/-- Nothing, seen as a slice of a block of its own. -/
theorem Weak.void {n0 : Nat} {fr : Fr} {H : Hl} (hn : n0 ≤ H.length) {k : Nat} (sz : Nat) (h : fr[k]? = some .nils) : Weak n0 fr H (put fr k (.slc H.length 0 0 0 sz)) (H ++ [.cells []]) where
  grow := by simp; omega
  does ρ w hg := by
    have hN : (fun b => H[b]?) H.length = none := List.getElem?_eq_none (Nat.le_refl _)
    obtain ⟨R, E⟩ := hg.nothing hN
    have e : one (fun b => H[b]?) H.length (.cells []) = fun b => (H ++ [.cells []])[b]? := by
      funext b
      unfold one
      by_cases hb : b = H.length
      · subst hb; simp
      · rw [if_neg hb]
        by_cases hl : b < H.length
        · show H[b]? = _
          rw [List.getElem?_append_left hl]
        · show H[b]? = _
          have hl2 : (H ++ [Blk.cells []]).length = H.length + 1 := by simp
          rw [List.getElem?_eq_none (by omega), List.getElem?_eq_none (by omega)]
    rw [e] at R
    have hbn : ∀ b, ρ b ≠ .unborn → b < H.length := fun b hb => by
      rcases Nat.lt_or_ge b H.length with h' | h'
      · exact h'
      · exact absurd (hg.unborn b (List.getElem?_eq_none h')) hb
    refine ⟨_, R, E n0, fun tmps hf => ?_⟩
    have hm := hf.mono (E H.length) hbn
    rw [put_eq]
    refine ⟨by rw [List.length_set]; exact hm.len, fun i a v ha hv => ?_⟩
    by_cases hi : k = i
    · subst hi
      have hk := (List.getElem?_eq_some_iff.1 h).1
      rw [List.getElem?_set_self hk] at ha
      cases ha
      have := inv_nils (hm.at_ k .nils v h hv)
      subst this
      exact .slc _ _ _ _ _ _ (by simp [rho1]) ⟨none, 0, rfl, Nat.le_refl _, Nat.le_refl _, fun h => absurd rfl h⟩ (fun _ => ⟨none, rfl, rfl, rfl⟩) (by simp [rho1])
    · rw [List.getElem?_set_ne hi] at ha
      exact hm.at_ i a v ha hv

/-- A contract under other names: the old blocks keep theirs. -/
theorem CallTo.pick {P : Program} {f : Nat} {vals : List AV} {H H' : Hl} {r : AV} {lg lg0 : List Nat} (hc : CallTo P f vals H r H' lg) (ids : List Nat) (hn : ids.Nodup) (hlt : ∀ b, b ∈ ids → b < H'.length) (h0 : ∀ b, b < H.length → ids[b]? = some b)
    (hk : ∀ b, b < H.length → b ∉ lg0 → (wkH ids H')[b]? = H[b]?) : CallTo P f vals H (ren (pickN ids) noView true r) (wkH ids H') lg0 where
  real := hc.real
  grow := by
    simp only [wkH, pickH, List.length_map]
    rcases Nat.eq_zero_or_pos H.length with h | h
    · omega
    · have := (List.getElem?_eq_some_iff.1 (h0 (H.length - 1) (by omega))).1
      omega
  keep := hk
  does ρ w us hg hv := (hc.does ρ w us hg hv).mono fun e w' h => by
    obtain ⟨v, ρ', rfl, g1, g2, g3⟩ := h
    refine ⟨v, pickR ids ρ', rfl, g1.pick hn hlt (noView_ok _ _ _ _), ren_rel (fun b c => pickR_of) (fun _ c B F h => let ⟨b, _, e⟩ := pickR_own h; ⟨b, F, e⟩) (noView_ok _ _ _ _) g2,
      ⟨g3.size, g3.os, g3.tape, g3.output, g3.keep, fun b hb hn' => ?_, fun b B F hl => ?_, g3.rows⟩⟩
    · have : pickR ids ρ' b = ρ' b := by simp [pickR, h0 b hb]
      rw [this]
      exact g3.slot b hb hn'
    · obtain ⟨b', _, e⟩ := pickR_own hl
      exact g3.fresh b' B F e

def endP (n0 : Nat) (ids : AV → Nat → List Nat) (Q : AV → Hl → Prop) : AV → Hl → List Nat → Prop := fun r H _ =>
  match idsOK n0 (ids r (size H)) (size H) with
  | true => Q (ren (pickN (ids r (size H))) noView true r) (wkH (ids r (size H)) H)
  | false => False

theorem call_p {P : Program} {g : Kd → Bool} {C : CnF} (hC : CnOK P C) {E : LnF} (hE : LnOK P E) {T : Nat → Option VF} (hT : ∀ f vf, T f = some vf → FnOK P f vf) {f n : Nat} {vf : VF} (hf : T f = some vf) {vals : List AV} {H : Hl}
    {ids : AV → Nat → List Nat} {r0 : AV} {H0 : Hl} (lg0 : List Nat) (h : vcall (vcA g C E) ops0 T n vf vals H (endP H.length ids fun r H' => r = r0 ∧ H' = H0)) (hk : ∀ b, b < H.length → b ∉ lg0 → H0[b]? = H[b]?) :
    CallTo P f vals H r0 H0 lg0 := by
  obtain ⟨r, H', lg, hc, e⟩ := vcall_sound (vcA_fine hC hE) hT (hT f vf hf) (holds := fun p => p) h
  unfold endP at e
  split at e
  · rename_i hm
    rw [size_eq] at hm e
    obtain ⟨i1, i2, i3⟩ := idsOK_out hm
    obtain ⟨e1, e2⟩ := e
    have := hc.pick (ids r H'.length) i1 i2 i3 (lg0 := lg0) (by rw [e2]; exact hk)
    rw [e1, e2] at this
    exact this
  · exact e.elim

/-- One table of loops, else the other. -/
def lnOr (C D : LnF) : LnF := fun n0 b fr H => match C n0 b fr H with
  | some x => some x
  | none => D n0 b fr H
theorem lnOr_ok {P : Program} {C D : LnF} (h : LnOK P C) (k : LnOK P D) : LnOK P (lnOr C D) := by
  intro n0 b fr H p x e hn hp
  unfold lnOr at e
  split at e
  · rename_i y hy; cases e; exact h _ _ _ _ _ _ hy hn hp
  · exact k _ _ _ _ _ _ e hn hp

end
end Go.Vm

namespace Go.Vm
noncomputable section

/-- x, in the memory H, reads as y where nothing is owned. -/
def Vw (H : Hl) (x y : AV) : Prop := VLe (ren (pickN []) (viewF H [] 3) true x) y
inductive Vws (H : Hl) : List AV → List AV → Prop where
  | nil : Vws H [] []
  | cons {x y : AV} {xs ys : List AV} (h : Vw H x y) (t : Vws H xs ys) : Vws H (x :: xs) (y :: ys)

theorem vws_rel {H : Hl} {xs ys : List AV} (h : Vws H xs ys) {ρ : Rho} {w : World} : ∀ {vs : List Value}, VRels ρ w (renL (pickN []) (viewF H [] 3) true xs) vs → VRels ρ w ys vs := by
  induction h with
  | nil => intro vs hv; exact hv
  | cons h _ ih =>
    intro vs hv
    cases vs with
    | nil => have := hv.len; simp [renL] at this
    | cons v vs => exact .cons (h _ _ _ hv.head) (ih hv.tail)

theorem CallTo.le {P : Program} {f : Nat} {vals vals' : List AV} {H H' : Hl} {r : AV} {lg : List Nat} (hc : CallTo P f vals' H r H' lg) (h : ∀ ρ w us, VRels ρ w vals us → VRels ρ w vals' us) : CallTo P f vals H r H' lg :=
  ⟨hc.real, hc.grow, hc.keep, fun ρ w us hg hv => hc.does ρ w us hg (h ρ w us hv)⟩

/-- Looking alone: a value alone. -/
theorem CallTo.lookV {P : Program} {f : Nat} {vals vals0 : List AV} {r0 : AV} {lg : List Nat} {H : Hl} (hc : CallTo P f vals0 [] r0 [] lg) (h : Vws H vals vals0) : CallTo P f vals H (backV [] H.length r0) H [] :=
  CallTo.pure 3 (hc.le fun ρ w us hv => vws_rel h hv)

/-- Looking alone: a new block, without names in it. -/
theorem CallTo.lookS {P : Program} {f : Nat} {vals vals0 : List AV} {o n c sz : Nat} {cs : List AV} {H : Hl} {lg : List Nat} (hc : CallTo P f vals0 [] (.slc 0 o n c sz) [.cells cs] lg) (h1 : flatL cs) (h : Vws H vals vals0) :
    CallTo P f vals H (.slc (size H) o n c sz) (join H [.cells cs]) [] := by
  have hc' : CallTo P f (renL (pickN []) (viewF H [] 3) true vals) (pickH (viewF H [] 3) [] H) (.slc 0 o n c sz) [.cells cs] lg := hc.le fun ρ w us hv => vws_rel h hv
  have h := CallTo.frame (H := H) (vals := vals) [] 3 List.nodup_nil (fun b hb => by cases hb) hc' (fun b c hp => by cases hp)
  have e1 : backH [] H [.cells cs] = join H [.cells cs] := by
    apply List.ext_getElem?
    intro b
    rw [backH_get, join_eq]
    by_cases hb : b < H.length
    · rw [if_pos hb, List.getElem?_append_left hb]; rfl
    · rw [if_neg hb, List.getElem?_append_right (by omega)]
      simp only [List.length_nil, Nat.zero_add]
      cases b - H.length with
      | zero => simp [backB, renB, renL_flat h1]
      | succ d => simp
  have e2 : backL [] lg = [] := by simp [backL]
  have e3 : backV [] H.length (.slc 0 o n c sz) = .slc (size H) o n c sz := by simp [backV, ren, backN, size_eq]
  rw [e1, e2, e3] at h
  exact h

theorem Vw.same {H : Hl} {x : AV} (h : ∀ σ φ, ren σ φ true x = x) : Vw H x x := by
  unfold Vw
  rw [h]
  exact VLe.refl x
theorem Vw.int (H : Hl) (k : IntKind) (n : Int) : Vw H (.int k n) (.int k n) := .same fun _ _ => rfl
theorem Vw.str (H : Hl) (s : List UInt8) : Vw H (.str s) (.str s) := .same fun _ _ => rfl
theorem Vw.agg (H : Hl) {cs : List AV} (h : Still cs) : Vw H (.agg cs) (.agg cs) := .same fun σ φ => by simp only [ren, h σ φ]

/-- Bytes and their like, as slices of nobody. -/
def vw1 (H : Hl) (x : AV) : AV :=
  match x with
  | .ros cs o n c e => .ros cs o n c e
  | .slc b o n c _ => match nth H b with
    | some (.cells cs) => .ros cs o n c false
    | _ => .top
  | .nils => .ros [] 0 0 0 true
  | _ => .top

theorem Vw.one {H : Hl} {x : AV} {cs : List AV} {o n c : Nat} {e : Bool} (h : vw1 H x = .ros cs o n c e) (hf : flatL cs) : Vw H x (.ros cs o n c e) := by
  unfold vw1 at h
  split at h
  · cases h
    exact .same fun σ φ => Still.ros (Still.flat hf) o n c e σ φ
  · rename_i b o' n' c' sz
    split at h <;> cases h
    rename_i hb
    rw [nth_eq] at hb
    unfold Vw
    have : ren (pickN []) (viewF H [] 3) true (.slc b o n c sz) = .ros cs o n c false := by
      have e1 : pickN [] b = none := rfl
      have e2 : viewF H [] 3 b = some cs := by
        unfold viewF
        rw [hb]
        simp only [renL_flat hf]
      simp only [ren, e1, e2]
    rw [this]
    exact VLe.refl _
  · cases h
    exact VLe.nils
  · cases h

theorem VLe.ros {cs cs' : List AV} (hl : cs.length = cs'.length) (h : ∀ (i : Nat) (a b : AV), cs[i]? = some a → cs'[i]? = some b → VLe a b) (o n c : Nat) (e : Bool) : VLe (.ros cs o n c e) (.ros cs' o n c e) := by
  intro ρ w v hv
  have hne : cs' ≠ [] → cs ≠ [] := fun hn h0 => hn (List.eq_nil_of_length_eq_zero (by rw [← hl, h0]; rfl))
  cases hv with
  | ros _ _ _ _ _ B F ao cap' vs hlt hp hl' ho hc hr hcap hlen he ha =>
    refine .ros cs' o n c e B F ao cap' vs (fun hn => hlt (hne hn)) (fun hn => hp (hne hn)) (by omega) ho hc (fun i a v hi hv => ?_) hcap hlen he ha
    have hi' : i < cs.length := by rw [hl]; exact (List.getElem?_eq_some_iff.1 hi).1
    exact h i cs[i] a (by simp [hi']) hi ρ w v (hr i cs[i] v (by simp [hi']) hv)

/-- A slice of slices, as a slice of nobody. -/
def vw2 (H : Hl) (x : AV) : AV :=
  match x with
  | .ros ps o n c e => .ros (ps.map (vw1 H)) o n c e
  | .slc b o n c _ => match nth H b with
    | some (.cells ps) => .ros (ps.map (vw1 H)) o n c false
    | _ => .top
  | .nils => .ros [] 0 0 0 true
  | _ => .top

/-- Each is a slice of values that name no block. -/
def Rows1 (ps : List AV) : Prop := ∀ p, p ∈ ps → ∃ cs o n c e, p = .ros cs o n c e ∧ flatL cs
theorem Rows1.still {ps : List AV} (h : Rows1 ps) : Still ps := Still.all fun p hp σ φ => by
  obtain ⟨cs, o, n, c, e, rfl, hf⟩ := h p hp
  exact Still.ros (Still.flat hf) o n c e σ φ

theorem view2 {H : Hl} {m : Nat} {x : AV} {cs : List AV} {o n c : Nat} {e : Bool} (h : vw1 H x = .ros cs o n c e) (hf : flatL cs) : VLe (ren (pickN []) (viewF H [] (m + 1)) true x) (.ros cs o n c e) := by
  unfold vw1 at h
  split at h
  · cases h
    rw [Still.ros (Still.flat hf) o n c e]
    exact VLe.refl _
  · rename_i b o' n' c' sz
    split at h <;> cases h
    rename_i hb
    rw [nth_eq] at hb
    have : ren (pickN []) (viewF H [] (m + 1)) true (.slc b o n c sz) = .ros cs o n c false := by
      have e1 : pickN [] b = none := rfl
      have e2 : viewF H [] (m + 1) b = some cs := by
        unfold viewF
        rw [hb]
        simp only [renL_flat hf]
      simp only [ren, e1, e2]
    rw [this]
    exact VLe.refl _
  · cases h
    exact VLe.nils
  · cases h

theorem Vw.two {H : Hl} {x : AV} {ps : List AV} {o n c : Nat} {e : Bool} (h : vw2 H x = .ros ps o n c e) (hf : Rows1 ps) : Vw H x (.ros ps o n c e) := by
  have key : ∀ (m : Nat) (qs : List AV), Rows1 (qs.map (vw1 H)) → ∀ o n c e, VLe (.ros (renL (pickN []) (viewF H [] (m + 1)) true qs) o n c e) (.ros (qs.map (vw1 H)) o n c e) := by
    intro m qs hq o n c e
    refine VLe.ros (by rw [renL_length, List.length_map]) (fun i a b ha hb => ?_) o n c e
    rw [renL_get] at ha
    rw [List.getElem?_map] at hb
    obtain ⟨y, hy, rfl⟩ := Option.map_eq_some_iff.1 ha
    rw [hy] at hb
    cases hb
    obtain ⟨cs, o', n', c', e', e1, hcs⟩ := hq (vw1 H y) (List.mem_map.2 ⟨y, List.mem_of_getElem? hy, rfl⟩)
    rw [e1]
    exact view2 e1 hcs
  unfold vw2 at h
  split at h
  · rename_i qs _ _ _ _
    cases h
    exact key 2 qs hf o n c e
  · rename_i b o' n' c' sz
    split at h <;> cases h
    rename_i qs hb
    rw [nth_eq] at hb
    unfold Vw
    have : ren (pickN []) (viewF H [] 3) true (.slc b o n c sz) = .ros (renL (pickN []) (viewF H [] 2) true qs) o n c false := by
      have e1 : pickN [] b = none := rfl
      have e2 : viewF H [] 3 b = some (renL (pickN []) (viewF H [] 2) true qs) := by
        rw [viewF, hb]
      simp only [ren, e1, e2]
    rw [this]
    exact key 1 qs hf o n c false
  · cases h
    exact VLe.nils
  · cases h

end
end Go.Vm

namespace Go.Vm
noncomputable section

/-- The end of a call: a slice of a block, without names in it. -/
def endB (Q : Nat → Nat → Nat → Nat → List AV → Prop) : AV → Hl → List Nat → Prop := fun r H _ => match r with
  | .slc b o n c sz => match nth H b with
    | some (.cells cs) => flatL cs ∧ Q o n c sz cs
    | _ => False
  | _ => False

theorem pickN_self (b : Nat) : pickN [b] b = some 0 := by
  unfold pickN placeIn
  rw [Nat.beq_refl]

theorem call_b {P : Program} {g : Kd → Bool} {C : CnF} (hC : CnOK P C) {E : LnF} (hE : LnOK P E) {T : Nat → Option VF} (hT : ∀ f vf, T f = some vf → FnOK P f vf) {f n : Nat} {vf : VF} (hf : T f = some vf) {vals : List AV}
    {o m c sz : Nat} {cs : List AV} (h : vcall (vcA g C E) ops0 T n vf vals [] (endB fun o' m' c' sz' cs' => o' = o ∧ m' = m ∧ c' = c ∧ sz' = sz ∧ cs' = cs)) : CallTo P f vals [] (.slc 0 o m c sz) [.cells cs] [] := by
  obtain ⟨r, H', lg, hc, e⟩ := call_vcx hC hE hT hf h
  unfold endB at e
  split at e
  · rename_i b o' m' c' sz'
    split at e
    · rename_i cs' hb
      obtain ⟨hfl, rfl, rfl, rfl, rfl, rfl⟩ := e
      rw [nth_eq] at hb
      have hlt : b < H'.length := (List.getElem?_eq_some_iff.1 hb).1
      have h1 := hc.pick [b] (by simp) (by simpa using hlt) (by simp) (lg0 := []) (by simp)
      have e1 : ren (pickN [b]) noView true (.slc b o' m' c' sz') = .slc 0 o' m' c' sz' := by
        simp only [ren, pickN_self]
      have e2 : wkH [b] H' = [.cells cs'] := by
        simp only [wkH, pickH, List.map_cons, List.map_nil, hb, renB, renL_flat hfl]
      rw [e1, e2] at h1
      exact h1
    · exact e.elim
  · exact e.elim

/-- Some blocks under new names; the others given up, and seen as blocks of nobody. -/
theorem Weak.pickV {n0 : Nat} {fr : Fr} {H : Hl} (ids : List Nat) (bs : List Bool) (n : Nat) (hn : ids.Nodup) (hlt : ∀ b, b ∈ ids → b < H.length) (h0 : ∀ b, b < n0 → ids[b]? = some b) :
    Weak n0 fr H (Go.Vm.forget bs (renL (pickN ids) (viewF H ids n) true fr)) (pickH (viewF H ids n) ids H) where
  grow := by
    simp only [pickH, List.length_map]
    rcases Nat.eq_zero_or_pos n0 with h | h
    · omega
    · have := (List.getElem?_eq_some_iff.1 (h0 (n0 - 1) (by omega))).1
      omega
  does ρ w hg := by
    refine ⟨pickR ids ρ, hg.pick hn hlt (viewF_ok hg n), ⟨Nat.le_refl _, rfl, rfl, rfl, fun _ _ _ => rfl, fun b hb _ => .inl ?_, fun b B F hl => ?_, fun _ _ => rfl⟩, fun tmps h => ?_⟩
    · simp [pickR, h0 b hb]
    · obtain ⟨b', _, e⟩ := pickR_own hl
      exact .inr ⟨b', F, e⟩
    · exact forget_rel (rens_rel (fun b c => pickR_of) (fun _ c B F h => let ⟨b, _, e⟩ := pickR_own h; ⟨b, F, e⟩) (viewF_ok hg n) h)

theorem BodyTo.post {P : Program} {n0 : Nat} {b : VC} {fr fr1 fr2 : Fr} {H H1 H2 : Hl} {ex : Ex} (h : BodyTo P n0 b fr H ex fr1 H1) (k : Weak n0 fr1 H1 fr2 H2) : BodyTo P n0 b fr H ex fr2 H2 := by
  intro c hc
  obtain ⟨lg, hg⟩ := h c hc
  exact ⟨_, hg.post k⟩

theorem VLe.loose (cs : List AV) (o n c : Nat) (e : Bool) : VLe (.ros cs o n c e) (.ros cs o n c false) := by
  intro ρ w v hv
  cases hv with
  | ros _ _ _ _ _ B F ao cap' vs hlt hp hl' ho hc hr hcap hlen he ha =>
    exact .ros cs o n c false B F ao cap' vs hlt hp hl' ho hc hr hcap hlen (fun h => by cases h) ha

theorem FLe.refl (fr : Fr) : FLe fr fr := ⟨rfl, fun i a b ha hb => by rw [ha] at hb; cases hb; exact VLe.refl _⟩
theorem FLe.put {fr : Fr} {k : Nat} {a b : AV} (h : fr[k]? = some a) (hl : VLe a b) : FLe fr (Go.Vm.put fr k b) := by
  have hp : ∀ (fr : Fr) (k : Nat), Go.Vm.put fr k b = fr.set k b := by
    intro fr
    induction fr with
    | nil => intro k; rfl
    | cons x xs ih =>
      intro k
      cases k with
      | zero => rfl
      | succ k => rw [put_succ, ih]; rfl
  rw [hp]
  refine ⟨by simp, fun i x y hx hy => ?_⟩
  by_cases hi : i = k
  · subst hi
    rw [h] at hx
    cases hx
    have hlt := (List.getElem?_eq_some_iff.1 h).1
    rw [List.getElem?_set_self hlt] at hy
    cases hy
    exact hl
  · rw [List.getElem?_set_ne (by omega)] at hy
    rw [hx] at hy
    cases hy
    exact VLe.refl _

end
end Go.Vm

namespace Go.Fl
open Ieee

/-- n / m to the nearest whole number; between two, the even one. -/
def RE (n m : Nat) : Nat := n / m + (if m < 2 * (n % m) ∨ (m = 2 * (n % m) ∧ n / m % 2 = 1) then 1 else 0)

theorem RE_le {n m k : Nat} (hm : 0 < m) : RE n m ≤ k ↔ 2 * n < (2 * k + 1) * m ∨ (2 * n = (2 * k + 1) * m ∧ k % 2 = 0) := by
  unfold RE
  have h1 := Nat.div_add_mod n m
  have h2 := Nat.mod_lt n hm
  generalize n / m = q at h1 ⊢
  generalize n % m = r at h1 h2 ⊢
  have e1 : (2 * k + 1) * m = 2 * (m * k) + m := by rw [Nat.add_mul, Nat.one_mul, Nat.mul_assoc, Nat.mul_comm k m]
  rw [e1]
  rcases Nat.lt_trichotomy k q with h | h | h
  · have h3 : m * (k + 1) ≤ m * q := Nat.mul_le_mul_left m h
    rw [Nat.mul_add, Nat.mul_one] at h3
    constructor
    · intro h4; split at h4 <;> omega
    · intro h4; omega
  · subst h
    split
    · rename_i hc
      constructor
      · intro h4; omega
      · intro h4; omega
    · rename_i hc
      constructor
      · intro _; omega
      · intro _; omega
  · have h3 : m * (q + 1) ≤ m * k := Nat.mul_le_mul_left m h
    rw [Nat.mul_add, Nat.mul_one] at h3
    constructor
    · intro _; omega
    · intro _; split <;> omega

theorem RE_mono {n m n' m' : Nat} (hm : 0 < m) (hm' : 0 < m') (h : n * m' ≤ n' * m) : RE n m ≤ RE n' m' := by
  rw [RE_le hm]
  have hk := (RE_le (k := RE n' m') hm').1 (Nat.le_refl _)
  generalize RE n' m' = k at hk
  have h2 : 2 * n * m' ≤ 2 * n' * m := by rw [Nat.mul_assoc, Nat.mul_assoc]; exact Nat.mul_le_mul_left 2 h
  rcases hk with hk | ⟨hk, he⟩
  · left
    have h3 : 2 * n' * m < (2 * k + 1) * m' * m := Nat.mul_lt_mul_of_pos_right hk hm
    have h4 : 2 * n * m' < (2 * k + 1) * m * m' := by
      rw [Nat.mul_right_comm (2 * k + 1) m m']; exact Nat.lt_of_le_of_lt h2 h3
    exact Nat.lt_of_mul_lt_mul_right h4
  · have h3 : 2 * n * m' ≤ (2 * k + 1) * m * m' := by
      rw [Nat.mul_right_comm (2 * k + 1) m m', ← hk]; exact h2
    have h4 := Nat.le_of_mul_le_mul_right h3 hm'
    rcases Nat.lt_or_eq_of_le h4 with h5 | h5
    · exact .inl h5
    · exact .inr ⟨h5, he⟩

theorem RE_congr {n m n' m' : Nat} (hm : 0 < m) (hm' : 0 < m') (h : n * m' = n' * m) : RE n m = RE n' m' :=
  Nat.le_antisymm (RE_mono hm hm' (Nat.le_of_eq h)) (RE_mono hm' hm (Nat.le_of_eq h.symm))

theorem RE_mul {q m : Nat} (hm : 0 < m) : RE (q * m) m = q := by
  unfold RE
  rw [Nat.mul_div_cancel _ hm, Nat.mul_mod_left, if_neg (by omega)]
  rfl

theorem RE_ge {n m k : Nat} (hm : 0 < m) (h : k * m ≤ n) : k ≤ RE n m := by
  have := RE_mono (n := k * m) (m := m) (n' := n) hm hm (Nat.mul_le_mul_right m h)
  rwa [RE_mul hm] at this
theorem RE_le' {n m k : Nat} (hm : 0 < m) (h : n ≤ k * m) : RE n m ≤ k := by
  have := RE_mono (n := n) (m := m) (n' := k * m) hm hm (Nat.mul_le_mul_right m h)
  rwa [RE_mul hm] at this

/-- The model's way to cut is this one. -/
theorem cut_eq (neg : Bool) (n d : Nat) : Toward.even.cut neg n d = RE n (2 ^ d) := by
  have key : ∀ d, (let gap := 1 <<< d; let low := n / gap; let rest := n % gap; low + (gap < 2 * rest || (gap == 2 * rest && low % 2 == 1) : Bool).toNat) = RE n (2 ^ d) := by
    intro d
    simp only [Nat.one_shiftLeft]
    unfold RE
    congr 1
    by_cases h : 2 ^ d < 2 * (n % 2 ^ d) ∨ (2 ^ d = 2 * (n % 2 ^ d) ∧ n / 2 ^ d % 2 = 1)
    · rw [if_pos h]
      have : (decide (2 ^ d < 2 * (n % 2 ^ d)) || (2 ^ d == 2 * (n % 2 ^ d) && n / 2 ^ d % 2 == 1)) = true := by
        simpa using h
      rw [this]; rfl
    · rw [if_neg h]
      have : (decide (2 ^ d < 2 * (n % 2 ^ d)) || (2 ^ d == 2 * (n % 2 ^ d) && n / 2 ^ d % 2 == 1)) = false := by
        rw [Bool.eq_false_iff]
        intro hc
        exact h (by simpa using hc)
      rw [this]; rfl
  have e : Toward.even.cut neg n d = RE n (2 ^ min d (n.log2 + 2)) := key _
  rw [e]
  rcases Nat.le_total d (n.log2 + 2) with h | h
  · rw [Nat.min_eq_left h]
  · rw [Nat.min_eq_right h]
    have hn : n < 2 ^ (n.log2 + 1) := Nat.lt_log2_self
    have h2 : 2 ^ (n.log2 + 2) ≤ 2 ^ d := Nat.pow_le_pow_right (by decide) h
    have e2 : 2 ^ (n.log2 + 2) = 2 * 2 ^ (n.log2 + 1) := by rw [Nat.pow_succ, Nat.mul_comm]
    have z : ∀ g, 2 * 2 ^ (n.log2 + 1) ≤ g → RE n g = 0 := by
      intro g hg
      have : RE n g ≤ 0 := (RE_le (by omega)).2 (.inl (by omega))
      omega
    rw [z _ (by omega), z _ (by omega)]

/-! ### Doubles: rungs, and what they stand for (in units of the least one) -/
/-- Rungs to a binade. -/
def B : Nat := 4503599627370496
/-- The rung of infinity. -/
def Inf : Nat := 9218868437227405312
/-- What a sign adds. -/
def Wt : Nat := 9223372036854775808
theorem B_eq : double.binade = B := rfl
theorem Inf_eq : double.infRung = Inf := by decide
theorem Wt_eq : double.signWeight = Wt := by decide
theorem least_eq : double.leastPlace = -1074 := by decide
theorem B_val : B = 4503599627370496 := rfl
theorem Inf_val : Inf = 9218868437227405312 := rfl
theorem Wt_val : Wt = 9223372036854775808 := rfl
theorem B_pow : B = 2 ^ 52 := by decide
theorem B_pos : 0 < B := by decide
attribute [irreducible] B Inf Wt

def val (r : Nat) : Nat := if r < B then r else (B + r % B) * 2 ^ (r / B - 1)

/-- The rung nearest to n / m units. -/
def eOf (n m : Nat) : Nat := (n / m).log2 - 52
def nearQ (n m : Nat) : Nat := min (eOf n m * B + RE n (m * 2 ^ eOf n m)) Inf

theorem eOf_lt {n m : Nat} (hm : 0 < m) : n < 2 ^ 53 * (m * 2 ^ eOf n m) := by
  unfold eOf
  have h1 : n / m < 2 ^ ((n / m).log2 + 1) := Nat.lt_log2_self
  have h2 : 2 ^ ((n / m).log2 + 1) ≤ 2 ^ (53 + ((n / m).log2 - 52)) := Nat.pow_le_pow_right (by decide) (by omega)
  have h3 : n / m < 2 ^ (53 + ((n / m).log2 - 52)) := Nat.lt_of_lt_of_le h1 h2
  have h4 := (Nat.div_lt_iff_lt_mul hm).1 h3
  rw [Nat.pow_add] at h4
  calc n < _ := h4
    _ = _ := by rw [Nat.mul_assoc, Nat.mul_comm _ m]
theorem eOf_ge {n m : Nat} (hm : 0 < m) (h : 0 < eOf n m) : 2 ^ 52 * (m * 2 ^ eOf n m) ≤ n := by
  unfold eOf at h ⊢
  have h0 : n / m ≠ 0 := by
    intro h0; rw [h0, Nat.log2_zero] at h; omega
  have h1 : 2 ^ (n / m).log2 ≤ n / m := Nat.log2_self_le h0
  have h2 : 2 ^ (52 + ((n / m).log2 - 52)) = 2 ^ (n / m).log2 := by congr 1; omega
  rw [← h2, Nat.pow_add] at h1
  have h3 := (Nat.le_div_iff_mul_le hm).1 h1
  calc _ = 2 ^ 52 * 2 ^ ((n / m).log2 - 52) * m := by rw [Nat.mul_assoc, Nat.mul_comm m]
    _ ≤ n := h3

theorem div_mono {n m n' m' : Nat} (hm : 0 < m) (hm' : 0 < m') (h : n * m' ≤ n' * m) : n / m ≤ n' / m' := by
  rw [Nat.le_div_iff_mul_le hm']
  have h1 : n / m * m ≤ n := Nat.div_mul_le_self n m
  have h2 : n / m * m' * m ≤ n' * m := by
    rw [Nat.mul_right_comm]
    exact Nat.le_trans (Nat.mul_le_mul_right m' h1) h
  exact Nat.le_of_mul_le_mul_right h2 hm

theorem log2_mono {a b : Nat} (h : a ≤ b) : a.log2 ≤ b.log2 := by
  by_cases h0 : a = 0
  · subst h0; rw [Nat.log2_zero]; exact Nat.zero_le _
  · have h1 : 2 ^ a.log2 ≤ a := Nat.log2_self_le h0
    exact (Nat.le_log2 (by omega)).2 (Nat.le_trans h1 h)

theorem step_lt {a b x y : Nat} (h1 : a < b) (a1 : x ≤ 2 ^ 53) (a2 : 2 ^ 52 ≤ y) : a * B + x ≤ b * B + y := by
  have a3 : (a + 1) * B ≤ b * B := Nat.mul_le_mul_right B h1
  rw [Nat.add_mul, Nat.one_mul] at a3
  have : B = 2 ^ 52 := B_pow
  omega
theorem step_eq {n m n' m' e : Nat} (h : n * m' ≤ n' * m) (p1 : 0 < m * 2 ^ e) (p2 : 0 < m' * 2 ^ e) : RE n (m * 2 ^ e) ≤ RE n' (m' * 2 ^ e) := by
  refine RE_mono p1 p2 ?_
  calc n * (m' * 2 ^ e) = n * m' * 2 ^ e := by rw [Nat.mul_assoc]
    _ ≤ n' * m * 2 ^ e := Nat.mul_le_mul_right _ h
    _ = _ := by rw [Nat.mul_assoc]
theorem min_inf {a b : Nat} (h : a ≤ b) : min a Inf ≤ min b Inf := by omega

/-- ROUNDING KEEPS THE ORDER. -/
theorem nearQ_mono {n m n' m' : Nat} (hm : 0 < m) (hm' : 0 < m') (h : n * m' ≤ n' * m) : nearQ n m ≤ nearQ n' m' := by
  have he : eOf n m ≤ eOf n' m' := by
    unfold eOf
    have := log2_mono (div_mono hm hm' h)
    omega
  have q1 := eOf_lt (n := n) hm
  have q2 := eOf_ge (n := n') hm'
  unfold nearQ
  generalize eOf n m = e at he q1 ⊢
  generalize eOf n' m' = e' at he q2 ⊢
  have p1 : 0 < m * 2 ^ e := Nat.mul_pos hm (Nat.two_pow_pos _)
  have p2 : 0 < m' * 2 ^ e' := Nat.mul_pos hm' (Nat.two_pow_pos _)
  apply min_inf
  rcases Nat.lt_or_eq_of_le he with h1 | h1
  · exact step_lt h1 (RE_le' p1 (Nat.le_of_lt q1)) (RE_ge p2 (q2 (by omega)))
  · subst h1
    exact Nat.add_le_add_left (step_eq h p1 p2) _

theorem nearQ_congr {n m n' m' : Nat} (hm : 0 < m) (hm' : 0 < m') (h : n * m' = n' * m) : nearQ n m = nearQ n' m' :=
  Nat.le_antisymm (nearQ_mono hm hm' (Nat.le_of_eq h)) (nearQ_mono hm' hm (Nat.le_of_eq h.symm))

theorem nearQ_le_inf (n m : Nat) : nearQ n m ≤ Inf := Nat.min_le_right _ _

/-- What a rung stands for is rounded to that rung. -/
theorem nearQ_val {r : Nat} (h : r ≤ Inf) : nearQ (val r) 1 = r := by
  unfold val
  split
  · rename_i hr
    have he : eOf r 1 = 0 := by
      unfold eOf
      rw [Nat.div_one]
      by_cases h0 : r = 0
      · subst h0; rw [Nat.log2_zero]
      · have : r.log2 < 52 := (Nat.log2_lt h0).2 (by rw [← B_pow]; exact hr)
        omega
    unfold nearQ
    rw [he, Nat.zero_mul, Nat.zero_add, Nat.pow_zero, Nat.mul_one]
    have : RE r 1 = r := by
      have := RE_mul (q := r) (m := 1) (by decide)
      rwa [Nat.mul_one] at this
    rw [this]
    omega
  · rename_i hr
    have hq : 1 ≤ r / B := (Nat.le_div_iff_mul_le B_pos).2 (by omega)
    have hm : r % B < B := Nat.mod_lt _ B_pos
    have hd := Nat.div_add_mod r B
    have he : eOf ((B + r % B) * 2 ^ (r / B - 1)) 1 = r / B - 1 := by
      unfold eOf
      rw [Nat.div_one]
      have hne : (B + r % B) * 2 ^ (r / B - 1) ≠ 0 := by
        have := Nat.mul_pos (show 0 < B + r % B by have := B_pos; omega) (Nat.two_pow_pos (r / B - 1))
        omega
      have h1 : ((B + r % B) * 2 ^ (r / B - 1)).log2 = 52 + (r / B - 1) := by
        apply Nat.le_antisymm
        · have : ((B + r % B) * 2 ^ (r / B - 1)).log2 < 53 + (r / B - 1) := by
            rw [Nat.log2_lt hne, Nat.pow_add]
            refine Nat.mul_lt_mul_of_pos_right ?_ (Nat.two_pow_pos _)
            have : (2 : Nat) ^ 53 = B + B := by rw [B_val]
            omega
          omega
        · rw [Nat.le_log2 hne, Nat.pow_add]
          refine Nat.mul_le_mul_right _ ?_
          rw [← B_pow]; omega
      omega
    unfold nearQ
    rw [he, Nat.one_mul, RE_mul (Nat.two_pow_pos _)]
    have e1 : (r / B - 1) * B + (B + r % B) = r := by
      have : (r / B - 1) * B = r / B * B - B := by rw [Nat.sub_mul, Nat.one_mul]
      have h3 : B ≤ r / B * B := by
        have := Nat.mul_le_mul_right B hq
        rwa [Nat.one_mul] at this
      rw [Nat.mul_comm] at hd
      omega
    rw [e1]
    omega

theorem nearQ_val_mul {r k : Nat} (h : r ≤ Inf) (hk : 0 < k) : nearQ (val r * k) k = r := by
  rw [nearQ_congr hk (show 0 < 1 by decide) (n' := val r) (by rw [Nat.mul_one]), nearQ_val h]

theorem val_lt {r s : Nat} (hs : s ≤ Inf) (h : r < s) : val r < val s := by
  rcases Nat.lt_or_ge (val r) (val s) with h1 | h1
  · exact h1
  · have := nearQ_mono (n := val s) (m := 1) (n' := val r) (m' := 1) (by decide) (by decide) (by omega)
    rw [nearQ_val hs, nearQ_val (by omega)] at this
    omega
theorem val_le {r s : Nat} (hs : s ≤ Inf) (h : r ≤ s) : val r ≤ val s := by
  rcases Nat.lt_or_eq_of_le h with h1 | h1
  · exact Nat.le_of_lt (val_lt hs h1)
  · rw [h1]; exact Nat.le_refl _
theorem val_zero : val 0 = 0 := by unfold val; rw [if_pos B_pos]
theorem val_pos {r : Nat} (hr : r ≤ Inf) (h : 0 < r) : 0 < val r := by
  have := val_lt hr h
  rw [val_zero] at this; exact this

/-! ### The model's rounding is this one -/
theorem log2_scale {x : Nat} (hx : x ≠ 0) (a b : Nat) : (x * 2 ^ a / 2 ^ b).log2 = x.log2 + a - b := by
  have h1 : 2 ^ x.log2 ≤ x := Nat.log2_self_le hx
  have h2 : x < 2 ^ (x.log2 + 1) := Nat.lt_log2_self
  have g1 : 2 ^ (x.log2 + a) ≤ x * 2 ^ a := by rw [Nat.pow_add]; exact Nat.mul_le_mul_right _ h1
  have g2 : x * 2 ^ a < 2 ^ (x.log2 + 1 + a) := by rw [Nat.pow_add]; exact Nat.mul_lt_mul_of_pos_right h2 (Nat.two_pow_pos _)
  rcases Nat.lt_or_ge (x.log2 + a) b with h | h
  · have : x * 2 ^ a / 2 ^ b = 0 := by
      rw [Nat.div_eq_zero_iff]
      right
      exact Nat.lt_of_lt_of_le g2 (Nat.pow_le_pow_right (by decide) (by omega))
    rw [this]
    have : x.log2 + a - b = 0 := by omega
    rw [this]; exact Nat.log2_zero
  · have k1 : 2 ^ (x.log2 + a - b) ≤ x * 2 ^ a / 2 ^ b := by
      rw [Nat.le_div_iff_mul_le (Nat.two_pow_pos _), ← Nat.pow_add, Nat.sub_add_cancel h]
      exact g1
    have k2 : x * 2 ^ a / 2 ^ b < 2 ^ (x.log2 + a - b + 1) := by
      rw [Nat.div_lt_iff_lt_mul (Nat.two_pow_pos _), ← Nat.pow_add]
      have : x.log2 + a - b + 1 + b = x.log2 + 1 + a := by omega
      rw [this]; exact g2
    have k0 : x * 2 ^ a / 2 ^ b ≠ 0 := by
      have := Nat.two_pow_pos (x.log2 + a - b)
      omega
    apply Nat.le_antisymm
    · have := (Nat.log2_lt k0).2 k2
      omega
    · exact (Nat.le_log2 k0).2 k1

theorem word_eq (neg : Bool) (r : Nat) : double.word neg r = if neg then Wt + r else r := by
  unfold Format.word
  rw [Wt_eq]

theorem nearest_eq (neg : Bool) (mag : Nat) (place : Int) (a b : Nat) (h : place + 1074 = (a : Int) - b) :
    double.nearest neg mag place = if neg then Wt + nearQ (mag * 2 ^ a) (2 ^ b) else nearQ (mag * 2 ^ a) (2 ^ b) := by
  rw [← word_eq]
  unfold Format.nearest
  split
  · rename_i h0
    subst h0
    rw [Nat.zero_mul]
    have : nearQ 0 (2 ^ b) = 0 := by
      unfold nearQ
      have : eOf 0 (2 ^ b) = 0 := by unfold eOf; rw [Nat.zero_div, Nat.log2_zero]
      rw [this, Nat.zero_mul, Nat.zero_add, Nat.pow_zero, Nat.mul_one]
      have : RE 0 (2 ^ b) = 0 := by
        have := RE_le' (n := 0) (m := 2 ^ b) (k := 0) (Nat.two_pow_pos _) (by omega)
        omega
      rw [this]; exact Nat.zero_min _
    rw [this]
  · rename_i h0
    dsimp only
    rw [least_eq, Inf_eq, B_eq, cut_eq]
    congr 1
    have he : eOf (mag * 2 ^ a) (2 ^ b) = (mag.log2 + a - b) - 52 := by
      unfold eOf; rw [log2_scale h0]
    unfold nearQ
    have hf : (double.fractionBits : Int) = 52 := rfl
    have hl : (max (place + mag.log2 - (double.fractionBits : Int)) (-1074) - (-1074)).toNat = eOf (mag * 2 ^ a) (2 ^ b) := by
      rw [he, hf]; omega
    have hl2 : max (place + mag.log2 - (double.fractionBits : Int)) (-1074) = (eOf (mag * 2 ^ a) (2 ^ b) : Int) - 1074 := by
      rw [he, hf]; omega
    rw [hl, hl2]
    congr 2
    generalize eOf (mag * 2 ^ a) (2 ^ b) = e
    rw [Nat.shiftLeft_eq]
    refine RE_congr (Nat.two_pow_pos _) (Nat.mul_pos (Nat.two_pow_pos _) (Nat.two_pow_pos _)) ?_
    rw [← Nat.pow_add, Nat.mul_assoc, Nat.mul_assoc, ← Nat.pow_add, ← Nat.pow_add]
    congr 2
    omega

end Go.Fl

namespace Go.Fl
open Ieee

def sgn (x : Nat) : Bool := x / Wt % 2 == 1
def nan (x : Nat) : Bool := decide (Inf < x % Wt)

theorem read_eq (x : Nat) : double.read x = if x % Wt < B then .number (sgn x) (x % Wt) (-1074) else if x % Wt < Inf then .number (sgn x) (B + x % Wt % B) (-1074 + (x % Wt / B - 1 : Nat))
    else if x % Wt = Inf then .infinity (sgn x) else .nan (sgn x) (x % Wt - Inf) := by
  unfold Format.read
  simp only [Wt_eq, Inf_eq, B_eq, least_eq]
  rfl

theorem read_fin {x : Nat} (h : x % Wt < Inf) : ∃ (mag e : Nat), double.read x = .number (sgn x) mag (e - 1074) ∧ val (x % Wt) = mag * 2 ^ e := by
  rw [read_eq]
  unfold val
  split
  · rename_i h1
    exact ⟨x % Wt, 0, by simp, by simp⟩
  · rename_i h1
    refine ⟨B + x % Wt % B, x % Wt / B - 1, ?_, rfl⟩
    congr 1
theorem read_inf {x : Nat} (h : x % Wt = Inf) : double.read x = .infinity (sgn x) := by
  have h1 : ¬ Inf < B := by rw [Inf_val, B_val]; omega
  rw [read_eq, h, if_neg h1, if_neg (by omega), if_pos rfl]
theorem read_nan {x : Nat} (h : Inf < x % Wt) : ∃ f, double.read x = .nan (sgn x) f := by
  have h1 : ¬ x % Wt < B := by
    have : B < Inf := by rw [Inf_val, B_val]; omega
    omega
  refine ⟨x % Wt - Inf, ?_⟩
  rw [read_eq, if_neg h1, if_neg (by omega), if_neg (by omega)]

theorem small {x : Nat} (h : x ≤ Inf) : x % Wt = x ∧ sgn x = false := by
  have : Inf < Wt := by rw [Inf_val, Wt_val]; omega
  refine ⟨Nat.mod_eq_of_lt (by omega), ?_⟩
  unfold sgn
  rw [Nat.div_eq_of_lt (by omega)]
  rfl

theorem write_num (neg : Bool) (mag : Nat) (place : Int) : double.write (.number neg mag place) = double.nearest neg mag place := rfl

theorem signed_f (m u : Nat) : signed false m u = ((m * 2 ^ u : Nat) : Int) := by
  unfold signed; rw [Nat.shiftLeft_eq]; rfl
theorem signed_t (m u : Nat) : signed true m u = -((m * 2 ^ u : Nat) : Int) := by
  unfold signed; rw [Nat.shiftLeft_eq]; rfl

theorem scale_min {m e e2 : Nat} : m * 2 ^ ((e : Int) - 1074 - min ((e : Int) - 1074) ((e2 : Int) - 1074)).toNat * 2 ^ (min e e2) = m * 2 ^ e := by
  rw [Nat.mul_assoc, ← Nat.pow_add]
  congr 2
  omega
theorem scale_min' {m e e2 : Nat} : m * 2 ^ ((e : Int) - 1074 - min ((e2 : Int) - 1074) ((e : Int) - 1074)).toNat * 2 ^ (min e2 e) = m * 2 ^ e := by
  rw [Nat.mul_assoc, ← Nat.pow_add]
  congr 2
  omega

/-- A SUM. -/
theorem add_fin {x y : Nat} (hx : x < Inf) (hy : y < Inf) : double.add x y = some (nearQ (val x + val y) 1) := by
  have sx := small (Nat.le_of_lt hx)
  have sy := small (Nat.le_of_lt hy)
  obtain ⟨m, e, h1, h2⟩ := read_fin (x := x) (by rw [sx.1]; exact hx)
  obtain ⟨n, e', h3, h4⟩ := read_fin (x := y) (by rw [sy.1]; exact hy)
  rw [sx.1] at h2; rw [sy.1] at h4; rw [sx.2] at h1; rw [sy.2] at h3
  unfold Format.add
  rw [h1, h3]
  simp only [Datum.sum, Option.map_some, write_num, signed_f]
  congr 1
  have hn : ((((m * 2 ^ ((e : Int) - 1074 - min ((e : Int) - 1074) ((e' : Int) - 1074)).toNat : Nat) : Int) + ((n * 2 ^ ((e' : Int) - 1074 - min ((e : Int) - 1074) ((e' : Int) - 1074)).toNat : Nat) : Int))) =
      ((m * 2 ^ ((e : Int) - 1074 - min ((e : Int) - 1074) ((e' : Int) - 1074)).toNat + n * 2 ^ ((e' : Int) - 1074 - min ((e : Int) - 1074) ((e' : Int) - 1074)).toNat : Nat) : Int) := by omega
  rw [hn]
  have hs : ∀ k : Nat, (if (k : Int) = 0 then (false && false) else decide ((k : Int) < 0)) = false := by
    intro k
    split
    · rfl
    · exact decide_eq_false (by omega)
  rw [hs, nearest_eq false _ _ (min e e') 0 (by omega)]
  rw [if_neg (by decide), Nat.pow_zero, Int.natAbs_natCast, Nat.add_mul, scale_min, scale_min', ← h2, ← h4]

/-- The zero below zero, added. -/
theorem add_neg0 {x : Nat} (hx : x < Inf) : double.add x Wt = some (nearQ (val x) 1) := by
  have sx := small (Nat.le_of_lt hx)
  have e0 : Wt % Wt = 0 := Nat.mod_self _
  have e1 : sgn Wt = true := by unfold sgn; rw [Wt_val]; decide
  obtain ⟨m, e, h1, h2⟩ := read_fin (x := x) (by rw [sx.1]; exact hx)
  obtain ⟨n, e', h3, h4⟩ := read_fin (x := Wt) (by rw [e0]; omega)
  rw [sx.1] at h2; rw [e0, val_zero] at h4; rw [sx.2] at h1; rw [e1] at h3
  have hn0 : n = 0 := by
    rcases Nat.eq_zero_or_pos n with h | h
    · exact h
    · have := Nat.mul_pos h (Nat.two_pow_pos e')
      omega
  subst hn0
  unfold Format.add
  rw [h1, h3]
  simp only [Datum.sum, Option.map_some, write_num, signed_f, signed_t]
  congr 1
  have hn : ((((m * 2 ^ ((e : Int) - 1074 - min ((e : Int) - 1074) ((e' : Int) - 1074)).toNat : Nat) : Int) + -((0 * 2 ^ ((e' : Int) - 1074 - min ((e : Int) - 1074) ((e' : Int) - 1074)).toNat : Nat) : Int))) =
      ((m * 2 ^ ((e : Int) - 1074 - min ((e : Int) - 1074) ((e' : Int) - 1074)).toNat : Nat) : Int) := by rw [Nat.zero_mul]; omega
  rw [hn]
  have hs : ∀ k : Nat, (if (k : Int) = 0 then (false && true) else decide ((k : Int) < 0)) = false := by
    intro k
    split
    · rfl
    · exact decide_eq_false (by omega)
  rw [hs, nearest_eq false _ _ (min e e') 0 (by omega)]
  rw [if_neg (by decide), Nat.pow_zero, Int.natAbs_natCast, scale_min, ← h2]

theorem add_inf {x y : Nat} (hx : x ≤ Inf) (hy : y ≤ Inf) (h : x = Inf ∨ y = Inf) : double.add x y = some Inf := by
  have sx := small hx
  have sy := small hy
  have hw : double.write (.infinity false) = Inf := by rw [Inf_val]; decide
  have ri : double.read Inf = .infinity false := by rw [Inf_val]; decide
  have e : ((double.read x).sum (double.read y)) = some (.infinity false) := by
    rcases Nat.lt_or_eq_of_le hx with h1 | h1
    · have h2 : y = Inf := by omega
      obtain ⟨m, e, g1, _⟩ := read_fin (x := x) (by rw [sx.1]; exact h1)
      rw [g1, h2, ri]; rfl
    · rw [h1, ri]
      rcases Nat.lt_or_eq_of_le hy with h2 | h2
      · obtain ⟨m, e, g1, _⟩ := read_fin (x := y) (by rw [sy.1]; exact h2)
        rw [g1]; rfl
      · rw [h2, ri]; rfl
  unfold Format.add
  rw [e, Option.map_some, hw]

theorem nearQ_big {n : Nat} (h : val Inf ≤ n) : nearQ n 1 = Inf := by
  have := nearQ_mono (n := val Inf) (m := 1) (n' := n) (m' := 1) (by decide) (by decide) (by omega)
  rw [nearQ_val (Nat.le_refl _)] at this
  have := nearQ_le_inf n 1
  omega

theorem add_eq {x y : Nat} (hx : x ≤ Inf) (hy : y ≤ Inf) : double.add x y = some (nearQ (val x + val y) 1) := by
  rcases Nat.lt_or_eq_of_le hx with h1 | h1
  · rcases Nat.lt_or_eq_of_le hy with h2 | h2
    · exact add_fin h1 h2
    · rw [add_inf hx hy (.inr h2), nearQ_big (by rw [h2]; omega)]
  · rw [add_inf hx hy (.inl h1), nearQ_big (by rw [h1]; omega)]

/-- A DIFFERENCE that is not below zero. -/
theorem sub_eq {x y : Nat} (hx : x < Inf) (h : y ≤ x) : double.sub x y = some (nearQ (val x - val y) 1) := by
  have hy : y < Inf := by omega
  have hv := val_le (Nat.le_of_lt hx) h
  have sx := small (Nat.le_of_lt hx)
  have sy := small (Nat.le_of_lt hy)
  obtain ⟨m, e, h1, h2⟩ := read_fin (x := x) (by rw [sx.1]; exact hx)
  obtain ⟨n, e', h3, h4⟩ := read_fin (x := y) (by rw [sy.1]; exact hy)
  rw [sx.1] at h2; rw [sy.1] at h4; rw [sx.2] at h1; rw [sy.2] at h3
  unfold Format.sub
  rw [h1, h3]
  simp only [Datum.sum, Datum.opposite, Option.map_some, write_num, signed_f, Bool.not_false, signed_t]
  congr 1
  have g1 := scale_min (m := m) (e := e) (e2 := e')
  have g2 := scale_min' (m := n) (e := e') (e2 := e)
  generalize m * 2 ^ ((e : Int) - 1074 - min ((e : Int) - 1074) ((e' : Int) - 1074)).toNat = p at g1 ⊢
  generalize n * 2 ^ ((e' : Int) - 1074 - min ((e : Int) - 1074) ((e' : Int) - 1074)).toNat = q at g2 ⊢
  rw [← h2] at g1
  rw [← h4] at g2
  have hqp : q ≤ p := by
    rw [← g1, ← g2] at hv
    exact Nat.le_of_mul_le_mul_right hv (Nat.two_pow_pos _)
  have hn : (p : Int) + -(q : Int) = ((p - q : Nat) : Int) := by omega
  rw [hn]
  have hs : ∀ k : Nat, (if (k : Int) = 0 then (false && true) else decide ((k : Int) < 0)) = false := by
    intro k
    split
    · rfl
    · exact decide_eq_false (by omega)
  rw [hs, nearest_eq false _ _ (min e e') 0 (by omega)]
  rw [if_neg (by decide), Nat.pow_zero, Int.natAbs_natCast, Nat.sub_mul, g1, g2]

set_option exponentiation.threshold 2000
/-- One unit of which 'val' counts goes so often into 1. -/
def U : Nat := 2 ^ 1074
theorem U_pos : 0 < U := Nat.two_pow_pos _
theorem U_eq : 2 ^ 1074 = U := rfl
attribute [irreducible] U

/-- A PRODUCT. -/
theorem mul_eq {x y : Nat} (hx : x < Inf) (hy : y < Inf) : double.mul x y = some (nearQ (val x * val y) U) := by
  have sx := small (Nat.le_of_lt hx)
  have sy := small (Nat.le_of_lt hy)
  obtain ⟨m, e, h1, h2⟩ := read_fin (x := x) (by rw [sx.1]; exact hx)
  obtain ⟨n, e', h3, h4⟩ := read_fin (x := y) (by rw [sy.1]; exact hy)
  rw [sx.1] at h2; rw [sy.1] at h4; rw [sx.2] at h1; rw [sy.2] at h3
  unfold Format.mul
  rw [h1, h3]
  simp only [Datum.product, Option.map_some, write_num, Bool.xor_false]
  congr 1
  rw [nearest_eq false _ _ (e + e') 1074 (by omega), if_neg (by decide), U_eq]
  have : m * n * 2 ^ (e + e') = val x * val y := by
    rw [h2, h4, Nat.pow_add]
    simp only [Nat.mul_assoc, Nat.mul_left_comm, Nat.mul_comm]
  rw [this]

/-- A whole number. -/
theorem ofInt_eq (n : Nat) : double.write (.number false n 0) = nearQ (n * U) 1 := by
  rw [write_num, nearest_eq false _ _ 1074 0 (by omega), if_neg (by decide), U_eq, Nat.pow_zero]

theorem log2_scale2 {n m L : Nat} (hm : 0 < m) (h1 : 2 ^ L * m ≤ n) (h2 : n < 2 ^ (L + 1) * m) (a b : Nat) : (n * 2 ^ a / (m * 2 ^ b)).log2 = L + a - b := by
  have hp : 0 < m * 2 ^ b := Nat.mul_pos hm (Nat.two_pow_pos _)
  have g1 : 2 ^ (L + a) * m ≤ n * 2 ^ a := by
    rw [Nat.pow_add, Nat.mul_right_comm]; exact Nat.mul_le_mul_right _ h1
  have g2 : n * 2 ^ a < 2 ^ (L + 1 + a) * m := by
    rw [Nat.pow_add, Nat.mul_right_comm]; exact Nat.mul_lt_mul_of_pos_right h2 (Nat.two_pow_pos _)
  rcases Nat.lt_or_ge (L + a) b with h | h
  · have : n * 2 ^ a / (m * 2 ^ b) = 0 := by
      rw [Nat.div_eq_zero_iff]
      right
      refine Nat.lt_of_lt_of_le g2 ?_
      rw [Nat.mul_comm]
      exact Nat.mul_le_mul_left _ (Nat.pow_le_pow_right (by decide) (by omega))
    rw [this]
    have : L + a - b = 0 := by omega
    rw [this]; exact Nat.log2_zero
  · have k1 : 2 ^ (L + a - b) ≤ n * 2 ^ a / (m * 2 ^ b) := by
      rw [Nat.le_div_iff_mul_le hp]
      have : 2 ^ (L + a - b) * (m * 2 ^ b) = 2 ^ (L + a) * m := by
        rw [Nat.mul_comm m, ← Nat.mul_assoc, ← Nat.pow_add, Nat.sub_add_cancel h]
      rw [this]; exact g1
    have k2 : n * 2 ^ a / (m * 2 ^ b) < 2 ^ (L + a - b + 1) := by
      rw [Nat.div_lt_iff_lt_mul hp]
      have : 2 ^ (L + a - b + 1) * (m * 2 ^ b) = 2 ^ (L + 1 + a) * m := by
        rw [Nat.mul_comm m, ← Nat.mul_assoc, ← Nat.pow_add]
        congr 2
        omega
      rw [this]; exact g2
    have k0 : n * 2 ^ a / (m * 2 ^ b) ≠ 0 := by
      have := Nat.two_pow_pos (L + a - b)
      omega
    apply Nat.le_antisymm
    · have := (Nat.log2_lt k0).2 k2
      omega
    · exact (Nat.le_log2 k0).2 k1

/-- Alike at all halves: alike when rounded. -/
theorem RE_alike {n m n' m' : Nat} (hm : 0 < m) (hm' : 0 < m') (h1 : ∀ t, 2 * n < t * m ↔ 2 * n' < t * m') (h2 : ∀ t, 2 * n = t * m ↔ 2 * n' = t * m') : RE n m = RE n' m' := by
  have key : ∀ k, RE n m ≤ k ↔ RE n' m' ≤ k := by
    intro k
    rw [RE_le hm, RE_le hm', h1, h2]
  exact Nat.le_antisymm ((key _).2 (Nat.le_refl _)) ((key _).1 (Nat.le_refl _))

/-- A digit that tells whether anything is left over is enough. -/
theorem sticky {D n : Nat} (hn : 0 < n) (hq : 2 ^ 53 ≤ D / n) (a b : Nat) : nearQ ((2 * (D / n) + (D % n != 0).toNat) * 2 ^ a) (2 ^ b) = nearQ (2 * D * 2 ^ a) (n * 2 ^ b) := by
  have hd := Nat.div_add_mod D n
  have hr := Nat.mod_lt D hn
  have hs : (D % n != 0).toNat ≤ 1 := by cases (D % n != 0) <;> simp
  have hs0 : (D % n != 0).toNat = 0 ↔ D % n = 0 := by
    by_cases h : D % n = 0
    · simp [h]
    · have : (D % n != 0) = true := by simp [h]
      rw [this]; simp [h]
  generalize (D % n != 0).toNat = s at hs hs0 ⊢
  generalize D / n = Q at hd hq ⊢
  generalize D % n = r at hd hr hs0
  have hQ0 : Q ≠ 0 := by have := Nat.two_pow_pos 53; omega
  have l1 : 2 ^ Q.log2 ≤ Q := Nat.log2_self_le hQ0
  have l2 : Q < 2 ^ (Q.log2 + 1) := Nat.lt_log2_self
  have l3 : 53 ≤ Q.log2 := (Nat.le_log2 hQ0).2 hq
  generalize Q.log2 = l at l1 l2 l3
  have p1 : 2 ^ (l + 1) = 2 * 2 ^ l := by rw [Nat.pow_succ, Nat.mul_comm]
  have p2 : 2 ^ (l + 1 + 1) = 2 * 2 ^ (l + 1) := by rw [Nat.pow_succ, Nat.mul_comm]
  have m1 : 2 ^ (l + 1) * n ≤ 2 * D := by
    have := Nat.mul_le_mul_left n l1
    rw [p1, Nat.mul_assoc, Nat.mul_comm (2 ^ l) n]
    omega
  have m2 : 2 * D < 2 ^ (l + 1 + 1) * n := by
    have := Nat.mul_le_mul_left n l2
    rw [Nat.mul_succ] at this
    rw [p2, Nat.mul_assoc, Nat.mul_comm (2 ^ (l + 1)) n]
    omega
  have e1 : eOf ((2 * Q + s) * 2 ^ a) (2 ^ b) = (l + 1 + a - b) - 52 := by
    unfold eOf
    have := log2_scale2 (n := 2 * Q + s) (m := 1) (L := l + 1) (by decide) (by omega) (by omega) a b
    rw [Nat.one_mul] at this
    rw [this]
  have e2 : eOf (2 * D * 2 ^ a) (n * 2 ^ b) = (l + 1 + a - b) - 52 := by
    unfold eOf
    rw [log2_scale2 hn m1 m2 a b]
  unfold nearQ
  rw [e1, e2]
  generalize he : (l + 1 + a - b) - 52 = e
  congr 2
  obtain ⟨c, hc⟩ : ∃ c, b + e = a + 2 + c := ⟨b + e - (a + 2), by omega⟩
  have w1 : ∀ t, t * (2 ^ b * 2 ^ e) = 2 * (t * 2 ^ c) * (2 * 2 ^ a) := by
    intro t
    rw [← Nat.pow_add, hc, Nat.pow_add, Nat.pow_add]
    show t * (2 ^ a * (2 * 2) * 2 ^ c) = _
    simp only [Nat.mul_assoc, Nat.mul_left_comm, Nat.mul_comm]
  have w2 : ∀ t, t * (n * 2 ^ b * 2 ^ e) = 2 * (n * (t * 2 ^ c)) * (2 * 2 ^ a) := by
    intro t
    have : t * (n * 2 ^ b * 2 ^ e) = n * (t * (2 ^ b * 2 ^ e)) := by
      simp only [Nat.mul_assoc, Nat.mul_left_comm, Nat.mul_comm]
    rw [this, w1]
    simp only [Nat.mul_assoc, Nat.mul_left_comm, Nat.mul_comm]
  have v1 : 2 * ((2 * Q + s) * 2 ^ a) = (2 * Q + s) * (2 * 2 ^ a) := by simp only [Nat.mul_assoc, Nat.mul_left_comm, Nat.mul_comm]
  have v2 : 2 * (2 * D * 2 ^ a) = 2 * D * (2 * 2 ^ a) := by simp only [Nat.mul_assoc, Nat.mul_left_comm, Nat.mul_comm]
  have hP : 0 < 2 * 2 ^ a := by have := Nat.two_pow_pos a; omega
  have cmp1 : ∀ T, 2 * Q + s < 2 * T ↔ 2 * D < 2 * (n * T) := by
    intro T
    constructor
    · intro h
      have := Nat.mul_le_mul_left n (show Q + 1 ≤ T by omega)
      rw [Nat.mul_succ] at this
      omega
    · intro h
      have : Q < T := by
        rcases Nat.lt_or_ge Q T with h5 | h5
        · exact h5
        · have := Nat.mul_le_mul_left n h5
          omega
      omega
  have cmp2 : ∀ T, 2 * Q + s = 2 * T ↔ 2 * D = 2 * (n * T) := by
    intro T
    constructor
    · intro h
      have h0 : s = 0 := by omega
      have : Q = T := by omega
      subst this
      have := hs0.1 h0
      omega
    · intro h
      have h1 : Q = T := by
        rcases Nat.lt_trichotomy Q T with h5 | h5 | h5
        · have := Nat.mul_le_mul_left n (show Q + 1 ≤ T by omega)
          rw [Nat.mul_succ] at this
          omega
        · exact h5
        · have := Nat.mul_le_mul_left n (show T + 1 ≤ Q by omega)
          rw [Nat.mul_succ] at this
          omega
      subst h1
      have := hs0.2 (by omega)
      omega
  refine RE_alike (Nat.mul_pos (Nat.two_pow_pos _) (Nat.two_pow_pos _)) (Nat.mul_pos (Nat.mul_pos hn (Nat.two_pow_pos _)) (Nat.two_pow_pos _)) (fun t => ?_) (fun t => ?_)
  · rw [w1, w2, v1, v2, Nat.mul_lt_mul_right hP, Nat.mul_lt_mul_right hP]
    exact cmp1 _
  · rw [w1, w2, v1, v2, Nat.mul_right_cancel_iff hP, Nat.mul_right_cancel_iff hP]
    exact cmp2 _

/-- A QUOTIENT. -/
theorem div_eq {x y : Nat} (hx : x < Inf) (hy : y < Inf) (h0 : 0 < y) : double.div x y = some (nearQ (val x * U) (val y)) := by
  have sx := small (Nat.le_of_lt hx)
  have sy := small (Nat.le_of_lt hy)
  obtain ⟨m, e, h1, h2⟩ := read_fin (x := x) (by rw [sx.1]; exact hx)
  obtain ⟨n, e', h3, h4⟩ := read_fin (x := y) (by rw [sy.1]; exact hy)
  rw [sx.1] at h2; rw [sy.1] at h4; rw [sx.2] at h1; rw [sy.2] at h3
  have hvy := val_pos (Nat.le_of_lt hy) h0
  have hn : 0 < n := by
    rcases Nat.eq_zero_or_pos n with h | h
    · rw [h, Nat.zero_mul] at h4; omega
    · exact h
  unfold Format.div
  rw [h1, h3]
  simp only [Datum.quotient, if_neg (Nat.pos_iff_ne_zero.1 hn), Option.map_some, write_num, Bool.xor_false]
  congr 1
  have hf : double.fractionBits + 2 = 54 := rfl
  rw [hf]
  generalize hmore : 54 + n.log2 - m.log2 = more
  rw [nearest_eq false _ _ (e + 1074) (e' + more + 1) (by omega), if_neg (by decide), Nat.shiftLeft_eq]
  by_cases hm : m = 0
  · subst hm
    rw [h2]
    simp only [Nat.zero_mul, Nat.zero_div, Nat.zero_mod, Nat.mul_zero]
    exact nearQ_congr (Nat.two_pow_pos _) hvy (by simp)
  · have q1 : 2 ^ m.log2 ≤ m := Nat.log2_self_le hm
    have q2 : n < 2 ^ (n.log2 + 1) := Nat.lt_log2_self
    have hq : 2 ^ 53 ≤ m * 2 ^ more / n := by
      rw [Nat.le_div_iff_mul_le hn]
      have a1 : 2 ^ 53 * n ≤ 2 ^ 53 * 2 ^ (n.log2 + 1) := Nat.mul_le_mul_left _ (Nat.le_of_lt q2)
      have a2 : 2 ^ (m.log2 + more) ≤ m * 2 ^ more := by rw [Nat.pow_add]; exact Nat.mul_le_mul_right _ q1
      have a3 : 2 ^ (53 + (n.log2 + 1)) ≤ 2 ^ (m.log2 + more) := Nat.pow_le_pow_right (by decide) (by omega)
      rw [Nat.pow_add] at a3
      omega
    rw [sticky hn hq]
    refine nearQ_congr (Nat.mul_pos hn (Nat.two_pow_pos _)) hvy ?_
    rw [h2, h4]
    have e1 : 2 ^ (e + 1074) = 2 ^ e * U := by rw [Nat.pow_add, U_eq]
    have e2 : 2 ^ (e' + more + 1) = 2 ^ e' * 2 ^ more * 2 := by rw [Nat.pow_succ, Nat.pow_add]
    rw [e1, e2]
    generalize 2 ^ e = t1
    generalize U = t2
    generalize 2 ^ e' = t3
    generalize 2 ^ more = t4
    simp only [Nat.mul_assoc, Nat.mul_left_comm, Nat.mul_comm]

/-! ### How they stand to each other -/
def key (x : Nat) : Int := if sgn x then -((x % Wt : Nat) : Int) else ((x % Wt : Nat) : Int)
def sval (x : Nat) : Int := if sgn x then -((val (x % Wt) : Nat) : Int) else ((val (x % Wt) : Nat) : Int)

theorem cmp_congr {a b c d : Int} (h1 : a < b ↔ c < d) (h2 : b < a ↔ d < c) : compare a b = compare c d := by
  show compareOfLessAndEq a b = compareOfLessAndEq c d
  unfold compareOfLessAndEq
  by_cases h : a < b
  · rw [if_pos h, if_pos (h1.1 h)]
  · rw [if_neg h, if_neg (fun k => h (h1.2 k))]
    by_cases h3 : a = b
    · have : c = d := by
        have g1 : ¬ c < d := fun k => h (h1.2 k)
        have g2 : ¬ d < c := fun k => by have := h2.2 k; omega
        omega
      rw [if_pos h3, if_pos this]
    · have : c ≠ d := by
        have := h2.1 (by omega)
        omega
      rw [if_neg h3, if_neg this]

theorem key_sval {x y : Nat} (hx : x % Wt ≤ Inf) (hy : y % Wt ≤ Inf) : key x < key y ↔ sval x < sval y := by
  have m1 : ∀ {a b : Nat}, a ≤ Inf → b ≤ Inf → (a < b ↔ val a < val b) := by
    intro a b ha hb
    constructor
    · exact fun h => val_lt hb h
    · intro h
      rcases Nat.lt_or_ge a b with h1 | h1
      · exact h1
      · have := val_le ha h1; omega
  have z1 : ∀ {a : Nat}, a ≤ Inf → (0 < a ↔ 0 < val a) := by
    intro a ha
    have := m1 (a := 0) (b := a) (by omega) ha
    rwa [val_zero] at this
  have k1 := m1 hx hy
  have k2 := m1 hy hx
  have k3 := z1 hx
  have k4 := z1 hy
  unfold key sval
  cases sgn x <;> cases sgn y <;> simp only [Bool.false_eq_true, if_false, if_true] <;> omega

/-- Held against each other: by their keys. -/
theorem order_eq {x y : Nat} (hx : x % Wt ≤ Inf) (hy : y % Wt ≤ Inf) : double.order x y = some (compare (key x) (key y)) := by
  unfold Format.order
  rcases Nat.lt_or_eq_of_le hx with h1 | h1
  · obtain ⟨m, e, g1, g2⟩ := read_fin h1
    rcases Nat.lt_or_eq_of_le hy with h2 | h2
    · obtain ⟨n, e', g3, g4⟩ := read_fin h2
      rw [g1, g3]
      simp only [Datum.order]
      congr 1
      have hv : ∀ s (m u : Nat), signed s m u = if s then -((m * 2 ^ u : Nat) : Int) else ((m * 2 ^ u : Nat) : Int) := by
        intro s m u
        cases s
        · rw [signed_f]; rfl
        · rw [signed_t]; rfl
      have a1 := scale_min (m := m) (e := e) (e2 := e')
      have a2 := scale_min' (m := n) (e := e') (e2 := e)
      rw [hv, hv]
      generalize m * 2 ^ ((e : Int) - 1074 - min ((e : Int) - 1074) ((e' : Int) - 1074)).toNat = p at a1 ⊢
      generalize n * 2 ^ ((e' : Int) - 1074 - min ((e : Int) - 1074) ((e' : Int) - 1074)).toNat = q at a2 ⊢
      rw [← g2] at a1
      rw [← g4] at a2
      have hP : 0 < 2 ^ (min e e') := Nat.two_pow_pos _
      have b1 : p < q ↔ val (x % Wt) < val (y % Wt) := by rw [← a1, ← a2]; exact (Nat.mul_lt_mul_right hP).symm
      have b2 : q < p ↔ val (y % Wt) < val (x % Wt) := by rw [← a1, ← a2]; exact (Nat.mul_lt_mul_right hP).symm
      have b3 : 0 < p ↔ 0 < val (x % Wt) := by
        rw [← a1]
        constructor
        · exact fun h => Nat.mul_pos h hP
        · intro h
          rcases Nat.eq_zero_or_pos p with h5 | h5
          · rw [h5, Nat.zero_mul] at h; omega
          · exact h5
      have b4 : 0 < q ↔ 0 < val (y % Wt) := by
        rw [← a2]
        constructor
        · exact fun h => Nat.mul_pos h hP
        · intro h
          rcases Nat.eq_zero_or_pos q with h5 | h5
          · rw [h5, Nat.zero_mul] at h; omega
          · exact h5
      have c1 := key_sval hx hy
      have c2 := key_sval hy hx
      refine cmp_congr ?_ ?_
      · rw [c1]
        unfold sval
        cases sgn x <;> cases sgn y <;> simp only [Bool.false_eq_true, if_false, if_true] <;> omega
      · rw [c2]
        unfold sval
        cases sgn x <;> cases sgn y <;> simp only [Bool.false_eq_true, if_false, if_true] <;> omega
    · rw [g1, read_inf h2]
      simp only [Datum.order]
      congr 1
      unfold key
      rw [h2]
      have hI : (0 : Nat) < Inf := by rw [Inf_val]; omega
      cases sgn y
      · have : compare (if sgn x then -((x % Wt : Nat) : Int) else ((x % Wt : Nat) : Int)) (if false = true then -((Inf : Nat) : Int) else ((Inf : Nat) : Int)) = compare (0 : Int) 1 :=
          cmp_congr (by cases sgn x <;> simp <;> omega) (by cases sgn x <;> simp <;> omega)
        rw [this]; rfl
      · have : compare (if sgn x then -((x % Wt : Nat) : Int) else ((x % Wt : Nat) : Int)) (if true = true then -((Inf : Nat) : Int) else ((Inf : Nat) : Int)) = compare (1 : Int) 0 :=
          cmp_congr (by cases sgn x <;> simp <;> omega) (by cases sgn x <;> simp <;> omega)
        rw [this]; rfl
  · rcases Nat.lt_or_eq_of_le hy with h2 | h2
    · obtain ⟨n, e', g3, g4⟩ := read_fin h2
      rw [g3, read_inf h1]
      simp only [Datum.order]
      congr 1
      unfold key
      rw [h1]
      have hI : (0 : Nat) < Inf := by rw [Inf_val]; omega
      cases sgn x
      · have : compare (if false = true then -((Inf : Nat) : Int) else ((Inf : Nat) : Int)) (if sgn y then -((y % Wt : Nat) : Int) else ((y % Wt : Nat) : Int)) = compare (1 : Int) 0 :=
          cmp_congr (by cases sgn y <;> simp <;> omega) (by cases sgn y <;> simp <;> omega)
        rw [this]; rfl
      · have : compare (if true = true then -((Inf : Nat) : Int) else ((Inf : Nat) : Int)) (if sgn y then -((y % Wt : Nat) : Int) else ((y % Wt : Nat) : Int)) = compare (0 : Int) 1 :=
          cmp_congr (by cases sgn y <;> simp <;> omega) (by cases sgn y <;> simp <;> omega)
        rw [this]; rfl
    · rw [read_inf h1, read_inf h2]
      simp only [Datum.order]
      congr 1
      unfold key
      rw [h1, h2]
      have hI : (0 : Nat) < Inf := by rw [Inf_val]; omega
      cases sgn x <;> cases sgn y
      · have : compare (if false = true then -((Inf : Nat) : Int) else ((Inf : Nat) : Int)) (if false = true then -((Inf : Nat) : Int) else ((Inf : Nat) : Int)) = compare (0 : Int) 0 := cmp_congr (by simp) (by simp)
        rw [this]; rfl
      · have : compare (if false = true then -((Inf : Nat) : Int) else ((Inf : Nat) : Int)) (if true = true then -((Inf : Nat) : Int) else ((Inf : Nat) : Int)) = compare (1 : Int) 0 := cmp_congr (by simp <;> omega) (by simp <;> omega)
        rw [this]; rfl
      · have : compare (if true = true then -((Inf : Nat) : Int) else ((Inf : Nat) : Int)) (if false = true then -((Inf : Nat) : Int) else ((Inf : Nat) : Int)) = compare (0 : Int) 1 := cmp_congr (by simp <;> omega) (by simp <;> omega)
        rw [this]; rfl
      · have : compare (if true = true then -((Inf : Nat) : Int) else ((Inf : Nat) : Int)) (if true = true then -((Inf : Nat) : Int) else ((Inf : Nat) : Int)) = compare (0 : Int) 0 := cmp_congr (by simp) (by simp)
        rw [this]; rfl

theorem order_nan {x y : Nat} (h : Inf < x % Wt ∨ Inf < y % Wt) : double.order x y = none := by
  unfold Format.order
  rcases h with h | h
  · obtain ⟨f, e⟩ := read_nan h
    rw [e]; rfl
  · obtain ⟨f, e⟩ := read_nan h
    rw [e]
    cases double.read x <;> rfl

end Go.Fl
