/-
  A VERIFIED SYMBOLIC MACHINE, PART Z: a contract in another memory.
-/
import Derived.Test.YtfmhlogapbpnbaaVmY
namespace Go.Vm
noncomputable section

/-! ### New blocks forgotten -/

def cutH (m : Nat) (H : Hl) : Hl := pickH noView (List.range m) H
def cutV (m : Nat) (r : AV) : AV := ren (pickN (List.range m)) noView true r

theorem pick_range {m b c : Nat} (h : pickN (List.range m) b = some c) : c = b ∧ b < m := by
  have := (placeIn_some h).2
  rw [Nat.sub_zero] at this
  obtain ⟨h1, h2⟩ := List.getElem?_eq_some_iff.1 this
  simp at h1 h2
  omega

theorem pickR_range (m : Nat) (ρ : Rho) (b : Nat) : pickR (List.range m) ρ b = if b < m then ρ b else .unborn := by
  unfold pickR
  by_cases h : b < m
  · simp [h]
  · simp [h]

theorem CallTo.cut {P : Program} {f : Nat} {vals : List AV} {H H' : Hl} {r : AV} {lg lg0 : List Nat} (hc : CallTo P f vals H r H' lg) (m : Nat) (h1 : H.length ≤ m) (h2 : m ≤ H'.length)
    (hk : ∀ b, b < H.length → b ∉ lg0 → (cutH m H')[b]? = H[b]?) : CallTo P f vals H (cutV m r) (cutH m H') lg0 where
  real := hc.real
  grow := by simpa [cutH, pickH] using h1
  keep := hk
  does ρ w us hg hv := (hc.does ρ w us hg hv).mono fun e w' h => by
    obtain ⟨v, ρ', rfl, g1, g2, g3⟩ := h
    refine ⟨v, pickR (List.range m) ρ', rfl, g1.pick List.nodup_range (fun b hb => Nat.lt_of_lt_of_le (List.mem_range.1 hb) h2) (noView_ok _ _ _ _),
      ren_rel (fun b c => pickR_of) (fun _ c B F h => let ⟨b, _, e⟩ := pickR_own h; ⟨b, F, e⟩) (noView_ok _ _ _ _) g2, ⟨g3.size, g3.os, g3.tape, g3.output, g3.keep, fun b hb hn => ?_, fun b B F hl => ?_, g3.rows⟩⟩
    · rw [pickR_range, if_pos (by omega)]
      exact g3.slot b hb hn
    · rw [pickR_range] at hl
      split at hl
      · exact g3.fresh b B F hl
      · cases hl

/-- What is handed out, and the first m blocks. -/
def cutK (m : Nat) : AV → Hl → List Nat → Option Out := fun r H _ => match Nat.ble m (size H) with
  | true => some (cutV m r, cutH m H, [])
  | false => none

theorem call_cut {P : Program} {C : Con} (hC : ConOK P C) {T : Nat → Option VF} (hT : ∀ f vf, T f = some vf → FnOK P f vf) {f n : Nat} {vf : VF} (hf : T f = some vf) {vals : List AV} {H H0 : Hl} {r0 : AV} (m : Nat) (lg0 : List Nat)
    (h : vcall (optA C) ops0 T n vf vals H (cutK m) = some (r0, H0, [])) (h1 : H.length ≤ m) (hk : ∀ b, b < H.length → b ∉ lg0 → H0[b]? = H[b]?) : CallTo P f vals H r0 H0 lg0 := by
  have hfine : (optA C).Fine P (fun x => x = some (r0, H0, [])) := stdA_fine (by simp) (conF_ok (by simp) hC)
  obtain ⟨r, H', lg, hc, e⟩ := vcall_sound hfine hT (hT f vf hf) (holds := fun x => x = some (r0, H0, [])) h
  unfold cutK at e
  split at e <;> cases e
  rename_i hm
  rw [size_eq] at hm
  exact hc.cut m h1 (Nat.le_of_ble_eq_true hm) hk

/-! ### In a greater memory -/

/-- What lies in the caller's other blocks, to be looked at (blocks within blocks: n deep). -/
def viewF (H : Hl) (ids : List Nat) : Nat → Nat → Option (List AV)
  | 0, _ => none
  | n + 1, b => match H[b]? with
    | some (.cells cs) => some (renL (pickN ids) (viewF H ids n) true cs)
    | _ => none

theorem viewF_ok {ρ : Rho} {w : World} {H : Hl} (hg : HRel ρ w (fun b => H[b]?)) {ids : List Nat} : ∀ n, Views ρ (pickR ids ρ) w (pickN ids) (viewF H ids n)
  | 0 => ⟨fun b cs _ h => (by cases h), fun b cs h => (by cases h)⟩
  | n + 1 => by
    have ih := viewF_ok hg (ids := ids) n
    refine ⟨fun b cs hb h => ?_, fun b cs h => ?_⟩
    · unfold viewF at h
      split at h <;> first | cases h | skip
      rename_i cs0 hH
      rcases hg.live b cs0 hH with ⟨h1, h2⟩ | ⟨B, F, c, el, lo, hi, h1, h2, h3, h4, h5⟩
      · subst h2; exact .inl ⟨h1, by simp [renL]⟩
      · refine .inr (.inr ?_)
        obtain ⟨vs, k1, k2, k3, k4⟩ := Lies.values (show Lies ρ w cs0 F c from h5)
        refine ⟨B, F, vs, h1, hg.lt h1, fun c' F' hl => ?_, by rw [renL_length]; exact k1, k4, fun i v hv => ?_, fun i a v ha hv => ?_⟩
        · obtain ⟨b', hb', e⟩ := pickR_own hl
          have := hg.inj b b' B F F' h1 e
          subst this
          exact placeIn_none hb (List.mem_of_getElem? hb')
        · rw [cell_at h2]; exact k2 i v hv
        · rw [renL_get] at ha
          obtain ⟨x, hx, e⟩ := Option.map_eq_some_iff.1 ha
          subst e
          obtain ⟨u, q1, _, q3⟩ := k3 i x hx
          have : v = u := by
            simp only [Nat.zero_add, List.getElem?_toArray] at q1
            exact Option.some.inj (hv.symm.trans q1)
          subst this
          exact ren_rel (fun b c => pickR_of) (fun _ c B F h => let ⟨b, _, e⟩ := pickR_own h; ⟨b, F, e⟩) ih q3
    · unfold viewF at h
      split at h <;> first | cases h | skip
      rename_i cs0 hH
      rcases hg.live b cs0 hH with ⟨h1, h2⟩ | ⟨B, F, c, el, lo, hi, h1, h2, h3, h4, h5⟩ <;> rw [h1] <;> simp

/-- The names back. -/
def backN (ids : List Nat) (n : Nat) : Nat → Option Nat := fun c => match ids[c]? with
  | some b => some b
  | none => some (n + (c - ids.length))
def backV (ids : List Nat) (n : Nat) (r : AV) : AV := ren (backN ids n) noView false r
def backB (ids : List Nat) (n : Nat) (k : Blk) : Blk := renB (backN ids n) noView false k
def backR (ids : List Nat) (n : Nat) (ρ ρ0 : Rho) : Rho := fun b => match placeIn b 0 ids with
  | some c => ρ0 c
  | none => if b < n then ρ b else ρ0 (ids.length + (b - n))
def oldH (ids : List Nat) (n : Nat) (H H0 : Hl) : Hl := (List.range n).map fun b => match placeIn b 0 ids with
  | some c => backB ids n (H0[c]?.getD .dead)
  | none => H[b]?.getD .dead
def backH (ids : List Nat) (H H0 : Hl) : Hl := oldH ids H.length H H0 ++ (H0.drop ids.length).map (backB ids H.length)
def backL (ids : List Nat) (lg : List Nat) : List Nat := lg.filterMap fun c => ids[c]?

theorem backH_get (ids : List Nat) (H H0 : Hl) (b : Nat) : (backH ids H H0)[b]? = if b < H.length then (match placeIn b 0 ids with
    | some c => some (backB ids H.length (H0[c]?.getD .dead))
    | none => H[b]?) else (H0[ids.length + (b - H.length)]?).map (backB ids H.length) := by
  unfold backH
  by_cases h : b < H.length
  · rw [if_pos h, List.getElem?_append_left (by simpa [oldH] using h)]
    simp only [oldH, List.getElem?_map, List.getElem?_range h, Option.map_some]
    cases placeIn b 0 ids with
    | some c => rfl
    | none => simp [h]
  · rw [if_neg h, List.getElem?_append_right (by simpa [oldH] using h)]
    simp [oldH]

theorem CallTo.frame {P : Program} {f : Nat} {vals : List AV} {H H0 : Hl} {r0 : AV} {lg0 : List Nat} (ids : List Nat) (n : Nat) (hn : ids.Nodup) (hlt : ∀ b, b ∈ ids → b < H.length)
    (hc : CallTo P f (renL (pickN ids) (viewF H ids n) true vals) (pickH (viewF H ids n) ids H) r0 H0 lg0)
    (hk : ∀ b c, placeIn b 0 ids = some c → c ∉ lg0 → some (backB ids H.length (H0[c]?.getD .dead)) = H[b]?) :
    CallTo P f vals H (backV ids H.length r0) (backH ids H H0) (backL ids lg0) where
  real := hc.real
  grow := by simp [backH, oldH]
  keep b hb hn' := by
    rw [backH_get, if_pos hb]
    split
    · rename_i c hp
      refine hk b c hp fun h => hn' ?_
      have := (placeIn_some hp).2
      rw [Nat.sub_zero] at this
      exact List.mem_filterMap.2 ⟨c, h, this⟩
    · rfl
  does ρ w us hg hv := by
    have hV := viewF_ok hg (ids := ids) n
    have hlen : (pickH (viewF H ids n) ids H).length = ids.length := by simp [pickH]
    refine (hc.does (pickR ids ρ) w us (hg.pick hn hlt hV) (rens_rel (fun b c => pickR_of) (fun _ c B F h => let ⟨b, _, e⟩ := pickR_own h; ⟨b, F, e⟩) hV hv)).mono fun e w' h => ?_
    obtain ⟨v, ρ0, rfl, g1, g2, g3⟩ := h
    rw [hlen] at g3
    have grow : ids.length ≤ H0.length := by have := hc.grow; rwa [hlen] at this
    -- the names
    have name : ∀ c b, backN ids H.length c = some b → backR ids H.length ρ ρ0 b = ρ0 c := by
      intro c b h
      unfold backN at h
      split at h
      · rename_i b' hb'
        cases h
        simp [backR, placeIn_at hn hb']
      · rename_i hb'
        cases h
        have hcl : ids.length ≤ c := by simpa using hb'
        have hp : placeIn (H.length + (c - ids.length)) 0 ids = none := by
          cases hp : placeIn (H.length + (c - ids.length)) 0 ids with
          | none => rfl
          | some d =>
            have := (placeIn_some hp).2
            have := hlt _ (List.mem_of_getElem? this)
            omega
        simp only [backR, hp]
        rw [if_neg (by omega), show ids.length + (H.length + (c - ids.length) - H.length) = c by omega]
    have own : ∀ b B F, backR ids H.length ρ ρ0 b = .live B F → (∃ c, ρ0 c = .live B F ∧ (placeIn b 0 ids = some c ∨ (placeIn b 0 ids = none ∧ H.length ≤ b ∧ c = ids.length + (b - H.length)))) ∨ (b < H.length ∧ placeIn b 0 ids = none ∧ ρ b = .live B F) := by
      intro b B F h
      unfold backR at h
      split at h
      · rename_i c hp; exact .inl ⟨c, h, .inl hp⟩
      · rename_i hp
        split at h
        · rename_i hb; exact .inr ⟨hb, hp, h⟩
        · rename_i hb; exact .inl ⟨_, h, .inr ⟨hp, by omega, rfl⟩⟩
    -- what the callee owns is new, or was picked
    have far : ∀ c B F b F', ρ0 c = .live B F → ρ b = .live B F' → placeIn b 0 ids = none → False := by
      intro c B F b F' h1 h2 h3
      rcases g3.fresh c B F h1 with h | ⟨c', F2, h⟩
      · have := hg.lt h2; omega
      · obtain ⟨b', hb', e⟩ := pickR_own h
        have := hg.inj b b' B F' F2 h2 e
        subst this
        exact placeIn_none h3 (List.mem_of_getElem? hb')
    have unown : ∀ b B F, b < H.length → placeIn b 0 ids = none → ρ b = .live B F → ∀ c F', pickR ids ρ c ≠ .live B F' := by
      intro b B F hb hp hl c F' h
      obtain ⟨b', hb', e⟩ := pickR_own h
      have := hg.inj b b' B F F' hl e
      subst this
      exact placeIn_none hp (List.mem_of_getElem? hb')
    have E : Ext H.length ρ w (backR ids H.length ρ ρ0) w' := by
      refine ⟨g3.size, g3.os, g3.tape, g3.output, fun B hB hu => g3.keep B hB fun c F h => ?_, fun b hb hn' => ?_, fun b B F hl => ?_, g3.rows⟩
      · obtain ⟨b, _, e⟩ := pickR_own h
        exact hu b F e
      · unfold backR
        split
        · rename_i c hp
          have hpr := pickR_of (ρ := ρ) hp
          have hc' : c < ids.length := by
            have := (placeIn_some hp).2
            rw [Nat.sub_zero] at this
            exact (List.getElem?_eq_some_iff.1 this).1
          rw [← hpr]
          exact g3.slot c hc' (by rw [hpr]; exact hn')
        · rw [if_pos hb]; exact .inl rfl
      · rcases own b B F hl with ⟨c, h, _⟩ | ⟨_, _, h⟩
        · rcases g3.fresh c B F h with h' | ⟨c', F', h'⟩
          · exact .inl h'
          · obtain ⟨b', _, e⟩ := pickR_own h'
            exact .inr ⟨b', F', e⟩
        · exact .inr ⟨b, F, h⟩
    have renv : ∀ {a : AV} {v : Value}, VRel ρ0 w' a v → VRel (backR ids H.length ρ ρ0) w' (ren (backN ids H.length) noView false a) v := fun h =>
      ren_rel (fun b c => name b c) (fun h => by cases h) (noView_ok _ _ _ _) h
    have monov : ∀ {a : AV} {v : Value}, VRel ρ w a v → VRel (backR ids H.length ρ ρ0) w' a v := fun h =>
      h.mono E fun b hb => by
        rcases Nat.lt_or_ge b H.length with h' | h'
        · exact h'
        · exact absurd (hg.unborn b (List.getElem?_eq_none h')) hb
    refine ⟨v, backR ids H.length ρ ρ0, rfl, ⟨fun b h => ?_, fun b h => ?_, fun b b' B F F' h h' => ?_, fun b cs h => ?_⟩, renv g2, E⟩
    · simp only [backH_get] at h
      unfold backR
      split at h
      · rename_i hb
        split at h
        · cases h
        · rw [if_pos hb]
          exact hg.unborn b h
      · rename_i hb
        have hp : placeIn b 0 ids = none := by
          cases hp : placeIn b 0 ids with
          | none => rfl
          | some d =>
            have := (placeIn_some hp).2
            have := hlt _ (List.mem_of_getElem? this)
            omega
        rw [hp]
        simp only
        rw [if_neg hb]
        exact g1.unborn _ (by simpa using h)
    · simp only [backH_get] at h
      unfold backR
      split at h
      · rename_i hb
        split at h
        · rename_i c hp
          have hc' : c < H0.length := by
            have := (placeIn_some hp).2
            rw [Nat.sub_zero] at this
            have := (List.getElem?_eq_some_iff.1 this).1
            omega
          simp only [hc', List.getElem?_eq_getElem, Option.getD_some, Option.some.injEq] at h
          apply g1.dead
          rw [List.getElem?_eq_getElem hc']
          cases hk' : H0[c] with
          | dead => rfl
          | cells cs => rw [hk'] at h; cases h
        · rw [if_pos hb]
          exact hg.dead b h
      · rename_i hb
        have hp : placeIn b 0 ids = none := by
          cases hp : placeIn b 0 ids with
          | none => rfl
          | some d =>
            have := (placeIn_some hp).2
            have := hlt _ (List.mem_of_getElem? this)
            omega
        rw [hp]
        simp only
        rw [if_neg hb]
        obtain ⟨k, hk1, hk2⟩ := Option.map_eq_some_iff.1 h
        apply g1.dead
        rw [hk1]
        cases k with
        | dead => rfl
        | cells cs => cases hk2
    · rcases own b B F h with ⟨c, h1, h2⟩ | ⟨h1, h2, h3⟩
      · rcases own b' B F' h' with ⟨c', k1, k2⟩ | ⟨k1, k2, k3⟩
        · have := g1.inj c c' B F F' h1 k1
          subst this
          rcases h2 with h2 | ⟨h2, h3, h4⟩
          · rcases k2 with k2 | ⟨k2, k3, k4⟩
            · have a1 := (placeIn_some h2).2
              have a2 := (placeIn_some k2).2
              rw [a1] at a2
              exact Option.some.inj a2
            · have a1 := (placeIn_some h2).2
              rw [Nat.sub_zero] at a1
              have := (List.getElem?_eq_some_iff.1 a1).1
              omega
          · rcases k2 with k2 | ⟨k2, k3, k4⟩
            · have a1 := (placeIn_some k2).2
              rw [Nat.sub_zero] at a1
              have := (List.getElem?_eq_some_iff.1 a1).1
              omega
            · omega
        · exact (far c B F b' F' h1 k3 k2).elim
      · rcases own b' B F' h' with ⟨c', k1, k2⟩ | ⟨k1, k2, k3⟩
        · exact (far c' B F' b F k1 h3 h2).elim
        · exact hg.inj b b' B F F' h3 k3
    · -- a block of the callee's, under its name
      have key : ∀ c k, H0[c]? = some k → backB ids H.length k = .cells cs → backR ids H.length ρ ρ0 b = ρ0 c →
          (backR ids H.length ρ ρ0 b = .void ∧ cs = []) ∨ ∃ B F cc elem lo hi, backR ids H.length ρ ρ0 b = .live B F ∧ w'.heap[B]? = some (.cells cc elem (lo, hi)) ∧ F + cs.length ≤ cc.size ∧
            (∀ j, F ≤ j → j < cc.size → ¬ (lo ≤ j ∧ j < hi)) ∧ (∀ i a, cs[i]? = some a → ∃ v, cc[F + i]? = some v ∧ vone v = true ∧ VRel (backR ids H.length ρ ρ0) w' a v) := by
        intro c k hk1 hk2 hr
        cases k with
        | dead => cases hk2
        | cells cs0 =>
          have e : renL (backN ids H.length) noView false cs0 = cs := by cases hk2; rfl
          subst e
          rcases g1.live c cs0 hk1 with ⟨h1, h2⟩ | ⟨B, F, cc, el, lo, hi, h1, h2, h3, h4, h5⟩
          · subst h2; exact .inl ⟨hr.trans h1, by simp [renL]⟩
          · refine .inr ⟨B, F, cc, el, lo, hi, hr.trans h1, h2, by rw [renL_length]; exact h3, h4, fun i a ha => ?_⟩
            rw [renL_get] at ha
            obtain ⟨x, hx, e⟩ := Option.map_eq_some_iff.1 ha
            subst e
            obtain ⟨v, q1, q2, q3⟩ := h5 i x hx
            exact ⟨v, q1, q2, renv q3⟩
      simp only [backH_get] at h
      split at h
      · rename_i hb
        split at h
        · rename_i c hp
          have hc' : c < H0.length := by
            have := (placeIn_some hp).2
            rw [Nat.sub_zero] at this
            have := (List.getElem?_eq_some_iff.1 this).1
            omega
          simp only [hc', List.getElem?_eq_getElem, Option.getD_some, Option.some.injEq] at h
          exact key c H0[c] (List.getElem?_eq_getElem hc') h (by simp [backR, hp])
        · rename_i hp
          have hr : backR ids H.length ρ ρ0 b = ρ b := by simp [backR, hp, hb]
          rcases hg.live b cs h with ⟨h1, h2⟩ | ⟨B, F, cc, el, lo, hi, h1, h2, h3, h4, h5⟩
          · exact .inl ⟨hr.trans h1, h2⟩
          · refine .inr ⟨B, F, cc, el, lo, hi, hr.trans h1, ?_, h3, h4, fun i a ha => ?_⟩
            · rw [g3.keep B (hg.lt h1) (unown b B F hb hp h1)]
              exact h2
            · obtain ⟨v, q1, q2, q3⟩ := h5 i a ha
              exact ⟨v, q1, q2, monov q3⟩
      · rename_i hb
        have hp : placeIn b 0 ids = none := by
          cases hp : placeIn b 0 ids with
          | none => rfl
          | some d =>
            have := (placeIn_some hp).2
            have := hlt _ (List.mem_of_getElem? this)
            omega
        obtain ⟨k, hk1, hk2⟩ := Option.map_eq_some_iff.1 h
        exact key _ k hk1 hk2 (by simp [backR, hp, hb])

/-- A call that looks at values alone, and hands out a value alone. -/
theorem CallTo.pure {P : Program} {f : Nat} {vals : List AV} {r0 : AV} {lg : List Nat} (n : Nat) {H : Hl} (hc : CallTo P f (renL (pickN []) (viewF H [] n) true vals) [] r0 [] lg) : CallTo P f vals H (backV [] H.length r0) H [] := by
  have h := CallTo.frame (H := H) (vals := vals) [] n List.nodup_nil (fun b hb => by cases hb) hc (fun b c hp => by cases hp)
  have e1 : backH [] H [] = H := by
    apply List.ext_getElem?
    intro b
    rw [backH_get]
    by_cases hb : b < H.length
    · rw [if_pos hb]; rfl
    · rw [if_neg hb, List.getElem?_eq_none (Nat.le_of_not_lt hb)]; simp
  have e2 : backL [] lg = [] := by simp [backL]
  rw [e1, e2] at h
  exact h

end
end Go.Vm
