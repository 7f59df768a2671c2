/-
  A VERIFIED SYMBOLIC MACHINE, PART Y: other names for the blocks; some forgotten, some only looked at.
-/
import Derived.Test.YtfmhlogapbpnbaaVmX
namespace Go.Vm
noncomputable section

mutual
/-- A value under other names. (σ: a block's new name. φ: what lies in a block that bears none: its slices become views.) -/
def ren (σ : Nat → Option Nat) (φ : Nat → Option (List AV)) (kp : Bool) : AV → AV
  | .ptr b o => match σ b with
    | some c => .ptr c o
    | none => .top
  | .slc b o len cap sz => match σ b with
    | some c => .slc c o len cap sz
    | none => match φ b with
      | some cs => .ros cs o len cap false
      | none => .top
  | .ros cs o len cap e => match kp with
    | true => .ros (renL σ φ true cs) o len cap e
    | false => match cs with
      | [] => .ros [] o len cap e
      | _ => .top
  | .rop cs o => match kp with
    | true => .rop (renL σ φ true cs) o
    | false => .top
  | .agg cs => .agg (renL σ φ kp cs)
  | .tup cs => .tup (renL σ φ kp cs)
  | .fn f xs ys => .fn f (renL σ φ kp xs) (renL σ φ kp ys)
  | .ifc t v => .ifc t (ren σ φ kp v)
  | .top => .top
  | .bool b => .bool b
  | .int k n => .int k n
  | .flt k n => .flt k n
  | .str s => .str s
  | .nilp => .nilp
  | .nils => .nils
  | .nilf => .nilf
  | .nili => .nili
def renL (σ : Nat → Option Nat) (φ : Nat → Option (List AV)) (kp : Bool) : List AV → List AV
  | [] => []
  | x :: xs => ren σ φ kp x :: renL σ φ kp xs
end

theorem renL_get (σ : Nat → Option Nat) (φ : Nat → Option (List AV)) (kp : Bool) (cs : List AV) (i : Nat) : (renL σ φ kp cs)[i]? = (cs[i]?).map (ren σ φ kp) := by
  induction cs generalizing i with
  | nil => simp [renL]
  | cons x cs ih => cases i <;> simp [renL, ih]
theorem renL_length (σ : Nat → Option Nat) (φ : Nat → Option (List AV)) (kp : Bool) (cs : List AV) : (renL σ φ kp cs).length = cs.length := by
  induction cs with
  | nil => simp [renL]
  | cons x cs ih => simp [renL, ih]
theorem renL_nil (σ : Nat → Option Nat) (φ : Nat → Option (List AV)) (kp : Bool) (cs : List AV) : renL σ φ kp cs = [] ↔ cs = [] := by
  cases cs <;> simp [renL]

/-- What is only looked at: where it lies, and that nobody who knows the new names owns it. -/
structure Views (ρ ρ' : Rho) (w : World) (σ : Nat → Option Nat) (φ : Nat → Option (List AV)) : Prop where
  at_ : ∀ b cs, σ b = none → φ b = some cs → (ρ b = .void ∧ cs = []) ∨ ρ b = .dead ∨ ∃ B F, ∃ vs : List Value, ρ b = .live B F ∧ B < w.heap.size ∧ (∀ c F', ρ' c ≠ .live B F') ∧ vs.length = cs.length ∧ (∀ v ∈ vs, vone v = true) ∧
    (∀ i v, vs[i]? = some v → w.cell? ⟨B, F + i, none⟩ = some v) ∧ (∀ (i : Nat) (a : AV) (v : Value), cs[i]? = some a → vs[i]? = some v → VRel ρ' w a v)
  dead : ∀ b cs, φ b = some cs → ρ b ≠ .dead

theorem ren_rel {ρ ρ' : Rho} {w : World} {σ : Nat → Option Nat} {φ : Nat → Option (List AV)} {kp : Bool} (hσ : ∀ b c, σ b = some c → ρ' c = ρ b) (hown : kp = true → ∀ c B F, ρ' c = .live B F → ∃ b F', ρ b = .live B F') (hφ : Views ρ ρ' w σ φ) {a : AV} {v : Value}
    (h : VRel ρ w a v) : VRel ρ' w (ren σ φ kp a) v := by
  have hlist : ∀ (cs : List AV) (vs : List Value), (∀ (i : Nat) (a : AV) (v : Value), cs[i]? = some a → vs[i]? = some v → VRel ρ' w (ren σ φ kp a) v) →
      ∀ (i : Nat) (a : AV) (v : Value), (renL σ φ kp cs)[i]? = some a → vs[i]? = some v → VRel ρ' w a v := by
    intro cs vs h i a v ha hv
    rw [renL_get] at ha
    obtain ⟨x, hx, e⟩ := Option.map_eq_some_iff.1 ha
    subst e
    exact h i x v hx hv
  induction h with
  | top v => exact .top v
  | bool b => exact .bool b
  | int k n => exact .int k n
  | flt k n => exact .flt k n
  | str s => exact .str s
  | nilp => exact .nilp
  | ptr b o v h0 h1 hs h =>
    simp only [ren]
    split
    · rename_i c hc
      have e := hσ b c hc
      exact .ptr c o v (by rw [e]; exact h0) (by rw [e]; exact h1) hs (by rw [e]; exact h)
    · exact .top v
  | nils => exact .nils
  | slc b o len cap sz v h0 hs hv h =>
    simp only [ren]
    split
    · rename_i c hc
      have e := hσ b c hc
      exact .slc c o len cap sz v (by rw [e]; exact h0) hs (by rw [e]; exact hv) (by rw [e]; exact h)
    · rename_i hc
      split
      · rename_i cs hcs
        rcases hφ.at_ b cs hc hcs with ⟨g0, g1⟩ | g | ⟨B, F, vs, g1, g2, g3, g4, g5, g6, g7⟩
        · obtain ⟨ao, rfl, rfl, rfl⟩ := hv g0
          subst g1
          exact .ros [] o 0 0 false 0 0 ao 0 [] (fun h => absurd rfl h) (fun h => absurd rfl h) rfl (by simp) (by simp) (by simp) (Nat.le_refl _) (Nat.le_refl _) (fun h => by cases h) (fun h => absurd rfl h)
        · exact absurd g (hφ.dead b cs hcs)
        · obtain ⟨ao, cap', k1, k2, rfl, k4, k5⟩ := h B F g1
          exact .ros cs o len cap false B F ao cap' vs (fun _ => g2) (fun _ => g3) g4 g5 g6 g7 k1 k2 (fun h => by cases h) k4
      · exact .top v
  | ros cells off len cap exact B F ao cap' vs hlt hp hl ho hc hr hcap hlen he ha ih =>
    simp only [ren]
    split
    · refine .ros _ off len cap exact B F ao cap' vs (fun hn => hlt fun h => hn ((renL_nil σ φ true cells).2 h)) (fun hn c F' hl' => ?_) (by rw [renL_length]; exact hl) ho hc (hlist _ _ ih) hcap hlen he ha
      obtain ⟨b, F2, hb⟩ := hown rfl c B F' hl'
      exact hp (fun h => hn ((renL_nil σ φ true cells).2 h)) b F2 hb
    · split
      · exact .ros [] off len cap exact B F ao cap' vs (fun h => absurd rfl h) (fun h => absurd rfl h) hl ho hc (by simp) hcap hlen he ha
      · exact .top _
  | rop cells off B F vs hlt hp hl ho hc hr ih =>
    simp only [ren]
    split
    · refine .rop _ off B F vs (fun hn => hlt fun h => hn ((renL_nil σ φ true cells).2 h)) (fun hn c F' hl' => ?_) (by rw [renL_length]; exact hl) ho hc (hlist _ _ ih)
      obtain ⟨b, F2, hb⟩ := hown rfl c B F' hl'
      exact hp (fun h => hn ((renL_nil σ φ true cells).2 h)) b F2 hb
    · exact .top _
  | agg cs vs hl ho hr ih => simp only [ren]; exact .agg _ vs (by rw [renL_length]; exact hl) ho (hlist _ _ ih)
  | tup cs vs hl hr ih => simp only [ren]; exact .tup _ vs (by rw [renL_length]; exact hl) (hlist _ _ ih)
  | fn f xs ys us vs hl hl' hr hr' ih ih' =>
    simp only [ren]
    exact .fn f _ _ us vs (by rw [renL_length]; exact hl) (by rw [renL_length]; exact hl') (hlist _ _ ih) (hlist _ _ ih')
  | nilf => exact .nilf
  | ifc t a v h ih => simp only [ren]; exact .ifc t _ v ih
  | nili => exact .nili

theorem rens_rel {ρ ρ' : Rho} {w : World} {σ : Nat → Option Nat} {φ : Nat → Option (List AV)} {kp : Bool} (hσ : ∀ b c, σ b = some c → ρ' c = ρ b) (hown : kp = true → ∀ c B F, ρ' c = .live B F → ∃ b F', ρ b = .live B F') (hφ : Views ρ ρ' w σ φ) {as : List AV} {vs : List Value}
    (h : VRels ρ w as vs) : VRels ρ' w (renL σ φ kp as) vs :=
  ⟨by rw [renL_length]; exact h.len, fun i a v ha hv => by
    rw [renL_get] at ha
    obtain ⟨x, hx, e⟩ := Option.map_eq_some_iff.1 ha
    subst e
    exact ren_rel hσ hown hφ (h.at_ i x v hx hv)⟩

def noView : Nat → Option (List AV) := fun _ => none
theorem noView_ok (ρ ρ' : Rho) (w : World) (σ : Nat → Option Nat) : Views ρ ρ' w σ noView := ⟨fun b cs _ h => (by cases h), fun b cs h => (by cases h)⟩

def renB (σ : Nat → Option Nat) (φ : Nat → Option (List AV)) (kp : Bool) : Blk → Blk
  | .dead => .dead
  | .cells cs => .cells (renL σ φ kp cs)

/-! ### Some of the blocks -/

/-- The place of b in the list. -/
def placeIn (b : Nat) : Nat → List Nat → Option Nat
  | _, [] => none
  | c, x :: xs => match Nat.beq x b with
    | true => some c
    | false => placeIn b (c + 1) xs

theorem placeIn_some {b : Nat} : ∀ {l : List Nat} {c d : Nat}, placeIn b c l = some d → c ≤ d ∧ l[d - c]? = some b
  | [], _, _, h => by cases h
  | x :: xs, c, d, h => by
    unfold placeIn at h
    split at h
    · rename_i e
      have e := Nat.eq_of_beq_eq_true e
      cases h
      simp [e]
    · obtain ⟨h1, h2⟩ := placeIn_some h
      refine ⟨by omega, ?_⟩
      rw [show d - c = (d - (c + 1)) + 1 by omega]
      simpa using h2
theorem placeIn_none {b : Nat} : ∀ {l : List Nat} {c : Nat}, placeIn b c l = none → b ∉ l
  | [], _, _ => by simp
  | x :: xs, c, h => by
    unfold placeIn at h
    split at h
    · cases h
    · rename_i e
      have hx : x ≠ b := by intro e'; subst e'; simp [Nat.beq_refl] at e
      have := placeIn_none h
      simp only [List.mem_cons, not_or]
      exact ⟨fun e' => hx e'.symm, this⟩
theorem placeIn_at {l : List Nat} (hn : l.Nodup) {b c : Nat} (h : l[c]? = some b) : placeIn b 0 l = some c := by
  cases hp : placeIn b 0 l with
  | none => exact absurd (List.mem_of_getElem? h) (placeIn_none hp)
  | some d =>
    have := (placeIn_some hp).2
    rw [Nat.sub_zero] at this
    obtain ⟨h1, e1⟩ := List.getElem?_eq_some_iff.1 h
    obtain ⟨h2, e2⟩ := List.getElem?_eq_some_iff.1 this
    have hp := List.pairwise_iff_getElem.1 hn
    have : c = d := by
      rcases Nat.lt_trichotomy c d with h | h | h
      · exact absurd (e1.trans e2.symm) (hp c d h1 h2 h)
      · exact h
      · exact absurd (e2.trans e1.symm) (hp d c h2 h1 h)
    rw [this]

def pickN (ids : List Nat) : Nat → Option Nat := fun b => placeIn b 0 ids
def pickR (ids : List Nat) (ρ : Rho) : Rho := fun c => match ids[c]? with
  | some b => ρ b
  | none => .unborn
def pickH (φ : Nat → Option (List AV)) (ids : List Nat) (H : Hl) : Hl := ids.map fun b => match H[b]? with
  | some k => renB (pickN ids) φ true k
  | none => .dead

theorem pickR_of {ids : List Nat} {ρ : Rho} {b c : Nat} (h : pickN ids b = some c) : pickR ids ρ c = ρ b := by
  have := (placeIn_some h).2
  rw [Nat.sub_zero] at this
  simp [pickR, this]
theorem pickR_own {ids : List Nat} {ρ : Rho} {c B F : Nat} (h : pickR ids ρ c = .live B F) : ∃ b, ids[c]? = some b ∧ ρ b = .live B F := by
  unfold pickR at h
  split at h
  · rename_i b hb; exact ⟨b, hb, h⟩
  · cases h

theorem HRel.pick {ρ : Rho} {w : World} {H : Hl} (hg : HRel ρ w (fun b => H[b]?)) {ids : List Nat} (hn : ids.Nodup) (hlt : ∀ b, b ∈ ids → b < H.length) {φ : Nat → Option (List AV)} (hφ : Views ρ (pickR ids ρ) w (pickN ids) φ) :
    HRel (pickR ids ρ) w (fun c => (pickH φ ids H)[c]?) where
  unborn c h := by
    simp only [pickH, List.getElem?_map, Option.map_eq_none_iff] at h
    simp [pickR, h]
  dead c h := by
    simp only [pickH, List.getElem?_map] at h
    obtain ⟨b, hb, e⟩ := Option.map_eq_some_iff.1 h
    have hbl := hlt b (List.mem_of_getElem? hb)
    have hH : H[b]? = some H[b] := by simp [hbl]
    rw [hH] at e
    have e : renB (pickN ids) φ true H[b] = .dead := e
    have hd : H[b]? = some .dead := by
      rw [hH]
      cases hk : H[b] with
      | dead => rfl
      | cells cs => rw [hk] at e; cases e
    simp only [pickR, hb]
    exact hg.dead b hd
  inj c c' B F F' h h' := by
    obtain ⟨b, hb, e⟩ := pickR_own h
    obtain ⟨b', hb', e'⟩ := pickR_own h'
    have := hg.inj b b' B F F' e e'
    subst this
    have h1 := placeIn_at hn hb
    have h2 := placeIn_at hn hb'
    rw [h1] at h2
    exact Option.some.inj h2
  live c cs h := by
    simp only [pickH, List.getElem?_map] at h
    obtain ⟨b, hb, e⟩ := Option.map_eq_some_iff.1 h
    have hbl := hlt b (List.mem_of_getElem? hb)
    have hH : H[b]? = some H[b] := by simp [hbl]
    rw [hH] at e
    have e : renB (pickN ids) φ true H[b] = .cells cs := e
    cases hk : H[b] with
    | dead => rw [hk] at e; cases e
    | cells cs0 =>
      rw [hk] at e hH
      have e : renL (pickN ids) φ true cs0 = cs := by cases e; rfl
      subst e
      have hr : pickR ids ρ c = ρ b := by simp [pickR, hb]
      rcases hg.live b cs0 hH with ⟨h1, h2⟩ | ⟨B, F, cc, el, lo, hi, h1, h2, h3, h4, h5⟩
      · subst h2; exact .inl ⟨hr.trans h1, by simp [renL]⟩
      · refine .inr ⟨B, F, cc, el, lo, hi, hr.trans h1, h2, by rw [renL_length]; exact h3, h4, fun i a ha => ?_⟩
        rw [renL_get] at ha
        obtain ⟨x, hx, e⟩ := Option.map_eq_some_iff.1 ha
        subst e
        obtain ⟨v, g1, g2, g3⟩ := h5 i x hx
        exact ⟨v, g1, g2, ren_rel (fun b c => pickR_of) (fun _ c B F h => let ⟨b, _, e⟩ := pickR_own h; ⟨b, F, e⟩) hφ g3⟩

end
end Go.Vm
