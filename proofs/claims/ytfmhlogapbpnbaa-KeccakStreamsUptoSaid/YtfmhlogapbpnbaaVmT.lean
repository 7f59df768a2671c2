/-
  A VERIFIED SYMBOLIC MACHINE, PART T: a whole region.
-/
import Derived.Test.YtfmhlogapbpnbaaVmS
namespace Go.Vm

/-- What a piece of code comes to, from a frame and a memory. (W: what 'it comes to Q' means of it.) -/
structure Goes (W : (Exit → Act → World → Prop) → Act → World → Prop) (n0 : Nat) (fr : Fr) (H : Hl) (lg : List Nat) (e : Exit) (fr' : Fr) (H' : Hl) (lg' : List Nat) : Prop where
  grow : n0 ≤ H'.length
  sub : ∀ b, b ∈ lg → b ∈ lg'
  keep : ∀ b, b < n0 → b ∉ lg' → H'[b]? = H[b]?
  does : ∀ (ρ : Rho) (w : World) (a : Act) (Q : Exit → Act → World → Prop), HRel ρ w (fun b => H[b]?) → FRel ρ w fr a.tmps →
    (∀ (a' : Act) (w' : World) (ρ' : Rho), HRel ρ' w' (fun b => H'[b]?) → FRel ρ' w' fr' a'.tmps → a'.defers = a.defers → Ext n0 ρ w ρ' w' → Q e a' w') → W Q a w

theorem Goes.trans {W V X : (Exit → Act → World → Prop) → Act → World → Prop} {n0 : Nat} {fr fr' fr'' : Fr} {H H' H'' : Hl} {lg lg' lg'' : List Nat} {e e' : Exit}
    (h : Goes W n0 fr H lg e fr' H' lg') (k : Goes V n0 fr' H' lg' e' fr'' H'' lg'')
    (hX : ∀ Q a w, W (fun e1 a1 w1 => (e1 = e ∧ V Q a1 w1)) a w → X Q a w) : Goes X n0 fr H lg e' fr'' H'' lg'' where
  grow := k.grow
  sub b hb := k.sub b (h.sub b hb)
  keep b hb hn := (k.keep b hb hn).trans (h.keep b hb fun h' => hn (k.sub b h'))
  does ρ w a Q hg hf hQ := hX Q a w (h.does ρ w a _ hg hf fun a' w' ρ' h1 h2 h3 h4 =>
    ⟨rfl, k.does ρ' w' a' Q h1 h2 fun a'' w'' ρ'' g1 g2 g3 g4 => hQ a'' w'' ρ'' g1 g2 (g3.trans h3) (h4.trans g4)⟩)

theorem Goes.weak {W X : (Exit → Act → World → Prop) → Act → World → Prop} {n0 : Nat} {fr fr' : Fr} {H H' : Hl} {lg lg' : List Nat} {e e' : Exit} (h : Goes W n0 fr H lg e fr' H' lg')
    (hX : ∀ (Q : Exit → Act → World → Prop) a w, W (fun e1 a1 w1 => e1 = e ∧ Q e' a1 w1) a w → X Q a w) : Goes X n0 fr H lg e' fr' H' lg' where
  grow := h.grow
  sub := h.sub
  keep := h.keep
  does ρ w a Q hg hf hQ := hX Q a w (h.does ρ w a _ hg hf fun a' w' ρ' h1 h2 h3 h4 => ⟨rfl, hQ a' w' ρ' h1 h2 h3 h4⟩)

/-! ### Edges -/

theorem fold_bits (on : Edge → Bool) (acc : Array Nat) : ∀ (es : List Edge) (s i : Nat), (es.foldl (fun s e => if on e then s ||| 2 ^ e.on ||| acc.getD e.on 0 else s) s).testBit i = true →
    s.testBit i = true ∨ ∃ e, e ∈ es ∧ on e = true ∧ (i = e.on ∨ (acc.getD e.on 0).testBit i = true)
  | [], s, i, h => .inl h
  | e :: es, s, i, h => by
    simp only [List.foldl_cons] at h
    rcases fold_bits on acc es _ i h with h' | ⟨e', h1, h2, h3⟩
    · split at h'
      · rename_i hon
        rw [Nat.testBit_or, Nat.testBit_or] at h'
        simp only [Bool.or_eq_true] at h'
        rcases h' with (h' | h') | h'
        · exact .inl h'
        · rw [Nat.testBit_two_pow] at h'
          exact .inr ⟨e, by simp, hon, .inl (of_decide_eq_true h').symm⟩
        · exact .inr ⟨e, by simp, hon, .inr h'⟩
      · exact .inl h'
    · exact .inr ⟨e', List.mem_cons_of_mem _ h1, h2, h3⟩

theorem before_spec (ops : Array Oper) (j i : Nat) (h : ((Region.before ops).getD j 0).testBit i = true) :
    ∃ o e, ops[j]? = some o ∧ e ∈ o.after ∧ Region.binds .any e = true ∧ (i = e.on ∨ (e.on < j ∧ ((Region.before ops).getD e.on 0).testBit i = true)) := by
  have key : ∀ (l : List Oper) (d : Nat) (acc : Array Nat), acc.size = d → (∀ k, l[k]? = ops[d + k]?) →
      (∀ j i, (acc.getD j 0).testBit i = true → ∃ o e, ops[j]? = some o ∧ e ∈ o.after ∧ Region.binds .any e = true ∧ (i = e.on ∨ (e.on < j ∧ (acc.getD e.on 0).testBit i = true))) →
      let r := l.foldl (fun acc o => acc.push (o.after.foldl (fun s e => if Region.binds .any e then s ||| 2 ^ e.on ||| acc.getD e.on 0 else s) 0)) acc
      ∀ j i, (r.getD j 0).testBit i = true → ∃ o e, ops[j]? = some o ∧ e ∈ o.after ∧ Region.binds .any e = true ∧ (i = e.on ∨ (e.on < j ∧ (r.getD e.on 0).testBit i = true)) := by
    intro l
    induction l with
    | nil => intro d acc _ _ h; exact h
    | cons o l ih =>
      intro d acc hd hl hacc
      simp only [List.foldl_cons]
      have h0 : ops[d]? = some o := by have := hl 0; simpa using this.symm
      refine ih (d + 1) _ (by simp [hd]) (fun k => by have := hl (k + 1); rw [show d + (k + 1) = d + 1 + k by omega] at this; simpa using this) ?_
      intro j i hji
      rcases Nat.lt_trichotomy j d with hlt | heq | hgt
      · have e1 : ∀ (x : Nat), j < acc.size → (acc.push x).getD j 0 = acc.getD j 0 := by
          intro x hx
          rw [Array.getD_eq_getD_getElem?, Array.getD_eq_getD_getElem?, Array.getElem?_push_lt hx]
          simp [hx]
        rw [e1 _ (by omega)] at hji
        obtain ⟨o', e, a, b, c, f⟩ := hacc j i hji
        refine ⟨o', e, a, b, c, ?_⟩
        rcases f with f | ⟨f, g⟩
        · exact .inl f
        · refine .inr ⟨f, ?_⟩
          have he : e.on < acc.size := by omega
          rw [Array.getD_eq_getD_getElem?, Array.getElem?_push_lt he]
          rw [Array.getD_eq_getD_getElem?] at g
          simpa [he] using g
      · subst heq
        have e1 : ∀ x, (acc.push x).getD j 0 = x := by
          intro x
          rw [Array.getD_eq_getD_getElem?, ← hd, Array.getElem?_push_size]
          rfl
        rw [e1, ← Array.foldl_toList] at hji
        rcases fold_bits (Region.binds .any) acc _ _ i hji with h' | ⟨e, h1, h2, h3⟩
        · simp at h'
        · refine ⟨o, e, h0, by simpa using h1, h2, ?_⟩
          rcases h3 with h3 | h3
          · exact .inl h3
          · have he : e.on < acc.size := by
              rcases Nat.lt_or_ge e.on acc.size with h | h
              · exact h
              · rw [Array.getD_eq_getD_getElem?, Array.getElem?_eq_none h] at h3; simp at h3
            refine .inr ⟨by omega, ?_⟩
            rw [Array.getD_eq_getD_getElem?, Array.getElem?_push_lt he]
            rw [Array.getD_eq_getD_getElem?] at h3
            simpa [he] using h3
      · have e1 : ∀ x, (acc.push x).getD j 0 = 0 := by
          intro x
          rw [Array.getD_eq_getD_getElem?, Array.getElem?_eq_none (by simp; omega)]
          rfl
        rw [e1] at hji
        simp at hji
  have := key ops.toList 0 #[] rfl (fun k => by simp) (fun j i h => by simp at h) j i
  unfold Region.before at h ⊢
  rw [← Array.foldl_toList] at h ⊢
  exact this h

/-- The edges lead back. -/
def edgesOK : Nat → List Oper → Bool
  | _, [] => true
  | j, o :: os => (o.after.all fun e => !(Region.binds .any e) || decide (e.on < j)) && edgesOK (j + 1) os

theorem edgesOK_ok : ∀ {os : List Oper} {j : Nat}, edgesOK j os = true → ∀ k o, os[k]? = some o → ∀ e, e ∈ o.after → Region.binds .any e = true → e.on < j + k
  | [], _, _, k, o, ho, _, _, _ => by simp at ho
  | x :: os, j, h, k, o, ho, e, he, hb => by
    simp only [edgesOK, Bool.and_eq_true] at h
    cases k with
    | zero =>
      simp at ho; subst ho
      have := Array.all_eq_true_iff_forall_mem.1 h.1 e he
      simp [hb] at this
      omega
    | succ k =>
      have := edgesOK_ok h.2 k o (by simpa using ho) e he hb
      omega

/-- The region, as the machine's code. -/
def regOf (P : Program) (ops : Array Oper) (draw : Bool) : VC :=
  match draw with
  | false => .reg false [] (vosOf P ops)
  | true => match (P.follows .mixedOrders || !Region.departs ops) && edgesOK 0 ops.toList && slotsOK (Region.before ops).toList 0 (vosOf P ops) with
    | true => .reg true (Region.before ops).toList (vosOf P ops)
    | false => .reg false [] [badO]

/-! ### Races -/

theorem note_cases (i : Nat) (t f : List Nat) (l : Option Nat) (rs : List Rec) : (note i t f l rs = rs ∧ t = [] ∧ f = [] ∧ l = none) ∨ note i t f l rs = (i, t, f, l) :: rs := by
  unfold note
  split
  · exact .inl ⟨rfl, rfl, rfl, rfl⟩
  · exact .inr rfl

theorem raceOne_cons {bef : Nat} {T F : List Nat} {i : Nat} {t f : List Nat} {l : Option Nat} {rest : List Rec} (h : raceOne bef T F ((i, t, f, l) :: rest) = true) : raceOne bef T F rest = true ∧
    ((meet t T || meet t F || meet f T || overO l T) = true → bef.testBit i = true) := by
  unfold raceOne at h
  split at h
  · rename_i hc
    split at h
    · rename_i hb; exact ⟨h, fun _ => hb⟩
    · cases h
  · rename_i hc
    exact ⟨h, fun h' => by rw [hc] at h'; cases h'⟩

theorem clash_iff (vf : Nat → VO) (t : Tr) (T F : List Nat) (i : Nat) : (∃ b, (b ∈ t.T i ∧ b ∈ T) ∨ (b ∈ t.T i ∧ b ∈ F) ∨ (b ∈ t.F i ∧ b ∈ T) ∨ (isCall (vf i).op = true ∧ (t.H i).length ≤ b ∧ b ∈ T)) →
    (meet (t.T i) T || meet (t.T i) F || meet (t.F i) T || overO (limOf (vf i).op (t.H i).length) T) = true := by
  rintro ⟨b, hb⟩
  simp only [Bool.or_eq_true, meet_iff, or_assoc]
  rcases hb with hb | hb | hb | ⟨h1, h2, h3⟩
  · exact .inl ⟨b, hb⟩
  · exact .inr (.inl ⟨b, hb⟩)
  · exact .inr (.inr (.inl ⟨b, hb⟩))
  · refine .inr (.inr (.inr ?_))
    simp only [limOf, h1, overO, over_iff]
    exact ⟨b, h3, h2⟩

theorem raceOne_ok {vf : Nat → VO} {t : Tr} {bef : Nat} {T F : List Nat} : ∀ {n : Nat}, raceOne bef T F (recs vf t n) = true → ∀ i, i < n → t.run i = true →
    (meet (t.T i) T || meet (t.T i) F || meet (t.F i) T || overO (limOf (vf i).op (t.H i).length) T) = true → bef.testBit i = true
  | 0, _, i, hi, _, _ => by omega
  | n + 1, h, i, hi, hr, hc => by
    unfold recs at h
    by_cases hn : t.run n = true
    · rw [if_pos hn] at h
      rcases note_cases n (t.T n) (t.F n) (limOf (vf n).op (t.H n).length) (recs vf t n) with ⟨e, e1, e2, e3⟩ | e
      · rw [e] at h
        by_cases hin : i = n
        · subst hin
          rw [e1, e2, e3] at hc
          cases hc
        · exact raceOne_ok h i (by omega) hr hc
      · rw [e] at h
        obtain ⟨h1, h2⟩ := raceOne_cons h
        by_cases hin : i = n
        · subst hin; exact h2 hc
        · exact raceOne_ok h1 i (by omega) hr hc
    · rw [if_neg hn] at h
      by_cases hin : i = n
      · subst hin; exact absurd hr hn
      · exact raceOne_ok h i (by omega) hr hc

theorem races_ok {vf : Nat → VO} {t : Tr} {bef : List Nat} : ∀ {n : Nat}, races bef (recs vf t n) = true → ∀ i j, i < j → j < n → t.run i = true → t.run j = true →
    (∃ b, (b ∈ t.T i ∧ b ∈ t.T j) ∨ (b ∈ t.T i ∧ b ∈ t.F j) ∨ (b ∈ t.F i ∧ b ∈ t.T j) ∨ (isCall (vf i).op = true ∧ (t.H i).length ≤ b ∧ b ∈ t.T j)) → (slotN bef j).testBit i = true
  | 0, _, i, j, _, hj, _, _, _ => by omega
  | n + 1, h, i, j, hij, hj, hri, hrj, hc => by
    unfold recs at h
    by_cases hn : t.run n = true
    · rw [if_pos hn] at h
      rcases note_cases n (t.T n) (t.F n) (limOf (vf n).op (t.H n).length) (recs vf t n) with ⟨e, e1, e2, e3⟩ | e
      · rw [e] at h
        by_cases hjn : j = n
        · subst hjn
          obtain ⟨b, hb⟩ := hc
          rw [e1, e2] at hb
          simp at hb
        · exact races_ok h i j hij (by omega) hri hrj hc
      · rw [e] at h
        unfold races at h
        split at h
        · rename_i h1
          by_cases hjn : j = n
          · subst hjn
            exact raceOne_ok h1 i hij hri (clash_iff vf t _ _ i hc)
          · exact races_ok h i j hij (by omega) hri hrj hc
        · cases h
    · rw [if_neg hn] at h
      by_cases hjn : j = n
      · subst hjn; exact absurd hrj hn
      · exact races_ok h i j hij (by omega) hri hrj hc

/-! ### Orders -/

/-- How many are not listed yet. -/
def cnt (p : Nat → Bool) : Nat → Nat
  | 0 => 0
  | n + 1 => cnt p n + (if p n then 1 else 0)
theorem cnt_congr {p q : Nat → Bool} {n : Nat} (h : ∀ i, i < n → p i = q i) : cnt p n = cnt q n := by
  induction n with
  | zero => rfl
  | succ n ih => simp only [cnt, ih (fun i hi => h i (by omega)), h n (by omega)]
theorem cnt_less {p q : Nat → Bool} {n i : Nat} (hi : i < n) (hp : p i = true) (hq : q i = false) (h : ∀ j, j ≠ i → p j = q j) : cnt p n = cnt q n + 1 := by
  induction n with
  | zero => omega
  | succ n ih =>
    by_cases hin : i = n
    · subst hin
      simp only [cnt, hp, hq, if_true, Bool.false_eq_true, if_false]
      rw [cnt_congr (p := p) (q := q) (fun j hj => h j (by omega))]
    · simp only [cnt, ih (by omega), h n (by omega)]
      omega
theorem cnt_zero {p : Nat → Bool} {n : Nat} (h : cnt p n = 0) : ∀ i, i < n → p i = false := by
  induction n with
  | zero => intro i hi; omega
  | succ n ih =>
    simp only [cnt] at h
    intro i hi
    by_cases hin : i = n
    · subst hin
      cases hp : p i
      · rfl
      · simp [hp] at h
    · exact ih (by omega) i (by omega)
theorem cnt_all (n : Nat) : cnt (fun _ => true) n = n := by
  induction n with
  | zero => rfl
  | succ n ih => simp [cnt, ih]

section
variable {P : Program} {all : Array Oper} {vf : Nat → VO} {t : Tr} {n : Nat} {ρ0 : Rho} {w0 : World} {ds : List Deferred} {Q : Exit → Act → World → Prop}
  (hn : n = all.size) (hst : ∀ j o, j < n → all[j]? = some o → StepAt P all o (vf j) t j)
include hn hst

omit hn hst in
theorem inv_mono {D D' : Nat → Prop} (h : ∀ i, i < n → (D i ↔ D' i)) {a : Act} {w : World} (hi : Inv n vf t ρ0 w0 ds D a w) : Inv n vf t ρ0 w0 ds D' a w := by
  obtain ⟨⟨ρ, fr, g, h1, h2, h3, h4, h5⟩, h6⟩ := hi
  exact ⟨⟨ρ, fr, g, h1, h2, h3, fun s p hp hw => h4 s p hp fun j hj hd => (h j hj).trans (hw j hj hd), fun b p hp hw => h5 b p hp fun j hj hr hb => (h j hj).trans (hw j hj hr hb)⟩, h6⟩

/-- In the text's order. -/
theorem ops_text (hB : Settled n vf t fun i j => i < j) (hQ : ∀ a w, Inv n vf t ρ0 w0 ds (fun _ => True) a w → Q .normal a w) :
    ∀ (d p : Nat) (a : Act) (w : World), p + d = n → Inv n vf t ρ0 w0 ds (fun i => i < p) a w → wpOps P all Q (List.range' p d) a w
  | 0, p, a, w, hp, h => hQ a w (inv_mono (fun i hi => ⟨fun _ => trivial, fun _ => by omega⟩) h)
  | d + 1, p, a, w, hp, h => by
    rw [List.range'_succ, wpOps_cons]
    refine inv_step hn hst hB (D := fun i => i < p) (j := p) (by omega) (Nat.lt_irrefl _) (fun i hi _ => hi) (fun i _ hi k hk _ => Nat.lt_trans hk hi) h fun a' w' h' => ?_
    exact ops_text hB hQ d (p + 1) a' w' (by omega) (inv_mono (fun i _ => by constructor <;> intro h <;> omega) h')

/-- In any order that the edges let. -/
theorem ops_any {bef : List Nat} (hbef : bef = (Region.before all).toList) (he : ∀ j o, all[j]? = some o → ∀ e, e ∈ o.after → Region.binds .any e = true → e.on < j) (hB : Settled n vf t fun i j => (slotN bef j).testBit i = true)
    (hQ : ∀ a w, Inv n vf t ρ0 w0 ds (fun _ => True) a w → Q .normal a w) :
    ∀ (fuel : Nat) (listed : Array Bool) (a : Act) (w : World), listed.size = n → cnt (fun i => !listed.getD i true) n = fuel →
      (∀ j o, all[j]? = some o → listed.getD j false = true → ∀ e, e ∈ o.after → Region.binds .any e = true → listed.getD e.on false = true) →
      Inv n vf t ρ0 w0 ds (fun i => listed.getD i false = true) a w → wpAny P .any all Q fuel listed a w := by
  have hbits : ∀ (listed : Array Bool), (∀ j o, all[j]? = some o → listed.getD j false = true → ∀ e, e ∈ o.after → Region.binds .any e = true → listed.getD e.on false = true) →
      ∀ (j : Nat) (o : Oper), all[j]? = some o → (∀ e, e ∈ o.after → Region.binds .any e = true → listed.getD e.on false = true) → ∀ i, (slotN bef j).testBit i = true → listed.getD i false = true := by
    intro listed hcl j
    induction j using Nat.strongRecOn with
    | _ j ih =>
      intro o ho hall i hi
      have : ((Region.before all).getD j 0).testBit i = true := by
        rw [slotN_eq, hbef] at hi
        rw [Array.getD_eq_getD_getElem?]
        simpa using hi
      obtain ⟨o', e, h1, h2, h3, h4⟩ := before_spec all j i this
      rw [ho] at h1; cases h1
      have hl := hall e h2 h3
      rcases h4 with h4 | ⟨h4, h5⟩
      · rw [h4]; exact hl
      · have hes : e.on < all.size := by
          have := (Array.getElem?_eq_some_iff.1 ho).1
          omega
        refine ih e.on h4 all[e.on] (by simp [hes]) (hcl e.on all[e.on] (by simp [hes]) hl) i ?_
        rw [slotN_eq, hbef]
        rw [Array.getD_eq_getD_getElem?] at h5
        simpa using h5
  have hf : ∀ (listed : Array Bool) (j : Nat), listed.size = n → j < n → listed.getD j false = listed.getD j true := by
    intro listed j hs hj
    rw [Array.getD_eq_getD_getElem?, Array.getD_eq_getD_getElem?]
    have : j < listed.size := by omega
    simp [this]
  -- nothing ready: all are listed
  have hdone : ∀ (listed : Array Bool), listed.size = n → Region.ready .any all listed = [] → ∀ j, j < n → listed.getD j false = true := by
    intro listed hs hr j
    induction j using Nat.strongRecOn with
    | _ j ih =>
      intro hj
      cases hc : listed.getD j false with
      | true => rfl
      | false =>
        have hjs : j < all.size := by omega
        have : j ∈ Region.ready .any all listed := by
          refine mem_ready.2 ⟨by rw [← hf listed j hs hj]; exact hc, all[j], by simp [hjs], fun e h1 h2 => ?_⟩
          have := he j all[j] (by simp [hjs]) e h1 h2
          exact ih e.on this (by omega)
        rw [hr] at this; cases this
  intro fuel
  induction fuel with
  | zero =>
    intro listed a w hs hc hcl hi
    have hall : ∀ j, j < n → listed.getD j false = true := fun j hj => by
      have := cnt_zero hc j hj
      rw [hf listed j hs hj]
      simpa using this
    refine ⟨?_, hQ a w (inv_mono (fun j hj => ⟨fun _ => trivial, fun _ => hall j hj⟩) hi)⟩
    apply List.eq_nil_iff_forall_not_mem.2
    intro j hj
    obtain ⟨h1, o, ho, _⟩ := mem_ready.1 hj
    have hjn : j < n := by
      have := (Array.getElem?_eq_some_iff.1 ho).1
      omega
    have := hall j hjn
    rw [hf listed j hs hjn] at this
    rw [h1] at this; cases this
  | succ fuel ih =>
    intro listed a w hs hc hcl hi
    refine ⟨fun hr => hQ a w (inv_mono (fun j hj => ⟨fun _ => trivial, fun _ => hdone listed hs hr j hj⟩) hi), fun j hj => ?_⟩
    obtain ⟨h1, o, ho, hall⟩ := mem_ready.1 hj
    have hjn : j < n := by
      have := (Array.getElem?_eq_some_iff.1 ho).1
      omega
    have hjl : listed.getD j false = false := by rw [hf listed j hs hjn]; exact h1
    refine inv_step hn hst hB (j := j) hjn (by rw [hjl]; simp) (fun i _ hb => hbits listed hcl j o ho hall i hb) ?_ hi fun a' w' h' => ?_
    · intro i hin hil k _ hb
      have his : i < all.size := by omega
      exact hbits listed hcl i all[i] (by simp [his]) (hcl i all[i] (by simp [his]) hil) k hb
    · have hset : ∀ i d, i < n → (listed.setIfInBounds j true).getD i d = if i = j then true else listed.getD i d := by
        intro i d hi'
        have : j < listed.size := by omega
        by_cases h : i = j
        · subst h
          simp [this]
        · rw [if_neg h]
          exact getD_set_ne d (fun e => h e.symm)
      refine ih _ a' w' (by simp [hs]) ?_ ?_ ?_
      · have := cnt_less (p := fun i => !listed.getD i true) (q := fun i => !(listed.setIfInBounds j true).getD i true) hjn (by simp [← hf listed j hs hjn, hjl]) (by simp [hset j true hjn]) (fun i hi' => by
          simp only [getD_set_ne true (fun e => hi' e.symm)])
        omega
      · intro i o' ho' hil e h2 h3
        have hin : i < n := by
          have := (Array.getElem?_eq_some_iff.1 ho').1
          omega
        refine getD_set_true ?_
        rw [hset i false hin] at hil
        split at hil
        · rename_i e'; subst e'
          rw [ho] at ho'; cases ho'
          exact hall e h2 h3
        · exact hcl i o' ho' hil e h2 h3
      · refine inv_mono (fun i hi' => ?_) h'
        rw [hset i false hi']
        by_cases h : i = j
        · subst h; simp
        · simp [h]
end

end Go.Vm
