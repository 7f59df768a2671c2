/-
  A VERIFIED SYMBOLIC MACHINE, PART C: steps of the model's memory, and what they do to the relation.
-/
import Derived.Test.YtfmhlogapbpnbaaVmB
namespace Go.Vm

/-- The operation o comes to a value and a world that Post knows. -/
def OpDo (P : Program) (o : Oper) (a : Act) (w : World) (Post : Value → World → Prop) : Prop :=
  ∀ (next : Act → World → Prop) (Q : Exit → Act → World → Prop), (∀ v w', Post v w' → next (a.put o.dst v) w') → o.wp P a w next Q

theorem OpDo.value {P : Program} {o : Oper} {a : Act} {w w' : World} {v : Value} {Post : Value → World → Prop}
    (h : (execOp a.eval o).run P w = .ok (.value v) w') (hp : Post v w') : OpDo P o a w Post := by
  intro next Q hn
  unfold Oper.wp
  rw [h]
  exact hn v w' hp

theorem OpDo.skip {P : Program} {o : Oper} {a : Act} {w w' : World} {Post : Value → World → Prop}
    (h : (execOp a.eval o).run P w = .ok .skip w') (hp : Post undef w') : OpDo P o a w Post := by
  intro next Q hn
  unfold Oper.wp
  rw [h]
  exact hn undef w' hp

/-! ### Lists -/
theorem nth_eq {α : Type} (l : List α) (i : Nat) : nth l i = l[i]? := by
  induction l generalizing i with
  | nil => simp [nth_nil]
  | cons x l ih => cases i <;> simp [nth_zero, nth_succ, ih]
theorem put_eq {α : Type} (l : List α) (i : Nat) (v : α) : put l i v = l.set i v := by
  induction l generalizing i with
  | nil => simp [put_nil]
  | cons x l ih => cases i <;> simp [put_zero, put_succ, ih]
theorem size_eq {α : Type} (l : List α) : size l = l.length := by
  induction l with
  | nil => rfl
  | cons x l ih => simp [size_cons, ih]
theorem join_eq {α : Type} (l m : List α) : join l m = l ++ m := by
  induction l with
  | nil => rfl
  | cons x l ih => simp [join_cons, ih]
theorem blt_iff (a b : Nat) : Nat.blt a b = true ↔ a < b := by rw [Nat.blt_eq]
theorem mem_upto (n i : Nat) : i ∈ upto n ↔ i < n := by
  induction n with
  | zero => simp [upto]
  | succ n ih => simp [upto, ih]; omega
theorem mem_under (n i : Nat) (l : List Nat) : i ∈ under n l ↔ i ∈ l ∧ i < n := by
  induction l with
  | nil => simp [under]
  | cons x l ih =>
    unfold under
    cases h : Nat.blt x n
    · have hx : ¬ x < n := by intro h'; have := (blt_iff _ _).2 h'; simp [h] at this
      simp only [ih, List.mem_cons]
      constructor
      · rintro ⟨a, b⟩; exact ⟨.inr a, b⟩
      · rintro ⟨a | a, b⟩
        · subst a; exact absurd b hx
        · exact ⟨a, b⟩
    · have hx : x < n := (blt_iff _ _).1 h
      simp only [List.mem_cons, ih]
      constructor
      · rintro (a | ⟨a, b⟩)
        · subst a; exact ⟨.inl rfl, hx⟩
        · exact ⟨.inr a, b⟩
      · rintro ⟨a | a, b⟩
        · exact .inl a
        · exact .inr ⟨a, b⟩
theorem mem_news (n m i : Nat) : i ∈ news n m ↔ n ≤ i ∧ i < m := by
  simp only [news, List.mem_filter, mem_upto, Bool.not_eq_true']
  constructor
  · rintro ⟨h1, h2⟩
    refine ⟨?_, h1⟩
    rcases Nat.lt_or_ge i n with h | h
    · have := (blt_iff _ _).2 h; simp [h2] at this
    · exact h
  · rintro ⟨h1, h2⟩
    refine ⟨h2, ?_⟩
    cases h : Nat.blt i n
    · rfl
    · have := (blt_iff _ _).1 h; omega

theorem splice_length {α : Type} (cs : List α) (o : Nat) (xs : List α) (h : o + xs.length ≤ cs.length) : (spliceL cs o xs).length = cs.length := by
  simp [spliceL]; omega
theorem splice_get {α : Type} (cs : List α) (o : Nat) (xs : List α) (h : o + xs.length ≤ cs.length) (i : Nat) :
    (spliceL cs o xs)[i]? = if i < o then cs[i]? else if i < o + xs.length then xs[i - o]? else cs[i]? := by
  unfold spliceL
  by_cases h1 : i < o
  · rw [if_pos h1, List.getElem?_append_left (by simp; omega), List.getElem?_take, if_pos h1]
  · rw [if_neg h1, List.getElem?_append_right (by simp; omega)]
    have e : (cs.take o).length = o := by simp; omega
    rw [e]
    by_cases h2 : i < o + xs.length
    · rw [if_pos h2, List.getElem?_append_left (by omega)]
    · rw [if_neg h2, List.getElem?_append_right (by omega), List.getElem?_drop]
      congr 1; omega

/-! ### The model's loads and stores, over a row of cells -/

theorem cell_at {w : World} {B : Nat} {c : Array Value} {e : TypeId} {fz : Nat × Nat} (h : w.heap[B]? = some (.cells c e fz)) (i : Nat) :
    w.cell? ⟨B, i, none⟩ = c[i]? := by simp [World.cell?, h]

theorem add_at (B F n : Nat) : (⟨B, F, none⟩ : Addr).add n = ⟨B, F + n, none⟩ := by
  unfold Addr.add
  split
  · rename_i h; subst h; rfl
  · rfl

theorem run_load_some {P : Program} {w : World} {a : Addr} {v : Value} (h : w.cell? a = some v) : (load a).run P w = .ok v w := by simp [h]

theorem run_loadCellsFrom' {P : Program} {w : World} {B F : Nat} : ∀ (vs : List Value) (i : Nat) (acc : Array Value), (∀ j v, vs[j]? = some v → w.cell? ⟨B, F + (i + j), none⟩ = some v) →
    (loadCellsFrom ⟨B, F, none⟩ i vs.length acc).run P w = .ok (acc ++ vs.toArray) w
  | [], i, acc, _ => by simp [loadCellsFrom]
  | v :: vs, i, acc, h => by
    have h0 := h 0 v (by simp)
    have ih := run_loadCellsFrom' (P := P) vs (i + 1) (acc.push v) (fun j u hu => by
      have := h (j + 1) u (by simpa using hu)
      rw [show i + (j + 1) = i + 1 + j by omega] at this
      exact this)
    simp only [List.length_cons, loadCellsFrom, Sem.run_bind, add_at]
    rw [run_load_some (by simpa using h0)]
    simp only [Result.andThen_ok, ih]
    simp

theorem run_loadCells' {P : Program} {w : World} {B F : Nat} (vs : List Value) (n : Nat) (hn : vs.length = n) (h : ∀ j v, vs[j]? = some v → w.cell? ⟨B, F + j, none⟩ = some v) :
    (loadCells ⟨B, F, none⟩ n).run P w = .ok vs.toArray w := by
  subst hn
  unfold loadCells
  rw [run_loadCellsFrom' vs 0 #[] (by simpa using h)]
  simp

/-- w' is w, but that the row B holds c'. -/
structure Wrote (w : World) (B : Nat) (c' : Array Value) (e : TypeId) (fz : Nat × Nat) (w' : World) : Prop where
  size : w'.heap.size = w.heap.size
  os : w'.os = w.os
  tape : w'.tape = w.tape
  output : w'.output = w.output
  here : w'.heap[B]? = some (.cells c' e fz)
  other : ∀ B', B' ≠ B → w'.heap[B']? = w.heap[B']?

theorem run_store_row {P : Program} {w : World} {B i : Nat} {c : Array Value} {e : TypeId} {lo hi : Nat} {v : Value} (h : w.heap[B]? = some (.cells c e (lo, hi))) (hi' : i < c.size)
    (hf : ¬ (lo ≤ i ∧ i < hi)) (hv : vone v = true) :
    ∃ w', (store ⟨B, i, none⟩ v).run P w = .ok () w' ∧ Wrote w B (c.setIfInBounds i v) e (lo, hi) w' := by
  have hv' : v.oneCell' = true := by cases v <;> simp_all [vone, Value.oneCell']
  rw [run_store P w _ v _ hv', cell_at h]
  have hc : c[i]? = some c[i] := by simp [hi']
  have hfz : w.frozen? ⟨B, i, none⟩ = false := by
    simp only [World.frozen?, h]
    simp only [Bool.and_eq_false_iff, decide_eq_false_iff_not]
    omega
  simp only [hc, hfz]
  simp only [Bool.false_eq_true, if_false]
  refine ⟨_, rfl, ?_⟩
  have hB : B < w.heap.size := by
    rcases Nat.lt_or_ge B w.heap.size with h' | h'
    · exact h'
    · simp [Array.getElem?_eq_none h'] at h
  refine ⟨by simp [World.setCell], rfl, rfl, rfl, ?_, ?_⟩
  · simp only [World.setCell, Array.getElem?_modify, if_true, h, Option.map_some, Option.isSome_none, Bool.false_eq_true, if_false]
  · intro B' hB'
    simp only [World.setCell, Array.getElem?_modify]
    rw [if_neg (fun h => hB' h.symm)]

theorem splice_cons {c : List Value} {o : Nat} {v : Value} {vs : List Value} (h : o < c.length) : spliceL (c.set o v) (o + 1) vs = spliceL c o (v :: vs) := by
  unfold spliceL
  rw [List.take_succ_eq_append_getElem (by simpa using h)]
  simp only [List.getElem_set_self, List.take_set_of_le (Nat.le_refl _), List.append_assoc, List.cons_append, List.nil_append, List.length_cons]
  congr 3
  rw [List.drop_set_of_lt (by omega)]
  congr 1
  omega

/-- What a run of stores leaves. -/
theorem run_storeCells' {P : Program} {B X : Nat} {e : TypeId} {lo hi : Nat} : ∀ (vs : List Value) (i : Nat) (c : Array Value) (w : World), w.heap[B]? = some (.cells c e (lo, hi)) →
    X + i + vs.length ≤ c.size → (∀ j, X ≤ j → j < c.size → ¬ (lo ≤ j ∧ j < hi)) → (∀ v ∈ vs, vone v = true) →
    ∃ w', (storeCells ⟨B, X, none⟩ vs i).run P w = .ok () w' ∧ Wrote w B (spliceL c.toList (X + i) vs).toArray e (lo, hi) w'
  | [], i, c, w, h, hs, hf, hv => by
    simp only [storeCells, Sem.run_pure]
    refine ⟨w, rfl, rfl, rfl, rfl, rfl, ?_, fun _ _ => rfl⟩
    rw [h]
    simp [spliceL]
  | v :: vs, i, c, w, h, hs, hf, hv => by
    simp only [List.length_cons] at hs
    simp only [storeCells, Sem.run_bind, add_at]
    obtain ⟨w1, hr1, hw1⟩ := run_store_row (P := P) (v := v) h (i := X + i) (by omega) (hf _ (by omega) (by omega)) (hv v (by simp))
    rw [hr1]
    simp only [Result.andThen_ok]
    obtain ⟨w2, hr2, hw2⟩ := run_storeCells' (P := P) (X := X) vs (i + 1) (c.setIfInBounds (X + i) v) w1 hw1.here (by simp; omega) (by simpa using hf) (fun u hu => hv u (by simp [hu]))
    refine ⟨w2, hr2, hw2.size.trans hw1.size, hw2.os.trans hw1.os, hw2.tape.trans hw1.tape, hw2.output.trans hw1.output, ?_, fun B' hB' => (hw2.other B' hB').trans (hw1.other B' hB')⟩
    rw [hw2.here]
    congr 3
    have e2 : X + (i + 1) = X + i + 1 := by omega
    rw [e2, Array.toList_setIfInBounds]
    exact splice_cons (by simp; omega)

/-! ### What the relation gains and loses -/

def one (g : Hp) (b : Nat) (k : Blk) : Hp := fun i => if i = b then some k else g i
def rho1 (ρ : Rho) (b : Nat) (s : Slot) : Rho := fun i => if i = b then s else ρ i

theorem HRel.unowned {ρ : Rho} {w : World} {g : Hp} (h : HRel ρ w g) {B : Nat} (hB : w.heap.size ≤ B) : ∀ b F, ρ b ≠ .live B F := by
  intro b F hl
  have := h.lt hl
  omega

/-- A list of cells, as they lie in a row. -/
def Lies (ρ : Rho) (w : World) (cs : List AV) (F : Nat) (c : Array Value) : Prop :=
  ∀ i a, cs[i]? = some a → ∃ v, c[F + i]? = some v ∧ vone v = true ∧ VRel ρ w a v

theorem Lies.mono {n : Nat} {ρ ρ' : Rho} {w w' : World} (e : Ext n ρ w ρ' w') (hb : ∀ b, ρ b ≠ .unborn → b < n) {cs : List AV} {F : Nat} {c : Array Value} (h : Lies ρ w cs F c) : Lies ρ' w' cs F c :=
  fun i a ha => let ⟨v, h1, h2, h3⟩ := h i a ha; ⟨v, h1, h2, h3.mono e hb⟩

theorem ext_bound {ρ ρ' : Rho} {w w' : World} (h : ∀ n, Ext n ρ w ρ' w') {a : AV} {v : Value} (hv : VRel ρ w a v) : VRel ρ' w' a v := by
  -- values hold finitely many blocks, but no bound is at hand: by cases on the value, once more
  induction hv with
  | top v => exact .top v
  | bool b => exact .bool b
  | int k n => exact .int k n
  | flt k n => exact .flt k n
  | str s => exact .str s
  | nilp => exact .nilp
  | ptr b o v h0 h1 hs hh =>
    have e := h (b + 1)
    refine .ptr b o v ?_ ?_ hs ?_
    · rcases e.slot b (by omega) h0 with s | s <;> rw [s]
      · exact h0
      · simp
    · rcases e.slot b (by omega) h0 with s | s <;> rw [s]
      · exact h1
      · simp
    · intro B F hl
      rcases e.slot b (by omega) h0 with s | s
      · exact hh B F (s ▸ hl)
      · rw [s] at hl; cases hl
  | nils => exact .nils
  | slc b o len cap sz v h0 hs hv hh =>
    have e := h (b + 1)
    refine .slc b o len cap sz v ?_ hs ?_ ?_
    · rcases e.slot b (by omega) h0 with s | s <;> rw [s]
      · exact h0
      · simp
    · intro hl
      rcases e.slot b (by omega) h0 with s | s
      · exact hv (s ▸ hl)
      · rw [s] at hl; cases hl
    · intro B F hl
      rcases e.slot b (by omega) h0 with s | s
      · obtain ⟨ao, cap', h1, h2, h3, h4, h5⟩ := hh B F (s ▸ hl)
        refine ⟨ao, cap', h1, h2, h3, h4, ?_⟩
        by_cases hB : B < w.heap.size
        · rw [e.rows B hB]; exact h5
        · rw [rows_zero (w := w) (by omega)] at h5; omega
      · rw [s] at hl; cases hl
  | ros cells off len cap exact B F ao cap' vs hlt hp hl ho hc hr hcap hlen he ha ih =>
    have e := h 0
    refine .ros cells off len cap exact B F ao cap' vs (fun hn => Nat.lt_of_lt_of_le (hlt hn) e.size) (fun hn => e.unowned (hlt hn) (hp hn)) hl ho ?_ ih hcap hlen he ha
    intro i v hv
    have hn : cells ≠ [] := by
      intro h; subst h; simp at hl; subst hl; simp at hv
    rw [cell_keep (e.keep B (hlt hn) (hp hn))]
    exact hc i v hv
  | rop cells off B F vs hlt hp hl ho hc hr ih =>
    have e := h 0
    refine .rop cells off B F vs (fun hn => Nat.lt_of_lt_of_le (hlt hn) e.size) (fun hn => e.unowned (hlt hn) (hp hn)) hl ho ?_ ih
    intro i v hv
    have hn : cells ≠ [] := by
      intro h; subst h; simp at hl; subst hl; simp at hv
    rw [cell_keep (e.keep B (hlt hn) (hp hn))]
    exact hc i v hv
  | agg cs vs hl ho hr ih => exact .agg cs vs hl ho ih
  | tup cs vs hl hr ih => exact .tup cs vs hl ih
  | fn f xs ys us vs hl hl' hr hr' ih ih' => exact .fn f xs ys us vs hl hl' ih ih'
  | nilf => exact .nilf
  | ifc t a v h ih => exact .ifc t a v ih
  | nili => exact .nili

theorem lies_bound {ρ ρ' : Rho} {w w' : World} (h : ∀ n, Ext n ρ w ρ' w') {cs : List AV} {F : Nat} {c : Array Value} (hl : Lies ρ w cs F c) : Lies ρ' w' cs F c :=
  fun i a ha => let ⟨v, h1, h2, h3⟩ := hl i a ha; ⟨v, h1, h2, ext_bound h h3⟩

theorem vrels_bound {ρ ρ' : Rho} {w w' : World} (h : ∀ n, Ext n ρ w ρ' w') {as : List AV} {vs : List Value} (hl : VRels ρ w as vs) : VRels ρ' w' as vs :=
  ⟨hl.len, fun i a v ha hv => ext_bound h (hl.at_ i a v ha hv)⟩

theorem rows_here {w : World} {B : Nat} {c : Array Value} {e : TypeId} {fz : Nat × Nat} (h : w.heap[B]? = some (.cells c e fz)) : rows w B = c.size := by simp [rows, h]

/-- A row that the machine owns is written. -/
theorem Wrote.ext {ρ : Rho} {w w' : World} {b B F : Nat} {c c' : Array Value} {e : TypeId} {fz : Nat × Nat} (hl : ρ b = .live B F) (h : w.heap[B]? = some (.cells c e fz)) (hw : Wrote w B c' e fz w')
    (hs : c'.size = c.size) (n : Nat) : Ext n ρ w ρ w' where
  size := by rw [hw.size]; exact Nat.le_refl _
  os := hw.os
  tape := hw.tape
  output := hw.output
  keep B' _ hu := hw.other B' (fun e => hu b F (e ▸ hl))
  slot _ _ _ := .inl rfl
  fresh b' B' F' h := .inr ⟨b', F', h⟩
  rows B' _ := by
    by_cases hB : B' = B
    · subst hB; rw [rows_here hw.here, rows_here h, hs]
    · simp only [rows, hw.other B' hB]

theorem HRel.wrote {ρ : Rho} {w w' : World} {g : Hp} (hr : HRel ρ w g) {b B F : Nat} {c c' : Array Value} {e : TypeId} {lo hi : Nat} {cs cs' : List AV} (hg : g b = some (.cells cs)) (hl : ρ b = .live B F)
    (h : w.heap[B]? = some (.cells c e (lo, hi))) (hf : ∀ j, F ≤ j → j < c.size → ¬ (lo ≤ j ∧ j < hi)) (hw : Wrote w B c' e (lo, hi) w') (hs : c'.size = c.size) (hs' : F + cs'.length ≤ c.size)
    (hc : Lies ρ w cs' F c') : HRel ρ w' (one g b (.cells cs')) where
  unborn i hi := by
    unfold one at hi
    split at hi
    · cases hi
    · exact hr.unborn i hi
  dead i hi := by
    unfold one at hi
    split at hi
    · cases hi
    · exact hr.dead i hi
  inj := hr.inj
  live i ds hi := by
    have E : ∀ n, Ext n ρ w ρ w' := hw.ext hl h hs
    unfold one at hi
    split at hi
    · rename_i hib; subst hib
      cases hi
      refine .inr ⟨B, F, c', e, lo, _, hl, hw.here, by omega, by rw [hs]; exact hf, lies_bound E hc⟩
    · rename_i hib
      rcases hr.live i ds hi with ⟨hv, hd⟩ | ⟨B', F', c2, e2, lo2, hi2, hl2, hh2, hs2, hf2, hc2⟩
      · exact .inl ⟨hv, hd⟩
      · have hne : B' ≠ B := by
          intro hbb; subst hbb
          exact hib (hr.inj i b B' F' F hl2 hl)
        exact .inr ⟨B', F', c2, e2, lo2, hi2, hl2, (hw.other B' hne).trans hh2, hs2, hf2, lies_bound E hc2⟩

/-- A new block of the model's. -/
theorem alloc_ext {ρ : Rho} {w : World} {g : Hp} (hr : HRel ρ w g) {N : Nat} (hN : g N = none) (o : Obj) (s : Slot) (hs : ∀ B F, s = .live B F → B = w.heap.size) (n : Nat) :
    Ext n ρ w (rho1 ρ N s) { w with heap := w.heap.push o } where
  size := by simp
  os := rfl
  tape := rfl
  output := rfl
  keep B hB _ := by simp only [Array.getElem?_push]; rw [if_neg (by omega)]
  slot b _ hb := by
    left
    unfold rho1
    split
    · rename_i h; subst h; exact absurd (hr.unborn _ hN) hb
    · rfl
  fresh b B F hl := by
    unfold rho1 at hl
    split at hl
    · exact .inl (Nat.le_of_eq (hs B F hl).symm)
    · exact .inr ⟨b, F, hl⟩
  rows B hB := by simp only [rows, Array.getElem?_push]; rw [if_neg (by omega)]

theorem HRel.alloc {ρ : Rho} {w : World} {g : Hp} (hr : HRel ρ w g) {N : Nat} (hN : g N = none) {c : Array Value} {e : TypeId} {cs : List AV} (hs : cs.length ≤ c.size) (hc : Lies ρ w cs 0 c) :
    HRel (rho1 ρ N (.live w.heap.size 0)) { w with heap := w.heap.push (.cells c e) } (one g N (.cells cs)) := by
  have E : ∀ n, Ext n ρ w (rho1 ρ N (.live w.heap.size 0)) { w with heap := w.heap.push (.cells c e) } := alloc_ext hr hN _ _ (by intro B F h; cases h; rfl)
  constructor
  · intro i hi
    unfold one at hi
    unfold rho1
    split at hi
    · cases hi
    · rename_i h; rw [if_neg h]; exact hr.unborn i hi
  · intro i hi
    unfold one at hi
    unfold rho1
    split at hi
    · cases hi
    · rename_i h; rw [if_neg h]; exact hr.dead i hi
  · intro b b' B F F' h h'
    unfold rho1 at h h'
    split at h <;> split at h'
    · rename_i a b; rw [a, b]
    · cases h; exact absurd h' (hr.unowned (Nat.le_refl _) _ _)
    · cases h'; exact absurd h (hr.unowned (Nat.le_refl _) _ _)
    · exact hr.inj b b' B F F' h h'
  · intro i ds hi
    unfold one at hi
    split at hi
    · rename_i h; subst h
      cases hi
      refine .inr ⟨w.heap.size, 0, c, e, 0, 0, by simp [rho1], by simp, by omega, by omega, lies_bound E hc⟩
    · rename_i h
      rcases hr.live i ds hi with ⟨hv, hd⟩ | ⟨B', F', c2, e2, lo2, hi2, hl2, hh2, hs2, hf2, hc2⟩
      · exact .inl ⟨by simp [rho1, h, hv], hd⟩
      · refine .inr ⟨B', F', c2, e2, lo2, hi2, by simp [rho1, h, hl2], ?_, hs2, hf2, lies_bound E hc2⟩
        have := hr.lt hl2
        simp only [Array.getElem?_push]
        rw [if_neg (by omega)]
        exact hh2

/-- A draw. -/
theorem drew_ext (ρ : Rho) (w : World) (d : Nat) (n : Nat) : Ext n ρ w ρ { w with drawn := d } :=
  ⟨Nat.le_refl _, rfl, rfl, rfl, fun _ _ _ => rfl, fun _ _ _ => .inl rfl, fun b B F h => .inr ⟨b, F, h⟩, fun _ _ => rfl⟩
theorem HRel.drew {ρ : Rho} {w : World} {g : Hp} (hr : HRel ρ w g) (d : Nat) : HRel ρ { w with drawn := d } g :=
  ⟨hr.unborn, hr.dead, hr.inj, fun b cs h => by
    rcases hr.live b cs h with h' | ⟨B, F, c, e, lo, hi, hl, hh, hs, hf, hc⟩
    · exact .inl h'
    · exact .inr ⟨B, F, c, e, lo, hi, hl, hh, hs, hf, lies_bound (drew_ext ρ w d) hc⟩⟩

/-- A block is given up. -/
theorem HRel.kill {ρ : Rho} {w : World} {g : Hp} (hr : HRel ρ w g) {b : Nat} {k : Blk} (hg : g b = some k) :
    HRel (rho1 ρ b .dead) w (one g b .dead) ∧ ∀ n, Ext n ρ w (rho1 ρ b .dead) w := by
  have E : ∀ n, Ext n ρ w (rho1 ρ b .dead) w := fun n => by
    refine ⟨Nat.le_refl _, rfl, rfl, rfl, fun _ _ _ => rfl, fun i _ hi => ?_, fun i B F h => ?_, fun _ _ => rfl⟩
    · unfold rho1
      split
      · exact .inr rfl
      · exact .inl rfl
    · unfold rho1 at h
      split at h
      · cases h
      · exact .inr ⟨i, F, h⟩
  refine ⟨⟨?_, ?_, ?_, ?_⟩, E⟩
  · intro i hi
    unfold one at hi
    unfold rho1
    split at hi
    · cases hi
    · rename_i h; rw [if_neg h]; exact hr.unborn i hi
  · intro i hi
    unfold one at hi
    unfold rho1
    split at hi
    · rename_i h; rw [if_pos h]
    · rename_i h; rw [if_neg h]; exact hr.dead i hi
  · intro i j B F F' h h'
    unfold rho1 at h h'
    split at h
    · cases h
    · split at h'
      · cases h'
      · exact hr.inj i j B F F' h h'
  · intro i ds hi
    unfold one at hi
    split at hi
    · cases hi
    · rename_i h
      rcases hr.live i ds hi with ⟨hv, hd⟩ | ⟨B', F', c2, e2, lo2, hi2, hl2, hh2, hs2, hf2, hc2⟩
      · exact .inl ⟨by simp [rho1, h, hv], hd⟩
      · exact .inr ⟨B', F', c2, e2, lo2, hi2, by simp [rho1, h, hl2], hh2, hs2, hf2, lies_bound E hc2⟩

end Go.Vm
