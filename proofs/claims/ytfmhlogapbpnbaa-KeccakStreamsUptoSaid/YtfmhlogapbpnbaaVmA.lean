/-
  A VERIFIED SYMBOLIC MACHINE, PART A: its values, and how they stand to the model's (no program in sight).
-/
import Derived.WalkKit
namespace Go.Vm

/-- Values of the machine. 'top': nothing is known. 'ptr b o', 'slc b o ..': into block b of the machine's own memory. 'rop', 'ros': into memory that nobody writes: what lies there is part of the value. -/
inductive AV where
  | top
  | bool (b : Bool)
  | int (k : IntKind) (n : Int)
  | flt (k : FloatKind) (bits : Nat)
  | str (s : List UInt8)
  | nilp
  | ptr (b o : Nat)
  | nils
  | slc (b o len cap sz : Nat)
  | ros (cells : List AV) (off len cap : Nat) (exact : Bool)
  | rop (cells : List AV) (off : Nat)
  | agg (cs : List AV)
  | tup (vs : List AV)
  | fn (f : Nat) (first captured : List AV)
  | nilf
  | ifc (t : Nat) (v : AV)
  | nili
  deriving Inhabited

/-- A value that lies in one cell. -/
def AV.one : AV → Bool
  | .agg _ | .tup _ | .top => false
  | _ => true

/-- A model's value that one cell can hold. -/
def vone : Value → Bool
  | .agg _ | .tuple _ => false
  | _ => true

/-- Where a block of the machine lies in the model's memory. -/
inductive Slot where
  | unborn | dead | void
  | live (B F : Nat)

abbrev Rho := Nat → Slot

/-- How many cells a block of the model's has. -/
def rows (w : World) (B : Nat) : Nat :=
  match w.heap[B]? with
  | some (.cells c _ _) => c.size
  | _ => 0

inductive VRel (ρ : Rho) (w : World) : AV → Value → Prop where
  | top (v : Value) : VRel ρ w .top v
  | bool (b : Bool) : VRel ρ w (.bool b) (.bool b)
  | int (k : IntKind) (n : Int) : VRel ρ w (.int k n) (.int k n)
  | flt (k : FloatKind) (n : Nat) : VRel ρ w (.flt k n) (.float k n)
  | str (s : List UInt8) : VRel ρ w (.str s) (.string ⟨s.toArray⟩)
  | nilp : VRel ρ w .nilp (.pointer none)
  | ptr (b o : Nat) (v : Value) (h0 : ρ b ≠ .unborn) (h1 : ρ b ≠ .void) (hs : ∃ a, v = .pointer (some a))
      (h : ∀ B F, ρ b = .live B F → v = .pointer (some ⟨B, F + o, none⟩)) : VRel ρ w (.ptr b o) v
  | nils : VRel ρ w .nils (.slice none 0 0)
  | slc (b o len cap sz : Nat) (v : Value) (h0 : ρ b ≠ .unborn) (hs : ∃ ao cap', v = .slice ao len cap' ∧ len ≤ cap' ∧ cap ≤ cap' ∧ (cap' ≠ 0 → ∃ B F, ao = some ⟨B, F, none⟩))
      (hv : ρ b = .void → ∃ ao, v = .slice ao 0 0 ∧ len = 0 ∧ cap = 0)
      (h : ∀ B F, ρ b = .live B F → ∃ ao cap', cap ≤ cap' ∧ len ≤ cap' ∧ v = .slice ao len cap' ∧
        (cap' ≠ 0 → ao = some ⟨B, F + o, none⟩) ∧ F + o + cap' * sz ≤ rows w B) : VRel ρ w (.slc b o len cap sz) v
  | ros (cells : List AV) (off len cap : Nat) (exact : Bool) (B F : Nat) (ao : Option Addr) (cap' : Nat) (vs : List Value)
      (hlt : cells ≠ [] → B < w.heap.size) (hp : cells ≠ [] → ∀ b F', ρ b ≠ .live B F')
      (hl : vs.length = cells.length) (ho : ∀ v ∈ vs, vone v = true) (hc : ∀ i v, vs[i]? = some v → w.cell? ⟨B, F + i, none⟩ = some v)
      (hr : ∀ (i : Nat) (a : AV) (v : Value), cells[i]? = some a → vs[i]? = some v → VRel ρ w a v)
      (hcap : cap ≤ cap') (hlen : len ≤ cap') (he : exact = true → cap' = cap) (ha : cap' ≠ 0 → ao = some ⟨B, F + off, none⟩) :
      VRel ρ w (.ros cells off len cap exact) (.slice ao len cap')
  | rop (cells : List AV) (off : Nat) (B F : Nat) (vs : List Value)
      (hlt : cells ≠ [] → B < w.heap.size) (hp : cells ≠ [] → ∀ b F', ρ b ≠ .live B F')
      (hl : vs.length = cells.length) (ho : ∀ v ∈ vs, vone v = true) (hc : ∀ i v, vs[i]? = some v → w.cell? ⟨B, F + i, none⟩ = some v)
      (hr : ∀ (i : Nat) (a : AV) (v : Value), cells[i]? = some a → vs[i]? = some v → VRel ρ w a v) :
      VRel ρ w (.rop cells off) (.pointer (some ⟨B, F + off, none⟩))
  | agg (cs : List AV) (vs : List Value) (hl : vs.length = cs.length) (ho : ∀ v ∈ vs, vone v = true)
      (hr : ∀ (i : Nat) (a : AV) (v : Value), cs[i]? = some a → vs[i]? = some v → VRel ρ w a v) : VRel ρ w (.agg cs) (.agg vs.toArray)
  | tup (cs : List AV) (vs : List Value) (hl : vs.length = cs.length)
      (hr : ∀ (i : Nat) (a : AV) (v : Value), cs[i]? = some a → vs[i]? = some v → VRel ρ w a v) : VRel ρ w (.tup cs) (.tuple vs.toArray)
  | fn (f : Nat) (xs ys : List AV) (us vs : List Value) (hl : us.length = xs.length) (hl' : vs.length = ys.length)
      (hr : ∀ (i : Nat) (a : AV) (v : Value), xs[i]? = some a → us[i]? = some v → VRel ρ w a v)
      (hr' : ∀ (i : Nat) (a : AV) (v : Value), ys[i]? = some a → vs[i]? = some v → VRel ρ w a v) :
      VRel ρ w (.fn f xs ys) (.func (.func f) us.toArray vs.toArray)
  | nilf : VRel ρ w .nilf .nilFunc
  | ifc (t : Nat) (a : AV) (v : Value) (h : VRel ρ w a v) : VRel ρ w (.ifc t a) (.iface t v)
  | nili : VRel ρ w .nili .nilIface

/-- Lists of values, one by one. -/
structure VRels (ρ : Rho) (w : World) (as : List AV) (vs : List Value) : Prop where
  len : vs.length = as.length
  at_ : ∀ (i : Nat) (a : AV) (v : Value), as[i]? = some a → vs[i]? = some v → VRel ρ w a v

theorem VRels.nil {ρ : Rho} {w : World} : VRels ρ w [] [] := ⟨rfl, fun i a v h _ => by simp at h⟩
theorem VRels.cons {ρ : Rho} {w : World} {a : AV} {v : Value} {as : List AV} {vs : List Value} (h : VRel ρ w a v) (t : VRels ρ w as vs) : VRels ρ w (a :: as) (v :: vs) :=
  ⟨by simp [t.len], fun i b u hb hu => by
    cases i with
    | zero => simp at hb hu; subst hb; subst hu; exact h
    | succ i => simp at hb hu; exact t.at_ i b u hb hu⟩
theorem VRels.get {ρ : Rho} {w : World} {as : List AV} {vs : List Value} (h : VRels ρ w as vs) {i : Nat} {a : AV} (ha : as[i]? = some a) : ∃ v, vs[i]? = some v ∧ VRel ρ w a v := by
  have hi : i < vs.length := by rw [h.len]; exact (List.getElem?_eq_some_iff.1 ha).1
  exact ⟨vs[i], by simp [hi], h.at_ i a _ ha (by simp [hi])⟩
theorem VRels.append {ρ : Rho} {w : World} {as bs : List AV} {us vs : List Value} (h : VRels ρ w as us) (k : VRels ρ w bs vs) : VRels ρ w (as ++ bs) (us ++ vs) :=
  ⟨by simp [h.len, k.len], fun i a v ha hv => by
    have hl := h.len
    by_cases hi : i < as.length
    · rw [List.getElem?_append_left hi] at ha
      rw [List.getElem?_append_left (by omega)] at hv
      exact h.at_ i a v ha hv
    · rw [List.getElem?_append_right (by omega)] at ha
      rw [List.getElem?_append_right (by omega), hl] at hv
      exact k.at_ _ a v ha hv⟩
theorem VRels.take {ρ : Rho} {w : World} {as : List AV} {vs : List Value} (h : VRels ρ w as vs) (n : Nat) : VRels ρ w (as.take n) (vs.take n) :=
  ⟨by simp [h.len], fun i a v ha hv => by
    rw [List.getElem?_take] at ha hv
    split at ha
    · rename_i hi; rw [if_pos hi] at hv; exact h.at_ i a v ha hv
    · simp at ha⟩
theorem VRels.drop {ρ : Rho} {w : World} {as : List AV} {vs : List Value} (h : VRels ρ w as vs) (n : Nat) : VRels ρ w (as.drop n) (vs.drop n) :=
  ⟨by simp [h.len], fun i a v ha hv => by
    rw [List.getElem?_drop] at ha hv
    exact h.at_ _ a v ha hv⟩

/-- What a step may turn: blocks that the machine doesn't own stay; a block below n that was born stays where it is, or is given up; a new place is new, or was owned before. -/
structure Ext (n : Nat) (ρ : Rho) (w : World) (ρ' : Rho) (w' : World) : Prop where
  size : w.heap.size ≤ w'.heap.size
  os : w'.os = w.os
  tape : w'.tape = w.tape
  output : w'.output = w.output
  keep : ∀ B, B < w.heap.size → (∀ b F, ρ b ≠ .live B F) → w'.heap[B]? = w.heap[B]?
  slot : ∀ b, b < n → ρ b ≠ .unborn → ρ' b = ρ b ∨ ρ' b = .dead
  fresh : ∀ b B F, ρ' b = .live B F → w.heap.size ≤ B ∨ ∃ b' F', ρ b' = .live B F'
  rows : ∀ B, B < w.heap.size → rows w' B = rows w B

theorem Ext.refl (n : Nat) (ρ : Rho) (w : World) : Ext n ρ w ρ w :=
  ⟨Nat.le_refl _, rfl, rfl, rfl, fun _ _ _ => rfl, fun _ _ _ => .inl rfl, fun b B F h => .inr ⟨b, F, h⟩, fun _ _ => rfl⟩

theorem Ext.unowned {n : Nat} {ρ ρ' : Rho} {w w' : World} (h : Ext n ρ w ρ' w') {B : Nat} (hB : B < w.heap.size) (hu : ∀ b F, ρ b ≠ .live B F) : ∀ b F, ρ' b ≠ .live B F := by
  intro b F hl
  rcases h.fresh b B F hl with hf | ⟨b', F', hl'⟩
  · omega
  · exact hu _ _ hl'

theorem Ext.le {n m : Nat} {ρ ρ' : Rho} {w w' : World} (h : Ext n ρ w ρ' w') (hm : m ≤ n) : Ext m ρ w ρ' w' :=
  ⟨h.size, h.os, h.tape, h.output, h.keep, fun b hb => h.slot b (by omega), h.fresh, h.rows⟩

theorem Ext.trans {n : Nat} {ρ ρ' ρ'' : Rho} {w w' w'' : World} (h : Ext n ρ w ρ' w') (k : Ext n ρ' w' ρ'' w'') : Ext n ρ w ρ'' w'' where
  size := Nat.le_trans h.size k.size
  os := k.os.trans h.os
  tape := k.tape.trans h.tape
  output := k.output.trans h.output
  keep B hB hu := (k.keep B (Nat.lt_of_lt_of_le hB h.size) (h.unowned hB hu)).trans (h.keep B hB hu)
  slot b hn hb := by
    rcases h.slot b hn hb with e | e
    · rcases k.slot b hn (by rw [e]; exact hb) with e' | e'
      · exact .inl (e'.trans e)
      · exact .inr e'
    · rcases k.slot b hn (by rw [e]; simp) with e' | e'
      · exact .inr (e'.trans e)
      · exact .inr e'
  fresh b B F hl := by
    rcases k.fresh b B F hl with hf | ⟨b', F', hl'⟩
    · exact .inl (Nat.le_trans h.size hf)
    · exact h.fresh b' B F' hl'
  rows B hB := (k.rows B (Nat.lt_of_lt_of_le hB h.size)).trans (h.rows B hB)

theorem rows_zero {w : World} {B : Nat} (h : w.heap.size ≤ B) : rows w B = 0 := by
  simp [rows, Array.getElem?_eq_none h]

theorem cell_keep {w w' : World} {B o : Nat} (h : w'.heap[B]? = w.heap[B]?) : w'.cell? ⟨B, o, none⟩ = w.cell? ⟨B, o, none⟩ := by
  simp [World.cell?, h]

theorem VRel.mono {n : Nat} {ρ ρ' : Rho} {w w' : World} (e : Ext n ρ w ρ' w') (hb : ∀ b, ρ b ≠ .unborn → b < n) {a : AV} {v : Value} (h : VRel ρ w a v) : VRel ρ' w' a v := by
  induction h with
  | top v => exact .top v
  | bool b => exact .bool b
  | int k n => exact .int k n
  | flt k n => exact .flt k n
  | str s => exact .str s
  | nilp => exact .nilp
  | ptr b o v h0 h1 hs h =>
    refine .ptr b o v ?_ ?_ hs ?_
    · rcases e.slot b (hb b h0) h0 with s | s <;> rw [s]
      · exact h0
      · simp
    · rcases e.slot b (hb b h0) h0 with s | s <;> rw [s]
      · exact h1
      · simp
    · intro B F hl
      rcases e.slot b (hb b h0) h0 with s | s
      · exact h B F (s ▸ hl)
      · rw [s] at hl; cases hl
  | nils => exact .nils
  | slc b o len cap sz v h0 hs hv h =>
    refine .slc b o len cap sz v ?_ hs ?_ ?_
    · rcases e.slot b (hb b h0) h0 with s | s <;> rw [s]
      · exact h0
      · simp
    · intro hl
      rcases e.slot b (hb b h0) h0 with s | s
      · exact hv (s ▸ hl)
      · rw [s] at hl; cases hl
    · intro B F hl
      rcases e.slot b (hb b h0) h0 with s | s
      · obtain ⟨ao, cap', h1, h2, h3, h4, h5⟩ := h B F (s ▸ hl)
        refine ⟨ao, cap', h1, h2, h3, h4, ?_⟩
        by_cases hB : B < w.heap.size
        · rw [e.rows B hB]; exact h5
        · rw [rows_zero (w := w) (by omega)] at h5; omega
      · rw [s] at hl; cases hl
  | ros cells off len cap exact B F ao cap' vs hlt hp hl ho hc hr hcap hlen he ha ih =>
    refine .ros cells off len cap exact B F ao cap' vs (fun hn => Nat.lt_of_lt_of_le (hlt hn) e.size) (fun hn => e.unowned (hlt hn) (hp hn)) hl ho ?_ ih hcap hlen he ha
    intro i v hv
    have hn : cells ≠ [] := by
      intro h; subst h; simp at hl; subst hl; simp at hv
    rw [cell_keep (e.keep B (hlt hn) (hp hn))]
    exact hc i v hv
  | rop cells off B F vs hlt hp hl ho hc hr ih =>
    refine .rop cells off B F vs (fun hn => Nat.lt_of_lt_of_le (hlt hn) e.size) (fun hn => e.unowned (hlt hn) (hp hn)) hl ho ?_ ih
    intro i v hv
    have hn : cells ≠ [] := by
      intro h; subst h; simp at hl; subst hl; simp at hv
    rw [cell_keep (e.keep B (hlt hn) (hp hn))]
    exact hc i v hv
  | agg cs vs hl ho hr ih => exact .agg cs vs hl ho ih
  | tup cs vs hl hr ih => exact .tup cs vs hl ih
  | fn f xs ys us vs hl hl' hr hr' ih ih' => exact .fn f xs ys us vs hl hl' ih ih'
  | nilf => exact .nilf
  | ifc t a v h ih => exact .ifc t a v ih
  | nili => exact .nili

theorem VRels.mono {n : Nat} {ρ ρ' : Rho} {w w' : World} (e : Ext n ρ w ρ' w') (hb : ∀ b, ρ b ≠ .unborn → b < n) {as : List AV} {vs : List Value} (h : VRels ρ w as vs) : VRels ρ' w' as vs :=
  ⟨h.len, fun i a v ha hv => (h.at_ i a v ha hv).mono e hb⟩

/-- A block of the machine's memory. -/
inductive Blk where
  | dead
  | cells (cs : List AV)

abbrev Hp := Nat → Option Blk

/-- The machine's memory stands in the model's. -/
structure HRel (ρ : Rho) (w : World) (g : Hp) : Prop where
  unborn : ∀ b, g b = none → ρ b = .unborn
  dead : ∀ b, g b = some .dead → ρ b = .dead
  inj : ∀ b b' B F F', ρ b = .live B F → ρ b' = .live B F' → b = b'
  live : ∀ b cs, g b = some (.cells cs) → (ρ b = .void ∧ cs = []) ∨ ∃ B F c elem lo hi, ρ b = .live B F ∧ w.heap[B]? = some (.cells c elem (lo, hi)) ∧ F + cs.length ≤ c.size ∧
    (∀ j, F ≤ j → j < c.size → ¬ (lo ≤ j ∧ j < hi)) ∧ (∀ i a, cs[i]? = some a → ∃ v, c[F + i]? = some v ∧ vone v = true ∧ VRel ρ w a v)

theorem HRel.lt {ρ : Rho} {w : World} {g : Hp} (h : HRel ρ w g) {b B F : Nat} (hl : ρ b = .live B F) : B < w.heap.size := by
  cases hg : g b with
  | none => rw [h.unborn b hg] at hl; cases hl
  | some k =>
    cases k with
    | dead => rw [h.dead b hg] at hl; cases hl
    | cells cs =>
      rcases h.live b cs hg with ⟨hv, _⟩ | ⟨B', F', c, elem, lo, hi, hl', hh, _⟩
      · rw [hv] at hl; cases hl
      · rw [hl'] at hl; cases hl
        rcases Nat.lt_or_ge B w.heap.size with h' | h'
        · exact h'
        · simp [Array.getElem?_eq_none h'] at hh

end Go.Vm
