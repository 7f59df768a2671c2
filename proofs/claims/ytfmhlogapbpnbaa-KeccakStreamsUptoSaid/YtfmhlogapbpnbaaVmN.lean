/-
  A VERIFIED SYMBOLIC MACHINE, PART N: append and copy.
-/
import Derived.Test.YtfmhlogapbpnbaaVmM
namespace Go.Vm

theorem grow_le (n : Nat) : ∀ r c, c ≤ n + (n + 768) / 4 → Builtin.growBy n r c ≤ n + (n + 768) / 4
  | 0, c, h => h
  | r + 1, c, h => by
    unfold Builtin.growBy
    split
    · exact h
    · exact grow_le n r _ (by omega)

theorem next_le {n old : Nat} (h : old < n) : Builtin.nextslicecap n old ≤ 2 * n + 192 := by
  unfold Builtin.nextslicecap
  split
  · omega
  · split
    · omega
    · have := grow_le n 4 old (by omega); omega

theorem room0 {l n bytes old : Nat} (h : ops0.room l n bytes = true) (ho : old < l + n) : ¬ Builtin.nextslicecap (l + n) old * bytes > 2 ^ 48 ∧ ¬ (((l + n : Nat) : Int) > IntKind.i64.max) := by
  have h : (l + n + 1) * (bytes + 1) ≤ 1099511627776 := by simpa [ops0] using h
  have h1 := next_le ho
  have h2 : Builtin.nextslicecap (l + n) old * bytes ≤ (2 * (l + n) + 192) * (bytes + 1) := Nat.mul_le_mul h1 (by omega)
  have h3 : (l + n + 1) * 1 ≤ (l + n + 1) * (bytes + 1) := Nat.mul_le_mul_left _ (by omega)
  have h4 : 1 * (bytes + 1) ≤ (l + n + 1) * (bytes + 1) := Nat.mul_le_mul_right _ (by omega)
  have h5 : (2 * (l + n) + 192) * (bytes + 1) ≤ 2 * ((l + n + 1) * (bytes + 1)) + 192 * (bytes + 1) := by
    rw [← Nat.mul_assoc, ← Nat.add_mul]
    exact Nat.mul_le_mul_right _ (by omega)
  have h6 : IntKind.i64.max = 9223372036854775807 := by decide
  rw [h6]
  omega

theorem HRel.nothing {ρ : Rho} {w : World} {g : Hp} (hr : HRel ρ w g) {N : Nat} (hN : g N = none) :
    HRel (rho1 ρ N .void) w (one g N (.cells [])) ∧ ∀ n, Ext n ρ w (rho1 ρ N .void) w := by
  have E : ∀ n, Ext n ρ w (rho1 ρ N .void) w := fun n => by
    refine ⟨Nat.le_refl _, rfl, rfl, rfl, fun _ _ _ => rfl, fun i _ hi => ?_, fun i B F h => ?_, fun _ _ => rfl⟩
    · left
      unfold rho1
      split
      · rename_i h; subst h; exact absurd (hr.unborn _ hN) hi
      · rfl
    · unfold rho1 at h
      split at h
      · cases h
      · exact .inr ⟨i, F, h⟩
  refine ⟨⟨?_, ?_, ?_, ?_⟩, E⟩
  · intro i hi
    unfold one at hi
    unfold rho1
    split at hi
    · cases hi
    · rename_i h; rw [if_neg h]; exact hr.unborn i hi
  · intro i hi
    unfold one at hi
    unfold rho1
    split at hi
    · cases hi
    · rename_i h; rw [if_neg h]; exact hr.dead i hi
  · intro i j B F F' h h'
    unfold rho1 at h h'
    split at h
    · cases h
    · split at h'
      · cases h'
      · exact hr.inj i j B F F' h h'
  · intro i ds hi
    unfold one at hi
    split at hi
    · rename_i h; subst h
      cases hi
      exact .inl ⟨by simp [rho1], rfl⟩
    · rename_i h
      rcases hr.live i ds hi with ⟨hv, hd⟩ | ⟨B', F', c2, e2, lo2, hi2, hl2, hh2, hs2, hf2, hc2⟩
      · exact .inl ⟨by simp [rho1, h, hv], hd⟩
      · exact .inr ⟨B', F', c2, e2, lo2, hi2, by simp [rho1, h, hl2], hh2, hs2, hf2, lies_bound E hc2⟩

/-- A block is taken over under another name, its row written. -/
theorem HRel.move {ρ : Rho} {w w' : World} {g : Hp} (hr : HRel ρ w g) {b N B F X : Nat} {c c' : Array Value} {e : TypeId} {lo hi : Nat} {bs cs' : List AV} (hg : g b = some (.cells bs)) (hN : g N = none) (hl : ρ b = .live B F)
    (h : w.heap[B]? = some (.cells c e (lo, hi))) (hf : ∀ j, X ≤ j → j < c.size → ¬ (lo ≤ j ∧ j < hi)) (hw : Wrote w B c' e (lo, hi) w') (hs : c'.size = c.size) (hs' : X + cs'.length ≤ c.size)
    (hc : Lies ρ w cs' X c') :
    HRel (rho1 (rho1 ρ b .dead) N (.live B X)) w' (one (one g b .dead) N (.cells cs')) ∧ ∀ n, Ext n ρ w (rho1 (rho1 ρ b .dead) N (.live B X)) w' := by
  have hbN : b ≠ N := by intro h; subst h; rw [hg] at hN; cases hN
  have E : ∀ n, Ext n ρ w (rho1 (rho1 ρ b .dead) N (.live B X)) w' := fun n => by
    have E0 := hw.ext hl h hs n
    refine ⟨E0.size, E0.os, E0.tape, E0.output, E0.keep, fun i _ hi => ?_, fun i B' F' h => ?_, E0.rows⟩
    · unfold rho1
      split
      · rename_i h; subst h; exact absurd (hr.unborn _ hN) hi
      · split
        · exact .inr rfl
        · exact .inl rfl
    · unfold rho1 at h
      split at h
      · cases h; exact .inr ⟨b, F, hl⟩
      · split at h
        · cases h
        · exact .inr ⟨i, F', h⟩
  refine ⟨⟨?_, ?_, ?_, ?_⟩, E⟩
  · intro i hi
    unfold one at hi
    split at hi
    · cases hi
    · rename_i h1
      split at hi
      · cases hi
      · rename_i h2
        simp only [rho1, if_neg h1, if_neg h2]
        exact hr.unborn i hi
  · intro i hi
    unfold one at hi
    split at hi
    · cases hi
    · rename_i h1
      split at hi
      · rename_i h2
        simp only [rho1, if_neg h1, if_pos h2]
      · rename_i h2
        simp only [rho1, if_neg h1, if_neg h2]
        exact hr.dead i hi
  · intro i j B' F1 F2 h1 h2
    unfold rho1 at h1 h2
    split at h1 <;> split at h2
    · rename_i a b; rw [a, b]
    · cases h1
      split at h2
      · cases h2
      · rename_i _ _ q; exact absurd (hr.inj j b B F2 F h2 hl) q
    · cases h2
      split at h1
      · cases h1
      · rename_i _ _ q; exact absurd (hr.inj i b B F1 F h1 hl) q
    · split at h1
      · cases h1
      · split at h2
        · cases h2
        · exact hr.inj i j B' F1 F2 h1 h2
  · intro i ds hi
    unfold one at hi
    split at hi
    · rename_i h1; subst h1
      cases hi
      exact .inr ⟨B, X, c', e, lo, _, by simp [rho1], hw.here, by omega, by rw [hs]; exact hf, lies_bound E hc⟩
    · rename_i h1
      split at hi
      · cases hi
      · rename_i h2
        rcases hr.live i ds hi with ⟨hv, hd⟩ | ⟨B', F', c2, e2, lo2, hi2, hl2, hh2, hs2, hf2, hc2⟩
        · exact .inl ⟨by simp [rho1, h1, h2, hv], hd⟩
        · have hne : B' ≠ B := by
            intro hbb; subst hbb
            exact h2 (hr.inj i b B' F' F hl2 hl)
          exact .inr ⟨B', F', c2, e2, lo2, hi2, by simp [rho1, h1, h2, hl2], (hw.other B' hne).trans hh2, hs2, hf2, lies_bound E hc2⟩

/-- The elements of a slice into a block. -/
theorem slc_elems {P : Program} {ρ : Rho} {w : World} {g : Hp} (hg : HRel ρ w g) {b o len cap sz sz' : Nat} {bs : List AV} (hgb : g b = some (.cells bs)) {v : Value} (hv : VRel ρ w (.slc b o len cap sz') v) (hle : o + len * sz ≤ bs.length) :
    Elems P ρ w sz v ((bs.drop o).take (len * sz)) len := by
  cases hv with
  | slc _ _ _ _ _ _ h0 hs hvo hh =>
    rcases hg.live b bs hgb with ⟨hvd, hbs⟩ | ⟨B, F, c, e, lo, hi, hl, hc, hsz, hf, hli⟩
    · obtain ⟨ao, rfl, rfl, rfl⟩ := hvo hvd
      subst hbs
      exact row_first (B := 0) (X := 0) (vs := []) (by simp) (by simp) (by simp) (fun _ => rfl) (fun i v h => by simp at h) (fun i a ha => by simp at ha) (fun v hv => by simp at hv)
    · obtain ⟨ao, cap', h1, h2, rfl, h4, h5⟩ := hh B F hl
      have hsub := Lies.sub (show Lies ρ w bs F c from hli) o (len * sz)
      obtain ⟨vs, hvl, hvc, hvl2, hvo2⟩ := hsub.values
      have hlen : ((bs.drop o).take (len * sz)).length = len * sz := by simp; omega
      refine row_first (B := B) (X := F + o) (vs := vs) hvl hlen ?_ ?_ ?_ hvl2 hvo2
      · intro hn
        exact h4 (by intro h; subst h; have : len = 0 := by omega
                     subst this; simp at hn)
      · intro hn
        have : cap' = 0 := by
          rcases Nat.eq_zero_or_pos cap' with h | h
          · exact h
          · have := h4 (by omega); rw [hn] at this; cases this
        omega
      · intro i v hv
        rw [cell_at hc]
        exact hvc i v hv

/-- Facts on an append's types. -/
structure AppT (P : Program) (t u e : TypeId) (j : TypeInfo) (z : Value) : Prop where
  sl : P.underlying t = some (.slice e)
  el : P.info? e = some j
  zero : j.zero = some z
  zs : z.cells.size = j.size
  src : (∃ e', P.underlying u = some (.slice e')) ∨ P.underlying u = some .string

section
variable {P : Program} {t u e : TypeId} {j : TypeInfo} {z : Value} {ty : TypeId} {cs : Array Bool}

/-- There is room. -/
theorem run_append_in (T : AppT P t u e j z) {w : World} {ao : Option Addr} {len cap n : Nat} {x : Value} {vs : List Value} (hn : (Builtin.lenOf x).run P w = .ok n w) (hf : (Builtin.firstCells j.size n x).run P w = .ok vs.toArray w)
    (hcap : len + n ≤ cap) : (builtin .append #[t, u] ty cs #[.slice ao len cap, x]).run P w =
      (match ao with | some a => (storeCells (a.add (len * j.size)) vs).run P w | none => .ok () w).andThen fun _ w' => .ok (.value (.slice ao (len + n) cap)) w' := by
  have key : ∀ d, P.underlying u = some d → ((∃ e', d = .slice e') ∨ d = .string) → (builtin .append #[t, u] ty cs #[.slice ao len cap, x]).run P w =
      (match ao with | some a => (storeCells (a.add (len * j.size)) vs).run P w | none => .ok () w).andThen fun _ w' => .ok (.value (.slice ao (len + n) cap)) w' := by
    rintro d hd (⟨e', rfl⟩ | rfl) <;>
    · simp only [builtin, Builtin.append_, List.getElem?_toArray, List.getElem?_cons_zero, List.getElem?_cons_succ, Sem.run_bind, run_underlying T.sl, run_underlying hd, Result.andThen_ok, run_size T.el, Sem.run_pure,
        Bool.false_eq_true, if_false, hn, if_pos hcap, Bool.not_false, if_true, hf]
      cases ao with
      | none => simp
      | some a => simp only [Sem.run_bind, Sem.run_pure]; cases (storeCells (a.add (len * j.size)) vs).run P w <;> rfl
  rcases T.src with ⟨e', h⟩ | h
  · exact key _ h (.inl ⟨e', rfl⟩)
  · exact key _ h (.inr rfl)

/-- It must grow. -/
theorem run_append_new (T : AppT P t u e j z) {w : World} {ao : Option Addr} {len cap n : Nat} {x : Value} {us vs : List Value} (hn : (Builtin.lenOf x).run P w = .ok n w)
    (hf : ∀ d, (Builtin.firstCells j.size n x).run P { w with drawn := d } = .ok vs.toArray { w with drawn := d }) (hs : ∀ d, (Builtin.firstCells j.size len (.slice ao len cap)).run P { w with drawn := d } = .ok us.toArray { w with drawn := d })
    (hcap : ¬ len + n ≤ cap) (hroom : ops0.room len n j.bytes = true) :
    ∃ N d, len + n ≤ N ∧ (builtin .append #[t, u] ty cs #[.slice ao len cap, x]).run P w =
      .ok (.value (.slice (some ⟨w.heap.size, 0, none⟩) (len + n) N)) { w with heap := w.heap.push (.cells (us.toArray ++ vs.toArray ++ Builtin.zeroCells z.cells (N - (len + n))) e), drawn := d } := by
  obtain ⟨r1, r2⟩ := room0 hroom (old := cap) (by omega)
  refine ⟨(len + n) + w.tape w.drawn (.appendCap (len + n) cap e) % (2 ^ 63 - (len + n)), w.drawn + 1, by omega, ?_⟩
  have key : ∀ d, P.underlying u = some d → ((∃ e', d = .slice e') ∨ d = .string) → (builtin .append #[t, u] ty cs #[.slice ao len cap, x]).run P w =
      .ok (.value (.slice (some ⟨w.heap.size, 0, none⟩) (len + n) ((len + n) + w.tape w.drawn (.appendCap (len + n) cap e) % (2 ^ 63 - (len + n)))))
        { w with heap := w.heap.push (.cells (us.toArray ++ vs.toArray ++ Builtin.zeroCells z.cells ((len + n) + w.tape w.drawn (.appendCap (len + n) cap e) % (2 ^ 63 - (len + n)) - (len + n))) e), drawn := w.drawn + 1 } := by
    rintro d hd (⟨e', rfl⟩ | rfl) <;>
    · simp only [builtin, Builtin.append_, List.getElem?_toArray, List.getElem?_cons_zero, List.getElem?_cons_succ, Sem.run_bind, run_underlying T.sl, run_underlying hd, Result.andThen_ok, run_size T.el, Sem.run_pure,
        Bool.false_eq_true, if_false, hn, if_neg hcap, Bool.not_false, if_true, typeInfo, run_program, T.el, r2, false_and, if_neg r1]
      simp only [run_choose, Question.forced, Bool.false_eq_true, if_false, Question.cut, Result.andThen_ok, run_askRoom]
      rw [hs]
      simp only [Result.andThen_ok]
      rw [hf]
      simp only [Result.andThen_ok, run_zero T.el T.zero, newRow, Sem.run_bind, run_newObj_alloc, Sem.run_pure]
      rfl
  rcases T.src with ⟨e', h⟩ | h
  · exact key _ h (.inl ⟨e', rfl⟩)
  · exact key _ h (.inr rfl)
end

end Go.Vm
