/-
  A VERIFIED SYMBOLIC MACHINE, PART I: rows of whole numbers, held against each other.
-/
import Derived.Test.YtfmhlogapbpnbaaVmH
import Derived.DeepKeys
namespace Go.Vm

section
variable {P : Program}

theorem run_equal_int (d : Nat) {t : TypeId} {kd : IntKind} (ht : P.underlying t = some (.int kd)) (m n : Int) (w : World) : (Op.equalIn (d + 1) t (.int kd m) (.int kd n)).run P w = .ok (m == n) w := by
  simp only [Op.equalIn, Sem.run_bind, run_underlying ht, Result.andThen_ok]
  rfl

/-- n whole numbers of the kind kd. -/
def IntsT (P : Program) (t : TypeId) (kd : IntKind) (n : Nat) : Prop :=
  (P.underlying t = some (.int kd) ∧ n = 1) ∨ ∃ e i j, P.underlying t = some (.array n e) ∧ P.underlying e = some (.int kd) ∧ P.info? e = some i ∧ i.size = 1 ∧ P.info? t = some j ∧ j.size = n

theorem run_items {e : TypeId} {kd : IntKind} {i : TypeInfo} (he : P.underlying e = some (.int kd)) (hi : P.info? e = some i) (hs : i.size = 1) (d : Nat) (w : World) (us vs : List Int) (xs ys : Array Value)
    (hx : xs = (us.map (Value.int kd)).toArray) (hy : ys = (vs.map (Value.int kd)).toArray) : ∀ (is : List Nat), (∀ i ∈ is, i < us.length ∧ i < vs.length) →
    (Op.eqItems (d + 1) e (P.cellsOf e) xs ys is).run P w = .ok (is.all fun i => us.getD i 0 == vs.getD i 0) w
  | [], _ => by simp [Op.eqItems]
  | j :: is, h => by
    have hc : P.cellsOf e = 1 := by simp [Program.cellsOf, hi, hs]
    obtain ⟨h1, h2⟩ := h j (by simp)
    have ih := run_items he hi hs d w us vs xs ys hx hy is (fun i hi => h i (by simp [hi]))
    have e1 : xs[j]? = some (.int kd us[j]) := by subst hx; simp [h1]
    have e2 : ys[j]? = some (.int kd vs[j]) := by subst hy; simp [h2]
    rw [hc] at ih
    simp only [Op.eqItems, Sem.run_bind, hc, Nat.mul_one, run_part1 he rfl xs j w e1, run_part1 he rfl ys j w e2, Result.andThen_ok, run_equal_int d he, List.all_cons]
    have g1 : us.getD j 0 = us[j] := by simp [h1]
    have g2 : vs.getD j 0 = vs[j] := by simp [h2]
    rw [g1, g2]
    cases hb : (us[j] == vs[j])
    · simp
    · simp [ih]

theorem all_range (us vs : List Int) (n : Nat) (h1 : us.length = n) (h2 : vs.length = n) : ((List.range n).all fun i => us.getD i 0 == vs.getD i 0) = (us == vs) := by
  rw [Bool.eq_iff_iff]
  simp only [List.all_eq_true, List.mem_range, beq_iff_eq]
  constructor
  · intro h
    apply List.ext_getElem (by omega)
    intro i hi hj
    have := h i (by omega)
    simpa [hi, hj] using this
  · intro h i _
    rw [h]

theorem run_ints (d : Nat) {t e : TypeId} {i : TypeInfo} {kd : IntKind} {n : Nat} (hT : P.underlying t = some (.array n e) ∧ P.underlying e = some (.int kd) ∧ P.info? e = some i ∧ i.size = 1) (us vs : List Int) (h1 : us.length = n) (h2 : vs.length = n) (w : World) :
    (Op.equalIn (d + 2) t (.agg (us.map (Value.int kd)).toArray) (.agg (vs.map (Value.int kd)).toArray)).run P w = .ok (us == vs) w := by
  obtain ⟨ha, hb, hc, hd⟩ := hT
  rw [run_equalIn_array w (d + 1) _ _ ha hc, run_items hb hc hd d w us vs _ _ rfl rfl (List.range n) (fun i hi => by have := List.mem_range.1 hi; omega), all_range us vs n h1 h2]

/-- The parts of a row, as the machine sees them. -/
inductive Segs (P : Program) : List Field → List (Nat × IntKind × Nat) → Prop where
  | nil : Segs P [] []
  | cons (f : Field) (fs : List Field) (kd : IntKind) (n : Nat) (segs : List (Nat × IntKind × Nat)) (hn : f.name ≠ "_") (hT : IntsT P f.type kd n) (h : Segs P fs segs) : Segs P (f :: fs) ((f.offset, kd, n) :: segs)

inductive RowT (P : Program) : TypeId → Nat → List (Nat × IntKind × Nat) → Prop where
  | arr (t e : TypeId) (kd : IntKind) (n : Nat) (i : TypeInfo) (ht : P.underlying t = some (.array n e)) (he : P.underlying e = some (.int kd)) (hi : P.info? e = some i) (h1 : i.size = 1) : RowT P t n [(0, kd, n)]
  | str (t : TypeId) (fs : Array Field) (n : Nat) (segs : List (Nat × IntKind × Nat)) (ht : P.underlying t = some (.struct fs)) (hp : P.stoodInHeld t = false) (h : Segs P fs.toList segs) : RowT P t n segs

/-- Cells that are whole numbers of one kind. -/
theorem lies_ints {ρ : Rho} {w : World} {kd : IntKind} {us : List Int} {vs : List Value} (hl : vs.length = us.length) (h : Lies ρ w (us.map (AV.int kd)) 0 vs.toArray) : vs = us.map (Value.int kd) := by
  apply List.ext_getElem (by simp [hl])
  intro i hi hj
  have hiu : i < us.length := by omega
  obtain ⟨v, h1, _, h3⟩ := h i (.int kd us[i]) (by simp [hiu])
  have h1' : vs[i]? = some v := by simpa using h1
  rw [List.getElem?_eq_getElem hi] at h1'
  rw [Option.some.inj h1', inv_int h3]
  simp

section
variable {R : Type} {A : Alg R} {holds : R → Prop} (good : A.Good holds)
include good

/-- What 'segsK' comes to: the same as reading the parts off one by one. -/
theorem segsK_sound {segs : List (Nat × IntKind × Nat)} {x y : List AV} {k : Bool → R} (h : holds (segsK A ops0 segs x y k)) :
    ∃ b, holds (k b) ∧ ∀ fs, Segs P fs segs → ∀ (ρ : Rho) (w : World) (xs ys : List Value) (d : Nat), xs.length = x.length → ys.length = y.length → Lies ρ w x 0 xs.toArray → Lies ρ w y 0 ys.toArray →
      (Op.eqFields (d + 2) xs.toArray ys.toArray fs).run P w = .ok b w := by
  induction segs with
  | nil =>
    refine ⟨true, h, fun fs hs ρ w xs ys d _ _ _ _ => ?_⟩
    cases hs
    simp [Op.eqFields]
  | cons s segs ih =>
    obtain ⟨off, kd, n⟩ := s
    obtain ⟨hx, h⟩ := good.chk _ _ (show holds (A.chk _ _) from h)
    obtain ⟨hy, h⟩ := good.chk _ _ h
    have hx : off + n ≤ x.length := by simpa [ops0] using hx
    have hy : off + n ≤ y.length := by simpa [ops0] using hy
    obtain ⟨us, hus, h⟩ := good.ints _ _ _ h
    obtain ⟨vs, hvs, h⟩ := good.ints _ _ _ h
    have hus : (x.drop off).take n = us.map (AV.int kd) := hus
    have hvs : (y.drop off).take n = vs.map (AV.int kd) := hvs
    have hul : us.length = n := by
      have := congrArg List.length hus
      simp at this; omega
    have hvl : vs.length = n := by
      have := congrArg List.length hvs
      simp at this; omega
    -- the part as the model reads it
    have key : ∀ (f : Field) (hT : IntsT P f.type kd n) (hf : f.offset = off) (ρ : Rho) (w : World) (xs ys : List Value) (d : Nat), xs.length = x.length → ys.length = y.length → Lies ρ w x 0 xs.toArray → Lies ρ w y 0 ys.toArray →
        ∃ a b, (part f.type xs.toArray f.offset).run P w = .ok a w ∧ (part f.type ys.toArray f.offset).run P w = .ok b w ∧ (Op.equalIn (d + 2) f.type a b).run P w = .ok (us == vs) w := by
      intro f hT hf ρ w xs ys d hxl hyl hlx hly
      have sub : ∀ (z : List AV) (zs : List Value) (ts : List Int), zs.length = z.length → Lies ρ w z 0 zs.toArray → off + n ≤ z.length → (z.drop off).take n = ts.map (AV.int kd) → ts.length = n →
          (zs.drop off).take n = ts.map (Value.int kd) := by
        intro z zs ts hl hli ho he hn
        refine lies_ints (ρ := ρ) (w := w) (by simp; omega) ?_
        rw [← he]
        intro i a hi
        rw [List.getElem?_take] at hi
        split at hi
        · rename_i hin
          rw [List.getElem?_drop] at hi
          obtain ⟨v, g1, g2, g3⟩ := hli _ a hi
          refine ⟨v, ?_, g2, g3⟩
          simp only [Nat.zero_add, List.getElem?_toArray] at g1 ⊢
          rw [List.getElem?_take, if_pos hin, List.getElem?_drop]
          exact g1
        · cases hi
      have ex := sub x xs us hxl hlx hx hus hul
      have ey := sub y ys vs hyl hly hy hvs hvl
      rcases hT with ⟨ht, hn⟩ | ⟨e, i, j, ht, he, hi, hs, hj, hjn⟩
      · subst hn
        match us, hul, vs, hvl with
        | [u], _, [v], _ =>
          refine ⟨.int kd u, .int kd v, ?_, ?_, ?_⟩
          · refine run_part1 ht rfl _ _ w ?_
            have := congrArg (·[0]?) ex
            simp [List.getElem?_take, List.getElem?_drop] at this
            simpa [hf] using this
          · refine run_part1 ht rfl _ _ w ?_
            have := congrArg (·[0]?) ey
            simp [List.getElem?_take, List.getElem?_drop] at this
            simpa [hf] using this
          · rw [run_equal_int (d + 1) ht]
            simp
      · refine ⟨.agg (us.map (Value.int kd)).toArray, .agg (vs.map (Value.int kd)).toArray, ?_, ?_, run_ints d ⟨ht, he, hi, hs⟩ us vs hul hvl w⟩
        · rw [run_partn ht rfl hj, hjn, hf, ← ex]
          simp [List.extract_toArray, List.extract_eq_take_drop]
        · rw [run_partn ht rfl hj, hjn, hf, ← ey]
          simp [List.extract_toArray, List.extract_eq_take_drop]
    rcases good.br _ _ _ h with ⟨hb, h⟩ | ⟨hb, h⟩
    · obtain ⟨b, hk, hb2⟩ := ih h
      refine ⟨b, hk, fun fs hs ρ w xs ys d hxl hyl hlx hly => ?_⟩
      cases hs with
      | cons f fs kd n segs hn hT hr =>
        obtain ⟨p, q, h1, h2, h3⟩ := key f hT rfl ρ w xs ys d hxl hyl hlx hly
        have hb : (us == vs) = true := hb
        simp only [Op.eqFields, if_pos hn, Sem.run_bind, h1, h2, h3, Result.andThen_ok, hb]
        simp only [Bool.not_true, Bool.false_eq_true, if_false]
        exact hb2 fs hr ρ w xs ys d hxl hyl hlx hly
    · refine ⟨false, h, fun fs hs ρ w xs ys d hxl hyl hlx hly => ?_⟩
      cases hs with
      | cons f fs kd n segs hn hT hr =>
        obtain ⟨p, q, h1, h2, h3⟩ := key f hT rfl ρ w xs ys d hxl hyl hlx hly
        have hb : (us == vs) = false := hb
        simp only [Op.eqFields, if_pos hn, Sem.run_bind, h1, h2, h3, Result.andThen_ok, hb]
        simp

/-- A row that is one array. -/
theorem segsK_arr {kd : IntKind} {n : Nat} {x y : List AV} {k : Bool → R} (h : holds (segsK A ops0 [(0, kd, n)] x y k)) (hx : x.length = n) (hy : y.length = n) :
    ∃ us vs : List Int, x = us.map (AV.int kd) ∧ y = vs.map (AV.int kd) ∧ holds (k (us == vs)) := by
  obtain ⟨_, h⟩ := good.chk _ _ (show holds (A.chk _ _) from h)
  obtain ⟨_, h⟩ := good.chk _ _ h
  obtain ⟨us, hus, h⟩ := good.ints _ _ _ h
  obtain ⟨vs, hvs, h⟩ := good.ints _ _ _ h
  have hus : (x.drop 0).take n = us.map (AV.int kd) := hus
  have hvs : (y.drop 0).take n = vs.map (AV.int kd) := hvs
  rw [List.drop_zero, List.take_of_length_le (by omega)] at hus hvs
  refine ⟨us, vs, hus, hvs, ?_⟩
  rcases good.br _ _ _ h with ⟨hb, h⟩ | ⟨hb, h⟩
  · have hb : (us == vs) = true := hb
    rw [hb]; exact h
  · have hb : (us == vs) = false := hb
    rw [hb]; exact h
end
end

end Go.Vm
