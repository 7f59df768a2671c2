/-
  A VERIFIED SYMBOLIC MACHINE, PART E: what the machine's readings of its own values mean.
-/
import Derived.Test.YtfmhlogapbpnbaaVmD
namespace Go.Vm

/-- What a call comes to. -/
structure CallTo (P : Program) (f : Nat) (vals : List AV) (H : Hl) (r : AV) (H' : Hl) (lg : List Nat) : Prop where
  real : ∀ (args : Array Value) (w : World), (callFunc f args).run P w = .ok (.enter f args) w
  grow : H.length ≤ H'.length
  keep : ∀ b, b < H.length → b ∉ lg → H'[b]? = H[b]?
  does : ∀ (ρ : Rho) (w : World) (us : List Value), HRel ρ w (fun b => H[b]?) → VRels ρ w vals us →
    Calls P f us.toArray w (fun e w' => ∃ v ρ', e = .returned v ∧ HRel ρ' w' (fun b => H'[b]?) ∧ VRel ρ' w' r v ∧ Ext H.length ρ w ρ' w')

/-- What the algebra's words are good for (but for calls and loops, which part G adds). -/
structure Alg.Good {R : Type} (A : Alg R) (holds : R → Prop) : Prop where
  fail : ¬ holds A.fail
  chk : ∀ b r, holds (A.chk b r) → b = true ∧ holds r
  br : ∀ b r s, holds (A.br b r s) → (b = true ∧ holds r) ∨ (b = false ∧ holds s)
  get : ∀ kd cs i k, holds (A.get kd cs i k) → ∃ v, cs[i]? = some v ∧ holds (k v)
  flo : ∀ o k, holds (A.flo o k) → ∃ r, o = some r ∧ holds (k r)
  ints : ∀ kd cs k, holds (A.ints kd cs k) → ∃ l : List Int, cs = l.map (AV.int kd) ∧ holds (k l)
  byts : ∀ cs k, holds (A.byts cs k) → ∃ l : List UInt8, cs = l.map (fun b => AV.int .u8 b.toNat) ∧ holds (k l)

/-! ### Lists of one, two, three -/
theorem VRels.one {ρ : Rho} {w : World} {a : AV} {v : Value} (h : VRels ρ w [a] [v]) : VRel ρ w a v := h.at_ 0 a v rfl rfl
theorem VRels.two {ρ : Rho} {w : World} {a b : AV} {u v : Value} (h : VRels ρ w [a, b] [u, v]) : VRel ρ w a u ∧ VRel ρ w b v := ⟨h.at_ 0 a u rfl rfl, h.at_ 1 b v rfl rfl⟩
theorem VRels.three {ρ : Rho} {w : World} {a b c : AV} {u v x : Value} (h : VRels ρ w [a, b, c] [u, v, x]) : VRel ρ w a u ∧ VRel ρ w b v ∧ VRel ρ w c x :=
  ⟨h.at_ 0 a u rfl rfl, h.at_ 1 b v rfl rfl, h.at_ 2 c x rfl rfl⟩
theorem VRels.head {ρ : Rho} {w : World} {a : AV} {as : List AV} {v : Value} {vs : List Value} (h : VRels ρ w (a :: as) (v :: vs)) : VRel ρ w a v := h.at_ 0 a v rfl rfl
theorem VRels.tail {ρ : Rho} {w : World} {a : AV} {as : List AV} {v : Value} {vs : List Value} (h : VRels ρ w (a :: as) (v :: vs)) : VRels ρ w as vs :=
  ⟨by have := h.len; simpa using this, fun i x u hx hu => h.at_ (i + 1) x u (by simpa using hx) (by simpa using hu)⟩

theorem inv_bool {ρ : Rho} {w : World} {b : Bool} {v : Value} (h : VRel ρ w (.bool b) v) : v = .bool b := by cases h; rfl
theorem inv_int {ρ : Rho} {w : World} {k : IntKind} {n : Int} {v : Value} (h : VRel ρ w (.int k n) v) : v = .int k n := by cases h; rfl
theorem inv_flt {ρ : Rho} {w : World} {k : FloatKind} {n : Nat} {v : Value} (h : VRel ρ w (.flt k n) v) : v = .float k n := by cases h; rfl
theorem inv_str {ρ : Rho} {w : World} {s : List UInt8} {v : Value} (h : VRel ρ w (.str s) v) : v = .string ⟨s.toArray⟩ := by cases h; rfl
theorem inv_nils {ρ : Rho} {w : World} {v : Value} (h : VRel ρ w .nils v) : v = .slice none 0 0 := by cases h; rfl

theorem sameK_eq {a b : IntKind} (h : sameK a b = true) : a = b := by cases a <;> cases b <;> first | rfl | cases h

theorem sameF_eq {a b : FloatKind} (h : sameF a b = true) : a = b := by cases a <;> cases b <;> first | rfl | cases h

theorem one_rel {ρ : Rho} {w : World} {x : AV} {v : Value} (h : VRel ρ w x v) (hx : x.one = true) : vone v = true ∧ v.cells = #[v] := by
  cases h with
  | ptr b o v h0 h1 hs _ => obtain ⟨a, rfl⟩ := hs; exact ⟨rfl, rfl⟩
  | slc b o len cap sz v h0 hs _ _ => obtain ⟨a, c, rfl, _⟩ := hs; exact ⟨rfl, rfl⟩
  | top => cases hx
  | agg => cases hx
  | tup => cases hx
  | _ => exact ⟨rfl, rfl⟩

theorem lies_one {ρ : Rho} {w : World} {x : AV} {v : Value} (h : VRel ρ w x v) (hx : x.one = true) : Lies ρ w [x] 0 #[v] := by
  intro i a ha
  cases i with
  | zero => simp at ha; subst ha; exact ⟨v, by simp, (one_rel h hx).1, h⟩
  | succ i => simp at ha

theorem lies_agg {ρ : Rho} {w : World} {cs : List AV} {v : Value} (h : VRel ρ w (.agg cs) v) : ∃ vs : List Value, v = .agg vs.toArray ∧ vs.length = cs.length ∧ (∀ v ∈ vs, vone v = true) ∧ Lies ρ w cs 0 vs.toArray := by
  cases h with
  | agg _ vs hl ho hr =>
    refine ⟨vs, rfl, hl, ho, fun i a ha => ?_⟩
    have hi : i < vs.length := by rw [hl]; exact (List.getElem?_eq_some_iff.1 ha).1
    exact ⟨vs[i], by simp [hi], ho _ (List.getElem_mem _), hr i a _ ha (by simp [hi])⟩

/-- Back: cells that lie so are a value. -/
theorem agg_of_lies {ρ : Rho} {w : World} {cs : List AV} {vs : List Value} (hl : vs.length = cs.length) (h : Lies ρ w cs 0 vs.toArray) : VRel ρ w (.agg cs) (.agg vs.toArray) := by
  refine .agg cs vs hl ?_ ?_
  · intro v hv
    obtain ⟨i, hi, e⟩ := List.mem_iff_getElem.1 hv
    have hi' : i < cs.length := by omega
    obtain ⟨u, h1, h2, _⟩ := h i cs[i] (by simp)
    have h1' : vs[i]? = some u := by simpa using h1
    rw [List.getElem?_eq_getElem hi] at h1'
    rw [← e, Option.some.inj h1']; exact h2
  · intro i a v ha hv
    obtain ⟨u, h1, _, h3⟩ := h i a ha
    have h1' : vs[i]? = some u := by simpa using h1
    have e : v = u := Option.some.inj (hv.symm.trans h1')
    rw [e]; exact h3

theorem Lies.sub {ρ : Rho} {w : World} {cs : List AV} {F : Nat} {c : Array Value} (h : Lies ρ w cs F c) (o n : Nat) : Lies ρ w ((cs.drop o).take n) (F + o) c := by
  intro i a ha
  rw [List.getElem?_take] at ha
  split at ha
  · rw [List.getElem?_drop] at ha
    have := h _ a ha
    rw [← Nat.add_assoc] at this
    exact this
  · cases ha

/-- The values that lie there, as a list. -/
theorem Lies.values {ρ : Rho} {w : World} {cs : List AV} {F : Nat} {c : Array Value} (h : Lies ρ w cs F c) :
    ∃ vs : List Value, vs.length = cs.length ∧ (∀ i v, vs[i]? = some v → c[F + i]? = some v) ∧ Lies ρ w cs 0 vs.toArray ∧ ∀ v ∈ vs, vone v = true := by
  induction cs generalizing F with
  | nil => exact ⟨[], rfl, fun i v h => by simp at h, fun i a ha => by simp at ha, fun v hv => by simp at hv⟩
  | cons a cs ih =>
    have ht : Lies ρ w cs (F + 1) c := fun i b hb => by
      have := h (i + 1) b (by simpa using hb)
      rw [show F + (i + 1) = F + 1 + i by omega] at this
      exact this
    obtain ⟨vs, h1, h2, h3, h4⟩ := ih ht
    obtain ⟨v, hv, ho, hr⟩ := h 0 a rfl
    refine ⟨v :: vs, by simp [h1], ?_, ?_, ?_⟩
    · intro i u hu
      cases i with
      | zero => simp at hu; subst hu; exact hv
      | succ i =>
        have := h2 i u (by simpa using hu)
        rw [show F + (i + 1) = F + 1 + i by omega]
        exact this
    · intro i b hb
      cases i with
      | zero => simp at hb; subst hb; exact ⟨v, by simp, ho, hr⟩
      | succ i =>
        obtain ⟨u, g1, g2, g3⟩ := h3 i b (by simpa using hb)
        exact ⟨u, by simpa using g1, g2, g3⟩
    · intro u hu
      cases hu with
      | head => exact ho
      | tail _ hu => exact h4 u hu

section
variable {R : Type} {A : Alg R} {holds : R → Prop} (good : A.Good holds)
include good

theorem oneK_sound {x : AV} {r : R} (h : holds (oneK A x r)) : x.one = true ∧ holds r := by
  cases x <;> first | exact (good.fail h).elim | exact ⟨rfl, h⟩

theorem cellsK_sound {x : AV} {k : List AV → R} (h : holds (cellsK A x k)) : ∃ cs, holds (k cs) ∧ ∀ ρ w v, VRel ρ w x v → cs.length = v.cells.size ∧ Lies ρ w cs 0 v.cells := by
  cases x with
  | agg cs =>
    refine ⟨cs, h, fun ρ w v hv => ?_⟩
    obtain ⟨vs, rfl, hl, _, hc⟩ := lies_agg hv
    exact ⟨by simp [Value.cells, hl], hc⟩
  | top => exact (good.fail h).elim
  | tup => exact (good.fail h).elim
  | _ =>
    refine ⟨_, h, fun ρ w v hv => ?_⟩
    obtain ⟨h1, h2⟩ := one_rel hv rfl
    rw [h2]
    exact ⟨rfl, lies_one hv rfl⟩

theorem cells1K_sound {x : AV} {n : Nat} {k : List AV → R} (h : holds (cells1K A ops0 x n k)) : ∃ cs, holds (k cs) ∧ cs.length = n ∧ ∀ ρ w v, VRel ρ w x v → v.cells.size = n ∧ Lies ρ w cs 0 v.cells := by
  cases x with
  | agg cs =>
    obtain ⟨e, h⟩ := good.chk _ _ h
    have e : cs.length = n := by simpa [ops0] using e
    refine ⟨cs, h, e, fun ρ w v hv => ?_⟩
    obtain ⟨vs, rfl, hl, _, hc⟩ := lies_agg hv
    exact ⟨by simp [Value.cells, hl, e], hc⟩
  | top => exact (good.fail h).elim
  | tup => exact (good.fail h).elim
  | _ =>
    simp only [cells1K] at h
    split at h
    · rename_i e
      have e := Nat.eq_of_beq_eq_true e
      subst e
      refine ⟨_, h, rfl, fun ρ w v hv => ?_⟩
      obtain ⟨h1, h2⟩ := one_rel hv rfl
      rw [h2]
      exact ⟨rfl, lies_one hv rfl⟩
    · exact (good.fail h).elim

theorem blkK_sound {H : Hl} {b : Nat} {k : List AV → R} (h : holds (blkK A H b k)) : ∃ cs, H[b]? = some (.cells cs) ∧ holds (k cs) := by
  unfold blkK at h
  rw [nth_eq] at h
  split at h
  · rename_i cs e; exact ⟨cs, e, h⟩
  · exact (good.fail h).elim

theorem brB_sound {b neg : Bool} {k : AV → R} (h : holds (brB A b neg k)) : holds (k (.bool (Bool.xor neg b))) := by
  cases neg
  · rcases good.br _ _ _ (show holds (A.br b _ _) from h) with ⟨e, h2⟩ | ⟨e, h2⟩ <;> subst e <;> exact h2
  · rcases good.br _ _ _ (show holds (A.br b _ _) from h) with ⟨e, h2⟩ | ⟨e, h2⟩ <;> subst e <;> exact h2
end

/-- A pointer into a block that is there. -/
theorem ptr_live {ρ : Rho} {w : World} {g : Hp} (hg : HRel ρ w g) {b o : Nat} {cs : List AV} (hb : g b = some (.cells cs)) {v : Value} (h : VRel ρ w (.ptr b o) v) :
    ∃ B F c e lo hi, ρ b = .live B F ∧ v = .pointer (some ⟨B, F + o, none⟩) ∧ w.heap[B]? = some (.cells c e (lo, hi)) ∧ F + cs.length ≤ c.size ∧
      (∀ j, F ≤ j → j < c.size → ¬ (lo ≤ j ∧ j < hi)) ∧ Lies ρ w cs F c := by
  cases h with
  | ptr _ _ _ h0 h1 hs hh =>
    rcases hg.live b cs hb with ⟨hv, _⟩ | ⟨B, F, c, e, lo, hi, hl, hc, hsz, hf, hli⟩
    · exact absurd hv h1
    · exact ⟨B, F, c, e, lo, hi, hl, hh B F hl, hc, hsz, hf, hli⟩

/-- What is read of a slice's, or a string's, first elements. -/
structure Elems (P : Program) (ρ : Rho) (w : World) (sz : Nat) (v : Value) (cs : List AV) (n : Nat) : Prop where
  len : cs.length = n * sz
  lenOf : (Builtin.lenOf v).run P w = .ok n w
  first : ∀ m, m ≤ n → ∃ vs : List Value, vs.length = m * sz ∧ (Builtin.firstCells sz m v).run P w = .ok vs.toArray w ∧ Lies ρ w (cs.take (m * sz)) 0 vs.toArray ∧ ∀ v ∈ vs, vone v = true

theorem row_first {P : Program} {ρ : Rho} {w : World} {B X sz n cap' : Nat} {ao : Option Addr} {cs : List AV} {vs : List Value} (hl : vs.length = cs.length) (hcs : cs.length = n * sz)
    (ha : n * sz ≠ 0 → ao = some ⟨B, X, none⟩) (hn : ao = none → n = 0) (hc : ∀ i v, vs[i]? = some v → w.cell? ⟨B, X + i, none⟩ = some v) (hli : Lies ρ w cs 0 vs.toArray) (ho : ∀ v ∈ vs, vone v = true) :
    Elems P ρ w sz (.slice ao n cap') cs n where
  len := hcs
  lenOf := by simp [Builtin.lenOf]
  first m hm := by
    have hmn : m * sz ≤ n * sz := Nat.mul_le_mul_right _ hm
    refine ⟨vs.take (m * sz), by simp; omega, ?_, ?_, fun v hv => ho v (List.mem_of_mem_take hv)⟩
    · cases ao with
      | none =>
        have := hn rfl
        subst this
        have : m = 0 := by omega
        subst this
        simp [Builtin.firstCells]
      | some a =>
        simp only [Builtin.firstCells]
        by_cases hz : m * sz = 0
        · rw [hz]; simp [loadCells, loadCellsFrom]
        · have := ha (by omega)
          cases this
          refine run_loadCells' _ _ (by simp; omega) ?_
          intro j v hv
          rw [List.getElem?_take] at hv
          split at hv
          · exact hc j v hv
          · cases hv
    · intro i a hia
      rw [List.getElem?_take] at hia
      split at hia
      · rename_i hi
        obtain ⟨v, h1, h2, h3⟩ := hli i a hia
        refine ⟨v, ?_, h2, h3⟩
        simp only [Nat.zero_add] at h1 ⊢
        simp only [List.getElem?_toArray] at h1 ⊢
        rw [List.getElem?_take, if_pos hi]; exact h1
      · cases hia

section
variable {R : Type} {A : Alg R} {holds : R → Prop} (good : A.Good holds)
include good

theorem elemsK_sound {H : Hl} {sz : Nat} {x : AV} {k : List AV → Nat → List Nat → R} (h : holds (elemsK A ops0 H sz x k)) :
    ∃ cs n ft, holds (k cs n ft) ∧ ∀ (P : Program) (ρ : Rho) (w : World) (g : Hp) (v : Value), VRel ρ w x v → agree g H ft → HRel ρ w g → Elems P ρ w sz v cs n := by
  cases x with
  | nils =>
    refine ⟨[], 0, [], h, fun P ρ w g v hv _ _ => ?_⟩
    rw [inv_nils hv]
    exact row_first (B := 0) (X := 0) (vs := []) rfl (by simp) (by simp) (fun _ => rfl) (fun i v h => by simp at h) (fun i a ha => by simp at ha) (fun v hv => by simp at hv)
  | slc b o len cap sz' =>
    simp only [elemsK] at h
    obtain ⟨bs, hb, h⟩ := blkK_sound good h
    obtain ⟨hle, h⟩ := good.chk _ _ h
    have hle : o + len * sz ≤ bs.length := by simpa [ops0] using hle
    refine ⟨_, _, _, h, fun P ρ w g v hv hag hg => ?_⟩
    have hgb : g b = some (.cells bs) := (hag b (by simp)).trans hb
    cases hv with
    | slc _ _ _ _ _ _ h0 hs hvo hh =>
      rcases hg.live b bs hgb with ⟨hvd, hbs⟩ | ⟨B, F, c, e, lo, hi, hl, hc, hsz, hf, hli⟩
      · obtain ⟨ao, rfl, rfl, rfl⟩ := hvo hvd
        subst hbs
        exact row_first (B := 0) (X := 0) (vs := []) (by simp [ops0]) (by simp [ops0]) (by simp) (fun _ => rfl) (fun i v h => by simp at h) (fun i a ha => by simp [ops0] at ha) (fun v hv => by simp at hv)
      · obtain ⟨ao, cap', h1, h2, rfl, h4, h5⟩ := hh B F hl
        have hsub := Lies.sub (show Lies ρ w bs F c from hli) o (len * sz)
        obtain ⟨vs, hvl, hvc, hvl2, hvo2⟩ := hsub.values
        have hlen : ((bs.drop o).take (len * sz)).length = len * sz := by simp; omega
        refine row_first (B := B) (X := F + o) (vs := vs) hvl hlen ?_ ?_ ?_ hvl2 hvo2
        · intro hn
          exact h4 (by intro h; subst h; have : len = 0 := by omega
                       subst this; simp at hn)
        · intro hn
          have : cap' = 0 := by
            rcases Nat.eq_zero_or_pos cap' with h | h
            · exact h
            · have := h4 (by omega); rw [hn] at this; cases this
          omega
        · intro i v hv
          rw [cell_at hc]
          exact hvc i v hv
  | ros cells off len cap ex =>
    simp only [elemsK] at h
    obtain ⟨hle, h⟩ := good.chk _ _ h
    have hle : off + len * sz ≤ cells.length := by simpa [ops0] using hle
    refine ⟨_, _, _, h, fun P ρ w g v hv hag hg => ?_⟩
    cases hv with
    | ros _ _ _ _ _ B F ao cap' vs hlt hp hl ho hc hr hcap hlen he ha =>
      have hli : Lies ρ w cells 0 vs.toArray := by
        intro i a hia
        have hi : i < vs.length := by rw [hl]; exact (List.getElem?_eq_some_iff.1 hia).1
        exact ⟨vs[i], by simp [hi], ho _ (List.getElem_mem _), hr i a _ hia (by simp [hi])⟩
      have hsub := hli.sub off (len * sz)
      obtain ⟨us, hul, huc, hul2, huo2⟩ := hsub.values
      have hlen2 : ((cells.drop off).take (len * sz)).length = len * sz := by simp; omega
      refine row_first (B := B) (X := F + off) (vs := us) hul hlen2 ?_ ?_ ?_ hul2 huo2
      · intro hn
        exact ha (by intro h; subst h; have : len = 0 := by omega
                     subst this; simp at hn)
      · intro hn
        have : cap' = 0 := by
          rcases Nat.eq_zero_or_pos cap' with h | h
          · exact h
          · have := ha (by omega); rw [hn] at this; cases this
        omega
      · intro i v hv
        have := huc i v hv
        rw [Nat.add_assoc]
        exact hc (off + i) v (by simpa using this)
  | str s =>
    simp only [elemsK] at h
    split at h
    · rename_i hsz
      have hsz := Nat.eq_of_beq_eq_true hsz
      subst hsz
      refine ⟨_, _, _, h, fun P ρ w g v hv _ _ => ?_⟩
      rw [inv_str hv]
      refine ⟨by simp [ops0], by simp [Builtin.lenOf, ops0, ByteArray.size], fun m hm => ?_⟩
      have hm : m ≤ s.length := by simpa [ops0] using hm
      refine ⟨(s.take m).map fun b => .int .u8 b.toNat, by simp; omega, ?_, ?_, ?_⟩
      · simp only [Builtin.firstCells, Sem.run_pure]
        congr 1
        rw [ByteArray.data_extract]
        simp [List.extract_toArray, List.map_take]
      · intro i a hia
        simp only [ops0, Nat.mul_one, List.getElem?_take, List.getElem?_map] at hia
        split at hia
        · rename_i hi
          cases hsi : s[i]? with
          | none => simp [hsi] at hia
          | some c =>
            simp [hsi] at hia; subst hia
            exact ⟨.int .u8 c.toNat, by simp [hi, hsi], rfl, .int _ _⟩
        · cases hia
      · intro v hv
        obtain ⟨c, _, rfl⟩ := List.mem_map.1 hv
        rfl
    · exact (good.fail h).elim
  | _ => exact (good.fail h).elim
end

end Go.Vm
