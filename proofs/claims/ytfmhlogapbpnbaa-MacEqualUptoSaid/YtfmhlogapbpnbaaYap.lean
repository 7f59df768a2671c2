/-
  ARGUMENTS AS THE MACHINE SEES THEM, PART 2: strings, arrays of bytes, slices of slices of bytes.
-/
import Derived.Test.YtfmhlogapbpnbaaYao
import Derived.Test.YtfmhlogapbpnbaaRows
import Derived.ProofKit

namespace Go.Proofs.Vm
open Go.Vm Go.ChangeShapes Go.WideShapes Go.ChangeAt Go.RowKit

set_option maxRecDepth 100000

theorem bulk_pos {H : Type} (d : DataW H) : 1 ≤ Ytfmhlogapbpnbaa.Rows.uptoBulk d := bulk_one d

/-- A string that came in. -/
theorem open_str {H : Type} {enc : TypeId × Value → H} {W : World} {base : Nat} {t : TypeId} {v : Value} {d : DataW H} {p : List MemPlace} (ht : Try.prog.underlying t = some .string)
    (hval : Value.okWide Try.prog W .any base t v) (_h : DataW.Trod enc Try.prog W 0 (fun _ => true) true t v d p) : ∃ l : List UInt8, VRel noRho W (.str l) v := by
  obtain ⟨s, rfl⟩ := okWide_string ht hval
  refine ⟨s.data.toList, ?_⟩
  have h := VRel.str (ρ := noRho) (w := W) s.data.toList
  have e : (⟨s.data.toList.toArray⟩ : ByteArray) = s := by cases s; simp
  rw [e] at h
  exact h

/-- An array of bytes. -/
theorem key_of {zs : List Int} {n : Nat} (hz : zs.length = n) (hw : ∀ z ∈ zs, IntKind.u8.has z) (W : World) : ∃ key : List UInt8, key.length = n ∧ VRel noRho W (.agg (key.map by8)) (.agg (zs.map (Value.int .u8)).toArray) := by
  refine ⟨zs.map fun z => UInt8.ofNat z.toNat, by simp [hz], ?_⟩
  have e : (zs.map fun z => UInt8.ofNat z.toNat).map by8 = zs.map (AV.int .u8) := by
    rw [List.map_map]
    apply List.map_congr_left
    intro z hz'
    refine by8_int ?_
    have := hw z hz'
    simp only [Lit.wf]
    simpa [IntKind.has, IntKind.min, IntKind.max, IntKind.signed, IntKind.bits] using this
  rw [e]
  exact arr_rel W .u8 zs

theorem nat_of64 {n : Int} (h : (Lit.int .u64 n).wf = true) : ∃ m : Nat, n = Int.ofNat m ∧ m < 18446744073709551616 := by
  have hx : 0 ≤ n ∧ n ≤ 18446744073709551615 := by simpa [Lit.wf, IntKind.min, IntKind.max, IntKind.signed, IntKind.bits] using h
  exact ⟨n.toNat, by simp only [Int.ofNat_eq_natCast]; omega, by omega⟩

theorem spot_of {W : World} {a : Addr} {v : Value} (h : W.cell? a = some v) : a = ⟨a.block, a.off, none⟩ ∧ a.block < W.heap.size := by
  obtain ⟨b, o, s⟩ := a
  simp only [World.cell?] at h
  constructor
  · cases s with
    | none => rfl
    | some k =>
      exfalso
      split at h <;> simp at h
  · show b < W.heap.size
    rcases Nat.lt_or_ge b W.heap.size with h' | h'
    · exact h'
    · simp [Array.getElem?_eq_none h'] at h

theorem add_none {b o i : Nat} : (Addr.add ⟨b, o, none⟩ i) = ⟨b, o + i, none⟩ := by
  unfold Addr.add
  by_cases h0 : i = 0
  · subst h0; simp
  · rw [if_neg h0]

/-- Bytes that lie within something else. -/
theorem bytes_of {H : Type} {enc : TypeId × Value → H} {W : World} {fuel : Nat} {t e : TypeId} {v : Value} {y : DataW H × List MemPlace} (ht : Try.prog.underlying t = some (.slice e)) (he : Try.prog.underlying e = some (.int .u8)) (hc : Try.prog.cellsOf e = 1)
    (hf : DataW.trod enc Try.prog W 0 (fun _ => true) true fuel t [v] = some y) :
    ∃ (pc : List AV) (off len cap : Nat) (ex : Bool) (lb : List UInt8), VRel noRho W (.ros pc off len cap ex) v ∧ flatL pc ∧ off + len ≤ pc.length ∧ BytesAt pc off len lb ∧ len + 1 ≤ Ytfmhlogapbpnbaa.Rows.uptoBulk y.1 ∧ vone v = true := by
  rcases open_ints ht he hc hf with ⟨hcs, hx⟩ | ⟨a, len, cap, zs, hcs, _, hl, hm, hz, hx, hcell, hwz⟩
  · obtain rfl : v = _ := List.head_eq_of_cons_eq hcs
    exact ⟨[], 0, 0, 0, true, [], .ros [] 0 0 0 true 0 0 none 0 [] (fun h => absurd rfl h) (fun h => absurd rfl h) rfl (by simp) (by simp) (by simp) (Nat.le_refl _) (Nat.le_refl _) (fun _ => rfl) (fun h => absurd rfl h), fun a ha => (by cases ha), by simp, ⟨rfl, rfl⟩, bulk_pos _, rfl⟩
  · obtain rfl : v = _ := List.head_eq_of_cons_eq hcs
    simp only [if_true] at hz
    subst hx
    have hspot : zs ≠ [] → a = ⟨a.block, a.off, none⟩ ∧ a.block < W.heap.size := by
      intro hn
      have h0 : 0 < zs.length := List.length_pos_iff.2 hn
      have h1 := hcell 0 h0
      have e0 : a.add 0 = a := by simp [Addr.add]
      rw [e0] at h1
      exact spot_of h1
    refine ⟨zs.map (AV.int .u8), 0, len, zs.length, true, (zs.take len).map fun n => UInt8.ofNat n.toNat, ?_, ?_, ?_, ⟨by simp; omega, ?_⟩, ?_, rfl⟩
    · subst hz
      refine .ros (zs.map (AV.int .u8)) 0 len zs.length true a.block a.off (some a) zs.length (zs.map (Value.int .u8)) (fun hn => (hspot (by intro e; subst e; exact hn rfl)).2) (fun _ b F' h => by cases h) (by simp) ?_ ?_ ?_ (Nat.le_refl _) hl (fun _ => rfl) ?_
      · intro v hv
        obtain ⟨n, _, rfl⟩ := List.mem_map.1 hv
        rfl
      · intro i v hv
        have hi : i < zs.length := by
          have := (List.getElem?_eq_some_iff.1 hv).1
          simpa using this
        have hne : zs ≠ [] := by intro e; subst e; simp at hi
        have := hcell i hi
        rw [(hspot hne).1, add_none] at this
        rw [this]
        rw [List.getElem?_map, List.getElem?_eq_getElem hi] at hv
        have e3 : zs.getD i 0 = zs[i] := by simp [hi]
        rw [e3]
        exact hv
      · intro i a v ha hv
        rw [List.getElem?_map] at ha hv
        obtain ⟨n, hn, rfl⟩ := Option.map_eq_some_iff.1 ha
        rw [hn] at hv
        cases hv
        exact .int _ _
      · intro hn
        have hne : zs ≠ [] := by intro e; subst e; exact hn rfl
        exact congrArg some (hspot hne).1
    · intro a ha
      obtain ⟨n, _, rfl⟩ := List.mem_map.1 ha
      rfl
    · simp; omega
    · rw [List.drop_zero, ← List.map_take, List.map_map]
      apply List.map_congr_left
      intro n hn
      exact (by8_int (hwz n (List.mem_of_mem_take hn))).symm
    · have h1 := bulk_length (H := H) (lits .u8 (zs.take len))
      have h2 : (lits (H := H) .u8 (zs.take len)).length = len := by simp [lits]; omega
      show len + 1 ≤ Ytfmhlogapbpnbaa.Rows.uptoBulk (DataW.slice _ _)
      simp only [Ytfmhlogapbpnbaa.Rows.uptoBulk]
      omega

theorem pick_two {n : Nat} {R : Nat → AV → List UInt8 → Prop} (h : ∀ i, i < n → ∃ x lb, R i x lb) : ∃ (ps : List AV) (pl : List (List UInt8)), ps.length = n ∧ pl.length = n ∧ ∀ (i : Nat) x lb, ps[i]? = some x → pl[i]? = some lb → R i x lb := by
  induction n with
  | zero => exact ⟨[], [], rfl, rfl, fun i x lb hx _ => by cases hx⟩
  | succ n ih =>
    obtain ⟨ps, pl, h1, h2, h3⟩ := ih fun i hi => h i (by omega)
    obtain ⟨x, lb, hr⟩ := h n (by omega)
    refine ⟨ps ++ [x], pl ++ [lb], by simp [h1], by simp [h2], fun i y lc hy hc => ?_⟩
    rcases Nat.lt_or_ge i n with hi | hi
    · rw [List.getElem?_append_left (by omega)] at hy hc
      exact h3 i y lc hy hc
    · have hlt : i < (ps ++ [x]).length := (List.getElem?_eq_some_iff.1 hy).1
      have hin : i = n := by simp [h1] at hlt; omega
      subst hin
      rw [List.getElem?_append_right (by omega), h1, Nat.sub_self] at hy
      rw [List.getElem?_append_right (by omega), h2, Nat.sub_self] at hc
      cases hy; cases hc
      exact hr

theorem sum_bulk {H : Type} : ∀ (pl : List (List UInt8)) (ds : List (DataW H)), pl.length = ds.length → (∀ (i : Nat) lb d, pl[i]? = some lb → ds[i]? = some d → lb.length + 1 ≤ Ytfmhlogapbpnbaa.Rows.uptoBulk d) → (textL pl).length ≤ 8 * Ytfmhlogapbpnbaa.Rows.uptoBulkAll ds
  | [], ds, _, _ => by simp [textL]
  | lb :: pl, [], hl, _ => by simp at hl
  | lb :: pl, d :: ds, hl, h => by
    have ih := sum_bulk pl ds (by simpa using hl) fun i lb' d' h1 h2 => h (i + 1) lb' d' (by simpa using h1) (by simpa using h2)
    have h0 := h 0 lb d rfl rfl
    simp only [Ytfmhlogapbpnbaa.Rows.uptoBulkAll]
    unfold textL at ih ⊢
    rw [List.map_cons, List.flatten_cons, List.length_append, List.length_append, bytesN_length]
    omega

/-- A slice of slices of bytes that came in. -/
theorem open_parts {H : Type} {enc : TypeId × Value → H} {W : World} {base : Nat} {t e u : TypeId} {v : Value} {d : DataW H} {p : List MemPlace} (ht : Try.prog.underlying t = some (.slice e)) (he : Try.prog.underlying e = some (.slice u)) (hu : Try.prog.underlying u = some (.int .u8))
    (hc : Try.prog.cellsOf e = 1) (hcu : Try.prog.cellsOf u = 1) (hval : Value.okWide Try.prog W .any base t v) (h : DataW.Trod enc Try.prog W 0 (fun _ => true) true t v d p) (hb : Ytfmhlogapbpnbaa.Rows.uptoBulk d ≤ 1048576) :
    ∃ (ps : List AV) (n c : Nat) (ex : Bool), VRel noRho W (.ros ps 0 n c ex) v ∧ PTag ps 0 n := by
  obtain ⟨a0, len, cap, rfl⟩ := okWide_slice ht hval
  obtain ⟨fuel, hf⟩ := h
  rcases DataW.trod_slice ht hf with ⟨hcs, hx⟩ | ⟨a, len', cap', elems, rest, n, _, hcs, hx, _, hl, hm, hlen, hel, hsp, hns⟩
  · simp [Value.cells] at hcs
    obtain ⟨rfl, rfl, rfl⟩ := hcs
    exact ⟨[], 0, 0, true, .ros [] 0 0 0 true 0 0 none 0 [] (fun h => absurd rfl h) (fun h => absurd rfl h) rfl (by simp) (by simp) (by simp) (Nat.le_refl _) (Nat.le_refl _) (fun _ => rfl) (fun h => absurd rfl h), ptag_nil⟩
  · simp [Value.cells] at hcs
    obtain ⟨rfl, rfl, rfl⟩ := hcs
    simp only [Prod.mk.injEq] at hx
    obtain ⟨rfl, _⟩ := hx
    have each : ∀ i, i < len → ∃ (x : AV) (lb : List UInt8), ∃ y u, elems[i]? = some y ∧ W.cell? (a.add i) = some u ∧ VRel noRho W x u ∧ vone u = true ∧ ∃ pc off l c e, x = .ros pc off l c e ∧ flatL pc ∧ off + l ≤ pc.length ∧ BytesAt pc off l lb ∧ l + 1 ≤ Ytfmhlogapbpnbaa.Rows.uptoBulk y.1 := by
      intro i hi
      have h1 := hel i hi
      rw [hc, Nat.mul_one, List.getElem?_eq_getElem (by omega), Option.bind_eq_some_iff] at h1
      obtain ⟨cs', hcs', hy⟩ := h1
      have hshape : ∃ u, cs' = [u] := by
        rcases open_ints he hu hcu hy with ⟨hq, _⟩ | ⟨_, _, _, _, hq, _⟩
        · exact ⟨_, hq⟩
        · exact ⟨_, hq⟩
      obtain ⟨u0, rfl⟩ := hshape
      obtain ⟨pc, off, l, c, ex, lb, k1, k2, k3, k4, k5, k6⟩ := bytes_of he hu hcu hy
      exact ⟨_, lb, elems[i], u0, by simp [hlen, hi], cell_of_cells?_one hcs', k1, k6, pc, off, l, c, ex, rfl, k2, k3, k4, k5⟩
    obtain ⟨ps, pl, hps, hpl, hR⟩ := pick_two each
    obtain ⟨us, hus⟩ : ∃ us : List Value, us = (List.range len).map fun i => (W.cell? (a.add i)).getD default := ⟨_, rfl⟩
    have huget : ∀ (i : Nat) (v : Value), us[i]? = some v → i < len ∧ W.cell? (a.add i) = some v := by
      intro i v hv
      have hlt : i < us.length := (List.getElem?_eq_some_iff.1 hv).1
      have hi : i < len := by rw [hus] at hlt; simpa using hlt
      obtain ⟨x, lb, y, u, q1, q2, _⟩ := each i hi
      rw [hus, List.getElem?_map, List.getElem?_range hi, Option.map_some, q2] at hv
      refine ⟨hi, ?_⟩
      rw [q2]
      exact hv
    have hget : ∀ i, i < len → ∃ x lb, ps[i]? = some x ∧ pl[i]? = some lb := fun i hi => ⟨ps[i], pl[i], by simp [hps, hi], by simp [hpl, hi]⟩
    have hspot : ps ≠ [] → a = ⟨a.block, a.off, none⟩ ∧ a.block < W.heap.size := by
      intro hn
      have h0 : 0 < len := by rw [← hps]; exact List.length_pos_iff.2 hn
      obtain ⟨x, lb, y, u, q1, q2, _⟩ := each 0 h0
      have e0 : a.add 0 = a := by simp [Addr.add]
      rw [e0] at q2
      exact spot_of q2
    have hspotC : cap ≠ 0 → a = ⟨a.block, a.off, none⟩ := by
      intro hn
      rcases Nat.eq_zero_or_pos len with h0 | h0
      · obtain ⟨h1, h2⟩ := hsp rfl
        have h3 := h2 0 (by omega)
        rw [hc, Nat.mul_one, List.getElem?_eq_getElem (by omega), Option.bind_eq_some_iff] at h3
        obtain ⟨cs', hcs', hy⟩ := h3
        have hshape : ∃ u, cs' = [u] := by
          rcases open_ints he hu hcu hy with ⟨hq, _⟩ | ⟨_, _, _, _, hq, _⟩
          · exact ⟨_, hq⟩
          · exact ⟨_, hq⟩
        obtain ⟨u0, rfl⟩ := hshape
        have h4 := cell_of_cells?_one hcs'
        have e0 : a.add (len + 0) = a := by simp [Addr.add, h0]
        rw [e0] at h4
        exact (spot_of h4).1
      · exact (hspot (by intro e; subst e; simp at hps; omega)).1
    refine ⟨ps, len, len, false, ?_, ⟨⟨?_, pl, hpl, ?_, ?_⟩, ?_, ?_⟩⟩
    · refine .ros ps 0 len len false a.block a.off (some a) cap us (fun hn => (hspot hn).2) (fun _ b F' h => by cases h) (by rw [hus, hps]; simp) ?_ ?_ ?_ hl hl (fun h => by cases h) ?_
      · intro v hv
        obtain ⟨i, hi⟩ := List.getElem?_of_mem hv
        obtain ⟨hi', hc'⟩ := huget i v hi
        obtain ⟨x, lb, y, u, q1, q2, q3, q4, _⟩ := each i hi'
        rw [q2] at hc'
        cases hc'
        exact q4
      · intro i v hv
        obtain ⟨hi', hc'⟩ := huget i v hv
        have hne : ps ≠ [] := by intro e; subst e; simp at hps; omega
        rw [(hspot hne).1, add_none] at hc'
        exact hc'
      · intro i x v hx hv
        obtain ⟨hi', hc'⟩ := huget i v hv
        obtain ⟨_, lb, _, hlb⟩ := hget i hi'
        obtain ⟨y, u, q1, q2, q3, _⟩ := hR i x lb hx hlb
        rw [q2] at hc'
        cases hc'
        exact q3
      · intro hn
        exact congrArg some (hspotC hn)
    · intro x hx
      obtain ⟨i, hi⟩ := List.getElem?_of_mem hx
      have hi' : i < len := by have := (List.getElem?_eq_some_iff.1 hi).1; omega
      obtain ⟨_, lb, _, hlb⟩ := hget i hi'
      obtain ⟨y, u, q1, q2, q3, q4, pc, off, l, c, e, rfl, hf', _⟩ := hR i x lb hi hlb
      exact ⟨pc, off, l, c, e, rfl, hf'⟩
    · have h1 := bulk_slice (elems.map (·.1)) (rest.map (·.1))
      simp only [List.length_map] at h1
      omega
    · intro j lb hj
      have hj' : j < len := by have := (List.getElem?_eq_some_iff.1 hj).1; omega
      obtain ⟨x, _, hx, _⟩ := hget j hj'
      obtain ⟨y, u, q1, q2, q3, q4, pc, off, l, c, e, rfl, hf', ho, hbt, hbk⟩ := hR j x lb hx hj
      refine ⟨?_, pc, off, l, c, e, by rw [Nat.zero_add]; exact hx, hbt⟩
      have h2 : Ytfmhlogapbpnbaa.Rows.uptoBulk y.1 ≤ Ytfmhlogapbpnbaa.Rows.uptoBulkAll (elems.map (·.1)) := bulk_part (List.mem_map.2 ⟨y, List.mem_of_getElem? q1, rfl⟩)
      simp only [Ytfmhlogapbpnbaa.Rows.uptoBulk] at hb
      have := hbt.1
      omega
    · intro j hj pc off l c e hp
      rw [Nat.zero_add] at hp
      obtain ⟨_, lb, _, hlb⟩ := hget j hj
      obtain ⟨y, u, q1, q2, q3, q4, pc', off', l', c', e', he', hf', ho, _⟩ := hR j _ lb hp hlb
      cases he'
      exact ho
    · have hparts : PartsAt ps 0 len pl := by
        refine ⟨hpl, ?_, fun j lb hj => ?_⟩
        · have h1 := bulk_slice (elems.map (·.1)) (rest.map (·.1))
          simp only [List.length_map] at h1
          omega
        · have hj' : j < len := by have := (List.getElem?_eq_some_iff.1 hj).1; omega
          obtain ⟨x, _, hx, _⟩ := hget j hj'
          obtain ⟨y, u, q1, q2, q3, q4, pc, off, l, c, e, rfl, hf', ho, hbt, hbk⟩ := hR j x lb hx hj
          refine ⟨?_, pc, off, l, c, e, by rw [Nat.zero_add]; exact hx, hbt⟩
          have h2 : Ytfmhlogapbpnbaa.Rows.uptoBulk y.1 ≤ Ytfmhlogapbpnbaa.Rows.uptoBulkAll (elems.map (·.1)) := bulk_part (List.mem_map.2 ⟨y, List.mem_of_getElem? q1, rfl⟩)
          simp only [Ytfmhlogapbpnbaa.Rows.uptoBulk] at hb
          have := hbt.1
          omega
      have hpe : partsL ps 0 len = pl := hparts.parts
      rw [hpe]
      have h3 := sum_bulk pl (elems.map (·.1)) (by simp [hpl, hlen]) fun i lb d h1 h2 => by
        have hi' : i < len := by have := (List.getElem?_eq_some_iff.1 h1).1; omega
        obtain ⟨x, _, hx, _⟩ := hget i hi'
        obtain ⟨y, u, q1, q2, q3, q4, pc, off, l, c, e, rfl, hf', ho, hbt, hbk⟩ := hR i x lb hx h1
        rw [List.getElem?_map, q1] at h2
        obtain rfl : y.1 = d := Option.some.inj h2
        have := hbt.1
        omega
      simp only [Ytfmhlogapbpnbaa.Rows.uptoBulk] at hb
      omega

end Go.Proofs.Vm

namespace Go.Proofs.Vm

def headCh : List Char := [.ofNat 104, .ofNat 97, .ofNat 114, .ofNat 110, .ofNat 101, .ofNat 115, .ofNat 115, .ofNat 32, .ofNat 100, .ofNat 54, .ofNat 52, .ofNat 53, .ofNat 48, .ofNat 50, .ofNat 49, .ofNat 51, .ofNat 48, .ofNat 98, .ofNat 53, .ofNat 98, .ofNat 101, .ofNat 48, .ofNat 48, .ofNat 99, .ofNat 98, .ofNat 48, .ofNat 100, .ofNat 97, .ofNat 57, .ofNat 49, .ofNat 98, .ofNat 102, .ofNat 56, .ofNat 55, .ofNat 97, .ofNat 52, .ofNat 102, .ofNat 48, .ofNat 102, .ofNat 100, .ofNat 51, .ofNat 99, .ofNat 56, .ofNat 102, .ofNat 49, .ofNat 52, .ofNat 102, .ofNat 101, .ofNat 98, .ofNat 50, .ofNat 53, .ofNat 53, .ofNat 99, .ofNat 97, .ofNat 51, .ofNat 57, .ofNat 55, .ofNat 54, .ofNat 57, .ofNat 54, .ofNat 50, .ofNat 55, .ofNat 51, .ofNat 50, .ofNat 102, .ofNat 100, .ofNat 99, .ofNat 56, .ofNat 54, .ofNat 56, .ofNat 100, .ofNat 97, .ofNat 32, .ofNat 99, .ofNat 117, .ofNat 116, .ofNat 32, .ofNat 97, .ofNat 116, .ofNat 32, .ofNat 116, .ofNat 111, .ofNat 108, .ofNat 108, .ofNat 104, .ofNat 111, .ofNat 117, .ofNat 115, .ofNat 101, .ofNat 47, .ofNat 116, .ofNat 111, .ofNat 108, .ofNat 108, .ofNat 104, .ofNat 111, .ofNat 117, .ofNat 115, .ofNat 101, .ofNat 108, .ofNat 97, .ofNat 119, .ofNat 48, .ofNat 51, .ofNat 46, .ofNat 75, .ofNat 101, .ofNat 99, .ofNat 99, .ofNat 97, .ofNat 107, .ofNat 83, .ofNat 117, .ofNat 109, .ofNat 115, .ofNat 32, .ofNat 116, .ofNat 111, .ofNat 108, .ofNat 108, .ofNat 104, .ofNat 111, .ofNat 117, .ofNat 115, .ofNat 101, .ofNat 47, .ofNat 116, .ofNat 111, .ofNat 108, .ofNat 108, .ofNat 104, .ofNat 111, .ofNat 117, .ofNat 115, .ofNat 101, .ofNat 108, .ofNat 97, .ofNat 119, .ofNat 48, .ofNat 51, .ofNat 46, .ofNat 75, .ofNat 101, .ofNat 99, .ofNat 99, .ofNat 97, .ofNat 107, .ofNat 83, .ofNat 116, .ofNat 114, .ofNat 101, .ofNat 97, .ofNat 109, .ofNat 115, .ofNat 32, .ofNat 116, .ofNat 111, .ofNat 108, .ofNat 108, .ofNat 104, .ofNat 111, .ofNat 117, .ofNat 115, .ofNat 101, .ofNat 47, .ofNat 116, .ofNat 111, .ofNat 108, .ofNat 108, .ofNat 104, .ofNat 111, .ofNat 117, .ofNat 115, .ofNat 101, .ofNat 108, .ofNat 97, .ofNat 119, .ofNat 48, .ofNat 51, .ofNat 46, .ofNat 75, .ofNat 101, .ofNat 99, .ofNat 99, .ofNat 97, .ofNat 107, .ofNat 76, .ofNat 101, .ofNat 110, .ofNat 103, .ofNat 116, .ofNat 104, .ofNat 115, .ofNat 32, .ofNat 116, .ofNat 111, .ofNat 108, .ofNat 108, .ofNat 104, .ofNat 111, .ofNat 117, .ofNat 115, .ofNat 101, .ofNat 47, .ofNat 116, .ofNat 111, .ofNat 108, .ofNat 108, .ofNat 104, .ofNat 111, .ofNat 117, .ofNat 115, .ofNat 101, .ofNat 108, .ofNat 97, .ofNat 119, .ofNat 48, .ofNat 51, .ofNat 46, .ofNat 75, .ofNat 101, .ofNat 99, .ofNat 99, .ofNat 97, .ofNat 107, .ofNat 80, .ofNat 105, .ofNat 101, .ofNat 99, .ofNat 101, .ofNat 115, .ofNat 32, .ofNat 116, .ofNat 111, .ofNat 108, .ofNat 108, .ofNat 104, .ofNat 111, .ofNat 117, .ofNat 115, .ofNat 101, .ofNat 47, .ofNat 116, .ofNat 111, .ofNat 108, .ofNat 108, .ofNat 104, .ofNat 111, .ofNat 117, .ofNat 115, .ofNat 101, .ofNat 108, .ofNat 97, .ofNat 119, .ofNat 48, .ofNat 51, .ofNat 46, .ofNat 75, .ofNat 101, .ofNat 99, .ofNat 99, .ofNat 97, .ofNat 107, .ofNat 80, .ofNat 97, .ofNat 114, .ofNat 116, .ofNat 115, .ofNat 32, .ofNat 116, .ofNat 111, .ofNat 108, .ofNat 108, .ofNat 104, .ofNat 111, .ofNat 117, .ofNat 115, .ofNat 101, .ofNat 47, .ofNat 116, .ofNat 111, .ofNat 108, .ofNat 108, .ofNat 104, .ofNat 111, .ofNat 117, .ofNat 115, .ofNat 101, .ofNat 108, .ofNat 97, .ofNat 119, .ofNat 48, .ofNat 51, .ofNat 46, .ofNat 75, .ofNat 101, .ofNat 99, .ofNat 99, .ofNat 97, .ofNat 107, .ofNat 82, .ofNat 111, .ofNat 117, .ofNat 110, .ofNat 100, .ofNat 115, .ofNat 32, .ofNat 116, .ofNat 111, .ofNat 108, .ofNat 108, .ofNat 104, .ofNat 111, .ofNat 117, .ofNat 115, .ofNat 101, .ofNat 47, .ofNat 116, .ofNat 111, .ofNat 108, .ofNat 108, .ofNat 104, .ofNat 111, .ofNat 117, .ofNat 115, .ofNat 101, .ofNat 108, .ofNat 97, .ofNat 119, .ofNat 48, .ofNat 51, .ofNat 46, .ofNat 75, .ofNat 101, .ofNat 99, .ofNat 99, .ofNat 97, .ofNat 107, .ofNat 84, .ofNat 117, .ofNat 114, .ofNat 110, .ofNat 115, .ofNat 32, .ofNat 116, .ofNat 111, .ofNat 108, .ofNat 108, .ofNat 104, .ofNat 111, .ofNat 117, .ofNat 115, .ofNat 101, .ofNat 47, .ofNat 116, .ofNat 111, .ofNat 108, .ofNat 108, .ofNat 104, .ofNat 111, .ofNat 117, .ofNat 115, .ofNat 101, .ofNat 108, .ofNat 97, .ofNat 119, .ofNat 48, .ofNat 52, .ofNat 46, .ofNat 77, .ofNat 97, .ofNat 99, .ofNat 77, .ofNat 97, .ofNat 115, .ofNat 107, .ofNat 115, .ofNat 32, .ofNat 116, .ofNat 111, .ofNat 108, .ofNat 108, .ofNat 104, .ofNat 111, .ofNat 117, .ofNat 115, .ofNat 101, .ofNat 47, .ofNat 116, .ofNat 111, .ofNat 108, .ofNat 108, .ofNat 104, .ofNat 111, .ofNat 117, .ofNat 115, .ofNat 101, .ofNat 108, .ofNat 97, .ofNat 119, .ofNat 48, .ofNat 52, .ofNat 46, .ofNat 77, .ofNat 97, .ofNat 99, .ofNat 80, .ofNat 97, .ofNat 114, .ofNat 116, .ofNat 115, .ofNat 32, .ofNat 116, .ofNat 111, .ofNat 108, .ofNat 108, .ofNat 104, .ofNat 111, .ofNat 117, .ofNat 115, .ofNat 101, .ofNat 47, .ofNat 116, .ofNat 111, .ofNat 108, .ofNat 108, .ofNat 104, .ofNat 111, .ofNat 117, .ofNat 115, .ofNat 101, .ofNat 108, .ofNat 97, .ofNat 119, .ofNat 48, .ofNat 52, .ofNat 46, .ofNat 77, .ofNat 97, .ofNat 99, .ofNat 77, .ofNat 97, .ofNat 115, .ofNat 107, .ofNat 69, .ofNat 97, .ofNat 99, .ofNat 104, .ofNat 32, .ofNat 116, .ofNat 111, .ofNat 108, .ofNat 108, .ofNat 104, .ofNat 111, .ofNat 117, .ofNat 115, .ofNat 101, .ofNat 47, .ofNat 116, .ofNat 111, .ofNat 108, .ofNat 108, .ofNat 104, .ofNat 111, .ofNat 117, .ofNat 115, .ofNat 101, .ofNat 108, .ofNat 97, .ofNat 119, .ofNat 48, .ofNat 52, .ofNat 46, .ofNat 77, .ofNat 97, .ofNat 99, .ofNat 84, .ofNat 97, .ofNat 103, .ofNat 115, .ofNat 32, .ofNat 116, .ofNat 111, .ofNat 108, .ofNat 108, .ofNat 104, .ofNat 111, .ofNat 117, .ofNat 115, .ofNat 101, .ofNat 47, .ofNat 116, .ofNat 111, .ofNat 108, .ofNat 108, .ofNat 104, .ofNat 111, .ofNat 117, .ofNat 115, .ofNat 101, .ofNat 108, .ofNat 97, .ofNat 119, .ofNat 48, .ofNat 52, .ofNat 46, .ofNat 77, .ofNat 97, .ofNat 99, .ofNat 69, .ofNat 113, .ofNat 117, .ofNat 97, .ofNat 108, .ofNat 32, .ofNat 116, .ofNat 111, .ofNat 108, .ofNat 108, .ofNat 104, .ofNat 111, .ofNat 117, .ofNat 115, .ofNat 101, .ofNat 47, .ofNat 116, .ofNat 111, .ofNat 108, .ofNat 108, .ofNat 104, .ofNat 111, .ofNat 117, .ofNat 115, .ofNat 101, .ofNat 108, .ofNat 97, .ofNat 119, .ofNat 48, .ofNat 52, .ofNat 46, .ofNat 77, .ofNat 97, .ofNat 99, .ofNat 66, .ofNat 121, .ofNat 116, .ofNat 101, .ofNat 115, .ofNat 32, .ofNat 116, .ofNat 111, .ofNat 108, .ofNat 108, .ofNat 104, .ofNat 111, .ofNat 117, .ofNat 115, .ofNat 101, .ofNat 47, .ofNat 116, .ofNat 111, .ofNat 108, .ofNat 108, .ofNat 104, .ofNat 111, .ofNat 117, .ofNat 115, .ofNat 101, .ofNat 108, .ofNat 97, .ofNat 119, .ofNat 48, .ofNat 56, .ofNat 46, .ofNat 83, .ofNat 104, .ofNat 97, .ofNat 114, .ofNat 101, .ofNat 83, .ofNat 112, .ofNat 108, .ofNat 105, .ofNat 116, .ofNat 115, .ofNat 32, .ofNat 116, .ofNat 111, .ofNat 108, .ofNat 108, .ofNat 104, .ofNat 111, .ofNat 117, .ofNat 115, .ofNat 101, .ofNat 47, .ofNat 116, .ofNat 111, .ofNat 108, .ofNat 108, .ofNat 104, .ofNat 111, .ofNat 117, .ofNat 115, .ofNat 101, .ofNat 108, .ofNat 97, .ofNat 119, .ofNat 48, .ofNat 56, .ofNat 46, .ofNat 83, .ofNat 104, .ofNat 97, .ofNat 114, .ofNat 101, .ofNat 76, .ofNat 97, .ofNat 119, .ofNat 115, .ofNat 32, .ofNat 116, .ofNat 111, .ofNat 108, .ofNat 108, .ofNat 104, .ofNat 111, .ofNat 117, .ofNat 115, .ofNat 101, .ofNat 47, .ofNat 116, .ofNat 111, .ofNat 108, .ofNat 108, .ofNat 104, .ofNat 111, .ofNat 117, .ofNat 115, .ofNat 101, .ofNat 108, .ofNat 97, .ofNat 119, .ofNat 48, .ofNat 56, .ofNat 46, .ofNat 83, .ofNat 104, .ofNat 97, .ofNat 114, .ofNat 101, .ofNat 80, .ofNat 97, .ofNat 114, .ofNat 116, .ofNat 115, .ofNat 32, .ofNat 116, .ofNat 111, .ofNat 108, .ofNat 108, .ofNat 104, .ofNat 111, .ofNat 117, .ofNat 115, .ofNat 101, .ofNat 47, .ofNat 116, .ofNat 111, .ofNat 108, .ofNat 108, .ofNat 104, .ofNat 111, .ofNat 117, .ofNat 115, .ofNat 101, .ofNat 108, .ofNat 97, .ofNat 119, .ofNat 48, .ofNat 56, .ofNat 46, .ofNat 83, .ofNat 104, .ofNat 97, .ofNat 114, .ofNat 101, .ofNat 83, .ofNat 101, .ofNat 116, .ofNat 115, .ofNat 32, .ofNat 116, .ofNat 111, .ofNat 108, .ofNat 108, .ofNat 104, .ofNat 111, .ofNat 117, .ofNat 115, .ofNat 101, .ofNat 47, .ofNat 116, .ofNat 111, .ofNat 108, .ofNat 108, .ofNat 104, .ofNat 111, .ofNat 117, .ofNat 115, .ofNat 101, .ofNat 108, .ofNat 97, .ofNat 119, .ofNat 48, .ofNat 55, .ofNat 46, .ofNat 79, .ofNat 110, .ofNat 105, .ofNat 111, .ofNat 110, .ofNat 66, .ofNat 117, .ofNat 105, .ofNat 108, .ofNat 100, .ofNat 115, .ofNat 32, .ofNat 116, .ofNat 111, .ofNat 108, .ofNat 108, .ofNat 104, .ofNat 111, .ofNat 117, .ofNat 115, .ofNat 101, .ofNat 47, .ofNat 116, .ofNat 111, .ofNat 108, .ofNat 108, .ofNat 104, .ofNat 111, .ofNat 117, .ofNat 115, .ofNat 101, .ofNat 108, .ofNat 97, .ofNat 119, .ofNat 48, .ofNat 55, .ofNat 46, .ofNat 79, .ofNat 110, .ofNat 105, .ofNat 111, .ofNat 110, .ofNat 84, .ofNat 117, .ofNat 114, .ofNat 110, .ofNat 101, .ofNat 100, .ofNat 32, .ofNat 116, .ofNat 111, .ofNat 108, .ofNat 108, .ofNat 104, .ofNat 111, .ofNat 117, .ofNat 115, .ofNat 101, .ofNat 47, .ofNat 116, .ofNat 111, .ofNat 108, .ofNat 108, .ofNat 104, .ofNat 111, .ofNat 117, .ofNat 115, .ofNat 101, .ofNat 108, .ofNat 97, .ofNat 119, .ofNat 48, .ofNat 55, .ofNat 46, .ofNat 79, .ofNat 110, .ofNat 105, .ofNat 111, .ofNat 110, .ofNat 83, .ofNat 105, .ofNat 122, .ofNat 101, .ofNat 115, .ofNat 32, .ofNat 116, .ofNat 111, .ofNat 108, .ofNat 108, .ofNat 104, .ofNat 111, .ofNat 117, .ofNat 115, .ofNat 101, .ofNat 47, .ofNat 116, .ofNat 111, .ofNat 108, .ofNat 108, .ofNat 104, .ofNat 111, .ofNat 117, .ofNat 115, .ofNat 101, .ofNat 108, .ofNat 97, .ofNat 119, .ofNat 48, .ofNat 55, .ofNat 46, .ofNat 79, .ofNat 110, .ofNat 105, .ofNat 111, .ofNat 110, .ofNat 87, .ofNat 97, .ofNat 121, .ofNat 115]
theorem head_lit : Try.prog.initOrder = String.ofList headCh := by kernel_rfl
theorem head_list : Try.prog.initOrder.toList = headCh := by rw [head_lit]; exact String.toList_ofList
theorem head_behind : ∃ rest, behindMainWord (wordsSigns Try.prog.initOrder.toList) = "cut".toList :: rest :=
  ⟨(behindMainWord (wordsSigns headCh)).tail, by rw [head_list]; kernel_rfl⟩
theorem strip_cut (rest : List (List Char)) : stripLifts liftWords ("cut".toList :: rest) = ([], "cut".toList :: rest) := by kernel_rfl
theorem make_of {P : Program} {rest : List (List Char)} (h : behindMainWord (wordsSigns P.initOrder.toList) = "cut".toList :: rest) : P.make = some .cut := by
  unfold Program.make
  rw [h]
  have e1 : ("cut".toList == "gc".toList || "cut".toList == "spec".toList) = false := by kernel_rfl
  have e2 : ("cut".toList == "cut".toList) = true := by kernel_rfl
  simp only [e1, e2, Bool.true_or, if_true]
  rfl
theorem mayEnter_of {P : Program} {rest : List (List Char)} (h : behindMainWord (wordsSigns P.initOrder.toList) = "cut".toList :: rest) (h1 : P.laysLater = false) (h2 : P.bearsReflect = false) (h3 : P.doorFits [] = true) : P.mayEnter = true := by
  unfold Program.mayEnter
  rw [h]
  simp only [strip_cut, h1, h2, h3]
  have e2 : (List.head? ("cut".toList :: rest) == some "cut".toList) = true := by kernel_rfl
  simp only [e2]
  simp
theorem liftsFinal_of {P : Program} {rest : List (List Char)} (h : behindMainWord (wordsSigns P.initOrder.toList) = "cut".toList :: rest) : P.liftsFinal = false := by
  unfold Program.liftsFinal Program.headLifts
  rw [h]
  simp only [strip_cut]
  have e2 : (List.head? ("cut".toList :: rest) == some "cut".toList) = true := by kernel_rfl
  have e3 : (List.head? ("cut".toList :: rest) == some "carried".toList) = false := by kernel_rfl
  simp only [e2, e3]
  simp
theorem f_laysLater : Try.prog.laysLater = false := by kernel_rfl
theorem f_bearsReflect : Try.prog.bearsReflect = false := by kernel_rfl
theorem f_doorFits : Try.prog.doorFits [] = true := by kernel_rfl
theorem f_mayEnter : Try.prog.mayEnter = true := head_behind.elim fun _ h => mayEnter_of h f_laysLater f_bearsReflect f_doorFits
theorem f_liftsFinal : Try.prog.liftsFinal = false := head_behind.elim fun _ h => liftsFinal_of h
theorem f_make : Try.prog.make = some .cut := head_behind.elim fun _ h => make_of h
theorem lifted_of {P : Program} {b : Bool} (h : P.liftsFinal = false) (hb : b = false) : (b == P.liftsFinal) = true := by rw [h, hb]; rfl
theorem made_of {P : Program} {m : Make} (h : P.make = some .cut) (hm : m = .cut) : (P.make == some m) = true := by rw [h, hm]; rfl
theorem f_laid : laidOutB Try.prog = true := by kernel_rfl
theorem f_rowed : mapsRowed Try.prog = true := by kernel_rfl
theorem f_plain : Try.prog.plainKeys = true := by kernel_rfl

end Go.Proofs.Vm

namespace Go.Proofs.Vm
open Go.Vm
noncomputable section
/-- What the loops come to (kept apart). -/
structure XF where
  rows : List AV → Nat → Nat → List AV
def copyA (p : AV) : AV := .ros ((partA p).map by8) 0 (partA p).length (partA p).length false
def xf0 : XF := ⟨fun ps o n => ((ps.drop o).take n).map copyA⟩
def P12 (pa : List AV) (oa la N : Nat) (xs os zs : List AV) : Prop := la ≤ N ∧ la < 1099511627776 ∧ ∃ (al xl tl : List UInt8), BytesAt pa oa la al ∧ xl.length = la ∧ os = (xorL xl al).map by8 ∧ xs = (xorL xl al ++ tl).map by8 ∧ zs = xl.map by8
def lp12 : VC := (.seq (.seq (.reg .false [] [⟨(.some 60), .none, .mov, [(.t 10)]⟩, ⟨(.some 61), .none, .mov, [(.t 1)]⟩, ⟨(.some 62), .none, .len, [(.t 61)]⟩, ⟨(.some 63), .none, (.cmp .lss), [(.t 60), (.t 62)]⟩]) (.cond (.t 63) .skip (.exit 0))) (.seq (.block 1 (.seq (.reg .true [0, 0, 3, 7, 0, 0, 48, 112, 255, 511, 1023, 1023, 4095, 8191, 1023, 1023, 50175, 115711, 1023, 1023, 787455, 1836031, 4178943, 8388607, 16777215] [⟨(.some 66), .none, .mov, [(.t 8)]⟩, ⟨(.some 67), .none, .mov, [(.t 10)]⟩, ⟨(.some 68), .none, (.ixS 1), [(.t 66), (.t 67)]⟩, ⟨(.some 69), .none, (.ld1 (.int .u8)), [(.t 68)]⟩, ⟨(.some 70), .none, .mov, [(.t 7)]⟩, ⟨(.some 71), .none, .mov, [(.t 10)]⟩, ⟨(.some 72), .none, (.ixS 1), [(.t 70), (.t 71)]⟩, ⟨(.some 73), .none, (.ld1 (.int .u8)), [(.t 72)]⟩, ⟨(.some 74), .none, (.cmp .neq), [(.t 69), (.t 73)]⟩, ⟨(.some 75), .none, .mov, [(.t 74)]⟩, ⟨(.some 76), (.some ⟨75, .false⟩), .mov, [(.t 8)]⟩, ⟨(.some 77), (.some ⟨75, .false⟩), .mov, [(.t 10)]⟩, ⟨(.some 78), (.some ⟨75, .false⟩), (.ixS 1), [(.t 76), (.t 77)]⟩, ⟨(.some 79), (.some ⟨75, .false⟩), (.ld1 (.int .u8)), [(.t 78)]⟩, ⟨(.some 80), (.some ⟨75, .false⟩), .mov, [(.t 9)]⟩, ⟨(.some 81), (.some ⟨75, .false⟩), .mov, [(.t 10)]⟩, ⟨(.some 82), (.some ⟨75, .false⟩), (.ixS 1), [(.t 80), (.t 81)]⟩, ⟨(.some 83), (.some ⟨75, .false⟩), (.ld1 (.int .u8)), [(.t 82)]⟩, ⟨(.some 84), (.some ⟨75, .false⟩), .mov, [(.t 1)]⟩, ⟨(.some 85), (.some ⟨75, .false⟩), .mov, [(.t 10)]⟩, ⟨(.some 86), (.some ⟨75, .false⟩), (.ixS 1), [(.t 84), (.t 85)]⟩, ⟨(.some 87), (.some ⟨75, .false⟩), (.ld1 (.int .u8)), [(.t 86)]⟩, ⟨(.some 88), (.some ⟨75, .false⟩), (.bin .xor .u8), [(.t 83), (.t 87)]⟩, ⟨(.some 89), (.some ⟨75, .false⟩), (.cmp .neq), [(.t 79), (.t 88)]⟩, ⟨(.some 90), .none, .pick, [(.t 75), (.c (.bool .true)), (.t 89)]⟩]) (.cond (.t 90) (.seq (.reg .false [] [⟨(.some 6), .none, .mov, [(.c (.bool .false))]⟩]) .ret) .skip))) (.reg .false [] [⟨(.some 64), .none, .mov, [(.t 10)]⟩, ⟨(.some 65), .none, (.bin .add .i64), [(.t 64), (.c (.int .i64 (.ofNat 1)))]⟩, ⟨(.some 10), .none, .mov, [(.t 65)]⟩])))
def fr12 (pa : List AV) (oa la ca : Nat) (ea : Bool) (N i : Nat) : Fr := [.top, .ros pa oa la ca ea, .top, .ptr 0 0, .top, .top, .bool false, .slc 3 0 N N 1, .slc 4 0 la la 1, .slc 6 0 la la 1, .int .i64 (Int.ofNat i), .top, .top, .top, .top, .top, .top, .top, .top, .top, .top, .top, .top, .top, .top, .top, .top, .top, .top, .top, .top, .top, .top, .top, .top, .top, .top, .top, .top, .top, .top, .top, .top, .top, .top, .top, .top, .top, .top, .top, .top, .top, .top, .top, .top, .top, .top, .top, .top, .top, .top, .top, .top, .top, .top, .top, .top, .top, .top, .top, .top, .top, .top, .top, .top, .top, .top, .top, .top, .top, .top, .top, .top, .top, .top, .top, .top, .top, .top, .top, .top]
def mk12 : List Bool := [true, false, true, false, true, true, false, false, false, false, false, true, true, true, true, true, true, true, true, true, true, true, true, true, true, true, true, true, true, true, true, true, true, true, true, true, true, true, true, true, true, true, true, true, true, true, true, true, true, true, true, true, true, true, true, true, true, true, true, true, true, true, true, true, true, true, true, true, true, true, true, true, true, true, true, true, true, true, true, true, true, true, true, true, true, true, true, true, true, true, true]
def fr12n (pa : List AV) (oa ca : Nat) (ea : Bool) : Fr := [.top, .ros pa oa 0 ca ea, .top, .top, .top, .top, .top, .top, .top, .top, .int .i64 (Int.ofNat 0), .top, .top, .top, .top, .top, .top, .top, .top, .top, .top, .top, .top, .top, .top, .top, .top, .top, .top, .top, .top, .top, .top, .top, .top, .top, .top, .top, .top, .top, .top, .top, .top, .top, .top, .top, .top, .top, .top, .top, .top, .top, .top, .top, .top, .top, .top, .top, .top, .top, .top, .top, .top, .top, .top, .top, .top, .top, .top, .top, .top, .top, .top, .top, .top, .top, .top, .top, .top, .top, .top, .top, .top, .top, .top, .top, .top, .top, .top, .top, .top]
def mk12n : List Bool := [true, false, true, true, true, true, true, true, true, true, false, true, true, true, true, true, true, true, true, true, true, true, true, true, true, true, true, true, true, true, true, true, true, true, true, true, true, true, true, true, true, true, true, true, true, true, true, true, true, true, true, true, true, true, true, true, true, true, true, true, true, true, true, true, true, true, true, true, true, true, true, true, true, true, true, true, true, true, true, true, true, true, true, true, true, true, true, true, true, true, true]
def ln12 : LnF := fun n0 b fr H => match slot fr 1, slot fr 7, slot fr 8, H with
  | .ros pa oa la ca ea, .slc 3 0 N _ 1, .slc 4 0 _ _ 1, [.cells ks, .dead, .cells cs, .cells xs, .cells os, .cells z, .cells zs] => some (n0 = 0 ∧ VCis b lp12 ∧ forget mk12 fr = fr12 pa oa la ca ea N 0 ∧ P12 pa oa la N xs os zs,
      .ok (.exit 0) (fr12 pa oa la ca ea N la) [.cells ks, .dead, .cells cs, .cells xs, .cells os, .cells z, .cells zs])
  | .ros pa oa la ca ea, _, .nils, H => some (n0 = 0 ∧ VCis b lp12 ∧ forget mk12n fr = fr12n pa oa ca ea ∧ la = 0, .ok (.exit 0) (fr12n pa oa ca ea) H)
  | _, _, _, _ => none
def P13a (ps : List AV) (o n : Nat) : Prop := PTag ps o n
def lp13a : VC := (.seq (.seq (.reg .false [] [⟨(.some 12), .none, .mov, [(.t 10)]⟩, ⟨(.some 13), .none, .mov, [(.t 2)]⟩, ⟨(.some 14), .none, .len, [(.t 13)]⟩, ⟨(.some 15), .none, (.cmp .lss), [(.t 12), (.t 14)]⟩]) (.cond (.t 15) .skip (.exit 0))) (.seq (.block 1 (.reg .false [] [⟨(.some 18), .none, .mov, [(.t 9)]⟩, ⟨(.some 19), .none, (.mks [] 0 []), []⟩, ⟨(.some 20), .none, .mov, [(.t 2)]⟩, ⟨(.some 21), .none, .mov, [(.t 10)]⟩, ⟨(.some 22), .none, (.ixS 1), [(.t 20), (.t 21)]⟩, ⟨(.some 23), .none, (.ld1 .slc), [(.t 22)]⟩, ⟨(.some 24), .none, (.app 1 1), [(.t 19), (.t 23)]⟩, ⟨(.some 25), .none, (.mks [.nils] 1 [⟨0, 1⟩]), [(.t 24)]⟩, ⟨(.some 26), .none, (.app 1 24), [(.t 18), (.t 25)]⟩, ⟨(.some 9), .none, .mov, [(.t 26)]⟩])) (.reg .false [] [⟨(.some 16), .none, .mov, [(.t 10)]⟩, ⟨(.some 17), .none, (.bin .add .i64), [(.t 16), (.c (.int .i64 (.ofNat 1)))]⟩, ⟨(.some 10), .none, .mov, [(.t 17)]⟩])))
def fr13a (x9 : AV) (l : List UInt8) (ps : List AV) (o n c : Nat) (e : Bool) (m : Int) (i : Nat) : Fr := [.top, .str l, .ros ps o n c e, .int .u64 m, .ptr 0 0, .top, .top, .top, .bool false, x9, .int .i64 (Int.ofNat i), .top, .top, .top, .top, .top, .top, .top, .top, .top, .top, .top, .top, .top, .top, .top, .top, .top, .top, .top, .top, .top, .top, .top, .top, .top, .top, .top, .top, .top, .top, .top, .top, .top, .top, .top, .top, .top, .top, .top, .top, .top, .top, .top, .top, .top, .top, .top, .top, .top, .top, .top, .top, .top, .top, .top, .top, .top, .top, .top, .top, .top, .top, .top, .top, .top, .top]
def mk13a : List Bool := [true, false, false, false, false, true, true, true, false, false, false, true, true, true, true, true, true, true, true, true, true, true, true, true, true, true, true, true, true, true, true, true, true, true, true, true, true, true, true, true, true, true, true, true, true, true, true, true, true, true, true, true, true, true, true, true, true, true, true, true, true, true, true, true, true, true, true, true, true, true, true, true, true, true, true, true, true]
def lp13b : VC := (.seq (.seq (.reg .false [] [⟨(.some 60), .none, .mov, [(.t 11)]⟩, ⟨(.some 61), .none, .mov, [(.t 2)]⟩, ⟨(.some 62), .none, .len, [(.t 61)]⟩, ⟨(.some 63), .none, (.cmp .lss), [(.t 60), (.t 62)]⟩]) (.cond (.t 63) .skip (.exit 2))) (.seq (.block 3 (.seq (.reg .true [0, 0, 3, 7, 15, 0, 0, 96, 224, 480, 1023] [⟨(.some 66), .none, .mov, [(.t 9)]⟩, ⟨(.some 67), .none, .mov, [(.t 11)]⟩, ⟨(.some 68), .none, (.ixS 1), [(.t 66), (.t 67)]⟩, ⟨(.some 69), .none, (.ld1 .slc), [(.t 68)]⟩, ⟨(.some 70), .none, .b2s, [(.t 69)]⟩, ⟨(.some 71), .none, .mov, [(.t 2)]⟩, ⟨(.some 72), .none, .mov, [(.t 11)]⟩, ⟨(.some 73), .none, (.ixS 1), [(.t 71), (.t 72)]⟩, ⟨(.some 74), .none, (.ld1 .slc), [(.t 73)]⟩, ⟨(.some 75), .none, .b2s, [(.t 74)]⟩, ⟨(.some 76), .none, (.scmp .true), [(.t 70), (.t 75)]⟩]) (.cond (.t 76) (.seq (.reg .false [] [⟨(.some 8), .none, .mov, [(.c (.bool .false))]⟩]) .ret) .skip))) (.reg .false [] [⟨(.some 64), .none, .mov, [(.t 11)]⟩, ⟨(.some 65), .none, (.bin .add .i64), [(.t 64), (.c (.int .i64 (.ofNat 1)))]⟩, ⟨(.some 11), .none, .mov, [(.t 65)]⟩])))
def fr13b (rs : List AV) (n : Nat) (x2 : AV) (i : Nat) : Fr := [.top, .top, x2, .top, .top, .top, .top, .top, .top, .ros rs 0 n n false, .top, .int .i64 (Int.ofNat i), .top, .top, .top, .top, .top, .top, .top, .top, .top, .top, .top, .top, .top, .top, .top, .top, .top, .top, .top, .top, .top, .top, .top, .top, .top, .top, .top, .top, .top, .top, .top, .top, .top, .top, .top, .top, .top, .top, .top, .top, .top, .top, .top, .top, .top, .top, .top, .top, .top, .top, .top, .top, .top, .top, .top, .top, .top, .top, .top, .top, .top, .top, .top, .top, .top]
def mk13b : List Bool := [true, true, false, true, true, true, true, true, true, false, true, false, true, true, true, true, true, true, true, true, true, true, true, true, true, true, true, true, true, true, true, true, true, true, true, true, true, true, true, true, true, true, true, true, true, true, true, true, true, true, true, true, true, true, true, true, true, true, true, true, true, true, true, true, true, true, true, true, true, true, true, true, true, true, true, true, true]
def P13b (rs ps : List AV) (o n : Nat) : Prop := n < 1099511627776 ∧ ∀ j, j < n → ∃ lb pc off len cap ex qc off' cap' ex', rs[0 + j]? = some (.ros qc off' len cap' ex') ∧ BytesAt qc off' len lb ∧ off' + len ≤ qc.length ∧ ps[o + j]? = some (.ros pc off len cap ex) ∧ BytesAt pc off len lb ∧ off + len ≤ pc.length
def ln13 (F : XF) : LnF := fun n0 b fr H => match slot fr 11, slot fr 1, slot fr 2, slot fr 3, slot fr 9, H with
  | .tup [], .str l, .ros ps o n c e, .int .u64 m, .nils, [.cells ks] => some (n0 = 0 ∧ VCis b lp13a ∧ forget mk13a fr = fr13a .nils l ps o n c e m 0 ∧ flatL ks ∧ P13a ps o n,
      .ok (.exit 0) (fr13a (.ros (F.rows ps o n) 0 n n false) l ps o n c e m n) [.cells ks])
  | .int _ _, _, .ros ps o n c e, _,   .ros rs 0 _ _ _, [.cells y1, .cells y2, .cells y3] => some (n0 = 0 ∧ VCis b lp13b ∧ forget mk13b fr = fr13b rs n (.ros ps o n c e) 0 ∧ P13b rs ps o n,
      .ok (.exit 2) (fr13b rs n (.ros ps o n c e) n) [.cells y1, .cells y2, .cells y3])
  | _, _, _, _, _, _ => none

theorem vc15 (S : HF) (ks : List AV) (l : List UInt8) (n : Int) (Q : AV → Prop) :
  (vcall (vcA kdYes (cnL4 S) noLn) ops0 (tabOne 15 vf15) 300 vf15 [.agg ks, .str l, .int .u64 n] [] (fun r _ _ => Q r)) =
 ((((Int.ofNat 0) ≤ n) ∧
 (∃ n1 : Int, ((Nth (MF.bytes (NF.toMF (NG.toNF (HF.toNG S))) n) 7 (AV.int IntKind.u8 n1)) ∧
 (∃ n2 : Int, ((Nth (MF.bytes (NF.toMF (NG.toNF (HF.toNG S))) n) 6 (AV.int IntKind.u8 n2)) ∧
 (∃ n3 : Int, ((Nth (MF.bytes (NF.toMF (NG.toNF (HF.toNG S))) n) 5 (AV.int IntKind.u8 n3)) ∧
 (∃ n4 : Int, ((Nth (MF.bytes (NF.toMF (NG.toNF (HF.toNG S))) n) 4 (AV.int IntKind.u8 n4)) ∧
 (∃ n5 : Int, ((Nth (MF.bytes (NF.toMF (NG.toNF (HF.toNG S))) n) 3 (AV.int IntKind.u8 n5)) ∧
 (∃ n6 : Int, ((Nth (MF.bytes (NF.toMF (NG.toNF (HF.toNG S))) n) 2 (AV.int IntKind.u8 n6)) ∧
 (∃ n7 : Int, ((Nth (MF.bytes (NF.toMF (NG.toNF (HF.toNG S))) n) 1 (AV.int IntKind.u8 n7)) ∧
 (∃ n8 : Int, ((Nth (MF.bytes (NF.toMF (NG.toNF (HF.toNG S))) n) 0 (AV.int IntKind.u8 n8)) ∧
 (True ∧
 (Br (ops0.cmp BinOp.eql (ops0.bin BinOp.or IntKind.u64 (ops0.shf BinOp.shl IntKind.u64 (ops0.bin BinOp.or IntKind.u64 (ops0.shf BinOp.shl IntKind.u64 (ops0.bin BinOp.or IntKind.u64 (ops0.shf BinOp.shl IntKind.u64 (ops0.bin BinOp.or IntKind.u64 (ops0.shf BinOp.shl IntKind.u64 (ops0.bin BinOp.or IntKind.u64 (ops0.shf BinOp.shl IntKind.u64 (ops0.bin BinOp.or IntKind.u64 (ops0.shf BinOp.shl IntKind.u64 (ops0.bin BinOp.or IntKind.u64 (ops0.shf BinOp.shl IntKind.u64 (ops0.bin BinOp.or IntKind.u64 (Int.ofNat 0) (ops0.cvt IntKind.u64 n1)) (Int.ofNat 8)) (ops0.cvt IntKind.u64 n2)) (Int.ofNat 8)) (ops0.cvt IntKind.u64 n3)) (Int.ofNat 8)) (ops0.cvt IntKind.u64 n4)) (Int.ofNat 8)) (ops0.cvt IntKind.u64 n5)) (Int.ofNat 8)) (ops0.cvt IntKind.u64 n6)) (Int.ofNat 8)) (ops0.cvt IntKind.u64 n7)) (Int.ofNat 8)) (ops0.cvt IntKind.u64 n8)) n)
 (Chk (ops0.le 32 (ops0.len ks))
 (((PKey (ops0.ext ks 0 32)) ∧
 ((Int.ofNat 0) ≤ n)) ∧
 (Chk (ops0.le 32 (ops0.len ks))
 (((PKey (ops0.ext ks 0 32)) ∧
 (PTag [(AV.ros (MF.bytes (NF.toMF (NG.toNF (HF.toNG S))) n) 0 8 8 Bool.false)] 0 1)) ∧
 (Chk (ops0.eq (ops0.len (HF.drv S (ops0.ext ks 0 32) l n)) 32)
 (Chk (ops0.eq (ops0.len (GF.tag (NG.toGF (HF.toNG S)) (ops0.ext ks 0 32) l [(partA (AV.ros (MF.bytes (NF.toMF (NG.toNF (HF.toNG S))) n) 0 8 8 Bool.false))])) 32)
 (Chk (ops0.le 32 (ops0.len (HF.drv S (ops0.ext ks 0 32) l n)))
 (Chk (ops0.le 32 (ops0.len (GF.tag (NG.toGF (HF.toNG S)) (ops0.ext ks 0 32) l [(partA (AV.ros (MF.bytes (NF.toMF (NG.toNF (HF.toNG S))) n) 0 8 8 Bool.false))])))
 (∃ l1 : (List Int), ((((ops0.ext (HF.drv S (ops0.ext ks 0 32) l n) 0 32) : (List AV)) = (List.map (AV.int IntKind.u8) l1)) ∧
 (∃ l2 : (List Int), ((((ops0.ext (GF.tag (NG.toGF (HF.toNG S)) (ops0.ext ks 0 32) l [(partA (AV.ros (MF.bytes (NF.toMF (NG.toNF (HF.toNG S))) n) 0 8 8 Bool.false))]) 0 32) : (List AV)) = (List.map (AV.int IntKind.u8) l2)) ∧
 (Br (ops0.eqi l1 l2)
 (Q (AV.bool Bool.true))
 (Q (AV.bool Bool.false)))))))))))))))
 (Q (AV.bool Bool.false)))))))))))))))))))))) := by kernel_rfl

theorem vcl12 (ks cs xs os z zs pa : List AV) (oa la ca : Nat) (ea : Bool) (N i : Nat) (Q : Ex → Fr → Hl → Prop) :
  (vm (vcA kdYes noCn noLn) ops0 noTab 100 0 lp12 (fr12 pa oa la ca ea N i) [.cells ks, .dead, .cells cs, .cells xs, .cells os, .cells z, .cells zs] [] (bodyX mk12 Q)) =
 ((Br (ops0.cmp BinOp.lss (Int.ofNat i) (ops0.ofn la))
 (Chk (ops0.inr (Int.ofNat i) la)
 (∃ n : Int, ((Nth os (ops0.adr 0 (Int.ofNat i) 1) (AV.int IntKind.u8 n)) ∧
 (Chk (ops0.inr (Int.ofNat i) N)
 (∃ n1 : Int, ((Nth xs (ops0.adr 0 (Int.ofNat i) 1) (AV.int IntKind.u8 n1)) ∧
 (Br (ops0.cmp BinOp.neq n n1)
 (Q Ex.ret [AV.top, (AV.ros pa oa la ca ea), AV.top, (AV.ptr 0 0), AV.top, AV.top, (AV.bool Bool.false), (AV.slc 3 0 N N 1), (AV.slc 4 0 la la 1), (AV.slc 6 0 la la 1), (AV.int IntKind.i64 (Int.ofNat i)), AV.top, AV.top, AV.top, AV.top, AV.top, AV.top, AV.top, AV.top, AV.top, AV.top, AV.top, AV.top, AV.top, AV.top, AV.top, AV.top, AV.top, AV.top, AV.top, AV.top, AV.top, AV.top, AV.top, AV.top, AV.top, AV.top, AV.top, AV.top, AV.top, AV.top, AV.top, AV.top, AV.top, AV.top, AV.top, AV.top, AV.top, AV.top, AV.top, AV.top, AV.top, AV.top, AV.top, AV.top, AV.top, AV.top, AV.top, AV.top, AV.top, AV.top, AV.top, AV.top, AV.top, AV.top, AV.top, AV.top, AV.top, AV.top, AV.top, AV.top, AV.top, AV.top, AV.top, AV.top, AV.top, AV.top, AV.top, AV.top, AV.top, AV.top, AV.top, AV.top, AV.top, AV.top, AV.top, AV.top, AV.top, AV.top, AV.top, AV.top] [(Blk.cells ks), Blk.dead, (Blk.cells cs), (Blk.cells xs), (Blk.cells os), (Blk.cells z), (Blk.cells zs)])
 (Chk (ops0.inr (Int.ofNat i) la)
 (∃ n2 : Int, ((Nth os (ops0.adr 0 (Int.ofNat i) 1) (AV.int IntKind.u8 n2)) ∧
 (Chk (ops0.inr (Int.ofNat i) la)
 (∃ n3 : Int, ((Nth zs (ops0.adr 0 (Int.ofNat i) 1) (AV.int IntKind.u8 n3)) ∧
 (Chk (ops0.inr (Int.ofNat i) la)
 (∃ n4 : Int, ((Nth pa (ops0.adr oa (Int.ofNat i) 1) (AV.int IntKind.u8 n4)) ∧
 (Br (ops0.cmp BinOp.neq n2 (ops0.bin BinOp.xor IntKind.u8 n3 n4))
 (Q Ex.ret [AV.top, (AV.ros pa oa la ca ea), AV.top, (AV.ptr 0 0), AV.top, AV.top, (AV.bool Bool.false), (AV.slc 3 0 N N 1), (AV.slc 4 0 la la 1), (AV.slc 6 0 la la 1), (AV.int IntKind.i64 (Int.ofNat i)), AV.top, AV.top, AV.top, AV.top, AV.top, AV.top, AV.top, AV.top, AV.top, AV.top, AV.top, AV.top, AV.top, AV.top, AV.top, AV.top, AV.top, AV.top, AV.top, AV.top, AV.top, AV.top, AV.top, AV.top, AV.top, AV.top, AV.top, AV.top, AV.top, AV.top, AV.top, AV.top, AV.top, AV.top, AV.top, AV.top, AV.top, AV.top, AV.top, AV.top, AV.top, AV.top, AV.top, AV.top, AV.top, AV.top, AV.top, AV.top, AV.top, AV.top, AV.top, AV.top, AV.top, AV.top, AV.top, AV.top, AV.top, AV.top, AV.top, AV.top, AV.top, AV.top, AV.top, AV.top, AV.top, AV.top, AV.top, AV.top, AV.top, AV.top, AV.top, AV.top, AV.top, AV.top, AV.top, AV.top, AV.top, AV.top, AV.top, AV.top] [(Blk.cells ks), Blk.dead, (Blk.cells cs), (Blk.cells xs), (Blk.cells os), (Blk.cells z), (Blk.cells zs)])
 (Q Ex.norm [AV.top, (AV.ros pa oa la ca ea), AV.top, (AV.ptr 0 0), AV.top, AV.top, (AV.bool Bool.false), (AV.slc 3 0 N N 1), (AV.slc 4 0 la la 1), (AV.slc 6 0 la la 1), (AV.int IntKind.i64 (ops0.bin BinOp.add IntKind.i64 (Int.ofNat i) (Int.ofNat 1))), AV.top, AV.top, AV.top, AV.top, AV.top, AV.top, AV.top, AV.top, AV.top, AV.top, AV.top, AV.top, AV.top, AV.top, AV.top, AV.top, AV.top, AV.top, AV.top, AV.top, AV.top, AV.top, AV.top, AV.top, AV.top, AV.top, AV.top, AV.top, AV.top, AV.top, AV.top, AV.top, AV.top, AV.top, AV.top, AV.top, AV.top, AV.top, AV.top, AV.top, AV.top, AV.top, AV.top, AV.top, AV.top, AV.top, AV.top, AV.top, AV.top, AV.top, AV.top, AV.top, AV.top, AV.top, AV.top, AV.top, AV.top, AV.top, AV.top, AV.top, AV.top, AV.top, AV.top, AV.top, AV.top, AV.top, AV.top, AV.top, AV.top, AV.top, AV.top, AV.top, AV.top, AV.top, AV.top, AV.top, AV.top, AV.top, AV.top, AV.top] [(Blk.cells ks), Blk.dead, (Blk.cells cs), (Blk.cells xs), (Blk.cells os), (Blk.cells z), (Blk.cells zs)]))))))))))))))))))
 (Q (Ex.exit 0) [AV.top, (AV.ros pa oa la ca ea), AV.top, (AV.ptr 0 0), AV.top, AV.top, (AV.bool Bool.false), (AV.slc 3 0 N N 1), (AV.slc 4 0 la la 1), (AV.slc 6 0 la la 1), (AV.int IntKind.i64 (Int.ofNat i)), AV.top, AV.top, AV.top, AV.top, AV.top, AV.top, AV.top, AV.top, AV.top, AV.top, AV.top, AV.top, AV.top, AV.top, AV.top, AV.top, AV.top, AV.top, AV.top, AV.top, AV.top, AV.top, AV.top, AV.top, AV.top, AV.top, AV.top, AV.top, AV.top, AV.top, AV.top, AV.top, AV.top, AV.top, AV.top, AV.top, AV.top, AV.top, AV.top, AV.top, AV.top, AV.top, AV.top, AV.top, AV.top, AV.top, AV.top, AV.top, AV.top, AV.top, AV.top, AV.top, AV.top, AV.top, AV.top, AV.top, AV.top, AV.top, AV.top, AV.top, AV.top, AV.top, AV.top, AV.top, AV.top, AV.top, AV.top, AV.top, AV.top, AV.top, AV.top, AV.top, AV.top, AV.top, AV.top, AV.top, AV.top, AV.top, AV.top, AV.top] [(Blk.cells ks), Blk.dead, (Blk.cells cs), (Blk.cells xs), (Blk.cells os), (Blk.cells z), (Blk.cells zs)]))) := by kernel_rfl

theorem vcl12n (H : Hl) (pa : List AV) (oa ca : Nat) (ea : Bool) (Q : Ex → Fr → Hl → Prop) :
  (vm (vcA kdYes noCn noLn) ops0 noTab 100 0 lp12 (fr12n pa oa ca ea) H [] (bodyX mk12n Q)) =
 ((Q (Ex.exit 0) [AV.top, (AV.ros pa oa 0 ca ea), AV.top, AV.top, AV.top, AV.top, AV.top, AV.top, AV.top, AV.top, (AV.int IntKind.i64 (Int.ofNat 0)), AV.top, AV.top, AV.top, AV.top, AV.top, AV.top, AV.top, AV.top, AV.top, AV.top, AV.top, AV.top, AV.top, AV.top, AV.top, AV.top, AV.top, AV.top, AV.top, AV.top, AV.top, AV.top, AV.top, AV.top, AV.top, AV.top, AV.top, AV.top, AV.top, AV.top, AV.top, AV.top, AV.top, AV.top, AV.top, AV.top, AV.top, AV.top, AV.top, AV.top, AV.top, AV.top, AV.top, AV.top, AV.top, AV.top, AV.top, AV.top, AV.top, AV.top, AV.top, AV.top, AV.top, AV.top, AV.top, AV.top, AV.top, AV.top, AV.top, AV.top, AV.top, AV.top, AV.top, AV.top, AV.top, AV.top, AV.top, AV.top, AV.top, AV.top, AV.top, AV.top, AV.top, AV.top, AV.top, AV.top, AV.top, AV.top, AV.top, AV.top] H)) := by kernel_rfl

theorem vc12 (S : HF) (ks pa pb : List AV) (oa la ca : Nat) (ea : Bool) (ob lb cb : Nat) (eb : Bool) (Q : AV → Prop) :
  (vcall (vcA kdYes (cnL4 S) ln12) ops0 (tabOne 12 vf12) 300 vf12 [.agg ks, .ros pa oa la ca ea, .ros pb ob lb cb eb] [] (fun r _ _ => Q r)) =
 ((Br (ops0.cmp BinOp.gtr (ops0.ofn la) (Int.ofNat 60000))
 (Q (AV.bool Bool.true))
 (Br (ops0.cmp BinOp.gtr (ops0.ofn lb) (Int.ofNat 5000))
 (Q (AV.bool Bool.true))
 (Chk (ops0.le 32 (ops0.len ks))
 (Chk (ops0.le (ops0.add oa (ops0.mul la 1)) (ops0.len pa))
 (Chk (ops0.room 0 la 1)
 (Chk (ops0.le (ops0.add 0 (ops0.mul la 1)) (ops0.len (ops0.ext pa oa (ops0.mul la 1))))
 (Chk (ops0.le (ops0.add ob (ops0.mul lb 1)) (ops0.len pb))
 (Chk (ops0.room la lb 1)
 (((PKey (ops0.ext ks 0 32)) ∧
 (PB (ops0.app (ops0.ext (ops0.ext pa oa (ops0.mul la 1)) 0 (ops0.mul la 1)) (ops0.ext pb ob (ops0.mul lb 1))) 0 (ops0.add la lb))) ∧
 (Br (inM [109] (ops0.add la lb))
 (Chk (ops0.le 32 (ops0.len ks))
 (((PKey (ops0.ext ks 0 32)) ∧
 (PB pa oa la)) ∧
 (Br (inM [109] la)
 (Chk (ops0.le 32 (ops0.len ks))
 (Chk (ops0.mkr (ops0.ofn la) (ops0.ofn la) 1)
 (((PKey (ops0.ext ks 0 32)) ∧
 (PB (ops0.rep la [(AV.int IntKind.u8 (Int.ofNat 0))]) 0 la)) ∧
 (Br (inM [109] la)
 (True ∧
 (Br (ops0.cmp BinOp.neq (ops0.ofn (ops0.add la lb)) (ops0.bin BinOp.add IntKind.i64 (ops0.ofn la) (ops0.ofn lb)))
 (Q (AV.bool Bool.false))
 (Br (ops0.cmp BinOp.neq (ops0.ofn la) (ops0.ofn la))
 (Q (AV.bool Bool.false))
 (Br (ops0.cmp BinOp.neq (ops0.ofn la) (ops0.ofn la))
 (Q (AV.bool Bool.false))
 ((((0 : Nat) = 0) ∧
 ((VCis lp12 lp12) ∧
 ((([AV.top, (AV.ros pa oa la ca ea), AV.top, (AV.ptr 0 0), AV.top, AV.top, (AV.bool Bool.false), (AV.slc 3 0 (ops0.add la lb) (ops0.add la lb) 1), (AV.slc 4 0 la la 1), (AV.slc 6 0 la la 1), (AV.int IntKind.i64 (Int.ofNat 0)), AV.top, AV.top, AV.top, AV.top, AV.top, AV.top, AV.top, AV.top, AV.top, AV.top, AV.top, AV.top, AV.top, AV.top, AV.top, AV.top, AV.top, AV.top, AV.top, AV.top, AV.top, AV.top, AV.top, AV.top, AV.top, AV.top, AV.top, AV.top, AV.top, AV.top, AV.top, AV.top, AV.top, AV.top, AV.top, AV.top, AV.top, AV.top, AV.top, AV.top, AV.top, AV.top, AV.top, AV.top, AV.top, AV.top, AV.top, AV.top, AV.top, AV.top, AV.top, AV.top, AV.top, AV.top, AV.top, AV.top, AV.top, AV.top, AV.top, AV.top, AV.top, AV.top, AV.top, AV.top, AV.top, AV.top, AV.top, AV.top, AV.top, AV.top, AV.top, AV.top, AV.top, AV.top, AV.top, AV.top, AV.top, AV.top, AV.top, AV.top] : Fr) = [AV.top, (AV.ros pa oa la ca ea), AV.top, (AV.ptr 0 0), AV.top, AV.top, (AV.bool Bool.false), (AV.slc 3 0 (ops0.add la lb) (ops0.add la lb) 1), (AV.slc 4 0 la la 1), (AV.slc 6 0 la la 1), (AV.int IntKind.i64 (Int.ofNat 0)), AV.top, AV.top, AV.top, AV.top, AV.top, AV.top, AV.top, AV.top, AV.top, AV.top, AV.top, AV.top, AV.top, AV.top, AV.top, AV.top, AV.top, AV.top, AV.top, AV.top, AV.top, AV.top, AV.top, AV.top, AV.top, AV.top, AV.top, AV.top, AV.top, AV.top, AV.top, AV.top, AV.top, AV.top, AV.top, AV.top, AV.top, AV.top, AV.top, AV.top, AV.top, AV.top, AV.top, AV.top, AV.top, AV.top, AV.top, AV.top, AV.top, AV.top, AV.top, AV.top, AV.top, AV.top, AV.top, AV.top, AV.top, AV.top, AV.top, AV.top, AV.top, AV.top, AV.top, AV.top, AV.top, AV.top, AV.top, AV.top, AV.top, AV.top, AV.top, AV.top, AV.top, AV.top, AV.top, AV.top, AV.top, AV.top, AV.top, AV.top]) ∧
 (P12 pa oa la (ops0.add la lb) (HF.mask S (ops0.ext ks 0 32) [109] (rdB (ops0.app (ops0.ext (ops0.ext pa oa (ops0.mul la 1)) 0 (ops0.mul la 1)) (ops0.ext pb ob (ops0.mul lb 1))) 0 (ops0.add la lb))) (HF.mask S (ops0.ext ks 0 32) [109] (rdB pa oa la)) (HF.mask S (ops0.ext ks 0 32) [109] (rdB (ops0.rep la [(AV.int IntKind.u8 (Int.ofNat 0))]) 0 la)))))) ∧
 (Q (AV.bool Bool.true)))))))
 (True ∧
 (Br (ops0.cmp BinOp.neq (ops0.ofn (ops0.add la lb)) (ops0.bin BinOp.add IntKind.i64 (ops0.ofn la) (ops0.ofn lb)))
 (Q (AV.bool Bool.false))
 (Br (ops0.cmp BinOp.neq (ops0.ofn la) (ops0.ofn la))
 (Q (AV.bool Bool.false))
 (Br (ops0.cmp BinOp.neq (Int.ofNat 0) (ops0.ofn la))
 (Q (AV.bool Bool.false))
 (Br (ops0.cmp BinOp.lss (Int.ofNat 0) (ops0.ofn la))
 (Chk (ops0.inr (Int.ofNat 0) la)
 (∃ n : Int, ((Nth (HF.mask S (ops0.ext ks 0 32) [109] (rdB pa oa la)) 0 (AV.int IntKind.u8 n)) ∧
 (Chk (ops0.inr (Int.ofNat 0) (ops0.add la lb))
 (∃ n1 : Int, ((Nth (HF.mask S (ops0.ext ks 0 32) [109] (rdB (ops0.app (ops0.ext (ops0.ext pa oa (ops0.mul la 1)) 0 (ops0.mul la 1)) (ops0.ext pb ob (ops0.mul lb 1))) 0 (ops0.add la lb))) 0 (AV.int IntKind.u8 n1)) ∧
 (Br (ops0.cmp BinOp.neq n n1)
 (Q (AV.bool Bool.false))
 (Chk (ops0.inr (Int.ofNat 0) la)
 (∃ n2 : Int, ((Nth (HF.mask S (ops0.ext ks 0 32) [109] (rdB pa oa la)) 0 (AV.int IntKind.u8 n2)) ∧
 False))))))))))
 (Q (AV.bool Bool.true)))))))))))
 (Chk (ops0.le 32 (ops0.len ks))
 (Chk (ops0.mkr (ops0.ofn la) (ops0.ofn la) 1)
 (((PKey (ops0.ext ks 0 32)) ∧
 (PB (ops0.rep la [(AV.int IntKind.u8 (Int.ofNat 0))]) 0 la)) ∧
 (Br (inM [109] la)
 (True ∧
 (Br (ops0.cmp BinOp.neq (ops0.ofn (ops0.add la lb)) (ops0.bin BinOp.add IntKind.i64 (ops0.ofn la) (ops0.ofn lb)))
 (Q (AV.bool Bool.false))
 (Br (ops0.cmp BinOp.neq (Int.ofNat 0) (ops0.ofn la))
 (Q (AV.bool Bool.false))
 (Br (ops0.cmp BinOp.neq (ops0.ofn la) (ops0.ofn la))
 (Q (AV.bool Bool.false))
 ((((0 : Nat) = 0) ∧
 ((VCis lp12 lp12) ∧
 ((([AV.top, (AV.ros pa oa la ca ea), AV.top, AV.top, AV.top, AV.top, AV.top, AV.top, AV.top, AV.top, (AV.int IntKind.i64 (Int.ofNat 0)), AV.top, AV.top, AV.top, AV.top, AV.top, AV.top, AV.top, AV.top, AV.top, AV.top, AV.top, AV.top, AV.top, AV.top, AV.top, AV.top, AV.top, AV.top, AV.top, AV.top, AV.top, AV.top, AV.top, AV.top, AV.top, AV.top, AV.top, AV.top, AV.top, AV.top, AV.top, AV.top, AV.top, AV.top, AV.top, AV.top, AV.top, AV.top, AV.top, AV.top, AV.top, AV.top, AV.top, AV.top, AV.top, AV.top, AV.top, AV.top, AV.top, AV.top, AV.top, AV.top, AV.top, AV.top, AV.top, AV.top, AV.top, AV.top, AV.top, AV.top, AV.top, AV.top, AV.top, AV.top, AV.top, AV.top, AV.top, AV.top, AV.top, AV.top, AV.top, AV.top, AV.top, AV.top, AV.top, AV.top, AV.top, AV.top, AV.top, AV.top] : Fr) = [AV.top, (AV.ros pa oa 0 ca ea), AV.top, AV.top, AV.top, AV.top, AV.top, AV.top, AV.top, AV.top, (AV.int IntKind.i64 (Int.ofNat 0)), AV.top, AV.top, AV.top, AV.top, AV.top, AV.top, AV.top, AV.top, AV.top, AV.top, AV.top, AV.top, AV.top, AV.top, AV.top, AV.top, AV.top, AV.top, AV.top, AV.top, AV.top, AV.top, AV.top, AV.top, AV.top, AV.top, AV.top, AV.top, AV.top, AV.top, AV.top, AV.top, AV.top, AV.top, AV.top, AV.top, AV.top, AV.top, AV.top, AV.top, AV.top, AV.top, AV.top, AV.top, AV.top, AV.top, AV.top, AV.top, AV.top, AV.top, AV.top, AV.top, AV.top, AV.top, AV.top, AV.top, AV.top, AV.top, AV.top, AV.top, AV.top, AV.top, AV.top, AV.top, AV.top, AV.top, AV.top, AV.top, AV.top, AV.top, AV.top, AV.top, AV.top, AV.top, AV.top, AV.top, AV.top, AV.top, AV.top, AV.top]) ∧
 ((la : Nat) = 0)))) ∧
 (Q (AV.bool Bool.true)))))))
 (True ∧
 (Br (ops0.cmp BinOp.neq (ops0.ofn (ops0.add la lb)) (ops0.bin BinOp.add IntKind.i64 (ops0.ofn la) (ops0.ofn lb)))
 (Q (AV.bool Bool.false))
 (Br (ops0.cmp BinOp.neq (Int.ofNat 0) (ops0.ofn la))
 (Q (AV.bool Bool.false))
 (Br (ops0.cmp BinOp.neq (Int.ofNat 0) (ops0.ofn la))
 (Q (AV.bool Bool.false))
 ((((0 : Nat) = 0) ∧
 ((VCis lp12 lp12) ∧
 ((([AV.top, (AV.ros pa oa la ca ea), AV.top, AV.top, AV.top, AV.top, AV.top, AV.top, AV.top, AV.top, (AV.int IntKind.i64 (Int.ofNat 0)), AV.top, AV.top, AV.top, AV.top, AV.top, AV.top, AV.top, AV.top, AV.top, AV.top, AV.top, AV.top, AV.top, AV.top, AV.top, AV.top, AV.top, AV.top, AV.top, AV.top, AV.top, AV.top, AV.top, AV.top, AV.top, AV.top, AV.top, AV.top, AV.top, AV.top, AV.top, AV.top, AV.top, AV.top, AV.top, AV.top, AV.top, AV.top, AV.top, AV.top, AV.top, AV.top, AV.top, AV.top, AV.top, AV.top, AV.top, AV.top, AV.top, AV.top, AV.top, AV.top, AV.top, AV.top, AV.top, AV.top, AV.top, AV.top, AV.top, AV.top, AV.top, AV.top, AV.top, AV.top, AV.top, AV.top, AV.top, AV.top, AV.top, AV.top, AV.top, AV.top, AV.top, AV.top, AV.top, AV.top, AV.top, AV.top, AV.top, AV.top] : Fr) = [AV.top, (AV.ros pa oa 0 ca ea), AV.top, AV.top, AV.top, AV.top, AV.top, AV.top, AV.top, AV.top, (AV.int IntKind.i64 (Int.ofNat 0)), AV.top, AV.top, AV.top, AV.top, AV.top, AV.top, AV.top, AV.top, AV.top, AV.top, AV.top, AV.top, AV.top, AV.top, AV.top, AV.top, AV.top, AV.top, AV.top, AV.top, AV.top, AV.top, AV.top, AV.top, AV.top, AV.top, AV.top, AV.top, AV.top, AV.top, AV.top, AV.top, AV.top, AV.top, AV.top, AV.top, AV.top, AV.top, AV.top, AV.top, AV.top, AV.top, AV.top, AV.top, AV.top, AV.top, AV.top, AV.top, AV.top, AV.top, AV.top, AV.top, AV.top, AV.top, AV.top, AV.top, AV.top, AV.top, AV.top, AV.top, AV.top, AV.top, AV.top, AV.top, AV.top, AV.top, AV.top, AV.top, AV.top, AV.top, AV.top, AV.top, AV.top, AV.top, AV.top, AV.top, AV.top, AV.top, AV.top, AV.top]) ∧
 ((la : Nat) = 0)))) ∧
 (Q (AV.bool Bool.true))))))))))))))
 (Chk (ops0.le 32 (ops0.len ks))
 (((PKey (ops0.ext ks 0 32)) ∧
 (PB pa oa la)) ∧
 (Br (inM [109] la)
 (Chk (ops0.le 32 (ops0.len ks))
 (Chk (ops0.mkr (ops0.ofn la) (ops0.ofn la) 1)
 (((PKey (ops0.ext ks 0 32)) ∧
 (PB (ops0.rep la [(AV.int IntKind.u8 (Int.ofNat 0))]) 0 la)) ∧
 (Br (inM [109] la)
 (True ∧
 (Br (ops0.cmp BinOp.neq (Int.ofNat 0) (ops0.bin BinOp.add IntKind.i64 (ops0.ofn la) (ops0.ofn lb)))
 (Q (AV.bool Bool.false))
 (Br (ops0.cmp BinOp.neq (ops0.ofn la) (ops0.ofn la))
 (Q (AV.bool Bool.false))
 (Br (ops0.cmp BinOp.neq (ops0.ofn la) (ops0.ofn la))
 (Q (AV.bool Bool.false))
 (Br (ops0.cmp BinOp.lss (Int.ofNat 0) (ops0.ofn la))
 (Chk (ops0.inr (Int.ofNat 0) la)
 (∃ n : Int, ((Nth (HF.mask S (ops0.ext ks 0 32) [109] (rdB pa oa la)) 0 (AV.int IntKind.u8 n)) ∧
 False)))
 (Q (AV.bool Bool.true)))))))
 (True ∧
 (Br (ops0.cmp BinOp.neq (Int.ofNat 0) (ops0.bin BinOp.add IntKind.i64 (ops0.ofn la) (ops0.ofn lb)))
 (Q (AV.bool Bool.false))
 (Br (ops0.cmp BinOp.neq (ops0.ofn la) (ops0.ofn la))
 (Q (AV.bool Bool.false))
 (Br (ops0.cmp BinOp.neq (Int.ofNat 0) (ops0.ofn la))
 (Q (AV.bool Bool.false))
 (Br (ops0.cmp BinOp.lss (Int.ofNat 0) (ops0.ofn la))
 (Chk (ops0.inr (Int.ofNat 0) la)
 (∃ n : Int, ((Nth (HF.mask S (ops0.ext ks 0 32) [109] (rdB pa oa la)) 0 (AV.int IntKind.u8 n)) ∧
 False)))
 (Q (AV.bool Bool.true)))))))))))
 (Chk (ops0.le 32 (ops0.len ks))
 (Chk (ops0.mkr (ops0.ofn la) (ops0.ofn la) 1)
 (((PKey (ops0.ext ks 0 32)) ∧
 (PB (ops0.rep la [(AV.int IntKind.u8 (Int.ofNat 0))]) 0 la)) ∧
 (Br (inM [109] la)
 (True ∧
 (Br (ops0.cmp BinOp.neq (Int.ofNat 0) (ops0.bin BinOp.add IntKind.i64 (ops0.ofn la) (ops0.ofn lb)))
 (Q (AV.bool Bool.false))
 (Br (ops0.cmp BinOp.neq (Int.ofNat 0) (ops0.ofn la))
 (Q (AV.bool Bool.false))
 (Br (ops0.cmp BinOp.neq (ops0.ofn la) (ops0.ofn la))
 (Q (AV.bool Bool.false))
 ((((0 : Nat) = 0) ∧
 ((VCis lp12 lp12) ∧
 ((([AV.top, (AV.ros pa oa la ca ea), AV.top, AV.top, AV.top, AV.top, AV.top, AV.top, AV.top, AV.top, (AV.int IntKind.i64 (Int.ofNat 0)), AV.top, AV.top, AV.top, AV.top, AV.top, AV.top, AV.top, AV.top, AV.top, AV.top, AV.top, AV.top, AV.top, AV.top, AV.top, AV.top, AV.top, AV.top, AV.top, AV.top, AV.top, AV.top, AV.top, AV.top, AV.top, AV.top, AV.top, AV.top, AV.top, AV.top, AV.top, AV.top, AV.top, AV.top, AV.top, AV.top, AV.top, AV.top, AV.top, AV.top, AV.top, AV.top, AV.top, AV.top, AV.top, AV.top, AV.top, AV.top, AV.top, AV.top, AV.top, AV.top, AV.top, AV.top, AV.top, AV.top, AV.top, AV.top, AV.top, AV.top, AV.top, AV.top, AV.top, AV.top, AV.top, AV.top, AV.top, AV.top, AV.top, AV.top, AV.top, AV.top, AV.top, AV.top, AV.top, AV.top, AV.top, AV.top, AV.top, AV.top] : Fr) = [AV.top, (AV.ros pa oa 0 ca ea), AV.top, AV.top, AV.top, AV.top, AV.top, AV.top, AV.top, AV.top, (AV.int IntKind.i64 (Int.ofNat 0)), AV.top, AV.top, AV.top, AV.top, AV.top, AV.top, AV.top, AV.top, AV.top, AV.top, AV.top, AV.top, AV.top, AV.top, AV.top, AV.top, AV.top, AV.top, AV.top, AV.top, AV.top, AV.top, AV.top, AV.top, AV.top, AV.top, AV.top, AV.top, AV.top, AV.top, AV.top, AV.top, AV.top, AV.top, AV.top, AV.top, AV.top, AV.top, AV.top, AV.top, AV.top, AV.top, AV.top, AV.top, AV.top, AV.top, AV.top, AV.top, AV.top, AV.top, AV.top, AV.top, AV.top, AV.top, AV.top, AV.top, AV.top, AV.top, AV.top, AV.top, AV.top, AV.top, AV.top, AV.top, AV.top, AV.top, AV.top, AV.top, AV.top, AV.top, AV.top, AV.top, AV.top, AV.top, AV.top, AV.top, AV.top, AV.top, AV.top, AV.top]) ∧
 ((la : Nat) = 0)))) ∧
 (Q (AV.bool Bool.true)))))))
 (True ∧
 (Br (ops0.cmp BinOp.neq (Int.ofNat 0) (ops0.bin BinOp.add IntKind.i64 (ops0.ofn la) (ops0.ofn lb)))
 (Q (AV.bool Bool.false))
 (Br (ops0.cmp BinOp.neq (Int.ofNat 0) (ops0.ofn la))
 (Q (AV.bool Bool.false))
 (Br (ops0.cmp BinOp.neq (Int.ofNat 0) (ops0.ofn la))
 (Q (AV.bool Bool.false))
 ((((0 : Nat) = 0) ∧
 ((VCis lp12 lp12) ∧
 ((([AV.top, (AV.ros pa oa la ca ea), AV.top, AV.top, AV.top, AV.top, AV.top, AV.top, AV.top, AV.top, (AV.int IntKind.i64 (Int.ofNat 0)), AV.top, AV.top, AV.top, AV.top, AV.top, AV.top, AV.top, AV.top, AV.top, AV.top, AV.top, AV.top, AV.top, AV.top, AV.top, AV.top, AV.top, AV.top, AV.top, AV.top, AV.top, AV.top, AV.top, AV.top, AV.top, AV.top, AV.top, AV.top, AV.top, AV.top, AV.top, AV.top, AV.top, AV.top, AV.top, AV.top, AV.top, AV.top, AV.top, AV.top, AV.top, AV.top, AV.top, AV.top, AV.top, AV.top, AV.top, AV.top, AV.top, AV.top, AV.top, AV.top, AV.top, AV.top, AV.top, AV.top, AV.top, AV.top, AV.top, AV.top, AV.top, AV.top, AV.top, AV.top, AV.top, AV.top, AV.top, AV.top, AV.top, AV.top, AV.top, AV.top, AV.top, AV.top, AV.top, AV.top, AV.top, AV.top, AV.top, AV.top] : Fr) = [AV.top, (AV.ros pa oa 0 ca ea), AV.top, AV.top, AV.top, AV.top, AV.top, AV.top, AV.top, AV.top, (AV.int IntKind.i64 (Int.ofNat 0)), AV.top, AV.top, AV.top, AV.top, AV.top, AV.top, AV.top, AV.top, AV.top, AV.top, AV.top, AV.top, AV.top, AV.top, AV.top, AV.top, AV.top, AV.top, AV.top, AV.top, AV.top, AV.top, AV.top, AV.top, AV.top, AV.top, AV.top, AV.top, AV.top, AV.top, AV.top, AV.top, AV.top, AV.top, AV.top, AV.top, AV.top, AV.top, AV.top, AV.top, AV.top, AV.top, AV.top, AV.top, AV.top, AV.top, AV.top, AV.top, AV.top, AV.top, AV.top, AV.top, AV.top, AV.top, AV.top, AV.top, AV.top, AV.top, AV.top, AV.top, AV.top, AV.top, AV.top, AV.top, AV.top, AV.top, AV.top, AV.top, AV.top, AV.top, AV.top, AV.top, AV.top, AV.top, AV.top, AV.top, AV.top, AV.top, AV.top, AV.top]) ∧
 ((la : Nat) = 0)))) ∧
 (Q (AV.bool Bool.true))))))))))))))))))))))))) := by kernel_rfl

theorem vcl13a (ks ps : List AV) (l : List UInt8) (o n c : Nat) (e : Bool) (m : Int) (i : Nat) (Q : Ex → Fr → Hl → Prop) :
  (vm (vcA kdYes noCn noLn) ops0 noTab 100 0 lp13a (fr13a .nils l ps o n c e m i) [.cells ks] [] (bodyX mk13a Q)) =
 ((Br (ops0.cmp BinOp.lss (Int.ofNat i) (ops0.ofn n))
 (Chk (ops0.inr (Int.ofNat i) n)
 (∃ ds : (List AV), (∃ off : Nat, (∃ len : Nat, (∃ cap : Nat, (∃ e1 : Bool, ((Nth ps (ops0.adr o (Int.ofNat i) 1) (AV.ros ds off len cap e1)) ∧
 (Chk (ops0.le (ops0.add off (ops0.mul len 1)) (ops0.len ds))
 (Chk (ops0.room 0 len 1)
 (Q Ex.norm [AV.top, (AV.str l), (AV.ros ps o n c e), (AV.int IntKind.u64 m), (AV.ptr 0 0), AV.top, AV.top, AV.top, (AV.bool Bool.false), (AV.slc 2 0 1 1 1), (AV.int IntKind.i64 (ops0.bin BinOp.add IntKind.i64 (Int.ofNat i) (Int.ofNat 1))), AV.top, AV.top, AV.top, AV.top, AV.top, AV.top, AV.top, AV.top, AV.top, AV.top, AV.top, AV.top, AV.top, AV.top, AV.top, AV.top, AV.top, AV.top, AV.top, AV.top, AV.top, AV.top, AV.top, AV.top, AV.top, AV.top, AV.top, AV.top, AV.top, AV.top, AV.top, AV.top, AV.top, AV.top, AV.top, AV.top, AV.top, AV.top, AV.top, AV.top, AV.top, AV.top, AV.top, AV.top, AV.top, AV.top, AV.top, AV.top, AV.top, AV.top, AV.top, AV.top, AV.top, AV.top, AV.top, AV.top, AV.top, AV.top, AV.top, AV.top, AV.top, AV.top, AV.top, AV.top, AV.top, AV.top] [(Blk.cells ks), (Blk.cells (ops0.ext ds off (ops0.mul len 1))), (Blk.cells [(AV.slc 1 0 len len 1)])]))))))))))
 (Q (Ex.exit 0) [AV.top, (AV.str l), (AV.ros ps o n c e), (AV.int IntKind.u64 m), (AV.ptr 0 0), AV.top, AV.top, AV.top, (AV.bool Bool.false), AV.nils, (AV.int IntKind.i64 (Int.ofNat i)), AV.top, AV.top, AV.top, AV.top, AV.top, AV.top, AV.top, AV.top, AV.top, AV.top, AV.top, AV.top, AV.top, AV.top, AV.top, AV.top, AV.top, AV.top, AV.top, AV.top, AV.top, AV.top, AV.top, AV.top, AV.top, AV.top, AV.top, AV.top, AV.top, AV.top, AV.top, AV.top, AV.top, AV.top, AV.top, AV.top, AV.top, AV.top, AV.top, AV.top, AV.top, AV.top, AV.top, AV.top, AV.top, AV.top, AV.top, AV.top, AV.top, AV.top, AV.top, AV.top, AV.top, AV.top, AV.top, AV.top, AV.top, AV.top, AV.top, AV.top, AV.top, AV.top, AV.top, AV.top, AV.top, AV.top] [(Blk.cells ks)]))) := by kernel_rfl

theorem vcl13c (ks ps rows : List AV) (l : List UInt8) (o n c : Nat) (e : Bool) (m : Int) (i : Nat) (Q : Ex → Fr → Hl → Prop) :
  (vm (vcA kdYes noCn noLn) ops0 noTab 100 0 lp13a (fr13a (.slc 1 0 i i 1) l ps o n c e m i) [.cells ks, .cells rows] [] (bodyX mk13a Q)) =
 ((Br (ops0.cmp BinOp.lss (Int.ofNat i) (ops0.ofn n))
 (Chk (ops0.inr (Int.ofNat i) n)
 (∃ ds : (List AV), (∃ off : Nat, (∃ len : Nat, (∃ cap : Nat, (∃ e1 : Bool, ((Nth ps (ops0.adr o (Int.ofNat i) 1) (AV.ros ds off len cap e1)) ∧
 (Chk (ops0.le (ops0.add off (ops0.mul len 1)) (ops0.len ds))
 (Chk (ops0.room 0 len 1)
 (Chk (ops0.le (ops0.add 0 (ops0.mul i 1)) (ops0.len rows))
 (Chk (ops0.room i 1 24)
 (Q Ex.norm [AV.top, (AV.str l), (AV.ros ps o n c e), (AV.int IntKind.u64 m), (AV.ptr 0 0), AV.top, AV.top, AV.top, (AV.bool Bool.false), (AV.slc 3 0 (ops0.add i 1) (ops0.add i 1) 1), (AV.int IntKind.i64 (ops0.bin BinOp.add IntKind.i64 (Int.ofNat i) (Int.ofNat 1))), AV.top, AV.top, AV.top, AV.top, AV.top, AV.top, AV.top, AV.top, AV.top, AV.top, AV.top, AV.top, AV.top, AV.top, AV.top, AV.top, AV.top, AV.top, AV.top, AV.top, AV.top, AV.top, AV.top, AV.top, AV.top, AV.top, AV.top, AV.top, AV.top, AV.top, AV.top, AV.top, AV.top, AV.top, AV.top, AV.top, AV.top, AV.top, AV.top, AV.top, AV.top, AV.top, AV.top, AV.top, AV.top, AV.top, AV.top, AV.top, AV.top, AV.top, AV.top, AV.top, AV.top, AV.top, AV.top, AV.top, AV.top, AV.top, AV.top, AV.top, AV.top, AV.top, AV.top, AV.top, AV.top, AV.top] [(Blk.cells ks), Blk.dead, (Blk.cells (ops0.ext ds off (ops0.mul len 1))), (Blk.cells (ops0.app (ops0.ext rows 0 (ops0.mul i 1)) [(AV.slc 2 0 len len 1)]))]))))))))))))
 (Q (Ex.exit 0) [AV.top, (AV.str l), (AV.ros ps o n c e), (AV.int IntKind.u64 m), (AV.ptr 0 0), AV.top, AV.top, AV.top, (AV.bool Bool.false), (AV.slc 1 0 i i 1), (AV.int IntKind.i64 (Int.ofNat i)), AV.top, AV.top, AV.top, AV.top, AV.top, AV.top, AV.top, AV.top, AV.top, AV.top, AV.top, AV.top, AV.top, AV.top, AV.top, AV.top, AV.top, AV.top, AV.top, AV.top, AV.top, AV.top, AV.top, AV.top, AV.top, AV.top, AV.top, AV.top, AV.top, AV.top, AV.top, AV.top, AV.top, AV.top, AV.top, AV.top, AV.top, AV.top, AV.top, AV.top, AV.top, AV.top, AV.top, AV.top, AV.top, AV.top, AV.top, AV.top, AV.top, AV.top, AV.top, AV.top, AV.top, AV.top, AV.top, AV.top, AV.top, AV.top, AV.top, AV.top, AV.top, AV.top, AV.top, AV.top, AV.top, AV.top] [(Blk.cells ks), (Blk.cells rows)]))) := by kernel_rfl

theorem vcl13b (y1 y2 y3 rs ps : List AV) (o n c : Nat) (e : Bool) (i : Nat) (Q : Ex → Fr → Hl → Prop) :
  (vm (vcA kdYes noCn noLn) ops0 noTab 100 0 lp13b (fr13b rs n (.ros ps o n c e) i) [.cells y1, .cells y2, .cells y3] [] (bodyX mk13b Q)) =
 ((Br (ops0.cmp BinOp.lss (Int.ofNat i) (ops0.ofn n))
 (Chk (ops0.inr (Int.ofNat i) n)
 (∃ ds : (List AV), (∃ off : Nat, (∃ len : Nat, (∃ cap : Nat, (∃ e1 : Bool, ((Nth rs (ops0.adr 0 (Int.ofNat i) 1) (AV.ros ds off len cap e1)) ∧
 (Chk (ops0.le (ops0.add off (ops0.mul len 1)) (ops0.len ds))
 (∃ l : (List UInt8), ((((ops0.ext ds off (ops0.mul len 1)) : (List AV)) = (List.map (fun b => (AV.int IntKind.u8 (((UInt8.toNat b) : Nat) : Int))) l)) ∧
 (Chk (ops0.inr (Int.ofNat i) n)
 (∃ ds1 : (List AV), (∃ off1 : Nat, (∃ len1 : Nat, (∃ cap1 : Nat, (∃ e2 : Bool, ((Nth ps (ops0.adr o (Int.ofNat i) 1) (AV.ros ds1 off1 len1 cap1 e2)) ∧
 (Chk (ops0.le (ops0.add off1 (ops0.mul len1 1)) (ops0.len ds1))
 (∃ l1 : (List UInt8), ((((ops0.ext ds1 off1 (ops0.mul len1 1)) : (List AV)) = (List.map (fun b => (AV.int IntKind.u8 (((UInt8.toNat b) : Nat) : Int))) l1)) ∧
 (Br (ops0.eqs l l1)
 (Q Ex.norm [AV.top, AV.top, (AV.ros ps o n c e), AV.top, AV.top, AV.top, AV.top, AV.top, AV.top, (AV.ros rs 0 n n Bool.false), AV.top, (AV.int IntKind.i64 (ops0.bin BinOp.add IntKind.i64 (Int.ofNat i) (Int.ofNat 1))), AV.top, AV.top, AV.top, AV.top, AV.top, AV.top, AV.top, AV.top, AV.top, AV.top, AV.top, AV.top, AV.top, AV.top, AV.top, AV.top, AV.top, AV.top, AV.top, AV.top, AV.top, AV.top, AV.top, AV.top, AV.top, AV.top, AV.top, AV.top, AV.top, AV.top, AV.top, AV.top, AV.top, AV.top, AV.top, AV.top, AV.top, AV.top, AV.top, AV.top, AV.top, AV.top, AV.top, AV.top, AV.top, AV.top, AV.top, AV.top, AV.top, AV.top, AV.top, AV.top, AV.top, AV.top, AV.top, AV.top, AV.top, AV.top, AV.top, AV.top, AV.top, AV.top, AV.top, AV.top, AV.top] [(Blk.cells y1), (Blk.cells y2), (Blk.cells y3)])
 (Q Ex.ret [AV.top, AV.top, (AV.ros ps o n c e), AV.top, AV.top, AV.top, AV.top, AV.top, AV.top, (AV.ros rs 0 n n Bool.false), AV.top, (AV.int IntKind.i64 (Int.ofNat i)), AV.top, AV.top, AV.top, AV.top, AV.top, AV.top, AV.top, AV.top, AV.top, AV.top, AV.top, AV.top, AV.top, AV.top, AV.top, AV.top, AV.top, AV.top, AV.top, AV.top, AV.top, AV.top, AV.top, AV.top, AV.top, AV.top, AV.top, AV.top, AV.top, AV.top, AV.top, AV.top, AV.top, AV.top, AV.top, AV.top, AV.top, AV.top, AV.top, AV.top, AV.top, AV.top, AV.top, AV.top, AV.top, AV.top, AV.top, AV.top, AV.top, AV.top, AV.top, AV.top, AV.top, AV.top, AV.top, AV.top, AV.top, AV.top, AV.top, AV.top, AV.top, AV.top, AV.top, AV.top, AV.top] [(Blk.cells y1), (Blk.cells y2), (Blk.cells y3)]))))))))))))))))))))))
 (Q (Ex.exit 2) [AV.top, AV.top, (AV.ros ps o n c e), AV.top, AV.top, AV.top, AV.top, AV.top, AV.top, (AV.ros rs 0 n n Bool.false), AV.top, (AV.int IntKind.i64 (Int.ofNat i)), AV.top, AV.top, AV.top, AV.top, AV.top, AV.top, AV.top, AV.top, AV.top, AV.top, AV.top, AV.top, AV.top, AV.top, AV.top, AV.top, AV.top, AV.top, AV.top, AV.top, AV.top, AV.top, AV.top, AV.top, AV.top, AV.top, AV.top, AV.top, AV.top, AV.top, AV.top, AV.top, AV.top, AV.top, AV.top, AV.top, AV.top, AV.top, AV.top, AV.top, AV.top, AV.top, AV.top, AV.top, AV.top, AV.top, AV.top, AV.top, AV.top, AV.top, AV.top, AV.top, AV.top, AV.top, AV.top, AV.top, AV.top, AV.top, AV.top, AV.top, AV.top, AV.top, AV.top, AV.top, AV.top] [(Blk.cells y1), (Blk.cells y2), (Blk.cells y3)]))) := by kernel_rfl

theorem vc13 (S : HF) (F : XF) (ks ps : List AV) (l : List UInt8) (o n c : Nat) (e : Bool) (m : Int) (Q : AV → Prop) :
  (vcall (vcA kdYes (cnL4 S) (ln13 F)) ops0 (tabOne 13 vf13) 300 vf13 [.agg ks, .str l, .ros ps o n c e, .int .u64 m] [] (fun r _ _ => Q r)) =
 (((((0 : Nat) = 0) ∧
 ((VCis lp13a lp13a) ∧
 ((([AV.top, (AV.str l), (AV.ros ps o n c e), (AV.int IntKind.u64 m), (AV.ptr 0 0), AV.top, AV.top, AV.top, (AV.bool Bool.false), AV.nils, (AV.int IntKind.i64 (Int.ofNat 0)), AV.top, AV.top, AV.top, AV.top, AV.top, AV.top, AV.top, AV.top, AV.top, AV.top, AV.top, AV.top, AV.top, AV.top, AV.top, AV.top, AV.top, AV.top, AV.top, AV.top, AV.top, AV.top, AV.top, AV.top, AV.top, AV.top, AV.top, AV.top, AV.top, AV.top, AV.top, AV.top, AV.top, AV.top, AV.top, AV.top, AV.top, AV.top, AV.top, AV.top, AV.top, AV.top, AV.top, AV.top, AV.top, AV.top, AV.top, AV.top, AV.top, AV.top, AV.top, AV.top, AV.top, AV.top, AV.top, AV.top, AV.top, AV.top, AV.top, AV.top, AV.top, AV.top, AV.top, AV.top, AV.top, AV.top] : Fr) = [AV.top, (AV.str l), (AV.ros ps o n c e), (AV.int IntKind.u64 m), (AV.ptr 0 0), AV.top, AV.top, AV.top, (AV.bool Bool.false), AV.nils, (AV.int IntKind.i64 (Int.ofNat 0)), AV.top, AV.top, AV.top, AV.top, AV.top, AV.top, AV.top, AV.top, AV.top, AV.top, AV.top, AV.top, AV.top, AV.top, AV.top, AV.top, AV.top, AV.top, AV.top, AV.top, AV.top, AV.top, AV.top, AV.top, AV.top, AV.top, AV.top, AV.top, AV.top, AV.top, AV.top, AV.top, AV.top, AV.top, AV.top, AV.top, AV.top, AV.top, AV.top, AV.top, AV.top, AV.top, AV.top, AV.top, AV.top, AV.top, AV.top, AV.top, AV.top, AV.top, AV.top, AV.top, AV.top, AV.top, AV.top, AV.top, AV.top, AV.top, AV.top, AV.top, AV.top, AV.top, AV.top, AV.top, AV.top, AV.top]) ∧
 ((flatL ks) ∧
 (P13a ps o n))))) ∧
 (True ∧
 (Chk (ops0.le 32 (ops0.len ks))
 (((PKey (ops0.ext ks 0 32)) ∧
 (PTag (List.map (vw1 [(Blk.cells ks)]) (XF.rows F ps o n)) 0 n)) ∧
 (Chk (ops0.le 32 (ops0.len ks))
 (((PKey (ops0.ext ks 0 32)) ∧
 (PTag (List.map (vw1 [(Blk.cells ks)]) ps) o n)) ∧
 (Chk (ops0.eq (ops0.len (GF.tag (NG.toGF (HF.toNG S)) (ops0.ext ks 0 32) l (partsL (List.map (vw1 [(Blk.cells ks)]) (XF.rows F ps o n)) 0 n))) 32)
 (Chk (ops0.eq (ops0.len (GF.tag (NG.toGF (HF.toNG S)) (ops0.ext ks 0 32) l (partsL (List.map (vw1 [(Blk.cells ks)]) ps) o n))) 32)
 (Chk (ops0.le 32 (ops0.len (GF.tag (NG.toGF (HF.toNG S)) (ops0.ext ks 0 32) l (partsL (List.map (vw1 [(Blk.cells ks)]) (XF.rows F ps o n)) 0 n))))
 (Chk (ops0.le 32 (ops0.len (GF.tag (NG.toGF (HF.toNG S)) (ops0.ext ks 0 32) l (partsL (List.map (vw1 [(Blk.cells ks)]) ps) o n))))
 (∃ l1 : (List Int), ((((ops0.ext (GF.tag (NG.toGF (HF.toNG S)) (ops0.ext ks 0 32) l (partsL (List.map (vw1 [(Blk.cells ks)]) (XF.rows F ps o n)) 0 n)) 0 32) : (List AV)) = (List.map (AV.int IntKind.u8) l1)) ∧
 (∃ l2 : (List Int), ((((ops0.ext (GF.tag (NG.toGF (HF.toNG S)) (ops0.ext ks 0 32) l (partsL (List.map (vw1 [(Blk.cells ks)]) ps) o n)) 0 32) : (List AV)) = (List.map (AV.int IntKind.u8) l2)) ∧
 (Br (ops0.eqi l1 l2)
 (Chk (ops0.le 32 (ops0.len ks))
 (((PKey (ops0.ext ks 0 32)) ∧
 ((Int.ofNat 0) ≤ m)) ∧
 (Chk (ops0.le 32 (ops0.len ks))
 (((PKey (ops0.ext ks 0 32)) ∧
 ((Int.ofNat 0) ≤ m)) ∧
 (Chk (ops0.eq (ops0.len (HF.drv S (ops0.ext ks 0 32) l m)) 32)
 (Chk (ops0.eq (ops0.len (HF.drv S (ops0.ext ks 0 32) l m)) 32)
 (Chk (ops0.le 32 (ops0.len (HF.drv S (ops0.ext ks 0 32) l m)))
 (Chk (ops0.le 32 (ops0.len (HF.drv S (ops0.ext ks 0 32) l m)))
 (∃ l3 : (List Int), ((((ops0.ext (HF.drv S (ops0.ext ks 0 32) l m) 0 32) : (List AV)) = (List.map (AV.int IntKind.u8) l3)) ∧
 (∃ l4 : (List Int), ((((ops0.ext (HF.drv S (ops0.ext ks 0 32) l m) 0 32) : (List AV)) = (List.map (AV.int IntKind.u8) l4)) ∧
 (Br (ops0.eqi l3 l4)
 (((Int.ofNat 0) ≤ m) ∧
 (Chk (ops0.le 8 (ops0.len (MF.bytes (NF.toMF (NG.toNF (HF.toNG S))) m)))
 (∃ l5 : (List UInt8), ((((ops0.ext (MF.bytes (NF.toMF (NG.toNF (HF.toNG S))) m) 0 8) : (List AV)) = (List.map (fun b => (AV.int IntKind.u8 (((UInt8.toNat b) : Nat) : Int))) l5)) ∧
 (((Int.ofNat 0) ≤ m) ∧
 (Chk (ops0.le 8 (ops0.len (MF.bytes (NF.toMF (NG.toNF (HF.toNG S))) m)))
 (∃ l6 : (List UInt8), ((((ops0.ext (MF.bytes (NF.toMF (NG.toNF (HF.toNG S))) m) 0 8) : (List AV)) = (List.map (fun b => (AV.int IntKind.u8 (((UInt8.toNat b) : Nat) : Int))) l6)) ∧
 (Br (ops0.eqs l5 l6)
 ((((0 : Nat) = 0) ∧
 ((VCis lp13b lp13b) ∧
 ((([AV.top, AV.top, (AV.ros ps o n c e), AV.top, AV.top, AV.top, AV.top, AV.top, AV.top, (AV.ros (XF.rows F ps o n) 0 n n Bool.false), AV.top, (AV.int IntKind.i64 (Int.ofNat 0)), AV.top, AV.top, AV.top, AV.top, AV.top, AV.top, AV.top, AV.top, AV.top, AV.top, AV.top, AV.top, AV.top, AV.top, AV.top, AV.top, AV.top, AV.top, AV.top, AV.top, AV.top, AV.top, AV.top, AV.top, AV.top, AV.top, AV.top, AV.top, AV.top, AV.top, AV.top, AV.top, AV.top, AV.top, AV.top, AV.top, AV.top, AV.top, AV.top, AV.top, AV.top, AV.top, AV.top, AV.top, AV.top, AV.top, AV.top, AV.top, AV.top, AV.top, AV.top, AV.top, AV.top, AV.top, AV.top, AV.top, AV.top, AV.top, AV.top, AV.top, AV.top, AV.top, AV.top, AV.top, AV.top] : Fr) = [AV.top, AV.top, (AV.ros ps o n c e), AV.top, AV.top, AV.top, AV.top, AV.top, AV.top, (AV.ros (XF.rows F ps o n) 0 n n Bool.false), AV.top, (AV.int IntKind.i64 (Int.ofNat 0)), AV.top, AV.top, AV.top, AV.top, AV.top, AV.top, AV.top, AV.top, AV.top, AV.top, AV.top, AV.top, AV.top, AV.top, AV.top, AV.top, AV.top, AV.top, AV.top, AV.top, AV.top, AV.top, AV.top, AV.top, AV.top, AV.top, AV.top, AV.top, AV.top, AV.top, AV.top, AV.top, AV.top, AV.top, AV.top, AV.top, AV.top, AV.top, AV.top, AV.top, AV.top, AV.top, AV.top, AV.top, AV.top, AV.top, AV.top, AV.top, AV.top, AV.top, AV.top, AV.top, AV.top, AV.top, AV.top, AV.top, AV.top, AV.top, AV.top, AV.top, AV.top, AV.top, AV.top, AV.top, AV.top]) ∧
 (P13b (XF.rows F ps o n) ps o n)))) ∧
 (Q (AV.bool Bool.true)))
 (Q (AV.bool Bool.false)))))))))))
 (Q (AV.bool Bool.false)))))))))))))))
 (Q (AV.bool Bool.false)))))))))))))))))) := by kernel_rfl

/-! ### Cut another way -/
theorem nmL_flat {n : Nat} {cs : List AV} (h : flatL cs) : nmL n cs = true := by
  induction cs with
  | nil => rfl
  | cons x xs ih =>
    have hx : flat x = true := h x (by simp)
    have hn : nm n x = true := by cases x <;> first | rfl | cases hx
    unfold nmL
    rw [hn]
    exact ih fun a ha => h a (by simp [ha])
theorem ownL_flat {cs : List AV} (h : flatL cs) : ownL cs = true := by
  induction cs with
  | nil => rfl
  | cons x xs ih =>
    have hx : flat x = true := h x (by simp)
    have hn : own x = true := by cases x <;> first | rfl | cases hx
    unfold ownL
    rw [hn]
    exact ih fun a ha => h a (by simp [ha])
theorem nm_agg {n : Nat} {cs : List AV} (h : flatL cs) : nm n (.agg cs) = true := nmL_flat h
theorem own_agg {cs : List AV} (h : flatL cs) : own (.agg cs) = true := ownL_flat h
theorem nmB_flat {n : Nat} {cs : List AV} (h : flatL cs) : nmB n (.cells cs) = true := nmL_flat h
theorem ownB_flat {cs : List AV} (h : flatL cs) : ownB (.cells cs) = true := ownL_flat h

theorem ptag_two {pa : List AV} {oa la : Nat} (ca : Nat) (ea : Bool) {pb : List AV} {ob lb : Nat} (cb : Nat) (eb : Bool) {al bl : List UInt8} (hfa : flatL pa) (ha : BytesAt pa oa la al) (hoa : oa + la ≤ pa.length) (hla : la ≤ 1048576)
    (hfb : flatL pb) (hb : BytesAt pb ob lb bl) (hob : ob + lb ≤ pb.length) (hlb : lb ≤ 1048576) : PTag [.ros pa oa la ca ea, .ros pb ob lb cb eb] 0 2 := by
  have h1 := ha.1
  have h2 := hb.1
  refine ⟨⟨fun p hp => ?_, [al, bl], rfl, by omega, fun j x hx => ?_⟩, fun j hj pc off len cap ex hp => ?_, ?_⟩
  · simp only [List.mem_cons, List.not_mem_nil, or_false] at hp
    rcases hp with rfl | rfl
    · exact ⟨_, _, _, _, _, rfl, hfa⟩
    · exact ⟨_, _, _, _, _, rfl, hfb⟩
  · cases j with
    | zero =>
      obtain rfl : al = x := Option.some.inj hx
      exact ⟨by omega, _, _, _, _, _, rfl, ha⟩
    | succ j =>
      cases j with
      | zero =>
        obtain rfl : bl = x := Option.some.inj hx
        exact ⟨by omega, _, _, _, _, _, rfl, hb⟩
      | succ j => cases hx
  · cases j with
    | zero => cases hp; exact hoa
    | succ j =>
      cases j with
      | zero => cases hp; exact hob
      | succ j => omega
  · have e : partsL [.ros pa oa la ca ea, .ros pb ob lb cb eb] 0 2 = [al, bl] := by
      show [partA (.ros pa oa la ca ea), partA (.ros pb ob lb cb eb)] = _
      rw [partA_ros ha, partA_ros hb]
    rw [e]
    unfold textL
    simp [bytesN_length]
    omega

theorem law11 {key : List UInt8} (hk : key.length = 32) {pa : List AV} {oa la : Nat} (ca : Nat) (ea : Bool) {pb : List AV} {ob lb : Nat} (cb : Nat) (eb : Bool) {al bl : List UInt8} (hfa : flatL pa) (ha : BytesAt pa oa la al) (hoa : oa + la ≤ pa.length) (hla : la ≤ 1048576)
    (hfb : flatL pb) (hb : BytesAt pb ob lb bl) (hob : ob + lb ≤ pb.length) (hlb : lb ≤ 1048576) :
    ∃ H' lg, CallTo Try.prog 11 [.agg (key.map by8), .ros pa oa la ca ea, .ros pb ob lb cb eb] [] (.bool true) H' lg := by
  have h1 := ha.1
  have h2 := hb.1
  have hv : vcall (vcA kdYes (cnL4 hf0) noLn) ops0 (tabOne 11 vf11) 200 vf11 [.agg (key.map by8), .ros pa oa la ca ea, .ros pb ob lb cb eb] [] (fun r _ _ => r = .bool true) := by
    rw [vc11, key_ext hk, extB ha, extB hb, extW h1]
    have e1 : ops0.app (al.map by8) (bl.map by8) = (al ++ bl).map by8 := by rw [nApp, List.map_append]
    have e2 : ops0.add la lb = (al ++ bl).length := by rw [nPlus, List.length_append, h1, h2]
    rw [e1, e2, partA_whole (al ++ bl) _ _ rfl, partA_ros ha, partA_ros hb, htag_eq, htag_eq, htag_eq]
    have n1 := tag_len32 key [120] [al ++ bl]
    have n2 := tag_len32 key [120] [al, bl]
    have n3 := tag_len32 key [120] [bl, al]
    rw [keep32 n1, keep32 n2, ext32 n1, ext32 n2, ext32 n3]
    have t1 : PTag [.ros ((al ++ bl).map by8) 0 (al ++ bl).length (al ++ bl).length false] 0 1 := ptag_whole _ _ _ rfl (by rw [List.length_append]; omega) false
    have t2 := ptag_two ca ea cb eb hfa ha hoa hla hfb hb hob hlb
    have t3 := ptag_two cb eb ca ea hfb hb hob hlb hfa ha hoa hla
    have s1 : ∀ {r : Prop}, r → Chk (ops0.le 32 (ops0.len ((tagL key [120] [al ++ bl]).map by8))) r := fun h => Chk.mk (le32 n1) h
    have sp1 : ops0.spl (z8 32) 0 ((tagL key [120] [al ++ bl]).map by8) = (tagL key [120] [al ++ bl]).map by8 := spl_all (by rw [z8_length, n1])
    have sp2 : ops0.spl (z8 32) 0 ((tagL key [120] [al, bl]).map by8) = (tagL key [120] [al, bl]).map by8 := spl_all (by rw [z8_length, n2])
    rw [sp1, sp2]
    refine Chk.mk (key_len hk) (Chk.mk (lenB hoa) (ckroom (by omega) (Chk.mk (lenW h1) (Chk.mk (lenB hob) (ckroom (by omega) ⟨⟨pkey key hk, t1⟩, Chk.mk (eq32 n1) (Chk.mk (own_agg (flat_by8 _)) (Chk.mk (nm_agg (flat_by8 _)) (Chk.mk (nmB_flat (flat_by8 _)) (Chk.mk (nmB_flat (flat_by8 _)) (Chk.mk (ownB_flat (flat_by8 _)) (Chk.mk (ownB_flat (flat_by8 _)) ?_))))))⟩)))))
    refine Chk.mk (key_len hk) ⟨⟨pkey key hk, t2⟩, Chk.mk (eq32 n2) ⟨trivial, Chk.mk (key_len hk) (Chk.mk (lenB hoa) (ckroom (by omega) (Chk.mk (lenW h1) (Chk.mk (lenB hob) (ckroom (by omega) ⟨⟨pkey key hk, t1⟩, ?_⟩)))))⟩⟩
    refine Chk.mk (le32 n1) (Chk.mk (eq32 n1) (Chk.mk (eq32 n1) (Chk.mk (le32 n1) (Chk.mk (le32 n1) (intEx (intEx (brEqi_t rfl ?_)))))))
    refine Chk.mk (key_len hk) ⟨⟨pkey key hk, t2⟩, Chk.mk (le32 n2) (Chk.mk (eq32 n2) (Chk.mk (eq32 n2) (Chk.mk (le32 n2) (Chk.mk (le32 n2) (intEx (intEx (brEqi_t rfl ?_)))))))⟩
    exact Chk.mk (key_len hk) ⟨⟨pkey key hk, t3⟩, Chk.mk (key_len hk) ⟨⟨pkey key hk, t3⟩, Chk.mk (eq32 n3) (Chk.mk (eq32 n3) (Chk.mk (le32 n3) (Chk.mk (le32 n3) (intEx (intEx (brEqi_t rfl rfl))))))⟩⟩
  obtain ⟨r, H', lg, hc, rfl⟩ := call_vcx cnL4_ok (noLn_ok _) (tabOne_ok ok11) (tabOne_self 11 vf11) hv
  exact ⟨H', lg, hc⟩

/-! ### The bytes of a number -/
theorem or8 {q : Nat} (h : q < 18446744073709551616) : ops0.bin .or .u64 (ops0.shf .shl .u64 (Int.ofNat (q / 256)) (Int.ofNat 8)) (ops0.cvt .u64 (Int.ofNat (UInt8.ofNat q).toNat)) = Int.ofNat q := by
  have e1 : ops0.shf .shl .u64 (Int.ofNat (q / 256)) (Int.ofNat 8) = Int.ofNat (q / 256 * 256) := by
    show IntKind.u64.wrap (Int.ofNat (q / 256) * 2 ^ (Nat.min (Int.ofNat 8).toNat 64)) = _
    have : (Int.ofNat (q / 256) * 2 ^ (Nat.min (Int.ofNat 8).toNat 64)) = Int.ofNat (q / 256 * 256) := by
      show Int.ofNat (q / 256) * (2 ^ 8 : Int) = _
      simp
    rw [this, u64_wrap (by simp only [Int.ofNat_eq_natCast]; omega) (by simp only [Int.ofNat_eq_natCast]; omega)]
  have e2 : (UInt8.ofNat q).toNat = q % 256 := by simp
  rw [e1, e2, nC64 (by omega)]
  have e3 : ∀ c : Nat, c < 18446744073709551616 → (BitVec.ofInt 64 (Int.ofNat c)).toNat = c := by
    intro c hc
    simp only [BitVec.toNat_ofInt, Int.ofNat_eq_natCast]
    omega
  show IntKind.u64.wrap ((BitVec.ofInt 64 (Int.ofNat (q / 256 * 256)) ||| BitVec.ofInt 64 (Int.ofNat (q % 256))).toNat : Int) = _
  rw [BitVec.toNat_or, e3 _ (by omega), e3 _ (by omega)]
  have e4 : q / 256 * 256 ||| q % 256 = q := by
    have h1 := Nat.shiftLeft_add_eq_or_of_lt (b := q % 256) (i := 8) (by omega) (q / 256)
    rw [Nat.shiftLeft_eq] at h1
    rw [← h1]
    omega
  rw [e4, u64_wrap (by omega) (by omega)]
  rfl

theorem law15 {key l : List UInt8} (hk : key.length = 32) (n : Nat) (hn : n < 18446744073709551616) :
    ∃ H' lg, CallTo Try.prog 15 [.agg (key.map by8), .str l, .int .u64 (Int.ofNat n)] [] (.bool true) H' lg := by
  have hv : vcall (vcA kdYes (cnL4 hf0) noLn) ops0 (tabOne 15 vf15) 300 vf15 [.agg (key.map by8), .str l, .int .u64 (Int.ofNat n)] [] (fun r _ _ => r = .bool true) := by
    rw [vc15, key_ext hk]
    have e1 : MF.bytes (NF.toMF (NG.toNF (HF.toNG hf0))) (Int.ofNat n) = (bytesN n).map by8 := rfl
    have e2 : HF.drv hf0 (key.map by8) l (Int.ofNat n) = (tagL key l [bytesN n]).map by8 := by
      show (tagL (bytesA (key.map by8)) l [bytesN n]).map by8 = _
      rw [bytesA_by8]
    have n1 := tag_len32 key l [bytesN n]
    rw [e1, e2, partA_whole (bytesN n) 8 8 rfl, htag_eq, ext32 n1]
    have g : ∀ (i : Nat) (b : UInt8), (bytesN n)[i]? = some b → Nth ((bytesN n).map by8) i (.int .u8 (Int.ofNat b.toNat)) := fun i b h => Nth.mk (by rw [List.getElem?_map, h]; rfl)
    refine ⟨Int.natCast_nonneg _, _, g 7 _ rfl, _, g 6 _ rfl, _, g 5 _ rfl, _, g 4 _ rfl, _, g 3 _ rfl, _, g 2 _ rfl, _, g 1 _ rfl, _, g 0 _ rfl, trivial, ?_⟩
    have d : ∀ k, n / 2 ^ (k + 8) = n / 2 ^ k / 256 := fun k => by rw [Nat.pow_add, ← Nat.div_div_eq_div_mul]
    have lt : ∀ k, n / 2 ^ k < 18446744073709551616 := fun k => Nat.lt_of_le_of_lt (Nat.div_le_self _ _) hn
    have s0 : ops0.bin .or .u64 (Int.ofNat 0) (ops0.cvt .u64 (Int.ofNat (UInt8.ofNat (n / 2 ^ 56)).toNat)) = Int.ofNat (n / 2 ^ 56) := by
      have h56 : n / 2 ^ 56 < 256 := by omega
      have := or8 (q := n / 2 ^ 56) (lt 56)
      have hz : n / 2 ^ 56 / 256 = 0 := by omega
      rw [hz] at this
      exact this
    have st : ∀ k, ops0.bin .or .u64 (ops0.shf .shl .u64 (Int.ofNat (n / 2 ^ (k + 8))) (Int.ofNat 8)) (ops0.cvt .u64 (Int.ofNat (UInt8.ofNat (n / 2 ^ k)).toNat)) = Int.ofNat (n / 2 ^ k) := fun k => by
      rw [d k]; exact or8 (lt k)
    rw [s0, st 48, st 40, st 32, st 24, st 16, st 8, st 0]
    have hz : n / 2 ^ 0 = n := by rw [Nat.pow_zero, Nat.div_one]
    rw [hz]
    refine Br.t (by rw [nEql]; exact decide_eq_true rfl) (Chk.mk (key_len hk) ⟨⟨pkey key hk, Int.natCast_nonneg _⟩, Chk.mk (key_len hk) ⟨⟨pkey key hk, ptag_whole (bytesN n) 8 8 rfl (by rw [bytesN_length]; omega) false⟩, ?_⟩⟩)
    exact Chk.mk (eq32 n1) (Chk.mk (eq32 n1) (Chk.mk (le32 n1) (Chk.mk (le32 n1) (intEx (intEx (brEqi_t rfl rfl))))))
  obtain ⟨r, H', lg, hc, rfl⟩ := call_vcx cnL4_ok (noLn_ok _) (tabOne_ok ok15) (tabOne_self 15 vf15) hv
  exact ⟨H', lg, hc⟩

/-! ### Byte by byte -/
theorem nAdd' {a b : Nat} (h : a + b < 9223372036854775808) : ops0.bin .add .i64 (ops0.ofn a) (ops0.ofn b) = ops0.ofn (a + b) := nAdd h
theorem loop12 (ks cs z : List AV) {pa : List AV} {oa la N : Nat} (ca : Nat) (ea : Bool) {xs os zs : List AV} (h : P12 pa oa la N xs os zs) :
    ∀ lg, LoopTo Try.prog 0 lp12 (fr12 pa oa la ca ea N 0) [.cells ks, .dead, .cells cs, .cells xs, .cells os, .cells z, .cells zs] lg (.exit 0) (fr12 pa oa la ca ea N la) [.cells ks, .dead, .cells cs, .cells xs, .cells os, .cells z, .cells zs] (List.range 0 ++ lg) := by
  obtain ⟨hN, hla, al, xl, tl, ha, hxl, rfl, rfl, rfl⟩ := h
  have hal := ha.1
  refine loop_chain (P := Try.prog) (n0 := 0) (b := lp12) (ex := .exit 0) (by intro h; cases h) (fun i => (fr12 pa oa la ca ea N i, [.cells ks, .dead, .cells cs, .cells ((xorL xl al ++ tl).map by8), .cells ((xorL xl al).map by8), .cells z, .cells (xl.map by8)])) la 0 (fun i _ hi => ?_) ?_
  · have hi' : i < la := by omega
    have hol : (xorL xl al).length = la := by rw [xorL_length]; omega
    have g1 : ((xorL xl al).map by8)[i]? = some (by8 (xl[i]'(by omega) ^^^ al[i]'(by omega))) := by
      rw [List.getElem?_map, List.getElem?_eq_getElem (by omega)]
      simp only [xorL, List.getElem_zipWith, Option.map_some]
    have g2 : ((xorL xl al ++ tl).map by8)[i]? = some (by8 (xl[i]'(by omega) ^^^ al[i]'(by omega))) := by
      rw [List.map_append, List.getElem?_append_left (by rw [List.length_map]; omega), g1]
    have g3 : (xl.map by8)[i]? = some (by8 (xl[i]'(by omega))) := by rw [List.getElem?_map, List.getElem?_eq_getElem (by omega)]; rfl
    have key : ∀ Q : Ex → Fr → Hl → Prop, Q .norm (fr12 pa oa la ca ea N (i + 1)) [.cells ks, .dead, .cells cs, .cells ((xorL xl al ++ tl).map by8), .cells ((xorL xl al).map by8), .cells z, .cells (xl.map by8)] →
        vm (vcA kdYes noCn noLn) ops0 noTab 100 0 lp12 (fr12 pa oa la ca ea N i) [.cells ks, .dead, .cells cs, .cells ((xorL xl al ++ tl).map by8), .cells ((xorL xl al).map by8), .cells z, .cells (xl.map by8)] [] (bodyX mk12 Q) := by
      intro Q hQ
      rw [vcl12, nAdd (by omega)]
      simp only [nOfn, nLss, nInr, nAdr, Nat.zero_add, Nat.mul_one]
      refine Br.t (decide_eq_true hi') (Chk.mk (decide_eq_true hi') ⟨_, Nth.mk g1, Chk.mk (decide_eq_true (by omega)) ⟨_, Nth.mk g2, Br.f ?_ (Chk.mk (decide_eq_true hi') ⟨_, Nth.mk g1, Chk.mk (decide_eq_true hi') ⟨_, Nth.mk g3, Chk.mk (decide_eq_true hi') ⟨_, Nth.mk (ha.get hi'), Br.f ?_ hQ⟩⟩⟩)⟩⟩)
      · show (!(_ == _)) = false
        simp
      · rw [xor_u8]
        show (!(_ == _)) = false
        simp
    exact body_x (noCn_ok _) (noLn_ok _) (noTab_ok _) (n := 100) (g := kdYes) (bs := mk12) (key _ ⟨rfl, rfl, rfl⟩) (by simp)
  · rw [Nat.zero_add]
    refine body_x (noCn_ok _) (noLn_ok _) (noTab_ok _) (n := 100) (g := kdYes) (bs := mk12) ?_ (by simp)
    show vm _ _ _ _ _ _ (fr12 pa oa la ca ea N la) _ _ _
    rw [vcl12]
    exact Br.f (by rw [nOfn, nLss]; exact decide_eq_false (by omega)) ⟨rfl, rfl, rfl⟩

theorem ln12_ok : LnOK Try.prog ln12 := by
  intro n0 b fr H p x e hn hp lg
  unfold ln12 at e
  split at e <;> cases e
  · rename_i pa oa la ca ea N c7 n8 c8 ks cs xs os z zs h1 h2 h3
    obtain ⟨rfl, hb, hf, hp⟩ := hp
    have hb : b = lp12 := hb
    subst hb
    refine LoopTo.pre (Weak.forget (by simp) mk12) ?_ lg
    rw [hf]
    exact loop12 ks cs z ca ea hp
  · rename_i H x1 x2 x3 H2 pa oa la ca ea h1 h2
    obtain ⟨rfl, hb, hf, rfl⟩ := hp
    have hb : b = lp12 := hb
    subst hb
    refine LoopTo.pre (Weak.forget (by simp) mk12n) ?_ lg
    rw [hf]
    refine loop_chain (P := Try.prog) (n0 := 0) (b := lp12) (ex := .exit 0) (by intro h; cases h) (fun _ => (fr12n pa oa ca ea, H)) 0 0 (fun i _ hi => by omega) ?_
    refine body_x (noCn_ok _) (noLn_ok _) (noTab_ok _) (n := 100) (g := kdYes) (bs := mk12n) ?_ (by simp)
    show vm _ _ _ _ _ _ (fr12n pa oa ca ea) H _ _
    rw [vcl12n]
    exact ⟨rfl, rfl, rfl⟩

theorem inM_t {n : Nat} (h1 : 1 ≤ n) (h2 : n ≤ 65536) : inM [109] n = true := by
  unfold inM
  rw [decide_eq_true h1, decide_eq_true h2]; rfl
theorem stream_split (l : List UInt8) (n m : Nat) : ∃ t, streamF 168 31 (n + m) l = streamF 168 31 n l ++ t := by
  refine ⟨(streamF 168 31 (n + m) l).drop n, ?_⟩
  have h : (streamF 168 31 (n + m) l).take n = streamF 168 31 n l := letL_take 168 n (n + m) _ (by omega)
  rw [← h, List.take_append_drop]
theorem xor_zeros (l : List UInt8) : xorL l (List.replicate l.length 0) = l := by
  unfold xorL
  apply List.ext_getElem
  · simp
  · intro i h1 h2
    simp only [List.getElem_zipWith, List.getElem_replicate]
    exact UInt8.xor_zero
theorem mask_zeros (key l : List UInt8) (n : Nat) : maskL key l (List.replicate n 0) = streamF 168 31 n (headL key l) := by
  have h := streamF_length 168 31 n (headL key l)
  unfold maskL
  rw [List.length_replicate]
  conv => lhs; arg 2; rw [← h]
  exact xor_zeros _
theorem mask_as (key l b : List UInt8) : maskL key l b = xorL (maskL key l (List.replicate b.length 0)) b := by
  rw [mask_zeros]; rfl
theorem mask_app (key l a b : List UInt8) : ∃ t, maskL key l (a ++ b) = maskL key l a ++ t := by
  obtain ⟨t, ht⟩ := stream_split (headL key l) a.length b.length
  refine ⟨xorL t b, ?_⟩
  unfold maskL
  rw [List.length_append, ht]
  unfold xorL
  rw [List.zipWith_append (streamF_length _ _ _ _)]
theorem rep_z (n : Nat) : ops0.rep n [.int .u8 (Int.ofNat 0)] = (List.replicate n (0 : UInt8)).map by8 := by
  rw [nRep, List.map_replicate]
  have : (by8 0) = AV.int .u8 (Int.ofNat 0) := rfl
  rw [this]
  induction n with
  | zero => rfl
  | succ n ih => rw [List.replicate_succ, List.flatten_cons, ih, List.replicate_succ]; rfl

theorem law12 {key : List UInt8} (hk : key.length = 32) {pa : List AV} {oa la : Nat} (ca : Nat) (ea : Bool) {pb : List AV} {ob lb : Nat} (cb : Nat) (eb : Bool) {al bl : List UInt8} (hfa : flatL pa) (ha : BytesAt pa oa la al) (hoa : oa + la ≤ pa.length) (hla : la ≤ 1048576)
    (hfb : flatL pb) (hb : BytesAt pb ob lb bl) (hob : ob + lb ≤ pb.length) (hlb : lb ≤ 1048576) :
    ∃ H' lg, CallTo Try.prog 12 [.agg (key.map by8), .ros pa oa la ca ea, .ros pb ob lb cb eb] [] (.bool true) H' lg := by
  have h1 := ha.1
  have h2 := hb.1
  have hv : vcall (vcA kdYes (cnL4 hf0) ln12) ops0 (tabOne 12 vf12) 300 vf12 [.agg (key.map by8), .ros pa oa la ca ea, .ros pb ob lb cb eb] [] (fun r _ _ => r = .bool true) := by
    rw [vc12, key_ext hk, extB ha, extB hb, extW h1, rdB_eq ha, rep_z]
    have e1 : ops0.app (al.map by8) (bl.map by8) = (al ++ bl).map by8 := by rw [nApp, List.map_append]
    have e2 : ops0.add la lb = la + lb := nPlus
    rw [e1, e2, rdW (show (al ++ bl).length = la + lb by rw [List.length_append, h1, h2]), rdW (show (List.replicate la (0 : UInt8)).length = la by simp), hmask_eq, hmask_eq, hmask_eq, nAdd' (by omega)]
    have p1 : PB ((al ++ bl).map by8) 0 (la + lb) := pb_whole _ _ (by rw [List.length_append, h1, h2]) (by rw [List.length_append]; omega)
    have p2 : PB pa oa la := ⟨hfa, hoa, by omega, al, ha⟩
    have p3 : PB ((List.replicate la (0 : UInt8)).map by8) 0 la := pb_whole _ _ (by simp) (by simp; omega)
    have mk : ops0.mkr (ops0.ofn la) (ops0.ofn la) 1 = true := by rw [nOfn, nMkr]; simp; omega
    have ne : ∀ (a : Nat) {r t : Prop}, t → Br (ops0.cmp .neq (ops0.ofn a) (ops0.ofn a)) r t := fun a {r t} h => Br.f (by rw [nOfn, nNeq]; exact decide_eq_false (by simp)) h
    refine Br.mk (fun _ => rfl) (fun g1 => Br.mk (fun _ => rfl) (fun g2 => ?_))
    have g1 : ¬ 60000 < la := by rw [nOfn, nGtr] at g1; exact of_decide_eq_false g1
    have g2 : ¬ 5000 < lb := by rw [nOfn, nGtr] at g2; exact of_decide_eq_false g2
    refine Chk.mk (key_len hk) (Chk.mk (lenB hoa) (ckroom (by omega) (Chk.mk (lenW h1) (Chk.mk (lenB hob) (ckroom (by omega) ⟨⟨pkey key hk, p1⟩, ?_⟩)))))
    by_cases hz : la = 0
    · subst hz
      have hal : al = [] := List.eq_nil_of_length_eq_zero h1
      have im : inM [109] 0 = false := rfl
      by_cases hy : lb = 0
      · subst hy
        refine Br.f rfl (Chk.mk (key_len hk) ⟨⟨pkey key hk, p2⟩, Br.f im (Chk.mk (key_len hk) (Chk.mk mk ⟨⟨pkey key hk, p3⟩, Br.f im ⟨trivial, ?_⟩⟩))⟩)
        exact Br.f rfl (Br.f rfl (Br.f rfl ⟨⟨rfl, rfl, rfl, rfl⟩, rfl⟩))
      · refine Br.t (inM_t (by omega) (by omega)) (Chk.mk (key_len hk) ⟨⟨pkey key hk, p2⟩, Br.f im (Chk.mk (key_len hk) (Chk.mk mk ⟨⟨pkey key hk, p3⟩, Br.f im ⟨trivial, ?_⟩⟩))⟩)
        exact ne _ (Br.f rfl (Br.f rfl ⟨⟨rfl, rfl, rfl, rfl⟩, rfl⟩))
    · have im : inM [109] la = true := inM_t (by omega) (by omega)
      refine Br.t (inM_t (by omega) (by omega)) (Chk.mk (key_len hk) ⟨⟨pkey key hk, p2⟩, Br.t im (Chk.mk (key_len hk) (Chk.mk mk ⟨⟨pkey key hk, p3⟩, Br.t im ⟨trivial, ?_⟩⟩))⟩)
      refine ne _ (ne _ (ne _ ⟨⟨rfl, rfl, rfl, by omega, by omega, ?_⟩, rfl⟩))
      obtain ⟨t, ht⟩ := mask_app key [109] al bl
      have hm := mask_as key [109] al
      rw [h1] at hm
      exact ⟨al, maskL key [109] (List.replicate la 0), t, ha, by rw [maskL_length]; simp, by rw [hm], by rw [ht, ← hm], rfl⟩
  obtain ⟨r, H', lg, hc, rfl⟩ := call_vcx cnL4_ok ln12_ok (tabOne_ok ok12) (tabOne_self 12 vf12) hv
  exact ⟨H', lg, hc⟩

/-! ### Any parts -/
theorem fr13a_ren {σ : Nat → Option Nat} {φ : Nat → Option (List AV)} (h0 : σ 0 = some 0) {ps : List AV} (hps : Still ps) (x9 : AV) (l : List UInt8) (o n c : Nat) (e : Bool) (m : Int) (i : Nat) :
    forget mk13a (renL σ φ true (fr13a x9 l ps o n c e m i)) = fr13a (ren σ φ true x9) l ps o n c e m i := by
  unfold fr13a mk13a
  simp only [renL, ren, h0, forget, hps σ φ]

theorem copyA_ros {pc : List AV} {off len cap : Nat} {ex : Bool} {lb : List UInt8} (hb : BytesAt pc off len lb) : copyA (.ros pc off len cap ex) = .ros (lb.map by8) 0 len len false := by
  unfold copyA
  rw [partA_ros hb, hb.1]
def cpL (ps : List AV) (o n : Nat) : List AV := ((ps.drop o).take n).map copyA
theorem cpL_zero (ps : List AV) (o : Nat) : cpL ps o 0 = [] := by
  unfold cpL
  rw [List.take_zero]; rfl
theorem cpL_succ (ps : List AV) (o i : Nat) {p : AV} (hp : ps[o + i]? = some p) : cpL ps o (i + 1) = cpL ps o i ++ [copyA p] := by
  unfold cpL
  have h1 : (ps.drop o)[i]? = some p := by rw [List.getElem?_drop]; exact hp
  have hlt := (List.getElem?_eq_some_iff.1 h1).1
  have : (ps.drop o)[i] = p := (List.getElem?_eq_some_iff.1 h1).2
  rw [List.take_succ_eq_append_getElem hlt, this, List.map_append]
  rfl
theorem cpL_length (ps : List AV) (o i : Nat) (h : o + i ≤ ps.length) : (cpL ps o i).length = i := by
  unfold cpL
  rw [List.length_map, List.length_take, List.length_drop]
  omega
theorem cpL_rows (ps : List AV) (o i : Nat) : Rows1 (cpL ps o i) := by
  intro p hp
  obtain ⟨q, _, rfl⟩ := List.mem_map.1 hp
  exact ⟨_, _, _, _, _, rfl, flat_by8 _⟩
theorem cpL_get {ps : List AV} {o n : Nat} {pl : List (List UInt8)} (hpl : PartsAt ps o n pl) {j : Nat} (hj : j < n) {lb : List UInt8} (hlb : pl[j]? = some lb) : (cpL ps o n)[0 + j]? = some (.ros (lb.map by8) 0 lb.length lb.length false) := by
  obtain ⟨_, pc, off, len, cap, ex, hp, hb⟩ := hpl.2.2 j lb hlb
  unfold cpL
  rw [Nat.zero_add, List.getElem?_map, List.getElem?_take, if_pos hj, List.getElem?_drop, hp, Option.map_some, copyA_ros hb, hb.1]
theorem cpL_parts {ps : List AV} {o n : Nat} {pl : List (List UInt8)} (hpl : PartsAt ps o n pl) : PartsAt (cpL ps o n) 0 n pl := by
  refine ⟨hpl.1, hpl.2.1, fun j lb hj => ?_⟩
  have hjn : j < n := by have := (List.getElem?_eq_some_iff.1 hj).1; rw [hpl.1] at this; exact this
  exact ⟨(hpl.2.2 j lb hj).1, _, _, _, _, _, cpL_get hpl hjn hj, bytesAt_whole lb⟩

theorem body13a {ks ps pc : List AV} {l : List UInt8} {o n c off len cap : Nat} {e ex : Bool} {m : Int} {lb : List UInt8} (hks : flatL ks) (hps : Still ps) (hi : 0 < n) (hp : ps[o + 0]? = some (.ros pc off len cap ex)) (hb : BytesAt pc off len lb) (hro : off + len ≤ pc.length) (hlen : len < 68719476736) :
    BodyTo Try.prog 0 lp13a (fr13a .nils l ps o n c e m 0) [.cells ks] .norm (fr13a (.slc 1 0 1 1 1) l ps o n c e m 1) [.cells ks, .cells [copyA (.ros pc off len cap ex)]] := by
  have h1 : BodyTo Try.prog 0 lp13a (fr13a .nils l ps o n c e m 0) [.cells ks] .norm (fr13a (.slc 2 0 1 1 1) l ps o n c e m 1) [.cells ks, .cells (lb.map by8), .cells [.slc 1 0 len len 1]] := by
    refine body_x (noCn_ok _) (noLn_ok _) (noTab_ok _) (n := 100) (g := kdYes) (bs := mk13a) ?_ (by simp)
    rw [vcl13a]
    exact Br.t (by rw [nOfn, nLss]; exact decide_eq_true hi) (ckinr hi ⟨pc, off, len, cap, ex, Nth.mk (by rw [nAdr, Nat.mul_one]; exact hp), Chk.mk (lenB hro) (ckroom (by omega) ⟨rfl, rfl, by rw [extB hb]⟩)⟩)
  have h2 := h1.post (Weak.pickV [0, 2] mk13a 2 (by simp) (by simp) (by simp))
  rw [fr13a_ren (show pickN [0, 2] 0 = some 0 from rfl) hps] at h2
  have e2 : viewF [.cells ks, .cells (lb.map by8), .cells [.slc 1 0 len len 1]] [0, 2] 2 1 = some (lb.map by8) := by
    show some (renL _ _ true _) = _
    rw [renL_flat (flat_by8 _)]
  have p1 : pickN [0, 2] 1 = none := rfl
  have p2 : pickN [0, 2] 2 = some 1 := rfl
  have e3 : pickH (viewF [.cells ks, .cells (lb.map by8), .cells [.slc 1 0 len len 1]] [0, 2] 2) [0, 2] [.cells ks, .cells (lb.map by8), .cells [.slc 1 0 len len 1]] = [.cells ks, .cells [copyA (.ros pc off len cap ex)]] := by
    show [renB _ _ true (.cells ks), renB _ _ true (.cells [.slc 1 0 len len 1])] = _
    rw [copyA_ros hb]
    simp only [renB, renL_flat hks, renL, ren, p1, e2]
  rw [e3] at h2
  simp only [ren, p2] at h2
  exact h2

theorem body13c {ks ps rows pc : List AV} {l : List UInt8} {o n c i off len cap : Nat} {e ex : Bool} {m : Int} {lb : List UInt8} (hks : flatL ks) (hps : Still ps) (hrows : Still rows) (hL : rows.length = i) (hi : i < n) (hn : n < 8589934592) (hp : ps[o + i]? = some (.ros pc off len cap ex)) (hb : BytesAt pc off len lb) (hro : off + len ≤ pc.length) (hlen : len < 68719476736) :
    BodyTo Try.prog 0 lp13a (fr13a (.slc 1 0 i i 1) l ps o n c e m i) [.cells ks, .cells rows] .norm (fr13a (.slc 1 0 (i + 1) (i + 1) 1) l ps o n c e m (i + 1)) [.cells ks, .cells (rows ++ [copyA (.ros pc off len cap ex)])] := by
  have h1 : BodyTo Try.prog 0 lp13a (fr13a (.slc 1 0 i i 1) l ps o n c e m i) [.cells ks, .cells rows] .norm (fr13a (.slc 3 0 (i + 1) (i + 1) 1) l ps o n c e m (i + 1)) [.cells ks, .dead, .cells (lb.map by8), .cells (rows ++ [.slc 2 0 len len 1])] := by
    refine body_x (noCn_ok _) (noLn_ok _) (noTab_ok _) (n := 100) (g := kdYes) (bs := mk13a) ?_ (by simp)
    have e1 : ops0.ext rows 0 (ops0.mul i 1) = rows := by rw [nExt, nTimes, List.drop_zero, List.take_of_length_le (by omega)]
    rw [vcl13c, e1, nAdd (by omega)]
    exact Br.t (by rw [nOfn, nLss]; exact decide_eq_true hi) (ckinr hi ⟨pc, off, len, cap, ex, Nth.mk (by rw [nAdr, Nat.mul_one]; exact hp), Chk.mk (lenB hro) (ckroom (by omega) (Chk.mk (by rw [nLe, nPlus, nTimes, nLen]; exact decide_eq_true (by omega)) (ckroom (by omega) ⟨rfl, rfl, by rw [extB hb]; rfl⟩)))⟩)
  have h2 := h1.post (Weak.pickV [0, 3] mk13a 2 (by simp) (by simp) (by simp))
  rw [fr13a_ren (show pickN [0, 3] 0 = some 0 from rfl) hps] at h2
  have e2 : viewF [.cells ks, .dead, .cells (lb.map by8), .cells (rows ++ [.slc 2 0 len len 1])] [0, 3] 2 2 = some (lb.map by8) := by
    show some (renL _ _ true _) = _
    rw [renL_flat (flat_by8 _)]
  have p1 : pickN [0, 3] 2 = none := rfl
  have p2 : pickN [0, 3] 3 = some 1 := rfl
  have e3 : pickH (viewF [.cells ks, .dead, .cells (lb.map by8), .cells (rows ++ [.slc 2 0 len len 1])] [0, 3] 2) [0, 3] [.cells ks, .dead, .cells (lb.map by8), .cells (rows ++ [.slc 2 0 len len 1])] = [.cells ks, .cells (rows ++ [copyA (.ros pc off len cap ex)])] := by
    show [renB _ _ true (.cells ks), renB _ _ true (.cells (rows ++ [.slc 2 0 len len 1]))] = _
    rw [copyA_ros hb]
    simp only [renB, renL_flat hks, renL_append, hrows _ _, renL, ren, p1, e2]
  rw [e3] at h2
  simp only [ren, p2] at h2
  exact h2

def S13 (ks ps : List AV) (l : List UInt8) (o n c : Nat) (e : Bool) (m : Int) : Nat → Fr × Hl
  | 0 => (fr13a .nils l ps o n c e m 0, [.cells ks])
  | i + 1 => (fr13a (.slc 1 0 (i + 1) (i + 1) 1) l ps o n c e m (i + 1), [.cells ks, .cells (cpL ps o (i + 1))])

theorem loop13a {ks ps : List AV} (l : List UInt8) {o n : Nat} (c : Nat) (e : Bool) (m : Int) (hks : flatL ks) (h : PTag ps o n) :
    ∀ lg, LoopTo Try.prog 0 lp13a (fr13a .nils l ps o n c e m 0) [.cells ks] lg (.exit 0) (fr13a (.ros (cpL ps o n) 0 n n false) l ps o n c e m n) [.cells ks] (List.range 0 ++ lg) := by
  obtain ⟨⟨hr1, pl, hpl⟩, hroom, htot⟩ := h
  have hstill := hr1.still
  have hpe : partsL ps o n = pl := hpl.parts
  have hge := textL_ge (partsL ps o n)
  rw [hpe, hpl.1] at hge
  rw [hpe] at htot
  have hlens : ∀ (j : Nat) lb, pl[j]? = some lb → lb.length < 68719476736 := by
    intro j lb hj
    have h1 : (textL [lb]).length ≤ (textL pl).length := by
      obtain ⟨a, b, rfl⟩ := List.append_of_mem (List.mem_of_getElem? hj)
      unfold textL
      simp only [List.map_append, List.map_cons, List.flatten_append, List.flatten_cons, List.length_append, List.map_nil, List.flatten_nil, List.length_nil]
      omega
    have h2 : (textL [lb]).length = 8 + lb.length := by unfold textL; simp [bytesN_length]
    omega
  refine loop_chain (P := Try.prog) (n0 := 0) (b := lp13a) (ex := .exit 0) (by intro h; cases h) (S13 ks ps l o n c e m) n 0 (fun i _ hi => ?_) ?_
  · have hi' : i < n := by omega
    have hlt : i < pl.length := by rw [hpl.1]; exact hi'
    obtain ⟨hl, pc, off, len, cap, ex, hp, hb⟩ := hpl.2.2 i pl[i] (List.getElem?_eq_getElem hlt)
    have hlen : len < 68719476736 := by have := hb.1; have := hlens i _ (List.getElem?_eq_getElem hlt); omega
    have hro := hroom i hi' _ _ _ _ _ hp
    have hsucc := cpL_succ ps o i hp
    cases i with
    | zero =>
      have h2 := body13a (l := l) (c := c) (e := e) (m := m) hks hstill hi' hp hb hro hlen
      rw [cpL_zero] at hsucc
      show BodyTo _ _ _ _ _ _ _ [.cells ks, .cells (cpL ps o (0 + 1))]
      rw [hsucc]
      exact h2
    | succ i =>
      have h2 := body13c (l := l) (c := c) (e := e) (m := m) hks hstill (cpL_rows ps o (i + 1)).still (cpL_length ps o (i + 1) (by have := hpl.lt (by omega); omega)) hi' (by omega) hp hb hro hlen
      show BodyTo _ _ _ _ _ _ _ [.cells ks, .cells (cpL ps o (i + 1 + 1))]
      rw [hsucc]
      exact h2
  · rw [Nat.zero_add]
    cases n with
    | zero =>
      have h1 : BodyTo Try.prog 0 lp13a (fr13a .nils l ps o 0 c e m 0) [.cells ks] (.exit 0) (fr13a .nils l ps o 0 c e m 0) [.cells ks] := by
        refine body_x (noCn_ok _) (noLn_ok _) (noTab_ok _) (n := 100) (g := kdYes) (bs := mk13a) ?_ (by simp)
        rw [vcl13a]
        exact Br.f rfl ⟨rfl, rfl, rfl⟩
      refine h1.post (Weak.le (by simp) ?_)
      rw [cpL_zero]
      exact FLe.put (fr := fr13a .nils l ps o 0 c e m 0) (k := 9) rfl (fun ρ w v h => VLe.loose _ _ _ _ _ ρ w v (VLe.nils ρ w v h))
    | succ n =>
      have h1 : BodyTo Try.prog 0 lp13a (fr13a (.slc 1 0 (n + 1) (n + 1) 1) l ps o (n + 1) c e m (n + 1)) [.cells ks, .cells (cpL ps o (n + 1))] (.exit 0) (fr13a (.slc 1 0 (n + 1) (n + 1) 1) l ps o (n + 1) c e m (n + 1)) [.cells ks, .cells (cpL ps o (n + 1))] := by
        refine body_x (noCn_ok _) (noLn_ok _) (noTab_ok _) (n := 100) (g := kdYes) (bs := mk13a) ?_ (by simp)
        rw [vcl13c]
        exact Br.f (by rw [nOfn, nLss]; exact decide_eq_false (by omega)) ⟨rfl, rfl, rfl⟩
      have h2 := h1.post (Weak.pickV [0] mk13a 2 (by simp) (by simp) (by simp))
      rw [fr13a_ren (show pickN [0] 0 = some 0 from rfl) hstill] at h2
      have e2 : viewF [.cells ks, .cells (cpL ps o (n + 1))] [0] 2 1 = some (cpL ps o (n + 1)) := by
        show some (renL _ _ true _) = _
        rw [(cpL_rows ps o (n + 1)).still]
      have p2 : pickN [0] 1 = none := rfl
      have e3 : pickH (viewF [.cells ks, .cells (cpL ps o (n + 1))] [0] 2) [0] [.cells ks, .cells (cpL ps o (n + 1))] = [.cells ks] := by
        show [renB _ _ true (.cells ks)] = _
        simp only [renB, renL_flat hks]
      rw [e3] at h2
      simp only [ren, p2, e2] at h2
      exact h2

theorem loop13b (y1 y2 y3 : List AV) {rs ps : List AV} {o n : Nat} (c : Nat) (e : Bool) (h : P13b rs ps o n) :
    ∀ lg, LoopTo Try.prog 0 lp13b (fr13b rs n (.ros ps o n c e) 0) [.cells y1, .cells y2, .cells y3] lg (.exit 2) (fr13b rs n (.ros ps o n c e) n) [.cells y1, .cells y2, .cells y3] (List.range 0 ++ lg) := by
  refine loop_chain (P := Try.prog) (n0 := 0) (b := lp13b) (ex := .exit 2) (by intro h; cases h) (fun i => (fr13b rs n (.ros ps o n c e) i, [.cells y1, .cells y2, .cells y3])) n 0 (fun i _ hi => ?_) ?_
  · have hi' : i < n := by omega
    obtain ⟨hn, hget⟩ := h
    obtain ⟨lb, pc, off, len, cap, ex, qc, off', cap', ex', q1, q2, q3, r1, r2, r3⟩ := hget i hi'
    refine body_x (noCn_ok _) (noLn_ok _) (noTab_ok _) (n := 100) (g := kdYes) (bs := mk13b) ?_ (by simp)
    rw [vcl13b, nAdd (by omega)]
    refine Br.t (by rw [nOfn, nLss]; exact decide_eq_true hi') (ckinr hi' ⟨qc, off', len, cap', ex', Nth.mk (by rw [nAdr, Nat.mul_one]; exact q1), Chk.mk (lenB q3) ?_⟩)
    rw [extB q2]
    refine strEx (ckinr hi' ⟨pc, off, len, cap, ex, Nth.mk (by rw [nAdr, Nat.mul_one]; exact r1), Chk.mk (lenB r3) ?_⟩)
    rw [extB r2]
    exact strEx (brEqs_t rfl ⟨rfl, rfl, rfl⟩)
  · rw [Nat.zero_add]
    refine body_x (noCn_ok _) (noLn_ok _) (noTab_ok _) (n := 100) (g := kdYes) (bs := mk13b) ?_ (by simp)
    rw [vcl13b]
    exact Br.f (by rw [nOfn, nLss]; exact decide_eq_false (by omega)) ⟨rfl, rfl, rfl⟩

theorem ln13_ok : LnOK Try.prog (ln13 xf0) := by
  intro n0 b fr H p x e hn hp lg
  unfold ln13 at e
  split at e <;> cases e
  · rename_i l ps o n c e m ks h1 h2 h3 h4 h5
    obtain ⟨rfl, hb, hf, hks, hp⟩ := hp
    have hb : b = lp13a := hb
    subst hb
    refine LoopTo.pre (Weak.forget (by simp) mk13a) ?_ lg
    rw [hf]
    exact loop13a l c e m hks hp
  · rename_i ps o n c e rs n2 c2 e2 y1 y2 y3 h1 h2 h3
    obtain ⟨rfl, hb, hf, hp⟩ := hp
    have hb : b = lp13b := hb
    subst hb
    refine LoopTo.pre (Weak.forget (by simp) mk13b) ?_ lg
    rw [hf]
    exact loop13b y1 y2 y3 c e hp

theorem law13 {key l : List UInt8} (hk : key.length = 32) {ps : List AV} {o n : Nat} (c : Nat) (e : Bool) (m : Nat) (h : PTag ps o n) :
    ∃ H' lg, CallTo Try.prog 13 [.agg (key.map by8), .str l, .ros ps o n c e, .int .u64 (Int.ofNat m)] [] (.bool true) H' lg := by
  have hv : vcall (vcA kdYes (cnL4 hf0) (ln13 xf0)) ops0 (tabOne 13 vf13) 300 vf13 [.agg (key.map by8), .str l, .ros ps o n c e, .int .u64 (Int.ofNat m)] [] (fun r _ _ => r = .bool true) := by
    have h0 := h
    obtain ⟨⟨hr1, pl, hpl⟩, hroom, htot⟩ := h
    have hge := textL_ge (partsL ps o n)
    have hpe : partsL ps o n = pl := hpl.parts
    have e0 : XF.rows xf0 ps o n = cpL ps o n := rfl
    rw [vc13, key_ext hk, e0, map_vw1 _ (cpL_rows ps o n), map_vw1 _ hr1]
    have hpc : partsL (cpL ps o n) 0 n = pl := (cpL_parts hpl).parts
    have tg : PTag (cpL ps o n) 0 n := by
      refine ⟨⟨cpL_rows ps o n, pl, cpL_parts hpl⟩, fun j hj pc off len cap ex hp => ?_, by rw [hpc, ← hpe]; exact htot⟩
      have hlt : j < pl.length := by rw [hpl.1]; exact hj
      have := cpL_get hpl hj (List.getElem?_eq_getElem hlt)
      rw [this] at hp
      cases hp
      simp
    rw [hpc, hpe, htag_eq]
    have n1 := tag_len32 key l pl
    have e1 : HF.drv hf0 (key.map by8) l (Int.ofNat m) = (tagL key l [bytesN m]).map by8 := by
      show (tagL (bytesA (key.map by8)) l [bytesN m]).map by8 = _
      rw [bytesA_by8]
    have e2 : MF.bytes (NF.toMF (NG.toNF (HF.toNG hf0))) (Int.ofNat m) = (bytesN m).map by8 := rfl
    have n2 := tag_len32 key l [bytesN m]
    have e3 : ops0.ext ((bytesN m).map by8) 0 8 = (bytesN m).map by8 := rfl
    rw [e1, e2, ext32 n1, ext32 n2, e3]
    refine ⟨⟨rfl, rfl, rfl, flat_by8 _, h0⟩, trivial, Chk.mk (key_len hk) ⟨⟨pkey key hk, tg⟩, Chk.mk (key_len hk) ⟨⟨pkey key hk, h0⟩, Chk.mk (eq32 n1) (Chk.mk (eq32 n1) (Chk.mk (le32 n1) (Chk.mk (le32 n1) (intEx (intEx (brEqi_t rfl ?_))))))⟩⟩⟩
    refine Chk.mk (key_len hk) ⟨⟨pkey key hk, Int.natCast_nonneg _⟩, Chk.mk (key_len hk) ⟨⟨pkey key hk, Int.natCast_nonneg _⟩, Chk.mk (eq32 n2) (Chk.mk (eq32 n2) (Chk.mk (le32 n2) (Chk.mk (le32 n2) (intEx (intEx (brEqi_t rfl ?_))))))⟩⟩
    refine ⟨Int.natCast_nonneg _, Chk.mk rfl (strEx ⟨Int.natCast_nonneg _, Chk.mk rfl (strEx (brEqs_t rfl ⟨⟨rfl, rfl, rfl, hpl.2.1, fun j hj => ?_⟩, rfl⟩))⟩)⟩
    have hlt : j < pl.length := by rw [hpl.1]; exact hj
    obtain ⟨_, pc, off, len, cap, ex, hp, hb⟩ := hpl.2.2 j pl[j] (List.getElem?_eq_getElem hlt)
    have hl := hb.1
    have g := cpL_get hpl hj (List.getElem?_eq_getElem hlt)
    rw [hl] at g
    have hw := bytesAt_whole pl[j]
    rw [hl] at hw
    exact ⟨pl[j], pc, off, len, cap, ex, _, _, _, _, g, hw, by rw [List.length_map]; omega, hp, hb, hroom j hj _ _ _ _ _ hp⟩
  obtain ⟨r, H', lg, hc, rfl⟩ := call_vcx cnL4_ok ln13_ok (tabOne_ok ok13) (tabOne_self 13 vf13) hv
  exact ⟨H', lg, hc⟩

end
end Go.Proofs.Vm
