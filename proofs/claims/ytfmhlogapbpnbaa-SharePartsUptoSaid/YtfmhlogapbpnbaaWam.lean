/-
  ARGUMENTS AS THE MACHINE SEES THEM, PART 3: shares (slices of arrays of 32 bytes).
-/
import Derived.Test.YtfmhlogapbpnbaaWal
import Derived.Test.YtfmhlogapbpnbaaRows
import Derived.ProofKit

namespace Go.Proofs.Vm
open Go.Vm Go.ChangeShapes Go.WideShapes Go.ChangeAt Go.RowKit

set_option maxRecDepth 100000

/-- Values side by side in memory, none of which names anything. -/
theorem open_row {W : World} {a : Addr} {n m : Nat} {avs : List AV} {vs : List Value} (ha : avs.length = m) (hv : vs.length = m) (hone : ∀ v ∈ vs, vone v = true)
    (hrel : ∀ (i : Nat) x v, avs[i]? = some x → vs[i]? = some v → VRel noRho W x v) (hcell : ∀ (i : Nat) v, vs[i]? = some v → W.cell? (a.add i) = some v) {cap : Nat} (hcap : n ≤ cap) (hs : a.spot = none) :
    VRel noRho W (.ros avs 0 n n false) (.slice (some a) n cap) := by
  have hspot : avs ≠ [] → a = ⟨a.block, a.off, none⟩ ∧ a.block < W.heap.size := by
    intro hn
    have h0 : 0 < vs.length := by
      rw [hv, ← ha]
      exact List.length_pos_iff.2 hn
    have h1 := hcell 0 vs[0] (List.getElem?_eq_getElem h0)
    have e0 : a.add 0 = a := by simp [Addr.add]
    rw [e0] at h1
    exact spot_of h1
  refine .ros avs 0 n n false a.block a.off (some a) cap vs (fun hn => (hspot hn).2) (fun _ b F' h => by cases h) (by omega) hone ?_ hrel (by omega) (by omega) (fun h => by cases h) (fun _ => by obtain ⟨b, o, s⟩ := a; cases hs; rfl)
  intro i v hi
  have hlt : i < vs.length := (List.getElem?_eq_some_iff.1 hi).1
  have hne : avs ≠ [] := by intro e; rw [e] at ha; simp at ha; omega
  have h1 := hcell i v hi
  rw [(hspot hne).1, add_none] at h1
  exact h1

theorem pick_row {α : Type} {n : Nat} {R : Nat → α → Prop} (h : ∀ i, i < n → ∃ x, R i x) : ∃ l : List α, l.length = n ∧ ∀ (i : Nat) x, l[i]? = some x → R i x := by
  induction n with
  | zero => exact ⟨[], rfl, fun i x hx => by cases hx⟩
  | succ n ih =>
    obtain ⟨l, h1, h2⟩ := ih fun i hi => h i (by omega)
    obtain ⟨x, hx⟩ := h n (by omega)
    refine ⟨l ++ [x], by simp [h1], fun i y hy => ?_⟩
    rcases Nat.lt_or_ge i n with hi | hi
    · rw [List.getElem?_append_left (by omega)] at hy
      exact h2 i y hy
    · have hlt : i < (l ++ [x]).length := (List.getElem?_eq_some_iff.1 hy).1
      have hin : i = n := by simp [h1] at hlt; omega
      subst hin
      rw [List.getElem?_append_right (by omega), h1, Nat.sub_self] at hy
      cases hy
      exact hx

theorem flat_get {L : List (List UInt8)} (h : ∀ x, x ∈ L → x.length = 32) {j : Nat} {b : UInt8} (hj : L.flatten[j]? = some b) : ∃ x, L[j / 32]? = some x ∧ x[j % 32]? = some b := by
  have hlt : j < L.flatten.length := (List.getElem?_eq_some_iff.1 hj).1
  have hi : j / 32 < L.length := by rw [flat_len h] at hlt; omega
  have hx := List.getElem?_eq_getElem hi
  refine ⟨L[j / 32], hx, ?_⟩
  have hd := sh_drop [] L (j / 32) L[j / 32] h hx
  rw [List.append_nil] at hd
  have e1 : ((L.flatten.map by8).drop (j / 32 * 32)).take 32 = ((L.flatten.drop (j / 32 * 32)).take 32).map by8 := by rw [List.map_take, List.map_drop]
  rw [e1] at hd
  have hd2 : (L.flatten.drop (j / 32 * 32)).take 32 = L[j / 32] := by
    have := congrArg bytesA hd
    rwa [bytesA_by8, bytesA_by8] at this
  rw [← hd2, List.getElem?_take, if_pos (by omega), List.getElem?_drop, show j / 32 * 32 + j % 32 = j by omega]
  exact hj

/-- A slice of shares that came in. -/
theorem open_shares {H : Type} {enc : TypeId × Value → H} {W : World} {base : Nat} {t e u : TypeId} {v : Value} {d : DataW H} {p : List MemPlace} (ht : Try.prog.underlying t = some (.slice e)) (he : Try.prog.underlying e = some (.array 32 u))
    (hu : Try.prog.underlying u = some (.int .u8)) (hc : Try.prog.cellsOf e = 32) (hcu : Try.prog.cellsOf u = 1) (hval : Value.okWide Try.prog W .any base t v) (h : DataW.Trod enc Try.prog W 0 (fun _ => true) true t v d p)
    (hb : Ytfmhlogapbpnbaa.Rows.uptoBulk d ≤ 1048576) : ∃ (cs : List AV) (n c : Nat) (ex : Bool), VRel noRho W (.ros cs 0 n c ex) v ∧ PSh cs 0 n := by
  obtain ⟨a0, len, cap, rfl⟩ := okWide_slice ht hval
  obtain ⟨fuel, hf⟩ := h
  rcases DataW.trod_slice ht hf with ⟨hcs, hx⟩ | ⟨a, len', cap', elems, rest, n, _, hcs, hx, _, hl, hm, hlen, hel, hsp, hns⟩
  · simp [Value.cells] at hcs
    obtain ⟨rfl, rfl, rfl⟩ := hcs
    exact ⟨[], 0, 0, true, .ros [] 0 0 0 true 0 0 none 0 [] (fun h => absurd rfl h) (fun h => absurd rfl h) rfl (by simp) (by simp) (by simp) (Nat.le_refl _) (Nat.le_refl _) (fun _ => rfl) (fun h => absurd rfl h),
      psh_flat (L := []) (fun x hx => by cases hx) (by decide) rfl⟩
  · simp [Value.cells] at hcs
    obtain ⟨rfl, rfl, rfl⟩ := hcs
    simp only [Prod.mk.injEq] at hx
    obtain ⟨rfl, _⟩ := hx
    have hbl := Nat.le_trans (bulk_slice (elems.map (·.1)) (rest.map (·.1))) hb
    rw [List.length_map, hlen] at hbl
    have hspot : a.spot = none := by
      simp only [Value.okWide, ht, Cell.okWide, Cell.ok] at hval
      exact hval.2.2.2.1
    have each : ∀ i, i < len → ∃ x : List UInt8, x.length = 32 ∧ ∀ (k : Nat) b, x[k]? = some b → W.cell? (a.add (i * 32 + k)) = some (.int .u8 (Int.ofNat b.toNat)) := by
      intro i hi
      have h1 := hel i hi
      rw [hc, List.getElem?_eq_getElem (by omega), Option.bind_eq_some_iff] at h1
      obtain ⟨cs', hcs', hy⟩ := h1
      obtain ⟨xs, m, _, _, hl1, hl2, hk⟩ := DataW.trod_array he hy
      obtain ⟨_, hlc, hcell⟩ := World.cells?_some hcs'
      have cell : ∀ k, k < 32 → ∃ b : UInt8, cs'[k]? = some (.int .u8 (Int.ofNat b.toNat)) := by
        intro k hk32
        have h2 := hk k hk32
        rw [hcu, Nat.mul_one, List.getElem?_eq_getElem (by omega)] at h2
        obtain ⟨z, hz, _, hw⟩ := DataW.trod_int hu h2
        have hzz : cs'[k]? = some (.int .u8 z) := by
          have := congrArg (fun l => l[0]?) hz
          simpa using this
        have hx : 0 ≤ z ∧ z ≤ 255 := by simpa [Lit.wf, IntKind.min, IntKind.max, IntKind.signed, IntKind.bits] using hw
        refine ⟨UInt8.ofNat z.toNat, ?_⟩
        rw [hzz, UInt8.toNat_ofNat_of_lt' (by show _ < 256; omega)]
        congr 2
        simp only [Int.ofNat_eq_natCast]
        omega
      obtain ⟨x, hx1, hx2⟩ := pick_row cell
      refine ⟨x, hx1, fun k b hkb => ?_⟩
      have hk32 : k < 32 := by
        have := (List.getElem?_eq_some_iff.1 hkb).1
        omega
      have h3 := hcell k hk32
      rw [hx2 k b hkb] at h3
      have e2 : (a.add (i * 32)).add k = a.add (i * 32 + k) := by
        obtain ⟨b, o, s⟩ := a
        cases hspot
        rw [add_none, add_none, add_none, Nat.add_assoc]
      rw [e2] at h3
      exact h3
    obtain ⟨L, hL1, hL2⟩ := pick_row each
    have h32 : ∀ x, x ∈ L → x.length = 32 := by
      intro x hx
      obtain ⟨i, hi⟩ := List.getElem?_of_mem hx
      exact (hL2 i x hi).1
    refine ⟨L.flatten.map by8, len, len, false, open_row (m := L.flatten.length) (vs := L.flatten.map fun b => Value.int .u8 (Int.ofNat b.toNat)) (by rw [List.length_map]) (by rw [List.length_map]) ?_ ?_ ?_ hl hspot, psh_flat h32 (by omega) hL1.symm⟩
    · intro x hx; obtain ⟨b, _, rfl⟩ := List.mem_map.1 hx; rfl
    · intro i x v hx hv
      rw [List.getElem?_map] at hx hv
      obtain ⟨b, hb, rfl⟩ := Option.map_eq_some_iff.1 hx
      rw [hb] at hv
      cases hv
      exact .int _ _
    · intro j v hv
      rw [List.getElem?_map] at hv
      obtain ⟨b, hb, rfl⟩ := Option.map_eq_some_iff.1 hv
      obtain ⟨x, hx1, hx2⟩ := flat_get h32 hb
      have h4 := (hL2 (j / 32) x hx1).2 (j % 32) b hx2
      rw [show j / 32 * 32 + j % 32 = j by omega] at h4
      exact h4

end Go.Proofs.Vm

namespace Go.Proofs.Vm

def headCh : List Char := [.ofNat 104, .ofNat 97, .ofNat 114, .ofNat 110, .ofNat 101, .ofNat 115, .ofNat 115, .ofNat 32, .ofNat 100, .ofNat 54, .ofNat 52, .ofNat 53, .ofNat 48, .ofNat 50, .ofNat 49, .ofNat 51, .ofNat 48, .ofNat 98, .ofNat 53, .ofNat 98, .ofNat 101, .ofNat 48, .ofNat 48, .ofNat 99, .ofNat 98, .ofNat 48, .ofNat 100, .ofNat 97, .ofNat 57, .ofNat 49, .ofNat 98, .ofNat 102, .ofNat 56, .ofNat 55, .ofNat 97, .ofNat 52, .ofNat 102, .ofNat 48, .ofNat 102, .ofNat 100, .ofNat 51, .ofNat 99, .ofNat 56, .ofNat 102, .ofNat 49, .ofNat 52, .ofNat 102, .ofNat 101, .ofNat 98, .ofNat 50, .ofNat 53, .ofNat 53, .ofNat 99, .ofNat 97, .ofNat 51, .ofNat 57, .ofNat 55, .ofNat 54, .ofNat 57, .ofNat 54, .ofNat 50, .ofNat 55, .ofNat 51, .ofNat 50, .ofNat 102, .ofNat 100, .ofNat 99, .ofNat 56, .ofNat 54, .ofNat 56, .ofNat 100, .ofNat 97, .ofNat 32, .ofNat 99, .ofNat 117, .ofNat 116, .ofNat 32, .ofNat 97, .ofNat 116, .ofNat 32, .ofNat 116, .ofNat 111, .ofNat 108, .ofNat 108, .ofNat 104, .ofNat 111, .ofNat 117, .ofNat 115, .ofNat 101, .ofNat 47, .ofNat 116, .ofNat 111, .ofNat 108, .ofNat 108, .ofNat 104, .ofNat 111, .ofNat 117, .ofNat 115, .ofNat 101, .ofNat 108, .ofNat 97, .ofNat 119, .ofNat 48, .ofNat 51, .ofNat 46, .ofNat 75, .ofNat 101, .ofNat 99, .ofNat 99, .ofNat 97, .ofNat 107, .ofNat 83, .ofNat 117, .ofNat 109, .ofNat 115, .ofNat 32, .ofNat 116, .ofNat 111, .ofNat 108, .ofNat 108, .ofNat 104, .ofNat 111, .ofNat 117, .ofNat 115, .ofNat 101, .ofNat 47, .ofNat 116, .ofNat 111, .ofNat 108, .ofNat 108, .ofNat 104, .ofNat 111, .ofNat 117, .ofNat 115, .ofNat 101, .ofNat 108, .ofNat 97, .ofNat 119, .ofNat 48, .ofNat 51, .ofNat 46, .ofNat 75, .ofNat 101, .ofNat 99, .ofNat 99, .ofNat 97, .ofNat 107, .ofNat 83, .ofNat 116, .ofNat 114, .ofNat 101, .ofNat 97, .ofNat 109, .ofNat 115, .ofNat 32, .ofNat 116, .ofNat 111, .ofNat 108, .ofNat 108, .ofNat 104, .ofNat 111, .ofNat 117, .ofNat 115, .ofNat 101, .ofNat 47, .ofNat 116, .ofNat 111, .ofNat 108, .ofNat 108, .ofNat 104, .ofNat 111, .ofNat 117, .ofNat 115, .ofNat 101, .ofNat 108, .ofNat 97, .ofNat 119, .ofNat 48, .ofNat 51, .ofNat 46, .ofNat 75, .ofNat 101, .ofNat 99, .ofNat 99, .ofNat 97, .ofNat 107, .ofNat 76, .ofNat 101, .ofNat 110, .ofNat 103, .ofNat 116, .ofNat 104, .ofNat 115, .ofNat 32, .ofNat 116, .ofNat 111, .ofNat 108, .ofNat 108, .ofNat 104, .ofNat 111, .ofNat 117, .ofNat 115, .ofNat 101, .ofNat 47, .ofNat 116, .ofNat 111, .ofNat 108, .ofNat 108, .ofNat 104, .ofNat 111, .ofNat 117, .ofNat 115, .ofNat 101, .ofNat 108, .ofNat 97, .ofNat 119, .ofNat 48, .ofNat 51, .ofNat 46, .ofNat 75, .ofNat 101, .ofNat 99, .ofNat 99, .ofNat 97, .ofNat 107, .ofNat 80, .ofNat 105, .ofNat 101, .ofNat 99, .ofNat 101, .ofNat 115, .ofNat 32, .ofNat 116, .ofNat 111, .ofNat 108, .ofNat 108, .ofNat 104, .ofNat 111, .ofNat 117, .ofNat 115, .ofNat 101, .ofNat 47, .ofNat 116, .ofNat 111, .ofNat 108, .ofNat 108, .ofNat 104, .ofNat 111, .ofNat 117, .ofNat 115, .ofNat 101, .ofNat 108, .ofNat 97, .ofNat 119, .ofNat 48, .ofNat 51, .ofNat 46, .ofNat 75, .ofNat 101, .ofNat 99, .ofNat 99, .ofNat 97, .ofNat 107, .ofNat 80, .ofNat 97, .ofNat 114, .ofNat 116, .ofNat 115, .ofNat 32, .ofNat 116, .ofNat 111, .ofNat 108, .ofNat 108, .ofNat 104, .ofNat 111, .ofNat 117, .ofNat 115, .ofNat 101, .ofNat 47, .ofNat 116, .ofNat 111, .ofNat 108, .ofNat 108, .ofNat 104, .ofNat 111, .ofNat 117, .ofNat 115, .ofNat 101, .ofNat 108, .ofNat 97, .ofNat 119, .ofNat 48, .ofNat 51, .ofNat 46, .ofNat 75, .ofNat 101, .ofNat 99, .ofNat 99, .ofNat 97, .ofNat 107, .ofNat 82, .ofNat 111, .ofNat 117, .ofNat 110, .ofNat 100, .ofNat 115, .ofNat 32, .ofNat 116, .ofNat 111, .ofNat 108, .ofNat 108, .ofNat 104, .ofNat 111, .ofNat 117, .ofNat 115, .ofNat 101, .ofNat 47, .ofNat 116, .ofNat 111, .ofNat 108, .ofNat 108, .ofNat 104, .ofNat 111, .ofNat 117, .ofNat 115, .ofNat 101, .ofNat 108, .ofNat 97, .ofNat 119, .ofNat 48, .ofNat 51, .ofNat 46, .ofNat 75, .ofNat 101, .ofNat 99, .ofNat 99, .ofNat 97, .ofNat 107, .ofNat 84, .ofNat 117, .ofNat 114, .ofNat 110, .ofNat 115, .ofNat 32, .ofNat 116, .ofNat 111, .ofNat 108, .ofNat 108, .ofNat 104, .ofNat 111, .ofNat 117, .ofNat 115, .ofNat 101, .ofNat 47, .ofNat 116, .ofNat 111, .ofNat 108, .ofNat 108, .ofNat 104, .ofNat 111, .ofNat 117, .ofNat 115, .ofNat 101, .ofNat 108, .ofNat 97, .ofNat 119, .ofNat 48, .ofNat 52, .ofNat 46, .ofNat 77, .ofNat 97, .ofNat 99, .ofNat 77, .ofNat 97, .ofNat 115, .ofNat 107, .ofNat 115, .ofNat 32, .ofNat 116, .ofNat 111, .ofNat 108, .ofNat 108, .ofNat 104, .ofNat 111, .ofNat 117, .ofNat 115, .ofNat 101, .ofNat 47, .ofNat 116, .ofNat 111, .ofNat 108, .ofNat 108, .ofNat 104, .ofNat 111, .ofNat 117, .ofNat 115, .ofNat 101, .ofNat 108, .ofNat 97, .ofNat 119, .ofNat 48, .ofNat 52, .ofNat 46, .ofNat 77, .ofNat 97, .ofNat 99, .ofNat 80, .ofNat 97, .ofNat 114, .ofNat 116, .ofNat 115, .ofNat 32, .ofNat 116, .ofNat 111, .ofNat 108, .ofNat 108, .ofNat 104, .ofNat 111, .ofNat 117, .ofNat 115, .ofNat 101, .ofNat 47, .ofNat 116, .ofNat 111, .ofNat 108, .ofNat 108, .ofNat 104, .ofNat 111, .ofNat 117, .ofNat 115, .ofNat 101, .ofNat 108, .ofNat 97, .ofNat 119, .ofNat 48, .ofNat 52, .ofNat 46, .ofNat 77, .ofNat 97, .ofNat 99, .ofNat 77, .ofNat 97, .ofNat 115, .ofNat 107, .ofNat 69, .ofNat 97, .ofNat 99, .ofNat 104, .ofNat 32, .ofNat 116, .ofNat 111, .ofNat 108, .ofNat 108, .ofNat 104, .ofNat 111, .ofNat 117, .ofNat 115, .ofNat 101, .ofNat 47, .ofNat 116, .ofNat 111, .ofNat 108, .ofNat 108, .ofNat 104, .ofNat 111, .ofNat 117, .ofNat 115, .ofNat 101, .ofNat 108, .ofNat 97, .ofNat 119, .ofNat 48, .ofNat 52, .ofNat 46, .ofNat 77, .ofNat 97, .ofNat 99, .ofNat 84, .ofNat 97, .ofNat 103, .ofNat 115, .ofNat 32, .ofNat 116, .ofNat 111, .ofNat 108, .ofNat 108, .ofNat 104, .ofNat 111, .ofNat 117, .ofNat 115, .ofNat 101, .ofNat 47, .ofNat 116, .ofNat 111, .ofNat 108, .ofNat 108, .ofNat 104, .ofNat 111, .ofNat 117, .ofNat 115, .ofNat 101, .ofNat 108, .ofNat 97, .ofNat 119, .ofNat 48, .ofNat 52, .ofNat 46, .ofNat 77, .ofNat 97, .ofNat 99, .ofNat 69, .ofNat 113, .ofNat 117, .ofNat 97, .ofNat 108, .ofNat 32, .ofNat 116, .ofNat 111, .ofNat 108, .ofNat 108, .ofNat 104, .ofNat 111, .ofNat 117, .ofNat 115, .ofNat 101, .ofNat 47, .ofNat 116, .ofNat 111, .ofNat 108, .ofNat 108, .ofNat 104, .ofNat 111, .ofNat 117, .ofNat 115, .ofNat 101, .ofNat 108, .ofNat 97, .ofNat 119, .ofNat 48, .ofNat 52, .ofNat 46, .ofNat 77, .ofNat 97, .ofNat 99, .ofNat 66, .ofNat 121, .ofNat 116, .ofNat 101, .ofNat 115, .ofNat 32, .ofNat 116, .ofNat 111, .ofNat 108, .ofNat 108, .ofNat 104, .ofNat 111, .ofNat 117, .ofNat 115, .ofNat 101, .ofNat 47, .ofNat 116, .ofNat 111, .ofNat 108, .ofNat 108, .ofNat 104, .ofNat 111, .ofNat 117, .ofNat 115, .ofNat 101, .ofNat 108, .ofNat 97, .ofNat 119, .ofNat 48, .ofNat 56, .ofNat 46, .ofNat 83, .ofNat 104, .ofNat 97, .ofNat 114, .ofNat 101, .ofNat 83, .ofNat 112, .ofNat 108, .ofNat 105, .ofNat 116, .ofNat 115, .ofNat 32, .ofNat 116, .ofNat 111, .ofNat 108, .ofNat 108, .ofNat 104, .ofNat 111, .ofNat 117, .ofNat 115, .ofNat 101, .ofNat 47, .ofNat 116, .ofNat 111, .ofNat 108, .ofNat 108, .ofNat 104, .ofNat 111, .ofNat 117, .ofNat 115, .ofNat 101, .ofNat 108, .ofNat 97, .ofNat 119, .ofNat 48, .ofNat 56, .ofNat 46, .ofNat 83, .ofNat 104, .ofNat 97, .ofNat 114, .ofNat 101, .ofNat 76, .ofNat 97, .ofNat 119, .ofNat 115, .ofNat 32, .ofNat 116, .ofNat 111, .ofNat 108, .ofNat 108, .ofNat 104, .ofNat 111, .ofNat 117, .ofNat 115, .ofNat 101, .ofNat 47, .ofNat 116, .ofNat 111, .ofNat 108, .ofNat 108, .ofNat 104, .ofNat 111, .ofNat 117, .ofNat 115, .ofNat 101, .ofNat 108, .ofNat 97, .ofNat 119, .ofNat 48, .ofNat 56, .ofNat 46, .ofNat 83, .ofNat 104, .ofNat 97, .ofNat 114, .ofNat 101, .ofNat 80, .ofNat 97, .ofNat 114, .ofNat 116, .ofNat 115, .ofNat 32, .ofNat 116, .ofNat 111, .ofNat 108, .ofNat 108, .ofNat 104, .ofNat 111, .ofNat 117, .ofNat 115, .ofNat 101, .ofNat 47, .ofNat 116, .ofNat 111, .ofNat 108, .ofNat 108, .ofNat 104, .ofNat 111, .ofNat 117, .ofNat 115, .ofNat 101, .ofNat 108, .ofNat 97, .ofNat 119, .ofNat 48, .ofNat 56, .ofNat 46, .ofNat 83, .ofNat 104, .ofNat 97, .ofNat 114, .ofNat 101, .ofNat 83, .ofNat 101, .ofNat 116, .ofNat 115, .ofNat 32, .ofNat 116, .ofNat 111, .ofNat 108, .ofNat 108, .ofNat 104, .ofNat 111, .ofNat 117, .ofNat 115, .ofNat 101, .ofNat 47, .ofNat 116, .ofNat 111, .ofNat 108, .ofNat 108, .ofNat 104, .ofNat 111, .ofNat 117, .ofNat 115, .ofNat 101, .ofNat 108, .ofNat 97, .ofNat 119, .ofNat 48, .ofNat 55, .ofNat 46, .ofNat 79, .ofNat 110, .ofNat 105, .ofNat 111, .ofNat 110, .ofNat 66, .ofNat 117, .ofNat 105, .ofNat 108, .ofNat 100, .ofNat 115, .ofNat 32, .ofNat 116, .ofNat 111, .ofNat 108, .ofNat 108, .ofNat 104, .ofNat 111, .ofNat 117, .ofNat 115, .ofNat 101, .ofNat 47, .ofNat 116, .ofNat 111, .ofNat 108, .ofNat 108, .ofNat 104, .ofNat 111, .ofNat 117, .ofNat 115, .ofNat 101, .ofNat 108, .ofNat 97, .ofNat 119, .ofNat 48, .ofNat 55, .ofNat 46, .ofNat 79, .ofNat 110, .ofNat 105, .ofNat 111, .ofNat 110, .ofNat 84, .ofNat 117, .ofNat 114, .ofNat 110, .ofNat 101, .ofNat 100, .ofNat 32, .ofNat 116, .ofNat 111, .ofNat 108, .ofNat 108, .ofNat 104, .ofNat 111, .ofNat 117, .ofNat 115, .ofNat 101, .ofNat 47, .ofNat 116, .ofNat 111, .ofNat 108, .ofNat 108, .ofNat 104, .ofNat 111, .ofNat 117, .ofNat 115, .ofNat 101, .ofNat 108, .ofNat 97, .ofNat 119, .ofNat 48, .ofNat 55, .ofNat 46, .ofNat 79, .ofNat 110, .ofNat 105, .ofNat 111, .ofNat 110, .ofNat 83, .ofNat 105, .ofNat 122, .ofNat 101, .ofNat 115, .ofNat 32, .ofNat 116, .ofNat 111, .ofNat 108, .ofNat 108, .ofNat 104, .ofNat 111, .ofNat 117, .ofNat 115, .ofNat 101, .ofNat 47, .ofNat 116, .ofNat 111, .ofNat 108, .ofNat 108, .ofNat 104, .ofNat 111, .ofNat 117, .ofNat 115, .ofNat 101, .ofNat 108, .ofNat 97, .ofNat 119, .ofNat 48, .ofNat 55, .ofNat 46, .ofNat 79, .ofNat 110, .ofNat 105, .ofNat 111, .ofNat 110, .ofNat 87, .ofNat 97, .ofNat 121, .ofNat 115]
theorem head_lit : Try.prog.initOrder = String.ofList headCh := by kernel_rfl
theorem head_list : Try.prog.initOrder.toList = headCh := by rw [head_lit]; exact String.toList_ofList
theorem head_behind : ∃ rest, behindMainWord (wordsSigns Try.prog.initOrder.toList) = "cut".toList :: rest :=
  ⟨(behindMainWord (wordsSigns headCh)).tail, by rw [head_list]; kernel_rfl⟩
theorem strip_cut (rest : List (List Char)) : stripLifts liftWords ("cut".toList :: rest) = ([], "cut".toList :: rest) := by kernel_rfl
theorem make_of {P : Program} {rest : List (List Char)} (h : behindMainWord (wordsSigns P.initOrder.toList) = "cut".toList :: rest) : P.make = some .cut := by
  unfold Program.make
  rw [h]
  have e1 : ("cut".toList == "gc".toList || "cut".toList == "spec".toList) = false := by kernel_rfl
  have e2 : ("cut".toList == "cut".toList) = true := by kernel_rfl
  simp only [e1, e2, Bool.true_or, if_true]
  rfl
theorem mayEnter_of {P : Program} {rest : List (List Char)} (h : behindMainWord (wordsSigns P.initOrder.toList) = "cut".toList :: rest) (h1 : P.laysLater = false) (h2 : P.bearsReflect = false) (h3 : P.doorFits [] = true) : P.mayEnter = true := by
  unfold Program.mayEnter
  rw [h]
  simp only [strip_cut, h1, h2, h3]
  have e2 : (List.head? ("cut".toList :: rest) == some "cut".toList) = true := by kernel_rfl
  simp only [e2]
  simp
theorem liftsFinal_of {P : Program} {rest : List (List Char)} (h : behindMainWord (wordsSigns P.initOrder.toList) = "cut".toList :: rest) : P.liftsFinal = false := by
  unfold Program.liftsFinal Program.headLifts
  rw [h]
  simp only [strip_cut]
  have e2 : (List.head? ("cut".toList :: rest) == some "cut".toList) = true := by kernel_rfl
  have e3 : (List.head? ("cut".toList :: rest) == some "carried".toList) = false := by kernel_rfl
  simp only [e2, e3]
  simp
theorem f_laysLater : Try.prog.laysLater = false := by kernel_rfl
theorem f_bearsReflect : Try.prog.bearsReflect = false := by kernel_rfl
theorem f_doorFits : Try.prog.doorFits [] = true := by kernel_rfl
theorem f_mayEnter : Try.prog.mayEnter = true := head_behind.elim fun _ h => mayEnter_of h f_laysLater f_bearsReflect f_doorFits
theorem f_liftsFinal : Try.prog.liftsFinal = false := head_behind.elim fun _ h => liftsFinal_of h
theorem f_make : Try.prog.make = some .cut := head_behind.elim fun _ h => make_of h
theorem lifted_of {P : Program} {b : Bool} (h : P.liftsFinal = false) (hb : b = false) : (b == P.liftsFinal) = true := by rw [h, hb]; rfl
theorem made_of {P : Program} {m : Make} (h : P.make = some .cut) (hm : m = .cut) : (P.make == some m) = true := by rw [h, hm]; rfl
end Go.Proofs.Vm
