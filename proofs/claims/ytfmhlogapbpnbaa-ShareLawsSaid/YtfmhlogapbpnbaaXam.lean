/-
  THE PROGRAM's HEAD: what the rows ask of it. (Made by program: head.py.)
-/
import Derived.Test.YtfmhlogapbpnbaaRows
import Derived.ProofKit
import Derived.Test.YtfmhlogapbpnbaaXal

namespace Go.Proofs.Vm

def headCh : List Char := [.ofNat 104, .ofNat 97, .ofNat 114, .ofNat 110, .ofNat 101, .ofNat 115, .ofNat 115, .ofNat 32, .ofNat 100, .ofNat 54, .ofNat 52, .ofNat 53, .ofNat 48, .ofNat 50, .ofNat 49, .ofNat 51, .ofNat 48, .ofNat 98, .ofNat 53, .ofNat 98, .ofNat 101, .ofNat 48, .ofNat 48, .ofNat 99, .ofNat 98, .ofNat 48, .ofNat 100, .ofNat 97, .ofNat 57, .ofNat 49, .ofNat 98, .ofNat 102, .ofNat 56, .ofNat 55, .ofNat 97, .ofNat 52, .ofNat 102, .ofNat 48, .ofNat 102, .ofNat 100, .ofNat 51, .ofNat 99, .ofNat 56, .ofNat 102, .ofNat 49, .ofNat 52, .ofNat 102, .ofNat 101, .ofNat 98, .ofNat 50, .ofNat 53, .ofNat 53, .ofNat 99, .ofNat 97, .ofNat 51, .ofNat 57, .ofNat 55, .ofNat 54, .ofNat 57, .ofNat 54, .ofNat 50, .ofNat 55, .ofNat 51, .ofNat 50, .ofNat 102, .ofNat 100, .ofNat 99, .ofNat 56, .ofNat 54, .ofNat 56, .ofNat 100, .ofNat 97, .ofNat 32, .ofNat 99, .ofNat 117, .ofNat 116, .ofNat 32, .ofNat 97, .ofNat 116, .ofNat 32, .ofNat 116, .ofNat 111, .ofNat 108, .ofNat 108, .ofNat 104, .ofNat 111, .ofNat 117, .ofNat 115, .ofNat 101, .ofNat 47, .ofNat 116, .ofNat 111, .ofNat 108, .ofNat 108, .ofNat 104, .ofNat 111, .ofNat 117, .ofNat 115, .ofNat 101, .ofNat 108, .ofNat 97, .ofNat 119, .ofNat 48, .ofNat 51, .ofNat 46, .ofNat 75, .ofNat 101, .ofNat 99, .ofNat 99, .ofNat 97, .ofNat 107, .ofNat 83, .ofNat 117, .ofNat 109, .ofNat 115, .ofNat 32, .ofNat 116, .ofNat 111, .ofNat 108, .ofNat 108, .ofNat 104, .ofNat 111, .ofNat 117, .ofNat 115, .ofNat 101, .ofNat 47, .ofNat 116, .ofNat 111, .ofNat 108, .ofNat 108, .ofNat 104, .ofNat 111, .ofNat 117, .ofNat 115, .ofNat 101, .ofNat 108, .ofNat 97, .ofNat 119, .ofNat 48, .ofNat 51, .ofNat 46, .ofNat 75, .ofNat 101, .ofNat 99, .ofNat 99, .ofNat 97, .ofNat 107, .ofNat 83, .ofNat 116, .ofNat 114, .ofNat 101, .ofNat 97, .ofNat 109, .ofNat 115, .ofNat 32, .ofNat 116, .ofNat 111, .ofNat 108, .ofNat 108, .ofNat 104, .ofNat 111, .ofNat 117, .ofNat 115, .ofNat 101, .ofNat 47, .ofNat 116, .ofNat 111, .ofNat 108, .ofNat 108, .ofNat 104, .ofNat 111, .ofNat 117, .ofNat 115, .ofNat 101, .ofNat 108, .ofNat 97, .ofNat 119, .ofNat 48, .ofNat 51, .ofNat 46, .ofNat 75, .ofNat 101, .ofNat 99, .ofNat 99, .ofNat 97, .ofNat 107, .ofNat 76, .ofNat 101, .ofNat 110, .ofNat 103, .ofNat 116, .ofNat 104, .ofNat 115, .ofNat 32, .ofNat 116, .ofNat 111, .ofNat 108, .ofNat 108, .ofNat 104, .ofNat 111, .ofNat 117, .ofNat 115, .ofNat 101, .ofNat 47, .ofNat 116, .ofNat 111, .ofNat 108, .ofNat 108, .ofNat 104, .ofNat 111, .ofNat 117, .ofNat 115, .ofNat 101, .ofNat 108, .ofNat 97, .ofNat 119, .ofNat 48, .ofNat 51, .ofNat 46, .ofNat 75, .ofNat 101, .ofNat 99, .ofNat 99, .ofNat 97, .ofNat 107, .ofNat 80, .ofNat 105, .ofNat 101, .ofNat 99, .ofNat 101, .ofNat 115, .ofNat 32, .ofNat 116, .ofNat 111, .ofNat 108, .ofNat 108, .ofNat 104, .ofNat 111, .ofNat 117, .ofNat 115, .ofNat 101, .ofNat 47, .ofNat 116, .ofNat 111, .ofNat 108, .ofNat 108, .ofNat 104, .ofNat 111, .ofNat 117, .ofNat 115, .ofNat 101, .ofNat 108, .ofNat 97, .ofNat 119, .ofNat 48, .ofNat 51, .ofNat 46, .ofNat 75, .ofNat 101, .ofNat 99, .ofNat 99, .ofNat 97, .ofNat 107, .ofNat 80, .ofNat 97, .ofNat 114, .ofNat 116, .ofNat 115, .ofNat 32, .ofNat 116, .ofNat 111, .ofNat 108, .ofNat 108, .ofNat 104, .ofNat 111, .ofNat 117, .ofNat 115, .ofNat 101, .ofNat 47, .ofNat 116, .ofNat 111, .ofNat 108, .ofNat 108, .ofNat 104, .ofNat 111, .ofNat 117, .ofNat 115, .ofNat 101, .ofNat 108, .ofNat 97, .ofNat 119, .ofNat 48, .ofNat 51, .ofNat 46, .ofNat 75, .ofNat 101, .ofNat 99, .ofNat 99, .ofNat 97, .ofNat 107, .ofNat 82, .ofNat 111, .ofNat 117, .ofNat 110, .ofNat 100, .ofNat 115, .ofNat 32, .ofNat 116, .ofNat 111, .ofNat 108, .ofNat 108, .ofNat 104, .ofNat 111, .ofNat 117, .ofNat 115, .ofNat 101, .ofNat 47, .ofNat 116, .ofNat 111, .ofNat 108, .ofNat 108, .ofNat 104, .ofNat 111, .ofNat 117, .ofNat 115, .ofNat 101, .ofNat 108, .ofNat 97, .ofNat 119, .ofNat 48, .ofNat 51, .ofNat 46, .ofNat 75, .ofNat 101, .ofNat 99, .ofNat 99, .ofNat 97, .ofNat 107, .ofNat 84, .ofNat 117, .ofNat 114, .ofNat 110, .ofNat 115, .ofNat 32, .ofNat 116, .ofNat 111, .ofNat 108, .ofNat 108, .ofNat 104, .ofNat 111, .ofNat 117, .ofNat 115, .ofNat 101, .ofNat 47, .ofNat 116, .ofNat 111, .ofNat 108, .ofNat 108, .ofNat 104, .ofNat 111, .ofNat 117, .ofNat 115, .ofNat 101, .ofNat 108, .ofNat 97, .ofNat 119, .ofNat 48, .ofNat 52, .ofNat 46, .ofNat 77, .ofNat 97, .ofNat 99, .ofNat 77, .ofNat 97, .ofNat 115, .ofNat 107, .ofNat 115, .ofNat 32, .ofNat 116, .ofNat 111, .ofNat 108, .ofNat 108, .ofNat 104, .ofNat 111, .ofNat 117, .ofNat 115, .ofNat 101, .ofNat 47, .ofNat 116, .ofNat 111, .ofNat 108, .ofNat 108, .ofNat 104, .ofNat 111, .ofNat 117, .ofNat 115, .ofNat 101, .ofNat 108, .ofNat 97, .ofNat 119, .ofNat 48, .ofNat 52, .ofNat 46, .ofNat 77, .ofNat 97, .ofNat 99, .ofNat 80, .ofNat 97, .ofNat 114, .ofNat 116, .ofNat 115, .ofNat 32, .ofNat 116, .ofNat 111, .ofNat 108, .ofNat 108, .ofNat 104, .ofNat 111, .ofNat 117, .ofNat 115, .ofNat 101, .ofNat 47, .ofNat 116, .ofNat 111, .ofNat 108, .ofNat 108, .ofNat 104, .ofNat 111, .ofNat 117, .ofNat 115, .ofNat 101, .ofNat 108, .ofNat 97, .ofNat 119, .ofNat 48, .ofNat 52, .ofNat 46, .ofNat 77, .ofNat 97, .ofNat 99, .ofNat 77, .ofNat 97, .ofNat 115, .ofNat 107, .ofNat 69, .ofNat 97, .ofNat 99, .ofNat 104, .ofNat 32, .ofNat 116, .ofNat 111, .ofNat 108, .ofNat 108, .ofNat 104, .ofNat 111, .ofNat 117, .ofNat 115, .ofNat 101, .ofNat 47, .ofNat 116, .ofNat 111, .ofNat 108, .ofNat 108, .ofNat 104, .ofNat 111, .ofNat 117, .ofNat 115, .ofNat 101, .ofNat 108, .ofNat 97, .ofNat 119, .ofNat 48, .ofNat 52, .ofNat 46, .ofNat 77, .ofNat 97, .ofNat 99, .ofNat 84, .ofNat 97, .ofNat 103, .ofNat 115, .ofNat 32, .ofNat 116, .ofNat 111, .ofNat 108, .ofNat 108, .ofNat 104, .ofNat 111, .ofNat 117, .ofNat 115, .ofNat 101, .ofNat 47, .ofNat 116, .ofNat 111, .ofNat 108, .ofNat 108, .ofNat 104, .ofNat 111, .ofNat 117, .ofNat 115, .ofNat 101, .ofNat 108, .ofNat 97, .ofNat 119, .ofNat 48, .ofNat 52, .ofNat 46, .ofNat 77, .ofNat 97, .ofNat 99, .ofNat 69, .ofNat 113, .ofNat 117, .ofNat 97, .ofNat 108, .ofNat 32, .ofNat 116, .ofNat 111, .ofNat 108, .ofNat 108, .ofNat 104, .ofNat 111, .ofNat 117, .ofNat 115, .ofNat 101, .ofNat 47, .ofNat 116, .ofNat 111, .ofNat 108, .ofNat 108, .ofNat 104, .ofNat 111, .ofNat 117, .ofNat 115, .ofNat 101, .ofNat 108, .ofNat 97, .ofNat 119, .ofNat 48, .ofNat 52, .ofNat 46, .ofNat 77, .ofNat 97, .ofNat 99, .ofNat 66, .ofNat 121, .ofNat 116, .ofNat 101, .ofNat 115, .ofNat 32, .ofNat 116, .ofNat 111, .ofNat 108, .ofNat 108, .ofNat 104, .ofNat 111, .ofNat 117, .ofNat 115, .ofNat 101, .ofNat 47, .ofNat 116, .ofNat 111, .ofNat 108, .ofNat 108, .ofNat 104, .ofNat 111, .ofNat 117, .ofNat 115, .ofNat 101, .ofNat 108, .ofNat 97, .ofNat 119, .ofNat 48, .ofNat 56, .ofNat 46, .ofNat 83, .ofNat 104, .ofNat 97, .ofNat 114, .ofNat 101, .ofNat 83, .ofNat 112, .ofNat 108, .ofNat 105, .ofNat 116, .ofNat 115, .ofNat 32, .ofNat 116, .ofNat 111, .ofNat 108, .ofNat 108, .ofNat 104, .ofNat 111, .ofNat 117, .ofNat 115, .ofNat 101, .ofNat 47, .ofNat 116, .ofNat 111, .ofNat 108, .ofNat 108, .ofNat 104, .ofNat 111, .ofNat 117, .ofNat 115, .ofNat 101, .ofNat 108, .ofNat 97, .ofNat 119, .ofNat 48, .ofNat 56, .ofNat 46, .ofNat 83, .ofNat 104, .ofNat 97, .ofNat 114, .ofNat 101, .ofNat 76, .ofNat 97, .ofNat 119, .ofNat 115, .ofNat 32, .ofNat 116, .ofNat 111, .ofNat 108, .ofNat 108, .ofNat 104, .ofNat 111, .ofNat 117, .ofNat 115, .ofNat 101, .ofNat 47, .ofNat 116, .ofNat 111, .ofNat 108, .ofNat 108, .ofNat 104, .ofNat 111, .ofNat 117, .ofNat 115, .ofNat 101, .ofNat 108, .ofNat 97, .ofNat 119, .ofNat 48, .ofNat 56, .ofNat 46, .ofNat 83, .ofNat 104, .ofNat 97, .ofNat 114, .ofNat 101, .ofNat 80, .ofNat 97, .ofNat 114, .ofNat 116, .ofNat 115, .ofNat 32, .ofNat 116, .ofNat 111, .ofNat 108, .ofNat 108, .ofNat 104, .ofNat 111, .ofNat 117, .ofNat 115, .ofNat 101, .ofNat 47, .ofNat 116, .ofNat 111, .ofNat 108, .ofNat 108, .ofNat 104, .ofNat 111, .ofNat 117, .ofNat 115, .ofNat 101, .ofNat 108, .ofNat 97, .ofNat 119, .ofNat 48, .ofNat 56, .ofNat 46, .ofNat 83, .ofNat 104, .ofNat 97, .ofNat 114, .ofNat 101, .ofNat 83, .ofNat 101, .ofNat 116, .ofNat 115, .ofNat 32, .ofNat 116, .ofNat 111, .ofNat 108, .ofNat 108, .ofNat 104, .ofNat 111, .ofNat 117, .ofNat 115, .ofNat 101, .ofNat 47, .ofNat 116, .ofNat 111, .ofNat 108, .ofNat 108, .ofNat 104, .ofNat 111, .ofNat 117, .ofNat 115, .ofNat 101, .ofNat 108, .ofNat 97, .ofNat 119, .ofNat 48, .ofNat 55, .ofNat 46, .ofNat 79, .ofNat 110, .ofNat 105, .ofNat 111, .ofNat 110, .ofNat 66, .ofNat 117, .ofNat 105, .ofNat 108, .ofNat 100, .ofNat 115, .ofNat 32, .ofNat 116, .ofNat 111, .ofNat 108, .ofNat 108, .ofNat 104, .ofNat 111, .ofNat 117, .ofNat 115, .ofNat 101, .ofNat 47, .ofNat 116, .ofNat 111, .ofNat 108, .ofNat 108, .ofNat 104, .ofNat 111, .ofNat 117, .ofNat 115, .ofNat 101, .ofNat 108, .ofNat 97, .ofNat 119, .ofNat 48, .ofNat 55, .ofNat 46, .ofNat 79, .ofNat 110, .ofNat 105, .ofNat 111, .ofNat 110, .ofNat 84, .ofNat 117, .ofNat 114, .ofNat 110, .ofNat 101, .ofNat 100, .ofNat 32, .ofNat 116, .ofNat 111, .ofNat 108, .ofNat 108, .ofNat 104, .ofNat 111, .ofNat 117, .ofNat 115, .ofNat 101, .ofNat 47, .ofNat 116, .ofNat 111, .ofNat 108, .ofNat 108, .ofNat 104, .ofNat 111, .ofNat 117, .ofNat 115, .ofNat 101, .ofNat 108, .ofNat 97, .ofNat 119, .ofNat 48, .ofNat 55, .ofNat 46, .ofNat 79, .ofNat 110, .ofNat 105, .ofNat 111, .ofNat 110, .ofNat 83, .ofNat 105, .ofNat 122, .ofNat 101, .ofNat 115, .ofNat 32, .ofNat 116, .ofNat 111, .ofNat 108, .ofNat 108, .ofNat 104, .ofNat 111, .ofNat 117, .ofNat 115, .ofNat 101, .ofNat 47, .ofNat 116, .ofNat 111, .ofNat 108, .ofNat 108, .ofNat 104, .ofNat 111, .ofNat 117, .ofNat 115, .ofNat 101, .ofNat 108, .ofNat 97, .ofNat 119, .ofNat 48, .ofNat 55, .ofNat 46, .ofNat 79, .ofNat 110, .ofNat 105, .ofNat 111, .ofNat 110, .ofNat 87, .ofNat 97, .ofNat 121, .ofNat 115]
theorem head_lit : Try.prog.initOrder = String.ofList headCh := by kernel_rfl
theorem head_list : Try.prog.initOrder.toList = headCh := by rw [head_lit]; exact String.toList_ofList
theorem head_behind : ∃ rest, behindMainWord (wordsSigns Try.prog.initOrder.toList) = "cut".toList :: rest :=
  ⟨(behindMainWord (wordsSigns headCh)).tail, by rw [head_list]; kernel_rfl⟩
theorem strip_cut (rest : List (List Char)) : stripLifts liftWords ("cut".toList :: rest) = ([], "cut".toList :: rest) := by kernel_rfl
theorem make_of {P : Program} {rest : List (List Char)} (h : behindMainWord (wordsSigns P.initOrder.toList) = "cut".toList :: rest) : P.make = some .cut := by
  unfold Program.make
  rw [h]
  have e1 : ("cut".toList == "gc".toList || "cut".toList == "spec".toList) = false := by kernel_rfl
  have e2 : ("cut".toList == "cut".toList) = true := by kernel_rfl
  simp only [e1, e2, Bool.true_or, if_true]
  rfl
theorem mayEnter_of {P : Program} {rest : List (List Char)} (h : behindMainWord (wordsSigns P.initOrder.toList) = "cut".toList :: rest) (h1 : P.laysLater = false) (h2 : P.bearsReflect = false) (h3 : P.doorFits [] = true) : P.mayEnter = true := by
  unfold Program.mayEnter
  rw [h]
  simp only [strip_cut, h1, h2, h3]
  have e2 : (List.head? ("cut".toList :: rest) == some "cut".toList) = true := by kernel_rfl
  simp only [e2]
  simp
theorem liftsFinal_of {P : Program} {rest : List (List Char)} (h : behindMainWord (wordsSigns P.initOrder.toList) = "cut".toList :: rest) : P.liftsFinal = false := by
  unfold Program.liftsFinal Program.headLifts
  rw [h]
  simp only [strip_cut]
  have e2 : (List.head? ("cut".toList :: rest) == some "cut".toList) = true := by kernel_rfl
  have e3 : (List.head? ("cut".toList :: rest) == some "carried".toList) = false := by kernel_rfl
  simp only [e2, e3]
  simp
theorem f_laysLater : Try.prog.laysLater = false := by kernel_rfl
theorem f_bearsReflect : Try.prog.bearsReflect = false := by kernel_rfl
theorem f_doorFits : Try.prog.doorFits [] = true := by kernel_rfl
theorem f_mayEnter : Try.prog.mayEnter = true := head_behind.elim fun _ h => mayEnter_of h f_laysLater f_bearsReflect f_doorFits
theorem f_liftsFinal : Try.prog.liftsFinal = false := head_behind.elim fun _ h => liftsFinal_of h
theorem f_make : Try.prog.make = some .cut := head_behind.elim fun _ h => make_of h
theorem lifted_of {P : Program} {b : Bool} (h : P.liftsFinal = false) (hb : b = false) : (b == P.liftsFinal) = true := by rw [h, hb]; rfl
theorem made_of {P : Program} {m : Make} (h : P.make = some .cut) (hm : m = .cut) : (P.make == some m) = true := by rw [h, hm]; rfl
end Go.Proofs.Vm

namespace Go.Proofs.Vm
open Go.Vm
noncomputable section

theorem eqT {p : Prop} (h : p) : p = True := eq_true h
theorem three_cells {a b c : List UInt8} (ha : a.length = 32) (hb : b.length = 32) (hc : c.length = 32) : ops0.spl (ops0.spl (ops0.spl (z8 96) 0 (a.map by8)) 32 (b.map by8)) 64 (c.map by8) = ([a, b, c] : List (List UInt8)).flatten.map by8 := by
  have h1 := spl_out (A := []) (d := a) (p := 0) (k := 96) rfl ha
  rw [List.map_nil, List.nil_append, List.nil_append] at h1
  rw [h1, spl_out ha hb, spl_out (p := 64) (by rw [List.length_append]; omega) hc]
  show _ ++ z8 0 = _
  rw [show z8 0 = [] from rfl, List.append_nil]
  simp
theorem le_one {a : List UInt8} (ha : a.length = 32) {k m : Nat} (hk : k ≤ m) (hm : 32 ≤ m) : ops0.le k (ops0.len (ops0.spl (z8 m) 0 (a.map by8))) = true := by
  have h1 := spl_out (A := []) (d := a) (p := 0) (k := m) rfl ha
  rw [List.map_nil, List.nil_append, List.nil_append] at h1
  rw [h1, nLe, nLen, List.length_append, List.length_map, z8_length]
  exact decide_eq_true (by omega)
theorem le_two {a b : List UInt8} (ha : a.length = 32) (hb : b.length = 32) : ops0.le 96 (ops0.len (ops0.spl (ops0.spl (z8 96) 0 (a.map by8)) 32 (b.map by8))) = true := by
  have h1 := spl_out (A := []) (d := a) (p := 0) (k := 96) rfl ha
  rw [List.map_nil, List.nil_append, List.nil_append] at h1
  rw [h1, spl_out ha hb, nLe, nLen, List.length_append, List.length_map, List.length_append, z8_length]
  exact decide_eq_true (by omega)
theorem trip_32 {a b c : List UInt8} (ha : a.length = 32) (hb : b.length = 32) (hc : c.length = 32) : ∀ x, x ∈ ([a, b, c] : List (List UInt8)) → x.length = 32 := by
  intro x hx
  simp at hx
  rcases hx with rfl | rfl | rfl
  · exact ha
  · exact hb
  · exact hc
theorem jn_of {L : List (List UInt8)} (h : ∀ x, x ∈ L → x.length = 32) {n : Nat} (hl : n = L.length) : jx0.jn (L.flatten.map by8) 0 n = (joinL L).map by8 := by
  show (joinL (shA _ 0 n)).map by8 = _
  rw [sha_flat h hl]
theorem join_three {a b c : List UInt8} (ha : a.length = 32) : joinL [a, b, c] = xorL (xorL a b) c := by
  show xorL (xorL (xorL zero32 a) b) c = _
  rw [zero_xor ha]

theorem law17 {a b c : List UInt8} (ha : a.length = 32) (hb : b.length = 32) (hc : c.length = 32) : ∃ H' lg, CallTo Try.prog 17 [.agg (a.map by8), .agg (b.map by8), .agg (c.map by8)] [] (.bool true) H' lg := by
  have hbc := xorL32 hb hc
  have hab := xorL32 ha hb
  have hw := xorL32 hab hc
  have j1 : jx0.jn (([a, b, c] : List (List UInt8)).flatten.map by8) 0 3 = (xorL (xorL a b) c).map by8 := by rw [jn_of (n := 3) (trip_32 ha hb hc) rfl, join_three ha]
  have j2 : jx0.jn (([c, a, b] : List (List UInt8)).flatten.map by8) 0 3 = (xorL (xorL a b) c).map by8 := by rw [jn_of (n := 3) (trip_32 hc ha hb) rfl, join_three hc, xor_comm' (xorL c a) b, xor_comm' c a, ← xor_assoc', xor_comm' b a]
  have j3 : jx0.jn (([b, c] : List (List UInt8)).flatten.map by8) 0 2 = (xorL b c).map by8 := by rw [jn_of (n := 2) (pair_32 hb hc) rfl, join_pair hb]
  have j4 : jx0.jn (([a, xorL b c] : List (List UInt8)).flatten.map by8) 0 2 = (xorL (xorL a b) c).map by8 := by rw [jn_of (n := 2) (pair_32 ha hbc) rfl, join_pair ha, xor_assoc']
  have j5 : jx0.jn (([a, b, a] : List (List UInt8)).flatten.map by8) 0 3 = b.map by8 := by rw [jn_of (n := 3) (trip_32 ha hb ha) rfl, join_three ha, xor_comm' a b, xor_assoc', xor_self' ha, xor_comm', zero_xor hb]
  have f1 : ([a] : List (List UInt8)).flatten = a := by simp
  have j6 : jx0.jn (a.map by8) 0 1 = a.map by8 := by
    have h := jn_of (one_32 ha) (n := 1) rfl
    rw [f1, join_one ha] at h
    exact h
  have j7 : jx0.jn [] 0 0 = zero32.map by8 := rfl
  have hz : zero32.length = 32 := by unfold zero32; rw [List.length_replicate]
  have p1 : PSh (([a, b, c] : List (List UInt8)).flatten.map by8) 0 3 := psh_flat (trip_32 ha hb hc) (by simp) rfl
  have p2 : PSh (([c, a, b] : List (List UInt8)).flatten.map by8) 0 3 := psh_flat (trip_32 hc ha hb) (by simp) rfl
  have p3 : PSh (([b, c] : List (List UInt8)).flatten.map by8) 0 2 := psh_flat (pair_32 hb hc) (by simp) rfl
  have p4 : PSh (([a, xorL b c] : List (List UInt8)).flatten.map by8) 0 2 := psh_flat (pair_32 ha hbc) (by simp) rfl
  have p5 : PSh (([a, b, a] : List (List UInt8)).flatten.map by8) 0 3 := psh_flat (trip_32 ha hb ha) (by simp) rfl
  have p6 : PSh (a.map by8) 0 1 := by
    have h := psh_flat (one_32 ha) (n := 1) (by simp) rfl
    rw [f1] at h
    exact h
  have p7 : PSh [] 0 0 := psh_flat (L := []) (fun x hx => by cases hx) (by decide) rfl
  have hv : ∀ Q : AV → Prop, Q (.bool true) → vcall (vcA kdYes (cnJ5 jx0 jy0 hf0 js0) noLn) ops0 (tabOne 17 vf17) 200 vf17 [.agg (a.map by8), .agg (b.map by8), .agg (c.map by8)] [] (fun r _ _ => Q r) := by
    intro Q hQ
    rw [vc17]
    simp only [ext32' ha, ext32' hb, ext32' hc, three_cells ha hb hc, three_cells hc ha hb, three_cells ha hb ha, two_cells hb hc, j3, two_cells ha hbc, j1, j2, j4, j5, spl32 ha, j6, j7, le32' ha, le32' hb, le32' hc, eq32' ha, eq32' hb, eq32' hc,
      le_one ha (show 64 ≤ 96 by decide) (by decide), le_one hc (show 64 ≤ 96 by decide) (by decide), le_one ha (show 64 ≤ 64 by decide) (by decide), le_one hb (show 64 ≤ 64 by decide) (by decide), le_two ha hb, le_two hc ha,
      eqT p1, eqT p2, eqT p3, eqT p4, eqT p5, eqT p6, eqT p7, eq32' hw, le32' hw, eq32' hbc, ext32' hw, ext32' hz, eq32' hz, le32' hz, chk_t, true_and]
    rw [zero_cells]
    exact intEx2 (intEx2 (intEx2 (intEx2 (intEx2 hQ))))
  obtain ⟨r', H', lg, hc, rfl⟩ := call_vcx cnJ5_ok (noLn_ok _) (tabOne_ok ok17) (tabOne_self 17 vf17) (hv (fun r => r = .bool true) rfl)
  exact ⟨H', lg, hc⟩

end
end Go.Proofs.Vm
