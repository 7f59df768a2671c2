/-
  MAC, PART 1: a number's bytes, and what stands ahead of a text.
-/
import Derived.Test.YtfmhlogapbpnbaaYae
import Derived.Test.YtfmhlogapbpnbaaYam

namespace Go.Proofs.Vm
open Go.Vm
noncomputable section

theorem vc44 (n : Int) (Q : Nat → Nat → Nat → Nat → List AV → Prop) :
  (vcall (vcA kdYes noCn noLn) ops0 (tabOne 44 vf44) 200 vf44 [.int .u64 n] [] (endB Q)) =
 (((flatL [(AV.int IntKind.u8 (ops0.cvt IntKind.u8 (ops0.shf BinOp.shr IntKind.u64 n (Int.ofNat 0)))), (AV.int IntKind.u8 (ops0.cvt IntKind.u8 (ops0.shf BinOp.shr IntKind.u64 n (Int.ofNat 8)))), (AV.int IntKind.u8 (ops0.cvt IntKind.u8 (ops0.shf BinOp.shr IntKind.u64 n (Int.ofNat 16)))), (AV.int IntKind.u8 (ops0.cvt IntKind.u8 (ops0.shf BinOp.shr IntKind.u64 n (Int.ofNat 24)))), (AV.int IntKind.u8 (ops0.cvt IntKind.u8 (ops0.shf BinOp.shr IntKind.u64 n (Int.ofNat 32)))), (AV.int IntKind.u8 (ops0.cvt IntKind.u8 (ops0.shf BinOp.shr IntKind.u64 n (Int.ofNat 40)))), (AV.int IntKind.u8 (ops0.cvt IntKind.u8 (ops0.shf BinOp.shr IntKind.u64 n (Int.ofNat 48)))), (AV.int IntKind.u8 (ops0.cvt IntKind.u8 (ops0.shf BinOp.shr IntKind.u64 n (Int.ofNat 56))))]) ∧
 (Q 0 8 8 1 [(AV.int IntKind.u8 (ops0.cvt IntKind.u8 (ops0.shf BinOp.shr IntKind.u64 n (Int.ofNat 0)))), (AV.int IntKind.u8 (ops0.cvt IntKind.u8 (ops0.shf BinOp.shr IntKind.u64 n (Int.ofNat 8)))), (AV.int IntKind.u8 (ops0.cvt IntKind.u8 (ops0.shf BinOp.shr IntKind.u64 n (Int.ofNat 16)))), (AV.int IntKind.u8 (ops0.cvt IntKind.u8 (ops0.shf BinOp.shr IntKind.u64 n (Int.ofNat 24)))), (AV.int IntKind.u8 (ops0.cvt IntKind.u8 (ops0.shf BinOp.shr IntKind.u64 n (Int.ofNat 32)))), (AV.int IntKind.u8 (ops0.cvt IntKind.u8 (ops0.shf BinOp.shr IntKind.u64 n (Int.ofNat 40)))), (AV.int IntKind.u8 (ops0.cvt IntKind.u8 (ops0.shf BinOp.shr IntKind.u64 n (Int.ofNat 48)))), (AV.int IntKind.u8 (ops0.cvt IntKind.u8 (ops0.shf BinOp.shr IntKind.u64 n (Int.ofNat 56))))]))) := by kernel_rfl

theorem vc45 (n : Int) (Q : Nat → Nat → Nat → Nat → List AV → Prop) :
  (vcall (vcA kdYes noCn noLn) ops0 (tabOne 45 vf45) 200 vf45 [.int .u64 n] [] (endB Q)) =
 (((flatL [(AV.int IntKind.u8 (ops0.cvt IntKind.u8 (ops0.shf BinOp.shr IntKind.u64 n (Int.ofNat 0)))), (AV.int IntKind.u8 (ops0.cvt IntKind.u8 (ops0.shf BinOp.shr IntKind.u64 n (Int.ofNat 8)))), (AV.int IntKind.u8 (ops0.cvt IntKind.u8 (ops0.shf BinOp.shr IntKind.u64 n (Int.ofNat 16)))), (AV.int IntKind.u8 (ops0.cvt IntKind.u8 (ops0.shf BinOp.shr IntKind.u64 n (Int.ofNat 24)))), (AV.int IntKind.u8 (ops0.cvt IntKind.u8 (ops0.shf BinOp.shr IntKind.u64 n (Int.ofNat 32)))), (AV.int IntKind.u8 (ops0.cvt IntKind.u8 (ops0.shf BinOp.shr IntKind.u64 n (Int.ofNat 40)))), (AV.int IntKind.u8 (ops0.cvt IntKind.u8 (ops0.shf BinOp.shr IntKind.u64 n (Int.ofNat 48)))), (AV.int IntKind.u8 (ops0.cvt IntKind.u8 (ops0.shf BinOp.shr IntKind.u64 n (Int.ofNat 56))))]) ∧
 (Q 0 8 8 1 [(AV.int IntKind.u8 (ops0.cvt IntKind.u8 (ops0.shf BinOp.shr IntKind.u64 n (Int.ofNat 0)))), (AV.int IntKind.u8 (ops0.cvt IntKind.u8 (ops0.shf BinOp.shr IntKind.u64 n (Int.ofNat 8)))), (AV.int IntKind.u8 (ops0.cvt IntKind.u8 (ops0.shf BinOp.shr IntKind.u64 n (Int.ofNat 16)))), (AV.int IntKind.u8 (ops0.cvt IntKind.u8 (ops0.shf BinOp.shr IntKind.u64 n (Int.ofNat 24)))), (AV.int IntKind.u8 (ops0.cvt IntKind.u8 (ops0.shf BinOp.shr IntKind.u64 n (Int.ofNat 32)))), (AV.int IntKind.u8 (ops0.cvt IntKind.u8 (ops0.shf BinOp.shr IntKind.u64 n (Int.ofNat 40)))), (AV.int IntKind.u8 (ops0.cvt IntKind.u8 (ops0.shf BinOp.shr IntKind.u64 n (Int.ofNat 48)))), (AV.int IntKind.u8 (ops0.cvt IntKind.u8 (ops0.shf BinOp.shr IntKind.u64 n (Int.ofNat 56))))]))) := by kernel_rfl

theorem vc79 (key : List AV) (l : List UInt8) (Q : Nat → Nat → Nat → Nat → List AV → Prop) :
  (vcall (vcA kdYes noCn noLn) ops0 (tabOne 79 vf79) 200 vf79 [.agg key, .str l] [] (endB Q)) =
 ((Chk (ops0.mkr (Int.ofNat 0) (ops0.bin BinOp.add IntKind.i64 (ops0.bin BinOp.add IntKind.i64 (Int.ofNat 1) (ops0.ofn (ops0.slen l))) (Int.ofNat 32)) 1)
 (Chk (ops0.room 1 (ops0.slen l) 1)
 (Chk (ops0.le 32 (ops0.len key))
 (Chk (ops0.le (ops0.add 0 (ops0.mul (ops0.add 1 (ops0.slen l)) 1)) (ops0.len ((AV.int IntKind.u8 (ops0.cvt IntKind.u8 (ops0.ofn (ops0.slen l)))) :: (([] : List AV) ++ (ops0.scells l)))))
 (Chk (ops0.le 32 (ops0.len key))
 (Chk (ops0.room (ops0.add 1 (ops0.slen l)) 32 1)
 ((flatL (ops0.app (ops0.ext ((AV.int IntKind.u8 (ops0.cvt IntKind.u8 (ops0.ofn (ops0.slen l)))) :: (([] : List AV) ++ (ops0.scells l))) 0 (ops0.mul (ops0.add 1 (ops0.slen l)) 1)) (ops0.ext key 0 32))) ∧
 (Q 0 (ops0.add (ops0.add 1 (ops0.slen l)) 32) (ops0.add (ops0.add 1 (ops0.slen l)) 32) 1 (ops0.app (ops0.ext ((AV.int IntKind.u8 (ops0.cvt IntKind.u8 (ops0.ofn (ops0.slen l)))) :: (([] : List AV) ++ (ops0.scells l))) 0 (ops0.mul (ops0.add 1 (ops0.slen l)) 1)) (ops0.ext key 0 32))))))))))) := by kernel_rfl

theorem vc80 (key : List AV) (l : List UInt8) (Q : Nat → Nat → Nat → Nat → List AV → Prop) :
  (vcall (vcA kdYes noCn noLn) ops0 (tabOne 80 vf80) 200 vf80 [.agg key, .str l] [] (endB Q)) =
 ((Br (ops0.lt 0 (ops0.slen l))
 (Chk (ops0.room 1 (ops0.slen l) 1)
 (Chk (ops0.le 32 (ops0.len key))
 (Chk (ops0.le (ops0.add 0 (ops0.mul (ops0.add 1 (ops0.slen l)) 1)) (ops0.len ((AV.int IntKind.u8 (ops0.cvt IntKind.u8 (ops0.ofn (ops0.slen l)))) :: (([] : List AV) ++ (ops0.scells l)))))
 (Chk (ops0.le 32 (ops0.len key))
 (Chk (ops0.room (ops0.add 1 (ops0.slen l)) 32 1)
 ((flatL (ops0.app (ops0.ext ((AV.int IntKind.u8 (ops0.cvt IntKind.u8 (ops0.ofn (ops0.slen l)))) :: (([] : List AV) ++ (ops0.scells l))) 0 (ops0.mul (ops0.add 1 (ops0.slen l)) 1)) (ops0.ext key 0 32))) ∧
 (Q 0 (ops0.add (ops0.add 1 (ops0.slen l)) 32) (ops0.add (ops0.add 1 (ops0.slen l)) 32) 1 (ops0.app (ops0.ext ((AV.int IntKind.u8 (ops0.cvt IntKind.u8 (ops0.ofn (ops0.slen l)))) :: (([] : List AV) ++ (ops0.scells l))) 0 (ops0.mul (ops0.add 1 (ops0.slen l)) 1)) (ops0.ext key 0 32)))))))))
 (Chk (ops0.le 32 (ops0.len key))
 (Chk (ops0.le 32 (ops0.len key))
 ((flatL ((AV.int IntKind.u8 (ops0.cvt IntKind.u8 (ops0.ofn (ops0.slen l)))) :: (([] : List AV) ++ (ops0.ext key 0 32)))) ∧
 (Q 0 33 33 1 ((AV.int IntKind.u8 (ops0.cvt IntKind.u8 (ops0.ofn (ops0.slen l)))) :: (([] : List AV) ++ (ops0.ext key 0 32))))))))) := by kernel_rfl

/-- A number's bytes. -/
def bytesN (k : Nat) : List UInt8 := [UInt8.ofNat (k / 2 ^ 0), UInt8.ofNat (k / 2 ^ 8), UInt8.ofNat (k / 2 ^ 16), UInt8.ofNat (k / 2 ^ 24), UInt8.ofNat (k / 2 ^ 32), UInt8.ofNat (k / 2 ^ 40), UInt8.ofNat (k / 2 ^ 48), UInt8.ofNat (k / 2 ^ 56)]
/-- What stands ahead. -/
def headL (key l : List UInt8) : List UInt8 := UInt8.ofNat l.length :: (l ++ key)
theorem headL_length (key l : List UInt8) : (headL key l).length = l.length + key.length + 1 := by
  unfold headL
  rw [List.length_cons, List.length_append]

theorem shr8 (k s : Nat) (h : s ≤ 64) : ops0.cvt .u8 (ops0.shf .shr .u64 (Int.ofNat k) (Int.ofNat s)) = Int.ofNat (UInt8.ofNat (k / 2 ^ s)).toNat := by
  have e1 : ops0.shf .shr .u64 (Int.ofNat k) (Int.ofNat s) = Int.ofNat (k / 2 ^ s) := by
    show (Int.ofNat k).fdiv (2 ^ (Nat.min (Int.ofNat s).toNat 64)) = _
    have : Nat.min (Int.ofNat s).toNat 64 = s := Nat.min_eq_left h
    rw [this]
    have e2 : (2 : Int) ^ s = Int.ofNat (2 ^ s) := by simp
    rw [e2]
    exact Int.fdiv_eq_ediv_of_nonneg _ (Int.natCast_nonneg _)
  rw [e1]
  generalize k / 2 ^ s = q
  show IntKind.u8.wrap (Int.ofNat q) = _
  simp [IntKind.wrap, IntKind.bits, IntKind.signed]

theorem flatL8 (a b c d e f g h : Int) : flatL [.int .u8 a, .int .u8 b, .int .u8 c, .int .u8 d, .int .u8 e, .int .u8 f, .int .u8 g, .int .u8 h] := by
  intro x hx
  simp only [List.mem_cons, List.not_mem_nil, or_false] at hx
  rcases hx with rfl | rfl | rfl | rfl | rfl | rfl | rfl | rfl <;> rfl

theorem bytes_cells (k : Nat) : [AV.int IntKind.u8 (ops0.cvt IntKind.u8 (ops0.shf BinOp.shr IntKind.u64 (Int.ofNat k) (Int.ofNat 0))), .int IntKind.u8 (ops0.cvt IntKind.u8 (ops0.shf BinOp.shr IntKind.u64 (Int.ofNat k) (Int.ofNat 8))), .int IntKind.u8 (ops0.cvt IntKind.u8 (ops0.shf BinOp.shr IntKind.u64 (Int.ofNat k) (Int.ofNat 16))), .int IntKind.u8 (ops0.cvt IntKind.u8 (ops0.shf BinOp.shr IntKind.u64 (Int.ofNat k) (Int.ofNat 24))),
    .int IntKind.u8 (ops0.cvt IntKind.u8 (ops0.shf BinOp.shr IntKind.u64 (Int.ofNat k) (Int.ofNat 32))), .int IntKind.u8 (ops0.cvt IntKind.u8 (ops0.shf BinOp.shr IntKind.u64 (Int.ofNat k) (Int.ofNat 40))), .int IntKind.u8 (ops0.cvt IntKind.u8 (ops0.shf BinOp.shr IntKind.u64 (Int.ofNat k) (Int.ofNat 48))), .int IntKind.u8 (ops0.cvt IntKind.u8 (ops0.shf BinOp.shr IntKind.u64 (Int.ofNat k) (Int.ofNat 56)))] = (bytesN k).map by8 := by
  rw [shr8 k 0 (by decide), shr8 k 8 (by decide), shr8 k 16 (by decide), shr8 k 24 (by decide), shr8 k 32 (by decide), shr8 k 40 (by decide), shr8 k 48 (by decide), shr8 k 56 (by decide)]
  rfl

theorem bytes44 (k : Nat) : CallTo Try.prog 44 [.int .u64 (Int.ofNat k)] [] (.slc 0 0 8 8 1) [.cells ((bytesN k).map by8)] [] := by
  refine call_b (noCn_ok _) (noLn_ok _) (tabOne_ok ok44) (tabOne_self 44 vf44) (n := 200) (g := kdYes) ?_
  rw [vc44]
  exact ⟨flatL8 _ _ _ _ _ _ _ _, rfl, rfl, rfl, rfl, bytes_cells k⟩
theorem bytes45 (k : Nat) : CallTo Try.prog 45 [.int .u64 (Int.ofNat k)] [] (.slc 0 0 8 8 1) [.cells ((bytesN k).map by8)] [] := by
  refine call_b (noCn_ok _) (noLn_ok _) (tabOne_ok ok45) (tabOne_self 45 vf45) (n := 200) (g := kdYes) ?_
  rw [vc45]
  exact ⟨flatL8 _ _ _ _ _ _ _ _, rfl, rfl, rfl, rfl, bytes_cells k⟩

theorem head_cell (l : List UInt8) (h : l.length ≤ 64) : AV.int IntKind.u8 (ops0.cvt IntKind.u8 (ops0.ofn (ops0.slen l))) = by8 (UInt8.ofNat l.length) := by
  rw [nSlen, nOfn, nC8 (by omega)]
  unfold by8
  rw [UInt8.toNat_ofNat_of_lt' (by show _ < 256; omega)]

theorem head_all (key l : List UInt8) : by8 (UInt8.ofNat l.length) :: ((([] : List AV) ++ l.map by8) ++ key.map by8) = (headL key l).map by8 := by
  unfold headL
  rw [List.nil_append, List.map_cons, List.map_append]

theorem head79 (key l : List UInt8) (hk : key.length = 32) (hl : l.length ≤ 64) : CallTo Try.prog 79 [.agg (key.map by8), .str l] [] (.slc 0 0 (l.length + 33) (l.length + 33) 1) [.cells ((headL key l).map by8)] [] := by
  refine call_b (noCn_ok _) (noLn_ok _) (tabOne_ok ok79) (tabOne_self 79 vf79) (n := 200) (g := kdYes) ?_
  rw [vc79, head_cell l hl]
  have hkl : (key.map by8).length = 32 := by rw [List.length_map, hk]
  have e1 : ops0.ext (key.map by8) 0 32 = key.map by8 := by rw [nExt, List.drop_zero, List.take_of_length_le (by omega)]
  have e2 : ops0.ext (by8 (UInt8.ofNat l.length) :: (([] : List AV) ++ ops0.scells l)) 0 (ops0.mul (ops0.add 1 (ops0.slen l)) 1) = by8 (UInt8.ofNat l.length) :: (([] : List AV) ++ l.map by8) := by
    rw [nExt, List.drop_zero, List.take_of_length_le (by rw [nTimes, nPlus, nSlen, nScells]; simp; omega)]
    rfl
  rw [e1, e2]
  simp (disch := omega) only [nSlen, nOfn, nAdd, nMkr, nRoom, nLe, nLen, nPlus, nTimes, nScells, hkl]
  refine Chk.mk (by simp; omega) (Chk.mk (decide_eq_true (by omega)) (Chk.mk (decide_eq_true (by omega)) (Chk.mk (decide_eq_true (by simp; omega)) (Chk.mk (decide_eq_true (by omega)) (Chk.mk (decide_eq_true (by omega)) ?_)))))
  rw [nApp, List.cons_append, head_all]
  exact ⟨flat_by8 _, by trivial, by omega, by omega, by trivial, rfl⟩

theorem head80 (key l : List UInt8) (hk : key.length = 32) (hl : l.length ≤ 64) : CallTo Try.prog 80 [.agg (key.map by8), .str l] [] (.slc 0 0 (l.length + 33) (l.length + 33) 1) [.cells ((headL key l).map by8)] [] := by
  refine call_b (noCn_ok _) (noLn_ok _) (tabOne_ok ok80) (tabOne_self 80 vf80) (n := 200) (g := kdYes) ?_
  rw [vc80, head_cell l hl]
  have hkl : (key.map by8).length = 32 := by rw [List.length_map, hk]
  have e1 : ops0.ext (key.map by8) 0 32 = key.map by8 := by rw [nExt, List.drop_zero, List.take_of_length_le (by omega)]
  have e2 : ops0.ext (by8 (UInt8.ofNat l.length) :: (([] : List AV) ++ ops0.scells l)) 0 (ops0.mul (ops0.add 1 (ops0.slen l)) 1) = by8 (UInt8.ofNat l.length) :: (([] : List AV) ++ l.map by8) := by
    rw [nExt, List.drop_zero, List.take_of_length_le (by rw [nTimes, nPlus, nSlen, nScells]; simp; omega)]
    rfl
  rw [e1, e2]
  simp (disch := omega) only [nSlen, nOfn, nAdd, nMkr, nRoom, nLe, nLt, nLen, nPlus, nTimes, nScells, hkl]
  refine Br.mk (fun h0 => ?_) (fun h0 => ?_)
  · refine Chk.mk (decide_eq_true (by omega)) (Chk.mk (decide_eq_true (by omega)) (Chk.mk (decide_eq_true (by simp; omega)) (Chk.mk (decide_eq_true (by omega)) (Chk.mk (decide_eq_true (by omega)) ?_))))
    rw [nApp, List.cons_append, head_all]
    exact ⟨flat_by8 _, by trivial, by omega, by omega, by trivial, rfl⟩
  · have h0 : l = [] := by
      have := of_decide_eq_false h0
      exact List.eq_nil_of_length_eq_zero (by omega)
    subst h0
    refine Chk.mk (decide_eq_true (by omega)) (Chk.mk (decide_eq_true (by omega)) ?_)
    exact ⟨flat_by8 (headL key []), by trivial, by trivial, by trivial, by trivial, by trivial⟩

/-- Bytes of zero. -/
def z8 (n : Nat) : List AV := List.replicate n (by8 0)
theorem z8_eq (n : Nat) : z8 n = (List.replicate n (0 : UInt8)).map by8 := by rw [List.map_replicate]; rfl
theorem z8_flat (n : Nat) : flatL (z8 n) := by rw [z8_eq]; exact flat_by8 _
theorem z8_length (n : Nat) : (z8 n).length = n := List.length_replicate
/-- 32 bytes. -/
def PKey (ks : List AV) : Prop := ∃ key : List UInt8, key.length = 32 ∧ ks = key.map by8
structure MF where
  bytes : Int → List AV
  head : List AV → List UInt8 → List AV
def mf0 : MF := ⟨fun n => (bytesN n.toNat).map by8, fun ks l => (headL (bytesA ks) l).map by8⟩
def cnM1 (S : MF) : CnF := fun f vals H => match f, vals with
  | 44, [.int .u64 n] => some (0 ≤ n, .ok (.slc (size H) 0 8 8 1) (join H [.cells (S.bytes n)]) [])
  | 45, [.int .u64 n] => some (0 ≤ n, .ok (.slc (size H) 0 8 8 1) (join H [.cells (S.bytes n)]) [])
  | 79, [.agg ks, .str l] => some (PKey ks ∧ l.length ≤ 64, .ok (.slc (size H) 0 (ops0.add (ops0.slen l) 33) (ops0.add (ops0.slen l) 33) 1) (join H [.cells (S.head ks l)]) [])
  | 80, [.agg ks, .str l] => some (PKey ks ∧ l.length ≤ 64, .ok (.slc (size H) 0 (ops0.add (ops0.slen l) 33) (ops0.add (ops0.slen l) 33) 1) (join H [.cells (S.head ks l)]) [])
  | _, _ => none

theorem cnM1_ok : CnOK Try.prog (cnM1 mf0) := by
  intro f vals H p x e hp
  unfold cnM1 at e
  split at e
  · rename_i n
    cases e
    obtain ⟨m, rfl⟩ : ∃ m : Nat, n = Int.ofNat m := ⟨n.toNat, (Int.toNat_of_nonneg hp).symm⟩
    exact CallTo.lookS (bytes44 m) (flat_by8 _) (.cons (Vw.int H _ _) .nil)
  · rename_i n
    cases e
    obtain ⟨m, rfl⟩ : ∃ m : Nat, n = Int.ofNat m := ⟨n.toNat, (Int.toNat_of_nonneg hp).symm⟩
    exact CallTo.lookS (bytes45 m) (flat_by8 _) (.cons (Vw.int H _ _) .nil)
  · rename_i ks l
    cases e
    obtain ⟨⟨key, hk, rfl⟩, hl⟩ := hp
    have h := CallTo.lookS (head79 key l hk hl) (flat_by8 _) (.cons (Vw.agg H (Still.flat (flat_by8 key))) (.cons (Vw.str H l) .nil))
    show CallTo _ _ _ _ _ (join H [.cells ((headL (bytesA (key.map by8)) l).map by8)]) _
    rw [bytesA_by8]
    exact h
  · rename_i ks l
    cases e
    obtain ⟨⟨key, hk, rfl⟩, hl⟩ := hp
    have h := CallTo.lookS (head80 key l hk hl) (flat_by8 _) (.cons (Vw.agg H (Still.flat (flat_by8 key))) (.cons (Vw.str H l) .nil))
    show CallTo _ _ _ _ _ (join H [.cells ((headL (bytesA (key.map by8)) l).map by8)]) _
    rw [bytesA_by8]
    exact h
  · cases e

/-- With what layer 3 does. -/
structure NF extends AF where
  toMF : MF
def nf0 : NF := { af0 with toMF := mf0 }
def cnN1 (S : NF) : CnF := cnOr (cnM1 S.toMF) (cnA S.toAF)
theorem cnN1_ok : CnOK Try.prog (cnN1 nf0) := cnOr_ok cnM1_ok cnA_ok

end
end Go.Proofs.Vm

namespace Go.Proofs.Vm
open Go.Vm
noncomputable section
/-- Parts, each with its length ahead. -/
def textL (pl : List (List UInt8)) : List UInt8 := (pl.map fun p => bytesN p.length ++ p).flatten
def partsL (ps : List AV) (o n : Nat) : List (List UInt8) := ((ps.drop o).take n).map partA
/-- A part, and its length ahead, as slices. -/
def twoA (p : AV) : List AV := [.ros ((bytesN (partA p).length).map by8) 0 8 8 false, p]
def rowsA (hd : List AV) (m c : Nat) (ps : List AV) (o n : Nat) : List AV := .ros hd 0 m c false :: (((ps.drop o).take n).map twoA).flatten
/-- What the loops come to (kept apart). -/
structure TF where
  rows : List AV → Nat → Nat → List AV → Nat → Nat → List AV
  txt : List AV → List AV → Nat → Nat → List AV
  len : Nat → List AV → Nat → Nat → Nat
def tf0 : TF := ⟨rowsA, fun hd ps o n => hd ++ (textL (partsL ps o n)).map by8, fun m ps o n => m + (textL (partsL ps o n)).length⟩
def P41 (ks out hd : List AV) (m : Nat) (ps : List AV) (o n : Nat) : Prop := flatL ks ∧ flatL out ∧ (∃ lb : List UInt8, hd = lb.map by8 ∧ m = lb.length) ∧ PPs ps o n ∧ n < 8589934592
/-- Each part lies within its cells. -/
def PRm (ps : List AV) (o n : Nat) : Prop := ∀ j, j < n → ∀ pc off len cap ex, ps[o + j]? = some (.ros pc off len cap ex) → off + len ≤ pc.length
def P40 (ks out hd : List AV) (m : Nat) (ps : List AV) (o n : Nat) : Prop := PRm ps o n ∧ flatL ks ∧ flatL out ∧ m ≤ 1000 ∧ (∃ lb : List UInt8, hd = lb.map by8 ∧ m = lb.length) ∧ PPs ps o n ∧ (textL (partsL ps o n)).length < 68719476736
def lp41 : VC := (.seq (.reg .false [] [⟨(.some 21), .none, (.cmp .lss), [(.t 20), (.t 19)]⟩]) (.seq (.cond (.t 21) .skip (.exit 0)) (.seq (.block 1 (.seq (.reg .false [] [⟨(.some 22), .none, (.ixS 1), [(.t 18), (.t 20)]⟩, ⟨(.some 23), .none, (.ld1 .slc), [(.t 22)]⟩, ⟨(.some 9), .none, .mov, [(.t 23)]⟩]) (.reg .false [] [⟨(.some 24), .none, .mov, [(.t 7)]⟩, ⟨(.some 25), .none, .mov, [(.t 9)]⟩, ⟨(.some 26), .none, .len, [(.t 25)]⟩, ⟨(.some 27), .none, (.cvt .u64), [(.t 26)]⟩, ⟨(.some 28), .none, (.call 44), [(.t 27)]⟩, ⟨(.some 29), .none, .mov, [(.t 9)]⟩, ⟨(.some 30), .none, (.mks [.nils, .nils] 2 [⟨0, 1⟩, ⟨1, 1⟩]), [(.t 28), (.t 29)]⟩, ⟨(.some 31), .none, (.app 1 24), [(.t 24), (.t 30)]⟩, ⟨(.some 7), .none, .mov, [(.t 31)]⟩]))) (.reg .false [] [⟨(.some 32), .none, (.bin .add .i64), [(.t 20), (.c (.int .i64 (.ofNat 1)))]⟩, ⟨(.some 20), .none, .mov, [(.t 32)]⟩]))))
def fr41 (x7 : AV) (ps : List AV) (o n c : Nat) (e : Bool) (i : Nat) : Fr := [.top, .top, .top, .top, .top, .top, .ptr 1 0, x7, .top, .top, .top, .top, .top, .top, .top, .top, .top, .top, .ros ps o n c e, .int .i64 (Int.ofNat n), .int .i64 (Int.ofNat i), .top, .top, .top, .top, .top, .top, .top, .top, .top, .top, .top, .top, .top, .top]
def mk41 : List Bool := [true, true, true, true, true, true, false, false, true, true, true, true, true, true, true, true, true, true, false, false, false, true, true, true, true, true, true, true, true, true, true, true, true, true, true]
def ln41 (F : TF) : LnF := fun n0 b fr H => match slot fr 7, slot fr 18, H with
  | .ros [.slc 2 0 m c' 1] 0 1 1 true, .ros ps o n c e, [.cells ks, .cells out, .cells hd] => some (n0 = 0 ∧ VCis b lp41 ∧ forget mk41 fr = fr41 (.ros [.slc 2 0 m c' 1] 0 1 1 true) ps o n c e 0 ∧ P41 ks out hd m ps o n,
      .ok (.exit 0) (fr41 (.ros (F.rows hd m c' ps o n) 0 (2 * n + 1) (2 * n + 1) false) ps o n c e n) [.cells ks, .cells out])
  | _, _, _ => none
def lp40 : VC := (.seq (.seq (.reg .false [] [⟨(.some 16), .none, .mov, [(.t 8)]⟩, ⟨(.some 17), .none, .mov, [(.t 2)]⟩, ⟨(.some 18), .none, .len, [(.t 17)]⟩, ⟨(.some 19), .none, (.cmp .lss), [(.t 16), (.t 18)]⟩]) (.cond (.t 19) .skip (.exit 0))) (.seq (.block 1 (.reg .true [0, 0, 0, 6, 14, 30, 62, 126, 255, 0, 0, 1536, 3584, 8191, 16383] [⟨(.some 22), .none, .mov, [(.t 7)]⟩, ⟨(.some 23), .none, .mov, [(.t 2)]⟩, ⟨(.some 24), .none, .mov, [(.t 8)]⟩, ⟨(.some 25), .none, (.ixS 1), [(.t 23), (.t 24)]⟩, ⟨(.some 26), .none, (.ld1 .slc), [(.t 25)]⟩, ⟨(.some 27), .none, .len, [(.t 26)]⟩, ⟨(.some 28), .none, (.cvt .u64), [(.t 27)]⟩, ⟨(.some 29), .none, (.call 45), [(.t 28)]⟩, ⟨(.some 30), .none, (.app 1 1), [(.t 22), (.t 29)]⟩, ⟨(.some 31), .none, .mov, [(.t 2)]⟩, ⟨(.some 32), .none, .mov, [(.t 8)]⟩, ⟨(.some 33), .none, (.ixS 1), [(.t 31), (.t 32)]⟩, ⟨(.some 34), .none, (.ld1 .slc), [(.t 33)]⟩, ⟨(.some 35), .none, (.app 1 1), [(.t 30), (.t 34)]⟩, ⟨(.some 7), .none, .mov, [(.t 35)]⟩])) (.reg .false [] [⟨(.some 20), .none, .mov, [(.t 8)]⟩, ⟨(.some 21), .none, (.bin .add .i64), [(.t 20), (.c (.int .i64 (.ofNat 1)))]⟩, ⟨(.some 8), .none, .mov, [(.t 21)]⟩])))
def fr40 (L : Nat) (ps : List AV) (o n c : Nat) (e : Bool) (i : Nat) : Fr := [.top, .top, .ros ps o n c e, .top, .top, .top, .ptr 1 0, .slc 2 0 L L 1, .int .i64 (Int.ofNat i), .top, .top, .top, .top, .top, .top, .top, .top, .top, .top, .top, .top, .top, .top, .top, .top, .top, .top, .top, .top, .top, .top, .top, .top, .top, .top, .top, .top, .top]
def mk40 : List Bool := [true, true, false, true, true, true, false, false, false, true, true, true, true, true, true, true, true, true, true, true, true, true, true, true, true, true, true, true, true, true, true, true, true, true, true, true, true, true]
def ln40 (F : TF) : LnF := fun n0 b fr H => match slot fr 7, slot fr 2, H with
  | .slc 2 0 m _ 1, .ros ps o n c e, [.cells ks, .cells out, .cells hd] => some (n0 = 0 ∧ VCis b lp40 ∧ forget mk40 fr = fr40 m ps o n c e 0 ∧ P40 ks out hd m ps o n,
      .ok (.exit 0) (fr40 (F.len m ps o n) ps o n c e n) [.cells ks, .cells out, .cells (F.txt hd ps o n)])
  | _, _, _ => none

theorem vcl41a (S : NF) (ks out hd ps : List AV) (m c' o n c : Nat) (e : Bool) (i : Nat) (Q : Ex → Fr → Hl → Prop) :
  (vm (vcA kdYes (cnN1 S) noLn) ops0 noTab 100 0 lp41 (fr41 (.ros [.ros hd 0 m c' false] 0 1 1 true) ps o n c e i) [.cells ks, .cells out] [] (bodyX mk41 Q)) =
 ((Br (ops0.cmp BinOp.lss (Int.ofNat i) (Int.ofNat n))
 (Chk (ops0.inr (Int.ofNat i) n)
 (∃ ds : (List AV), (∃ off : Nat, (∃ len : Nat, (∃ cap : Nat, (∃ e1 : Bool, ((Nth ps (ops0.adr o (Int.ofNat i) 1) (AV.ros ds off len cap e1)) ∧
 (((Int.ofNat 0) ≤ (ops0.cvt IntKind.u64 (ops0.ofn len))) ∧
 (Q Ex.norm [AV.top, AV.top, AV.top, AV.top, AV.top, AV.top, (AV.ptr 1 0), (AV.slc 3 0 3 3 1), AV.top, AV.top, AV.top, AV.top, AV.top, AV.top, AV.top, AV.top, AV.top, AV.top, (AV.ros ps o n c e), (AV.int IntKind.i64 (Int.ofNat n)), (AV.int IntKind.i64 (ops0.bin BinOp.add IntKind.i64 (Int.ofNat i) (Int.ofNat 1))), AV.top, AV.top, AV.top, AV.top, AV.top, AV.top, AV.top, AV.top, AV.top, AV.top, AV.top, AV.top, AV.top, AV.top] [(Blk.cells ks), (Blk.cells out), (Blk.cells (MF.bytes (NF.toMF S) (ops0.cvt IntKind.u64 (ops0.ofn len)))), (Blk.cells [(AV.ros hd 0 m c' Bool.false), (AV.slc 2 0 8 8 1), (AV.ros ds off len cap e1)])])))))))))
 (Q (Ex.exit 0) [AV.top, AV.top, AV.top, AV.top, AV.top, AV.top, (AV.ptr 1 0), (AV.ros [(AV.ros hd 0 m c' Bool.false)] 0 1 1 Bool.true), AV.top, AV.top, AV.top, AV.top, AV.top, AV.top, AV.top, AV.top, AV.top, AV.top, (AV.ros ps o n c e), (AV.int IntKind.i64 (Int.ofNat n)), (AV.int IntKind.i64 (Int.ofNat i)), AV.top, AV.top, AV.top, AV.top, AV.top, AV.top, AV.top, AV.top, AV.top, AV.top, AV.top, AV.top, AV.top, AV.top] [(Blk.cells ks), (Blk.cells out)]))) := by kernel_rfl

theorem vcl41b (S : NF) (ks out rows ps : List AV) (L o n c : Nat) (e : Bool) (i : Nat) (Q : Ex → Fr → Hl → Prop) :
  (vm (vcA kdYes (cnN1 S) noLn) ops0 noTab 100 0 lp41 (fr41 (.slc 2 0 L L 1) ps o n c e i) [.cells ks, .cells out, .cells rows] [] (bodyX mk41 Q)) =
 ((Br (ops0.cmp BinOp.lss (Int.ofNat i) (Int.ofNat n))
 (Chk (ops0.inr (Int.ofNat i) n)
 (∃ ds : (List AV), (∃ off : Nat, (∃ len : Nat, (∃ cap : Nat, (∃ e1 : Bool, ((Nth ps (ops0.adr o (Int.ofNat i) 1) (AV.ros ds off len cap e1)) ∧
 (((Int.ofNat 0) ≤ (ops0.cvt IntKind.u64 (ops0.ofn len))) ∧
 (Chk (ops0.le (ops0.add 0 (ops0.mul L 1)) (ops0.len rows))
 (Chk (ops0.room L 2 24)
 (Q Ex.norm [AV.top, AV.top, AV.top, AV.top, AV.top, AV.top, (AV.ptr 1 0), (AV.slc 4 0 (ops0.add L 2) (ops0.add L 2) 1), AV.top, AV.top, AV.top, AV.top, AV.top, AV.top, AV.top, AV.top, AV.top, AV.top, (AV.ros ps o n c e), (AV.int IntKind.i64 (Int.ofNat n)), (AV.int IntKind.i64 (ops0.bin BinOp.add IntKind.i64 (Int.ofNat i) (Int.ofNat 1))), AV.top, AV.top, AV.top, AV.top, AV.top, AV.top, AV.top, AV.top, AV.top, AV.top, AV.top, AV.top, AV.top, AV.top] [(Blk.cells ks), (Blk.cells out), Blk.dead, (Blk.cells (MF.bytes (NF.toMF S) (ops0.cvt IntKind.u64 (ops0.ofn len)))), (Blk.cells (ops0.app (ops0.ext rows 0 (ops0.mul L 1)) [(AV.slc 3 0 8 8 1), (AV.ros ds off len cap e1)]))])))))))))))
 (Q (Ex.exit 0) [AV.top, AV.top, AV.top, AV.top, AV.top, AV.top, (AV.ptr 1 0), (AV.slc 2 0 L L 1), AV.top, AV.top, AV.top, AV.top, AV.top, AV.top, AV.top, AV.top, AV.top, AV.top, (AV.ros ps o n c e), (AV.int IntKind.i64 (Int.ofNat n)), (AV.int IntKind.i64 (Int.ofNat i)), AV.top, AV.top, AV.top, AV.top, AV.top, AV.top, AV.top, AV.top, AV.top, AV.top, AV.top, AV.top, AV.top, AV.top] [(Blk.cells ks), (Blk.cells out), (Blk.cells rows)]))) := by kernel_rfl

theorem vcl40 (S : NF) (ks out ms ps : List AV) (L o n c : Nat) (e : Bool) (i : Nat) (Q : Ex → Fr → Hl → Prop) :
  (vm (vcA kdYes (cnN1 S) noLn) ops0 noTab 100 0 lp40 (fr40 L ps o n c e i) [.cells ks, .cells out, .cells ms] [] (bodyX mk40 Q)) =
 ((Br (ops0.cmp BinOp.lss (Int.ofNat i) (ops0.ofn n))
 (Chk (ops0.inr (Int.ofNat i) n)
 (∃ ds : (List AV), (∃ off : Nat, (∃ len : Nat, (∃ cap : Nat, (∃ e1 : Bool, ((Nth ps (ops0.adr o (Int.ofNat i) 1) (AV.ros ds off len cap e1)) ∧
 (((Int.ofNat 0) ≤ (ops0.cvt IntKind.u64 (ops0.ofn len))) ∧
 (Chk (ops0.le (ops0.add 0 (ops0.mul L 1)) (ops0.len ms))
 (Chk (ops0.le 8 (ops0.len (MF.bytes (NF.toMF S) (ops0.cvt IntKind.u64 (ops0.ofn len)))))
 (Chk (ops0.room L 8 1)
 (Chk (ops0.inr (Int.ofNat i) n)
 (∃ ds1 : (List AV), (∃ off1 : Nat, (∃ len1 : Nat, (∃ cap1 : Nat, (∃ e2 : Bool, ((Nth ps (ops0.adr o (Int.ofNat i) 1) (AV.ros ds1 off1 len1 cap1 e2)) ∧
 (Chk (ops0.le (ops0.add 0 (ops0.mul (ops0.add L 8) 1)) (ops0.len (ops0.app (ops0.ext ms 0 (ops0.mul L 1)) (ops0.ext (MF.bytes (NF.toMF S) (ops0.cvt IntKind.u64 (ops0.ofn len))) 0 8))))
 (Chk (ops0.le (ops0.add off1 (ops0.mul len1 1)) (ops0.len ds1))
 (Chk (ops0.room (ops0.add L 8) len1 1)
 (Q Ex.norm [AV.top, AV.top, (AV.ros ps o n c e), AV.top, AV.top, AV.top, (AV.ptr 1 0), (AV.slc 5 0 (ops0.add (ops0.add L 8) len1) (ops0.add (ops0.add L 8) len1) 1), (AV.int IntKind.i64 (ops0.bin BinOp.add IntKind.i64 (Int.ofNat i) (Int.ofNat 1))), AV.top, AV.top, AV.top, AV.top, AV.top, AV.top, AV.top, AV.top, AV.top, AV.top, AV.top, AV.top, AV.top, AV.top, AV.top, AV.top, AV.top, AV.top, AV.top, AV.top, AV.top, AV.top, AV.top, AV.top, AV.top, AV.top, AV.top, AV.top, AV.top] [(Blk.cells ks), (Blk.cells out), Blk.dead, (Blk.cells (MF.bytes (NF.toMF S) (ops0.cvt IntKind.u64 (ops0.ofn len)))), Blk.dead, (Blk.cells (ops0.app (ops0.ext (ops0.app (ops0.ext ms 0 (ops0.mul L 1)) (ops0.ext (MF.bytes (NF.toMF S) (ops0.cvt IntKind.u64 (ops0.ofn len))) 0 8)) 0 (ops0.mul (ops0.add L 8) 1)) (ops0.ext ds1 off1 (ops0.mul len1 1))))]))))))))))))))))))))))
 (Q (Ex.exit 0) [AV.top, AV.top, (AV.ros ps o n c e), AV.top, AV.top, AV.top, (AV.ptr 1 0), (AV.slc 2 0 L L 1), (AV.int IntKind.i64 (Int.ofNat i)), AV.top, AV.top, AV.top, AV.top, AV.top, AV.top, AV.top, AV.top, AV.top, AV.top, AV.top, AV.top, AV.top, AV.top, AV.top, AV.top, AV.top, AV.top, AV.top, AV.top, AV.top, AV.top, AV.top, AV.top, AV.top, AV.top, AV.top, AV.top, AV.top] [(Blk.cells ks), (Blk.cells out), (Blk.cells ms)]))) := by kernel_rfl

theorem vc41 (S : NF) (F : TF) (ks ps : List AV) (l : List UInt8) (o n c : Nat) (e : Bool) (Q : AV → Hl → Prop) :
  (vcall (vcA kdYes (cnN1 S) (ln41 F)) ops0 (tabOne 41 vf41) 200 vf41 [.agg ks, .str l, .ros ps o n c e] [] (endN (fun _ => 0) Q)) =
 ((Br (ops0.cmp BinOp.gtr (ops0.ofn (ops0.slen l)) (Int.ofNat 64))
 (Q (AV.agg (z8 32)) [])
 (Chk (ops0.le 32 (ops0.len ks))
 (((PKey (ops0.ext ks 0 32)) ∧
 ((List.length l) ≤ 64)) ∧
 ((((0 : Nat) = 0) ∧
 ((VCis lp41 lp41) ∧
 ((([AV.top, AV.top, AV.top, AV.top, AV.top, AV.top, (AV.ptr 1 0), (AV.ros [(AV.slc 2 0 (ops0.add (ops0.slen l) 33) (ops0.add (ops0.slen l) 33) 1)] 0 1 1 Bool.true), AV.top, AV.top, AV.top, AV.top, AV.top, AV.top, AV.top, AV.top, AV.top, AV.top, (AV.ros ps o n c e), (AV.int IntKind.i64 (ops0.ofn n)), (AV.int IntKind.i64 (Int.ofNat 0)), AV.top, AV.top, AV.top, AV.top, AV.top, AV.top, AV.top, AV.top, AV.top, AV.top, AV.top, AV.top, AV.top, AV.top] : Fr) = [AV.top, AV.top, AV.top, AV.top, AV.top, AV.top, (AV.ptr 1 0), (AV.ros [(AV.slc 2 0 (ops0.add (ops0.slen l) 33) (ops0.add (ops0.slen l) 33) 1)] 0 1 1 Bool.true), AV.top, AV.top, AV.top, AV.top, AV.top, AV.top, AV.top, AV.top, AV.top, AV.top, (AV.ros ps o n c e), (AV.int IntKind.i64 (Int.ofNat n)), (AV.int IntKind.i64 (Int.ofNat 0)), AV.top, AV.top, AV.top, AV.top, AV.top, AV.top, AV.top, AV.top, AV.top, AV.top, AV.top, AV.top, AV.top, AV.top]) ∧
 (P41 ks (z8 32) (MF.head (NF.toMF S) (ops0.ext ks 0 32) l) (ops0.add (ops0.slen l) 33) ps o n)))) ∧
 ((PPs (List.map (vw1 [(Blk.cells ks), (Blk.cells (z8 32))]) (TF.rows F (MF.head (NF.toMF S) (ops0.ext ks 0 32) l) (ops0.add (ops0.slen l) 33) (ops0.add (ops0.slen l) 33) ps o n)) 0 ((2 * n) + 1)) ∧
 (Chk (ops0.eq (ops0.len (KF.sum (AF.toKF (NF.toAF S)) (rdP (List.map (vw1 [(Blk.cells ks), (Blk.cells (z8 32))]) (TF.rows F (MF.head (NF.toMF S) (ops0.ext ks 0 32) l) (ops0.add (ops0.slen l) 33) (ops0.add (ops0.slen l) 33) ps o n)) 0 ((2 * n) + 1)))) 32)
 (Chk (ops0.le 32 (ops0.len (ops0.spl (z8 32) 0 (KF.sum (AF.toKF (NF.toAF S)) (rdP (List.map (vw1 [(Blk.cells ks), (Blk.cells (z8 32))]) (TF.rows F (MF.head (NF.toMF S) (ops0.ext ks 0 32) l) (ops0.add (ops0.slen l) 33) (ops0.add (ops0.slen l) 33) ps o n)) 0 ((2 * n) + 1))))))
 (Q (AV.agg (ops0.ext (ops0.spl (z8 32) 0 (KF.sum (AF.toKF (NF.toAF S)) (rdP (List.map (vw1 [(Blk.cells ks), (Blk.cells (z8 32))]) (TF.rows F (MF.head (NF.toMF S) (ops0.ext ks 0 32) l) (ops0.add (ops0.slen l) 33) (ops0.add (ops0.slen l) 33) ps o n)) 0 ((2 * n) + 1)))) 0 32)) []))))))))) := by kernel_rfl

theorem vc40 (S : NF) (F : TF) (ks ps : List AV) (l : List UInt8) (o n c : Nat) (e : Bool) (Q : AV → Hl → Prop) :
  (vcall (vcA kdYes (cnN1 S) (ln40 F)) ops0 (tabOne 40 vf40) 200 vf40 [.agg ks, .str l, .ros ps o n c e] [] (endN (fun _ => 0) Q)) =
 ((Br (ops0.cmp BinOp.gtr (ops0.ofn (ops0.slen l)) (Int.ofNat 64))
 (Q (AV.agg (z8 32)) [])
 (Chk (ops0.le 32 (ops0.len ks))
 (((PKey (ops0.ext ks 0 32)) ∧
 ((List.length l) ≤ 64)) ∧
 ((((0 : Nat) = 0) ∧
 ((VCis lp40 lp40) ∧
 ((([AV.top, AV.top, (AV.ros ps o n c e), AV.top, AV.top, AV.top, (AV.ptr 1 0), (AV.slc 2 0 (ops0.add (ops0.slen l) 33) (ops0.add (ops0.slen l) 33) 1), (AV.int IntKind.i64 (Int.ofNat 0)), AV.top, AV.top, AV.top, AV.top, AV.top, AV.top, AV.top, AV.top, AV.top, AV.top, AV.top, AV.top, AV.top, AV.top, AV.top, AV.top, AV.top, AV.top, AV.top, AV.top, AV.top, AV.top, AV.top, AV.top, AV.top, AV.top, AV.top, AV.top, AV.top] : Fr) = [AV.top, AV.top, (AV.ros ps o n c e), AV.top, AV.top, AV.top, (AV.ptr 1 0), (AV.slc 2 0 (ops0.add (ops0.slen l) 33) (ops0.add (ops0.slen l) 33) 1), (AV.int IntKind.i64 (Int.ofNat 0)), AV.top, AV.top, AV.top, AV.top, AV.top, AV.top, AV.top, AV.top, AV.top, AV.top, AV.top, AV.top, AV.top, AV.top, AV.top, AV.top, AV.top, AV.top, AV.top, AV.top, AV.top, AV.top, AV.top, AV.top, AV.top, AV.top, AV.top, AV.top, AV.top]) ∧
 (P40 ks (z8 32) (MF.head (NF.toMF S) (ops0.ext ks 0 32) l) (ops0.add (ops0.slen l) 33) ps o n)))) ∧
 ((PB (TF.txt F (MF.head (NF.toMF S) (ops0.ext ks 0 32) l) ps o n) 0 (TF.len F (ops0.add (ops0.slen l) 33) ps o n)) ∧
 (Chk (ops0.eq (ops0.len (KF.sum (AF.toKF (NF.toAF S)) (rdB (TF.txt F (MF.head (NF.toMF S) (ops0.ext ks 0 32) l) ps o n) 0 (TF.len F (ops0.add (ops0.slen l) 33) ps o n)))) 32)
 (Chk (ops0.le 32 (ops0.len (ops0.spl (z8 32) 0 (KF.sum (AF.toKF (NF.toAF S)) (rdB (TF.txt F (MF.head (NF.toMF S) (ops0.ext ks 0 32) l) ps o n) 0 (TF.len F (ops0.add (ops0.slen l) 33) ps o n))))))
 (Q (AV.agg (ops0.ext (ops0.spl (z8 32) 0 (KF.sum (AF.toKF (NF.toAF S)) (rdB (TF.txt F (MF.head (NF.toMF S) (ops0.ext ks 0 32) l) ps o n) 0 (TF.len F (ops0.add (ops0.slen l) 33) ps o n)))) 0 32)) []))))))))) := by kernel_rfl

/-! ### The program's tag -/
theorem fr41_ren {σ : Nat → Option Nat} {φ : Nat → Option (List AV)} (h1 : σ 1 = some 1) {ps : List AV} (hps : Still ps) (x7 : AV) (o n c : Nat) (e : Bool) (i : Nat) :
    forget mk41 (renL σ φ true (fr41 x7 ps o n c e i)) = fr41 (ren σ φ true x7) ps o n c e i := by
  unfold fr41 mk41
  simp only [renL, ren, h1, forget, hps σ φ]

theorem twoA_ros {pc : List AV} {off len cap : Nat} {ex : Bool} {lb : List UInt8} (hb : BytesAt pc off len lb) :
    twoA (.ros pc off len cap ex) = [.ros ((bytesN len).map by8) 0 8 8 false, .ros pc off len cap ex] := by
  unfold twoA
  rw [partA_ros hb, hb.1]

theorem cvt_len {len : Nat} (h : len < 1099511627776) : ops0.cvt .u64 (ops0.ofn len) = Int.ofNat len := by rw [nOfn, nC64 (by omega)]

theorem body41b {ks out rows ps pc : List AV} {o n c i off len cap : Nat} {e ex : Bool} {lb : List UInt8} (hks : flatL ks) (hout : flatL out) (hrows : Still rows) (hps : Still ps) (hi : i < n) (hn : n < 8589934592)
    (hp : ps[o + i]? = some (.ros pc off len cap ex)) (hb : BytesAt pc off len lb) (hlen : len < 1099511627776) (hL : rows.length = 2 * i + 1) :
    BodyTo Try.prog 0 lp41 (fr41 (.slc 2 0 (2 * i + 1) (2 * i + 1) 1) ps o n c e i) [.cells ks, .cells out, .cells rows] .norm
      (fr41 (.slc 2 0 (2 * (i + 1) + 1) (2 * (i + 1) + 1) 1) ps o n c e (i + 1)) [.cells ks, .cells out, .cells (rows ++ twoA (.ros pc off len cap ex))] := by
  have h1 : BodyTo Try.prog 0 lp41 (fr41 (.slc 2 0 (2 * i + 1) (2 * i + 1) 1) ps o n c e i) [.cells ks, .cells out, .cells rows] .norm
      (fr41 (.slc 4 0 (2 * (i + 1) + 1) (2 * (i + 1) + 1) 1) ps o n c e (i + 1)) [.cells ks, .cells out, .dead, .cells ((bytesN len).map by8), .cells (rows ++ [.slc 3 0 8 8 1, .ros pc off len cap ex])] := by
    have key : ∀ Q : Ex → Fr → Hl → Prop, Q .norm (fr41 (.slc 4 0 (2 * (i + 1) + 1) (2 * (i + 1) + 1) 1) ps o n c e (i + 1)) [.cells ks, .cells out, .dead, .cells ((bytesN len).map by8), .cells (rows ++ [.slc 3 0 8 8 1, .ros pc off len cap ex])] →
        vm (vcA kdYes (cnN1 nf0) noLn) ops0 noTab 100 0 lp41 (fr41 (.slc 2 0 (2 * i + 1) (2 * i + 1) 1) ps o n c e i) [.cells ks, .cells out, .cells rows] [] (bodyX mk41 Q) := by
      intro Q hQ
      rw [vcl41b, nAdd (by omega)]
      refine Br.t (by rw [nLss]; exact decide_eq_true hi) (Chk.mk (by rw [nInr]; exact decide_eq_true hi) ⟨pc, off, len, cap, ex, Nth.mk (by rw [nAdr, Nat.mul_one]; exact hp), ?_, ?_⟩)
      · rw [cvt_len hlen]; exact Int.natCast_nonneg _
      · rw [cvt_len hlen]
        refine Chk.mk (by rw [nLe, nPlus, nTimes, nLen]; exact decide_eq_true (by omega)) (Chk.mk (by rw [nRoom]; exact decide_eq_true (by omega)) ?_)
        have e1 : ops0.ext rows 0 (ops0.mul (2 * i + 1) 1) = rows := by rw [nExt, nTimes, List.drop_zero, List.take_of_length_le (by omega)]
        rw [e1, nApp]
        exact hQ
    exact body_x cnN1_ok (noLn_ok _) (noTab_ok _) (n := 100) (g := kdYes) (bs := mk41) (key _ ⟨rfl, rfl, rfl⟩) (by simp)
  have h2 := h1.post (Weak.pickV [0, 1, 4] mk41 2 (by simp) (by simp) (by simp))
  rw [fr41_ren (show pickN [0, 1, 4] 1 = some 1 from rfl) hps] at h2
  have e2 : viewF [.cells ks, .cells out, .dead, .cells ((bytesN len).map by8), .cells (rows ++ [.slc 3 0 8 8 1, .ros pc off len cap ex])] [0, 1, 4] 2 3 = some ((bytesN len).map by8) := by
    show some (renL _ _ true _) = _
    rw [renL_flat (flat_by8 _)]
  have e3 : pickH (viewF [.cells ks, .cells out, .dead, .cells ((bytesN len).map by8), .cells (rows ++ [.slc 3 0 8 8 1, .ros pc off len cap ex])] [0, 1, 4] 2) [0, 1, 4] [.cells ks, .cells out, .dead, .cells ((bytesN len).map by8), .cells (rows ++ [.slc 3 0 8 8 1, .ros pc off len cap ex])] =
      [.cells ks, .cells out, .cells (rows ++ twoA (.ros pc off len cap ex))] := by
    have hpc : ∀ σ φ, renL σ φ true pc = pc := by
      intro σ φ
      have := renL_get σ φ true ps (o + i)
      rw [hps σ φ, hp] at this
      simp only [Option.map_some, ren, Option.some.injEq, AV.ros.injEq, and_true] at this
      exact this.symm
    have p3 : pickN [0, 1, 4] 3 = none := rfl
    rw [twoA_ros hb]
    show [renB _ _ true (.cells ks), renB _ _ true (.cells out), renB _ _ true (.cells (rows ++ [.slc 3 0 8 8 1, .ros pc off len cap ex]))] = _
    simp only [renB, renL_flat hks, renL_flat hout, renL_append, hrows _ _, renL, ren, p3, e2, hpc]
  have p4 : pickN [0, 1, 4] 4 = some 2 := rfl
  rw [e3] at h2
  simp only [ren, p4] at h2
  exact h2

theorem body41a {ks out hd ps pc : List AV} {m c' o n c off len cap : Nat} {e ex : Bool} {lb : List UInt8} (hks : flatL ks) (hout : flatL out) (hhd : flatL hd) (hps : Still ps) (hi : 0 < n) (hn : n < 8589934592)
    (hp : ps[o + 0]? = some (.ros pc off len cap ex)) (hb : BytesAt pc off len lb) (hlen : len < 1099511627776) :
    BodyTo Try.prog 0 lp41 (fr41 (.ros [.ros hd 0 m c' false] 0 1 1 true) ps o n c e 0) [.cells ks, .cells out] .norm
      (fr41 (.slc 2 0 3 3 1) ps o n c e 1) [.cells ks, .cells out, .cells (.ros hd 0 m c' false :: twoA (.ros pc off len cap ex))] := by
  have h1 : BodyTo Try.prog 0 lp41 (fr41 (.ros [.ros hd 0 m c' false] 0 1 1 true) ps o n c e 0) [.cells ks, .cells out] .norm
      (fr41 (.slc 3 0 3 3 1) ps o n c e 1) [.cells ks, .cells out, .cells ((bytesN len).map by8), .cells [.ros hd 0 m c' false, .slc 2 0 8 8 1, .ros pc off len cap ex]] := by
    have key : ∀ Q : Ex → Fr → Hl → Prop, Q .norm (fr41 (.slc 3 0 3 3 1) ps o n c e 1) [.cells ks, .cells out, .cells ((bytesN len).map by8), .cells [.ros hd 0 m c' false, .slc 2 0 8 8 1, .ros pc off len cap ex]] →
        vm (vcA kdYes (cnN1 nf0) noLn) ops0 noTab 100 0 lp41 (fr41 (.ros [.ros hd 0 m c' false] 0 1 1 true) ps o n c e 0) [.cells ks, .cells out] [] (bodyX mk41 Q) := by
      intro Q hQ
      rw [vcl41a]
      refine Br.t (by rw [nLss]; exact decide_eq_true hi) (Chk.mk (by rw [nInr]; exact decide_eq_true hi) ⟨pc, off, len, cap, ex, Nth.mk (by rw [nAdr, Nat.mul_one]; exact hp), ?_, ?_⟩)
      · rw [cvt_len hlen]; exact Int.natCast_nonneg _
      · rw [cvt_len hlen]
        exact hQ
    exact body_x cnN1_ok (noLn_ok _) (noTab_ok _) (n := 100) (g := kdYes) (bs := mk41) (key _ ⟨rfl, rfl, rfl⟩) (by simp)
  have h2 := h1.post (Weak.pickV [0, 1, 3] mk41 2 (by simp) (by simp) (by simp))
  rw [fr41_ren (show pickN [0, 1, 3] 1 = some 1 from rfl) hps] at h2
  have e2 : viewF [.cells ks, .cells out, .cells ((bytesN len).map by8), .cells [.ros hd 0 m c' false, .slc 2 0 8 8 1, .ros pc off len cap ex]] [0, 1, 3] 2 2 = some ((bytesN len).map by8) := by
    show some (renL _ _ true _) = _
    rw [renL_flat (flat_by8 _)]
  have e3 : pickH (viewF [.cells ks, .cells out, .cells ((bytesN len).map by8), .cells [.ros hd 0 m c' false, .slc 2 0 8 8 1, .ros pc off len cap ex]] [0, 1, 3] 2) [0, 1, 3] [.cells ks, .cells out, .cells ((bytesN len).map by8), .cells [.ros hd 0 m c' false, .slc 2 0 8 8 1, .ros pc off len cap ex]] =
      [.cells ks, .cells out, .cells (.ros hd 0 m c' false :: twoA (.ros pc off len cap ex))] := by
    have hpc : ∀ σ φ, renL σ φ true pc = pc := by
      intro σ φ
      have := renL_get σ φ true ps (o + 0)
      rw [hps σ φ, hp] at this
      simp only [Option.map_some, ren, Option.some.injEq, AV.ros.injEq, and_true] at this
      exact this.symm
    have p3 : pickN [0, 1, 3] 2 = none := rfl
    rw [twoA_ros hb]
    show [renB _ _ true (.cells ks), renB _ _ true (.cells out), renB _ _ true (.cells [.ros hd 0 m c' false, .slc 2 0 8 8 1, .ros pc off len cap ex])] = _
    simp only [renB, renL_flat hks, renL_flat hout, renL, ren, p3, e2, hpc, renL_flat hhd]
  have p4 : pickN [0, 1, 3] 3 = some 2 := rfl
  rw [e3] at h2
  simp only [ren, p4] at h2
  exact h2

theorem rowsA_zero (hd : List AV) (m c : Nat) (ps : List AV) (o : Nat) : rowsA hd m c ps o 0 = [.ros hd 0 m c false] := by
  unfold rowsA
  rw [List.take_zero]; rfl
theorem rowsA_succ (hd : List AV) (m c : Nat) (ps : List AV) (o i : Nat) {p : AV} (hp : ps[o + i]? = some p) : rowsA hd m c ps o (i + 1) = rowsA hd m c ps o i ++ twoA p := by
  unfold rowsA
  have h1 : (ps.drop o)[i]? = some p := by rw [List.getElem?_drop]; exact hp
  have hlt := (List.getElem?_eq_some_iff.1 h1).1
  have : (ps.drop o)[i] = p := (List.getElem?_eq_some_iff.1 h1).2
  rw [List.take_succ_eq_append_getElem hlt, this, List.map_append, List.flatten_append]
  simp
theorem rowsA_length (hd : List AV) (m c : Nat) (ps : List AV) (o : Nat) : ∀ i, o + i ≤ ps.length → (rowsA hd m c ps o i).length = 2 * i + 1
  | 0, _ => by rw [rowsA_zero]; rfl
  | i + 1, h => by
    rw [rowsA_succ hd m c ps o i (p := ps[o + i]'(by omega)) (List.getElem?_eq_getElem (by omega)), List.length_append, rowsA_length hd m c ps o i (by omega)]
    rfl
theorem PartsAt.lt {ps : List AV} {o n : Nat} {pl : List (List UInt8)} (h : PartsAt ps o n pl) (h0 : 0 < n) : o + n ≤ ps.length := by
  have hlt : n - 1 < pl.length := by rw [h.1]; omega
  obtain ⟨_, pc, off, len, cap, ex, e, _⟩ := h.2.2 (n - 1) pl[n - 1] (List.getElem?_eq_getElem hlt)
  have := (List.getElem?_eq_some_iff.1 e).1
  omega
theorem rowsA_rows {hd : List AV} (hh : flatL hd) (m c : Nat) {ps : List AV} (o n : Nat) (hp : Rows1 ps) : Rows1 (rowsA hd m c ps o n) := by
  intro p h
  unfold rowsA at h
  rcases List.mem_cons.1 h with rfl | h
  · exact ⟨hd, 0, m, c, false, rfl, hh⟩
  · obtain ⟨l, hl, hpl⟩ := List.mem_flatten.1 h
    obtain ⟨q, hq, rfl⟩ := List.mem_map.1 hl
    have hq : q ∈ ps := List.mem_of_mem_drop (List.mem_of_mem_take hq)
    unfold twoA at hpl
    rcases List.mem_cons.1 hpl with rfl | hpl
    · exact ⟨_, 0, 8, 8, false, rfl, flat_by8 _⟩
    · obtain rfl := List.mem_singleton.1 hpl
      exact hp p hq

def S41 (ks out hd : List AV) (m c' : Nat) (ps : List AV) (o n c : Nat) (e : Bool) : Nat → Fr × Hl
  | 0 => (fr41 (.ros [.ros hd 0 m c' false] 0 1 1 true) ps o n c e 0, [.cells ks, .cells out])
  | i + 1 => (fr41 (.slc 2 0 (2 * (i + 1) + 1) (2 * (i + 1) + 1) 1) ps o n c e (i + 1), [.cells ks, .cells out, .cells (rowsA hd m c' ps o (i + 1))])

theorem loop41 {ks out hd : List AV} {m c' : Nat} {ps : List AV} {o n : Nat} (c : Nat) (e : Bool) (h : P41 ks out hd m ps o n) :
    ∀ lg, LoopTo Try.prog 0 lp41 (fr41 (.ros [.ros hd 0 m c' false] 0 1 1 true) ps o n c e 0) [.cells ks, .cells out] lg (.exit 0) (fr41 (.ros (rowsA hd m c' ps o n) 0 (2 * n + 1) (2 * n + 1) false) ps o n c e n) [.cells ks, .cells out] (List.range 0 ++ lg) := by
  obtain ⟨hks, hout, ⟨hb8, rfl, rfl⟩, ⟨hr1, pl, hpl⟩, hn⟩ := h
  have hstill := hr1.still
  have hhd := flat_by8 hb8
  have hrows : ∀ i, Still (rowsA (hb8.map by8) hb8.length c' ps o i) := fun i => (rowsA_rows hhd _ _ _ _ hr1).still
  refine loop_chain (P := Try.prog) (n0 := 0) (b := lp41) (ex := .exit 0) (by intro h; cases h) (S41 ks out (hb8.map by8) hb8.length c' ps o n c e) n 0 (fun i _ hi => ?_) ?_
  · have hi' : i < n := by omega
    have hlt : i < pl.length := by rw [hpl.1]; exact hi'
    obtain ⟨hl, pc, off, len, cap, ex, hp, hb⟩ := hpl.2.2 i pl[i] (List.getElem?_eq_getElem hlt)
    have hlen : len < 1099511627776 := by have := hb.1; omega
    have hsucc := rowsA_succ (hb8.map by8) hb8.length c' ps o i hp
    cases i with
    | zero =>
      have h2 := body41a (m := hb8.length) (c' := c') (c := c) (e := e) hks hout hhd hstill hi' hn hp hb hlen
      rw [rowsA_zero] at hsucc
      show BodyTo _ _ _ _ _ _ _ [.cells ks, .cells out, .cells (rowsA (hb8.map by8) hb8.length c' ps o (0 + 1))]
      rw [hsucc]
      exact h2
    | succ i =>
      have h2 := body41b (c := c) (e := e) hks hout (hrows (i + 1)) hstill hi' hn hp hb hlen (rowsA_length _ _ _ _ _ (i + 1) (by have := hpl.lt (by omega); omega))
      show BodyTo _ _ _ _ _ _ _ [.cells ks, .cells out, .cells (rowsA (hb8.map by8) hb8.length c' ps o (i + 1 + 1))]
      rw [hsucc]
      exact h2
  · rw [Nat.zero_add]
    cases n with
    | zero =>
      have h1 : BodyTo Try.prog 0 lp41 (fr41 (.ros [.ros (hb8.map by8) 0 hb8.length c' false] 0 1 1 true) ps o 0 c e 0) [.cells ks, .cells out] (.exit 0) (fr41 (.ros [.ros (hb8.map by8) 0 hb8.length c' false] 0 1 1 true) ps o 0 c e 0) [.cells ks, .cells out] := by
        refine body_x cnN1_ok (noLn_ok _) (noTab_ok _) (n := 100) (g := kdYes) (bs := mk41) ?_ (by simp)
        rw [vcl41a]
        exact Br.f rfl ⟨rfl, rfl, rfl⟩
      refine h1.post (Weak.le (by simp) ?_)
      rw [rowsA_zero]
      exact FLe.put (fr := fr41 (.ros [.ros (hb8.map by8) 0 hb8.length c' false] 0 1 1 true) ps o 0 c e 0) (k := 7) rfl (VLe.loose _ _ _ _ _)
    | succ n =>
      have h1 : BodyTo Try.prog 0 lp41 (fr41 (.slc 2 0 (2 * (n + 1) + 1) (2 * (n + 1) + 1) 1) ps o (n + 1) c e (n + 1)) [.cells ks, .cells out, .cells (rowsA (hb8.map by8) hb8.length c' ps o (n + 1))] (.exit 0)
          (fr41 (.slc 2 0 (2 * (n + 1) + 1) (2 * (n + 1) + 1) 1) ps o (n + 1) c e (n + 1)) [.cells ks, .cells out, .cells (rowsA (hb8.map by8) hb8.length c' ps o (n + 1))] := by
        refine body_x cnN1_ok (noLn_ok _) (noTab_ok _) (n := 100) (g := kdYes) (bs := mk41) ?_ (by simp)
        rw [vcl41b]
        exact Br.f (by rw [nLss]; exact decide_eq_false (by omega)) ⟨rfl, rfl, rfl⟩
      have h2 := h1.post (Weak.pickV [0, 1] mk41 2 (by simp) (by simp) (by simp))
      rw [fr41_ren (show pickN [0, 1] 1 = some 1 from rfl) hstill] at h2
      have e2 : viewF [.cells ks, .cells out, .cells (rowsA (hb8.map by8) hb8.length c' ps o (n + 1))] [0, 1] 2 2 = some (rowsA (hb8.map by8) hb8.length c' ps o (n + 1)) := by
        show some (renL _ _ true _) = _
        rw [hrows (n + 1)]
      have p2 : pickN [0, 1] 2 = none := rfl
      have e3 : pickH (viewF [.cells ks, .cells out, .cells (rowsA (hb8.map by8) hb8.length c' ps o (n + 1))] [0, 1] 2) [0, 1] [.cells ks, .cells out, .cells (rowsA (hb8.map by8) hb8.length c' ps o (n + 1))] = [.cells ks, .cells out] := by
        show [renB _ _ true (.cells ks), renB _ _ true (.cells out)] = _
        simp only [renB, renL_flat hks, renL_flat hout]
      rw [e3] at h2
      simp only [ren, p2, e2] at h2
      exact h2

theorem ln41_ok : LnOK Try.prog (ln41 tf0) := by
  intro n0 b fr H p x e hn hp lg
  unfold ln41 at e
  split at e <;> cases e
  rename_i m c' ps o n c e ks out hd h1 h2
  obtain ⟨rfl, hb, hf, hp⟩ := hp
  have hb : b = lp41 := hb
  subst hb
  have hp' := hp
  obtain ⟨hks, hout, ⟨hb8, rfl, rfl⟩, ⟨hr1, pl, hpl⟩, hn⟩ := hp'
  have hw := (Weak.forget (n0 := 0) (fr := fr) (H := [.cells ks, .cells out, .cells (hb8.map by8)]) (by simp) mk41)
  rw [hf] at hw
  have hw2 := hw.trans (Weak.pickV [0, 1] mk41 2 (by simp) (by simp) (by simp))
  rw [fr41_ren (show pickN [0, 1] 1 = some 1 from rfl) hr1.still] at hw2
  have e2 : viewF [.cells ks, .cells out, .cells (hb8.map by8)] [0, 1] 2 2 = some (hb8.map by8) := by
    show some (renL _ _ true _) = _
    rw [renL_flat (flat_by8 _)]
  have p2 : pickN [0, 1] 2 = none := rfl
  have e3 : pickH (viewF [.cells ks, .cells out, .cells (hb8.map by8)] [0, 1] 2) [0, 1] [.cells ks, .cells out, .cells (hb8.map by8)] = [.cells ks, .cells out] := by
    show [renB _ _ true (.cells ks), renB _ _ true (.cells out)] = _
    simp only [renB, renL_flat hks, renL_flat hout]
  rw [e3] at hw2
  simp only [ren, renL, p2, e2] at hw2
  exact LoopTo.pre hw2 (loop41 c e hp) lg


/-! ### The document's tag -/
theorem fr40_ren {σ : Nat → Option Nat} {φ : Nat → Option (List AV)} (h1 : σ 1 = some 1) (h5 : σ 5 = some 2) {ps : List AV} (hps : Still ps) (L o n c : Nat) (e : Bool) (i : Nat) :
    forget mk40 (renL σ φ true (put (fr40 L ps o n c e i) 7 (.slc 5 0 L L 1))) = fr40 L ps o n c e i := by
  unfold fr40 mk40
  simp only [put_succ, put_zero, renL, ren, h1, h5, forget, hps σ φ]

theorem textL_snoc (pl : List (List UInt8)) (p : List UInt8) : textL (pl ++ [p]) = textL pl ++ (bytesN p.length ++ p) := by
  unfold textL
  rw [List.map_append, List.flatten_append]
  simp
theorem partsL_succ (ps : List AV) (o i : Nat) {p : AV} (hp : ps[o + i]? = some p) : partsL ps o (i + 1) = partsL ps o i ++ [partA p] := by
  unfold partsL
  have h1 : (ps.drop o)[i]? = some p := by rw [List.getElem?_drop]; exact hp
  have hlt := (List.getElem?_eq_some_iff.1 h1).1
  have : (ps.drop o)[i] = p := (List.getElem?_eq_some_iff.1 h1).2
  rw [List.take_succ_eq_append_getElem hlt, this, List.map_append]
  rfl
theorem partsL_zero (ps : List AV) (o : Nat) : partsL ps o 0 = [] := by
  unfold partsL
  rw [List.take_zero]; rfl
theorem textL_nil : textL [] = [] := rfl
theorem bytesN_length (k : Nat) : (bytesN k).length = 8 := rfl
theorem textL_mono (a b : List (List UInt8)) : (textL a).length ≤ (textL (a ++ b)).length := by
  unfold textL
  rw [List.map_append, List.flatten_append, List.length_append]
  omega
theorem textL_ge (a : List (List UInt8)) : 8 * a.length ≤ (textL a).length := by
  induction a with
  | nil => simp
  | cons x xs ih =>
    unfold textL at ih ⊢
    rw [List.map_cons, List.flatten_cons, List.length_append, List.length_append, bytesN_length, List.length_cons]
    omega
theorem partsL_le (ps : List AV) (o : Nat) {i n : Nat} (h : i ≤ n) : (textL (partsL ps o i)).length ≤ (textL (partsL ps o n)).length := by
  have : partsL ps o n = partsL ps o i ++ (((ps.drop o).drop i).take (n - i)).map partA := by
    unfold partsL
    rw [← List.map_append]
    congr 1
    have h2 := List.take_add (l := ps.drop o) (i := i) (j := n - i)
    rw [Nat.add_sub_cancel' h] at h2
    exact h2
  rw [this]
  exact textL_mono _ _

theorem body40 {ks out ps pc : List AV} {o n c i off len cap : Nat} {e ex : Bool} {lb tb : List UInt8} (hks : flatL ks) (hout : flatL out) (hps : Still ps) (hi : i < n) (hn : n < 8589934592)
    (hp : ps[o + i]? = some (.ros pc off len cap ex)) (hb : BytesAt pc off len lb) (hro : off + len ≤ pc.length) (hlen : tb.length + (8 + len) < 137438953472) :
    BodyTo Try.prog 0 lp40 (fr40 tb.length ps o n c e i) [.cells ks, .cells out, .cells (tb.map by8)] .norm
      (fr40 (tb ++ (bytesN len ++ lb)).length ps o n c e (i + 1)) [.cells ks, .cells out, .cells ((tb ++ (bytesN len ++ lb)).map by8)] := by
  have hll := hb.1
  have hL : (tb ++ (bytesN len ++ lb)).length = tb.length + 8 + len := by rw [List.length_append, List.length_append, bytesN_length, hll]; omega
  have h1 : BodyTo Try.prog 0 lp40 (fr40 tb.length ps o n c e i) [.cells ks, .cells out, .cells (tb.map by8)] .norm
      (put (fr40 (tb ++ (bytesN len ++ lb)).length ps o n c e (i + 1)) 7 (.slc 5 0 (tb ++ (bytesN len ++ lb)).length (tb ++ (bytesN len ++ lb)).length 1))
      [.cells ks, .cells out, .dead, .cells ((bytesN len).map by8), .dead, .cells ((tb ++ (bytesN len ++ lb)).map by8)] := by
    have key : ∀ Q : Ex → Fr → Hl → Prop, Q .norm (put (fr40 (tb ++ (bytesN len ++ lb)).length ps o n c e (i + 1)) 7 (.slc 5 0 (tb ++ (bytesN len ++ lb)).length (tb ++ (bytesN len ++ lb)).length 1))
          [.cells ks, .cells out, .dead, .cells ((bytesN len).map by8), .dead, .cells ((tb ++ (bytesN len ++ lb)).map by8)] →
        vm (vcA kdYes (cnN1 nf0) noLn) ops0 noTab 100 0 lp40 (fr40 tb.length ps o n c e i) [.cells ks, .cells out, .cells (tb.map by8)] [] (bodyX mk40 Q) := by
      intro Q hQ
      rw [vcl40, nAdd (by omega)]
      have e0 : MF.bytes (NF.toMF nf0) (Int.ofNat len) = (bytesN len).map by8 := rfl
      have e1 : ops0.ext (tb.map by8) 0 (ops0.mul tb.length 1) = tb.map by8 := by rw [nExt, nTimes, List.drop_zero, List.take_of_length_le (by simp)]
      have e2 : ops0.ext ((bytesN len).map by8) 0 8 = (bytesN len).map by8 := rfl
      have e3 : ops0.ext pc off (ops0.mul len 1) = lb.map by8 := by rw [nExt, nTimes, Nat.mul_one]; exact hb.2
      have e4 : ops0.ext (ops0.app (tb.map by8) ((bytesN len).map by8)) 0 (ops0.mul (ops0.add tb.length 8) 1) = (tb ++ bytesN len).map by8 := by
        rw [nExt, nTimes, nPlus, nApp, ← List.map_append, List.drop_zero, List.take_of_length_le (by simp [bytesN_length])]
      refine Br.t (by rw [nOfn, nLss]; exact decide_eq_true hi) (Chk.mk (by rw [nInr]; exact decide_eq_true hi) ⟨pc, off, len, cap, ex, Nth.mk (by rw [nAdr, Nat.mul_one]; exact hp), ?_, ?_⟩)
      · rw [cvt_len (by omega)]; exact Int.natCast_nonneg _
      · rw [cvt_len (by omega), e0, e1, e2]
        refine Chk.mk (by rw [nLe, nPlus, nTimes, nLen]; exact decide_eq_true (by simp)) (Chk.mk (by rw [nLe, nLen]; exact decide_eq_true (by simp [bytesN_length])) (Chk.mk (by rw [nRoom]; exact decide_eq_true (by omega)) (Chk.mk (by rw [nInr]; exact decide_eq_true hi)
          ⟨pc, off, len, cap, ex, Nth.mk (by rw [nAdr, Nat.mul_one]; exact hp), ?_⟩)))
        rw [e4, e3]
        refine Chk.mk (by rw [nLe, nPlus, nPlus, nTimes, nLen, nApp]; exact decide_eq_true (by simp [bytesN_length])) (Chk.mk (by rw [nLe, nPlus, nTimes, nLen]; exact decide_eq_true (by omega)) (Chk.mk (by rw [nRoom, nPlus]; exact decide_eq_true (by omega)) ?_))
        rw [nPlus, nPlus, nApp, ← List.map_append, List.append_assoc, ← hL]
        exact hQ
    exact body_x cnN1_ok (noLn_ok _) (noTab_ok _) (n := 100) (g := kdYes) (bs := mk40) (key _ ⟨rfl, rfl, rfl⟩) (by simp)
  have h2 := h1.post (Weak.pick [0, 1, 5] mk40 (by simp) (by simp) (by simp))
  have e5 : wkF [0, 1, 5] mk40 (put (fr40 (tb ++ (bytesN len ++ lb)).length ps o n c e (i + 1)) 7 (.slc 5 0 (tb ++ (bytesN len ++ lb)).length (tb ++ (bytesN len ++ lb)).length 1)) = fr40 (tb ++ (bytesN len ++ lb)).length ps o n c e (i + 1) :=
    fr40_ren (show pickN [0, 1, 5] 1 = some 1 from rfl) (show pickN [0, 1, 5] 5 = some 2 from rfl) hps _ _ _ _ _ _
  have e6 : wkH [0, 1, 5] [.cells ks, .cells out, .dead, .cells ((bytesN len).map by8), .dead, .cells ((tb ++ (bytesN len ++ lb)).map by8)] = [.cells ks, .cells out, .cells ((tb ++ (bytesN len ++ lb)).map by8)] := by
    show [renB _ _ true (.cells ks), renB _ _ true (.cells out), renB _ _ true (.cells _)] = _
    simp only [renB, renL_flat hks, renL_flat hout, renL_flat (flat_by8 _)]
  rw [e5, e6] at h2
  exact h2

/-- What is read lies there, and no further. -/
theorem BytesAt.room {pc : List AV} {off len : Nat} {lb : List UInt8} (h : BytesAt pc off len lb) : len = 0 ∨ off + len ≤ pc.length := by
  have h1 := congrArg List.length h.2
  rw [List.length_take, List.length_drop, List.length_map, h.1] at h1
  omega


theorem loop40 {ks out hd : List AV} {m : Nat} {ps : List AV} {o n : Nat} (c : Nat) (e : Bool) (h : P40 ks out hd m ps o n) :
    ∀ lg, LoopTo Try.prog 0 lp40 (fr40 m ps o n c e 0) [.cells ks, .cells out, .cells hd] lg (.exit 0) (fr40 (m + (textL (partsL ps o n)).length) ps o n c e n) [.cells ks, .cells out, .cells (hd ++ (textL (partsL ps o n)).map by8)] (List.range 0 ++ lg) := by
  obtain ⟨hroom, hks, hout, hm, ⟨hb8, rfl, rfl⟩, ⟨hr1, pl, hpl⟩, hn⟩ := h
  have hstill := hr1.still
  have hpn : (partsL ps o n).length = n := by
    have := hpl.parts
    unfold partsL
    rw [this]; exact hpl.1
  have hge := textL_ge (partsL ps o n)
  rw [hpn] at hge
  have h := loop_chain (P := Try.prog) (n0 := 0) (b := lp40) (ex := .exit 0) (fr' := fr40 (hb8 ++ textL (partsL ps o n)).length ps o n c e n) (H' := [.cells ks, .cells out, .cells ((hb8 ++ textL (partsL ps o n)).map by8)]) (by intro h; cases h)
    (fun i => (fr40 (hb8 ++ textL (partsL ps o i)).length ps o n c e i, [.cells ks, .cells out, .cells ((hb8 ++ textL (partsL ps o i)).map by8)])) n 0 (fun i _ hi => ?_) ?_
  · rw [List.length_append, List.map_append] at h
    simpa [partsL_zero, textL_nil] using h
  · have hi' : i < n := by omega
    have hlt : i < pl.length := by rw [hpl.1]; exact hi'
    obtain ⟨hl, pc, off, len, cap, ex, hp, hb⟩ := hpl.2.2 i pl[i] (List.getElem?_eq_getElem hlt)
    have hll := hb.1
    have hs : textL (partsL ps o (i + 1)) = textL (partsL ps o i) ++ (bytesN len ++ pl[i]) := by
      rw [partsL_succ ps o i hp, partA_ros hb, textL_snoc, hll]
    have hle := partsL_le ps o (show i + 1 ≤ n by omega)
    rw [hs, List.length_append, List.length_append, bytesN_length, hll] at hle
    have h2 := body40 (tb := hb8 ++ textL (partsL ps o i)) (c := c) (e := e) hks hout hstill hi' (by omega) hp hb (hroom i hi' _ _ _ _ _ hp) (by rw [List.length_append]; omega)
    show BodyTo _ _ _ (fr40 (hb8 ++ textL (partsL ps o i)).length ps o n c e i) [.cells ks, .cells out, .cells ((hb8 ++ textL (partsL ps o i)).map by8)] _ (fr40 (hb8 ++ textL (partsL ps o (i + 1))).length ps o n c e (i + 1)) [.cells ks, .cells out, .cells ((hb8 ++ textL (partsL ps o (i + 1))).map by8)]
    rw [hs, ← List.append_assoc]
    exact h2
  · rw [Nat.zero_add]
    refine body_x cnN1_ok (noLn_ok _) (noTab_ok _) (n := 100) (g := kdYes) (bs := mk40) ?_ (by simp)
    show vm _ _ _ _ _ _ (fr40 (hb8 ++ textL (partsL ps o n)).length ps o n c e n) [.cells ks, .cells out, .cells ((hb8 ++ textL (partsL ps o n)).map by8)] _ _
    rw [vcl40]
    exact Br.f (by rw [nOfn, nLss]; exact decide_eq_false (by omega)) ⟨rfl, rfl, rfl⟩

theorem ln40_ok : LnOK Try.prog (ln40 tf0) := by
  intro n0 b fr H p x e hn hp lg
  unfold ln40 at e
  split at e <;> cases e
  rename_i m c' ps o n c e ks out hd h1 h2
  obtain ⟨rfl, hb, hf, hp⟩ := hp
  have hb : b = lp40 := hb
  subst hb
  refine LoopTo.pre (Weak.forget (by simp) mk40) ?_ lg
  rw [hf]
  exact loop40 c e hp

/-! ### The contracts -/
/-- The tag of parts under a key. -/
def tagL (key l : List UInt8) (pl : List (List UInt8)) : List UInt8 := if 64 < l.length then List.replicate 32 0 else streamF 136 6 32 (headL key l ++ textL pl)
def PTag (ps : List AV) (o n : Nat) : Prop := PPs ps o n ∧ PRm ps o n ∧ (textL (partsL ps o n)).length < 68719476736
theorem tagL_length (key l : List UInt8) (pl : List (List UInt8)) : (tagL key l pl).length = 32 := by
  unfold tagL
  split
  · simp
  · exact streamF_length _ _ _ _

theorem PartsAt.append {a b : List AV} {n m : Nat} {pl ql : List (List UInt8)} (h : PartsAt a 0 n pl) (k : PartsAt b 0 m ql) (hl : a.length = n) (hlt : n + m < 1099511627776) : PartsAt (a ++ b) 0 (n + m) (pl ++ ql) := by
  refine ⟨by rw [List.length_append, h.1, k.1], hlt, fun j lb hj => ?_⟩
  rw [Nat.zero_add]
  rcases Nat.lt_or_ge j n with hjn | hjn
  · rw [List.getElem?_append_left (by rw [h.1]; exact hjn)] at hj
    rw [List.getElem?_append_left (by omega)]
    have := h.2.2 j lb hj
    rw [Nat.zero_add] at this
    exact this
  · rw [List.getElem?_append_right (by rw [h.1]; exact hjn), h.1] at hj
    rw [List.getElem?_append_right (by omega), hl]
    have := k.2.2 (j - n) lb hj
    rw [Nat.zero_add] at this
    exact this

theorem bytesAt_whole (lb : List UInt8) : BytesAt (lb.map by8) 0 lb.length lb := ⟨rfl, by rw [List.drop_zero, List.take_of_length_le (by simp)]⟩

def plR (hb : List UInt8) (pl : List (List UInt8)) : List (List UInt8) := hb :: (pl.map fun p => [bytesN p.length, p]).flatten
theorem plR_flat (hb : List UInt8) (pl : List (List UInt8)) : (plR hb pl).flatten = hb ++ textL pl := by
  unfold plR textL
  rw [List.flatten_cons]
  congr 1
  induction pl with
  | nil => rfl
  | cons x xs ih =>
    rw [List.map_cons, List.flatten_cons, List.flatten_append, ih, List.map_cons, List.flatten_cons]
    simp

theorem rows_parts (hb : List UInt8) (hh : hb.length < 1099511627776) (c : Nat) {ps : List AV} {o n : Nat} {pl : List (List UInt8)} (hpl : PartsAt ps o n pl) (hn : n < 8589934592) :
    ∀ i, i ≤ n → PartsAt (rowsA (hb.map by8) hb.length c ps o i) 0 (2 * i + 1) (plR hb (pl.take i))
  | 0, _ => by
    rw [rowsA_zero, List.take_zero]
    refine ⟨rfl, by omega, fun j lb hj => ?_⟩
    cases j with
    | zero =>
      obtain rfl : hb = lb := Option.some.inj hj
      exact ⟨hh, _, _, _, _, _, rfl, bytesAt_whole hb⟩
    | succ j => cases hj
  | i + 1, hi => by
    have ih := rows_parts hb hh c hpl hn i (by omega)
    have hlt : i < pl.length := by rw [hpl.1]; exact hi
    obtain ⟨hl, pc, off, len, cap, ex, hp, hbt⟩ := hpl.2.2 i pl[i] (List.getElem?_eq_getElem hlt)
    have hll := hbt.1
    rw [rowsA_succ _ _ _ _ _ _ hp, List.take_succ_eq_append_getElem hlt, twoA_ros hbt]
    have e1 : plR hb (pl.take i ++ [pl[i]]) = plR hb (pl.take i) ++ [bytesN len, pl[i]] := by
      unfold plR
      rw [List.map_append, List.flatten_append, ← hll]
      simp
    rw [e1]
    refine ih.append (m := 2) ⟨rfl, by omega, fun j lb hj => ?_⟩ (rowsA_length _ _ _ _ _ i (by have := hpl.lt (by omega); omega)) (by omega)
    cases j with
    | zero =>
      obtain rfl : bytesN len = lb := Option.some.inj hj
      exact ⟨by rw [bytesN_length]; omega, _, _, _, _, _, rfl, bytesAt_whole (bytesN len)⟩
    | succ j =>
      cases j with
      | zero =>
        obtain rfl : pl[i] = lb := Option.some.inj hj
        exact ⟨hl, _, _, _, _, _, rfl, hbt⟩
      | succ j => cases hj

theorem map_vw1 (H : Hl) {ps : List AV} (h : Rows1 ps) : ps.map (vw1 H) = ps := by
  have : ∀ p ∈ ps, vw1 H p = p := by
    intro p hp
    obtain ⟨cs, o, n, c, e, rfl, _⟩ := h p hp
    rfl
  rw [List.map_congr_left this, List.map_id'']
  intro a; rfl

theorem keep32 {xs : List AV} (h : xs.length = 32) : ops0.ext (ops0.spl (z8 32) 0 xs) 0 32 = xs := by
  rw [spl_all (by rw [z8_length, h]), nExt, List.drop_zero, List.take_of_length_le (by omega)]
theorem lab_lt {l : List UInt8} (h : ops0.cmp .gtr (ops0.ofn (ops0.slen l)) (Int.ofNat 64) = true) : 64 < l.length := by
  rw [nOfn, nSlen, nGtr] at h; exact of_decide_eq_true h
theorem lab_le {l : List UInt8} (h : ops0.cmp .gtr (ops0.ofn (ops0.slen l)) (Int.ofNat 64) = false) : ¬ 64 < l.length := by
  rw [nOfn, nSlen, nGtr] at h; exact of_decide_eq_false h

theorem tag41 {key l : List UInt8} (hk : key.length = 32) {ps : List AV} {o n : Nat} (c : Nat) (e : Bool) (h : PTag ps o n) :
    CallTo Try.prog 41 [.agg (key.map by8), .str l, .ros ps o n c e] [] (.agg ((tagL key l (partsL ps o n)).map by8)) [] [] := by
  refine call_n cnN1_ok ln41_ok (tabOne_ok ok41) (tabOne_self 41 vf41) (n := 200) (g := kdYes) (m := fun _ => 0) [] ?_ (by simp) (by show AV.agg _ = _; rw [renL_flat (flat_by8 _)]) (by simp)
  rw [vc41]
  refine Br.mk (fun hl => ?_) (fun hl => ?_)
  · have hl := lab_lt hl
    refine ⟨?_, rfl⟩
    rw [z8_eq]
    unfold tagL
    rw [if_pos hl]
  · have hl := lab_le hl
    obtain ⟨⟨hr1, pl, hpl⟩, hroom, htot⟩ := h
    have hpe : partsL ps o n = pl := hpl.parts
    have hge := textL_ge (partsL ps o n)
    rw [hpe, hpl.1] at hge
    rw [hpe] at htot
    have hkl : (key.map by8).length = 32 := by rw [List.length_map, hk]
    have e1 : ops0.ext (key.map by8) 0 32 = key.map by8 := by rw [nExt, List.drop_zero, List.take_of_length_le (by omega)]
    have e2 : MF.head (NF.toMF nf0) (key.map by8) l = (headL key l).map by8 := by
      show (headL (bytesA (key.map by8)) l).map by8 = _
      rw [bytesA_by8]
    have e3 : ops0.add (ops0.slen l) 33 = (headL key l).length := by rw [nPlus, nSlen, headL_length, hk]
    have e4 : TF.rows tf0 ((headL key l).map by8) (headL key l).length (headL key l).length ps o n = rowsA ((headL key l).map by8) (headL key l).length (headL key l).length ps o n := rfl
    rw [e1, e2, e3, e4]
    have hhl := headL_length key l
    have hrows := rowsA_rows (flat_by8 (headL key l)) (headL key l).length (headL key l).length o n hr1
    have hparts := rows_parts (headL key l) (by omega) (headL key l).length hpl (by omega) n (Nat.le_refl n)
    rw [List.take_of_length_le (by rw [hpl.1]; omega)] at hparts
    rw [map_vw1 _ hrows]
    have e5 : KF.sum (AF.toKF (NF.toAF nf0)) (rdP (rowsA ((headL key l).map by8) (headL key l).length (headL key l).length ps o n) 0 (2 * n + 1)) = (streamF 136 6 32 (headL key l ++ textL pl)).map by8 := by
      show (streamF 136 6 32 (rdP _ 0 (2 * n + 1))).map by8 = _
      have : rdP (rowsA ((headL key l).map by8) (headL key l).length (headL key l).length ps o n) 0 (2 * n + 1) = headL key l ++ textL pl := by
        unfold rdP
        rw [hparts.parts, plR_flat]
      rw [this]
    rw [e5]
    have hsl : ((streamF 136 6 32 (headL key l ++ textL pl)).map by8).length = 32 := by rw [List.length_map, streamF_length]
    rw [keep32 hsl]
    refine Chk.mk (by rw [nLe, nLen]; exact decide_eq_true (by omega)) ⟨⟨⟨key, hk, rfl⟩, by omega⟩, ⟨rfl, rfl, rfl, flat_by8 _, z8_flat _, ⟨_, rfl, rfl⟩, ⟨hr1, pl, hpl⟩, by omega⟩, ⟨hrows, _, hparts⟩,
      Chk.mk (by rw [nEq, nLen]; exact decide_eq_true hsl) (Chk.mk (by rw [nLe, nLen, spl_all (by rw [z8_length, hsl])]; exact decide_eq_true (by omega)) ⟨?_, rfl⟩)⟩
    unfold tagL
    rw [if_neg hl, hpe]

theorem tag40 {key l : List UInt8} (hk : key.length = 32) {ps : List AV} {o n : Nat} (c : Nat) (e : Bool) (h : PTag ps o n) :
    CallTo Try.prog 40 [.agg (key.map by8), .str l, .ros ps o n c e] [] (.agg ((tagL key l (partsL ps o n)).map by8)) [] [] := by
  refine call_n cnN1_ok ln40_ok (tabOne_ok ok40) (tabOne_self 40 vf40) (n := 200) (g := kdYes) (m := fun _ => 0) [] ?_ (by simp) (by show AV.agg _ = _; rw [renL_flat (flat_by8 _)]) (by simp)
  rw [vc40]
  refine Br.mk (fun hl => ?_) (fun hl => ?_)
  · have hl := lab_lt hl
    refine ⟨?_, rfl⟩
    rw [z8_eq]
    unfold tagL
    rw [if_pos hl]
  · have hl := lab_le hl
    obtain ⟨hpps, hroom, htot⟩ := h
    have hkl : (key.map by8).length = 32 := by rw [List.length_map, hk]
    have e1 : ops0.ext (key.map by8) 0 32 = key.map by8 := by rw [nExt, List.drop_zero, List.take_of_length_le (by omega)]
    have e2 : MF.head (NF.toMF nf0) (key.map by8) l = (headL key l).map by8 := by
      show (headL (bytesA (key.map by8)) l).map by8 = _
      rw [bytesA_by8]
    have e3 : ops0.add (ops0.slen l) 33 = (headL key l).length := by rw [nPlus, nSlen, headL_length, hk]
    have hhl := headL_length key l
    have e4 : TF.txt tf0 ((headL key l).map by8) ps o n = (headL key l ++ textL (partsL ps o n)).map by8 := by rw [List.map_append]; rfl
    have e6 : TF.len tf0 (headL key l).length ps o n = (headL key l ++ textL (partsL ps o n)).length := by rw [List.length_append]; rfl
    rw [e1, e2, e3, e4, e6]
    have e5 : KF.sum (AF.toKF (NF.toAF nf0)) (rdB ((headL key l ++ textL (partsL ps o n)).map by8) 0 (headL key l ++ textL (partsL ps o n)).length) = (streamF 136 6 32 (headL key l ++ textL (partsL ps o n))).map by8 := by
      show (streamF 136 6 32 (rdB _ 0 _)).map by8 = _
      rw [rdB_eq (bytesAt_whole _)]
    rw [e5]
    have hsl : ((streamF 136 6 32 (headL key l ++ textL (partsL ps o n))).map by8).length = 32 := by rw [List.length_map, streamF_length]
    rw [keep32 hsl]
    refine Chk.mk (by rw [nLe, nLen]; exact decide_eq_true (by omega)) ⟨⟨⟨key, hk, rfl⟩, by omega⟩, ⟨rfl, rfl, rfl, hroom, flat_by8 _, z8_flat _, by omega, ⟨_, rfl, rfl⟩, hpps, htot⟩, ⟨flat_by8 _, by simp, by rw [List.length_append]; omega, _, bytesAt_whole _⟩,
      Chk.mk (by rw [nEq, nLen]; exact decide_eq_true hsl) (Chk.mk (by rw [nLe, nLen, spl_all (by rw [z8_length, hsl])]; exact decide_eq_true (by omega)) ⟨?_, rfl⟩)⟩
    unfold tagL
    rw [if_neg hl]

end
end Go.Proofs.Vm
