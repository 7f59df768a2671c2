/-
  KECCAK, PART 22: all of it, as contracts in any memory.
-/
import Derived.Test.YtfmhlogapbpnbaaYaj
import Derived.Test.YtfmhlogapbpnbaaYae

namespace Go.Proofs.Vm
open Go.Vm
noncomputable section
/-- Bytes lie there. -/
def PB (pc : List AV) (off len : Nat) : Prop := flatL pc ∧ off + len ≤ pc.length ∧ len < 137438953472 ∧ ∃ lb, BytesAt pc off len lb
def rdB (pc : List AV) (off len : Nat) : List UInt8 := bytesA ((pc.drop off).take len)
/-- Sums and streams (kept apart). -/
structure KF where
  sum : List UInt8 → List AV
  str : List UInt8 → Nat → List AV
def cn67 (S : Nat → Nat → Nat → List UInt8 → List AV) : CnF := fun f vals H => match f, vals with
  | 67, [.int .i64 n, .int .i64 (.ofNat rate), .int .u8 (.ofNat e), x] => match vw1 H x with
    | .ros pc off len _ _ => some (PB pc off len ∧ 0 ≤ n ∧ n < 274877906944 ∧ ((rate = 136 ∧ e = 6) ∨ (rate = 168 ∧ e = 31)), .ok (.slc (size H) 0 n.toNat n.toNat 1) (join H [.cells (S n.toNat rate e (rdB pc off len))]) [])
    | _ => none
  | _, _ => none
def st67 (n rate e : Nat) (l : List UInt8) : List AV := (streamF rate (UInt8.ofNat e) n l).map by8
def lp24 : VC := (.seq (.seq (.reg .false [] [⟨(.some 8), .none, .mov, [(.t 5)]⟩, ⟨(.some 9), .none, (.cmp .lss), [(.t 8), (.c (.int .i64 (.ofNat 32)))]⟩]) (.cond (.t 9) .skip (.exit 0))) (.seq (.block 1 (.reg .false [] [⟨(.some 12), .none, .mov, [(.t 5)]⟩, ⟨(.some 13), .none, .mov, [(.t 4)]⟩, ⟨(.some 14), .none, .mov, [(.t 5)]⟩, ⟨(.some 15), .none, (.ixS 1), [(.t 13), (.t 14)]⟩, ⟨(.some 16), .none, (.ld1 (.int .u8)), [(.t 15)]⟩, ⟨(.some 17), .none, (.ixA 32 1), [(.t 3), (.t 12)]⟩, ⟨.none, .none, .st1, [(.t 17), (.t 16)]⟩])) (.reg .false [] [⟨(.some 10), .none, .mov, [(.t 5)]⟩, ⟨(.some 11), .none, (.bin .add .i64), [(.t 10), (.c (.int .i64 (.ofNat 1)))]⟩, ⟨(.some 5), .none, .mov, [(.t 11)]⟩])))
def fr24 (x3 x4 : AV) (i : Nat) : Fr := [.top, .top, .ptr 0 0, .ptr 1 0, x4, .int .i64 (Int.ofNat i), .top, .top, .top, .top, .top, .top, .top, .top, .top, .top, .top, .top, .top]
def mk24 : List Bool := [true, true, false, false, false, false, true, true, true, true, true, true, true, true, true, true, true, true, true]
def ln24 : LnF := fun n0 b fr H => match slot fr 4, H with
  | .slc 2 0 32 c 1, [.cells xs, .cells ys, .cells zs] => some (n0 = 0 ∧ VCis b lp24 ∧ forget mk24 fr = fr24 (.ptr 1 0) (.slc 2 0 32 c 1) 0 ∧ ys.length = 32 ∧ ∃ l : List UInt8, l.length = 32 ∧ zs = l.map by8,
      .ok (.exit 0) (fr24 (.ptr 1 0) (.slc 2 0 32 c 1) 32) [.cells xs, .cells zs, .cells zs])
  | _, _ => none

theorem vcl24 (xs ys zs : List AV) (c i : Nat) (Q : Ex → Fr → Hl → Prop) :
  (vm (vcA kdYes noCn noLn) ops0 noTab 100 0 lp24 (fr24 (.ptr 1 0) (.slc 2 0 32 c 1) i) [.cells xs, .cells ys, .cells zs] [] (bodyX mk24 Q)) =
 ((Br (ops0.cmp BinOp.lss (Int.ofNat i) (Int.ofNat 32))
 (Chk (ops0.inr (Int.ofNat i) 32)
 (∃ n : Int, ((Nth zs (ops0.adr 0 (Int.ofNat i) 1) (AV.int IntKind.u8 n)) ∧
 (Chk (ops0.inr (Int.ofNat i) 32)
 (Chk (ops0.lt (ops0.adr 0 (Int.ofNat i) 1) (ops0.len ys))
 (Q Ex.norm [AV.top, AV.top, (AV.ptr 0 0), (AV.ptr 1 0), (AV.slc 2 0 32 c 1), (AV.int IntKind.i64 (ops0.bin BinOp.add IntKind.i64 (Int.ofNat i) (Int.ofNat 1))), AV.top, AV.top, AV.top, AV.top, AV.top, AV.top, AV.top, AV.top, AV.top, AV.top, AV.top, AV.top, AV.top] [(Blk.cells xs), (Blk.cells (ops0.set ys (ops0.adr 0 (Int.ofNat i) 1) (AV.int IntKind.u8 n))), (Blk.cells zs)]))))))
 (Q (Ex.exit 0) [AV.top, AV.top, (AV.ptr 0 0), (AV.ptr 1 0), (AV.slc 2 0 32 c 1), (AV.int IntKind.i64 (Int.ofNat i)), AV.top, AV.top, AV.top, AV.top, AV.top, AV.top, AV.top, AV.top, AV.top, AV.top, AV.top, AV.top, AV.top] [(Blk.cells xs), (Blk.cells ys), (Blk.cells zs)]))) := by kernel_rfl

theorem vc28 (S : Nat → Nat → Nat → List UInt8 → List AV) (k : Int) (pc : List AV) (off len cap : Nat) (ex : Bool) (Q : AV → Hl → List Nat → Prop) :
  (vcall (vcA kdYes (cn67 S) noLn) ops0 (tabOne 28 vf28) 100 vf28 [.int .i64 k, .ros pc off len cap ex] [] Q) =
 ((Br (ops0.cmp BinOp.lss k (Int.ofNat 1))
 (Q AV.nils [] [])
 (Br (ops0.cmp BinOp.gtr k (Int.ofNat 65536))
 (Q AV.nils [] [])
 (((PB pc off len) ∧
 (((Int.ofNat 0) ≤ k) ∧
 ((k < (Int.ofNat 274877906944)) ∧
 (Or (((168 : Nat) = 136) ∧ ((31 : Nat) = 6)) (((168 : Nat) = 168) ∧ ((31 : Nat) = 31)))))) ∧
 (Q (AV.slc 0 0 (Int.toNat k) (Int.toNat k) 1) [(Blk.cells (S (Int.toNat k) 168 31 (rdB pc off len)))] []))))) := by kernel_rfl

theorem vc24 (S : Nat → Nat → Nat → List UInt8 → List AV) (pc : List AV) (off len cap : Nat) (ex : Bool) (Q : AV → Hl → Prop) :
  (vcall (vcA kdYes (cn67 S) ln24) ops0 (tabOne 24 vf24) 100 vf24 [.ros pc off len cap ex] [] (endN (fun _ => 0) Q)) =
 ((((PB pc off len) ∧
 (((Int.ofNat 0) ≤ (Int.ofNat 32)) ∧
 (((Int.ofNat 32) < (Int.ofNat 274877906944)) ∧
 (Or (((136 : Nat) = 136) ∧ ((6 : Nat) = 6)) (((136 : Nat) = 168) ∧ ((6 : Nat) = 31)))))) ∧
 ((((0 : Nat) = 0) ∧
 ((VCis lp24 lp24) ∧
 ((([AV.top, AV.top, (AV.ptr 0 0), (AV.ptr 1 0), (AV.slc 2 0 32 32 1), (AV.int IntKind.i64 (Int.ofNat 0)), AV.top, AV.top, AV.top, AV.top, AV.top, AV.top, AV.top, AV.top, AV.top, AV.top, AV.top, AV.top, AV.top] : Fr) = [AV.top, AV.top, (AV.ptr 0 0), (AV.ptr 1 0), (AV.slc 2 0 32 32 1), (AV.int IntKind.i64 (Int.ofNat 0)), AV.top, AV.top, AV.top, AV.top, AV.top, AV.top, AV.top, AV.top, AV.top, AV.top, AV.top, AV.top, AV.top]) ∧
 (((32 : Nat) = 32) ∧
 (∃ l : (List UInt8), ((((List.length l) : Nat) = 32) ∧
 (((S 32 136 6 (rdB pc off len)) : (List AV)) = (List.map by8 l)))))))) ∧
 (Chk (ops0.le 32 (ops0.len (S 32 136 6 (rdB pc off len))))
 (Chk (ops0.eq (ops0.len (ops0.ext (S 32 136 6 (rdB pc off len)) 0 32)) 32)
 (Chk (ops0.le 32 (ops0.len (ops0.spl [(AV.int IntKind.u8 (Int.ofNat 0)), (AV.int IntKind.u8 (Int.ofNat 0)), (AV.int IntKind.u8 (Int.ofNat 0)), (AV.int IntKind.u8 (Int.ofNat 0)), (AV.int IntKind.u8 (Int.ofNat 0)), (AV.int IntKind.u8 (Int.ofNat 0)), (AV.int IntKind.u8 (Int.ofNat 0)), (AV.int IntKind.u8 (Int.ofNat 0)), (AV.int IntKind.u8 (Int.ofNat 0)), (AV.int IntKind.u8 (Int.ofNat 0)), (AV.int IntKind.u8 (Int.ofNat 0)), (AV.int IntKind.u8 (Int.ofNat 0)), (AV.int IntKind.u8 (Int.ofNat 0)), (AV.int IntKind.u8 (Int.ofNat 0)), (AV.int IntKind.u8 (Int.ofNat 0)), (AV.int IntKind.u8 (Int.ofNat 0)), (AV.int IntKind.u8 (Int.ofNat 0)), (AV.int IntKind.u8 (Int.ofNat 0)), (AV.int IntKind.u8 (Int.ofNat 0)), (AV.int IntKind.u8 (Int.ofNat 0)), (AV.int IntKind.u8 (Int.ofNat 0)), (AV.int IntKind.u8 (Int.ofNat 0)), (AV.int IntKind.u8 (Int.ofNat 0)), (AV.int IntKind.u8 (Int.ofNat 0)), (AV.int IntKind.u8 (Int.ofNat 0)), (AV.int IntKind.u8 (Int.ofNat 0)), (AV.int IntKind.u8 (Int.ofNat 0)), (AV.int IntKind.u8 (Int.ofNat 0)), (AV.int IntKind.u8 (Int.ofNat 0)), (AV.int IntKind.u8 (Int.ofNat 0)), (AV.int IntKind.u8 (Int.ofNat 0)), (AV.int IntKind.u8 (Int.ofNat 0))] 0 (ops0.ext (S 32 136 6 (rdB pc off len)) 0 32))))
 (Q (AV.agg (ops0.ext (ops0.spl [(AV.int IntKind.u8 (Int.ofNat 0)), (AV.int IntKind.u8 (Int.ofNat 0)), (AV.int IntKind.u8 (Int.ofNat 0)), (AV.int IntKind.u8 (Int.ofNat 0)), (AV.int IntKind.u8 (Int.ofNat 0)), (AV.int IntKind.u8 (Int.ofNat 0)), (AV.int IntKind.u8 (Int.ofNat 0)), (AV.int IntKind.u8 (Int.ofNat 0)), (AV.int IntKind.u8 (Int.ofNat 0)), (AV.int IntKind.u8 (Int.ofNat 0)), (AV.int IntKind.u8 (Int.ofNat 0)), (AV.int IntKind.u8 (Int.ofNat 0)), (AV.int IntKind.u8 (Int.ofNat 0)), (AV.int IntKind.u8 (Int.ofNat 0)), (AV.int IntKind.u8 (Int.ofNat 0)), (AV.int IntKind.u8 (Int.ofNat 0)), (AV.int IntKind.u8 (Int.ofNat 0)), (AV.int IntKind.u8 (Int.ofNat 0)), (AV.int IntKind.u8 (Int.ofNat 0)), (AV.int IntKind.u8 (Int.ofNat 0)), (AV.int IntKind.u8 (Int.ofNat 0)), (AV.int IntKind.u8 (Int.ofNat 0)), (AV.int IntKind.u8 (Int.ofNat 0)), (AV.int IntKind.u8 (Int.ofNat 0)), (AV.int IntKind.u8 (Int.ofNat 0)), (AV.int IntKind.u8 (Int.ofNat 0)), (AV.int IntKind.u8 (Int.ofNat 0)), (AV.int IntKind.u8 (Int.ofNat 0)), (AV.int IntKind.u8 (Int.ofNat 0)), (AV.int IntKind.u8 (Int.ofNat 0)), (AV.int IntKind.u8 (Int.ofNat 0)), (AV.int IntKind.u8 (Int.ofNat 0))] 0 (ops0.ext (S 32 136 6 (rdB pc off len)) 0 32)) 0 32)) []))))))) := by kernel_rfl

theorem rdB_eq {pc : List AV} {off len : Nat} {lb : List UInt8} (h : BytesAt pc off len lb) : rdB pc off len = lb := by
  unfold rdB
  rw [h.2, bytesA_by8]

theorem cn67_ok : CnOK Try.prog (cn67 st67) := by
  intro f vals H p x e hp
  unfold cn67 at e
  split at e
  · rename_i n rate k y
    split at e <;> cases e
    rename_i pc off len cap ex hv
    obtain ⟨⟨hf, ho, hl, lb, hlb⟩, h0, hn, hr⟩ := hp
    obtain ⟨m, rfl⟩ : ∃ m : Nat, n = Int.ofNat m := ⟨n.toNat, (Int.toNat_of_nonneg h0).symm⟩
    have hn : m < 274877906944 := by
      have : (m : Int) < 274877906944 := hn
      omega
    show CallTo _ _ _ _ (.slc (size H) 0 m m 1) (join H [.cells (st67 m rate k (rdB pc off len))]) []
    rw [rdB_eq hlb]
    have hvs : Vws H [.int .i64 (Int.ofNat m), .int .i64 (Int.ofNat rate), .int .u8 (Int.ofNat k), y] [.int .i64 (Int.ofNat m), .int .i64 (Int.ofNat rate), .int .u8 (Int.ofNat k), .ros pc off len cap ex] :=
      .cons (.int _ _ _) (.cons (.int _ _ _) (.cons (.int _ _ _) (.cons (.one hv hf) .nil)))
    have hc : CallTo Try.prog 67 [.int .i64 (Int.ofNat m), .int .i64 (Int.ofNat rate), .int .u8 (Int.ofNat k), .ros pc off len cap ex] [] (.slc 0 0 m m 1) [.cells ((streamF rate (UInt8.ofNat k) m lb).map by8)] [] := by
      rcases hr with ⟨rfl, rfl⟩ | ⟨rfl, rfl⟩
      · exact out67 pc off len cap ex lb hlb hl m 136 6 (by decide) (by decide) (by decide) (.inl rfl) hn ho
      · exact out67 pc off len cap ex lb hlb hl m 168 31 (by decide) (by decide) (by decide) (.inr rfl) hn ho
    exact CallTo.lookS hc (flat_by8 _) hvs
  · cases e

theorem loop24 (c : Nat) (xs ys : List AV) (hy : ys.length = 32) (l : List UInt8) (hl : l.length = 32) :
    ∀ lg, LoopTo Try.prog 0 lp24 (fr24 (.ptr 1 0) (.slc 2 0 32 c 1) 0) [.cells xs, .cells ys, .cells (l.map by8)] lg (.exit 0) (fr24 (.ptr 1 0) (.slc 2 0 32 c 1) 32) [.cells xs, .cells (l.map by8), .cells (l.map by8)] (List.range 0 ++ lg) := by
  have h := loop_chain (P := Try.prog) (n0 := 0) (b := lp24) (ex := .exit 0) (fr' := fr24 (.ptr 1 0) (.slc 2 0 32 c 1) 32) (H' := [.cells xs, .cells (l.map by8), .cells (l.map by8)]) (by intro h; cases h)
    (fun i => (fr24 (.ptr 1 0) (.slc 2 0 32 c 1) i, [.cells xs, .cells ((l.take i).map by8 ++ ys.drop i), .cells (l.map by8)])) 32 0 (fun i _ hi => ?_) ?_
  · simpa using h
  · have hi' : i < 32 := by omega
    have key : ∀ Q : Ex → Fr → Hl → Prop, Q .norm (fr24 (.ptr 1 0) (.slc 2 0 32 c 1) (i + 1)) [.cells xs, .cells ((l.take (i + 1)).map by8 ++ ys.drop (i + 1)), .cells (l.map by8)] →
        vm (vcA kdYes noCn noLn) ops0 noTab 100 0 lp24 (fr24 (.ptr 1 0) (.slc 2 0 32 c 1) i) [.cells xs, .cells ((l.take i).map by8 ++ ys.drop i), .cells (l.map by8)] [] (bodyX mk24 Q) := by
      intro Q hQ
      rw [vcl24, nAdd (by omega)]
      simp only [nLss, nInr, nAdr, nLt, nLen, nSet, Nat.zero_add, Nat.mul_one]
      have hx : (l.map by8)[i]? = some (.int .u8 (Int.ofNat (l[i]'(by omega)).toNat)) := by
        rw [List.getElem?_map, List.getElem?_eq_getElem (by omega)]; rfl
      refine Br.t (decide_eq_true hi') (Chk.mk (decide_eq_true hi') ⟨_, Nth.mk hx, Chk.mk (decide_eq_true hi') (Chk.mk (decide_eq_true (by simp [hl, hy]; omega)) ?_)⟩)
      rw [set_mid (l.take i) ys (by simp [hl]; omega) (by omega)]
      rw [List.take_succ_eq_append_getElem (by omega), List.map_append, List.append_assoc] at hQ
      exact hQ
    exact body_x (noCn_ok _) (noLn_ok _) (noTab_ok _) (n := 100) (g := kdYes) (bs := mk24) (key _ ⟨rfl, rfl, rfl⟩) (by simp)
  · show BodyTo _ _ _ (fr24 (.ptr 1 0) (.slc 2 0 32 c 1) 32) [.cells xs, .cells ((l.take 32).map by8 ++ ys.drop 32), .cells (l.map by8)] _ _ _
    rw [List.take_of_length_le (by omega), List.drop_of_length_le (by omega), List.append_nil]
    refine body_x (noCn_ok _) (noLn_ok _) (noTab_ok _) (n := 100) (g := kdYes) (bs := mk24) ?_ (by simp)
    rw [vcl24]
    exact Br.f rfl ⟨rfl, rfl, rfl⟩

theorem ln24_ok : LnOK Try.prog ln24 := by
  intro n0 b fr H p x e hn hp lg
  unfold ln24 at e
  split at e <;> cases e
  rename_i c xs ys zs h1
  obtain ⟨rfl, hb, hf, hy, l, hl, rfl⟩ := hp
  have hb : b = lp24 := hb
  subst hb
  refine LoopTo.pre (Weak.forget (by simp) mk24) ?_ lg
  rw [hf]
  exact loop24 c xs ys hy l hl

/-- THE DIGEST, by the document. -/
theorem sum24 {pc : List AV} {off len : Nat} (cap : Nat) (ex : Bool) (h : PB pc off len) : CallTo Try.prog 24 [.ros pc off len cap ex] [] (.agg ((streamF 136 6 32 (rdB pc off len)).map by8)) [] [] := by
  refine call_n cn67_ok ln24_ok (tabOne_ok ok24) (tabOne_self 24 vf24) (n := 100) (g := kdYes) (m := fun _ => 0) [] ?_ (by simp) ?_ (by simp)
  · rw [vc24]
    have hL := streamF_length 136 6 32 (rdB pc off len)
    have e1 : st67 32 136 6 (rdB pc off len) = (streamF 136 6 32 (rdB pc off len)).map by8 := rfl
    simp only [e1]
    generalize streamF 136 6 32 (rdB pc off len) = L at hL ⊢
    simp only [nLe, nLen, nExt, nEq, nSpl, List.drop_zero, List.take_zero, List.nil_append]
    have ht : (L.map by8).take 32 = L.map by8 := List.take_of_length_le (by simp [hL])
    rw [ht, take_app hL]
    refine ⟨⟨h, by decide, by decide, .inl ⟨by trivial, by trivial⟩⟩, ⟨by trivial, rfl, by trivial, by simp, L, hL, rfl⟩, Chk.mk (decide_eq_true (by simp [hL])) (Chk.mk (decide_eq_true (by simp [hL])) (Chk.mk (decide_eq_true (by simp [hL])) ⟨by trivial, by trivial⟩))⟩
  · show AV.agg _ = _
    rw [renL_flat (flat_by8 _)]

theorem stream28 {pc : List AV} {off len : Nat} (cap : Nat) (ex : Bool) (h : PB pc off len) (k : Nat) (hk : 1 ≤ k ∧ k ≤ 65536) : CallTo Try.prog 28 [.int .i64 (Int.ofNat k), .ros pc off len cap ex] [] (.slc 0 0 k k 1) [.cells ((streamF 168 31 k (rdB pc off len)).map by8)] [] := by
  refine call_x cn67_ok (noLn_ok _) (tabOne_ok ok28) (tabOne_self 28 vf28) (n := 100) (g := kdYes) ?_
  rw [vc28]
  exact Br.f (by rw [nLss]; exact decide_eq_false (by omega)) (Br.f (by rw [nGtr]; exact decide_eq_false (by omega)) ⟨⟨h, by simp, by simp; omega, .inr ⟨rfl, rfl⟩⟩, rfl, rfl, rfl⟩)
theorem stream28_nil {pc : List AV} {off len : Nat} (cap : Nat) (ex : Bool) (k : Int) (hk : ¬ (1 ≤ k ∧ k ≤ 65536)) : CallTo Try.prog 28 [.int .i64 k, .ros pc off len cap ex] [] .nils [] [] := by
  refine call_x cn67_ok (noLn_ok _) (tabOne_ok ok28) (tabOne_self 28 vf28) (n := 100) (g := kdYes) ?_
  rw [vc28]
  refine Br.mk (fun h => ⟨rfl, rfl, rfl⟩) (fun h => Br.mk (fun h => ⟨rfl, rfl, rfl⟩) (fun h2 => ?_))
  have h : ¬ k < 1 := of_decide_eq_false h
  have h2 : ¬ k > 65536 := of_decide_eq_false h2
  omega

/-! ### Contracts in any memory -/
def PPs (ps : List AV) (o n : Nat) : Prop := Rows1 ps ∧ ∃ pl, PartsAt ps o n pl
def rdP (ps : List AV) (o n : Nat) : List UInt8 := (((ps.drop o).take n).map partA).flatten
def inK (k : Int) : Bool := decide (1 ≤ k) && decide (k ≤ 65536)
def kf0 : KF := ⟨fun l => (streamF 136 6 32 l).map by8, fun l n => (streamF 168 31 n l).map by8⟩
/-- Digests and streams. -/
def cnK (S : KF) : CnF := fun f vals H => match f, vals with
  | 24, [x] => match vw1 H x with
    | .ros pc off len _ _ => some (PB pc off len, .ok (.agg (S.sum (rdB pc off len))) H [])
    | _ => none
  | 26, [x] => match vw2 H x with
    | .ros ps o n _ _ => some (PPs ps o n, .ok (.agg (S.sum (rdP ps o n))) H [])
    | _ => none
  | 27, [.int .i64 k, x] => match vw2 H x with
    | .ros ps o n _ _ => some (PPs ps o n, .cond (inK k) (.ok (.slc (size H) 0 k.toNat k.toNat 1) (join H [.cells (S.str (rdP ps o n) k.toNat)]) []) (.ok .nils H []))
    | _ => none
  | 28, [.int .i64 k, x] => match vw1 H x with
    | .ros pc off len _ _ => some (PB pc off len, .cond (inK k) (.ok (.slc (size H) 0 k.toNat k.toNat 1) (join H [.cells (S.str (rdB pc off len) k.toNat)]) []) (.ok .nils H []))
    | _ => none
  | _, _ => none

theorem backV_flat {H : Hl} {cs : List AV} (h : flatL cs) : backV [] H.length (.agg cs) = .agg cs := by
  show AV.agg _ = _
  rw [renL_flat h]
theorem inK_true {k : Int} (h : inK k = true) : ∃ n : Nat, k = Int.ofNat n ∧ 1 ≤ n ∧ n ≤ 65536 := by
  simp only [inK, Bool.and_eq_true, decide_eq_true_eq] at h
  exact ⟨k.toNat, (Int.toNat_of_nonneg (by omega)).symm, by omega, by omega⟩
theorem inK_false {k : Int} (h : inK k = false) : ¬ (1 ≤ k ∧ k ≤ 65536) := by
  intro hk
  have : inK k = true := by simp only [inK, Bool.and_eq_true, decide_eq_true_eq]; exact hk
  rw [this] at h; cases h

theorem cnK_ok : CnOK Try.prog (cnK kf0) := by
  intro f vals H p x e hp
  unfold cnK at e
  split at e
  · rename_i y
    split at e <;> cases e
    rename_i pc off len cap ex hv
    have h := CallTo.lookV (sum24 cap ex hp) (.cons (Vw.one hv hp.1) .nil)
    rw [backV_flat (flat_by8 _)] at h
    exact h
  · rename_i y
    split at e <;> cases e
    rename_i ps o n c ex hv
    obtain ⟨hr, pl, hpl⟩ := hp
    have h := CallTo.lookV (sum26 c ex hr.still hpl) (.cons (Vw.two hv hr) .nil)
    rw [backV_flat (flat_by8 _)] at h
    show CallTo _ _ _ _ (.agg ((streamF 136 6 32 (rdP ps o n)).map by8)) _ _
    unfold rdP
    rw [hpl.parts]
    exact h
  · rename_i k y
    split at e <;> cases e
    rename_i ps o n c ex hv
    obtain ⟨hr, pl, hpl⟩ := hp
    cases hk : inK k with
    | true =>
      obtain ⟨m, rfl, hm⟩ := inK_true hk
      simp only [CRes.fin, hk]
      have h := CallTo.lookS (stream27 c ex hr.still hpl m hm) (flat_by8 _) (.cons (Vw.int H _ _) (.cons (Vw.two hv hr) .nil))
      show CallTo _ _ _ _ _ (join H [.cells ((streamF 168 31 m (rdP ps o n)).map by8)]) _
      unfold rdP
      rw [hpl.parts]
      exact h
    | false =>
      simp only [CRes.fin, hk]
      exact CallTo.lookV (stream27_nil c ex k (inK_false hk)) (.cons (Vw.int H _ _) (.cons (Vw.two hv hr) .nil))
  · rename_i k y
    split at e <;> cases e
    rename_i pc off len c ex hv
    cases hk : inK k with
    | true =>
      obtain ⟨m, rfl, hm⟩ := inK_true hk
      simp only [CRes.fin, hk]
      exact CallTo.lookS (stream28 c ex hp m hm) (flat_by8 _) (.cons (Vw.int H _ _) (.cons (Vw.one hv hp.1) .nil))
    | false =>
      simp only [CRes.fin, hk]
      exact CallTo.lookV (stream28_nil c ex k (inK_false hk)) (.cons (Vw.int H _ _) (.cons (Vw.one hv hp.1) .nil))
  · cases e

end
end Go.Proofs.Vm

namespace Go.Proofs.Vm
open Go.Vm
noncomputable section

/-- '<' by what is handed in. -/
def opsL (γ : Int → Int → Bool) : Ops := { ops0 with
  cmp := fun op x y => match op with
    | .lss => γ x y
    | op => cmp0 op x y }
theorem opsL_eq : opsL (cmp0 .lss) = ops0 := by
  have h1 : (opsL (cmp0 .lss)).cmp = ops0.cmp := by
    funext op x y
    cases op <;> rfl
  show { ops0 with cmp := (opsL (cmp0 .lss)).cmp } = ops0
  rw [h1]

/-- The register's step. -/
def reg1 (r : Nat) : Nat := if 2 * r > 255 then (2 * r - 256) ^^^ 113 else 2 * r
def reg : Nat → Nat
  | 0 => 1
  | n + 1 => reg1 (reg n)

def lp73 : VC := (.seq (.seq (.reg .false [] [⟨(.some 5), .none, .mov, [(.t 4)]⟩, ⟨(.some 6), .none, .mov, [(.t 0)]⟩, ⟨(.some 7), .none, (.cmp .lss), [(.t 5), (.t 6)]⟩]) (.cond (.t 7) .skip (.exit 0))) (.seq (.block 1 (.seq (.reg .false [] [⟨(.some 10), .none, .mov, [(.t 3)]⟩, ⟨(.some 11), .none, (.bin .mul .i64), [(.c (.int .i64 (.ofNat 2))), (.t 10)]⟩, ⟨(.some 3), .none, .mov, [(.t 11)]⟩]) (.seq (.reg .false [] [⟨(.some 12), .none, .mov, [(.t 3)]⟩, ⟨(.some 13), .none, (.cmp .gtr), [(.t 12), (.c (.int .i64 (.ofNat 255)))]⟩]) (.cond (.t 13) (.reg .false [] [⟨(.some 14), .none, .mov, [(.t 3)]⟩, ⟨(.some 15), .none, (.bin .sub .i64), [(.t 14), (.c (.int .i64 (.ofNat 256)))]⟩, ⟨(.some 16), .none, (.bin .xor .i64), [(.t 15), (.c (.int .i64 (.ofNat 113)))]⟩, ⟨(.some 3), .none, .mov, [(.t 16)]⟩]) .skip)))) (.reg .false [] [⟨(.some 8), .none, .mov, [(.t 4)]⟩, ⟨(.some 9), .none, (.bin .add .i64), [(.t 8), (.c (.int .i64 (.ofNat 1)))]⟩, ⟨(.some 4), .none, .mov, [(.t 9)]⟩])))
def mask73 : List Bool := [false, true, true, false, false, true, true, true, true, true, true, true, true, true, true, true, true, true, true, true]
def fr73 (n r i : Int) : Fr := [.int .i64 n, .top, .top, .int .i64 r, .int .i64 i, .top, .top, .top, .top, .top, .top, .top, .top, .top, .top, .top, .top, .top, .top, .top]

theorem body73 (γ : Int → Int → Bool) (n : Int) : ∀ i, i < 168 →
    vm (optC noCon) (opsL γ) noTab 100 0 lp73 (fr73 n (.ofNat (reg i)) (.ofNat i)) [] [] (bodyF mask73) =
      match γ (.ofNat i) n with
      | true => some (.norm, fr73 n (.ofNat (reg (i + 1))) (.ofNat (i + 1)), [], [])
      | false => some (.exit 0, fr73 n (.ofNat (reg i)) (.ofNat i), [], [])
  | 0, _ => by kernel_rfl
  | 1, _ => by kernel_rfl
  | 2, _ => by kernel_rfl
  | 3, _ => by kernel_rfl
  | 4, _ => by kernel_rfl
  | 5, _ => by kernel_rfl
  | 6, _ => by kernel_rfl
  | 7, _ => by kernel_rfl
  | 8, _ => by kernel_rfl
  | 9, _ => by kernel_rfl
  | 10, _ => by kernel_rfl
  | 11, _ => by kernel_rfl
  | 12, _ => by kernel_rfl
  | 13, _ => by kernel_rfl
  | 14, _ => by kernel_rfl
  | 15, _ => by kernel_rfl
  | 16, _ => by kernel_rfl
  | 17, _ => by kernel_rfl
  | 18, _ => by kernel_rfl
  | 19, _ => by kernel_rfl
  | 20, _ => by kernel_rfl
  | 21, _ => by kernel_rfl
  | 22, _ => by kernel_rfl
  | 23, _ => by kernel_rfl
  | 24, _ => by kernel_rfl
  | 25, _ => by kernel_rfl
  | 26, _ => by kernel_rfl
  | 27, _ => by kernel_rfl
  | 28, _ => by kernel_rfl
  | 29, _ => by kernel_rfl
  | 30, _ => by kernel_rfl
  | 31, _ => by kernel_rfl
  | 32, _ => by kernel_rfl
  | 33, _ => by kernel_rfl
  | 34, _ => by kernel_rfl
  | 35, _ => by kernel_rfl
  | 36, _ => by kernel_rfl
  | 37, _ => by kernel_rfl
  | 38, _ => by kernel_rfl
  | 39, _ => by kernel_rfl
  | 40, _ => by kernel_rfl
  | 41, _ => by kernel_rfl
  | 42, _ => by kernel_rfl
  | 43, _ => by kernel_rfl
  | 44, _ => by kernel_rfl
  | 45, _ => by kernel_rfl
  | 46, _ => by kernel_rfl
  | 47, _ => by kernel_rfl
  | 48, _ => by kernel_rfl
  | 49, _ => by kernel_rfl
  | 50, _ => by kernel_rfl
  | 51, _ => by kernel_rfl
  | 52, _ => by kernel_rfl
  | 53, _ => by kernel_rfl
  | 54, _ => by kernel_rfl
  | 55, _ => by kernel_rfl
  | 56, _ => by kernel_rfl
  | 57, _ => by kernel_rfl
  | 58, _ => by kernel_rfl
  | 59, _ => by kernel_rfl
  | 60, _ => by kernel_rfl
  | 61, _ => by kernel_rfl
  | 62, _ => by kernel_rfl
  | 63, _ => by kernel_rfl
  | 64, _ => by kernel_rfl
  | 65, _ => by kernel_rfl
  | 66, _ => by kernel_rfl
  | 67, _ => by kernel_rfl
  | 68, _ => by kernel_rfl
  | 69, _ => by kernel_rfl
  | 70, _ => by kernel_rfl
  | 71, _ => by kernel_rfl
  | 72, _ => by kernel_rfl
  | 73, _ => by kernel_rfl
  | 74, _ => by kernel_rfl
  | 75, _ => by kernel_rfl
  | 76, _ => by kernel_rfl
  | 77, _ => by kernel_rfl
  | 78, _ => by kernel_rfl
  | 79, _ => by kernel_rfl
  | 80, _ => by kernel_rfl
  | 81, _ => by kernel_rfl
  | 82, _ => by kernel_rfl
  | 83, _ => by kernel_rfl
  | 84, _ => by kernel_rfl
  | 85, _ => by kernel_rfl
  | 86, _ => by kernel_rfl
  | 87, _ => by kernel_rfl
  | 88, _ => by kernel_rfl
  | 89, _ => by kernel_rfl
  | 90, _ => by kernel_rfl
  | 91, _ => by kernel_rfl
  | 92, _ => by kernel_rfl
  | 93, _ => by kernel_rfl
  | 94, _ => by kernel_rfl
  | 95, _ => by kernel_rfl
  | 96, _ => by kernel_rfl
  | 97, _ => by kernel_rfl
  | 98, _ => by kernel_rfl
  | 99, _ => by kernel_rfl
  | 100, _ => by kernel_rfl
  | 101, _ => by kernel_rfl
  | 102, _ => by kernel_rfl
  | 103, _ => by kernel_rfl
  | 104, _ => by kernel_rfl
  | 105, _ => by kernel_rfl
  | 106, _ => by kernel_rfl
  | 107, _ => by kernel_rfl
  | 108, _ => by kernel_rfl
  | 109, _ => by kernel_rfl
  | 110, _ => by kernel_rfl
  | 111, _ => by kernel_rfl
  | 112, _ => by kernel_rfl
  | 113, _ => by kernel_rfl
  | 114, _ => by kernel_rfl
  | 115, _ => by kernel_rfl
  | 116, _ => by kernel_rfl
  | 117, _ => by kernel_rfl
  | 118, _ => by kernel_rfl
  | 119, _ => by kernel_rfl
  | 120, _ => by kernel_rfl
  | 121, _ => by kernel_rfl
  | 122, _ => by kernel_rfl
  | 123, _ => by kernel_rfl
  | 124, _ => by kernel_rfl
  | 125, _ => by kernel_rfl
  | 126, _ => by kernel_rfl
  | 127, _ => by kernel_rfl
  | 128, _ => by kernel_rfl
  | 129, _ => by kernel_rfl
  | 130, _ => by kernel_rfl
  | 131, _ => by kernel_rfl
  | 132, _ => by kernel_rfl
  | 133, _ => by kernel_rfl
  | 134, _ => by kernel_rfl
  | 135, _ => by kernel_rfl
  | 136, _ => by kernel_rfl
  | 137, _ => by kernel_rfl
  | 138, _ => by kernel_rfl
  | 139, _ => by kernel_rfl
  | 140, _ => by kernel_rfl
  | 141, _ => by kernel_rfl
  | 142, _ => by kernel_rfl
  | 143, _ => by kernel_rfl
  | 144, _ => by kernel_rfl
  | 145, _ => by kernel_rfl
  | 146, _ => by kernel_rfl
  | 147, _ => by kernel_rfl
  | 148, _ => by kernel_rfl
  | 149, _ => by kernel_rfl
  | 150, _ => by kernel_rfl
  | 151, _ => by kernel_rfl
  | 152, _ => by kernel_rfl
  | 153, _ => by kernel_rfl
  | 154, _ => by kernel_rfl
  | 155, _ => by kernel_rfl
  | 156, _ => by kernel_rfl
  | 157, _ => by kernel_rfl
  | 158, _ => by kernel_rfl
  | 159, _ => by kernel_rfl
  | 160, _ => by kernel_rfl
  | 161, _ => by kernel_rfl
  | 162, _ => by kernel_rfl
  | 163, _ => by kernel_rfl
  | 164, _ => by kernel_rfl
  | 165, _ => by kernel_rfl
  | 166, _ => by kernel_rfl
  | 167, _ => by kernel_rfl
  | i + 168, h => absurd h (by omega)

theorem loop73 (n : Nat) (hn : n < 168) : ∀ lg, LoopTo Try.prog 0 lp73 (fr73 (.ofNat n) (.ofNat (reg 0)) (.ofNat 0)) [] lg (.exit 0) (fr73 (.ofNat n) (.ofNat (reg n)) (.ofNat n)) [] (List.range 0 ++ lg) := by
  have h := loop_chain (P := Try.prog) (n0 := 0) (b := lp73) (ex := .exit 0) (fr' := fr73 (.ofNat n) (.ofNat (reg n)) (.ofNat n)) (H' := []) (by intro h; cases h) (fun i => (fr73 (.ofNat n) (.ofNat (reg i)) (.ofNat i), [])) n 0 (fun j _ hj => ?_) ?_
  · exact h
  · have h := body73 (cmp0 .lss) (.ofNat n) j (by omega)
    have hc : cmp0 .lss (.ofNat j) (.ofNat n) = true := by
      show decide ((Int.ofNat j) < Int.ofNat n) = true
      simp only [decide_eq_true_eq, Int.ofNat_eq_natCast]
      omega
    rw [hc, opsL_eq] at h
    exact body_forget (noCon_ok _) (noTab_ok _) h (by simp)
  · have h := body73 (cmp0 .lss) (.ofNat n) n hn
    have hc : cmp0 .lss (.ofNat n) (.ofNat n) = false := by
      show decide ((Int.ofNat n) < Int.ofNat n) = false
      simp
    rw [hc, opsL_eq] at h
    have : 0 + n = n := Nat.zero_add n
    rw [this]
    exact body_forget (noCon_ok _) (noTab_ok _) h (by simp)

def in73 (n : Int) : Fr := [.int .i64 n, .tup [], .int .u64 0, .int .i64 1, .int .i64 0, .tup [], .tup [], .tup [], .tup [], .tup [], .tup [], .tup [], .tup [], .tup [], .tup [], .tup [], .tup [], .tup [], .tup [], .tup []]
def ent73 (n r : Int) : Lent := ⟨0, lp73, in73 n, [], .exit 0, fr73 n r n, []⟩

theorem run73 (n r : Int) :
    vcall (propL noCon fun _ _ => some (ent73 n r)) ops0 (tabOne 73 vf73) 100 vf73 [.int .i64 n] [] (fun x H lg => cutK 0 x H lg = some (.int .u64 (IntKind.u64.wrap (bin0 .rem .i64 r 2)), [], [])) =
      (0 = 0 ∧ lp73 = lp73 ∧ in73 n = in73 n ∧ ([] : Hl) = [] ∧ some ((.int .u64 (IntKind.u64.wrap (bin0 .rem .i64 r 2)), [], []) : Out) = some (.int .u64 (IntKind.u64.wrap (bin0 .rem .i64 r 2)), [], [])) := by kernel_rfl

/-- 'bit'. -/
theorem bit73 (n : Nat) (hn : n < 168) : CallTo Try.prog 73 [.int .i64 (.ofNat n)] [] (.int .u64 (IntKind.u64.wrap (bin0 .rem .i64 (.ofNat (reg n)) 2))) [] [] := by
  have hE : (ent73 (.ofNat n) (.ofNat (reg n))).OK Try.prog := LoopTo.pre (Weak.forget (show 0 ≤ 0 by decide) mask73) (loop73 n hn)
  exact call_loop (noCon_ok _) (E := fun _ _ => some (ent73 (.ofNat n) (.ofNat (reg n)))) (fun fr H e he => by cases he; exact hE) (tabOne_ok ok73) (tabOne_self 73 vf73) 0 []
    (Eq.mpr (run73 _ _) ⟨rfl, rfl, rfl, rfl, rfl⟩) (by simp) (fun b hb hn => by simp at hb)

end
end Go.Proofs.Vm
