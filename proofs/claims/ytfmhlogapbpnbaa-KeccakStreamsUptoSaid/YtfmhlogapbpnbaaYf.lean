/-
  KECCAK, PART 28: law of layer 3: one byte so many times.
-/
import Derived.Test.YtfmhlogapbpnbaaYe

namespace Go.Proofs.Vm
open Go.Vm
noncomputable section

def f5 (k : Int) (y : Nat) : List AV := List.replicate k.toNat (.int .u8 (Int.ofNat y))
theorem f5_by8 (m : Nat) {b : Nat} (hb : b < 256) : f5 (Int.ofNat m) b = (List.replicate m (UInt8.ofNat b)).map by8 := by
  show List.replicate m _ = _
  rw [List.map_replicate]
  unfold by8
  rw [UInt8.toNat_ofNat_of_lt' hb]

theorem loop5 (n : Int) (b m : Nat) (hm : m < 137438953472) (ms : List AV) (hl : ms.length = m) :
    ∀ lg, LoopTo Try.prog 0 lp5 (fr5 n b (Int.ofNat m) (Int.ofNat 0)) [.cells ms] lg (.exit 0) (fr5 n b (Int.ofNat m) (Int.ofNat m)) [.cells (f5 (Int.ofNat m) b)] (List.range 0 ++ lg) := by
  have h := loop_chain (P := Try.prog) (n0 := 0) (b := lp5) (ex := .exit 0) (fr' := fr5 n b (Int.ofNat m) (Int.ofNat m)) (H' := [.cells (f5 (Int.ofNat m) b)]) (by intro h; cases h)
    (fun i => (fr5 n b (Int.ofNat m) (Int.ofNat i), [.cells (List.replicate i (.int .u8 (Int.ofNat b)) ++ ms.drop i)])) m 0 (fun i _ hi => ?_) ?_
  · simpa using h
  · have hi' : i < m := by omega
    have hlen : (List.replicate i (AV.int .u8 (Int.ofNat b)) ++ ms.drop i).length = m := by simp; omega
    have hset : (List.replicate i (AV.int .u8 (Int.ofNat b)) ++ ms.drop i).set i (.int .u8 (Int.ofNat b)) = List.replicate (i + 1) (AV.int .u8 (Int.ofNat b)) ++ ms.drop (i + 1) := by
      obtain ⟨x, hx⟩ : ∃ x, ms.drop i = x :: ms.drop (i + 1) := ⟨_, List.drop_eq_getElem_cons (by omega)⟩
      rw [hx, List.set_append_right _ _ (by simp)]
      simp [List.replicate_succ']
    have key : ∀ Q : Ex → Fr → Hl → Prop, Q .norm (fr5 n b (Int.ofNat m) (Int.ofNat (i + 1))) [.cells (List.replicate (i + 1) (.int .u8 (Int.ofNat b)) ++ ms.drop (i + 1))] →
        vm (vcA kdYes noCn noLn) ops0 noTab 100 0 lp5 (fr5 n b (Int.ofNat m) (Int.ofNat i)) [.cells (List.replicate i (.int .u8 (Int.ofNat b)) ++ ms.drop i)] [] (bodyX mk5 Q) := by
      intro Q hQ
      rw [vcl5, nAdd (by omega), nNat, nAdr, nInr, nSet, nLt, nLen, hlen, show 0 + i * 1 = i by omega, hset]
      exact Br.t (by rw [nLss]; exact decide_eq_true hi') (Chk.mk (decide_eq_true hi') (Chk.mk (decide_eq_true hi') hQ))
    exact body_x (noCn_ok _) (noLn_ok _) (noTab_ok _) (n := 100) (g := kdYes) (bs := mk5) (key _ ⟨rfl, rfl, rfl⟩) (by simp)
  · refine body_x (noCn_ok _) (noLn_ok _) (noTab_ok _) (n := 100) (g := kdYes) (bs := mk5) ?_ (by simp)
    rw [vcl5]
    rw [show 0 + m = m by omega]
    refine Br.f (by rw [nLss]; exact decide_eq_false (by omega)) ⟨rfl, rfl, ?_⟩
    have : List.replicate m (AV.int .u8 (Int.ofNat b)) ++ ms.drop m = f5 (Int.ofNat m) b := by
      rw [List.drop_eq_nil_of_le (by omega), List.append_nil]; rfl
    rw [this]

theorem ln5_ok : LnOK Try.prog (ln5 f5) := by
  intro n0 b fr H p x e hn hp lg
  unfold ln5 at e
  split at e <;> cases e
  rename_i n y k ms h1 h2 h3
  obtain ⟨rfl, hb, hf, m, rfl, hl, hm, hy⟩ := hp
  have hb : b = lp5 := hb
  subst hb
  refine LoopTo.pre (Weak.forget (by simp) mk5) ?_ lg
  rw [hf]
  exact loop5 n y m hm ms hl

/-! ### One row of bytes -/
theorem at_all (l : List UInt8) : BytesAt (l.map by8) 0 l.length l := by
  refine ⟨rfl, ?_⟩
  rw [List.drop_zero, List.take_of_length_le (by simp)]
theorem pb_all (l : List UInt8) (h : l.length < 137438953472) : PB (l.map by8) 0 l.length :=
  ⟨flat_by8 l, by simp, h, l, at_all l⟩
theorem pps_one {pc : List AV} {off len : Nat} {lb : List UInt8} (hf : flatL pc) (hb : BytesAt pc off len lb) (hl : len < 137438953472) (c : Nat) (e : Bool) : PPs [.ros pc off len c e] 0 1 := by
  refine ⟨fun p hp => ?_, [lb], rfl, by omega, fun j x hx => ?_⟩
  · obtain rfl : p = _ := List.mem_singleton.1 hp
    exact ⟨pc, off, len, c, e, rfl, hf⟩
  · cases j with
    | zero =>
      obtain rfl : lb = x := Option.some.inj hx
      exact ⟨by have := hb.1; omega, pc, off, len, c, e, rfl, hb⟩
    | succ j => cases hx
theorem rdP_one (pc : List AV) (off len c : Nat) (e : Bool) : rdP [.ros pc off len c e] 0 1 = rdB pc off len := by
  show List.flatten [bytesA ((pc.drop off).take len)] = bytesA ((pc.drop off).take len)
  simp

theorem sum_len (l : List UInt8) : ((streamF 136 6 32 l).map by8).length = 32 := by rw [List.length_map, streamF_length]
theorem str_len (n : Nat) (l : List UInt8) : ((streamF 168 31 n l).map by8).length = n := by rw [List.length_map, streamF_length]
theorem ints_by8 (l : List UInt8) : l.map by8 = (l.map fun b => Int.ofNat b.toNat).map (AV.int .u8) := by
  rw [List.map_map]; rfl
theorem brEqs {l m : List UInt8} {r t : Prop} (h : l = m) (q : r) : Br (ops0.eqs l m) r t := Br.t (by rw [nEqs]; exact decide_eq_true h) q

theorem law5 (n : Int) (b : Nat) (hb : b < 256) : ∃ H' lg, CallTo Try.prog 5 [.int .i64 n, .int .u8 (Int.ofNat b)] [] (.bool true) H' lg := by
  have hv : vcall (vcA kdYes (cnB af0) (ln5 f5)) ops0 (tabOne 5 vf5) 100 vf5 [.int .i64 n, .int .u8 (Int.ofNat b)] [] (fun r _ _ => r = .bool true) := by
    rw [vc5]
    have hr1 : ops0.bin .rem .i64 n (Int.ofNat 400) < 400 := Int.tmod_lt_of_pos n (by decide)
    have hr2 : -400 < ops0.bin .rem .i64 n (Int.ofNat 400) := Int.lt_tmod_of_pos n (by decide)
    generalize ops0.bin .rem .i64 n (Int.ofNat 400) = r at hr1 hr2 ⊢
    have all : ∀ m : Nat, m < 400 → ∃ lb : List UInt8, f5 (Int.ofNat m) b = lb.map by8 ∧ lb.length = m := fun m _ => ⟨_, f5_by8 m hb, by simp⟩
    have pick : ∀ x : Int, (x = ops0.bin .sub .i64 (Int.ofNat 0) r ∧ r < 0) ∨ (x = r ∧ ¬ r < 0) → ∃ m : Nat, x = Int.ofNat m ∧ m < 400 := by
      intro x hx
      rcases hx with ⟨rfl, h⟩ | ⟨rfl, h⟩
      · obtain ⟨m, rfl⟩ : ∃ m : Nat, r = -(m : Int) := ⟨(-r).toNat, by omega⟩
        refine ⟨m, ?_, by omega⟩
        show IntKind.wrap .i64 (Int.ofNat 0 - -(m : Int)) = _
        rw [show (Int.ofNat 0 - -(m : Int)) = Int.ofNat m by simp]
        exact i64_wrap (by simp only [Int.ofNat_eq_natCast]; omega) (by simp only [Int.ofNat_eq_natCast]; omega)
      · exact ⟨x.toNat, (Int.toNat_of_nonneg (by omega)).symm, by omega⟩
    refine Br.mk (fun h => ?_) (fun h => ?_)
    · obtain ⟨m, hm, hlt⟩ := pick _ (.inl ⟨rfl, of_decide_eq_true h⟩)
      rw [hm]
      obtain ⟨lb, hlb, hll⟩ := all m hlt
      have hB : BytesAt (f5 (Int.ofNat m) b) 0 m lb := by rw [hlb, ← hll]; exact at_all lb
      have hf : flatL (f5 (Int.ofNat m) b) := by rw [hlb]; exact flat_by8 lb
      have hpb : PB (f5 (Int.ofNat m) b) 0 m := by rw [hlb, ← hll]; exact pb_all lb (by omega)
      have hpp : PPs [.ros (f5 (Int.ofNat m) b) 0 m m false] 0 1 := pps_one hf hB (by omega) m false
      rw [nNat, rdP_one, rdB_eq hB]
      rw [show KF.sum (AF.toKF af0) lb = (streamF 136 6 32 lb).map by8 from rfl, show KF.str (AF.toKF af0) lb 40 = (streamF 168 31 40 lb).map by8 from rfl, extAll (sum_len lb), extAll (str_len 40 lb)]
      refine Chk.mk (by rw [nMkr]; simp; omega) ⟨⟨rfl, rfl, rfl, m, rfl, by simp [nRep], by omega, hb⟩, trivial, hpp, hpb, ckEq (sum_len lb) (ckEq (sum_len lb) (ckLe (sum_len lb) (ckLe (sum_len lb)
        ⟨_, ints_by8 _, _, ints_by8 _, brEqi rfl ⟨hpp, ckLe (str_len 40 lb) ⟨_, rfl, hpb, ckLe (str_len 40 lb) ⟨_, rfl, brEqs rfl rfl⟩⟩⟩⟩)))⟩
    · obtain ⟨m, hm, hlt⟩ := pick _ (.inr ⟨rfl, of_decide_eq_false h⟩)
      rw [hm]
      obtain ⟨lb, hlb, hll⟩ := all m hlt
      have hB : BytesAt (f5 (Int.ofNat m) b) 0 m lb := by rw [hlb, ← hll]; exact at_all lb
      have hf : flatL (f5 (Int.ofNat m) b) := by rw [hlb]; exact flat_by8 lb
      have hpb : PB (f5 (Int.ofNat m) b) 0 m := by rw [hlb, ← hll]; exact pb_all lb (by omega)
      have hpp : PPs [.ros (f5 (Int.ofNat m) b) 0 m m false] 0 1 := pps_one hf hB (by omega) m false
      rw [nNat, rdP_one, rdB_eq hB]
      rw [show KF.sum (AF.toKF af0) lb = (streamF 136 6 32 lb).map by8 from rfl, show KF.str (AF.toKF af0) lb 40 = (streamF 168 31 40 lb).map by8 from rfl, extAll (sum_len lb), extAll (str_len 40 lb)]
      refine Chk.mk (by rw [nMkr]; simp; omega) ⟨⟨rfl, rfl, rfl, m, rfl, by simp [nRep], by omega, hb⟩, trivial, hpp, hpb, ckEq (sum_len lb) (ckEq (sum_len lb) (ckLe (sum_len lb) (ckLe (sum_len lb)
        ⟨_, ints_by8 _, _, ints_by8 _, brEqi rfl ⟨hpp, ckLe (str_len 40 lb) ⟨_, rfl, hpb, ckLe (str_len 40 lb) ⟨_, rfl, brEqs rfl rfl⟩⟩⟩⟩)))⟩
  obtain ⟨r, H', lg, hc, rfl⟩ := call_vcx cnB_ok ln5_ok (tabOne_ok ok5) (tabOne_self 5 vf5) hv
  exact ⟨H', lg, hc⟩

end
end Go.Proofs.Vm
