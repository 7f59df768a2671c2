/-
  KECCAK, PART 13: distances.
-/
import Derived.Test.YtfmhlogapbpnbaaVmK12
import Derived.Test.YtfmhlogapbpnbaaVmEn
namespace Go.Proofs.Vm
open Go.Vm
noncomputable section

/-- '==' by what is handed in. -/
def opsQ (γ : Int → Int → Bool) : Ops := { ops0 with
  cmp := fun op x y => match op with
    | .eql => γ x y
    | op => cmp0 op x y }
theorem opsQ_eq : opsQ (cmp0 .eql) = ops0 := by
  have h1 : (opsQ (cmp0 .eql)).cmp = ops0.cmp := by
    funext op x y
    cases op <;> rfl
  show { ops0 with cmp := (opsQ (cmp0 .eql)).cmp } = ops0
  rw [h1]

/-- The places on the way, and the sums. -/
def plA : List Int := [1, 0, 2, 1, 2, 3, 3, 0, 1, 3, 1, 4, 4, 0, 3, 4, 3, 2, 2, 0, 4, 2, 4, 1, 1]
def plB : List Int := [0, 2, 1, 2, 3, 3, 0, 1, 3, 1, 4, 4, 0, 3, 4, 3, 2, 2, 0, 4, 2, 4, 1, 1, 0]
def plS : List Int := [1, 3, 6, 10, 15, 21, 28, 36, 45, 55, 66, 78, 91, 105, 120, 136, 153, 171, 190, 210, 231, 253, 276, 300, 325]
def plD : List Int := [1, 3, 6, 10, 15, 21, 28, 36, 45, 55, 2, 14, 27, 41, 56, 8, 25, 43, 62, 18, 39, 61, 20, 44, 5]

def lp30 : VC := (.seq (.seq (.reg .false [] [⟨(.some 9), .none, .mov, [(.t 7)]⟩, ⟨(.some 10), .none, (.cmp .leq), [(.t 9), (.c (.int .i64 (.ofNat 24)))]⟩]) (.cond (.t 10) .skip (.exit 0))) (.seq (.block 1 (.seq (.seq (.reg .false [] [⟨(.some 17), .none, .mov, [(.t 5)]⟩, ⟨(.some 18), .none, .mov, [(.t 0)]⟩, ⟨(.some 19), .none, (.cmp .eql), [(.t 17), (.t 18)]⟩, ⟨(.some 20), .none, .mov, [(.t 19)]⟩, ⟨(.some 21), (.some ⟨20, .true⟩), .mov, [(.t 6)]⟩, ⟨(.some 22), (.some ⟨20, .true⟩), .mov, [(.t 1)]⟩, ⟨(.some 23), (.some ⟨20, .true⟩), (.cmp .eql), [(.t 21), (.t 22)]⟩, ⟨(.some 24), .none, .pick, [(.t 20), (.t 23), (.c (.bool .false))]⟩]) (.cond (.t 24) (.seq (.reg .false [] [⟨(.some 25), .none, .mov, [(.t 8)]⟩, ⟨(.some 26), .none, (.div .rem .i64), [(.t 25), (.c (.int .i64 (.ofNat 64)))]⟩, ⟨(.some 4), .none, .mov, [(.t 26)]⟩]) .ret) .skip)) (.reg .false [] [⟨(.some 28), .none, .mov, [(.t 5)]⟩, ⟨(.some 29), .none, .mov, [(.t 6)]⟩, ⟨(.some 30), .none, (.call 72), [(.t 28), (.t 29)]⟩, ⟨(.some 27), .none, .mov, [(.t 30)]⟩, ⟨(.some 31), .none, (.ext 0), [(.t 27)]⟩, ⟨(.some 32), .none, (.ext 1), [(.t 27)]⟩, ⟨(.some 5), .none, .mov, [(.t 31)]⟩, ⟨(.some 6), .none, .mov, [(.t 32)]⟩]))) (.reg .false [] [⟨(.some 11), .none, .mov, [(.t 7)]⟩, ⟨(.some 12), .none, (.bin .add .i64), [(.t 11), (.c (.int .i64 (.ofNat 1)))]⟩, ⟨(.some 13), .none, .mov, [(.t 8)]⟩, ⟨(.some 14), .none, .mov, [(.t 7)]⟩, ⟨(.some 15), .none, (.bin .add .i64), [(.t 13), (.t 14)]⟩, ⟨(.some 16), .none, (.bin .add .i64), [(.t 15), (.c (.int .i64 (.ofNat 1)))]⟩, ⟨(.some 7), .none, .mov, [(.t 12)]⟩, ⟨(.some 8), .none, .mov, [(.t 16)]⟩])))
def mask30 : List Bool := [false, false, true, true, false, false, false, false, false, true, true, true, true, true, true, true, true, true, true, true, true, true, true, true, true, true, true, true, true, true, true, true, true]
def fr30 (x y : Int) (i : Nat) (v : Int) : Fr := [.int .i64 x, .int .i64 y, .top, .top, .int .i64 v, .int .i64 (plA.getD i 0), .int .i64 (plB.getD i 0), .int .i64 (.ofNat (i + 1)), .int .i64 (plS.getD i 0), .top, .top, .top, .top, .top, .top, .top, .top, .top, .top, .top, .top, .top, .top, .top, .top, .top, .top, .top, .top, .top, .top, .top, .top]
theorem body30 (γ : Int → Int → Bool) (x y : Int) : ∀ i, i < 24 →
    vm (optC noCon) (opsQ γ) (tabOne 72 vf72) 100 0 lp30 (fr30 x y i 0) [] [] (bodyF mask30) =
      match γ (plA.getD i 0) x with
      | true => match γ (plB.getD i 0) y with
        | true => some (.ret, fr30 x y i (plD.getD i 0), [], [])
        | false => some (.norm, fr30 x y (i + 1) 0, [], [])
      | false => some (.norm, fr30 x y (i + 1) 0, [], [])
  | 0, _ => by kernel_rfl
  | 1, _ => by kernel_rfl
  | 2, _ => by kernel_rfl
  | 3, _ => by kernel_rfl
  | 4, _ => by kernel_rfl
  | 5, _ => by kernel_rfl
  | 6, _ => by kernel_rfl
  | 7, _ => by kernel_rfl
  | 8, _ => by kernel_rfl
  | 9, _ => by kernel_rfl
  | 10, _ => by kernel_rfl
  | 11, _ => by kernel_rfl
  | 12, _ => by kernel_rfl
  | 13, _ => by kernel_rfl
  | 14, _ => by kernel_rfl
  | 15, _ => by kernel_rfl
  | 16, _ => by kernel_rfl
  | 17, _ => by kernel_rfl
  | 18, _ => by kernel_rfl
  | 19, _ => by kernel_rfl
  | 20, _ => by kernel_rfl
  | 21, _ => by kernel_rfl
  | 22, _ => by kernel_rfl
  | 23, _ => by kernel_rfl
  | i + 24, h => absurd h (by omega)
theorem end30 (x y : Int) : vm (optC noCon) ops0 (tabOne 72 vf72) 100 0 lp30 (fr30 x y 24 0) [] [] (bodyF mask30) = some (.exit 0, fr30 x y 24 0, [], []) := by kernel_rfl

def lp31 : VC := (.seq (.seq (.reg .false [] [⟨(.some 8), .none, .mov, [(.t 7)]⟩, ⟨(.some 9), .none, (.cmp .lss), [(.t 8), (.c (.int .i64 (.ofNat 24)))]⟩]) (.cond (.t 9) .skip (.exit 0))) (.seq (.block 1 (.seq (.seq (.reg .false [] [⟨(.some 12), .none, .mov, [(.t 5)]⟩, ⟨(.some 13), .none, .mov, [(.t 0)]⟩, ⟨(.some 14), .none, (.cmp .eql), [(.t 12), (.t 13)]⟩, ⟨(.some 15), .none, .mov, [(.t 14)]⟩, ⟨(.some 16), (.some ⟨15, .true⟩), .mov, [(.t 6)]⟩, ⟨(.some 17), (.some ⟨15, .true⟩), .mov, [(.t 1)]⟩, ⟨(.some 18), (.some ⟨15, .true⟩), (.cmp .eql), [(.t 16), (.t 17)]⟩, ⟨(.some 19), .none, .pick, [(.t 15), (.t 18), (.c (.bool .false))]⟩]) (.cond (.t 19) (.seq (.reg .false [] [⟨(.some 20), .none, .mov, [(.t 7)]⟩, ⟨(.some 21), .none, (.bin .add .i64), [(.t 20), (.c (.int .i64 (.ofNat 1)))]⟩, ⟨(.some 22), .none, .mov, [(.t 7)]⟩, ⟨(.some 23), .none, (.bin .add .i64), [(.t 22), (.c (.int .i64 (.ofNat 2)))]⟩, ⟨(.some 24), .none, (.bin .mul .i64), [(.t 21), (.t 23)]⟩, ⟨(.some 25), .none, (.div .quo .i64), [(.t 24), (.c (.int .i64 (.ofNat 2)))]⟩, ⟨(.some 26), .none, (.div .rem .i64), [(.t 25), (.c (.int .i64 (.ofNat 64)))]⟩, ⟨(.some 4), .none, .mov, [(.t 26)]⟩]) .ret) .skip)) (.reg .false [] [⟨(.some 27), .none, .mov, [(.t 6)]⟩, ⟨(.some 28), .none, .mov, [(.t 5)]⟩, ⟨(.some 29), .none, (.bin .mul .i64), [(.c (.int .i64 (.ofNat 2))), (.t 28)]⟩, ⟨(.some 30), .none, .mov, [(.t 6)]⟩, ⟨(.some 31), .none, (.bin .mul .i64), [(.c (.int .i64 (.ofNat 3))), (.t 30)]⟩, ⟨(.some 32), .none, (.bin .add .i64), [(.t 29), (.t 31)]⟩, ⟨(.some 33), .none, (.div .rem .i64), [(.t 32), (.c (.int .i64 (.ofNat 5)))]⟩, ⟨(.some 5), .none, .mov, [(.t 27)]⟩, ⟨(.some 6), .none, .mov, [(.t 33)]⟩]))) (.reg .false [] [⟨(.some 10), .none, .mov, [(.t 7)]⟩, ⟨(.some 11), .none, (.bin .add .i64), [(.t 10), (.c (.int .i64 (.ofNat 1)))]⟩, ⟨(.some 7), .none, .mov, [(.t 11)]⟩])))
def mask31 : List Bool := [false, false, true, true, false, false, false, false, true, true, true, true, true, true, true, true, true, true, true, true, true, true, true, true, true, true, true, true, true, true, true, true, true, true]
def fr31 (x y : Int) (i : Nat) (v : Int) : Fr := [.int .i64 x, .int .i64 y, .top, .top, .int .i64 v, .int .i64 (plA.getD i 0), .int .i64 (plB.getD i 0), .int .i64 (.ofNat i), .top, .top, .top, .top, .top, .top, .top, .top, .top, .top, .top, .top, .top, .top, .top, .top, .top, .top, .top, .top, .top, .top, .top, .top, .top, .top]
theorem body31 (γ : Int → Int → Bool) (x y : Int) : ∀ i, i < 24 →
    vm (optC noCon) (opsQ γ) noTab 100 0 lp31 (fr31 x y i 0) [] [] (bodyF mask31) =
      match γ (plA.getD i 0) x with
      | true => match γ (plB.getD i 0) y with
        | true => some (.ret, fr31 x y i (plD.getD i 0), [], [])
        | false => some (.norm, fr31 x y (i + 1) 0, [], [])
      | false => some (.norm, fr31 x y (i + 1) 0, [], [])
  | 0, _ => by kernel_rfl
  | 1, _ => by kernel_rfl
  | 2, _ => by kernel_rfl
  | 3, _ => by kernel_rfl
  | 4, _ => by kernel_rfl
  | 5, _ => by kernel_rfl
  | 6, _ => by kernel_rfl
  | 7, _ => by kernel_rfl
  | 8, _ => by kernel_rfl
  | 9, _ => by kernel_rfl
  | 10, _ => by kernel_rfl
  | 11, _ => by kernel_rfl
  | 12, _ => by kernel_rfl
  | 13, _ => by kernel_rfl
  | 14, _ => by kernel_rfl
  | 15, _ => by kernel_rfl
  | 16, _ => by kernel_rfl
  | 17, _ => by kernel_rfl
  | 18, _ => by kernel_rfl
  | 19, _ => by kernel_rfl
  | 20, _ => by kernel_rfl
  | 21, _ => by kernel_rfl
  | 22, _ => by kernel_rfl
  | 23, _ => by kernel_rfl
  | i + 24, h => absurd h (by omega)
theorem end31 (x y : Int) : vm (optC noCon) ops0 noTab 100 0 lp31 (fr31 x y 24 0) [] [] (bodyF mask31) = some (.exit 0, fr31 x y 24 0, [], []) := by kernel_rfl

def hit (x y : Int) (i : Nat) : Bool := cmp0 .eql (plA.getD i 0) x && cmp0 .eql (plB.getD i 0) y
/-- By how much a word is turned. -/
def distF (x y : Int) : Int := match (List.range 24).find? (hit x y) with
  | some i => plD.getD i 0
  | none => 0

theorem dist_cases (x y : Int) : (∃ k, k < 24 ∧ hit x y k = true ∧ (∀ j, j < k → hit x y j = false) ∧ distF x y = plD.getD k 0) ∨ ((∀ j, j < 24 → hit x y j = false) ∧ distF x y = 0) := by
  unfold distF
  cases h : (List.range 24).find? (hit x y) with
  | some k =>
    have h1 := List.find?_some h
    have h2 := List.mem_of_find?_eq_some h
    have h3 : k < 24 := List.mem_range.1 h2
    refine .inl ⟨k, h3, h1, fun j hj => ?_, rfl⟩
    rw [List.find?_range_eq_some] at h
    have := h.2.2 j hj
    simpa using this
  | none =>
    refine .inr ⟨fun j hj => ?_, rfl⟩
    have := List.find?_eq_none.1 h j (List.mem_range.2 hj)
    simpa using this

theorem miss30 {x y : Int} {i : Nat} (hi : i < 24) (h : hit x y i = false) : BodyTo Try.prog 0 lp30 (fr30 x y i 0) [] .norm (fr30 x y (i + 1) 0) [] := by
  have hb := body30 (cmp0 .eql) x y i hi
  rw [opsQ_eq] at hb
  unfold hit at h
  cases h1 : cmp0 .eql (plA.getD i 0) x with
  | false =>
    rw [h1] at hb
    exact body_forget (noCon_ok _) (tabOne_ok ok72) hb (by simp)
  | true =>
    rw [h1, Bool.true_and] at h
    rw [h1, h] at hb
    exact body_forget (noCon_ok _) (tabOne_ok ok72) hb (by simp)
theorem hits30 {x y : Int} {i : Nat} (hi : i < 24) (h : hit x y i = true) : BodyTo Try.prog 0 lp30 (fr30 x y i 0) [] .ret (fr30 x y i (plD.getD i 0)) [] := by
  have hb := body30 (cmp0 .eql) x y i hi
  rw [opsQ_eq] at hb
  unfold hit at h
  rw [Bool.and_eq_true] at h
  rw [h.1, h.2] at hb
  exact body_forget (noCon_ok _) (tabOne_ok ok72) hb (by simp)

def in30 (x y : Int) : Fr := [.int .i64 x, .int .i64 y, .tup [], .tup [], .int .i64 0, .int .i64 1, .int .i64 0, .int .i64 1, .int .i64 1, .tup [], .tup [], .tup [], .tup [], .tup [], .tup [], .tup [], .tup [], .tup [], .tup [], .tup [], .tup [], .tup [], .tup [], .tup [], .tup [], .tup [], .tup [], .tup [], .tup [], .tup [], .tup [], .tup [], .tup []]
def entA30 (x y : Int) (k : Nat) (v : Int) : Lent := ⟨0, lp30, in30 x y, [], .ret, fr30 x y k v, []⟩
def entB30 (x y : Int) : Lent := ⟨0, lp30, in30 x y, [], .exit 0, fr30 x y 24 0, []⟩
theorem runA30 (x y v : Int) (k : Nat) :
    vcall (propL noCon fun _ _ => some (entA30 x y k v)) ops0 (tabOne 30 vf30) 100 vf30 [.int .i64 x, .int .i64 y] [] (fun r H lg => cutK 0 r H lg = some (.int .i64 v, [], [])) =
      (0 = 0 ∧ lp30 = lp30 ∧ in30 x y = in30 x y ∧ ([] : Hl) = [] ∧ some ((.int .i64 v, [], []) : Out) = some (.int .i64 v, [], [])) := by kernel_rfl
theorem runB30 (x y : Int) :
    vcall (propL noCon fun _ _ => some (entB30 x y)) ops0 (tabOne 30 vf30) 100 vf30 [.int .i64 x, .int .i64 y] [] (fun r H lg => cutK 0 r H lg = some (.int .i64 0, [], [])) =
      (0 = 0 ∧ lp30 = lp30 ∧ in30 x y = in30 x y ∧ ([] : Hl) = [] ∧ some ((.int .i64 0, [], []) : Out) = some (.int .i64 0, [], [])) := by kernel_rfl

theorem dist30 (x y : Int) (H : Hl) : CallTo Try.prog 30 [.int .i64 x, .int .i64 y] H (.int .i64 (distF x y)) H [] := by
  refine CallTo.pure (H := H) (r0 := .int .i64 (distF x y)) (lg := []) 0 (vals := [.int .i64 x, .int .i64 y]) ?_
  show CallTo Try.prog 30 [.int .i64 x, .int .i64 y] [] (.int .i64 (distF x y)) [] []
  rcases dist_cases x y with ⟨k, hk, hh, hm, e⟩ | ⟨hm, e⟩
  · rw [e]
    have hl := loop_chain (P := Try.prog) (n0 := 0) (b := lp30) (ex := .ret) (fr' := fr30 x y k (plD.getD k 0)) (H' := []) (by intro h; cases h) (fun i => (fr30 x y i 0, [])) k 0
      (fun j _ hj => miss30 (by omega) (hm j (by omega))) (by rw [Nat.zero_add]; exact hits30 hk hh)
    have hE : (entA30 x y k (plD.getD k 0)).OK Try.prog := LoopTo.pre (Weak.forget (show 0 ≤ 0 by decide) mask30) hl
    exact call_loop (noCon_ok _) (E := fun _ _ => some (entA30 x y k (plD.getD k 0))) (fun fr H e he => by cases he; exact hE) (tabOne_ok ok30) (tabOne_self 30 vf30) 0 []
      (Eq.mpr (runA30 _ _ _ _) ⟨rfl, rfl, rfl, rfl, rfl⟩) (by simp) (fun b hb hn => by simp at hb)
  · rw [e]
    have hl := loop_chain (P := Try.prog) (n0 := 0) (b := lp30) (ex := .exit 0) (fr' := fr30 x y 24 0) (H' := []) (by intro h; cases h) (fun i => (fr30 x y i 0, [])) 24 0
      (fun j _ hj => miss30 (by omega) (hm j (by omega))) (body_forget (noCon_ok _) (tabOne_ok ok72) (end30 x y) (by simp))
    have hE : (entB30 x y).OK Try.prog := LoopTo.pre (Weak.forget (show 0 ≤ 0 by decide) mask30) hl
    exact call_loop (noCon_ok _) (E := fun _ _ => some (entB30 x y)) (fun fr H e he => by cases he; exact hE) (tabOne_ok ok30) (tabOne_self 30 vf30) 0 []
      (Eq.mpr (runB30 _ _) ⟨rfl, rfl, rfl, rfl, rfl⟩) (by simp) (fun b hb hn => by simp at hb)

theorem miss31 {x y : Int} {i : Nat} (hi : i < 24) (h : hit x y i = false) : BodyTo Try.prog 0 lp31 (fr31 x y i 0) [] .norm (fr31 x y (i + 1) 0) [] := by
  have hb := body31 (cmp0 .eql) x y i hi
  rw [opsQ_eq] at hb
  unfold hit at h
  cases h1 : cmp0 .eql (plA.getD i 0) x with
  | false =>
    rw [h1] at hb
    exact body_forget (noCon_ok _) (noTab_ok _) hb (by simp)
  | true =>
    rw [h1, Bool.true_and] at h
    rw [h1, h] at hb
    exact body_forget (noCon_ok _) (noTab_ok _) hb (by simp)
theorem hits31 {x y : Int} {i : Nat} (hi : i < 24) (h : hit x y i = true) : BodyTo Try.prog 0 lp31 (fr31 x y i 0) [] .ret (fr31 x y i (plD.getD i 0)) [] := by
  have hb := body31 (cmp0 .eql) x y i hi
  rw [opsQ_eq] at hb
  unfold hit at h
  rw [Bool.and_eq_true] at h
  rw [h.1, h.2] at hb
  exact body_forget (noCon_ok _) (noTab_ok _) hb (by simp)

def in31 (x y : Int) : Fr := [.int .i64 x, .int .i64 y, .tup [], .tup [], .int .i64 0, .int .i64 1, .int .i64 0, .int .i64 0, .tup [], .tup [], .tup [], .tup [], .tup [], .tup [], .tup [], .tup [], .tup [], .tup [], .tup [], .tup [], .tup [], .tup [], .tup [], .tup [], .tup [], .tup [], .tup [], .tup [], .tup [], .tup [], .tup [], .tup [], .tup [], .tup []]
def entA31 (x y : Int) (k : Nat) (v : Int) : Lent := ⟨0, lp31, in31 x y, [], .ret, fr31 x y k v, []⟩
def entB31 (x y : Int) : Lent := ⟨0, lp31, in31 x y, [], .exit 0, fr31 x y 24 0, []⟩
theorem runA31 (x y v : Int) (k : Nat) :
    vcall (propL noCon fun _ _ => some (entA31 x y k v)) ops0 (tabOne 31 vf31) 100 vf31 [.int .i64 x, .int .i64 y] [] (fun r H lg => cutK 0 r H lg = some (.int .i64 v, [], [])) =
      (0 = 0 ∧ lp31 = lp31 ∧ in31 x y = in31 x y ∧ ([] : Hl) = [] ∧ some ((.int .i64 v, [], []) : Out) = some (.int .i64 v, [], [])) := by kernel_rfl
theorem runB31 (x y : Int) :
    vcall (propL noCon fun _ _ => some (entB31 x y)) ops0 (tabOne 31 vf31) 100 vf31 [.int .i64 x, .int .i64 y] [] (fun r H lg => cutK 0 r H lg = some (.int .i64 0, [], [])) =
      (0 = 0 ∧ lp31 = lp31 ∧ in31 x y = in31 x y ∧ ([] : Hl) = [] ∧ some ((.int .i64 0, [], []) : Out) = some (.int .i64 0, [], [])) := by kernel_rfl

theorem dist31 (x y : Int) (H : Hl) : CallTo Try.prog 31 [.int .i64 x, .int .i64 y] H (.int .i64 (distF x y)) H [] := by
  refine CallTo.pure (H := H) (r0 := .int .i64 (distF x y)) (lg := []) 0 (vals := [.int .i64 x, .int .i64 y]) ?_
  show CallTo Try.prog 31 [.int .i64 x, .int .i64 y] [] (.int .i64 (distF x y)) [] []
  rcases dist_cases x y with ⟨k, hk, hh, hm, e⟩ | ⟨hm, e⟩
  · rw [e]
    have hl := loop_chain (P := Try.prog) (n0 := 0) (b := lp31) (ex := .ret) (fr' := fr31 x y k (plD.getD k 0)) (H' := []) (by intro h; cases h) (fun i => (fr31 x y i 0, [])) k 0
      (fun j _ hj => miss31 (by omega) (hm j (by omega))) (by rw [Nat.zero_add]; exact hits31 hk hh)
    have hE : (entA31 x y k (plD.getD k 0)).OK Try.prog := LoopTo.pre (Weak.forget (show 0 ≤ 0 by decide) mask31) hl
    exact call_loop (noCon_ok _) (E := fun _ _ => some (entA31 x y k (plD.getD k 0))) (fun fr H e he => by cases he; exact hE) (tabOne_ok ok31) (tabOne_self 31 vf31) 0 []
      (Eq.mpr (runA31 _ _ _ _) ⟨rfl, rfl, rfl, rfl, rfl⟩) (by simp) (fun b hb hn => by simp at hb)
  · rw [e]
    have hl := loop_chain (P := Try.prog) (n0 := 0) (b := lp31) (ex := .exit 0) (fr' := fr31 x y 24 0) (H' := []) (by intro h; cases h) (fun i => (fr31 x y i 0, [])) 24 0
      (fun j _ hj => miss31 (by omega) (hm j (by omega))) (body_forget (noCon_ok _) (noTab_ok _) (end31 x y) (by simp))
    have hE : (entB31 x y).OK Try.prog := LoopTo.pre (Weak.forget (show 0 ≤ 0 by decide) mask31) hl
    exact call_loop (noCon_ok _) (E := fun _ _ => some (entB31 x y)) (fun fr H e he => by cases he; exact hE) (tabOne_ok ok31) (tabOne_self 31 vf31) 0 []
      (Eq.mpr (runB31 _ _) ⟨rfl, rfl, rfl, rfl, rfl⟩) (by simp) (fun b hb hn => by simp at hb)

end
end Go.Proofs.Vm
