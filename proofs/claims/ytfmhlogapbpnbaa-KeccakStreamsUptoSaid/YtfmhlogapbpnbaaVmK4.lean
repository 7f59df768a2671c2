/-
  KECCAK, PART 4: the function 'all'.
-/
import Derived.Test.YtfmhlogapbpnbaaVmK3
namespace Go.Proofs.Vm
open Go.Vm
noncomputable section

def lp71 : VC := (.seq (.reg .false [] [⟨(.some 9), .none, (.cmp .lss), [(.t 8), (.c (.int .i64 (.ofNat 24)))]⟩]) (.seq (.cond (.t 9) .skip (.exit 0)) (.seq (.block 1 (.seq (.reg .false [] [⟨(.some 10), .none, (.ixV 24 (.int .u64)), [(.t 7), (.t 8)]⟩, ⟨(.some 3), .none, .mov, [(.t 10)]⟩]) (.reg .true [0, 1, 3, 0, 8, 24, 0, 64, 192, 0, 1023] [⟨(.some 11), .none, .mov, [(.t 0)]⟩, ⟨(.some 12), .none, .nilc, [(.t 11)]⟩, ⟨(.some 13), .none, (.fld 0), [(.t 12)]⟩, ⟨(.some 14), .none, .mov, [(.t 0)]⟩, ⟨(.some 15), .none, .nilc, [(.t 14)]⟩, ⟨(.some 16), .none, (.fld 25), [(.t 15)]⟩, ⟨(.some 17), .none, .mov, [(.t 0)]⟩, ⟨(.some 18), .none, .nilc, [(.t 17)]⟩, ⟨(.some 19), .none, (.fld 50), [(.t 18)]⟩, ⟨(.some 20), .none, .mov, [(.t 3)]⟩, ⟨(.some 21), .none, (.call 75), [(.t 13), (.t 16), (.t 19), (.t 20)]⟩]))) (.reg .false [] [⟨(.some 22), .none, (.bin .add .i64), [(.t 8), (.c (.int .i64 (.ofNat 1)))]⟩, ⟨(.some 8), .none, .mov, [(.t 22)]⟩]))))
def mask71 : List Bool := [false, true, true, true, true, true, true, false, false, true, true, true, true, true, true, true, true, true, true, true, true, true, true, true, true, true]
def fr71 (i : Int) : Fr := [.ptr 0 0, .top, .top, .top, .top, .top, .top, .agg rcL, .int .i64 i, .top, .top, .top, .top, .top, .top, .top, .top, .top, .top, .top, .top, .top, .top, .top, .top, .top]
def in71 : Fr := [.ptr 0 0, .tup [], .tup [], .tup [], .ptr 0 0, .ptr 0 0, .ptr 0 75, .agg rcL, .int .i64 0, .tup [], .tup [], .tup [], .tup [], .tup [], .tup [], .tup [], .tup [], .tup [], .tup [], .tup [], .tup [], .tup [], .tup [], .tup [], .tup [], .tup []]

/-- A state behind i rounds. -/
def st (s : List Int) : Nat → List Int
  | 0 => s
  | i + 1 => rnd (st s i) (rcs.getD i 0)

theorem rnd_length (s0 s1 s2 s3 s4 s5 s6 s7 s8 s9 s10 s11 s12 s13 s14 s15 s16 s17 s18 s19 s20 s21 s22 s23 s24 c : Int) : (rnd [s0, s1, s2, s3, s4, s5, s6, s7, s8, s9, s10, s11, s12, s13, s14, s15, s16, s17, s18, s19, s20, s21, s22, s23, s24] c).length = 25 := rfl
theorem st_length {s : List Int} (h : s.length = 25) (i : Nat) : (st s i).length = 25 := by
  induction i with
  | zero => exact h
  | succ i ih =>
    obtain ⟨s0, s1, s2, s3, s4, s5, s6, s7, s8, s9, s10, s11, s12, s13, s14, s15, s16, s17, s18, s19, s20, s21, s22, s23, s24, e⟩ := list25 ih
    simp only [st]
    rw [e]
    exact rnd_length ..

theorem body71 (F : List Int → Int → List Int) (s0 s1 s2 s3 s4 s5 s6 s7 s8 s9 s10 s11 s12 s13 s14 s15 s16 s17 s18 s19 s20 s21 s22 s23 s24 rate at_ : Int) : ∀ i, i < 24 →
    vm (optC (mixInC F)) ops0 noTab 100 1 lp71 (fr71 (.ofNat i)) [.cells (([s0, s1, s2, s3, s4, s5, s6, s7, s8, s9, s10, s11, s12, s13, s14, s15, s16, s17, s18, s19, s20, s21, s22, s23, s24] : List Int).map w ++ tail rate at_)] [] (bodyF mask71) =
      some (.norm, fr71 (.ofNat (i + 1)), [.cells ((F [s0, s1, s2, s3, s4, s5, s6, s7, s8, s9, s10, s11, s12, s13, s14, s15, s16, s17, s18, s19, s20, s21, s22, s23, s24] (rcs.getD i 0)).map w ++ tail rate at_)], [])
  | 0, _ => by kernel_rfl
  | 1, _ => by kernel_rfl
  | 2, _ => by kernel_rfl
  | 3, _ => by kernel_rfl
  | 4, _ => by kernel_rfl
  | 5, _ => by kernel_rfl
  | 6, _ => by kernel_rfl
  | 7, _ => by kernel_rfl
  | 8, _ => by kernel_rfl
  | 9, _ => by kernel_rfl
  | 10, _ => by kernel_rfl
  | 11, _ => by kernel_rfl
  | 12, _ => by kernel_rfl
  | 13, _ => by kernel_rfl
  | 14, _ => by kernel_rfl
  | 15, _ => by kernel_rfl
  | 16, _ => by kernel_rfl
  | 17, _ => by kernel_rfl
  | 18, _ => by kernel_rfl
  | 19, _ => by kernel_rfl
  | 20, _ => by kernel_rfl
  | 21, _ => by kernel_rfl
  | 22, _ => by kernel_rfl
  | 23, _ => by kernel_rfl
  | i + 24, h => absurd h (by omega)

theorem end71 (F : List Int → Int → List Int) (cs : List AV) :
    vm (optC (mixInC F)) ops0 noTab 100 1 lp71 (fr71 (.ofNat 24)) [.cells cs] [] (bodyF mask71) = some (.exit 0, fr71 (.ofNat 24), [.cells cs], []) := by kernel_rfl

theorem loop71 {s : List Int} (hs : s.length = 25) (rate at_ : Int) : ∀ lg, LoopTo Try.prog 1 lp71 (fr71 (.ofNat 0)) [.cells (s.map w ++ tail rate at_)] lg (.exit 0) (fr71 (.ofNat 24)) [.cells ((st s 24).map w ++ tail rate at_)] (List.range 1 ++ lg) := by
  refine loop_chain (ex := .exit 0) (by intro h; cases h) (fun i => (fr71 (.ofNat i), [.cells ((st s i).map w ++ tail rate at_)])) 24 0 (fun j _ hj => ?_) ?_
  · obtain ⟨s0, s1, s2, s3, s4, s5, s6, s7, s8, s9, s10, s11, s12, s13, s14, s15, s16, s17, s18, s19, s20, s21, s22, s23, s24, e⟩ := list25 (st_length hs j)
    have h := body71 rnd s0 s1 s2 s3 s4 s5 s6 s7 s8 s9 s10 s11 s12 s13 s14 s15 s16 s17 s18 s19 s20 s21 s22 s23 s24 rate at_ j (by omega)
    simp only [st, e]
    exact body_forget mixInC_ok (noTab_ok _) h (by simp)
  · exact body_forget mixInC_ok (noTab_ok _) (end71 rnd _) (by simp)

def ent71 (rate at_ : Int) (s y : List Int) : Lent := ⟨1, lp71, in71, [.cells (s.map w ++ tail rate at_)], .exit 0, fr71 (.ofNat 24), [.cells (y.map w ++ tail rate at_)]⟩

theorem run71 (s0 s1 s2 s3 s4 s5 s6 s7 s8 s9 s10 s11 s12 s13 s14 s15 s16 s17 s18 s19 s20 s21 s22 s23 s24 y0 y1 y2 y3 y4 y5 y6 y7 y8 y9 y10 y11 y12 y13 y14 y15 y16 y17 y18 y19 y20 y21 y22 y23 y24 rate at_ : Int) :
    vcall (propL noCon fun _ _ => some (ent71 rate at_ [s0, s1, s2, s3, s4, s5, s6, s7, s8, s9, s10, s11, s12, s13, s14, s15, s16, s17, s18, s19, s20, s21, s22, s23, s24] [y0, y1, y2, y3, y4, y5, y6, y7, y8, y9, y10, y11, y12, y13, y14, y15, y16, y17, y18, y19, y20, y21, y22, y23, y24])) ops0 (tabOne 71 vf71) 100 vf71 [.ptr 0 0] [.cells (([s0, s1, s2, s3, s4, s5, s6, s7, s8, s9, s10, s11, s12, s13, s14, s15, s16, s17, s18, s19, s20, s21, s22, s23, s24] : List Int).map w ++ tail rate at_)] (fun r H lg => cutK 1 r H lg = some (.tup [], [.cells (([y0, y1, y2, y3, y4, y5, y6, y7, y8, y9, y10, y11, y12, y13, y14, y15, y16, y17, y18, y19, y20, y21, y22, y23, y24] : List Int).map w ++ tail rate 0)], [])) =
      (1 = 1 ∧ lp71 = lp71 ∧ in71 = in71 ∧ [Blk.cells (([s0, s1, s2, s3, s4, s5, s6, s7, s8, s9, s10, s11, s12, s13, s14, s15, s16, s17, s18, s19, s20, s21, s22, s23, s24] : List Int).map w ++ tail rate at_)] = [Blk.cells (([s0, s1, s2, s3, s4, s5, s6, s7, s8, s9, s10, s11, s12, s13, s14, s15, s16, s17, s18, s19, s20, s21, s22, s23, s24] : List Int).map w ++ tail rate at_)] ∧
        some ((.tup [], [.cells (([y0, y1, y2, y3, y4, y5, y6, y7, y8, y9, y10, y11, y12, y13, y14, y15, y16, y17, y18, y19, y20, y21, y22, y23, y24] : List Int).map w ++ tail rate 0)], []) : Out) = some (.tup [], [.cells (([y0, y1, y2, y3, y4, y5, y6, y7, y8, y9, y10, y11, y12, y13, y14, y15, y16, y17, y18, y19, y20, y21, y22, y23, y24] : List Int).map w ++ tail rate 0)], [])) := by kernel_rfl

/-- ALL ROUNDS, in the sponge. -/
theorem all71 {s : List Int} (hs : s.length = 25) (rate at_ : Int) :
    CallTo Try.prog 71 [.ptr 0 0] [.cells (s.map w ++ tail rate at_)] (.tup []) [.cells ((st s 24).map w ++ tail rate 0)] [0] := by
  have hl := loop71 hs rate at_
  have hy := st_length hs 24
  generalize st s 24 = y at hl hy
  obtain ⟨s0, s1, s2, s3, s4, s5, s6, s7, s8, s9, s10, s11, s12, s13, s14, s15, s16, s17, s18, s19, s20, s21, s22, s23, s24, rfl⟩ := list25 hs
  obtain ⟨y0, y1, y2, y3, y4, y5, y6, y7, y8, y9, y10, y11, y12, y13, y14, y15, y16, y17, y18, y19, y20, y21, y22, y23, y24, rfl⟩ := list25 hy
  have hE : (ent71 rate at_ [s0, s1, s2, s3, s4, s5, s6, s7, s8, s9, s10, s11, s12, s13, s14, s15, s16, s17, s18, s19, s20, s21, s22, s23, s24] [y0, y1, y2, y3, y4, y5, y6, y7, y8, y9, y10, y11, y12, y13, y14, y15, y16, y17, y18, y19, y20, y21, y22, y23, y24]).OK Try.prog := LoopTo.pre (Weak.forget (Nat.le_refl 1) mask71) hl
  exact call_loop (noCon_ok _) (E := fun _ _ => some (ent71 rate at_ [s0, s1, s2, s3, s4, s5, s6, s7, s8, s9, s10, s11, s12, s13, s14, s15, s16, s17, s18, s19, s20, s21, s22, s23, s24] [y0, y1, y2, y3, y4, y5, y6, y7, y8, y9, y10, y11, y12, y13, y14, y15, y16, y17, y18, y19, y20, y21, y22, y23, y24])) (fun fr H e he => by cases he; exact hE) (tabOne_ok ok71) (tabOne_self 71 vf71) 1 [0]
    (Eq.mpr (run71 s0 s1 s2 s3 s4 s5 s6 s7 s8 s9 s10 s11 s12 s13 s14 s15 s16 s17 s18 s19 s20 s21 s22 s23 s24 y0 y1 y2 y3 y4 y5 y6 y7 y8 y9 y10 y11 y12 y13 y14 y15 y16 y17 y18 y19 y20 y21 y22 y23 y24 rate at_) ⟨rfl, rfl, rfl, rfl, rfl⟩) (by simp) (fun b hb hn => by simp at hb hn; omega)

end
end Go.Proofs.Vm
