/-
  KECCAK, PART 9: the document's register.
-/
import Derived.Test.YtfmhlogapbpnbaaVmK8
namespace Go.Proofs.Vm
open Go.Vm
noncomputable section

/-- '<' by what is handed in. -/
def opsL (γ : Int → Int → Bool) : Ops := { ops0 with
  cmp := fun op x y => match op with
    | .lss => γ x y
    | op => cmp0 op x y }
theorem opsL_eq : opsL (cmp0 .lss) = ops0 := by
  have h1 : (opsL (cmp0 .lss)).cmp = ops0.cmp := by
    funext op x y
    cases op <;> rfl
  show { ops0 with cmp := (opsL (cmp0 .lss)).cmp } = ops0
  rw [h1]

/-- The register's step. -/
def reg1 (r : Nat) : Nat := if 2 * r > 255 then (2 * r - 256) ^^^ 113 else 2 * r
def reg : Nat → Nat
  | 0 => 1
  | n + 1 => reg1 (reg n)

def lp73 : VC := (.seq (.seq (.reg .false [] [⟨(.some 5), .none, .mov, [(.t 4)]⟩, ⟨(.some 6), .none, .mov, [(.t 0)]⟩, ⟨(.some 7), .none, (.cmp .lss), [(.t 5), (.t 6)]⟩]) (.cond (.t 7) .skip (.exit 0))) (.seq (.block 1 (.seq (.reg .false [] [⟨(.some 10), .none, .mov, [(.t 3)]⟩, ⟨(.some 11), .none, (.bin .mul .i64), [(.c (.int .i64 (.ofNat 2))), (.t 10)]⟩, ⟨(.some 3), .none, .mov, [(.t 11)]⟩]) (.seq (.reg .false [] [⟨(.some 12), .none, .mov, [(.t 3)]⟩, ⟨(.some 13), .none, (.cmp .gtr), [(.t 12), (.c (.int .i64 (.ofNat 255)))]⟩]) (.cond (.t 13) (.reg .false [] [⟨(.some 14), .none, .mov, [(.t 3)]⟩, ⟨(.some 15), .none, (.bin .sub .i64), [(.t 14), (.c (.int .i64 (.ofNat 256)))]⟩, ⟨(.some 16), .none, (.bin .xor .i64), [(.t 15), (.c (.int .i64 (.ofNat 113)))]⟩, ⟨(.some 3), .none, .mov, [(.t 16)]⟩]) .skip)))) (.reg .false [] [⟨(.some 8), .none, .mov, [(.t 4)]⟩, ⟨(.some 9), .none, (.bin .add .i64), [(.t 8), (.c (.int .i64 (.ofNat 1)))]⟩, ⟨(.some 4), .none, .mov, [(.t 9)]⟩])))
def mask73 : List Bool := [false, true, true, false, false, true, true, true, true, true, true, true, true, true, true, true, true, true, true, true]
def fr73 (n r i : Int) : Fr := [.int .i64 n, .top, .top, .int .i64 r, .int .i64 i, .top, .top, .top, .top, .top, .top, .top, .top, .top, .top, .top, .top, .top, .top, .top]

theorem body73 (γ : Int → Int → Bool) (n : Int) : ∀ i, i < 168 →
    vm (optC noCon) (opsL γ) noTab 100 0 lp73 (fr73 n (.ofNat (reg i)) (.ofNat i)) [] [] (bodyF mask73) =
      match γ (.ofNat i) n with
      | true => some (.norm, fr73 n (.ofNat (reg (i + 1))) (.ofNat (i + 1)), [], [])
      | false => some (.exit 0, fr73 n (.ofNat (reg i)) (.ofNat i), [], [])
  | 0, _ => by kernel_rfl
  | 1, _ => by kernel_rfl
  | 2, _ => by kernel_rfl
  | 3, _ => by kernel_rfl
  | 4, _ => by kernel_rfl
  | 5, _ => by kernel_rfl
  | 6, _ => by kernel_rfl
  | 7, _ => by kernel_rfl
  | 8, _ => by kernel_rfl
  | 9, _ => by kernel_rfl
  | 10, _ => by kernel_rfl
  | 11, _ => by kernel_rfl
  | 12, _ => by kernel_rfl
  | 13, _ => by kernel_rfl
  | 14, _ => by kernel_rfl
  | 15, _ => by kernel_rfl
  | 16, _ => by kernel_rfl
  | 17, _ => by kernel_rfl
  | 18, _ => by kernel_rfl
  | 19, _ => by kernel_rfl
  | 20, _ => by kernel_rfl
  | 21, _ => by kernel_rfl
  | 22, _ => by kernel_rfl
  | 23, _ => by kernel_rfl
  | 24, _ => by kernel_rfl
  | 25, _ => by kernel_rfl
  | 26, _ => by kernel_rfl
  | 27, _ => by kernel_rfl
  | 28, _ => by kernel_rfl
  | 29, _ => by kernel_rfl
  | 30, _ => by kernel_rfl
  | 31, _ => by kernel_rfl
  | 32, _ => by kernel_rfl
  | 33, _ => by kernel_rfl
  | 34, _ => by kernel_rfl
  | 35, _ => by kernel_rfl
  | 36, _ => by kernel_rfl
  | 37, _ => by kernel_rfl
  | 38, _ => by kernel_rfl
  | 39, _ => by kernel_rfl
  | 40, _ => by kernel_rfl
  | 41, _ => by kernel_rfl
  | 42, _ => by kernel_rfl
  | 43, _ => by kernel_rfl
  | 44, _ => by kernel_rfl
  | 45, _ => by kernel_rfl
  | 46, _ => by kernel_rfl
  | 47, _ => by kernel_rfl
  | 48, _ => by kernel_rfl
  | 49, _ => by kernel_rfl
  | 50, _ => by kernel_rfl
  | 51, _ => by kernel_rfl
  | 52, _ => by kernel_rfl
  | 53, _ => by kernel_rfl
  | 54, _ => by kernel_rfl
  | 55, _ => by kernel_rfl
  | 56, _ => by kernel_rfl
  | 57, _ => by kernel_rfl
  | 58, _ => by kernel_rfl
  | 59, _ => by kernel_rfl
  | 60, _ => by kernel_rfl
  | 61, _ => by kernel_rfl
  | 62, _ => by kernel_rfl
  | 63, _ => by kernel_rfl
  | 64, _ => by kernel_rfl
  | 65, _ => by kernel_rfl
  | 66, _ => by kernel_rfl
  | 67, _ => by kernel_rfl
  | 68, _ => by kernel_rfl
  | 69, _ => by kernel_rfl
  | 70, _ => by kernel_rfl
  | 71, _ => by kernel_rfl
  | 72, _ => by kernel_rfl
  | 73, _ => by kernel_rfl
  | 74, _ => by kernel_rfl
  | 75, _ => by kernel_rfl
  | 76, _ => by kernel_rfl
  | 77, _ => by kernel_rfl
  | 78, _ => by kernel_rfl
  | 79, _ => by kernel_rfl
  | 80, _ => by kernel_rfl
  | 81, _ => by kernel_rfl
  | 82, _ => by kernel_rfl
  | 83, _ => by kernel_rfl
  | 84, _ => by kernel_rfl
  | 85, _ => by kernel_rfl
  | 86, _ => by kernel_rfl
  | 87, _ => by kernel_rfl
  | 88, _ => by kernel_rfl
  | 89, _ => by kernel_rfl
  | 90, _ => by kernel_rfl
  | 91, _ => by kernel_rfl
  | 92, _ => by kernel_rfl
  | 93, _ => by kernel_rfl
  | 94, _ => by kernel_rfl
  | 95, _ => by kernel_rfl
  | 96, _ => by kernel_rfl
  | 97, _ => by kernel_rfl
  | 98, _ => by kernel_rfl
  | 99, _ => by kernel_rfl
  | 100, _ => by kernel_rfl
  | 101, _ => by kernel_rfl
  | 102, _ => by kernel_rfl
  | 103, _ => by kernel_rfl
  | 104, _ => by kernel_rfl
  | 105, _ => by kernel_rfl
  | 106, _ => by kernel_rfl
  | 107, _ => by kernel_rfl
  | 108, _ => by kernel_rfl
  | 109, _ => by kernel_rfl
  | 110, _ => by kernel_rfl
  | 111, _ => by kernel_rfl
  | 112, _ => by kernel_rfl
  | 113, _ => by kernel_rfl
  | 114, _ => by kernel_rfl
  | 115, _ => by kernel_rfl
  | 116, _ => by kernel_rfl
  | 117, _ => by kernel_rfl
  | 118, _ => by kernel_rfl
  | 119, _ => by kernel_rfl
  | 120, _ => by kernel_rfl
  | 121, _ => by kernel_rfl
  | 122, _ => by kernel_rfl
  | 123, _ => by kernel_rfl
  | 124, _ => by kernel_rfl
  | 125, _ => by kernel_rfl
  | 126, _ => by kernel_rfl
  | 127, _ => by kernel_rfl
  | 128, _ => by kernel_rfl
  | 129, _ => by kernel_rfl
  | 130, _ => by kernel_rfl
  | 131, _ => by kernel_rfl
  | 132, _ => by kernel_rfl
  | 133, _ => by kernel_rfl
  | 134, _ => by kernel_rfl
  | 135, _ => by kernel_rfl
  | 136, _ => by kernel_rfl
  | 137, _ => by kernel_rfl
  | 138, _ => by kernel_rfl
  | 139, _ => by kernel_rfl
  | 140, _ => by kernel_rfl
  | 141, _ => by kernel_rfl
  | 142, _ => by kernel_rfl
  | 143, _ => by kernel_rfl
  | 144, _ => by kernel_rfl
  | 145, _ => by kernel_rfl
  | 146, _ => by kernel_rfl
  | 147, _ => by kernel_rfl
  | 148, _ => by kernel_rfl
  | 149, _ => by kernel_rfl
  | 150, _ => by kernel_rfl
  | 151, _ => by kernel_rfl
  | 152, _ => by kernel_rfl
  | 153, _ => by kernel_rfl
  | 154, _ => by kernel_rfl
  | 155, _ => by kernel_rfl
  | 156, _ => by kernel_rfl
  | 157, _ => by kernel_rfl
  | 158, _ => by kernel_rfl
  | 159, _ => by kernel_rfl
  | 160, _ => by kernel_rfl
  | 161, _ => by kernel_rfl
  | 162, _ => by kernel_rfl
  | 163, _ => by kernel_rfl
  | 164, _ => by kernel_rfl
  | 165, _ => by kernel_rfl
  | 166, _ => by kernel_rfl
  | 167, _ => by kernel_rfl
  | i + 168, h => absurd h (by omega)

theorem loop73 (n : Nat) (hn : n < 168) : ∀ lg, LoopTo Try.prog 0 lp73 (fr73 (.ofNat n) (.ofNat (reg 0)) (.ofNat 0)) [] lg (.exit 0) (fr73 (.ofNat n) (.ofNat (reg n)) (.ofNat n)) [] (List.range 0 ++ lg) := by
  have h := loop_chain (P := Try.prog) (n0 := 0) (b := lp73) (ex := .exit 0) (fr' := fr73 (.ofNat n) (.ofNat (reg n)) (.ofNat n)) (H' := []) (by intro h; cases h) (fun i => (fr73 (.ofNat n) (.ofNat (reg i)) (.ofNat i), [])) n 0 (fun j _ hj => ?_) ?_
  · exact h
  · have h := body73 (cmp0 .lss) (.ofNat n) j (by omega)
    have hc : cmp0 .lss (.ofNat j) (.ofNat n) = true := by
      show decide ((Int.ofNat j) < Int.ofNat n) = true
      simp only [decide_eq_true_eq, Int.ofNat_eq_natCast]
      omega
    rw [hc, opsL_eq] at h
    exact body_forget (noCon_ok _) (noTab_ok _) h (by simp)
  · have h := body73 (cmp0 .lss) (.ofNat n) n hn
    have hc : cmp0 .lss (.ofNat n) (.ofNat n) = false := by
      show decide ((Int.ofNat n) < Int.ofNat n) = false
      simp
    rw [hc, opsL_eq] at h
    have : 0 + n = n := Nat.zero_add n
    rw [this]
    exact body_forget (noCon_ok _) (noTab_ok _) h (by simp)

def in73 (n : Int) : Fr := [.int .i64 n, .tup [], .int .u64 0, .int .i64 1, .int .i64 0, .tup [], .tup [], .tup [], .tup [], .tup [], .tup [], .tup [], .tup [], .tup [], .tup [], .tup [], .tup [], .tup [], .tup [], .tup []]
def ent73 (n r : Int) : Lent := ⟨0, lp73, in73 n, [], .exit 0, fr73 n r n, []⟩

theorem run73 (n r : Int) :
    vcall (propL noCon fun _ _ => some (ent73 n r)) ops0 (tabOne 73 vf73) 100 vf73 [.int .i64 n] [] (fun x H lg => cutK 0 x H lg = some (.int .u64 (IntKind.u64.wrap (bin0 .rem .i64 r 2)), [], [])) =
      (0 = 0 ∧ lp73 = lp73 ∧ in73 n = in73 n ∧ ([] : Hl) = [] ∧ some ((.int .u64 (IntKind.u64.wrap (bin0 .rem .i64 r 2)), [], []) : Out) = some (.int .u64 (IntKind.u64.wrap (bin0 .rem .i64 r 2)), [], [])) := by kernel_rfl

/-- 'bit'. -/
theorem bit73 (n : Nat) (hn : n < 168) : CallTo Try.prog 73 [.int .i64 (.ofNat n)] [] (.int .u64 (IntKind.u64.wrap (bin0 .rem .i64 (.ofNat (reg n)) 2))) [] [] := by
  have hE : (ent73 (.ofNat n) (.ofNat (reg n))).OK Try.prog := LoopTo.pre (Weak.forget (show 0 ≤ 0 by decide) mask73) (loop73 n hn)
  exact call_loop (noCon_ok _) (E := fun _ _ => some (ent73 (.ofNat n) (.ofNat (reg n)))) (fun fr H e he => by cases he; exact hE) (tabOne_ok ok73) (tabOne_self 73 vf73) 0 []
    (Eq.mpr (run73 _ _) ⟨rfl, rfl, rfl, rfl, rfl⟩) (by simp) (fun b hb hn => by simp at hb)

end
end Go.Proofs.Vm
