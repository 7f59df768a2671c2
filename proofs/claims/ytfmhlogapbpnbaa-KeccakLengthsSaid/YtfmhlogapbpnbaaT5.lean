/-
  KeccakLengths: for every input the law returns true and its arguments read as before; no condition.
-/
import Derived.Test.YtfmhlogapbpnbaaYf
import Derived.Test.YtfmhlogapbpnbaaYe
import Derived.Test.YtfmhlogapbpnbaaYd

namespace Go.Proofs.Ytfmhlogapbpnbaa.keccakLengths
open Go.Vm Go.Proofs.Vm Go.ChangeShapes Go.WideShapes Go.ChangeAt Go.RowKit

set_option maxRecDepth 100000 in
theorem lifted (os : Os) (started : os.Started) (H : Type) (enc : TypeId × Value → H) :
    ReturnsInHanded {} Try.checked os 5 .any (Rows.keccakLengthsSpec.pre6 enc Try.prog Try.f5 Rows.keccakLengthsRow.domain false) (Rows.keccakLengthsSpec.post enc Try.prog Try.f5 false true false false) := by
  refine returnsInHanded_of_change (C := Try.checked) Vm.Try.own started (by kernel_rfl) Try.func5
    (ChangeSpec.witness6 (enc := enc) (C := Try.checked) false ⟨#[], #[.int .i64 0, .int .u8 0], []⟩ 8 (by kernel_rfl) (by kernel_rfl) (by kernel_rfl) (by kernel_rfl)) ?_
  intro W base args ds gs before hval0 hW hcnd _
  have hval : ∀ (j : Nat) t v, Try.f5.params[j]? = some t → args[j]? = some v → Value.okWide Try.prog W .any base t v := hval0
  have hW' : DataW.Whole enc Try.prog Try.f5.params.toList Rows.keccakLengthsSpec.vars false W args.toList ds gs before := hW
  obtain ⟨p, q, hA0, hV, hbf, hfz, hnd⟩ := hW
  have hA : DataW.TrodAll enc Try.prog W 0 (fun _ => true) true Try.f5.params.toList args.toList ds p := hA0
  rw [Try.params5] at hA hval
  obtain ⟨v0, vs0, d0, ds0, p0, q0, hargs, rfl, rfl, h0, r0⟩ := trodAll_cons hA
  obtain ⟨v1, vs1, d1, ds1, p1, q1, rfl, rfl, rfl, h1, r1⟩ := trodAll_cons r0
  obtain ⟨rfl, rfl, rfl⟩ := trodAll_nil r1
  obtain rfl : args = #[v0, v1] := by cases args; simp_all
  have hV : DataW.TrodVars enc Try.prog W (fun _ => true) [] gs q := hV
  obtain ⟨rfl, rfl⟩ := trodVars_none hV
  refine law_step (s := Rows.keccakLengthsSpec) rfl (by rw [Try.params5]; exact fun t ht => of_decide_eq_true (by revert t; exact of_decide_eq_true (by kernel_rfl))) rfl hW' rfl ?_
  obtain ⟨a0, rfl, _, _, w0⟩ := open_int Try.underlying3 (hval 0 3 v0 rfl rfl) h0
  obtain ⟨a1, rfl, _, _, w1⟩ := open_int Try.underlying5 (hval 1 5 v1 rfl rfl) h1
  obtain ⟨b, hb1, hb⟩ : ∃ b : Nat, a1 = Int.ofNat b ∧ b < 256 := by
    have hx : 0 ≤ a1 ∧ a1 ≤ 255 := by simpa [Lit.wf, IntKind.min, IntKind.max, IntKind.signed, IntKind.bits] using w1
    exact ⟨a1.toNat, (Int.toNat_of_nonneg hx.1).symm, by omega⟩
  obtain ⟨H', lg, hc⟩ := (by rw [hb1]; exact law5 a0 b hb : ∃ H' lg, CallTo Try.prog 5 [.int .i64 a0, .int .u8 a1] [] (.bool true) H' lg)
  exact enter_law (us := [.int .i64 a0, .int .u8 a1]) hc (.cons (.int _ _) (.cons (.int _ _) .nil))

theorem closed : joinedFacts Try.prog 5 Try.f5 Rows.keccakLengthsSpec Rows.keccakLengthsRow = true := by
  unfold joinedFacts
  simp only [Bool.and_eq_true]
  repeat' with_reducible apply And.intro
  all_goals first
    | with_reducible exact f_mayEnter
    | with_reducible exact lifted_of f_liftsFinal (by kernel_rfl)
    | with_reducible exact made_of f_make (by kernel_rfl)
    | kernel_rfl

theorem proved : Rows.KeccakLengthsSaid :=
  OpenClaim.holds_of_wide 5 Try.f5 rfl rfl rfl rfl rfl rfl rfl ⟨rfl, rfl, rfl, rfl, rfl⟩ rfl rfl rfl rfl rfl (by kernel_rfl) Try.func5 closed
    (of_decide_eq_true (by kernel_rfl)) (by unfold Func.isWrapper; first | (rw [if_pos (by decide +kernel)]; kernel_rfl) | (rw [if_neg (by decide +kernel)]; exact ⟨rfl, rfl⟩))
    (fun os started H enc _  => lifted os started H enc )

end Go.Proofs.Ytfmhlogapbpnbaa.keccakLengths
