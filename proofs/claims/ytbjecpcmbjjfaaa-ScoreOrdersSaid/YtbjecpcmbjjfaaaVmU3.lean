/-
  ScoreOrders: for every input the law returns true and its arguments read as before; no condition.
-/
import Derived.Test.YtbjecpcmbjjfaaaYaf

namespace Go.Proofs.Ytbjecpcmbjjfaaa.scoreOrders
open Go.Vm Go.Proofs.Vm Go.ChangeShapes Go.WideShapes Go.ChangeAt Go.RowKit

set_option maxRecDepth 100000 in
theorem lifted (os : Os) (started : os.Started) (H : Type) (enc : TypeId × Value → H) :
    ReturnsInHanded {} Try.checked os 3 .any (Rows.scoreOrdersSpec.pre6 enc Try.prog Try.f3 Rows.scoreOrdersRow.domain false) (Rows.scoreOrdersSpec.post enc Try.prog Try.f3 false true false false) := by
  refine returnsInHanded_of_change (C := Try.checked) Vm.Try.own started (by kernel_rfl) Try.func3
    (ChangeSpec.witness6 (enc := enc) (C := Try.checked) false ⟨#[], #[.float .f64 0, .float .f64 0, .float .f64 0], []⟩ 8 (by kernel_rfl) (by kernel_rfl) (by kernel_rfl) (by kernel_rfl)) ?_
  intro W base args ds gs before hval0 hW hcnd _
  have hval : ∀ (j : Nat) t v, Try.f3.params[j]? = some t → args[j]? = some v → Value.okWide Try.prog W .any base t v := hval0
  have hW' : DataW.Whole enc Try.prog Try.f3.params.toList Rows.scoreOrdersSpec.vars false W args.toList ds gs before := hW
  obtain ⟨p, q, hA0, hV, hbf, hfz, hnd⟩ := hW
  have hA : DataW.TrodAll enc Try.prog W 0 (fun _ => true) true Try.f3.params.toList args.toList ds p := hA0
  rw [Try.params3] at hA hval
  obtain ⟨v0, vs0, d0, ds0, p0, q0, hargs, rfl, rfl, h0, r0⟩ := trodAll_cons hA
  obtain ⟨v1, vs1, d1, ds1, p1, q1, rfl, rfl, rfl, h1, r1⟩ := trodAll_cons r0
  obtain ⟨v2, vs2, d2, ds2, p2, q2, rfl, rfl, rfl, h2, r2⟩ := trodAll_cons r1
  obtain ⟨rfl, rfl, rfl⟩ := trodAll_nil r2
  obtain rfl : args = #[v0, v1, v2] := by cases args; simp_all
  have hV : DataW.TrodVars enc Try.prog W (fun _ => true) [] gs q := hV
  obtain ⟨rfl, rfl⟩ := trodVars_none hV
  refine law_step (s := Rows.scoreOrdersSpec) rfl (by rw [Try.params3]; exact fun t ht => of_decide_eq_true (by revert t; exact of_decide_eq_true (by kernel_rfl))) rfl hW' rfl ?_
  obtain ⟨x0, rfl, _, _, w0⟩ := open_float Try.underlying22 (hval 0 22 v0 rfl rfl) h0
  have hx0 := f64_lt w0
  obtain ⟨x1, rfl, _, _, w1⟩ := open_float Try.underlying22 (hval 1 22 v1 rfl rfl) h1
  have hx1 := f64_lt w1
  obtain ⟨x2, rfl, _, _, w2⟩ := open_float Try.underlying22 (hval 2 22 v2 rfl rfl) h2
  have hx2 := f64_lt w2
  obtain ⟨H', lg, hc⟩ := law3 x0 x1 x2
  exact enter_law (us := [.float .f64 x0, .float .f64 x1, .float .f64 x2]) hc (.cons (.flt _ _) (.cons (.flt _ _) (.cons (.flt _ _) .nil)))

theorem closed : joinedFacts Try.prog 3 Try.f3 Rows.scoreOrdersSpec Rows.scoreOrdersRow = true := by
  unfold joinedFacts
  simp only [Bool.and_eq_true]
  repeat' with_reducible apply And.intro
  all_goals first
    | with_reducible exact f_mayEnter
    | with_reducible exact lifted_of f_liftsFinal (by kernel_rfl)
    | with_reducible exact made_of f_make (by kernel_rfl)
    | kernel_rfl

theorem proved : Rows.ScoreOrdersSaid :=
  OpenClaim.holds_of_wide 3 Try.f3 rfl rfl rfl rfl rfl rfl rfl ⟨rfl, rfl, rfl, rfl, rfl⟩ rfl rfl rfl rfl rfl (by kernel_rfl) Try.func3 closed
    (of_decide_eq_true (by kernel_rfl)) (by unfold Func.isWrapper; first | (rw [if_pos (by decide +kernel)]; kernel_rfl) | (rw [if_neg (by decide +kernel)]; exact ⟨rfl, rfl⟩))
    (fun os started H enc _  => lifted os started H enc )

end Go.Proofs.Ytbjecpcmbjjfaaa.scoreOrders
