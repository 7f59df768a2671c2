/-
  KECCAK, PART 25: laws of layer 3.
-/
import Derived.Test.YtfmhlogapbpnbaaYc
import Derived.Test.YtfmhlogapbpnbaaVmKU3
import Derived.Test.YtfmhlogapbpnbaaYd

namespace Go.Proofs.Vm
open Go.Vm
noncomputable section

theorem vc7 (S : AF) (x y n : Int) (Q : AV → Hl → List Nat → Prop) :
  (vcall (vcA kdYes (cnB S) noLn) ops0 (tabOne 7 vf7) 100 vf7 [.int .i64 x, .int .i64 y, .int .i64 n] [] Q) =
 ((True ∧
 (True ∧
 (True ∧
 (Br (ops0.cmp BinOp.eql (AF.dist S x y) (AF.dist S x y))
 (True ∧
 (True ∧
 (Br (ops0.cmp BinOp.eql (AF.cst S n) (AF.cst S n))
 (Q (AV.bool Bool.true) [] [])
 (Q (AV.bool Bool.false) [] []))))
 (Q (AV.bool Bool.false) [] [])))))) := by kernel_rfl

theorem law7 (x y n : Int) : CallTo Try.prog 7 [.int .i64 x, .int .i64 y, .int .i64 n] [] (.bool true) [] [] := by
  refine call_x cnB_ok (noLn_ok _) (tabOne_ok ok7) (tabOne_self 7 vf7) (n := 100) (g := kdYes) ?_
  rw [vc7]
  have e : ∀ a : Int, ops0.cmp .eql a a = true := fun a => by show (a == a) = true; simp
  exact ⟨trivial, trivial, trivial, Br.t (e _) ⟨trivial, trivial, Br.t (e _) ⟨rfl, rfl, rfl⟩⟩⟩

end
end Go.Proofs.Vm

namespace Go.Proofs.Ytfmhlogapbpnbaa.parts
open Go.Vm Go.Proofs.Vm Go.ChangeShapes Go.WideShapes Go.ChangeAt Go.RowKit

set_option maxRecDepth 100000 in
theorem lifted (os : Os) (started : os.Started) (H : Type) (enc : TypeId × Value → H) :
    ReturnsInHanded {} Try.checked os 7 .any (Rows.keccakPartsSpec.pre6 enc Try.prog Try.f7 Rows.keccakPartsRow.domain false) (Rows.keccakPartsSpec.post enc Try.prog Try.f7 false true false false) := by
  refine returnsInHanded_of_change (C := Try.checked) Vm.Try.own started (by kernel_rfl) Try.func7
    (ChangeSpec.witness6 (enc := enc) (C := Try.checked) false ⟨#[], #[.int .i64 0, .int .i64 0, .int .i64 0], []⟩ 8 (by kernel_rfl) (by kernel_rfl) (by kernel_rfl) (by kernel_rfl)) ?_
  intro W base args ds gs before hval0 hW hcnd _
  have hval : ∀ (j : Nat) t v, Try.f7.params[j]? = some t → args[j]? = some v → Value.okWide Try.prog W .any base t v := hval0
  have hW' := hW
  obtain ⟨p, q, hA0, hV, rfl, hfz, hnd⟩ := hW
  have hA : DataW.TrodAll enc Try.prog W 0 (fun _ => true) true Try.f7.params.toList args.toList ds p := hA0
  rw [Try.params7] at hA hval
  obtain ⟨v0, vs0, d0, ds0, p0, q0, hargs, rfl, rfl, h0, r0⟩ := trodAll_cons hA
  obtain ⟨v1, vs1, d1, ds1, p1, q1, rfl, rfl, rfl, h1, r1⟩ := trodAll_cons r0
  obtain ⟨v2, vs2, d2, ds2, p2, q2, rfl, rfl, rfl, h2, r2⟩ := trodAll_cons r1
  obtain ⟨rfl, rfl, rfl⟩ := trodAll_nil r2
  obtain rfl : args = #[v0, v1, v2] := by cases args; simp_all
  obtain ⟨rfl, rfl⟩ := trodVars_none hV
  refine law_step (s := Rows.keccakPartsSpec) rfl (by rw [Try.params7]; exact fun t ht => of_decide_eq_true (by revert t; exact of_decide_eq_true (by kernel_rfl))) rfl hW' rfl ?_
  obtain ⟨a, rfl, _, _, wa⟩ := open_int Try.underlying3 (hval 0 3 v0 rfl rfl) h0
  obtain ⟨b, rfl, _, _, wb⟩ := open_int Try.underlying3 (hval 1 3 v1 rfl rfl) h1
  obtain ⟨c, rfl, _, _, wc⟩ := open_int Try.underlying3 (hval 2 3 v2 rfl rfl) h2
  exact enter_law (us := [.int .i64 a, .int .i64 b, .int .i64 c]) (law7 a b c) (.cons (.int _ _) (.cons (.int _ _) (.cons (.int _ _) .nil)))

theorem closed : joinedFacts Try.prog 7 Try.f7 Rows.keccakPartsSpec Rows.keccakPartsRow = true := by
  unfold joinedFacts
  simp only [Bool.and_eq_true]
  repeat' with_reducible apply And.intro
  all_goals first
    | with_reducible exact f_mayEnter
    | with_reducible exact lifted_of f_liftsFinal (by kernel_rfl)
    | with_reducible exact made_of f_make (by kernel_rfl)
    | kernel_rfl

theorem proved : Rows.KeccakPartsSaid :=
  OpenClaim.holds_of_wide 7 Try.f7 rfl rfl rfl rfl rfl rfl rfl ⟨rfl, rfl, rfl, rfl, rfl⟩ rfl rfl rfl rfl rfl (by kernel_rfl) Try.func7 closed
    (of_decide_eq_true (by kernel_rfl)) (by unfold Func.isWrapper; first | (rw [if_pos (by decide +kernel)]; kernel_rfl) | (rw [if_neg (by decide +kernel)]; exact ⟨rfl, rfl⟩))
    (fun os started H enc _ => lifted os started H enc)

end Go.Proofs.Ytfmhlogapbpnbaa.parts
