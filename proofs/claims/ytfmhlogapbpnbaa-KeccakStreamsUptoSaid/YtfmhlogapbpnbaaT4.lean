/-
  KeccakStreams: for every input the law returns true and its arguments read as before; where its arguments together are of bulk at most 1048576.
-/
import Derived.Test.YtfmhlogapbpnbaaYg
import Derived.Test.YtfmhlogapbpnbaaYe
import Derived.Test.YtfmhlogapbpnbaaYd

namespace Go.Proofs.Ytfmhlogapbpnbaa.keccakStreams
open Go.Vm Go.Proofs.Vm Go.ChangeShapes Go.WideShapes Go.ChangeAt Go.RowKit

set_option maxRecDepth 100000 in
theorem lifted (os : Os) (started : os.Started) (H : Type) (enc : TypeId × Value → H) (F : Stop.Interp) :
    ReturnsInHanded {} Try.checked os 4 .any ((Rows.OpenSpec.upto Rows.keccakStreamsSpec).pre6 enc Try.prog Try.f4 Rows.keccakStreamsUptoRow.domain false) (((Rows.OpenSpec.upto Rows.keccakStreamsSpec).at F).post enc Try.prog Try.f4 false true false false) := by
  refine returnsInHanded_of_cond (C := Try.checked) (s := Rows.OpenSpec.upto Rows.keccakStreamsSpec) (k := Rows.uptoSmall) rfl Vm.Try.own started (by kernel_rfl) Try.func4
    (OpenSpec.witness (enc := enc) (C := Try.checked) (s := Rows.OpenSpec.upto Rows.keccakStreamsSpec) (k := Rows.uptoSmall) rfl false ⟨#[], #[.int .i64 0, .int .i64 0, .slice none 0 0, .slice none 0 0], []⟩ 8 (by kernel_rfl) (by kernel_rfl) (by kernel_rfl)
      (x := ([.lit (.int .i64 0), .lit (.int .i64 0), .nil, .nil], [], [])) (by kernel_rfl) rfl (by kernel_rfl)) ?_
  intro W base args ds gs before hval0 hW _ hk _
  show Calls Try.prog 4 args W fun e W' => ∃ v, e = .returned v ∧ Rows.keccakStreamsSpec.post enc Try.prog Try.f4 false true false false W args v W' 
  have hval : ∀ (j : Nat) t v, Try.f4.params[j]? = some t → args[j]? = some v → Value.okWide Try.prog W .any base t v := hval0
  have hW' : DataW.Whole enc Try.prog Try.f4.params.toList Rows.keccakStreamsSpec.vars false W args.toList ds gs before := hW
  obtain ⟨p, q, hA0, hV, hbf, hfz, hnd⟩ := hW
  have hA : DataW.TrodAll enc Try.prog W 0 (fun _ => true) true Try.f4.params.toList args.toList ds p := hA0
  rw [Try.params4] at hA hval
  obtain ⟨v0, vs0, d0, ds0, p0, q0, hargs, rfl, rfl, h0, r0⟩ := trodAll_cons hA
  obtain ⟨v1, vs1, d1, ds1, p1, q1, rfl, rfl, rfl, h1, r1⟩ := trodAll_cons r0
  obtain ⟨v2, vs2, d2, ds2, p2, q2, rfl, rfl, rfl, h2, r2⟩ := trodAll_cons r1
  obtain ⟨v3, vs3, d3, ds3, p3, q3, rfl, rfl, rfl, h3, r3⟩ := trodAll_cons r2
  obtain ⟨rfl, rfl, rfl⟩ := trodAll_nil r3
  obtain rfl : args = #[v0, v1, v2, v3] := by cases args; simp_all
  have hV : DataW.TrodVars enc Try.prog W (fun _ => true) [] gs q := hV
  obtain ⟨rfl, rfl⟩ := trodVars_none hV
  refine law_step (s := Rows.keccakStreamsSpec) rfl (by rw [Try.params4]; exact fun t ht => of_decide_eq_true (by revert t; exact of_decide_eq_true (by kernel_rfl))) rfl hW' rfl ?_
  have hk : Rows.uptoBulkAll [d0, d1, d2, d3] ≤ 1048576 := of_decide_eq_true hk
  obtain ⟨a0, rfl, _, _, w0⟩ := open_int Try.underlying3 (hval 0 3 v0 rfl rfl) h0
  obtain ⟨a1, rfl, _, _, w1⟩ := open_int Try.underlying3 (hval 1 3 v1 rfl rfl) h1
  obtain ⟨pc2, off2, len2, cap2, ex2, lb2, hr2, hf2, ho2, hb2, hl2, hc2⟩ := open_bytes Try.underlying22 Try.underlying5 (by kernel_rfl) (hval 2 22 v2 rfl rfl) h2
  have hl2 : len2 ≤ 1048576 := Nat.le_trans hl2 (Nat.le_trans (bulk_part (by simp)) hk)
  obtain ⟨pc3, off3, len3, cap3, ex3, lb3, hr3, hf3, ho3, hb3, hl3, hc3⟩ := open_bytes Try.underlying22 Try.underlying5 (by kernel_rfl) (hval 3 22 v3 rfl rfl) h3
  have hl3 : len3 ≤ 1048576 := Nat.le_trans hl3 (Nat.le_trans (bulk_part (by simp)) hk)
  obtain ⟨H', lg, hc⟩ := law4 ⟨hf2, hf3, hb2, hb3, ho2, ho3, hl2, hl3⟩ a0 a1 cap2 cap3 ex2 ex3
  exact enter_law (us := [.int .i64 a0, .int .i64 a1, v2, v3]) hc (.cons (.int _ _) (.cons (.int _ _) (.cons hr2 (.cons hr3 .nil))))

theorem closed : joinedFacts Try.prog 4 Try.f4 (Rows.OpenSpec.upto Rows.keccakStreamsSpec).bare Rows.keccakStreamsUptoRow = true := by
  unfold joinedFacts
  simp only [Bool.and_eq_true]
  repeat' with_reducible apply And.intro
  all_goals first
    | with_reducible exact f_mayEnter
    | with_reducible exact lifted_of f_liftsFinal (by kernel_rfl)
    | with_reducible exact made_of f_make (by kernel_rfl)
    | kernel_rfl

theorem proved : Rows.KeccakStreamsUptoSaid :=
  OpenClaim.holds_of_cond 4 Try.f4 rfl rfl rfl rfl rfl rfl rfl ⟨rfl, rfl, rfl, rfl, rfl⟩ rfl rfl rfl rfl rfl (by kernel_rfl) Try.func4 closed
    (of_decide_eq_true (by kernel_rfl)) (by unfold Func.isWrapper; first | (rw [if_pos (by decide +kernel)]; kernel_rfl) | (rw [if_neg (by decide +kernel)]; exact ⟨rfl, rfl⟩))
    (fun os started H enc _ F => lifted os started H enc F)

end Go.Proofs.Ytfmhlogapbpnbaa.keccakStreams
