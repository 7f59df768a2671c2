/-
  A VERIFIED SYMBOLIC MACHINE, PART Pa: the sign turned, the bits turned, a part of an array's value, a byte of a string, the smaller of two.
-/
import Derived.Test.YtfmhlogapbpnbaaVmP
namespace Go.Vm

def onesOf (k : IntKind) : Int := if k.signed then -1 else k.max

section
variable {R : Type} {A : Alg R} {holds : R → Prop} (good : A.Good holds) {P : Program} {o : Oper} {avs : List AV} {H : Hl} {cf : CallF R} {k : ExK R}
include good

theorem s_neg {t : TypeId} {x : Operand} {kd : IntKind} (ho : o.op = .unOp .neg t x) (h : holds (ex A ops0 cf H (.bin .sub kd) avs k)) :
    Does P o [.const (.int kd 0), x] avs H fun r H' t f => holds (k r H' t f) := by
  rcases avs with _ | ⟨xa, _ | ⟨ya, _ | ⟨_, _⟩⟩⟩
  · exact (good.fail h).elim
  · cases xa <;> exact (good.fail h).elim
  · cases xa with
    | int k1 m =>
      cases ya with
      | int k2 n =>
        simp only [ex, xBin] at h
        split at h
        · rename_i e1 e2
          have e1 := sameK_eq e1
          have e2 := sameK_eq e2
          subst e1; have e2 := e2.symm; subst e2
          refine ⟨_, _, _, _, h, quiet2 fun ρ w a g hv hu _ _ => ⟨_, ?_, .int _ _⟩⟩
          have hm : (.int _ 0 : Value) = .int _ m := inv_int hv
          cases hm
          simp [execOp, ho, inv_int hu, Op.unary, Op.intArith, ops0, bin0]
        · exact (good.fail h).elim
      | _ => exact (good.fail h).elim
    | _ => exact (good.fail h).elim
  · cases xa <;> first | exact (good.fail h).elim | (cases ya <;> exact (good.fail h).elim)

theorem s_com {t : TypeId} {x : Operand} {kd : IntKind} (ho : o.op = .unOp .xor t x) (h : holds (ex A ops0 cf H (.bin .xor kd) avs k)) :
    Does P o [.const (.int kd (onesOf kd)), x] avs H fun r H' t f => holds (k r H' t f) := by
  rcases avs with _ | ⟨xa, _ | ⟨ya, _ | ⟨_, _⟩⟩⟩
  · exact (good.fail h).elim
  · cases xa <;> exact (good.fail h).elim
  · cases xa with
    | int k1 m =>
      cases ya with
      | int k2 n =>
        simp only [ex, xBin] at h
        split at h
        · rename_i e1 e2
          have e1 := sameK_eq e1
          have e2 := sameK_eq e2
          subst e1; have e2 := e2.symm; subst e2
          refine ⟨_, _, _, _, h, quiet2 fun ρ w a g hv hu _ _ => ⟨_, ?_, .int _ _⟩⟩
          have hm : (.int _ (onesOf _) : Value) = .int _ m := inv_int hv
          cases hm
          simp [execOp, ho, inv_int hu, Op.unary, Op.intBits, ops0, bin0, onesOf]
        · exact (good.fail h).elim
      | _ => exact (good.fail h).elim
    | _ => exact (good.fail h).elim
  · cases xa <;> first | exact (good.fail h).elim | (cases ya <;> exact (good.fail h).elim)

theorem s_ixV {t : TypeId} {x y : Operand} {n : Nat} {e : TypeId} {i : TypeInfo} {d : TypeDesc} {kk : Kd} (ho : o.op = .index t x y) (ht : P.underlying t = some (.array n e)) (hd : P.underlying e = some d) (ha : isAggD d = false)
    (hi : P.info? e = some i) (h1 : i.size = 1) (h : holds (ex A ops0 cf H (.ixV n kk) avs k)) : Does P o [x, y] avs H fun r H' t f => holds (k r H' t f) := by
  rcases avs with _ | ⟨xa, _ | ⟨ya, _ | ⟨_, _⟩⟩⟩
  · exact (good.fail h).elim
  · cases xa <;> exact (good.fail h).elim
  · cases xa with
    | agg cs =>
      cases ya with
      | int kd j =>
        have h : holds (A.chk (ops0.inr j n) (A.get kk cs (ops0.nat j) fun v => k v H [] [])) := h
        obtain ⟨hj, h⟩ := good.chk _ _ h
        have hj := inr0 hj
        obtain ⟨r, hr, h⟩ := good.get _ _ _ _ h
        have hr : cs[j.toNat]? = some r := hr
        refine ⟨_, _, _, _, h, quiet2 fun ρ w a g hv hu _ _ => ?_⟩
        obtain ⟨vs, hve, hl, _, hli⟩ := lies_agg hv
        obtain ⟨v, q1, q2, q3⟩ := hli _ r hr
        refine ⟨v, ?_, q3⟩
        simp only [Nat.zero_add] at q1
        simp only [execOp, ho, hve, inv_int hu, Instr.index, asIntOf, Sem.run_bind, Sem.run_pure, Result.andThen_ok, run_underlying ht]
        rw [if_pos (by omega)]
        simp only [Sem.run_bind, run_size hi, Result.andThen_ok, h1, Nat.mul_one, run_part1 hd ha _ _ w q1, Sem.run_pure]
      | _ => exact (good.fail h).elim
    | _ => exact (good.fail h).elim
  · cases xa <;> first | exact (good.fail h).elim | (cases ya <;> exact (good.fail h).elim)
end

end Go.Vm
