/-
  A VERIFIED SYMBOLIC MACHINE, PART P: calls; and all the operations in one.
-/
import Derived.Test.YtfmhlogapbpnbaaVmO
namespace Go.Vm

/-- What an operation comes to, a call or none. (Of a call: nothing else may lie in the memory.) -/
structure StepX (P : Program) (o : Oper) (call : Bool) (xs : List Operand) (avs : List AV) (H : Hl) (r : AV) (H' : Hl) (tch ft : List Nat) : Prop where
  grow : H.length ≤ H'.length
  old : ∀ b, b ∈ tch → b < H.length
  keep : ∀ b, b < H.length → b ∉ tch → H'[b]? = H[b]?
  does : ∀ (ρ : Rho) (w : World) (a : Act) (g : Hp), VRels ρ w avs (xs.map a.eval) → agree g H ft → agree g H tch →
    (∀ b, H.length ≤ b → (call = true ∨ b < H'.length) → g b = none) → HRel ρ w g →
    OpDo P o a w (fun v w' => ∃ ρ', HRel ρ' w' (upd g H' (tch ++ news H.length H'.length)) ∧ VRel ρ' w' r v ∧ ∀ n, Ext n ρ w ρ' w')

theorem StepOK.x {P : Program} {o : Oper} {c : Bool} {xs : List Operand} {avs : List AV} {H : Hl} {r : AV} {H' : Hl} {tch ft : List Nat} (h : StepOK P o xs avs H r H' tch ft) : StepX P o c xs avs H r H' tch ft :=
  ⟨h.grow, h.old, h.keep, fun ρ w a g h1 h2 h3 h4 h5 => h.does ρ w a g h1 h2 h3 (fun b hb hb' => h4 b hb (.inr hb')) h5⟩

def DoesX (P : Program) (o : Oper) (c : Bool) (xs : List Operand) (avs : List AV) (H : Hl) (Q : AV → Hl → List Nat → List Nat → Prop) : Prop :=
  ∃ r H' tch ft, Q r H' tch ft ∧ StepX P o c xs avs H r H' tch ft

theorem Does.x {P : Program} {o : Oper} {c : Bool} {xs : List Operand} {avs : List AV} {H : Hl} {Q : AV → Hl → List Nat → List Nat → Prop} (h : Does P o xs avs H Q) : DoesX P o c xs avs H Q :=
  let ⟨r, H', t, f, q, s⟩ := h; ⟨r, H', t, f, q, s.x⟩

/-- The word for calls is good. -/
def CallOK {R : Type} (P : Program) (holds : R → Prop) (cf : CallF R) : Prop :=
  ∀ f vals H k, holds (cf f vals H k) → ∃ r H' lg, CallTo P f vals H r H' lg ∧ holds (k r H' lg)

theorem Ext.born {m : Nat} {ρ ρ' : Rho} {w w' : World} (h : Ext m ρ w ρ' w') (hb : ∀ b, m ≤ b → ρ b = .unborn) (n : Nat) : Ext n ρ w ρ' w' :=
  ⟨h.size, h.os, h.tape, h.output, h.keep, fun b _ hn => h.slot b (by
    rcases Nat.lt_or_ge b m with h' | h'
    · exact h'
    · exact absurd (hb b h') hn) hn, h.fresh, h.rows⟩

/-- A call. -/
theorem call_step {P : Program} {o : Oper} {xs : List Operand} {avs vals : List AV} {H H' : Hl} {f : Nat} {r : AV} {lg : List Nat} (hc : CallTo P f vals H r H' lg)
    (he : ∀ (ρ : Rho) (w : World) (a : Act), VRels ρ w avs (xs.map a.eval) → ∃ us : List Value, VRels ρ w vals us ∧ (execOp a.eval o).run P w = (callFunc f us.toArray).run P w) :
    StepX P o true xs avs H r H' (under (size H) lg) (upto (size H)) where
  grow := hc.grow
  old b hb := by rw [mem_under, size_eq] at hb; exact hb.2
  keep b hb hn := by
    rw [mem_under, size_eq] at hn
    exact hc.keep b hb fun h => hn ⟨h, hb⟩
  does ρ w a g hx hf _ hn hg := by
    have e : g = fun b => H[b]? := by
      funext b
      rcases Nat.lt_or_ge b H.length with h | h
      · exact hf b (by rw [mem_upto, size_eq]; exact h)
      · rw [hn b h (.inl rfl), List.getElem?_eq_none h]
    subst e
    obtain ⟨us, hus, hrun⟩ := he ρ w a hx
    intro next Q hnext
    unfold Oper.wp
    rw [hrun, hc.real, Oper.upon_enter]
    refine Calls.mono (hc.does ρ w us hg hus) ?_
    rintro e w' ⟨v, ρ', rfl, h1, h2, h3⟩
    refine hnext v w' ⟨ρ', ?_, h2, h3.born (fun b hb => hg.unborn b (List.getElem?_eq_none hb))⟩
    have : upd (fun b => H[b]?) H' (under (size H) lg ++ news H.length H'.length) = fun b => H'[b]? := by
      funext b
      unfold upd
      split
      · rfl
      · rename_i hb
        rw [List.mem_append, mem_under, mem_news, size_eq] at hb
        rcases Nat.lt_or_ge b H.length with h | h
        · exact (hc.keep b h fun hl => hb (.inl ⟨hl, h⟩)).symm
        · have h2 : H'.length ≤ b := by
            rcases Nat.lt_or_ge b H'.length with h' | h'
            · exact absurd (.inr ⟨h, h'⟩) hb
            · exact h'
          show H[b]? = H'[b]?
          rw [List.getElem?_eq_none h, List.getElem?_eq_none h2]
    rw [this]
    exact h1

section
variable {R : Type} {A : Alg R} {holds : R → Prop} (good : A.Good holds) {P : Program} {o : Oper} {avs : List AV} {H : Hl} {cf : CallF R} {k : ExK R} (hcf : CallOK P holds cf)
include hcf

theorem s_call {f : Nat} {xs : Array Operand} {ts : Array TypeId} (ho : o.op = .call { callee := .value (.func f), args := xs, argTypes := ts })
    (h : holds (ex A ops0 cf H (.call f) avs k)) : DoesX P o true xs.toList avs H fun r H' t ft => holds (k r H' t ft) := by
  have h : holds (cf f avs H fun r H' lg => k r H' (under (size H) lg) (upto (size H))) := by
    rcases avs with _ | ⟨x, _⟩ <;> exact h
  obtain ⟨r, H', lg, hc, h⟩ := hcf _ _ _ _ h
  refine ⟨_, _, _, _, h, call_step hc fun ρ w a hx => ⟨xs.toList.map a.eval, hx, ?_⟩⟩
  have hfe : a.eval (.func f) = .func (.func f) #[] #[] := rfl
  unfold execOp
  rw [ho]
  simp only [resolve, hfe, Deferred.ofValue, Sem.run_bind, Sem.run_pure, Result.andThen_ok, invoke]
  congr 2
  simp only [Array.empty_append, Array.append_empty]
  rw [← Array.toList_map, Array.toArray_toList]

include good
theorem s_callv {x : Operand} {xs : Array Operand} {ts : Array TypeId} (ho : o.op = .call { callee := .value x, args := xs, argTypes := ts })
    (h : holds (ex A ops0 cf H .callv avs k)) : DoesX P o true (x :: xs.toList) avs H fun r H' t ft => holds (k r H' t ft) := by
  rcases avs with _ | ⟨xa, ys⟩
  · exact (good.fail h).elim
  cases xa with
  | fn f us vs =>
    have h : holds (cf f (join us (join ys vs)) H fun r H' lg => k r H' (under (size H) lg) (upto (size H))) := h
    obtain ⟨r, H', lg, hc, h⟩ := hcf _ _ _ _ h
    refine ⟨_, _, _, _, h, call_step hc fun ρ w a hx => ?_⟩
    have h1 := hx.head
    have h2 := hx.tail
    generalize hv : a.eval x = v at h1
    cases h1 with
    | fn _ _ _ us' vs' hl hl' hr hr' =>
      refine ⟨us' ++ (xs.toList.map a.eval ++ vs'), ?_, ?_⟩
      · rw [join_eq, join_eq]
        exact VRels.append ⟨hl, hr⟩ (VRels.append h2 ⟨hl', hr'⟩)
      · unfold execOp
        rw [ho]
        simp only [resolve, hv, Deferred.ofValue, Sem.run_bind, Sem.run_pure, Result.andThen_ok, invoke]
        congr 2
        simp
  | _ => exact (good.fail h).elim
end

end Go.Vm
