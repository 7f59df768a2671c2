/-
  A VERIFIED SYMBOLIC MACHINE, PART En: from a contract to the statement's own form.
-/
import Derived.Test.YtfmhlogapbpnbaaVmFl
import Derived.Below
namespace Go.Vm
open Go.RowKit

def noRho : Rho := fun _ => .unborn

/-- A contract on an empty memory: nothing that was there turns. -/
theorem CallTo.enter {P : Program} {f : Nat} {vals : List AV} {r : AV} {H' : Hl} {lg : List Nat} (hc : CallTo P f vals [] r H' lg) {w : World} {us : List Value} (hv : VRels noRho w vals us) :
    Calls P f us.toArray w fun e w' => ∃ v ρ', e = .returned v ∧ VRel ρ' w' r v ∧ Below w.heap.size w w' := by
  have hg : HRel noRho w (fun b => ([] : Hl)[b]?) := ⟨fun _ _ => rfl, fun b h => (by simp at h), fun b b' B F F' h => (by cases h), fun b cs h => (by simp at h)⟩
  refine (hc.does noRho w us hg hv).mono ?_
  rintro e w' ⟨v, ρ', rfl, _, h2, h3⟩
  exact ⟨v, ρ', rfl, h2, h3.os, h3.tape, h3.output, h3.size, fun k hk => h3.keep k hk (fun b F h => by cases h)⟩

end Go.Vm
