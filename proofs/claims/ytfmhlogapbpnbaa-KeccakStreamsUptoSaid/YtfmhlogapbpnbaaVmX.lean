/-
  A VERIFIED SYMBOLIC MACHINE, PART X: what a run comes to, written out; 64-bit words left unreckoned.
-/
import Derived.Test.YtfmhlogapbpnbaaVmW
namespace Go.Vm
noncomputable section

abbrev Out := AV × Hl × List Nat
def optA (C : Con) : Alg (Option Out) := stdA (Option Out) none (conF none C)
def outK : AV → Hl → List Nat → Option Out := fun r H lg => some (r, H, lg)

/-- A call, reckoned. -/
theorem call_opt {P : Program} {C : Con} (hC : ConOK P C) {T : Nat → Option VF} (hT : ∀ f vf, T f = some vf → FnOK P f vf) {f n : Nat} {vf : VF} (hf : T f = some vf) {vals : List AV} {H H' : Hl} {r : AV} {lg : List Nat}
    (h : vcall (optA C) ops0 T n vf vals H outK = some (r, H', lg)) : CallTo P f vals H r H' lg := by
  have hfine : (optA C).Fine P (fun x => x = some (r, H', lg)) := stdA_fine (by simp) (conF_ok (by simp) hC)
  obtain ⟨r1, H1, lg1, hc, e⟩ := vcall_sound hfine hT (hT f vf hf) (holds := fun x => x = some (r, H', lg)) h
  cases e
  exact hc

/-- 64-bit words: by what is handed in. -/
def opsW (β σ : BinOp → Int → Int → Int) : Ops := { ops0 with
  bin := fun op k x y => match k with
    | .u64 => β op x y
    | k => bin0 op k x y
  shf := fun op k x y => match k with
    | .u64 => σ op x y
    | k => shf0 op k x y }

theorem opsW_eq : opsW (fun op => bin0 op .u64) (fun op => shf0 op .u64) = ops0 := by
  have h1 : (opsW (fun op => bin0 op .u64) (fun op => shf0 op .u64)).bin = ops0.bin := by
    funext op k x y
    cases k <;> rfl
  have h2 : (opsW (fun op => bin0 op .u64) (fun op => shf0 op .u64)).shf = ops0.shf := by
    funext op k x y
    cases k <;> rfl
  show { ops0 with bin := (opsW (fun op => bin0 op .u64) (fun op => shf0 op .u64)).bin, shf := (opsW (fun op => bin0 op .u64) (fun op => shf0 op .u64)).shf } = ops0
  rw [h1, h2]

end
end Go.Vm
