/-
  FROM A CONTRACT TO A LAW'S STATEMENT: what is the same for all laws.
-/
import Derived.Test.YtfmhlogapbpnbaaVmEn
import Derived.Test.YtfmhlogapbpnbaaRows
import Derived.ProofKit
import Derived.OpenShut
import Derived.JoinedCond

namespace Go.Proofs.Vm
open Go.Vm Go.ChangeShapes Go.WideShapes Go.ChangeAt Go.RowKit

theorem Try.own : ownKnob Try.prog.godebug = none := by kernel_rfl
theorem Try.laidOut : laidOutB Try.prog = true := by kernel_rfl

theorem trodAll_below {H : Type} {enc : TypeId × Value → H} {P : Program} (hl : laidOutB P = true) {W W' : World} (hb : Below W.heap.size W W') : ∀ {ts : List TypeId} {vs : List Value} {ds : List (DataW H)} {ps : List MemPlace},
    (∀ t ∈ ts, P.readableRec t = true ∧ t < P.types.size) → DataW.TrodAll enc P W 0 (fun _ => true) true ts vs ds ps → (∀ x ∈ ps, x.block < W.heap.size) → DataW.TrodAll enc P W' 0 (fun b => decide (b < W.heap.size)) true ts vs ds ps
  | [], vs, ds, ps, _, h, _ => by
    obtain ⟨rfl, rfl, rfl⟩ := trodAll_nil h
    exact trodAll_mk0
  | t :: ts, vs, ds, ps, ht, h, hlt => by
    obtain ⟨v, vs1, d, ds1, a, b, rfl, rfl, rfl, h1, h2⟩ := trodAll_cons h
    refine trodAll_cons_mk (Below.trod hl (ht t (by simp)).1 (ht t (by simp)).2 h1 hb (fun x hx => hlt x (by simp [hx]))) (trodAll_below hl hb (fun t h => ht t (by simp [h])) h2 (fun x hx => hlt x (by simp [hx])))

/-- THE LAW's STEP: the call returns true, and below the heap's old size nothing has turned. -/
theorem law_step {H : Type} {enc : TypeId × Value → H} {f : Func} {s : ChangeSpec} {n : Nat} {W : World} {args : Array Value} {ds gs : List (DataW H)} {before : List MemPlace} (hres : f.resultTypes.toList = [4])
    (hts : ∀ t ∈ f.params.toList, Try.prog.readableRec t = true ∧ t < Try.prog.types.size) (hvars : s.vars = []) (hW : DataW.Whole enc Try.prog f.params.toList s.vars false W args.toList ds gs before)
    (hfn : s.fn H (ds ++ []) = { results := [.lit (.bool true)], args := ds }) (hcall : Calls Try.prog n args W fun e W' => e = .returned (.bool true) ∧ Below W.heap.size W W') :
    Calls Try.prog n args W fun e W' => ∃ v, e = .returned v ∧ s.post enc Try.prog f false true false false W args v W' := by
  have hW' := hW
  obtain ⟨p, q, hA, hV, rfl, hfz, hnd⟩ := hW
  rw [hvars] at hV
  obtain ⟨rfl, rfl⟩ := trodVars_none hV
  have hlt : ∀ x ∈ p, x.block < W.heap.size := fun x hx => by
    have := hW'.lt x (by simp [hx])
    simpa using this
  refine hcall.mono fun e W' ⟨he, hb⟩ => ?_
  subst he
  have h2 : f.resultTypes.size = 1 := by rw [← Array.length_toList, hres]; rfl
  refine ⟨_, rfl, ds, [], p ++ [], [], p, [], hW', ?_, ?_, ?_, hb.frame _, fun h => by cases h⟩
  · rw [hfn, hres, h2]
    exact trodAll_cons_mk (shut_bool Try.underlying4 _) trodAll_mk0
  · rw [hfn]
    exact trodAll_below Try.laidOut hb hts hA hlt
  · rw [hfn, hvars]
    exact rfl

theorem enter_law {n : Nat} {vals : List AV} {H' : Hl} {lg : List Nat} (hc : CallTo Try.prog n vals [] (.bool true) H' lg) {w : World} {us : List Value} (hv : VRels noRho w vals us) :
    Calls Try.prog n us.toArray w fun e w' => e = .returned (.bool true) ∧ Below w.heap.size w w' :=
  (hc.enter hv).mono fun e w' ⟨v, ρ', he, h2, h3⟩ => by
    have := inv_bool h2
    subst this
    exact ⟨he, h3⟩

end Go.Proofs.Vm

namespace Go.Proofs.Vm

def headL : List Char := [.ofNat 104, .ofNat 97, .ofNat 114, .ofNat 110, .ofNat 101, .ofNat 115, .ofNat 115, .ofNat 32, .ofNat 100, .ofNat 54, .ofNat 52, .ofNat 53, .ofNat 48, .ofNat 50, .ofNat 49, .ofNat 51, .ofNat 48, .ofNat 98, .ofNat 53, .ofNat 98, .ofNat 101, .ofNat 48, .ofNat 48, .ofNat 99, .ofNat 98, .ofNat 48, .ofNat 100, .ofNat 97, .ofNat 57, .ofNat 49, .ofNat 98, .ofNat 102, .ofNat 56, .ofNat 55, .ofNat 97, .ofNat 52, .ofNat 102, .ofNat 48, .ofNat 102, .ofNat 100, .ofNat 51, .ofNat 99, .ofNat 56, .ofNat 102, .ofNat 49, .ofNat 52, .ofNat 102, .ofNat 101, .ofNat 98, .ofNat 50, .ofNat 53, .ofNat 53, .ofNat 99, .ofNat 97, .ofNat 51, .ofNat 57, .ofNat 55, .ofNat 54, .ofNat 57, .ofNat 54, .ofNat 50, .ofNat 55, .ofNat 51, .ofNat 50, .ofNat 102, .ofNat 100, .ofNat 99, .ofNat 56, .ofNat 54, .ofNat 56, .ofNat 100, .ofNat 97, .ofNat 32, .ofNat 99, .ofNat 117, .ofNat 116, .ofNat 32, .ofNat 97, .ofNat 116, .ofNat 32, .ofNat 116, .ofNat 111, .ofNat 108, .ofNat 108, .ofNat 104, .ofNat 111, .ofNat 117, .ofNat 115, .ofNat 101, .ofNat 47, .ofNat 116, .ofNat 111, .ofNat 108, .ofNat 108, .ofNat 104, .ofNat 111, .ofNat 117, .ofNat 115, .ofNat 101, .ofNat 108, .ofNat 97, .ofNat 119, .ofNat 48, .ofNat 51, .ofNat 46, .ofNat 75, .ofNat 101, .ofNat 99, .ofNat 99, .ofNat 97, .ofNat 107, .ofNat 83, .ofNat 117, .ofNat 109, .ofNat 115, .ofNat 32, .ofNat 116, .ofNat 111, .ofNat 108, .ofNat 108, .ofNat 104, .ofNat 111, .ofNat 117, .ofNat 115, .ofNat 101, .ofNat 47, .ofNat 116, .ofNat 111, .ofNat 108, .ofNat 108, .ofNat 104, .ofNat 111, .ofNat 117, .ofNat 115, .ofNat 101, .ofNat 108, .ofNat 97, .ofNat 119, .ofNat 48, .ofNat 51, .ofNat 46, .ofNat 75, .ofNat 101, .ofNat 99, .ofNat 99, .ofNat 97, .ofNat 107, .ofNat 83, .ofNat 116, .ofNat 114, .ofNat 101, .ofNat 97, .ofNat 109, .ofNat 115, .ofNat 32, .ofNat 116, .ofNat 111, .ofNat 108, .ofNat 108, .ofNat 104, .ofNat 111, .ofNat 117, .ofNat 115, .ofNat 101, .ofNat 47, .ofNat 116, .ofNat 111, .ofNat 108, .ofNat 108, .ofNat 104, .ofNat 111, .ofNat 117, .ofNat 115, .ofNat 101, .ofNat 108, .ofNat 97, .ofNat 119, .ofNat 48, .ofNat 51, .ofNat 46, .ofNat 75, .ofNat 101, .ofNat 99, .ofNat 99, .ofNat 97, .ofNat 107, .ofNat 76, .ofNat 101, .ofNat 110, .ofNat 103, .ofNat 116, .ofNat 104, .ofNat 115, .ofNat 32, .ofNat 116, .ofNat 111, .ofNat 108, .ofNat 108, .ofNat 104, .ofNat 111, .ofNat 117, .ofNat 115, .ofNat 101, .ofNat 47, .ofNat 116, .ofNat 111, .ofNat 108, .ofNat 108, .ofNat 104, .ofNat 111, .ofNat 117, .ofNat 115, .ofNat 101, .ofNat 108, .ofNat 97, .ofNat 119, .ofNat 48, .ofNat 51, .ofNat 46, .ofNat 75, .ofNat 101, .ofNat 99, .ofNat 99, .ofNat 97, .ofNat 107, .ofNat 80, .ofNat 105, .ofNat 101, .ofNat 99, .ofNat 101, .ofNat 115, .ofNat 32, .ofNat 116, .ofNat 111, .ofNat 108, .ofNat 108, .ofNat 104, .ofNat 111, .ofNat 117, .ofNat 115, .ofNat 101, .ofNat 47, .ofNat 116, .ofNat 111, .ofNat 108, .ofNat 108, .ofNat 104, .ofNat 111, .ofNat 117, .ofNat 115, .ofNat 101, .ofNat 108, .ofNat 97, .ofNat 119, .ofNat 48, .ofNat 51, .ofNat 46, .ofNat 75, .ofNat 101, .ofNat 99, .ofNat 99, .ofNat 97, .ofNat 107, .ofNat 80, .ofNat 97, .ofNat 114, .ofNat 116, .ofNat 115, .ofNat 32, .ofNat 116, .ofNat 111, .ofNat 108, .ofNat 108, .ofNat 104, .ofNat 111, .ofNat 117, .ofNat 115, .ofNat 101, .ofNat 47, .ofNat 116, .ofNat 111, .ofNat 108, .ofNat 108, .ofNat 104, .ofNat 111, .ofNat 117, .ofNat 115, .ofNat 101, .ofNat 108, .ofNat 97, .ofNat 119, .ofNat 48, .ofNat 51, .ofNat 46, .ofNat 75, .ofNat 101, .ofNat 99, .ofNat 99, .ofNat 97, .ofNat 107, .ofNat 82, .ofNat 111, .ofNat 117, .ofNat 110, .ofNat 100, .ofNat 115, .ofNat 32, .ofNat 116, .ofNat 111, .ofNat 108, .ofNat 108, .ofNat 104, .ofNat 111, .ofNat 117, .ofNat 115, .ofNat 101, .ofNat 47, .ofNat 116, .ofNat 111, .ofNat 108, .ofNat 108, .ofNat 104, .ofNat 111, .ofNat 117, .ofNat 115, .ofNat 101, .ofNat 108, .ofNat 97, .ofNat 119, .ofNat 48, .ofNat 51, .ofNat 46, .ofNat 75, .ofNat 101, .ofNat 99, .ofNat 99, .ofNat 97, .ofNat 107, .ofNat 84, .ofNat 117, .ofNat 114, .ofNat 110, .ofNat 115, .ofNat 32, .ofNat 116, .ofNat 111, .ofNat 108, .ofNat 108, .ofNat 104, .ofNat 111, .ofNat 117, .ofNat 115, .ofNat 101, .ofNat 47, .ofNat 116, .ofNat 111, .ofNat 108, .ofNat 108, .ofNat 104, .ofNat 111, .ofNat 117, .ofNat 115, .ofNat 101, .ofNat 108, .ofNat 97, .ofNat 119, .ofNat 48, .ofNat 52, .ofNat 46, .ofNat 77, .ofNat 97, .ofNat 99, .ofNat 77, .ofNat 97, .ofNat 115, .ofNat 107, .ofNat 115, .ofNat 32, .ofNat 116, .ofNat 111, .ofNat 108, .ofNat 108, .ofNat 104, .ofNat 111, .ofNat 117, .ofNat 115, .ofNat 101, .ofNat 47, .ofNat 116, .ofNat 111, .ofNat 108, .ofNat 108, .ofNat 104, .ofNat 111, .ofNat 117, .ofNat 115, .ofNat 101, .ofNat 108, .ofNat 97, .ofNat 119, .ofNat 48, .ofNat 52, .ofNat 46, .ofNat 77, .ofNat 97, .ofNat 99, .ofNat 80, .ofNat 97, .ofNat 114, .ofNat 116, .ofNat 115, .ofNat 32, .ofNat 116, .ofNat 111, .ofNat 108, .ofNat 108, .ofNat 104, .ofNat 111, .ofNat 117, .ofNat 115, .ofNat 101, .ofNat 47, .ofNat 116, .ofNat 111, .ofNat 108, .ofNat 108, .ofNat 104, .ofNat 111, .ofNat 117, .ofNat 115, .ofNat 101, .ofNat 108, .ofNat 97, .ofNat 119, .ofNat 48, .ofNat 52, .ofNat 46, .ofNat 77, .ofNat 97, .ofNat 99, .ofNat 77, .ofNat 97, .ofNat 115, .ofNat 107, .ofNat 69, .ofNat 97, .ofNat 99, .ofNat 104, .ofNat 32, .ofNat 116, .ofNat 111, .ofNat 108, .ofNat 108, .ofNat 104, .ofNat 111, .ofNat 117, .ofNat 115, .ofNat 101, .ofNat 47, .ofNat 116, .ofNat 111, .ofNat 108, .ofNat 108, .ofNat 104, .ofNat 111, .ofNat 117, .ofNat 115, .ofNat 101, .ofNat 108, .ofNat 97, .ofNat 119, .ofNat 48, .ofNat 52, .ofNat 46, .ofNat 77, .ofNat 97, .ofNat 99, .ofNat 84, .ofNat 97, .ofNat 103, .ofNat 115, .ofNat 32, .ofNat 116, .ofNat 111, .ofNat 108, .ofNat 108, .ofNat 104, .ofNat 111, .ofNat 117, .ofNat 115, .ofNat 101, .ofNat 47, .ofNat 116, .ofNat 111, .ofNat 108, .ofNat 108, .ofNat 104, .ofNat 111, .ofNat 117, .ofNat 115, .ofNat 101, .ofNat 108, .ofNat 97, .ofNat 119, .ofNat 48, .ofNat 52, .ofNat 46, .ofNat 77, .ofNat 97, .ofNat 99, .ofNat 69, .ofNat 113, .ofNat 117, .ofNat 97, .ofNat 108, .ofNat 32, .ofNat 116, .ofNat 111, .ofNat 108, .ofNat 108, .ofNat 104, .ofNat 111, .ofNat 117, .ofNat 115, .ofNat 101, .ofNat 47, .ofNat 116, .ofNat 111, .ofNat 108, .ofNat 108, .ofNat 104, .ofNat 111, .ofNat 117, .ofNat 115, .ofNat 101, .ofNat 108, .ofNat 97, .ofNat 119, .ofNat 48, .ofNat 52, .ofNat 46, .ofNat 77, .ofNat 97, .ofNat 99, .ofNat 66, .ofNat 121, .ofNat 116, .ofNat 101, .ofNat 115, .ofNat 32, .ofNat 116, .ofNat 111, .ofNat 108, .ofNat 108, .ofNat 104, .ofNat 111, .ofNat 117, .ofNat 115, .ofNat 101, .ofNat 47, .ofNat 116, .ofNat 111, .ofNat 108, .ofNat 108, .ofNat 104, .ofNat 111, .ofNat 117, .ofNat 115, .ofNat 101, .ofNat 108, .ofNat 97, .ofNat 119, .ofNat 48, .ofNat 56, .ofNat 46, .ofNat 83, .ofNat 104, .ofNat 97, .ofNat 114, .ofNat 101, .ofNat 83, .ofNat 112, .ofNat 108, .ofNat 105, .ofNat 116, .ofNat 115, .ofNat 32, .ofNat 116, .ofNat 111, .ofNat 108, .ofNat 108, .ofNat 104, .ofNat 111, .ofNat 117, .ofNat 115, .ofNat 101, .ofNat 47, .ofNat 116, .ofNat 111, .ofNat 108, .ofNat 108, .ofNat 104, .ofNat 111, .ofNat 117, .ofNat 115, .ofNat 101, .ofNat 108, .ofNat 97, .ofNat 119, .ofNat 48, .ofNat 56, .ofNat 46, .ofNat 83, .ofNat 104, .ofNat 97, .ofNat 114, .ofNat 101, .ofNat 76, .ofNat 97, .ofNat 119, .ofNat 115, .ofNat 32, .ofNat 116, .ofNat 111, .ofNat 108, .ofNat 108, .ofNat 104, .ofNat 111, .ofNat 117, .ofNat 115, .ofNat 101, .ofNat 47, .ofNat 116, .ofNat 111, .ofNat 108, .ofNat 108, .ofNat 104, .ofNat 111, .ofNat 117, .ofNat 115, .ofNat 101, .ofNat 108, .ofNat 97, .ofNat 119, .ofNat 48, .ofNat 56, .ofNat 46, .ofNat 83, .ofNat 104, .ofNat 97, .ofNat 114, .ofNat 101, .ofNat 80, .ofNat 97, .ofNat 114, .ofNat 116, .ofNat 115, .ofNat 32, .ofNat 116, .ofNat 111, .ofNat 108, .ofNat 108, .ofNat 104, .ofNat 111, .ofNat 117, .ofNat 115, .ofNat 101, .ofNat 47, .ofNat 116, .ofNat 111, .ofNat 108, .ofNat 108, .ofNat 104, .ofNat 111, .ofNat 117, .ofNat 115, .ofNat 101, .ofNat 108, .ofNat 97, .ofNat 119, .ofNat 48, .ofNat 56, .ofNat 46, .ofNat 83, .ofNat 104, .ofNat 97, .ofNat 114, .ofNat 101, .ofNat 83, .ofNat 101, .ofNat 116, .ofNat 115, .ofNat 32, .ofNat 116, .ofNat 111, .ofNat 108, .ofNat 108, .ofNat 104, .ofNat 111, .ofNat 117, .ofNat 115, .ofNat 101, .ofNat 47, .ofNat 116, .ofNat 111, .ofNat 108, .ofNat 108, .ofNat 104, .ofNat 111, .ofNat 117, .ofNat 115, .ofNat 101, .ofNat 108, .ofNat 97, .ofNat 119, .ofNat 48, .ofNat 55, .ofNat 46, .ofNat 79, .ofNat 110, .ofNat 105, .ofNat 111, .ofNat 110, .ofNat 66, .ofNat 117, .ofNat 105, .ofNat 108, .ofNat 100, .ofNat 115, .ofNat 32, .ofNat 116, .ofNat 111, .ofNat 108, .ofNat 108, .ofNat 104, .ofNat 111, .ofNat 117, .ofNat 115, .ofNat 101, .ofNat 47, .ofNat 116, .ofNat 111, .ofNat 108, .ofNat 108, .ofNat 104, .ofNat 111, .ofNat 117, .ofNat 115, .ofNat 101, .ofNat 108, .ofNat 97, .ofNat 119, .ofNat 48, .ofNat 55, .ofNat 46, .ofNat 79, .ofNat 110, .ofNat 105, .ofNat 111, .ofNat 110, .ofNat 84, .ofNat 117, .ofNat 114, .ofNat 110, .ofNat 101, .ofNat 100, .ofNat 32, .ofNat 116, .ofNat 111, .ofNat 108, .ofNat 108, .ofNat 104, .ofNat 111, .ofNat 117, .ofNat 115, .ofNat 101, .ofNat 47, .ofNat 116, .ofNat 111, .ofNat 108, .ofNat 108, .ofNat 104, .ofNat 111, .ofNat 117, .ofNat 115, .ofNat 101, .ofNat 108, .ofNat 97, .ofNat 119, .ofNat 48, .ofNat 55, .ofNat 46, .ofNat 79, .ofNat 110, .ofNat 105, .ofNat 111, .ofNat 110, .ofNat 83, .ofNat 105, .ofNat 122, .ofNat 101, .ofNat 115, .ofNat 32, .ofNat 116, .ofNat 111, .ofNat 108, .ofNat 108, .ofNat 104, .ofNat 111, .ofNat 117, .ofNat 115, .ofNat 101, .ofNat 47, .ofNat 116, .ofNat 111, .ofNat 108, .ofNat 108, .ofNat 104, .ofNat 111, .ofNat 117, .ofNat 115, .ofNat 101, .ofNat 108, .ofNat 97, .ofNat 119, .ofNat 48, .ofNat 55, .ofNat 46, .ofNat 79, .ofNat 110, .ofNat 105, .ofNat 111, .ofNat 110, .ofNat 87, .ofNat 97, .ofNat 121, .ofNat 115]
theorem head_lit : Try.prog.initOrder = String.ofList headL := by kernel_rfl
theorem head_list : Try.prog.initOrder.toList = headL := by rw [head_lit]; exact String.toList_ofList
theorem head_behind : ∃ rest, behindMainWord (wordsSigns Try.prog.initOrder.toList) = "cut".toList :: rest :=
  ⟨(behindMainWord (wordsSigns headL)).tail, by rw [head_list]; kernel_rfl⟩
theorem strip_cut (rest : List (List Char)) : stripLifts liftWords ("cut".toList :: rest) = ([], "cut".toList :: rest) := by kernel_rfl
theorem make_of {P : Program} {rest : List (List Char)} (h : behindMainWord (wordsSigns P.initOrder.toList) = "cut".toList :: rest) : P.make = some .cut := by
  unfold Program.make
  rw [h]
  have e1 : ("cut".toList == "gc".toList || "cut".toList == "spec".toList) = false := by kernel_rfl
  have e2 : ("cut".toList == "cut".toList) = true := by kernel_rfl
  simp only [e1, e2, Bool.true_or, if_true]
  rfl
theorem mayEnter_of {P : Program} {rest : List (List Char)} (h : behindMainWord (wordsSigns P.initOrder.toList) = "cut".toList :: rest) (h1 : P.laysLater = false) (h2 : P.bearsReflect = false) (h3 : P.doorFits [] = true) : P.mayEnter = true := by
  unfold Program.mayEnter
  rw [h]
  simp only [strip_cut, h1, h2, h3]
  have e2 : (List.head? ("cut".toList :: rest) == some "cut".toList) = true := by kernel_rfl
  simp only [e2]
  simp
theorem liftsFinal_of {P : Program} {rest : List (List Char)} (h : behindMainWord (wordsSigns P.initOrder.toList) = "cut".toList :: rest) : P.liftsFinal = false := by
  unfold Program.liftsFinal Program.headLifts
  rw [h]
  simp only [strip_cut]
  have e2 : (List.head? ("cut".toList :: rest) == some "cut".toList) = true := by kernel_rfl
  have e3 : (List.head? ("cut".toList :: rest) == some "carried".toList) = false := by kernel_rfl
  simp only [e2, e3]
  simp
theorem f_laysLater : Try.prog.laysLater = false := by kernel_rfl
theorem f_bearsReflect : Try.prog.bearsReflect = false := by kernel_rfl
theorem f_doorFits : Try.prog.doorFits [] = true := by kernel_rfl
theorem f_mayEnter : Try.prog.mayEnter = true := head_behind.elim fun _ h => mayEnter_of h f_laysLater f_bearsReflect f_doorFits
theorem f_liftsFinal : Try.prog.liftsFinal = false := head_behind.elim fun _ h => liftsFinal_of h
theorem f_make : Try.prog.make = some .cut := head_behind.elim fun _ h => make_of h
theorem lifted_of {P : Program} {b : Bool} (h : P.liftsFinal = false) (hb : b = false) : (b == P.liftsFinal) = true := by rw [h, hb]; rfl
theorem made_of {P : Program} {m : Make} (h : P.make = some .cut) (hm : m = .cut) : (P.make == some m) = true := by rw [h, hm]; rfl
theorem f_laid : laidOutB Try.prog = true := by kernel_rfl
theorem f_rowed : mapsRowed Try.prog = true := by kernel_rfl
theorem f_plain : Try.prog.plainKeys = true := by kernel_rfl

end Go.Proofs.Vm
