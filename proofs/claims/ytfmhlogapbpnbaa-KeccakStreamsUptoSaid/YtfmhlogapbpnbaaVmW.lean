/-
  A VERIFIED SYMBOLIC MACHINE, PART W: what its runs can come to; a table of functions.
-/
import Derived.Test.YtfmhlogapbpnbaaVmV
namespace Go.Vm
noncomputable section

def toInts (kd : IntKind) : List AV → Option (List Int)
  | [] => some []
  | .int k n :: cs => match sameK k kd, toInts kd cs with
    | true, some l => some (n :: l)
    | _, _ => none
  | _ => none

def toByts : List AV → Option (List UInt8)
  | [] => some []
  | .int .u8 (.ofNat m) :: cs => match Nat.blt m 256, toByts cs with
    | true, some l => some (UInt8.ofNat m :: l)
    | _, _ => none
  | _ => none

theorem toInts_ok {kd : IntKind} : ∀ {cs : List AV} {l : List Int}, toInts kd cs = some l → cs = l.map (AV.int kd)
  | [], l, h => by cases h; rfl
  | c :: cs, l, h => by
    cases c with
    | int k n =>
      simp only [toInts] at h
      split at h <;> first | cases h | skip
      rename_i h1 h2
      rw [sameK_eq h1, toInts_ok h2]
      rfl
    | _ => cases h

theorem toByts_ok : ∀ {cs : List AV} {l : List UInt8}, toByts cs = some l → cs = l.map (fun b => AV.int .u8 b.toNat)
  | [], l, h => by cases h; rfl
  | c :: cs, l, h => by
    cases c with
    | int k n =>
      cases k with
      | u8 =>
        cases n with
        | ofNat m =>
          simp only [toByts] at h
          split at h <;> first | cases h | skip
          rename_i h1 h2
          have h1 := (blt_iff _ _).1 h1
          rw [toByts_ok h2]
          simp only [List.map_cons]
          congr 2
          have : (UInt8.ofNat m).toNat = m := by simp [UInt8.toNat_ofNat']; omega
          rw [this]
          rfl
        | negSucc m => cases h
      | _ => cases h
    | _ => cases h

/-- Reckoning on, as far as it goes. -/
def stdA (R : Type) (ff : R) (call : CallF R) : Alg R where
  fail := ff
  chk b r := match b with
    | true => r
    | false => ff
  br b r s := match b with
    | true => r
    | false => s
  get _ cs i k := match nth cs i with
    | some v => k v
    | none => ff
  flo o k := match o with
    | some r => k r
    | none => ff
  ints kd cs k := match toInts kd cs with
    | some l => k l
    | none => ff
  byts cs k := match toByts cs with
    | some l => k l
    | none => ff
  call := call
  loop _ _ _ _ _ _ u := u ()

theorem stdA_fine {R : Type} {ff : R} {call : CallF R} {P : Program} {holds : R → Prop} (h0 : ¬ holds ff) (hc : CallOK P holds call) : (stdA R ff call).Fine P holds where
  fail := h0
  chk b r h := by
    cases b with
    | true => exact ⟨rfl, h⟩
    | false => exact absurd h h0
  br b r s h := by
    cases b with
    | true => exact .inl ⟨rfl, h⟩
    | false => exact .inr ⟨rfl, h⟩
  get kd cs i k h := by
    have h : holds (match nth cs i with
      | some v => k v
      | none => ff) := h
    rw [nth_eq] at h
    split at h
    · rename_i v e; exact ⟨v, e, h⟩
    · exact absurd h h0
  flo o k h := by
    cases o with
    | some r => exact ⟨r, rfl, h⟩
    | none => exact absurd h h0
  ints kd cs k h := by
    have h : holds (match toInts kd cs with
      | some l => k l
      | none => ff) := h
    split at h
    · rename_i l e; exact ⟨l, toInts_ok e, h⟩
    · exact absurd h h0
  byts cs k h := by
    have h : holds (match toByts cs with
      | some l => k l
      | none => ff) := h
    split at h
    · rename_i l e; exact ⟨l, toByts_ok e, h⟩
    · exact absurd h h0
  call := hc
  loop n0 b fr H lg k u _ h := .inl h

/-- Contracts: what calls come to. -/
abbrev Con := Nat → List AV → Hl → Option (AV × Hl × List Nat)
def ConOK (P : Program) (C : Con) : Prop := ∀ f vals H r H' lg, C f vals H = some (r, H', lg) → CallTo P f vals H r H' lg
def conF {R : Type} (ff : R) (C : Con) : CallF R := fun f vals H k => match C f vals H with
  | some (r, H', lg) => k r H' lg
  | none => ff
theorem conF_ok {R : Type} {ff : R} {P : Program} {holds : R → Prop} (h0 : ¬ holds ff) {C : Con} (hC : ConOK P C) : CallOK P holds (conF ff C) := by
  intro f vals H k h
  unfold conF at h
  split at h
  · rename_i r H' lg e; exact ⟨r, H', lg, hC _ _ _ _ _ _ e, h⟩
  · exact absurd h h0

def noCon : Con := fun _ _ _ => none
theorem noCon_ok (P : Program) : ConOK P noCon := fun _ _ _ _ _ _ h => by cases h

/-- Yes or no. -/
def boolA (C : Con) : Alg Bool := stdA Bool false (conF false C)
theorem boolA_fine {P : Program} {C : Con} (hC : ConOK P C) : (boolA C).Fine P (fun b => b = true) := stdA_fine (by simp) (conF_ok (by simp) hC)

/-- Statements. -/
def propA (C : Con) : Alg Prop := stdA Prop False (conF False C)
theorem propA_fine {P : Program} {C : Con} (hC : ConOK P C) : (propA C).Fine P (fun p => p) := stdA_fine (fun h => h) (conF_ok (fun h => h) hC)

/-! ### Functions -/

def vfOf (P : Program) (fn : Func) : Option VF :=
  match fn.body, resOf P fn.results.toList with
  | some c, some rv => some ⟨fn.ntmps, rv, compile P c⟩
  | _, _ => none

theorem FnOK.of {P : Program} {f : Nat} {fn : Func} {vf : VF} (h1 : P.funcs[f]? = some fn) (h2 : (fn.name == "runtime.NumGoroutine") = false) (h3 : vfOf P fn = some vf) : FnOK P f vf := by
  unfold vfOf at h3
  split at h3
  · rename_i c rv hb hr
    cases h3
    exact ⟨fn, c, h1, hb, h2, rfl, rfl, hr⟩
  · cases h3

abbrev Tab := List (Option VF)
def tabF (t : Tab) (f : Nat) : Option VF := match nth t f with
  | some v => v
  | none => none

/-- A call, reckoned: it comes to what it comes to. -/
theorem call_bool {P : Program} {C : Con} (hC : ConOK P C) {T : Nat → Option VF} (hT : ∀ f vf, T f = some vf → FnOK P f vf) {f n : Nat} {vf : VF} (hf : T f = some vf) {vals : List AV} {H : Hl} {k : AV → Hl → List Nat → Bool}
    (h : vcall (boolA C) ops0 T n vf vals H k = true) : ∃ r H' lg, CallTo P f vals H r H' lg ∧ k r H' lg = true :=
  vcall_sound (boolA_fine hC) hT (hT f vf hf) (holds := fun b => b = true) h
theorem call_prop {P : Program} {C : Con} (hC : ConOK P C) {T : Nat → Option VF} (hT : ∀ f vf, T f = some vf → FnOK P f vf) {f n : Nat} {vf : VF} (hf : T f = some vf) {vals : List AV} {H : Hl} {k : AV → Hl → List Nat → Prop}
    (h : vcall (propA C) ops0 T n vf vals H k) : ∃ r H' lg, CallTo P f vals H r H' lg ∧ k r H' lg :=
  vcall_sound (propA_fine hC) hT (hT f vf hf) (holds := fun p => p) h

end
end Go.Vm
