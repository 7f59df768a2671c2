/-
  A VERIFIED SYMBOLIC MACHINE, PART K: what is made: structs, arrays, slices; and slices of what there is.
-/
import Derived.Test.YtfmhlogapbpnbaaVmJ
namespace Go.Vm

/-! ### 'fill' -/

theorem foldl_set (vs : List Value) : ∀ (j off : Nat) (c : List Value), off + j + vs.length ≤ c.length →
    (vs.zipIdx j).foldl (fun (cs : Array Value) (p : Value × Nat) => cs.setIfInBounds (off + p.2) p.1) c.toArray = (spliceL c (off + j) vs).toArray := by
  induction vs with
  | nil => intro j off c h; simp [spliceL]
  | cons v vs ih =>
    intro j off c h
    simp only [List.length_cons] at h
    simp only [List.zipIdx_cons, List.foldl_cons, List.setIfInBounds_toArray]
    rw [ih (j + 1) off (c.set (off + j) v) (by simp; omega)]
    rw [show off + (j + 1) = off + j + 1 by omega, splice_cons (by omega)]

theorem lies_splice {ρ : Rho} {w : World} {z cs : List AV} {c vs : List Value} {off : Nat} (hz : c.length = z.length) (hl : cs.length = vs.length) (ho : off + cs.length ≤ z.length) (h : Lies ρ w z 0 c.toArray) (hc : Lies ρ w cs 0 vs.toArray) :
    Lies ρ w (spliceL z off cs) 0 (spliceL c off vs).toArray := by
  intro i a hi
  have g1 := splice_get z off cs ho i
  have g2 := splice_get c off vs (by omega) i
  rw [g1] at hi
  simp only [Nat.zero_add, List.getElem?_toArray]
  rw [g2]
  split at hi
  · rename_i h1
    rw [if_pos h1]
    obtain ⟨v, p, q, r⟩ := h i a hi
    exact ⟨v, by simpa using p, q, r⟩
  · rename_i h1
    rw [if_neg h1]
    split at hi
    · rename_i h2
      rw [if_pos (by omega)]
      obtain ⟨v, p, q, r⟩ := hc _ a hi
      exact ⟨v, by simpa using p, q, r⟩
    · rename_i h2
      rw [if_neg (by omega)]
      obtain ⟨v, p, q, r⟩ := h i a hi
      exact ⟨v, by simpa using p, q, r⟩

/-- The places of the parts. -/
def placesOf (f : Nat → Option (Nat × Nat)) : List Nat → Option (List (Nat × Nat))
  | [] => some []
  | j :: js => match f j, placesOf f js with
    | some p, some ps => some (p :: ps)
    | _, _ => none

section
variable {R : Type} {A : Alg R} {holds : R → Prop} (good : A.Good holds)
include good

theorem fillK_sound : ∀ {pl : List (Nat × Nat)} {xs z : List AV} {k : List AV → R}, holds (fillK A ops0 z pl xs k) →
    ∃ cs, holds (k cs) ∧ cs.length = z.length ∧ ∀ (ρ : Rho) (w : World) (vs c : List Value) (f : Nat → Option (Nat × Nat)) (js : List Nat), VRels ρ w xs vs → c.length = z.length → Lies ρ w z 0 c.toArray → placesOf f js = some pl →
      ∃ c' : List Value, Instr.fill f c.toArray (js.zip vs) = some c'.toArray ∧ c'.length = z.length ∧ Lies ρ w cs 0 c'.toArray := by
  intro pl
  induction pl with
  | nil =>
    intro xs z k h
    cases xs with
    | nil =>
      refine ⟨z, h, rfl, fun ρ w vs c f js hx hc hz hp => ?_⟩
      refine ⟨c, ?_, hc, hz⟩
      have : vs = [] := by have := hx.len; simpa using this
      subst this
      simp [Instr.fill]
    | cons => exact (good.fail h).elim
  | cons p pl ih =>
    intro xs z k h
    cases xs with
    | nil => exact (good.fail h).elim
    | cons x xs =>
      obtain ⟨off, n⟩ := p
      obtain ⟨cs, h, hcn, hcs⟩ := cells1K_sound good (show holds (cells1K A ops0 x n _) from h)
      obtain ⟨hle, h⟩ := good.chk _ _ h
      have hle : off + n ≤ z.length := by simpa [ops0] using hle
      obtain ⟨ds, h, hdl, hds⟩ := ih h
      have hspl : (ops0.spl z off cs).length = z.length := splice_length _ _ _ (by omega)
      refine ⟨ds, h, hdl.trans hspl, fun ρ w vs c f js hx hc hz hp => ?_⟩
      cases vs with
      | nil => have := hx.len; simp at this
      | cons v vs =>
        cases js with
        | nil => simp [placesOf] at hp
        | cons j js =>
          unfold placesOf at hp
          split at hp
          · rename_i q qs hq hqs
            cases hp
            obtain ⟨hsz, hli⟩ := hcs ρ w v hx.head
            have hvl : v.cells.toList.length = n := by simpa using hsz
            obtain ⟨c', h1, h2, h3⟩ := hds ρ w vs (spliceL c off v.cells.toList) f js hx.tail (by rw [hspl]; exact (splice_length _ _ _ (by omega)).trans hc)
              (lies_splice hc (by omega) (by omega) hz (by simpa using hli)) hqs
            refine ⟨c', ?_, h2.trans hspl, h3⟩
            simp only [List.zip_cons_cons, Instr.fill, hq]
            rw [if_neg (by simp [hsz]; omega)]
            have e := foldl_set v.cells.toList 0 off c (by omega)
            rw [Nat.add_zero] at e
            have e2 : v.cells.zipIdx.foldl (fun (cs : Array Value) (x : Value × Nat) => match x with | (c, j) => cs.setIfInBounds (off + j) c) c.toArray = (spliceL c off v.cells.toList).toArray := by
              rw [← e, ← Array.foldl_toList]
              simp
            rw [show v.cells.zipIdx.foldl _ c.toArray = (spliceL c off v.cells.toList).toArray from e2]
            exact h1
          · cases hp
end

section
variable {R : Type} {A : Alg R} {holds : R → Prop} (good : A.Good holds) {P : Program} {o : Oper} {avs : List AV} {H : Hl} {cf : CallF R} {k : ExK R}
include good

/-- A struct's parts. -/
def fieldPl (P : Program) (fs : Array Field) (j : Nat) : Option (Nat × Nat) :=
  match fs[j]? with
  | some f => match P.info? f.type with
    | some i => some (f.offset, i.size)
    | none => none
  | none => none

omit good in
theorem run_places {fs : List Field} (h : ∀ f ∈ fs, ∃ i, P.info? f.type = some i) (w : World) :
    (fs.mapM fun f => do pure (f.offset, ← sizeOf f.type) : Sem (List (Nat × Nat))).run P w = .ok (fs.map fun f => (f.offset, P.cellsOf f.type)) w := by
  induction fs with
  | nil => simp
  | cons f fs ih =>
    obtain ⟨i, hi⟩ := h f (by simp)
    simp only [List.mapM_cons, Sem.run_bind, run_size hi, Sem.run_pure, Result.andThen_ok, ih (fun g hg => h g (by simp [hg]))]
    simp [Program.cellsOf, hi]

theorem s_mkS {t : TypeId} {parts : Array (Nat × Operand)} {fs : Array Field} {i : TypeInfo} {z : Value} {zs : List AV} {pl : List (Nat × Nat)} (ho : o.op = .build t parts) (ht : P.underlying t = some (.struct fs))
    (hi : P.info? t = some i) (hz : i.zero = some z) (hs : toAVs z.cells.toList = some zs) (hall : ∀ f ∈ fs.toList, ∃ i, P.info? f.type = some i) (hp : placesOf (fieldPl P fs) (parts.toList.map (·.1)) = some pl)
    (h : holds (ex A ops0 cf H (.mk zs pl) avs k)) : Does P o (parts.toList.map (·.2)) avs H fun r H' t f => holds (k r H' t f) := by
  have h : holds (fillK A ops0 zs pl avs fun cs => k (.agg cs) H [] []) := h
  obtain ⟨cs, h, hcl, hcs⟩ := fillK_sound good h
  refine ⟨_, _, _, _, h, .quiet fun ρ w a g hx _ _ => ?_⟩
  have hzl : z.cells.toList.length = zs.length := (toAVs_rel hs).1.symm
  have hpl : ∀ js pl, placesOf (fieldPl P fs) js = some pl → placesOf (fun j => ((fs.toList.map fun f => (f.offset, P.cellsOf f.type)).toArray)[j]?) js = some pl := by
    intro js
    induction js with
    | nil => intro pl h; exact h
    | cons j js ih =>
      intro pl h
      unfold placesOf at h ⊢
      split at h
      · rename_i p ps hp hps
        rw [ih _ hps]
        unfold fieldPl at hp
        cases hf : fs[j]? with
        | none => simp [hf] at hp
        | some f =>
          simp only [hf] at hp
          cases hfi : P.info? f.type with
          | none => simp [hfi] at hp
          | some fi =>
            simp only [hfi] at hp
            have hft : fs.toList[j]? = some f := by simpa using hf
            cases hp
            cases h
            simp [hf, Program.cellsOf, hfi]
      · cases h
  obtain ⟨c', h1, h2, h3⟩ := hcs ρ w ((parts.toList.map (·.2)).map a.eval) z.cells.toList _ (parts.toList.map (·.1)) hx hzl (by have := toAVs_lies hs ρ w; exact this) (hpl _ _ hp)
  refine ⟨.agg c'.toArray, ?_, agg_of_lies (h2.trans hcl.symm) h3⟩
  have hparts : (parts.map fun (p : Nat × Operand) => (p.1, a.eval p.2)).toList = (parts.toList.map (·.1)).zip ((parts.toList.map (·.2)).map a.eval) := by
    rw [Array.toList_map]
    induction parts.toList with
    | nil => rfl
    | cons p l ih => simp [ih]
  have hm : (fs.mapM fun f => do pure (f.offset, ← sizeOf f.type) : Sem (Array (Nat × Nat))).run P w = .ok (fs.toList.map fun f => (f.offset, P.cellsOf f.type)).toArray w := by
    rw [Array.mapM_eq_mapM_toList]
    simp only [Sem.run_map, run_places hall w, Result.andThen_ok]
  simp only [execOp, ho, Instr.build, Sem.run_bind, run_zero hi hz, run_underlying ht, Result.andThen_ok, hm]
  have e : (parts.map fun x => (match x with | (i, x) => (i, a.eval x))).toList = (parts.toList.map (·.1)).zip ((parts.toList.map (·.2)).map a.eval) := hparts
  have ezz : z.cells = z.cells.toList.toArray := by simp
  rw [e, ezz, h1]
  simp

theorem s_mkA {t e : TypeId} {n : Nat} {parts : Array (Nat × Operand)} {i j : TypeInfo} {z : Value} {zs : List AV} {pl : List (Nat × Nat)} (ho : o.op = .build t parts) (ht : P.underlying t = some (.array n e))
    (hi : P.info? t = some i) (hz : i.zero = some z) (hs : toAVs z.cells.toList = some zs) (hj : P.info? e = some j) (hp : placesOf (fun i => some (i * j.size, j.size)) (parts.toList.map (·.1)) = some pl)
    (h : holds (ex A ops0 cf H (.mk zs pl) avs k)) : Does P o (parts.toList.map (·.2)) avs H fun r H' t f => holds (k r H' t f) := by
  have h : holds (fillK A ops0 zs pl avs fun cs => k (.agg cs) H [] []) := h
  obtain ⟨cs, h, hcl, hcs⟩ := fillK_sound good h
  refine ⟨_, _, _, _, h, .quiet fun ρ w a g hx _ _ => ?_⟩
  have hzl : z.cells.toList.length = zs.length := (toAVs_rel hs).1.symm
  obtain ⟨c', h1, h2, h3⟩ := hcs ρ w ((parts.toList.map (·.2)).map a.eval) z.cells.toList _ (parts.toList.map (·.1)) hx hzl (by have := toAVs_lies hs ρ w; exact this) hp
  refine ⟨.agg c'.toArray, ?_, agg_of_lies (h2.trans hcl.symm) h3⟩
  have e : (parts.map fun x => (match x with | (i, x) => (i, a.eval x))).toList = (parts.toList.map (·.1)).zip ((parts.toList.map (·.2)).map a.eval) := by
    rw [Array.toList_map]
    induction parts.toList with
    | nil => rfl
    | cons p l ih => simp [ih]
  simp only [execOp, ho, Instr.build, Sem.run_bind, run_zero hi hz, run_underlying ht, Result.andThen_ok, run_size hj]
  have ezz : z.cells = z.cells.toList.toArray := by simp
  rw [e, ezz, h1]
  simp
end

end Go.Vm
