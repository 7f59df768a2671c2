/-
  A VERIFIED SYMBOLIC MACHINE, PART L: slices that are made, and slices of what there is.
-/
import Derived.Test.YtfmhlogapbpnbaaVmK
namespace Go.Vm

theorem push_ext {ρ : Rho} {w : World} {g : Hp} (hr : HRel ρ w g) (o : Obj) (n : Nat) : Ext n ρ w ρ { w with heap := w.heap.push o } where
  size := by simp
  os := rfl
  tape := rfl
  output := rfl
  keep B hB _ := by simp only [Array.getElem?_push]; rw [if_neg (by omega)]
  slot b _ hb := .inl rfl
  fresh b B F hl := .inr ⟨b, F, hl⟩
  rows B hB := by simp only [rows, Array.getElem?_push]; rw [if_neg (by omega)]

theorem HRel.push {ρ : Rho} {w : World} {g : Hp} (hr : HRel ρ w g) (o : Obj) : HRel ρ { w with heap := w.heap.push o } g where
  unborn := hr.unborn
  dead := hr.dead
  inj := hr.inj
  live b cs h := by
    rcases hr.live b cs h with h' | ⟨B, F, c, e, lo, hi, hl, hh, hs, hf, hc⟩
    · exact .inl h'
    · refine .inr ⟨B, F, c, e, lo, hi, hl, ?_, hs, hf, lies_bound (push_ext hr o) hc⟩
      have := hr.lt hl
      simp only [Array.getElem?_push]
      rw [if_neg (by omega)]
      exact hh

theorem rep_get {α : Type} (z : List α) (n i : Nat) (hz : z ≠ []) : ((List.replicate n z).flatten)[i]? = if i < n * z.length then z[i % z.length]? else none := by
  have hp : 0 < z.length := List.length_pos_iff.2 hz
  induction n generalizing i with
  | zero => simp
  | succ n ih =>
    simp only [List.replicate_succ, List.flatten_cons]
    by_cases h : i < z.length
    · rw [List.getElem?_append_left h, if_pos (by rw [Nat.add_mul, Nat.one_mul]; omega), Nat.mod_eq_of_lt h]
    · rw [List.getElem?_append_right (by omega), ih]
      have e : (i - z.length) % z.length = i % z.length := by
        conv => rhs; rw [show i = (i - z.length) + z.length by omega, Nat.add_mod_right]
      rw [e]
      have e2 : (n + 1) * z.length = n * z.length + z.length := by rw [Nat.add_mul, Nat.one_mul]
      rw [e2]
      by_cases h2 : i - z.length < n * z.length
      · rw [if_pos h2, if_pos (by omega)]
      · rw [if_neg h2, if_neg (by omega)]

/-- The rows that 'make' lays. -/
theorem lies_rep {z : Array Value} {zs : List AV} (hs : toAVs z.toList = some zs) (n : Nat) (ρ : Rho) (w : World) :
    Lies ρ w (List.replicate n zs).flatten 0 ((Array.range (n * z.size)).map (z[· % z.size]!)) := by
  intro i a hi
  have hl := (toAVs_rel hs).1
  by_cases hz : zs = []
  · subst hz; simp at hi
  · rw [rep_get zs n i hz] at hi
    split at hi
    · rename_i hlt
      obtain ⟨v, h1, h2⟩ := (toAVs_rel hs).2 _ a hi
      have hsz : zs.length = z.size := by simpa using hl
      rw [hsz] at hlt h1
      refine ⟨v, ?_, toAV_one h2, toAV_rel h2 ρ w⟩
      have hzp : 0 < z.size := by
        rw [← hsz]; exact List.length_pos_iff.2 hz
      have hm : i % z.size < z.size := Nat.mod_lt _ hzp
      have h1' : z[i % z.size]? = some v := by simpa using h1
      simp only [Nat.zero_add, Array.getElem?_map, Array.getElem?_range, hlt, if_true, Option.map_some]
      rw [getElem!_pos z (i % z.size) hm]
      rw [Array.getElem?_eq_getElem hm] at h1'
      exact h1'
    · cases hi

theorem rep_length {α : Type} (z : List α) (n : Nat) : ((List.replicate n z).flatten).length = n * z.length := by
  induction n with
  | zero => simp
  | succ n ih => simp only [List.replicate_succ, List.flatten_cons, List.length_append, ih]; rw [Nat.add_mul, Nat.one_mul]; omega

section
variable {R : Type} {A : Alg R} {holds : R → Prop} (good : A.Good holds) {P : Program} {o : Oper} {avs : List AV} {H : Hl} {cf : CallF R} {k : ExK R}
include good

theorem s_mks {t e : TypeId} {len : Nat} {parts : Array (Nat × Operand)} {j : TypeInfo} {z : Value} {zs : List AV} {pl : List (Nat × Nat)} (ho : o.op = .buildSlice t len parts) (ht : P.underlying t = some (.slice e))
    (hj : P.info? e = some j) (hsmall : len * j.size ≤ 2 ^ 24) (hz : j.zero = some z) (zc : Array Value) (hzc : zc = if len * j.size = 0 then #[] else z.cells)
    (hs : toAVs ((Array.range (len * j.size)).map (zc[· % zc.size]!)).toList = some zs) (hp : placesOf (fun i => some (i * j.size, j.size)) (parts.toList.map (·.1)) = some pl)
    (h : holds (ex A ops0 cf H (.mks zs len pl) avs k)) : Does P o (parts.toList.map (·.2)) avs H fun r H' t f => holds (k r H' t f) := by
  have h : holds (fillK A ops0 zs pl avs fun cs => k (.ros cs 0 len len true) H [] []) := h
  obtain ⟨cs, h, hcl, hcs⟩ := fillK_sound good h
  refine ⟨_, _, _, _, h, ⟨Nat.le_refl _, (fun b hb => by cases hb), fun _ _ _ => rfl, ?_⟩⟩
  intro ρ w a g hx _ _ _ hg
  have hzl := (toAVs_rel hs).1.symm
  obtain ⟨c', h1, h2, h3⟩ := hcs ρ w ((parts.toList.map (·.2)).map a.eval) _ _ (parts.toList.map (·.1)) hx hzl (toAVs_lies hs ρ w) hp
  have e1 : (parts.map fun x => (match x with | (i, x) => (i, a.eval x))).toList = (parts.toList.map (·.1)).zip ((parts.toList.map (·.2)).map a.eval) := by
    rw [Array.toList_map]
    induction parts.toList with
    | nil => rfl
    | cons p l ih => simp [ih]
  have hrun : (execOp a.eval o).run P w = .ok (.value (.slice (some ⟨w.heap.size, 0, none⟩) len len)) { w with heap := w.heap.push (.cells c'.toArray e) } := by
    rw [Array.toArray_toList] at h1
    simp only [execOp, ho, Instr.buildSlice, Sem.run_bind, run_underlying ht, run_size hj, Result.andThen_ok]
    rw [if_neg (by omega), e1]
    by_cases h0 : len * j.size = 0
    · rw [if_pos h0] at hzc
      subst hzc
      rw [if_pos h0]
      simp only [Sem.run_bind, Sem.run_pure, Result.andThen_ok]
      rw [h1]
      simp [newRow]
    · rw [if_neg h0] at hzc
      subst hzc
      rw [if_neg h0]
      simp only [Sem.run_bind, Sem.run_pure, Result.andThen_ok, run_zero hj hz]
      rw [h1]
      simp [newRow]
  refine OpDo.value hrun ⟨ρ, ?_, ?_, push_ext hg _⟩
  · rw [news_self, List.append_nil, upd_nil]
    exact hg.push _
  · have E := push_ext hg (.cells c'.toArray e)
    refine .ros cs 0 len len true w.heap.size 0 _ len c' (fun _ => by simp) (fun _ => hg.unowned (Nat.le_refl _)) (by omega) ?_ ?_ ?_ (Nat.le_refl _) (Nat.le_refl _) (fun _ => rfl) (fun _ => rfl)
    · have := agg_of_lies (h2.trans hcl.symm) h3
      cases this with
      | agg _ _ _ ho _ => exact ho
    · intro i v hv
      simp [World.cell?, hv]
    · intro i b v hb hv
      have := agg_of_lies (h2.trans hcl.symm) h3
      cases this with
      | agg _ _ _ _ hr => exact ext_bound E (hr i b v hb hv)

omit good in
theorem wrap_small {n : Int} (h0 : 0 ≤ n) (h : n ≤ 1099511627776) : IntKind.i64.wrap n = n := IntWalk.i64_in n (by omega)

theorem s_mksl {t e : TypeId} {x y : Operand} {j : TypeInfo} {z : Value} {zs : List AV} (ho : o.op = .makeSlice t x y) (ht : P.underlying t = some (.slice e)) (hj : P.info? e = some j) (hz : j.zero = some z)
    (hs : toAVs z.cells.toList = some zs) (hsz : z.cells.size = j.size) (h : holds (ex A ops0 cf H (.mksl zs j.bytes) avs k)) : Does P o [x, y] avs H fun r H' t f => holds (k r H' t f) := by
  rcases avs with _ | ⟨xa, _ | ⟨ya, _ | ⟨_, _⟩⟩⟩
  · exact (good.fail h).elim
  · cases xa <;> exact (good.fail h).elim
  · cases xa with
    | int kx l =>
      cases ya with
      | int ky c =>
        obtain ⟨hm, h⟩ := good.chk _ _ (show holds (A.chk (ops0.mkr l c j.bytes) (k (.slc (size H) 0 (ops0.nat l) (ops0.nat c) (size zs)) (join H [.cells (ops0.rep (ops0.nat c) zs)]) [] [])) from h)
        obtain ⟨hl0, hlc, hb⟩ : 0 ≤ l ∧ l ≤ c ∧ (c + 1) * ((j.bytes : Int) + 1) ≤ 1099511627776 := by
          have := hm
          simp only [ops0, Bool.and_eq_true, decide_eq_true_eq] at this
          exact ⟨this.1.1, this.1.2, this.2⟩
        have hc1 : c + 1 ≤ (c + 1) * ((j.bytes : Int) + 1) := by
          have : (c + 1) * 1 ≤ (c + 1) * ((j.bytes : Int) + 1) := Int.mul_le_mul_of_nonneg_left (by omega) (by omega)
          omega
        have hcb : (j.bytes : Int) * c ≤ (c + 1) * ((j.bytes : Int) + 1) := by
          have : (c + 1) * ((j.bytes : Int) + 1) = (j.bytes : Int) * c + (c + j.bytes + 1) := by
            rw [Int.add_mul, Int.mul_add, Int.mul_comm c]; omega
          omega
        rw [size_eq, join_eq, size_eq] at h
        refine ⟨_, _, _, _, h, .alloc fun ρ w a g hx _ hg => ⟨.slice (some ⟨w.heap.size, 0, none⟩) l.toNat c.toNat, w.drawn, (Array.range (c.toNat * z.cells.size)).map (z.cells[· % z.cells.size]!), e, ?_, ?_, ?_, ?_⟩⟩
        · have hxv := inv_int hx.two.1
          have hyv := inv_int hx.two.2
          have hwl := wrap_small hl0 (by omega)
          have hwc := wrap_small (n := c) (by omega) (by omega)
          simp only [execOp, ho, Instr.makeSlice, Sem.run_bind, run_underlying ht, Result.andThen_ok, hxv, hyv, asInt, asIntOf, Sem.run_pure, typeInfo, run_program, hj, hwl, hwc]
          have e1 : (decide (c < 0) || decide ((j.bytes : Int) * c > 2 ^ 48)) = false := by simp; omega
          have e2 : (decide (l < 0)) = false := by simp; omega
          have e3 : (decide (l > c)) = false := by simp; omega
          simp only [e1, e2, e3, Bool.or_false, Bool.false_eq_true, if_false, Sem.run_bind, run_askRoom, Result.andThen_ok, run_size hj, Sem.run_pure]
          rw [hsz]
          by_cases hc0 : c.toNat * j.size = 0
          · have e0 : ∀ f : Nat → Value, (Array.range 0).map f = #[] := fun f => by apply Array.eq_empty_of_size_eq_zero; simp
            simp only [hc0, if_true, Sem.run_bind, Sem.run_pure, Result.andThen_ok, newRow, run_newObj_alloc, e0]
            rfl
          · simp only [hc0, if_false, Sem.run_bind, Sem.run_pure, Result.andThen_ok, newRow, run_newObj_alloc, run_zero hj hz, hsz]
            simp
        · rw [show ops0.rep (ops0.nat c) zs = (List.replicate c.toNat zs).flatten from rfl, rep_length]
          have := (toAVs_rel hs).1
          simp at this
          simp [this]
        · have := lies_rep hs c.toNat ρ w
          exact this
        · intro ρ' w' hl hr
          have hlen : zs.length = z.cells.size := by have := (toAVs_rel hs).1; simpa using this
          refine .slc _ _ _ _ _ _ (by rw [hl]; simp) ⟨_, _, rfl, ?_, Nat.le_refl _, fun _ => ⟨_, _, rfl⟩⟩ (by rw [hl]; simp) ?_
          · simp only [ops0]; omega
          · intro B F hlb
            rw [hl] at hlb
            cases hlb
            refine ⟨_, _, Nat.le_refl _, ?_, rfl, fun _ => rfl, ?_⟩
            · simp only [ops0]; omega
            · rw [hr, hlen]; simp [ops0]
      | _ => exact (good.fail h).elim
    | _ => exact (good.fail h).elim
  · cases xa <;> first | exact (good.fail h).elim | (cases ya <;> exact (good.fail h).elim)

end
end Go.Vm
