/-
  A VERIFIED SYMBOLIC MACHINE, PART J: equality of rows, bytes as a string, lengths.
-/
import Derived.Test.YtfmhlogapbpnbaaVmI
namespace Go.Vm

section
variable {R : Type} {A : Alg R} {holds : R → Prop} (good : A.Good holds) {P : Program} {o : Oper} {avs : List AV} {H : Hl} {cf : CallF R} {k : ExK R}
include good

omit good in
theorem run_acmp {neg : Bool} {t : TypeId} {x y : Operand} {yt : TypeId} (ho : o.op = .binOp (if neg then .neq else .eql) t x y yt) (hg : P.eqGuardType P.depth t = false) {a : Act} {w : World} {xs ys : Array Value}
    (hx : a.eval x = .agg xs) (hy : a.eval y = .agg ys) {b : Bool} (h : (Op.equalIn 10000 t (.agg xs) (.agg ys)).run P w = .ok b w) : (execOp a.eval o).run P w = .ok (.value (.bool (Bool.xor neg b))) w := by
  have hgd : ∀ op, (op = .eql ∨ op = .neq) → (eqGuard op t x y (.agg xs) (.agg ys)).run P w = .ok () w := by
    intro op hop
    rcases hop with rfl | rfl <;> simp [eqGuard, hg]
  cases neg
  · simp only [Bool.false_eq_true, if_false] at ho
    simp only [execOp, ho, hx, hy, Sem.run_bind, hgd _ (.inl rfl), Result.andThen_ok, run_eql_struct, h, Sem.run_pure, Bool.false_bne]
  · simp only [if_true] at ho
    simp only [execOp, ho, hx, hy, Sem.run_bind, hgd _ (.inr rfl), Result.andThen_ok, run_neq_struct, h, Sem.run_pure, Bool.true_bne]

theorem s_acmp {neg : Bool} {t : TypeId} {x y : Operand} {yt : TypeId} {n : Nat} {segs : List (Nat × IntKind × Nat)} (ho : o.op = .binOp (if neg then .neq else .eql) t x y yt) (hT : RowT P t n segs)
    (hg : P.eqGuardType P.depth t = false) (h : holds (ex A ops0 cf H (.acmp neg n segs) avs k)) : Does P o [x, y] avs H fun r H' t f => holds (k r H' t f) := by
  rcases avs with _ | ⟨xa, _ | ⟨ya, _ | ⟨_, _⟩⟩⟩
  · exact (good.fail h).elim
  · cases xa <;> exact (good.fail h).elim
  · cases xa with
    | agg xs =>
      cases ya with
      | agg ys =>
        obtain ⟨hx, h⟩ := good.chk _ _ (show holds (A.chk _ _) from h)
        obtain ⟨hy, h⟩ := good.chk _ _ h
        have hx : xs.length = n := by simpa [ops0] using hx
        have hy : ys.length = n := by simpa [ops0] using hy
        cases hT with
        | arr e kd _ i ht he hi h1 =>
          obtain ⟨us, vs, hus, hvs, h⟩ := segsK_arr good h hx hy
          refine ⟨_, _, _, _, h, quiet2 fun ρ w a g hv hu _ _ => ⟨_, ?_, .bool _⟩⟩
          obtain ⟨ps, hpe, hpl, _, hpli⟩ := lies_agg hv
          obtain ⟨qs, hqe, hql, _, hqli⟩ := lies_agg hu
          have hul : us.length = n := by rw [← hx, hus]; simp
          have hvl : vs.length = n := by rw [← hy, hvs]; simp
          rw [hus] at hpli
          rw [hvs] at hqli
          have e1 := lies_ints (by omega) hpli
          have e2 := lies_ints (by omega) hqli
          refine run_acmp ho hg hpe hqe ?_
          rw [e1, e2]
          exact run_ints 9998 ⟨ht, he, hi, h1⟩ us vs hul hvl w
        | str fs _ _ ht hp hs =>
          obtain ⟨b, h, hb⟩ := segsK_sound good h
          refine ⟨_, _, _, _, h, quiet2 fun ρ w a g hv hu _ _ => ⟨_, ?_, .bool _⟩⟩
          obtain ⟨ps, hpe, hpl, _, hpli⟩ := lies_agg hv
          obtain ⟨qs, hqe, hql, _, hqli⟩ := lies_agg hu
          refine run_acmp ho hg hpe hqe ?_
          have hfs : P.fieldsOf t = fs := by simp [Program.fieldsOf, ht]
          rw [show (10000 : Nat) = 9999 + 1 from rfl, run_equalIn_struct w 9999 t _ _ (by rw [hfs]; exact ht) hp, hfs]
          exact hb fs.toList hs ρ w ps qs 9997 hpl hql hpli hqli
      | _ => exact (good.fail h).elim
    | _ => exact (good.fail h).elim
  · cases xa <;> first | exact (good.fail h).elim | (cases ya <;> exact (good.fail h).elim)

omit good in
theorem foldl_bytes (l : List UInt8) (s : ByteArray) : (l.map fun b => (b.toNat : Int)).foldl (fun r n => r.push (UInt8.ofNat n.toNat)) s = ⟨s.data ++ l.toArray⟩ := by
  induction l generalizing s with
  | nil => simp
  | cons b l ih =>
    simp only [List.map_cons, List.foldl_cons, ih]
    simp [ByteArray.push]

theorem s_b2s {s t : TypeId} {x : Operand} {e : TypeId} (ho : o.op = .convert s t x) (hs : P.underlying s = some (.slice e)) (he : P.underlying e = some (.int .u8)) (ht : P.underlying t = some .string)
    (h : holds (ex A ops0 cf H .b2s avs k)) : Does P o [x] avs H fun r H' t f => holds (k r H' t f) := by
  have main : ∀ {xa : AV}, (∀ ρ w v, VRel ρ w xa v → ∃ ao n c, v = .slice ao n c) → holds (elemsK A ops0 H 1 xa fun cs _ ft => A.byts cs fun s => k (.str s) H [] ft) →
      Does P o [x] [xa] H fun r H' t f => holds (k r H' t f) := by
    intro xa hsl h
    obtain ⟨cs, n, ft, h, hel⟩ := elemsK_sound good h
    obtain ⟨l, hl, h⟩ := good.byts _ _ h
    refine ⟨_, _, _, _, h, quiet1 fun ρ w a g hv hag hg => ⟨_, ?_, .str l⟩⟩
    have E := hel P ρ w g _ hv hag hg
    obtain ⟨ao, m, c, hve⟩ := hsl ρ w _ hv
    rw [hve] at E
    have hm : m = n := by
      have := E.lenOf
      simp [Builtin.lenOf] at this
      exact this
    subst hm
    have hcl := E.len
    obtain ⟨vs, h1, h2, h3, _⟩ := E.first m (Nat.le_refl _)
    have hll : l.length = m := by
      have := congrArg List.length hl
      simp at this; omega
    rw [List.take_of_length_le (by omega), hl] at h3
    have hmap : (l.map fun b => AV.int .u8 b.toNat) = (l.map fun b => (b.toNat : Int)).map (AV.int .u8) := by simp
    rw [hmap] at h3
    have hvs := lies_ints (by simp; omega) h3
    have hconv : (execOp a.eval o).run P w = ((Conv.bytesToString (.slice ao m c)).run P w).andThen fun v w' => .ok (.value v) w' := by
      simp only [execOp, ho, hve, Sem.run_bind, run_convert_bytes_string w s t e ao m c hs he ht, Sem.run_pure]
    rw [hconv]
    cases ao with
    | none =>
      have : m * 1 = 0 := by
        simp only [Builtin.firstCells, Sem.run_pure, Result.ok.injEq, and_true] at h2
        have := congrArg Array.size h2
        simp at this; omega
      have hln : l = [] := by apply List.eq_nil_of_length_eq_zero; omega
      subst hln
      simp only [Conv.bytesToString, Sem.run_pure, Result.andThen_ok]
      rfl
    | some ad =>
      simp only [Builtin.firstCells, Nat.mul_one] at h2
      rw [run_bytesToString w ad m c (l.map fun b => (b.toNat : Int)) (by rw [h2, hvs]), foldl_bytes]
      simp [ByteArray.empty, ByteArray.emptyWithCapacity]
      rfl
  rcases avs with _ | ⟨xa, _ | ⟨_, _⟩⟩
  · exact (good.fail h).elim
  · cases xa with
    | str => exact (good.fail h).elim
    | nils => exact main (fun ρ w v hv => ⟨none, 0, 0, inv_nils hv⟩) h
    | slc b of len cap sz => exact main (fun ρ w v hv => by
        cases hv with
        | slc _ _ _ _ _ _ h0 hs hvo hh => obtain ⟨ao, c, rfl, _⟩ := hs; exact ⟨_, _, _, rfl⟩) h
    | ros cs off len cap ex => exact main (fun ρ w v hv => by cases hv; exact ⟨_, _, _, rfl⟩) h
    | _ => exact (good.fail h).elim
  · cases xa <;> exact (good.fail h).elim

omit good in
theorem run_builtin {b : Builtin} {args : Array Operand} {ats : Array TypeId} (ho : o.op = .call { callee := .builtin b, args, argTypes := ats }) (a : Act) (w : World) :
    (execOp a.eval o).run P w = (builtin b ats o.type (args.map fun | .const _ => true | _ => false) (args.map a.eval)).run P w := by
  simp only [execOp, ho, resolve, Sem.run_bind, Sem.run_pure, Result.andThen_ok, invoke]
  rfl

theorem s_len {x : Operand} {t e : TypeId} (ho : o.op = .call { callee := .builtin .len, args := #[x], argTypes := #[t] }) (ht : P.underlying t = some (.slice e))
    (h : holds (ex A ops0 cf H .len avs k)) : Does P o [x] avs H fun r H' t f => holds (k r H' t f) := by
  have slice : ∀ (a : Act) (w : World) ao n c, a.eval x = .slice ao n c → (execOp a.eval o).run P w = .ok (.value (.int .i64 (n : Int))) w := by
    intro a w ao n c hve
    rw [run_builtin ho]
    simp [builtin, Builtin.len_, run_underlying ht, hve, goInt]
  rcases avs with _ | ⟨xa, _ | ⟨_, _⟩⟩
  · exact (good.fail h).elim
  · cases xa with
    | nils => exact ⟨_, _, _, _, h, quiet1 fun ρ w a g hv _ _ => ⟨_, slice a w _ _ _ (inv_nils hv), .int _ _⟩⟩
    | slc b of len cap sz =>
      refine ⟨_, _, _, _, h, quiet1 fun ρ w a g hv _ _ => ?_⟩
      generalize hve : a.eval x = ve at hv
      cases hv with
      | slc _ _ _ _ _ _ h0 hs hvo hh => obtain ⟨ao, c, rfl, _⟩ := hs; exact ⟨_, slice a w _ _ _ hve, .int _ _⟩
    | ros cs off len cap ex =>
      refine ⟨_, _, _, _, h, quiet1 fun ρ w a g hv _ _ => ?_⟩
      generalize hve : a.eval x = ve at hv
      cases hv with
      | ros => exact ⟨_, slice a w _ _ _ hve, .int _ _⟩
    | _ => exact (good.fail h).elim
  · cases xa <;> exact (good.fail h).elim

theorem s_lenT {x : Operand} {t : TypeId} (ho : o.op = .call { callee := .builtin .len, args := #[x], argTypes := #[t] }) (ht : P.underlying t = some .string)
    (h : holds (ex A ops0 cf H .lenT avs k)) : Does P o [x] avs H fun r H' t f => holds (k r H' t f) := by
  rcases avs with _ | ⟨xa, _ | ⟨_, _⟩⟩
  · exact (good.fail h).elim
  · cases xa with
    | str s =>
      refine ⟨_, _, _, _, h, quiet1 fun ρ w a g hv _ _ => ⟨_, ?_, .int _ _⟩⟩
      rw [run_builtin ho]
      simp [builtin, Builtin.len_, run_underlying ht, inv_str hv, goInt]
      rfl
    | _ => exact (good.fail h).elim
  · cases xa <;> exact (good.fail h).elim

omit good in
theorem s_lenA {x : Operand} {t e : TypeId} {n : Nat} (ho : o.op = .call { callee := .builtin .len, args := #[x], argTypes := #[t] }) (ht : P.underlying t = some (.array n e))
    (h : holds (ex A ops0 cf H (.lenA n) avs k)) (good : A.Good holds) : Does P o [x] avs H fun r H' t f => holds (k r H' t f) := by
  rcases avs with _ | ⟨xa, _ | ⟨_, _⟩⟩
  · exact (good.fail h).elim
  · refine ⟨_, _, _, _, h, quiet1 fun ρ w a g hv _ _ => ⟨_, ?_, .int _ _⟩⟩
    rw [run_builtin ho]
    simp [builtin, Builtin.len_, run_underlying ht, goInt]
  · exact (good.fail h).elim

end
end Go.Vm
