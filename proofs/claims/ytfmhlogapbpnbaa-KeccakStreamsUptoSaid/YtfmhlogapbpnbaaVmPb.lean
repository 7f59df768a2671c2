/-
  A VERIFIED SYMBOLIC MACHINE, PART Pb: floats; the smaller and the greater one; a string's bytes.
-/
import Derived.Test.YtfmhlogapbpnbaaVmPa
import Derived.Laws.IdiomStrings
namespace Go.Vm

section
variable {R : Type} {A : Alg R} {holds : R → Prop} (good : A.Good holds) {P : Program} {o : Oper} {avs : List AV} {H : Hl} {cf : CallF R} {k : ExK R}
include good

omit good in
theorem run_binOp_flt {op : BinOp} {t : TypeId} {x y : Operand} {yt : TypeId} {a : Act} {w : World} {k1 k2 : FloatKind} {m n : Nat} (ho : o.op = .binOp op t x y yt) (hx : a.eval x = .float k1 m) (hy : a.eval y = .float k2 n) {v : Value}
    (h : (binOp op t (.float k1 m) (.float k2 n)).run P w = .ok v w) : (execOp a.eval o).run P w = .ok (.value v) w := by
  simp only [execOp, ho, hx, hy, Sem.run_bind]
  have hg : (eqGuard op t x y (.float k1 m) (.float k2 n)).run P w = .ok () w := by
    unfold eqGuard
    split <;> rfl
  rw [hg]
  simp only [Result.andThen_ok, h]
  rfl

theorem s_fbin {op : BinOp} {t : TypeId} {x y : Operand} {yt : TypeId} {kd : FloatKind} (ho : o.op = .binOp op t x y yt)
    (h : holds (ex A ops0 cf H (.fbin op kd) avs k)) : Does P o [x, y] avs H fun r H' t f => holds (k r H' t f) := by
  rcases avs with _ | ⟨xa, _ | ⟨ya, _ | ⟨_, _⟩⟩⟩
  · exact (good.fail h).elim
  · cases xa <;> exact (good.fail h).elim
  · cases xa with
    | flt k1 m =>
      cases ya with
      | flt k2 n =>
        simp only [ex, xFbin] at h
        split at h
        · rename_i e1 e2
          have e1 := sameF_eq e1
          have e2 := sameF_eq e2
          subst e1; subst e2
          obtain ⟨r, hr, h⟩ := good.flo _ _ h
          refine ⟨_, _, _, _, h, quiet2 fun ρ w a g hv hu _ _ => ⟨_, run_binOp_flt ho (inv_flt hv) (inv_flt hu) (run_float_arith w op t _ m n r hr), .flt _ _⟩⟩
        · exact (good.fail h).elim
      | _ => exact (good.fail h).elim
    | _ => exact (good.fail h).elim
  · cases xa <;> first | exact (good.fail h).elim | (cases ya <;> exact (good.fail h).elim)

theorem s_fcmp {op : BinOp} {t : TypeId} {x y : Operand} {yt : TypeId} {kd : FloatKind} (ho : o.op = .binOp op t x y yt) (hop : op = .eql ∨ op = .neq ∨ op = .lss ∨ op = .leq ∨ op = .gtr ∨ op = .geq)
    (h : holds (ex A ops0 cf H (.fcmp op kd) avs k)) : Does P o [x, y] avs H fun r H' t f => holds (k r H' t f) := by
  rcases avs with _ | ⟨xa, _ | ⟨ya, _ | ⟨_, _⟩⟩⟩
  · exact (good.fail h).elim
  · cases xa <;> exact (good.fail h).elim
  · cases xa with
    | flt k1 m =>
      cases ya with
      | flt k2 n =>
        simp only [ex, xFcmp] at h
        split at h
        · rename_i e1 e2
          have e1 := sameF_eq e1
          have e2 := sameF_eq e2
          subst e1; subst e2
          have h := brB_sound good h
          refine ⟨_, _, _, _, h, quiet2 fun ρ w a g hv hu _ _ => ⟨_, run_binOp_flt ho (inv_flt hv) (inv_flt hu) ?_, .bool _⟩⟩
          rcases hop with rfl | rfl | rfl | rfl | rfl | rfl <;> simp [binOp, Op.floatCmp, ops0, fcmp0]
        · exact (good.fail h).elim
      | _ => exact (good.fail h).elim
    | _ => exact (good.fail h).elim
  · cases xa <;> first | exact (good.fail h).elim | (cases ya <;> exact (good.fail h).elim)

theorem s_i2f {s t : TypeId} {x : Operand} {k1 : IntKind} {kd : FloatKind} (ho : o.op = .convert s t x) (hs : P.underlying s = some (.int k1)) (ht : P.underlying t = some (.float kd))
    (h : holds (ex A ops0 cf H (.i2f kd) avs k)) : Does P o [x] avs H fun r H' t f => holds (k r H' t f) := by
  rcases avs with _ | ⟨xa, _ | ⟨_, _⟩⟩
  · exact (good.fail h).elim
  · cases xa with
    | int k2 m =>
      refine ⟨_, _, _, _, h, quiet1 fun ρ w a g hv _ _ => ⟨.float kd (floatOfInt kd m), ?_, .flt _ _⟩⟩
      simp only [execOp, ho, inv_int hv, Sem.run_bind, run_convert_int_float w s t k2 kd m (by rw [hs]; rfl) ht, Result.andThen_ok]
      rfl
    | _ => exact (good.fail h).elim
  · cases xa <;> exact (good.fail h).elim

theorem s_fmov {s t : TypeId} {x : Operand} {kd : FloatKind} (ho : o.op = .convert s t x) (hs : P.underlying s = some (.float kd)) (ht : P.underlying t = some (.float kd))
    (h : holds (ex A ops0 cf H (.fmov kd) avs k)) : Does P o [x] avs H fun r H' t f => holds (k r H' t f) := by
  rcases avs with _ | ⟨xa, _ | ⟨_, _⟩⟩
  · exact (good.fail h).elim
  · cases xa with
    | flt k1 m =>
      simp only [ex, xFmov] at h
      split at h
      · rename_i e1
        have e1 := sameF_eq e1
        subst e1
        refine ⟨_, _, _, _, h, quiet1 fun ρ w a g hv _ _ => ⟨.float k1 m, ?_, .flt _ _⟩⟩
        simp only [execOp, ho, inv_flt hv, Sem.run_bind, run_convert_float_float w s t k1 k1 m m (by rw [hs]; rfl) ht (by simp [floatToFloatBits]), Result.andThen_ok]
        rfl
      · exact (good.fail h).elim
    | _ => exact (good.fail h).elim
  · cases xa <;> exact (good.fail h).elim

theorem s_mnx {mx : Bool} {x y : Operand} {ts : Array TypeId} (ho : o.op = .call { callee := .builtin (if mx then .max else .min), args := #[x, y], argTypes := ts })
    (h : holds (ex A ops0 cf H (.mnx mx) avs k)) : Does P o [x, y] avs H fun r H' t f => holds (k r H' t f) := by
  rcases avs with _ | ⟨xa, _ | ⟨ya, _ | ⟨_, _⟩⟩⟩
  · exact (good.fail h).elim
  · cases xa <;> exact (good.fail h).elim
  · cases xa with
    | int k1 m =>
      cases ya with
      | int k2 n =>
        simp only [ex, xMnx] at h
        split at h
        · rename_i e1
          have e1 := sameK_eq e1
          subst e1
          refine ⟨_, _, _, _, h, quiet2 fun ρ w a g hv hu _ _ => ?_⟩
          refine ⟨.int k1 (ops0.mnx mx m n), ?_, .int _ _⟩
          rw [run_builtin ho]
          cases mx <;> simp [inv_int hv, inv_int hu, builtin, Builtin.min_, Builtin.max_, Builtin.min2, Builtin.max2, ops0]
        · exact (good.fail h).elim
      | _ => exact (good.fail h).elim
    | _ => exact (good.fail h).elim
  · cases xa <;> first | exact (good.fail h).elim | (cases ya <;> exact (good.fail h).elim)

omit good in
/-- A new block, its row frozen behind its end. -/
theorem HRel.freeze {ρ : Rho} {w : World} {g : Hp} {N : Nat} {c : Array Value} {e : TypeId} {cs : List AV} (hr : HRel (rho1 ρ N (.live w.heap.size 0)) { w with heap := w.heap.push (.cells c e) } (one g N (.cells cs))) :
    HRel (rho1 ρ N (.live w.heap.size 0)) { w with heap := w.heap.push (.cells c e (c.size, c.size + 1)) } (one g N (.cells cs)) := by
  have cell : ∀ (B o : Nat), ({ w with heap := w.heap.push (.cells c e (c.size, c.size + 1)) } : World).cell? ⟨B, o, none⟩ = ({ w with heap := w.heap.push (.cells c e) } : World).cell? ⟨B, o, none⟩ := by
    intro B o
    simp only [World.cell?, Array.getElem?_push]
    by_cases hB : B = w.heap.size
    · simp [hB]
    · simp [hB]
  have size : ({ w with heap := w.heap.push (.cells c e (c.size, c.size + 1)) } : World).heap.size = ({ w with heap := w.heap.push (.cells c e) } : World).heap.size := by simp
  have rw_ : ∀ B, rows { w with heap := w.heap.push (.cells c e (c.size, c.size + 1)) } B = rows { w with heap := w.heap.push (.cells c e) } B := by
    intro B
    simp only [rows, Array.getElem?_push]
    by_cases hB : B = w.heap.size
    · simp [hB]
    · simp [hB]
  have V : ∀ {a : AV} {v : Value}, VRel (rho1 ρ N (.live w.heap.size 0)) { w with heap := w.heap.push (.cells c e) } a v → VRel (rho1 ρ N (.live w.heap.size 0)) { w with heap := w.heap.push (.cells c e (c.size, c.size + 1)) } a v := by
    intro a v h
    induction h with
    | slc b o len cap sz v h0 hs hv h =>
      refine .slc b o len cap sz v h0 hs hv fun B F hl => ?_
      obtain ⟨ao, cap', h1, h2, h3, h4, h5⟩ := h B F hl
      exact ⟨ao, cap', h1, h2, h3, h4, by rw [rw_]; exact h5⟩
    | ros cells off len cap exact B F ao cap' vs hlt hp hl ho hc hr hcap hlen he ha ih =>
      exact .ros cells off len cap exact B F ao cap' vs (by rw [size]; exact hlt) hp hl ho (fun i v hv => by rw [cell]; exact hc i v hv) ih hcap hlen he ha
    | rop cells off B F vs hlt hp hl ho hc hr ih =>
      exact .rop cells off B F vs (by rw [size]; exact hlt) hp hl ho (fun i v hv => by rw [cell]; exact hc i v hv) ih
    | top v => exact .top v
    | bool b => exact .bool b
    | int k n => exact .int k n
    | flt k n => exact .flt k n
    | str s => exact .str s
    | nilp => exact .nilp
    | ptr b o v h0 h1 hs h => exact .ptr b o v h0 h1 hs h
    | nils => exact .nils
    | agg cs vs hl ho hr ih => exact .agg cs vs hl ho ih
    | tup cs vs hl hr ih => exact .tup cs vs hl ih
    | fn f xs ys us vs hl hl' hr hr' ih ih' => exact .fn f xs ys us vs hl hl' ih ih'
    | nilf => exact .nilf
    | ifc t a v h ih => exact .ifc t a v ih
    | nili => exact .nili
  refine ⟨hr.unborn, hr.dead, hr.inj, fun b ds h => ?_⟩
  rcases hr.live b ds h with h' | ⟨B, F, c2, e2, lo, hi, hl, hh, hs, hf, hc⟩
  · exact .inl h'
  · simp only [Array.getElem?_push] at hh
    split at hh
    · rename_i hB
      cases hh
      refine .inr ⟨B, F, c, e, c.size, c.size + 1, hl, by simp only [Array.getElem?_push]; rw [if_pos hB], hs, fun j _ hj => by omega, fun i a ha => ?_⟩
      obtain ⟨v, q1, q2, q3⟩ := hc i a ha
      exact ⟨v, q1, q2, V q3⟩
    · rename_i hB
      refine .inr ⟨B, F, c2, e2, lo, hi, hl, by simp only [Array.getElem?_push]; rw [if_neg hB]; exact hh, hs, hf, fun i a ha => ?_⟩
      obtain ⟨v, q1, q2, q3⟩ := hc i a ha
      exact ⟨v, q1, q2, V q3⟩

theorem s_s2b {s t e : TypeId} {x : Operand} (ho : o.op = .convert s t x) (hs : P.underlying s = some .string) (ht : P.underlying t = some (.slice e)) (he : P.underlying e = some (.int .u8))
    (h : holds (ex A ops0 cf H .s2b avs k)) : Does P o [x] avs H fun r H' t f => holds (k r H' t f) := by
  rcases avs with _ | ⟨xa, _ | ⟨_, _⟩⟩
  · exact (good.fail h).elim
  · cases xa with
    | str l =>
      have h : holds (k (.slc (size H) 0 l.length l.length 1) (join H [.cells (l.map fun b => .int .u8 b.toNat)]) [] []) := h
      rw [size_eq, join_eq] at h
      refine ⟨_, _, _, _, h, ⟨by simp, (fun b hb => by cases hb), fun b hb _ => by rw [List.getElem?_append_left hb], ?_⟩⟩
      intro ρ w a g hx hf _ hn hg
      have hN : g H.length = none := hn _ (Nat.le_refl _) (by simp)
      have hv := inv_str hx.one
      have hrun := run_bytes_of_string (P := P) w s t e ⟨l.toArray⟩ hs ht he
      have hcap : l.length ≤ grownCap w l.length 0 e := by
        simp only [grownCap, Question.cut]
        omega
      generalize hN' : grownCap w l.length 0 e = N at *
      have hsz : (bytesRow ⟨l.toArray⟩ N).size = N := by simp [bytesRow, ByteArray.size]; omega
      have hlies : Lies ρ w (l.map fun b => AV.int .u8 b.toNat) 0 (bytesRow ⟨l.toArray⟩ N) := by
        intro i b hb
        rw [List.getElem?_map] at hb
        obtain ⟨c, hc, rfl⟩ := Option.map_eq_some_iff.1 hb
        refine ⟨.int .u8 c.toNat, ?_, rfl, .int _ _⟩
        have hi := (List.getElem?_eq_some_iff.1 hc).1
        simp only [bytesRow, Nat.zero_add]
        rw [Array.getElem?_append_left (by simpa using hi)]
        simp [hc]
      have R := ((hg.drew (w.drawn + 1)).alloc hN (c := bytesRow ⟨l.toArray⟩ N) (e := e) (by simp [hsz]; exact hcap) (lies_bound (drew_ext ρ w _) hlies))
      have R2 := HRel.freeze R
      refine OpDo.value (v := .slice (some ⟨w.heap.size, 0, none⟩) l.length N) (w' := { w with heap := w.heap.push (.cells (bytesRow ⟨l.toArray⟩ N) e ((bytesRow ⟨l.toArray⟩ N).size, (bytesRow ⟨l.toArray⟩ N).size + 1)), drawn := w.drawn + 1 }) ?_ ⟨rho1 ρ H.length (.live w.heap.size 0), ?_, ?_, fun n' => (drew_ext ρ w (w.drawn + 1) n').trans (alloc_ext (hg.drew (w.drawn + 1)) hN _ _ (by intro B F h; cases h; rfl) n')⟩
      · have hsize : (⟨l.toArray⟩ : ByteArray).size = l.length := by simp [ByteArray.size]
        rw [hsize] at hrun
        simp only [execOp, ho, hv, Sem.run_bind]
        rw [hN'] at hrun
        rw [hrun]
        rfl
      · rw [upd_one]; exact R2
      · refine .slc _ _ _ _ _ _ (by simp [rho1]) ⟨_, N, rfl, hcap, hcap, fun _ => ⟨_, _, rfl⟩⟩ (by simp [rho1]) ?_
        intro B F hl
        simp [rho1] at hl
        obtain ⟨rfl, rfl⟩ := hl
        refine ⟨_, N, hcap, hcap, rfl, fun _ => rfl, ?_⟩
        have hrows : rows { w with heap := w.heap.push (.cells (bytesRow ⟨l.toArray⟩ N) e ((bytesRow ⟨l.toArray⟩ N).size, (bytesRow ⟨l.toArray⟩ N).size + 1)), drawn := w.drawn + 1 } w.heap.size = N := by
          simp [rows, hsz]
        rw [hrows]; omega
    | _ => exact (good.fail h).elim
  · cases xa <;> exact (good.fail h).elim
end

end Go.Vm
