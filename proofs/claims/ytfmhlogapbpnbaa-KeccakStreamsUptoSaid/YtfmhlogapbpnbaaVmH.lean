/-
  A VERIFIED SYMBOLIC MACHINE, PART H: each operation of the machine does what the model's does (more proofs).
-/
import Derived.Test.YtfmhlogapbpnbaaVmG
namespace Go.Vm

section
variable {R : Type} {A : Alg R} {holds : R → Prop} (good : A.Good holds) {P : Program} {o : Oper} {avs : List AV} {H : Hl} {cf : CallF R} {k : ExK R}
include good

theorem s_scmp {neg : Bool} {t : TypeId} {x y : Operand} {yt : TypeId} (ho : o.op = .binOp (if neg then .neq else .eql) t x y yt)
    (h : holds (ex A ops0 cf H (.scmp neg) avs k)) : Does P o [x, y] avs H fun r H' t f => holds (k r H' t f) := by
  rcases avs with _ | ⟨xa, _ | ⟨ya, _ | ⟨_, _⟩⟩⟩
  · exact (good.fail h).elim
  · cases xa <;> exact (good.fail h).elim
  · cases xa with
    | str m =>
      cases ya with
      | str n =>
        have h : holds (brB A (ops0.eqs m n) neg fun b => k b H [] []) := h
        have h := brB_sound good h
        refine ⟨_, _, _, _, h, quiet2 fun ρ w a g hv hu _ _ => ⟨.bool (Bool.xor neg (ops0.eqs m n)), ?_, .bool _⟩⟩
        have hb : ((⟨m.toArray⟩ : ByteArray).toList == (⟨n.toArray⟩ : ByteArray).toList) = (m == n) := by
          rw [ByteArray.toList_eq, ByteArray.toList_eq]
        cases neg <;> simp [execOp, ho, inv_str hv, inv_str hu, eqGuard, binOp, Op.stringOp, ops0, hb]
      | _ => exact (good.fail h).elim
    | _ => exact (good.fail h).elim
  · cases xa <;> first | exact (good.fail h).elim | (cases ya <;> exact (good.fail h).elim)

omit good in
theorem run_equal_bool {t : TypeId} (ht : P.underlying t = some .bool) (m n : Bool) (w : World) : (Op.equal t (.bool m) (.bool n)).run P w = .ok (m == n) w := by
  have h : ∀ d, (Op.equalIn (d + 1) t (.bool m) (.bool n)).run P w = .ok (m == n) w := by
    intro d
    simp only [Op.equalIn, Sem.run_bind, run_underlying ht, Result.andThen_ok]
    rfl
  exact h 9999

theorem s_bcmp {neg : Bool} {t : TypeId} {x y : Operand} {yt : TypeId} (ho : o.op = .binOp (if neg then .neq else .eql) t x y yt) (ht : P.underlying t = some .bool)
    (h : holds (ex A ops0 cf H (.bcmp neg) avs k)) : Does P o [x, y] avs H fun r H' t f => holds (k r H' t f) := by
  rcases avs with _ | ⟨xa, _ | ⟨ya, _ | ⟨_, _⟩⟩⟩
  · exact (good.fail h).elim
  · cases xa <;> exact (good.fail h).elim
  · cases xa with
    | bool m =>
      cases ya with
      | bool n =>
        refine ⟨_, _, _, _, h, quiet2 fun ρ w a g hv hu _ _ => ⟨_, ?_, .bool _⟩⟩
        have hq := run_equal_bool ht m n w
        cases neg
        · simp only [Bool.false_eq_true, if_false] at ho
          simp only [execOp, ho, inv_bool hv, inv_bool hu, eqGuard, binOp, Sem.run_bind, Sem.run_pure, Result.andThen_ok, Bool.not_true, Bool.false_eq_true, if_false, hq, Bool.false_bne]
        · simp only [if_true] at ho
          simp only [execOp, ho, inv_bool hv, inv_bool hu, eqGuard, binOp, Sem.run_bind, Sem.run_pure, Result.andThen_ok, Bool.not_true, Bool.false_eq_true, if_false, hq, Bool.true_bne]
      | _ => exact (good.fail h).elim
    | _ => exact (good.fail h).elim
  · cases xa <;> first | exact (good.fail h).elim | (cases ya <;> exact (good.fail h).elim)

theorem s_not {t : TypeId} {x : Operand} (ho : o.op = .unOp .not t x) (h : holds (ex A ops0 cf H .not avs k)) : Does P o [x] avs H fun r H' t f => holds (k r H' t f) := by
  rcases avs with _ | ⟨xa, _ | ⟨_, _⟩⟩
  · exact (good.fail h).elim
  · cases xa with
    | bool b => cases b <;> exact ⟨_, _, _, _, h, quiet1 fun ρ w a g hv _ _ => ⟨_, by simp [execOp, ho, inv_bool hv, Op.unary], .bool _⟩⟩
    | _ => exact (good.fail h).elim
  · cases xa <;> first | exact (good.fail h).elim | (rename_i b; cases b <;> exact (good.fail h).elim)

theorem s_cvt {s t : TypeId} {x : Operand} {d : TypeDesc} {kd : IntKind} (ho : o.op = .convert s t x) (hs : P.underlying s = some d) (ht : P.underlying t = some (.int kd))
    (h : holds (ex A ops0 cf H (.cvt kd) avs k)) : Does P o [x] avs H fun r H' t f => holds (k r H' t f) := by
  rcases avs with _ | ⟨xa, _ | ⟨_, _⟩⟩
  · exact (good.fail h).elim
  · cases xa with
    | int kx n => exact ⟨_, _, _, _, h, quiet1 fun ρ w a g hv _ _ => ⟨_, by
        simp only [execOp, ho, inv_int hv, convert, Sem.run_bind, run_underlying hs, run_underlying ht, Result.andThen_ok]
        cases d <;> rfl, .int _ _⟩⟩
    | _ => exact (good.fail h).elim
  · cases xa <;> exact (good.fail h).elim

theorem s_s2a {t : TypeId} {x : Operand} {n : Nat} {e : TypeId} (ho : o.op = .sliceToArrayPointer t x) (ht : P.underlying t = some (.array n e)) (hn : n ≠ 0)
    (h : holds (ex A ops0 cf H (.s2a n) avs k)) : Does P o [x] avs H fun r H' t f => holds (k r H' t f) := by
  rcases avs with _ | ⟨xa, _ | ⟨_, _⟩⟩
  · exact (good.fail h).elim
  · cases xa with
    | slc b of len cap sz =>
      obtain ⟨hle, h⟩ := good.chk _ _ (show holds (A.chk (ops0.le n len) (k (.ptr b of) H [] [])) from h)
      have hle : n ≤ len := by simpa [ops0] using hle
      refine ⟨_, _, _, _, h, quiet1 fun ρ w a g hv _ _ => ?_⟩
      generalize hve : a.eval x = ve at hv
      cases hv with
      | slc _ _ _ _ _ _ h0 hs hvo hh =>
        obtain ⟨ao, cap', rfl, h1, h2, h3⟩ := hs
        refine ⟨.pointer ao, ?_, .ptr _ _ _ h0 ?_ ?_ ?_⟩
        · have : ¬ len < n := by omega
          simp [execOp, ho, hve, Instr.arrayAt, run_underlying ht, this]
        · intro hvd
          obtain ⟨_, _, h4, _⟩ := hvo hvd
          omega
        · obtain ⟨B, F, rfl⟩ := h3 (by omega)
          exact ⟨_, rfl⟩
        · intro B F hl
          obtain ⟨ao', cap2, g1, g2, g3, g4, g5⟩ := hh B F hl
          cases g3
          rw [g4 (by omega)]
    | ros cs off len cap ex =>
      obtain ⟨hle, h⟩ := good.chk _ _ (show holds (A.chk (ops0.le n len) (k (.rop cs off) H [] [])) from h)
      have hle : n ≤ len := by simpa [ops0] using hle
      refine ⟨_, _, _, _, h, quiet1 fun ρ w a g hv _ _ => ?_⟩
      generalize hve : a.eval x = ve at hv
      cases hv with
      | ros _ _ _ _ _ B F ao cap' vs hlt hp hl ho' hc hr hcap hlen he ha =>
        refine ⟨.pointer ao, ?_, ?_⟩
        · have : ¬ len < n := by omega
          simp [execOp, ho, hve, Instr.arrayAt, run_underlying ht, this]
        · rw [ha (by omega)]
          exact .rop _ _ B F vs hlt hp hl ho' hc hr
    | _ => exact (good.fail h).elim
  · cases xa <;> exact (good.fail h).elim

theorem s_fld {s : TypeId} {x : Operand} {f : Nat} {fs : Array Field} {fd : Field} {i : TypeInfo} (ho : o.op = .fieldAddr s x f) (hs : P.underlying s = some (.struct fs)) (hf : fs[f]? = some fd)
    (hi : P.info? fd.type = some i) (h0 : i.size ≠ 0) (h : holds (ex A ops0 cf H (.fld fd.offset) avs k)) : Does P o [x] avs H fun r H' t f => holds (k r H' t f) := by
  have hrun : ∀ (a : Act) (w : World) (ad : Addr), a.eval x = .pointer (some ad) → (execOp a.eval o).run P w = .ok (.value (.pointer (some (ad.add fd.offset)))) w := by
    intro a w ad hve
    simp [execOp, ho, hve, Instr.fieldAt, run_underlying hs, hf, Instr.sureAddr, fieldPlace, run_size hi, h0]
  rcases avs with _ | ⟨xa, _ | ⟨_, _⟩⟩
  · exact (good.fail h).elim
  · cases xa with
    | ptr b of =>
      refine ⟨_, _, _, _, h, quiet1 fun ρ w a g hv _ _ => ?_⟩
      generalize hve : a.eval x = ve at hv
      cases hv with
      | ptr _ _ _ g0 g1 hs2 hh =>
        obtain ⟨ad, rfl⟩ := hs2
        refine ⟨_, hrun a w ad hve, .ptr _ _ _ g0 g1 ⟨_, rfl⟩ ?_⟩
        intro B F hl
        have := hh B F hl
        cases this
        rw [add_at]
        simp [ops0, Nat.add_assoc]
    | rop cs of =>
      refine ⟨_, _, _, _, h, quiet1 fun ρ w a g hv _ _ => ?_⟩
      generalize hve : a.eval x = ve at hv
      cases hv with
      | rop _ _ B F vs hlt hp hl ho' hc hr =>
        refine ⟨_, hrun a w _ hve, ?_⟩
        rw [add_at, Nat.add_assoc]
        exact .rop _ _ B F vs hlt hp hl ho' hc hr
    | _ => exact (good.fail h).elim
  · cases xa <;> exact (good.fail h).elim

omit good in
theorem run_part1 {t : TypeId} {d : TypeDesc} (hd : P.underlying t = some d) (ha : isAggD d = false) (cs : Array Value) (off : Nat) (w : World) {v : Value} (hv : cs[off]? = some v) : (part t cs off).run P w = .ok v w := by
  simp [part, run_agg hd, ha, hv]

omit good in
theorem run_partn {t : TypeId} {d : TypeDesc} {i : TypeInfo} (hd : P.underlying t = some d) (ha : isAggD d = true) (hi : P.info? t = some i) (cs : Array Value) (off : Nat) (w : World) :
    (part t cs off).run P w = .ok (.agg (cs.extract off (off + i.size))) w := by
  simp [part, run_agg hd, ha, run_size hi]

omit good in
theorem agg_sub {ρ : Rho} {w : World} {cs : List AV} {vs : List Value} (hl : vs.length = cs.length) (hli : Lies ρ w cs 0 vs.toArray) (off n : Nat) :
    VRel ρ w (.agg ((cs.drop off).take n)) (.agg (vs.toArray.extract off (off + n))) := by
  have e : vs.toArray.extract off (off + n) = ((vs.drop off).take n).toArray := by
    simp [List.extract_toArray, List.extract_eq_take_drop]
  rw [e]
  refine agg_of_lies (by simp [hl]) ?_
  intro j b hj
  rw [List.getElem?_take] at hj
  split at hj
  · rename_i hjn
    rw [List.getElem?_drop] at hj
    obtain ⟨v, h1, h2, h3⟩ := hli _ b hj
    refine ⟨v, ?_, h2, h3⟩
    simp only [Nat.zero_add, List.getElem?_toArray] at h1 ⊢
    rw [List.getElem?_take, if_pos hjn, List.getElem?_drop]
    exact h1
  · cases hj

theorem s_fldv {s : TypeId} {x : Operand} {f : Nat} {fs : Array Field} {fd : Field} {d : TypeDesc} (ho : o.op = .field s x f) (hs : P.underlying s = some (.struct fs)) (hf : fs[f]? = some fd)
    (hd : P.underlying fd.type = some d) (ha : isAggD d = false) {kd : Kd} (h : holds (ex A ops0 cf H (.fldv fd.offset kd) avs k)) : Does P o [x] avs H fun r H' t f => holds (k r H' t f) := by
  rcases avs with _ | ⟨xa, _ | ⟨_, _⟩⟩
  · exact (good.fail h).elim
  · cases xa with
    | agg cs =>
      obtain ⟨r, hr, h⟩ := good.get _ _ _ _ (show holds (A.get kd cs fd.offset fun v => k v H [] []) from h)
      refine ⟨_, _, _, _, h, quiet1 fun ρ w a g hv _ _ => ?_⟩
      obtain ⟨vs, hve, hl, _, hli⟩ := lies_agg hv
      obtain ⟨v, h1, h2, h3⟩ := hli _ r hr
      refine ⟨v, ?_, h3⟩
      simp only [Nat.zero_add] at h1
      simp [execOp, ho, hve, Instr.field, run_underlying hs, hf, asAgg, run_part1 hd ha _ _ w h1]
    | _ => exact (good.fail h).elim
  · cases xa <;> exact (good.fail h).elim

theorem s_fldn {s : TypeId} {x : Operand} {f : Nat} {fs : Array Field} {fd : Field} {d : TypeDesc} {i : TypeInfo} (ho : o.op = .field s x f) (hs : P.underlying s = some (.struct fs)) (hf : fs[f]? = some fd)
    (hd : P.underlying fd.type = some d) (ha : isAggD d = true) (hi : P.info? fd.type = some i) (h : holds (ex A ops0 cf H (.fldn fd.offset i.size) avs k)) : Does P o [x] avs H fun r H' t f => holds (k r H' t f) := by
  rcases avs with _ | ⟨xa, _ | ⟨_, _⟩⟩
  · exact (good.fail h).elim
  · cases xa with
    | agg cs =>
      obtain ⟨hle, h⟩ := good.chk _ _ (show holds (A.chk (ops0.le (fd.offset + i.size) (ops0.len cs)) (k (.agg (ops0.ext cs fd.offset i.size)) H [] [])) from h)
      refine ⟨_, _, _, _, h, quiet1 fun ρ w a g hv _ _ => ?_⟩
      obtain ⟨vs, hve, hl, _, hli⟩ := lies_agg hv
      refine ⟨_, ?_, agg_sub hl hli fd.offset i.size⟩
      simp [execOp, ho, hve, Instr.field, run_underlying hs, hf, asAgg, run_partn hd ha hi]
    | _ => exact (good.fail h).elim
  · cases xa <;> exact (good.fail h).elim

omit good in
theorem inr0 {i : Int} {n : Nat} (h : ops0.inr i n = true) : 0 ≤ i ∧ i < n := by simpa [ops0] using h
omit good in
theorem inb0 {i : Int} {n : Nat} (h : ops0.inb i n = true) : 0 ≤ i ∧ i ≤ n := by simpa [ops0] using h

theorem s_ixA {t : TypeId} {x y : Operand} {n : Nat} {e : TypeId} {i : TypeInfo} (ho : o.op = .indexAddr t x y) (ht : P.underlying t = some (.array n e)) (hi : P.info? e = some i)
    (h : holds (ex A ops0 cf H (.ixA n i.size) avs k)) : Does P o [x, y] avs H fun r H' t f => holds (k r H' t f) := by
  have hrun : ∀ (a : Act) (w : World) (ad : Addr) (kd : IntKind) (j : Int), a.eval x = .pointer (some ad) → a.eval y = .int kd j → 0 ≤ j ∧ j < n →
      (execOp a.eval o).run P w = .ok (.value (.pointer (some (ad.add (j.toNat * i.size))))) w := by
    intro a w ad kd j hve hye hj
    simp [execOp, ho, hve, hye, Instr.indexAt, asIntOf, run_underlying ht, Instr.sureAddr, run_size hi, hj]
  rcases avs with _ | ⟨xa, _ | ⟨ya, _ | ⟨_, _⟩⟩⟩
  · exact (good.fail h).elim
  · cases xa <;> exact (good.fail h).elim
  · cases xa with
    | ptr b of =>
      cases ya with
      | int kd j =>
        obtain ⟨hj, h⟩ := good.chk _ _ (show holds (A.chk (ops0.inr j n) (k (.ptr b (ops0.adr of j i.size)) H [] [])) from h)
        refine ⟨_, _, _, _, h, quiet2 fun ρ w a g hv hu _ _ => ?_⟩
        generalize hve : a.eval x = ve at hv
        cases hv with
        | ptr _ _ _ g0 g1 hs2 hh =>
          obtain ⟨ad, rfl⟩ := hs2
          refine ⟨_, hrun a w ad kd j hve (inv_int hu) (inr0 hj), .ptr _ _ _ g0 g1 ⟨_, rfl⟩ ?_⟩
          intro B F hl
          have := hh B F hl
          cases this
          rw [add_at]
          simp [ops0, Nat.add_assoc]
      | _ => exact (good.fail h).elim
    | rop cs of =>
      cases ya with
      | int kd j =>
        obtain ⟨hj, h⟩ := good.chk _ _ (show holds (A.chk (ops0.inr j n) (k (.rop cs (ops0.adr of j i.size)) H [] [])) from h)
        refine ⟨_, _, _, _, h, quiet2 fun ρ w a g hv hu _ _ => ?_⟩
        generalize hve : a.eval x = ve at hv
        cases hv with
        | rop _ _ B F vs hlt hp hl ho' hc hr =>
          refine ⟨_, hrun a w _ kd j hve (inv_int hu) (inr0 hj), ?_⟩
          rw [add_at, Nat.add_assoc]
          exact .rop _ _ B F vs hlt hp hl ho' hc hr
      | _ => exact (good.fail h).elim
    | _ => exact (good.fail h).elim
  · cases xa <;> first | exact (good.fail h).elim | (cases ya <;> exact (good.fail h).elim)

theorem s_ixS {t : TypeId} {x y : Operand} {e : TypeId} {i : TypeInfo} (ho : o.op = .indexAddr t x y) (ht : P.underlying t = some (.slice e)) (hi : P.info? e = some i)
    (h : holds (ex A ops0 cf H (.ixS i.size) avs k)) : Does P o [x, y] avs H fun r H' t f => holds (k r H' t f) := by
  have hrun : ∀ (a : Act) (w : World) (ad : Addr) (len cap : Nat) (kd : IntKind) (j : Int), a.eval x = .slice (some ad) len cap → a.eval y = .int kd j → 0 ≤ j ∧ j < len →
      (execOp a.eval o).run P w = .ok (.value (.pointer (some (ad.add (j.toNat * i.size))))) w := by
    intro a w ad len cap kd j hve hye hj
    simp [execOp, ho, hve, hye, Instr.indexAt, asIntOf, run_underlying ht, run_size hi, hj]
  rcases avs with _ | ⟨xa, _ | ⟨ya, _ | ⟨_, _⟩⟩⟩
  · exact (good.fail h).elim
  · cases xa <;> exact (good.fail h).elim
  · cases xa with
    | slc b of len cap sz =>
      cases ya with
      | int kd j =>
        obtain ⟨hj, h⟩ := good.chk _ _ (show holds (A.chk (ops0.inr j len) (k (.ptr b (ops0.adr of j i.size)) H [] [])) from h)
        refine ⟨_, _, _, _, h, quiet2 fun ρ w a g hv hu _ _ => ?_⟩
        generalize hve : a.eval x = ve at hv
        have hj' := inr0 hj
        cases hv with
        | slc _ _ _ _ _ _ h0 hs hvo hh =>
          obtain ⟨ao, cap', rfl, h1, h2, h3⟩ := hs
          obtain ⟨B0, F0, rfl⟩ := h3 (by omega)
          refine ⟨_, hrun a w _ _ _ kd j hve (inv_int hu) hj', .ptr _ _ _ h0 ?_ ⟨_, rfl⟩ ?_⟩
          · intro hvd
            obtain ⟨_, _, h4, _⟩ := hvo hvd
            omega
          · intro B F hl
            obtain ⟨ao', cap2, g1, g2, g3, g4, g5⟩ := hh B F hl
            cases g3
            have := g4 (by omega)
            cases this
            rw [add_at]
            simp [ops0, Nat.add_assoc]
      | _ => exact (good.fail h).elim
    | ros cs off len cap ex =>
      cases ya with
      | int kd j =>
        obtain ⟨hj, h⟩ := good.chk _ _ (show holds (A.chk (ops0.inr j len) (k (.rop cs (ops0.adr off j i.size)) H [] [])) from h)
        have hj' := inr0 hj
        refine ⟨_, _, _, _, h, quiet2 fun ρ w a g hv hu _ _ => ?_⟩
        generalize hve : a.eval x = ve at hv
        cases hv with
        | ros _ _ _ _ _ B F ao cap' vs hlt hp hl ho' hc hr hcap hlen he ha =>
          have hao := ha (by omega)
          subst hao
          refine ⟨_, hrun a w _ _ _ kd j hve (inv_int hu) hj', ?_⟩
          rw [add_at, Nat.add_assoc]
          exact .rop _ _ B F vs hlt hp hl ho' hc hr
      | _ => exact (good.fail h).elim
    | _ => exact (good.fail h).elim
  · cases xa <;> first | exact (good.fail h).elim | (cases ya <;> exact (good.fail h).elim)

theorem s_ext {x : Operand} {i : Nat} (ho : o.op = .extract x i) (h : holds (ex A ops0 cf H (.ext i) avs k)) : Does P o [x] avs H fun r H' t f => holds (k r H' t f) := by
  rcases avs with _ | ⟨xa, _ | ⟨_, _⟩⟩
  · exact (good.fail h).elim
  · cases xa with
    | tup vs =>
      simp only [ex, xExt, nth_eq] at h
      split at h
      · rename_i r hr
        refine ⟨_, _, _, _, h, quiet1 fun ρ w a g hv _ _ => ?_⟩
        generalize hve : a.eval x = ve at hv
        cases hv with
        | tup _ us hl hr' =>
          have hi : i < us.length := by rw [hl]; exact (List.getElem?_eq_some_iff.1 hr).1
          refine ⟨us[i], ?_, hr' i r _ hr (by simp [hi])⟩
          simp [execOp, ho, hve, Instr.extract, hi]
      · exact (good.fail h).elim
    | _ => exact (good.fail h).elim
  · cases xa <;> exact (good.fail h).elim

theorem s_mkif {t : TypeId} {x : Operand} {d : TypeDesc} (ho : o.op = .makeInterface t x) (ht : P.underlying t = some d) (hd : ∀ ms, d ≠ .interface ms) (h : holds (ex A ops0 cf H (.mkif t) avs k)) :
    Does P o [x] avs H fun r H' t f => holds (k r H' t f) := by
  rcases avs with _ | ⟨xa, _ | ⟨_, _⟩⟩
  · exact (good.fail h).elim
  · obtain ⟨_, h⟩ := oneK_sound good (show holds (oneK A xa (k (.ifc t xa) H [] [])) from h)
    refine ⟨_, _, _, _, h, quiet1 fun ρ w a g hv _ _ => ⟨.iface t (a.eval x), ?_, .ifc _ _ _ hv⟩⟩
    simp only [execOp, ho, Instr.makeInterface, Sem.run_bind, run_underlying ht, Result.andThen_ok]
    cases d <;> first | rfl | exact absurd rfl (hd _)
  · exact (good.fail h).elim

omit good in
theorem s_mkfn {f : Nat} {xs ys : Array Operand} (ho : o.op = .makeFunc (.func f) xs ys) (h : holds (ex A ops0 cf H (.mkfn f xs.size) avs k)) :
    Does P o (xs.toList ++ ys.toList) avs H fun r H' t f => holds (k r H' t f) := by
  refine ⟨_, _, _, _, h, .quiet fun ρ w a g hx _ _ => ⟨.func (.func f) (xs.map a.eval) (ys.map a.eval), by simp [execOp, ho, Instr.makeFunc], ?_⟩⟩
  have h1 := hx.take xs.size
  have h2 := hx.drop xs.size
  have e1 : ((xs.toList ++ ys.toList).map a.eval).take xs.size = (xs.map a.eval).toList := by
    rw [← List.map_take]; simp
  have e2 : ((xs.toList ++ ys.toList).map a.eval).drop xs.size = (ys.map a.eval).toList := by
    rw [← List.map_drop]; simp
  rw [e1] at h1
  rw [e2] at h2
  have := VRel.fn (ρ := ρ) (w := w) f (avs.take xs.size) (avs.drop xs.size) (xs.map a.eval).toList (ys.map a.eval).toList h1.len h2.len h1.at_ h2.at_
  rw [Array.toArray_toList, Array.toArray_toList] at this
  exact this

end
end Go.Vm
