/-
  A VERIFIED SYMBOLIC MACHINE, PART G: each operation of the machine does what the model's does (the proofs).
-/
import Derived.Test.YtfmhlogapbpnbaaYaa
import Derived.DeepKeys

namespace Go.Vm

section
variable {R : Type} {A : Alg R} {holds : R → Prop} (good : A.Good holds) {P : Program} {o : Oper} {avs : List AV} {H : Hl} {cf : CallF R} {k : ExK R}
include good

theorem s_mov {x : Operand} (ho : o.op = .move x ∨ o.op = .assign x) (h : holds (ex A ops0 cf H .mov avs k)) : Does P o [x] avs H fun r H' t f => holds (k r H' t f) := by
  rcases avs with _ | ⟨xa, _ | ⟨_, _⟩⟩
  · exact (good.fail h).elim
  · refine ⟨_, _, _, _, h, quiet1 fun ρ w a g hv _ _ => ⟨_, ?_, hv⟩⟩
    rcases ho with ho | ho <;> simp [execOp, ho]
  · exact (good.fail h).elim

theorem s_pick {c x y : Operand} (ho : o.op = .pick c x y) (h : holds (ex A ops0 cf H .pick avs k)) : Does P o [c, x, y] avs H fun r H' t f => holds (k r H' t f) := by
  rcases avs with _ | ⟨ca, _ | ⟨xa, _ | ⟨ya, _ | ⟨_, _⟩⟩⟩⟩
  · exact (good.fail h).elim
  · cases ca <;> first | exact (good.fail h).elim | (rename_i b; cases b <;> exact (good.fail h).elim)
  · cases ca <;> first | exact (good.fail h).elim | (rename_i b; cases b <;> exact (good.fail h).elim)
  · cases ca with
    | bool b =>
      cases b with
      | true => exact ⟨_, _, _, _, h, .quiet fun ρ w a g hx _ _ => ⟨a.eval x, by simp [execOp, ho, inv_bool hx.three.1, asBool], hx.three.2.1⟩⟩
      | false => exact ⟨_, _, _, _, h, .quiet fun ρ w a g hx _ _ => ⟨a.eval y, by simp [execOp, ho, inv_bool hx.three.1, asBool], hx.three.2.2⟩⟩
    | _ => exact (good.fail h).elim
  · cases ca <;> first | exact (good.fail h).elim | (rename_i b; cases b <;> exact (good.fail h).elim)

theorem s_alloc {e : TypeId} {i : TypeInfo} {z : Value} {zs : List AV} (ho : o.op = .alloc e) (hi : P.info? e = some i) (hz : i.zero = some z) (hs : toAVs z.cells.toList = some zs)
    (h : holds (ex A ops0 cf H (.alloc zs) avs k)) : Does P o [] avs H fun r H' t f => holds (k r H' t f) := by
  rcases avs with _ | ⟨_, _⟩
  · have h : holds (k (.ptr (size H) 0) (join H [.cells zs]) [] []) := h
    rw [size_eq, join_eq] at h
    refine ⟨_, _, _, _, h, .alloc fun ρ w a g hx _ hg => ⟨.pointer (some ⟨w.heap.size, 0, none⟩), w.drawn, z.cells, e, ?_, ?_, ?_, ?_⟩⟩
    · simp [execOp, ho, Instr.alloc, run_zero hi hz, newVar, newRow]
    · rw [(toAVs_rel hs).1]; simp
    · have := toAVs_lies hs ρ w; simpa using this
    · intro ρ' w' hl hr
      refine .ptr _ _ _ (by rw [hl]; simp) (by rw [hl]; simp) ⟨_, rfl⟩ ?_
      intro B F h'
      rw [hl] at h'; cases h'; rfl
  · exact (good.fail h).elim

theorem s_box {e : TypeId} {x : Operand} (ho : o.op = .box e x) (h : holds (ex A ops0 cf H .box avs k)) : Does P o [x] avs H fun r H' t f => holds (k r H' t f) := by
  rcases avs with _ | ⟨xa, _ | ⟨_, _⟩⟩
  · exact (good.fail h).elim
  · have h : holds (cellsK A xa fun cs => k (.ptr (size H) 0) (join H [.cells cs]) [] []) := h
    obtain ⟨cs, h, hc⟩ := cellsK_sound good h
    rw [size_eq, join_eq] at h
    refine ⟨_, _, _, _, h, .alloc fun ρ w a g hx _ hg => ⟨.pointer (some ⟨w.heap.size, 0, none⟩), w.drawn, (a.eval x).cells, e, ?_, ?_, ?_, ?_⟩⟩
    · simp [execOp, ho, Instr.box, newVar, newRow]
    · rw [(hc ρ w _ hx.one).1]; exact Nat.le_refl _
    · exact (hc ρ w _ hx.one).2
    · intro ρ' w' hl hr
      refine .ptr _ _ _ (by rw [hl]; simp) (by rw [hl]; simp) ⟨_, rfl⟩ ?_
      intro B F h'
      rw [hl] at h'; cases h'; rfl
  · exact (good.fail h).elim

theorem s_ld1 {t : TypeId} {x : Operand} {d : TypeDesc} {kd : Kd} (ho : o.op = .load t x) (hd : P.underlying t = some d) (ha : isAggD d = false) (h : holds (ex A ops0 cf H (.ld1 kd) avs k)) :
    Does P o [x] avs H fun r H' t f => holds (k r H' t f) := by
  rcases avs with _ | ⟨xa, _ | ⟨_, _⟩⟩
  · exact (good.fail h).elim
  · cases xa with
    | ptr b of =>
      have h : holds (blkK A H b fun cs => A.get kd cs of fun v => k v H [] [b]) := h
      obtain ⟨cs, hb, h⟩ := blkK_sound good h
      obtain ⟨r, hr, h⟩ := good.get _ _ _ _ h
      refine ⟨_, _, _, _, h, quiet1 fun ρ w a g hv hag hg => ?_⟩
      obtain ⟨B, F, c, e, lo, hi, hl, hve, hc, hsz, hf, hli⟩ := ptr_live hg (agree_one hag hb) hv
      obtain ⟨v, h1, h2, h3⟩ := hli of r hr
      refine ⟨v, ?_, h3⟩
      simp only [execOp, ho, hve, Instr.loadAt, Instr.sureAddr, Sem.run_bind, Sem.run_pure, Result.andThen_ok]
      rw [run_ld1 hd ha _ w (by rw [cell_at hc]; exact h1)]
      rfl
    | rop cs of =>
      have h : holds (A.get kd cs of fun v => k v H [] []) := h
      obtain ⟨r, hr, h⟩ := good.get _ _ _ _ h
      refine ⟨_, _, _, _, h, quiet1 fun ρ w a g hv hag hg => ?_⟩
      generalize hve : a.eval x = ve at hv
      cases hv with
      | rop _ _ B F vs hlt hp hl ho' hc hr' =>
        have hi : of < vs.length := by rw [hl]; exact (List.getElem?_eq_some_iff.1 hr).1
        have hvi : vs[of]? = some vs[of] := by simp [hi]
        refine ⟨vs[of], ?_, hr' of r _ hr hvi⟩
        simp only [execOp, ho, hve, Instr.loadAt, Instr.sureAddr, Sem.run_bind, Sem.run_pure, Result.andThen_ok]
        rw [run_ld1 hd ha _ w (hc of _ hvi)]
        rfl
    | _ => exact (good.fail h).elim
  · cases xa <;> exact (good.fail h).elim

theorem s_ldn {t : TypeId} {x : Operand} {d : TypeDesc} {i : TypeInfo} (ho : o.op = .load t x) (hd : P.underlying t = some d) (ha : isAggD d = true) (hi : P.info? t = some i)
    (h : holds (ex A ops0 cf H (.ldn i.size) avs k)) : Does P o [x] avs H fun r H' t f => holds (k r H' t f) := by
  rcases avs with _ | ⟨xa, _ | ⟨_, _⟩⟩
  · exact (good.fail h).elim
  · cases xa with
    | ptr b of =>
      have h : holds (blkK A H b fun cs => A.chk (ops0.le (ops0.add of i.size) (ops0.len cs)) (k (.agg (ops0.ext cs of i.size)) H [] [b])) := h
      obtain ⟨cs, hb, h⟩ := blkK_sound good h
      obtain ⟨hle, h⟩ := good.chk _ _ h
      have hle : of + i.size ≤ cs.length := by simpa [ops0] using hle
      refine ⟨_, _, _, _, h, quiet1 fun ρ w a g hv hag hg => ?_⟩
      obtain ⟨B, F, c, e, lo, hi', hl, hve, hc, hsz, hf, hli⟩ := ptr_live hg (agree_one hag hb) hv
      obtain ⟨vs, h1, h2, h3, h4⟩ := (hli.sub of i.size).values
      have hlen : ((cs.drop of).take i.size).length = i.size := by simp; omega
      refine ⟨.agg vs.toArray, ?_, agg_of_lies h1 h3⟩
      simp only [execOp, ho, hve, Instr.loadAt, Instr.sureAddr, Sem.run_bind, Sem.run_pure, Result.andThen_ok]
      rw [run_ldn hd ha hi (h1.trans hlen) (fun j v hj => by rw [cell_at hc]; exact h2 j v hj)]
      rfl
    | rop cs of =>
      have h : holds (A.chk (ops0.le (ops0.add of i.size) (ops0.len cs)) (k (.agg (ops0.ext cs of i.size)) H [] [])) := h
      obtain ⟨hle, h⟩ := good.chk _ _ h
      have hle : of + i.size ≤ cs.length := by simpa [ops0] using hle
      refine ⟨_, _, _, _, h, quiet1 fun ρ w a g hv hag hg => ?_⟩
      generalize hve : a.eval x = ve at hv
      cases hv with
      | rop _ _ B F vs hlt hp hl ho' hc hr' =>
        have hli : Lies ρ w cs 0 vs.toArray := by
          intro j b hj
          have hi : j < vs.length := by rw [hl]; exact (List.getElem?_eq_some_iff.1 hj).1
          exact ⟨vs[j], by simp [hi], ho' _ (List.getElem_mem _), hr' j b _ hj (by simp [hi])⟩
        obtain ⟨us, h1, h2, h3, h4⟩ := (hli.sub of i.size).values
        have hlen : ((cs.drop of).take i.size).length = i.size := by simp; omega
        refine ⟨.agg us.toArray, ?_, agg_of_lies h1 h3⟩
        simp only [execOp, ho, hve, Instr.loadAt, Instr.sureAddr, Sem.run_bind, Sem.run_pure, Result.andThen_ok]
        rw [run_ldn hd ha hi (h1.trans hlen) (fun j v hj => by
          have := h2 j v hj
          rw [Nat.add_assoc]
          exact hc (of + j) v (by simpa using this))]
        rfl
    | _ => exact (good.fail h).elim
  · cases xa <;> exact (good.fail h).elim

omit good in
theorem run_storeVar {P : Program} {t : TypeId} {i : TypeInfo} (hi : P.info? t = some i) (a : Addr) (v : Value) (hs : v.cells.size = i.size) (w : World) :
    (storeVar t a v).run P w = (storeCells a v.cells.toList).run P w := by
  unfold storeVar
  simp only [Sem.run_bind, run_size hi, Result.andThen_ok]
  rw [if_neg (by simp [hs])]

theorem s_st1 {t : TypeId} {x y : Operand} {i : TypeInfo} (ho : o.op = .store t x y) (hi : P.info? t = some i) (h1 : i.size = 1) (h : holds (ex A ops0 cf H .st1 avs k)) :
    Does P o [x, y] avs H fun r H' t f => holds (k r H' t f) := by
  rcases avs with _ | ⟨xa, _ | ⟨ya, _ | ⟨_, _⟩⟩⟩
  · exact (good.fail h).elim
  · cases xa <;> exact (good.fail h).elim
  · cases xa with
    | ptr b of =>
      have h : holds (oneK A ya (blkK A H b fun cs => A.chk (ops0.lt of (ops0.len cs)) (k (.tup []) (put H b (.cells (ops0.set cs of ya))) [b] [b]))) := h
      obtain ⟨hone, h⟩ := oneK_sound good h
      obtain ⟨cs, hb, h⟩ := blkK_sound good h
      obtain ⟨hlt, h⟩ := good.chk _ _ h
      have hlt : of < cs.length := by simpa [ops0] using hlt
      rw [put_eq] at h
      refine ⟨_, _, _, _, h, store_step hb (by simp [ops0]) ?_ (.inl (by intro h; subst h; simp at hlt)) (.inl rfl)⟩
      intro ρ w a g hx hg hag B F c e lo hi' hl hc hsz hf hli
      obtain ⟨hxv, hyv⟩ := hx.two
      obtain ⟨B', F', c', e', lo', hi'', hl', hve, hc', _⟩ := ptr_live hg (agree_one hag hb) hxv
      rw [hl] at hl'; cases hl'
      obtain ⟨ho1, ho2⟩ := one_rel hyv hone
      obtain ⟨w', hr, hw⟩ := run_storeCells' (P := P) (X := F + of) [a.eval y] 0 c w hc (by simp; omega) (fun j h1 h2 => hf j (by omega) h2) (by simpa using ho1)
      refine ⟨w', _, .skip, ⟨?_, .inl rfl⟩, hw, ?_, ?_⟩
      · simp only [execOp, ho, hve, Instr.storeAt, Instr.sureAddr, Sem.run_bind, Sem.run_pure, Result.andThen_ok]
        rw [run_storeVar hi _ _ (by rw [ho2, h1]; rfl), ho2]
        simp only [] at hr ⊢
        rw [hr]
        rfl
      · have := splice_length c.toList (F + of + 0) [a.eval y] (by simp; omega)
        simpa using this
      · intro j u hj
        have hg2 := splice_get c.toList (F + of + 0) [a.eval y] (by simp; omega) (F + j)
        simp only [ops0, List.getElem?_set] at hj
        simp only [List.getElem?_toArray]
        rw [hg2]
        by_cases hjo : of = j
        · subst hjo
          rw [if_pos rfl, if_pos hlt] at hj
          cases hj
          rw [if_neg (by omega), if_pos (by simp)]
          exact ⟨a.eval y, by simp, ho1, hyv⟩
        · rw [if_neg hjo] at hj
          obtain ⟨v, h1, h2, h3⟩ := hli j u hj
          refine ⟨v, ?_, h2, h3⟩
          split
          · simpa using h1
          · rw [if_neg (by simp; omega)]; simpa using h1
    | _ => exact (good.fail h).elim
  · cases xa <;> exact (good.fail h).elim

theorem s_stn {t : TypeId} {x y : Operand} {i : TypeInfo} (ho : o.op = .store t x y) (hi : P.info? t = some i) (h : holds (ex A ops0 cf H (.stn i.size) avs k)) :
    Does P o [x, y] avs H fun r H' t f => holds (k r H' t f) := by
  rcases avs with _ | ⟨xa, _ | ⟨ya, _ | ⟨_, _⟩⟩⟩
  · exact (good.fail h).elim
  · cases xa <;> exact (good.fail h).elim
  · cases xa with
    | ptr b of =>
      cases ya with
      | agg ys =>
        have h : holds (blkK A H b fun cs => A.chk (ops0.eq (ops0.len ys) i.size) (A.chk (ops0.le (ops0.add of i.size) (ops0.len cs)) (k (.tup []) (put H b (.cells (ops0.spl cs of ys))) [b] [b]))) := h
        obtain ⟨cs, hb, h⟩ := blkK_sound good h
        obtain ⟨heq, h⟩ := good.chk _ _ h
        obtain ⟨hle, h⟩ := good.chk _ _ h
        have heq : ys.length = i.size := by simpa [ops0] using heq
        have hle : of + i.size ≤ cs.length := by simpa [ops0] using hle
        rw [put_eq] at h
        by_cases hne : cs = []
        · subst hne
          simp at hle
          have hys : ys = [] := by apply List.eq_nil_of_length_eq_zero; omega
          subst hys
          -- nothing is stored, into nothing
          refine ⟨_, _, _, _, h, store_step hb (by simp [ops0, spliceL]) ?_ (.inr ?_) (.inl rfl)⟩
          · intro ρ w a g hx hg hag B F c e lo hi' hl hc hsz hf hli
            obtain ⟨hxv, hyv⟩ := hx.two
            obtain ⟨B', F', c', e', lo', hi'', hl', hve, hc', _⟩ := ptr_live hg (agree_one hag hb) hxv
            rw [hl] at hl'; cases hl'
            obtain ⟨vs, hyve, hvl, hvo, hvli⟩ := lies_agg hyv
            have hvs : vs = [] := by apply List.eq_nil_of_length_eq_zero; simpa using hvl
            subst hvs
            obtain ⟨w', hr, hw⟩ := run_storeCells' (P := P) (X := F + of) [] 0 c w hc (by simp at hsz ⊢; omega) (fun j h1 h2 => hf j (by omega) h2) (by simp)
            refine ⟨w', _, .skip, ⟨?_, .inl rfl⟩, hw, by simp [spliceL], ?_⟩
            · simp only [execOp, ho, hve, hyve, Instr.storeAt, Instr.sureAddr, Sem.run_bind, Sem.run_pure, Result.andThen_ok]
              rw [run_storeVar hi _ _ (by simp [Value.cells]; omega)]
              simp only [Value.cells]
              rw [hr]
              rfl
            · intro j u hj; simp [ops0, spliceL] at hj
          · intro ρ w a g hx hg
            have := hx.two.1
            cases this with
            | ptr _ _ _ h0 h1 _ _ => exact h1
        · refine ⟨_, _, _, _, h, store_step hb (by rw [show ops0.spl cs of ys = spliceL cs of ys from rfl]; exact splice_length _ _ _ (by omega)) ?_ (.inl hne) (.inl rfl)⟩
          intro ρ w a g hx hg hag B F c e lo hi' hl hc hsz hf hli
          obtain ⟨hxv, hyv⟩ := hx.two
          obtain ⟨B', F', c', e', lo', hi'', hl', hve, hc', _⟩ := ptr_live hg (agree_one hag hb) hxv
          rw [hl] at hl'; cases hl'
          obtain ⟨vs, hyve, hvl, hvo, hvli⟩ := lies_agg hyv
          obtain ⟨w', hr, hw⟩ := run_storeCells' (P := P) (X := F + of) vs 0 c w hc (by omega) (fun j h1 h2 => hf j (by omega) h2) hvo
          refine ⟨w', _, .skip, ⟨?_, .inl rfl⟩, hw, ?_, ?_⟩
          · simp only [execOp, ho, hve, hyve, Instr.storeAt, Instr.sureAddr, Sem.run_bind, Sem.run_pure, Result.andThen_ok]
            rw [run_storeVar hi _ _ (by simp [Value.cells]; omega)]
            simp only [Value.cells]
            rw [hr]
            rfl
          · have := splice_length c.toList (F + of + 0) vs (by simp; omega)
            simpa using this
          · intro j u hj
            have hg1 := splice_get cs of ys (by omega) j
            have hg2 := splice_get c.toList (F + of + 0) vs (by simp; omega) (F + j)
            rw [show ops0.spl cs of ys = spliceL cs of ys from rfl, hg1] at hj
            simp only [List.getElem?_toArray]
            rw [hg2]
            by_cases h1 : j < of
            · rw [if_pos h1] at hj
              rw [if_pos (by omega)]
              obtain ⟨v, g1, g2, g3⟩ := hli j u hj
              exact ⟨v, by simpa using g1, g2, g3⟩
            · rw [if_neg h1] at hj
              rw [if_neg (by omega)]
              by_cases h2 : j < of + ys.length
              · rw [if_pos h2] at hj
                rw [if_pos (by omega)]
                obtain ⟨v, g1, g2, g3⟩ := hvli (j - of) u hj
                refine ⟨v, ?_, g2, g3⟩
                rw [show F + j - (F + of + 0) = 0 + (j - of) by omega]
                simpa using g1
              · rw [if_neg h2] at hj
                rw [if_neg (by omega)]
                obtain ⟨v, g1, g2, g3⟩ := hli j u hj
                exact ⟨v, by simpa using g1, g2, g3⟩
      | _ => exact (good.fail h).elim
    | _ => exact (good.fail h).elim
  · cases xa <;> first | exact (good.fail h).elim | (cases ya <;> exact (good.fail h).elim)

theorem s_nilc {x : Operand} (ho : o.op = .nilCheck x) (h : holds (ex A ops0 cf H .nilc avs k)) : Does P o [x] avs H fun r H' t f => holds (k r H' t f) := by
  rcases avs with _ | ⟨xa, _ | ⟨_, _⟩⟩
  · exact (good.fail h).elim
  · cases xa with
    | ptr b of =>
      refine ⟨_, _, _, _, h, quiet1 fun ρ w a g hv _ _ => ⟨a.eval x, ?_, hv⟩⟩
      generalize hve : a.eval x = ve at hv
      cases hv with
      | ptr _ _ _ _ _ hs _ => obtain ⟨ad, rfl⟩ := hs; simp [execOp, ho, hve]
    | rop cs of =>
      refine ⟨_, _, _, _, h, quiet1 fun ρ w a g hv _ _ => ⟨a.eval x, ?_, hv⟩⟩
      generalize hve : a.eval x = ve at hv
      cases hv with
      | rop => simp [execOp, ho, hve]
    | fn f p q =>
      refine ⟨_, _, _, _, h, quiet1 fun ρ w a g hv _ _ => ⟨a.eval x, ?_, hv⟩⟩
      generalize hve : a.eval x = ve at hv
      cases hv with
      | fn => simp [execOp, ho, hve]
    | _ => exact (good.fail h).elim
  · cases xa <;> exact (good.fail h).elim

omit good in
theorem run_binOp_int {op : BinOp} {t : TypeId} {x y : Operand} {yt : TypeId} {a : Act} {w : World} {k1 k2 : IntKind} {m n : Int} (ho : o.op = .binOp op t x y yt) (hx : a.eval x = .int k1 m) (hy : a.eval y = .int k2 n) {v : Value}
    (h : (binOp op t (.int k1 m) (.int k2 n)).run P w = .ok v w) : (execOp a.eval o).run P w = .ok (.value v) w := by
  simp only [execOp, ho, hx, hy, Sem.run_bind]
  have hg : (eqGuard op t x y (.int k1 m) (.int k2 n)).run P w = .ok () w := by
    unfold eqGuard
    split <;> rfl
  rw [hg]
  simp only [Result.andThen_ok, h]
  rfl

theorem s_bin {op : BinOp} {t : TypeId} {x y : Operand} {yt : TypeId} {kd : IntKind} (ho : o.op = .binOp op t x y yt) (hop : op = .add ∨ op = .sub ∨ op = .mul ∨ op = .and ∨ op = .or ∨ op = .xor ∨ op = .andNot)
    (h : holds (ex A ops0 cf H (.bin op kd) avs k)) : Does P o [x, y] avs H fun r H' t f => holds (k r H' t f) := by
  rcases avs with _ | ⟨xa, _ | ⟨ya, _ | ⟨_, _⟩⟩⟩
  · exact (good.fail h).elim
  · cases xa <;> exact (good.fail h).elim
  · cases xa with
    | int k1 m =>
      cases ya with
      | int k2 n =>
        simp only [ex, xBin] at h
        split at h
        · rename_i e1 e2
          have e1 := sameK_eq e1
          have e2 := sameK_eq e2
          subst e1; subst e2
          refine ⟨_, _, _, _, h, quiet2 fun ρ w a g hv hu _ _ => ⟨_, run_binOp_int ho (inv_int hv) (inv_int hu) ?_, .int _ _⟩⟩
          rcases hop with rfl | rfl | rfl | rfl | rfl | rfl | rfl <;> simp [binOp, Op.intArith, Op.intBits, ops0, bin0]
        · exact (good.fail h).elim
      | _ => exact (good.fail h).elim
    | _ => exact (good.fail h).elim
  · cases xa <;> first | exact (good.fail h).elim | (cases ya <;> exact (good.fail h).elim)

theorem s_div {op : BinOp} {t : TypeId} {x y : Operand} {yt : TypeId} {kd : IntKind} (ho : o.op = .binOp op t x y yt) (hop : op = .quo ∨ op = .rem)
    (h : holds (ex A ops0 cf H (.div op kd) avs k)) : Does P o [x, y] avs H fun r H' t f => holds (k r H' t f) := by
  rcases avs with _ | ⟨xa, _ | ⟨ya, _ | ⟨_, _⟩⟩⟩
  · exact (good.fail h).elim
  · cases xa <;> exact (good.fail h).elim
  · cases xa with
    | int k1 m =>
      cases ya with
      | int k2 n =>
        simp only [ex, xDiv] at h
        split at h
        · rename_i e1 e2
          have e1 := sameK_eq e1
          have e2 := sameK_eq e2
          subst e1; subst e2
          obtain ⟨hz, h⟩ := good.chk _ _ h
          have hz : n ≠ 0 := by simpa [ops0] using hz
          refine ⟨_, _, _, _, h, quiet2 fun ρ w a g hv hu _ _ => ⟨_, run_binOp_int ho (inv_int hv) (inv_int hu) ?_, .int _ _⟩⟩
          rcases hop with rfl | rfl <;> simp [binOp, Op.intDiv, ops0, bin0, hz]
        · exact (good.fail h).elim
      | _ => exact (good.fail h).elim
    | _ => exact (good.fail h).elim
  · cases xa <;> first | exact (good.fail h).elim | (cases ya <;> exact (good.fail h).elim)

theorem s_shf {op : BinOp} {t : TypeId} {x y : Operand} {yt : TypeId} {kd : IntKind} (ho : o.op = .binOp op t x y yt) (hop : op = .shl ∨ op = .shr)
    (h : holds (ex A ops0 cf H (.shf op kd) avs k)) : Does P o [x, y] avs H fun r H' t f => holds (k r H' t f) := by
  rcases avs with _ | ⟨xa, _ | ⟨ya, _ | ⟨_, _⟩⟩⟩
  · exact (good.fail h).elim
  · cases xa <;> exact (good.fail h).elim
  · cases xa with
    | int k1 m =>
      cases ya with
      | int k2 n =>
        simp only [ex, xShf] at h
        split at h
        · rename_i e1
          have e1 := sameK_eq e1
          subst e1
          obtain ⟨hz, h⟩ := good.chk _ _ h
          have hz : ¬ n < 0 := by have : 0 ≤ n := by simpa [ops0] using hz
                                  omega
          refine ⟨_, _, _, _, h, quiet2 fun ρ w a g hv hu _ _ => ⟨_, run_binOp_int ho (inv_int hv) (inv_int hu) ?_, .int _ _⟩⟩
          rcases hop with rfl | rfl <;> simp only [binOp, Op.shift, ops0, shf0, if_neg hz, Sem.run_pure] <;> rfl
        · exact (good.fail h).elim
      | _ => exact (good.fail h).elim
    | _ => exact (good.fail h).elim
  · cases xa <;> first | exact (good.fail h).elim | (cases ya <;> exact (good.fail h).elim)

theorem s_cmp {op : BinOp} {t : TypeId} {x y : Operand} {yt : TypeId} (ho : o.op = .binOp op t x y yt) (hop : op = .eql ∨ op = .neq ∨ op = .lss ∨ op = .leq ∨ op = .gtr ∨ op = .geq)
    (h : holds (ex A ops0 cf H (.cmp op) avs k)) : Does P o [x, y] avs H fun r H' t f => holds (k r H' t f) := by
  rcases avs with _ | ⟨xa, _ | ⟨ya, _ | ⟨_, _⟩⟩⟩
  · exact (good.fail h).elim
  · cases xa <;> exact (good.fail h).elim
  · cases xa with
    | int k1 m =>
      cases ya with
      | int k2 n =>
        simp only [ex, xCmp] at h
        split at h
        · rename_i e1
          have e1 := sameK_eq e1
          subst e1
          have h := brB_sound good h
          refine ⟨_, _, _, _, h, quiet2 fun ρ w a g hv hu _ _ => ⟨_, run_binOp_int ho (inv_int hv) (inv_int hu) ?_, .bool _⟩⟩
          rcases hop with rfl | rfl | rfl | rfl | rfl | rfl <;> simp [binOp, Op.intCmp, ops0, cmp0]
        · exact (good.fail h).elim
      | _ => exact (good.fail h).elim
    | _ => exact (good.fail h).elim
  · cases xa <;> first | exact (good.fail h).elim | (cases ya <;> exact (good.fail h).elim)

end
end Go.Vm

namespace Go.Vm

section
variable {R : Type} {A : Alg R} {holds : R → Prop} (good : A.Good holds) {P : Program} {o : Oper} {avs : List AV} {H : Hl} {cf : CallF R} {k : ExK R}
include good

theorem s_scmp {neg : Bool} {t : TypeId} {x y : Operand} {yt : TypeId} (ho : o.op = .binOp (if neg then .neq else .eql) t x y yt)
    (h : holds (ex A ops0 cf H (.scmp neg) avs k)) : Does P o [x, y] avs H fun r H' t f => holds (k r H' t f) := by
  rcases avs with _ | ⟨xa, _ | ⟨ya, _ | ⟨_, _⟩⟩⟩
  · exact (good.fail h).elim
  · cases xa <;> exact (good.fail h).elim
  · cases xa with
    | str m =>
      cases ya with
      | str n =>
        have h : holds (brB A (ops0.eqs m n) neg fun b => k b H [] []) := h
        have h := brB_sound good h
        refine ⟨_, _, _, _, h, quiet2 fun ρ w a g hv hu _ _ => ⟨.bool (Bool.xor neg (ops0.eqs m n)), ?_, .bool _⟩⟩
        have hb : ((⟨m.toArray⟩ : ByteArray).toList == (⟨n.toArray⟩ : ByteArray).toList) = (m == n) := by
          rw [ByteArray.toList_eq, ByteArray.toList_eq]
        cases neg <;> simp [execOp, ho, inv_str hv, inv_str hu, eqGuard, binOp, Op.stringOp, ops0, hb]
      | _ => exact (good.fail h).elim
    | _ => exact (good.fail h).elim
  · cases xa <;> first | exact (good.fail h).elim | (cases ya <;> exact (good.fail h).elim)

omit good in
theorem run_equal_bool {t : TypeId} (ht : P.underlying t = some .bool) (m n : Bool) (w : World) : (Op.equal t (.bool m) (.bool n)).run P w = .ok (m == n) w := by
  have h : ∀ d, (Op.equalIn (d + 1) t (.bool m) (.bool n)).run P w = .ok (m == n) w := by
    intro d
    simp only [Op.equalIn, Sem.run_bind, run_underlying ht, Result.andThen_ok]
    rfl
  exact h 9999

theorem s_bcmp {neg : Bool} {t : TypeId} {x y : Operand} {yt : TypeId} (ho : o.op = .binOp (if neg then .neq else .eql) t x y yt) (ht : P.underlying t = some .bool)
    (h : holds (ex A ops0 cf H (.bcmp neg) avs k)) : Does P o [x, y] avs H fun r H' t f => holds (k r H' t f) := by
  rcases avs with _ | ⟨xa, _ | ⟨ya, _ | ⟨_, _⟩⟩⟩
  · exact (good.fail h).elim
  · cases xa <;> exact (good.fail h).elim
  · cases xa with
    | bool m =>
      cases ya with
      | bool n =>
        refine ⟨_, _, _, _, h, quiet2 fun ρ w a g hv hu _ _ => ⟨_, ?_, .bool _⟩⟩
        have hq := run_equal_bool ht m n w
        cases neg
        · simp only [Bool.false_eq_true, if_false] at ho
          simp only [execOp, ho, inv_bool hv, inv_bool hu, eqGuard, binOp, Sem.run_bind, Sem.run_pure, Result.andThen_ok, Bool.not_true, Bool.false_eq_true, if_false, hq, Bool.false_bne]
        · simp only [if_true] at ho
          simp only [execOp, ho, inv_bool hv, inv_bool hu, eqGuard, binOp, Sem.run_bind, Sem.run_pure, Result.andThen_ok, Bool.not_true, Bool.false_eq_true, if_false, hq, Bool.true_bne]
      | _ => exact (good.fail h).elim
    | _ => exact (good.fail h).elim
  · cases xa <;> first | exact (good.fail h).elim | (cases ya <;> exact (good.fail h).elim)

theorem s_not {t : TypeId} {x : Operand} (ho : o.op = .unOp .not t x) (h : holds (ex A ops0 cf H .not avs k)) : Does P o [x] avs H fun r H' t f => holds (k r H' t f) := by
  rcases avs with _ | ⟨xa, _ | ⟨_, _⟩⟩
  · exact (good.fail h).elim
  · cases xa with
    | bool b => cases b <;> exact ⟨_, _, _, _, h, quiet1 fun ρ w a g hv _ _ => ⟨_, by simp [execOp, ho, inv_bool hv, Op.unary], .bool _⟩⟩
    | _ => exact (good.fail h).elim
  · cases xa <;> first | exact (good.fail h).elim | (rename_i b; cases b <;> exact (good.fail h).elim)

theorem s_cvt {s t : TypeId} {x : Operand} {d : TypeDesc} {kd : IntKind} (ho : o.op = .convert s t x) (hs : P.underlying s = some d) (ht : P.underlying t = some (.int kd))
    (h : holds (ex A ops0 cf H (.cvt kd) avs k)) : Does P o [x] avs H fun r H' t f => holds (k r H' t f) := by
  rcases avs with _ | ⟨xa, _ | ⟨_, _⟩⟩
  · exact (good.fail h).elim
  · cases xa with
    | int kx n => exact ⟨_, _, _, _, h, quiet1 fun ρ w a g hv _ _ => ⟨_, by
        simp only [execOp, ho, inv_int hv, convert, Sem.run_bind, run_underlying hs, run_underlying ht, Result.andThen_ok]
        cases d <;> rfl, .int _ _⟩⟩
    | _ => exact (good.fail h).elim
  · cases xa <;> exact (good.fail h).elim

theorem s_s2a {t : TypeId} {x : Operand} {n : Nat} {e : TypeId} (ho : o.op = .sliceToArrayPointer t x) (ht : P.underlying t = some (.array n e)) (hn : n ≠ 0)
    (h : holds (ex A ops0 cf H (.s2a n) avs k)) : Does P o [x] avs H fun r H' t f => holds (k r H' t f) := by
  rcases avs with _ | ⟨xa, _ | ⟨_, _⟩⟩
  · exact (good.fail h).elim
  · cases xa with
    | slc b of len cap sz =>
      obtain ⟨hle, h⟩ := good.chk _ _ (show holds (A.chk (ops0.le n len) (k (.ptr b of) H [] [])) from h)
      have hle : n ≤ len := by simpa [ops0] using hle
      refine ⟨_, _, _, _, h, quiet1 fun ρ w a g hv _ _ => ?_⟩
      generalize hve : a.eval x = ve at hv
      cases hv with
      | slc _ _ _ _ _ _ h0 hs hvo hh =>
        obtain ⟨ao, cap', rfl, h1, h2, h3⟩ := hs
        refine ⟨.pointer ao, ?_, .ptr _ _ _ h0 ?_ ?_ ?_⟩
        · have : ¬ len < n := by omega
          simp [execOp, ho, hve, Instr.arrayAt, run_underlying ht, this]
        · intro hvd
          obtain ⟨_, _, h4, _⟩ := hvo hvd
          omega
        · obtain ⟨B, F, rfl⟩ := h3 (by omega)
          exact ⟨_, rfl⟩
        · intro B F hl
          obtain ⟨ao', cap2, g1, g2, g3, g4, g5⟩ := hh B F hl
          cases g3
          rw [g4 (by omega)]
    | ros cs off len cap ex =>
      obtain ⟨hle, h⟩ := good.chk _ _ (show holds (A.chk (ops0.le n len) (k (.rop cs off) H [] [])) from h)
      have hle : n ≤ len := by simpa [ops0] using hle
      refine ⟨_, _, _, _, h, quiet1 fun ρ w a g hv _ _ => ?_⟩
      generalize hve : a.eval x = ve at hv
      cases hv with
      | ros _ _ _ _ _ B F ao cap' vs hlt hp hl ho' hc hr hcap hlen he ha =>
        refine ⟨.pointer ao, ?_, ?_⟩
        · have : ¬ len < n := by omega
          simp [execOp, ho, hve, Instr.arrayAt, run_underlying ht, this]
        · rw [ha (by omega)]
          exact .rop _ _ B F vs hlt hp hl ho' hc hr
    | _ => exact (good.fail h).elim
  · cases xa <;> exact (good.fail h).elim

theorem s_fld {s : TypeId} {x : Operand} {f : Nat} {fs : Array Field} {fd : Field} {i : TypeInfo} (ho : o.op = .fieldAddr s x f) (hs : P.underlying s = some (.struct fs)) (hf : fs[f]? = some fd)
    (hi : P.info? fd.type = some i) (h0 : i.size ≠ 0) (h : holds (ex A ops0 cf H (.fld fd.offset) avs k)) : Does P o [x] avs H fun r H' t f => holds (k r H' t f) := by
  have hrun : ∀ (a : Act) (w : World) (ad : Addr), a.eval x = .pointer (some ad) → (execOp a.eval o).run P w = .ok (.value (.pointer (some (ad.add fd.offset)))) w := by
    intro a w ad hve
    simp [execOp, ho, hve, Instr.fieldAt, run_underlying hs, hf, Instr.sureAddr, fieldPlace, run_size hi, h0]
  rcases avs with _ | ⟨xa, _ | ⟨_, _⟩⟩
  · exact (good.fail h).elim
  · cases xa with
    | ptr b of =>
      refine ⟨_, _, _, _, h, quiet1 fun ρ w a g hv _ _ => ?_⟩
      generalize hve : a.eval x = ve at hv
      cases hv with
      | ptr _ _ _ g0 g1 hs2 hh =>
        obtain ⟨ad, rfl⟩ := hs2
        refine ⟨_, hrun a w ad hve, .ptr _ _ _ g0 g1 ⟨_, rfl⟩ ?_⟩
        intro B F hl
        have := hh B F hl
        cases this
        rw [add_at]
        simp [ops0, Nat.add_assoc]
    | rop cs of =>
      refine ⟨_, _, _, _, h, quiet1 fun ρ w a g hv _ _ => ?_⟩
      generalize hve : a.eval x = ve at hv
      cases hv with
      | rop _ _ B F vs hlt hp hl ho' hc hr =>
        refine ⟨_, hrun a w _ hve, ?_⟩
        rw [add_at, Nat.add_assoc]
        exact .rop _ _ B F vs hlt hp hl ho' hc hr
    | _ => exact (good.fail h).elim
  · cases xa <;> exact (good.fail h).elim

omit good in
theorem run_part1 {t : TypeId} {d : TypeDesc} (hd : P.underlying t = some d) (ha : isAggD d = false) (cs : Array Value) (off : Nat) (w : World) {v : Value} (hv : cs[off]? = some v) : (part t cs off).run P w = .ok v w := by
  simp [part, run_agg hd, ha, hv]

omit good in
theorem run_partn {t : TypeId} {d : TypeDesc} {i : TypeInfo} (hd : P.underlying t = some d) (ha : isAggD d = true) (hi : P.info? t = some i) (cs : Array Value) (off : Nat) (w : World) :
    (part t cs off).run P w = .ok (.agg (cs.extract off (off + i.size))) w := by
  simp [part, run_agg hd, ha, run_size hi]

omit good in
theorem agg_sub {ρ : Rho} {w : World} {cs : List AV} {vs : List Value} (hl : vs.length = cs.length) (hli : Lies ρ w cs 0 vs.toArray) (off n : Nat) :
    VRel ρ w (.agg ((cs.drop off).take n)) (.agg (vs.toArray.extract off (off + n))) := by
  have e : vs.toArray.extract off (off + n) = ((vs.drop off).take n).toArray := by
    simp [List.extract_toArray, List.extract_eq_take_drop]
  rw [e]
  refine agg_of_lies (by simp [hl]) ?_
  intro j b hj
  rw [List.getElem?_take] at hj
  split at hj
  · rename_i hjn
    rw [List.getElem?_drop] at hj
    obtain ⟨v, h1, h2, h3⟩ := hli _ b hj
    refine ⟨v, ?_, h2, h3⟩
    simp only [Nat.zero_add, List.getElem?_toArray] at h1 ⊢
    rw [List.getElem?_take, if_pos hjn, List.getElem?_drop]
    exact h1
  · cases hj

theorem s_fldv {s : TypeId} {x : Operand} {f : Nat} {fs : Array Field} {fd : Field} {d : TypeDesc} (ho : o.op = .field s x f) (hs : P.underlying s = some (.struct fs)) (hf : fs[f]? = some fd)
    (hd : P.underlying fd.type = some d) (ha : isAggD d = false) {kd : Kd} (h : holds (ex A ops0 cf H (.fldv fd.offset kd) avs k)) : Does P o [x] avs H fun r H' t f => holds (k r H' t f) := by
  rcases avs with _ | ⟨xa, _ | ⟨_, _⟩⟩
  · exact (good.fail h).elim
  · cases xa with
    | agg cs =>
      obtain ⟨r, hr, h⟩ := good.get _ _ _ _ (show holds (A.get kd cs fd.offset fun v => k v H [] []) from h)
      refine ⟨_, _, _, _, h, quiet1 fun ρ w a g hv _ _ => ?_⟩
      obtain ⟨vs, hve, hl, _, hli⟩ := lies_agg hv
      obtain ⟨v, h1, h2, h3⟩ := hli _ r hr
      refine ⟨v, ?_, h3⟩
      simp only [Nat.zero_add] at h1
      simp [execOp, ho, hve, Instr.field, run_underlying hs, hf, asAgg, run_part1 hd ha _ _ w h1]
    | _ => exact (good.fail h).elim
  · cases xa <;> exact (good.fail h).elim

theorem s_fldn {s : TypeId} {x : Operand} {f : Nat} {fs : Array Field} {fd : Field} {d : TypeDesc} {i : TypeInfo} (ho : o.op = .field s x f) (hs : P.underlying s = some (.struct fs)) (hf : fs[f]? = some fd)
    (hd : P.underlying fd.type = some d) (ha : isAggD d = true) (hi : P.info? fd.type = some i) (h : holds (ex A ops0 cf H (.fldn fd.offset i.size) avs k)) : Does P o [x] avs H fun r H' t f => holds (k r H' t f) := by
  rcases avs with _ | ⟨xa, _ | ⟨_, _⟩⟩
  · exact (good.fail h).elim
  · cases xa with
    | agg cs =>
      obtain ⟨hle, h⟩ := good.chk _ _ (show holds (A.chk (ops0.le (fd.offset + i.size) (ops0.len cs)) (k (.agg (ops0.ext cs fd.offset i.size)) H [] [])) from h)
      refine ⟨_, _, _, _, h, quiet1 fun ρ w a g hv _ _ => ?_⟩
      obtain ⟨vs, hve, hl, _, hli⟩ := lies_agg hv
      refine ⟨_, ?_, agg_sub hl hli fd.offset i.size⟩
      simp [execOp, ho, hve, Instr.field, run_underlying hs, hf, asAgg, run_partn hd ha hi]
    | _ => exact (good.fail h).elim
  · cases xa <;> exact (good.fail h).elim

omit good in
theorem inr0 {i : Int} {n : Nat} (h : ops0.inr i n = true) : 0 ≤ i ∧ i < n := by simpa [ops0] using h
omit good in
theorem inb0 {i : Int} {n : Nat} (h : ops0.inb i n = true) : 0 ≤ i ∧ i ≤ n := by simpa [ops0] using h

theorem s_ixA {t : TypeId} {x y : Operand} {n : Nat} {e : TypeId} {i : TypeInfo} (ho : o.op = .indexAddr t x y) (ht : P.underlying t = some (.array n e)) (hi : P.info? e = some i)
    (h : holds (ex A ops0 cf H (.ixA n i.size) avs k)) : Does P o [x, y] avs H fun r H' t f => holds (k r H' t f) := by
  have hrun : ∀ (a : Act) (w : World) (ad : Addr) (kd : IntKind) (j : Int), a.eval x = .pointer (some ad) → a.eval y = .int kd j → 0 ≤ j ∧ j < n →
      (execOp a.eval o).run P w = .ok (.value (.pointer (some (ad.add (j.toNat * i.size))))) w := by
    intro a w ad kd j hve hye hj
    simp [execOp, ho, hve, hye, Instr.indexAt, asIntOf, run_underlying ht, Instr.sureAddr, run_size hi, hj]
  rcases avs with _ | ⟨xa, _ | ⟨ya, _ | ⟨_, _⟩⟩⟩
  · exact (good.fail h).elim
  · cases xa <;> exact (good.fail h).elim
  · cases xa with
    | ptr b of =>
      cases ya with
      | int kd j =>
        obtain ⟨hj, h⟩ := good.chk _ _ (show holds (A.chk (ops0.inr j n) (k (.ptr b (ops0.adr of j i.size)) H [] [])) from h)
        refine ⟨_, _, _, _, h, quiet2 fun ρ w a g hv hu _ _ => ?_⟩
        generalize hve : a.eval x = ve at hv
        cases hv with
        | ptr _ _ _ g0 g1 hs2 hh =>
          obtain ⟨ad, rfl⟩ := hs2
          refine ⟨_, hrun a w ad kd j hve (inv_int hu) (inr0 hj), .ptr _ _ _ g0 g1 ⟨_, rfl⟩ ?_⟩
          intro B F hl
          have := hh B F hl
          cases this
          rw [add_at]
          simp [ops0, Nat.add_assoc]
      | _ => exact (good.fail h).elim
    | rop cs of =>
      cases ya with
      | int kd j =>
        obtain ⟨hj, h⟩ := good.chk _ _ (show holds (A.chk (ops0.inr j n) (k (.rop cs (ops0.adr of j i.size)) H [] [])) from h)
        refine ⟨_, _, _, _, h, quiet2 fun ρ w a g hv hu _ _ => ?_⟩
        generalize hve : a.eval x = ve at hv
        cases hv with
        | rop _ _ B F vs hlt hp hl ho' hc hr =>
          refine ⟨_, hrun a w _ kd j hve (inv_int hu) (inr0 hj), ?_⟩
          rw [add_at, Nat.add_assoc]
          exact .rop _ _ B F vs hlt hp hl ho' hc hr
      | _ => exact (good.fail h).elim
    | _ => exact (good.fail h).elim
  · cases xa <;> first | exact (good.fail h).elim | (cases ya <;> exact (good.fail h).elim)

theorem s_ixS {t : TypeId} {x y : Operand} {e : TypeId} {i : TypeInfo} (ho : o.op = .indexAddr t x y) (ht : P.underlying t = some (.slice e)) (hi : P.info? e = some i)
    (h : holds (ex A ops0 cf H (.ixS i.size) avs k)) : Does P o [x, y] avs H fun r H' t f => holds (k r H' t f) := by
  have hrun : ∀ (a : Act) (w : World) (ad : Addr) (len cap : Nat) (kd : IntKind) (j : Int), a.eval x = .slice (some ad) len cap → a.eval y = .int kd j → 0 ≤ j ∧ j < len →
      (execOp a.eval o).run P w = .ok (.value (.pointer (some (ad.add (j.toNat * i.size))))) w := by
    intro a w ad len cap kd j hve hye hj
    simp [execOp, ho, hve, hye, Instr.indexAt, asIntOf, run_underlying ht, run_size hi, hj]
  rcases avs with _ | ⟨xa, _ | ⟨ya, _ | ⟨_, _⟩⟩⟩
  · exact (good.fail h).elim
  · cases xa <;> exact (good.fail h).elim
  · cases xa with
    | slc b of len cap sz =>
      cases ya with
      | int kd j =>
        obtain ⟨hj, h⟩ := good.chk _ _ (show holds (A.chk (ops0.inr j len) (k (.ptr b (ops0.adr of j i.size)) H [] [])) from h)
        refine ⟨_, _, _, _, h, quiet2 fun ρ w a g hv hu _ _ => ?_⟩
        generalize hve : a.eval x = ve at hv
        have hj' := inr0 hj
        cases hv with
        | slc _ _ _ _ _ _ h0 hs hvo hh =>
          obtain ⟨ao, cap', rfl, h1, h2, h3⟩ := hs
          obtain ⟨B0, F0, rfl⟩ := h3 (by omega)
          refine ⟨_, hrun a w _ _ _ kd j hve (inv_int hu) hj', .ptr _ _ _ h0 ?_ ⟨_, rfl⟩ ?_⟩
          · intro hvd
            obtain ⟨_, _, h4, _⟩ := hvo hvd
            omega
          · intro B F hl
            obtain ⟨ao', cap2, g1, g2, g3, g4, g5⟩ := hh B F hl
            cases g3
            have := g4 (by omega)
            cases this
            rw [add_at]
            simp [ops0, Nat.add_assoc]
      | _ => exact (good.fail h).elim
    | ros cs off len cap ex =>
      cases ya with
      | int kd j =>
        obtain ⟨hj, h⟩ := good.chk _ _ (show holds (A.chk (ops0.inr j len) (k (.rop cs (ops0.adr off j i.size)) H [] [])) from h)
        have hj' := inr0 hj
        refine ⟨_, _, _, _, h, quiet2 fun ρ w a g hv hu _ _ => ?_⟩
        generalize hve : a.eval x = ve at hv
        cases hv with
        | ros _ _ _ _ _ B F ao cap' vs hlt hp hl ho' hc hr hcap hlen he ha =>
          have hao := ha (by omega)
          subst hao
          refine ⟨_, hrun a w _ _ _ kd j hve (inv_int hu) hj', ?_⟩
          rw [add_at, Nat.add_assoc]
          exact .rop _ _ B F vs hlt hp hl ho' hc hr
      | _ => exact (good.fail h).elim
    | _ => exact (good.fail h).elim
  · cases xa <;> first | exact (good.fail h).elim | (cases ya <;> exact (good.fail h).elim)

theorem s_ext {x : Operand} {i : Nat} (ho : o.op = .extract x i) (h : holds (ex A ops0 cf H (.ext i) avs k)) : Does P o [x] avs H fun r H' t f => holds (k r H' t f) := by
  rcases avs with _ | ⟨xa, _ | ⟨_, _⟩⟩
  · exact (good.fail h).elim
  · cases xa with
    | tup vs =>
      simp only [ex, xExt, nth_eq] at h
      split at h
      · rename_i r hr
        refine ⟨_, _, _, _, h, quiet1 fun ρ w a g hv _ _ => ?_⟩
        generalize hve : a.eval x = ve at hv
        cases hv with
        | tup _ us hl hr' =>
          have hi : i < us.length := by rw [hl]; exact (List.getElem?_eq_some_iff.1 hr).1
          refine ⟨us[i], ?_, hr' i r _ hr (by simp [hi])⟩
          simp [execOp, ho, hve, Instr.extract, hi]
      · exact (good.fail h).elim
    | _ => exact (good.fail h).elim
  · cases xa <;> exact (good.fail h).elim

theorem s_mkif {t : TypeId} {x : Operand} {d : TypeDesc} (ho : o.op = .makeInterface t x) (ht : P.underlying t = some d) (hd : ∀ ms, d ≠ .interface ms) (h : holds (ex A ops0 cf H (.mkif t) avs k)) :
    Does P o [x] avs H fun r H' t f => holds (k r H' t f) := by
  rcases avs with _ | ⟨xa, _ | ⟨_, _⟩⟩
  · exact (good.fail h).elim
  · obtain ⟨_, h⟩ := oneK_sound good (show holds (oneK A xa (k (.ifc t xa) H [] [])) from h)
    refine ⟨_, _, _, _, h, quiet1 fun ρ w a g hv _ _ => ⟨.iface t (a.eval x), ?_, .ifc _ _ _ hv⟩⟩
    simp only [execOp, ho, Instr.makeInterface, Sem.run_bind, run_underlying ht, Result.andThen_ok]
    cases d <;> first | rfl | exact absurd rfl (hd _)
  · exact (good.fail h).elim

omit good in
theorem s_mkfn {f : Nat} {xs ys : Array Operand} (ho : o.op = .makeFunc (.func f) xs ys) (h : holds (ex A ops0 cf H (.mkfn f xs.size) avs k)) :
    Does P o (xs.toList ++ ys.toList) avs H fun r H' t f => holds (k r H' t f) := by
  refine ⟨_, _, _, _, h, .quiet fun ρ w a g hx _ _ => ⟨.func (.func f) (xs.map a.eval) (ys.map a.eval), by simp [execOp, ho, Instr.makeFunc], ?_⟩⟩
  have h1 := hx.take xs.size
  have h2 := hx.drop xs.size
  have e1 : ((xs.toList ++ ys.toList).map a.eval).take xs.size = (xs.map a.eval).toList := by
    rw [← List.map_take]; simp
  have e2 : ((xs.toList ++ ys.toList).map a.eval).drop xs.size = (ys.map a.eval).toList := by
    rw [← List.map_drop]; simp
  rw [e1] at h1
  rw [e2] at h2
  have := VRel.fn (ρ := ρ) (w := w) f (avs.take xs.size) (avs.drop xs.size) (xs.map a.eval).toList (ys.map a.eval).toList h1.len h2.len h1.at_ h2.at_
  rw [Array.toArray_toList, Array.toArray_toList] at this
  exact this

end
end Go.Vm

namespace Go.Vm

section
variable {P : Program}

theorem run_equal_int (d : Nat) {t : TypeId} {kd : IntKind} (ht : P.underlying t = some (.int kd)) (m n : Int) (w : World) : (Op.equalIn (d + 1) t (.int kd m) (.int kd n)).run P w = .ok (m == n) w := by
  simp only [Op.equalIn, Sem.run_bind, run_underlying ht, Result.andThen_ok]
  rfl

/-- n whole numbers of the kind kd. -/
def IntsT (P : Program) (t : TypeId) (kd : IntKind) (n : Nat) : Prop :=
  (P.underlying t = some (.int kd) ∧ n = 1) ∨ ∃ e i j, P.underlying t = some (.array n e) ∧ P.underlying e = some (.int kd) ∧ P.info? e = some i ∧ i.size = 1 ∧ P.info? t = some j ∧ j.size = n

theorem run_items {e : TypeId} {kd : IntKind} {i : TypeInfo} (he : P.underlying e = some (.int kd)) (hi : P.info? e = some i) (hs : i.size = 1) (d : Nat) (w : World) (us vs : List Int) (xs ys : Array Value)
    (hx : xs = (us.map (Value.int kd)).toArray) (hy : ys = (vs.map (Value.int kd)).toArray) : ∀ (is : List Nat), (∀ i ∈ is, i < us.length ∧ i < vs.length) →
    (Op.eqItems (d + 1) e (P.cellsOf e) xs ys is).run P w = .ok (is.all fun i => us.getD i 0 == vs.getD i 0) w
  | [], _ => by simp [Op.eqItems]
  | j :: is, h => by
    have hc : P.cellsOf e = 1 := by simp [Program.cellsOf, hi, hs]
    obtain ⟨h1, h2⟩ := h j (by simp)
    have ih := run_items he hi hs d w us vs xs ys hx hy is (fun i hi => h i (by simp [hi]))
    have e1 : xs[j]? = some (.int kd us[j]) := by subst hx; simp [h1]
    have e2 : ys[j]? = some (.int kd vs[j]) := by subst hy; simp [h2]
    rw [hc] at ih
    simp only [Op.eqItems, Sem.run_bind, hc, Nat.mul_one, run_part1 he rfl xs j w e1, run_part1 he rfl ys j w e2, Result.andThen_ok, run_equal_int d he, List.all_cons]
    have g1 : us.getD j 0 = us[j] := by simp [h1]
    have g2 : vs.getD j 0 = vs[j] := by simp [h2]
    rw [g1, g2]
    cases hb : (us[j] == vs[j])
    · simp
    · simp [ih]

theorem all_range (us vs : List Int) (n : Nat) (h1 : us.length = n) (h2 : vs.length = n) : ((List.range n).all fun i => us.getD i 0 == vs.getD i 0) = (us == vs) := by
  rw [Bool.eq_iff_iff]
  simp only [List.all_eq_true, List.mem_range, beq_iff_eq]
  constructor
  · intro h
    apply List.ext_getElem (by omega)
    intro i hi hj
    have := h i (by omega)
    simpa [hi, hj] using this
  · intro h i _
    rw [h]

theorem run_ints (d : Nat) {t e : TypeId} {i : TypeInfo} {kd : IntKind} {n : Nat} (hT : P.underlying t = some (.array n e) ∧ P.underlying e = some (.int kd) ∧ P.info? e = some i ∧ i.size = 1) (us vs : List Int) (h1 : us.length = n) (h2 : vs.length = n) (w : World) :
    (Op.equalIn (d + 2) t (.agg (us.map (Value.int kd)).toArray) (.agg (vs.map (Value.int kd)).toArray)).run P w = .ok (us == vs) w := by
  obtain ⟨ha, hb, hc, hd⟩ := hT
  rw [run_equalIn_array w (d + 1) _ _ ha hc, run_items hb hc hd d w us vs _ _ rfl rfl (List.range n) (fun i hi => by have := List.mem_range.1 hi; omega), all_range us vs n h1 h2]

/-- The parts of a row, as the machine sees them. -/
inductive Segs (P : Program) : List Field → List (Nat × IntKind × Nat) → Prop where
  | nil : Segs P [] []
  | cons (f : Field) (fs : List Field) (kd : IntKind) (n : Nat) (segs : List (Nat × IntKind × Nat)) (hn : f.name ≠ "_") (hT : IntsT P f.type kd n) (h : Segs P fs segs) : Segs P (f :: fs) ((f.offset, kd, n) :: segs)

inductive RowT (P : Program) : TypeId → Nat → List (Nat × IntKind × Nat) → Prop where
  | arr (t e : TypeId) (kd : IntKind) (n : Nat) (i : TypeInfo) (ht : P.underlying t = some (.array n e)) (he : P.underlying e = some (.int kd)) (hi : P.info? e = some i) (h1 : i.size = 1) : RowT P t n [(0, kd, n)]
  | str (t : TypeId) (fs : Array Field) (n : Nat) (segs : List (Nat × IntKind × Nat)) (ht : P.underlying t = some (.struct fs)) (hp : P.stoodInHeld t = false) (h : Segs P fs.toList segs) : RowT P t n segs

/-- Cells that are whole numbers of one kind. -/
theorem lies_ints {ρ : Rho} {w : World} {kd : IntKind} {us : List Int} {vs : List Value} (hl : vs.length = us.length) (h : Lies ρ w (us.map (AV.int kd)) 0 vs.toArray) : vs = us.map (Value.int kd) := by
  apply List.ext_getElem (by simp [hl])
  intro i hi hj
  have hiu : i < us.length := by omega
  obtain ⟨v, h1, _, h3⟩ := h i (.int kd us[i]) (by simp [hiu])
  have h1' : vs[i]? = some v := by simpa using h1
  rw [List.getElem?_eq_getElem hi] at h1'
  rw [Option.some.inj h1', inv_int h3]
  simp

section
variable {R : Type} {A : Alg R} {holds : R → Prop} (good : A.Good holds)
include good

/-- What 'segsK' comes to: the same as reading the parts off one by one. -/
theorem segsK_sound {segs : List (Nat × IntKind × Nat)} {x y : List AV} {k : Bool → R} (h : holds (segsK A ops0 segs x y k)) :
    ∃ b, holds (k b) ∧ ∀ fs, Segs P fs segs → ∀ (ρ : Rho) (w : World) (xs ys : List Value) (d : Nat), xs.length = x.length → ys.length = y.length → Lies ρ w x 0 xs.toArray → Lies ρ w y 0 ys.toArray →
      (Op.eqFields (d + 2) xs.toArray ys.toArray fs).run P w = .ok b w := by
  induction segs with
  | nil =>
    refine ⟨true, h, fun fs hs ρ w xs ys d _ _ _ _ => ?_⟩
    cases hs
    simp [Op.eqFields]
  | cons s segs ih =>
    obtain ⟨off, kd, n⟩ := s
    obtain ⟨hx, h⟩ := good.chk _ _ (show holds (A.chk _ _) from h)
    obtain ⟨hy, h⟩ := good.chk _ _ h
    have hx : off + n ≤ x.length := by simpa [ops0] using hx
    have hy : off + n ≤ y.length := by simpa [ops0] using hy
    obtain ⟨us, hus, h⟩ := good.ints _ _ _ h
    obtain ⟨vs, hvs, h⟩ := good.ints _ _ _ h
    have hus : (x.drop off).take n = us.map (AV.int kd) := hus
    have hvs : (y.drop off).take n = vs.map (AV.int kd) := hvs
    have hul : us.length = n := by
      have := congrArg List.length hus
      simp at this; omega
    have hvl : vs.length = n := by
      have := congrArg List.length hvs
      simp at this; omega
    -- the part as the model reads it
    have key : ∀ (f : Field) (hT : IntsT P f.type kd n) (hf : f.offset = off) (ρ : Rho) (w : World) (xs ys : List Value) (d : Nat), xs.length = x.length → ys.length = y.length → Lies ρ w x 0 xs.toArray → Lies ρ w y 0 ys.toArray →
        ∃ a b, (part f.type xs.toArray f.offset).run P w = .ok a w ∧ (part f.type ys.toArray f.offset).run P w = .ok b w ∧ (Op.equalIn (d + 2) f.type a b).run P w = .ok (us == vs) w := by
      intro f hT hf ρ w xs ys d hxl hyl hlx hly
      have sub : ∀ (z : List AV) (zs : List Value) (ts : List Int), zs.length = z.length → Lies ρ w z 0 zs.toArray → off + n ≤ z.length → (z.drop off).take n = ts.map (AV.int kd) → ts.length = n →
          (zs.drop off).take n = ts.map (Value.int kd) := by
        intro z zs ts hl hli ho he hn
        refine lies_ints (ρ := ρ) (w := w) (by simp; omega) ?_
        rw [← he]
        intro i a hi
        rw [List.getElem?_take] at hi
        split at hi
        · rename_i hin
          rw [List.getElem?_drop] at hi
          obtain ⟨v, g1, g2, g3⟩ := hli _ a hi
          refine ⟨v, ?_, g2, g3⟩
          simp only [Nat.zero_add, List.getElem?_toArray] at g1 ⊢
          rw [List.getElem?_take, if_pos hin, List.getElem?_drop]
          exact g1
        · cases hi
      have ex := sub x xs us hxl hlx hx hus hul
      have ey := sub y ys vs hyl hly hy hvs hvl
      rcases hT with ⟨ht, hn⟩ | ⟨e, i, j, ht, he, hi, hs, hj, hjn⟩
      · subst hn
        match us, hul, vs, hvl with
        | [u], _, [v], _ =>
          refine ⟨.int kd u, .int kd v, ?_, ?_, ?_⟩
          · refine run_part1 ht rfl _ _ w ?_
            have := congrArg (·[0]?) ex
            simp [List.getElem?_take, List.getElem?_drop] at this
            simpa [hf] using this
          · refine run_part1 ht rfl _ _ w ?_
            have := congrArg (·[0]?) ey
            simp [List.getElem?_take, List.getElem?_drop] at this
            simpa [hf] using this
          · rw [run_equal_int (d + 1) ht]
            simp
      · refine ⟨.agg (us.map (Value.int kd)).toArray, .agg (vs.map (Value.int kd)).toArray, ?_, ?_, run_ints d ⟨ht, he, hi, hs⟩ us vs hul hvl w⟩
        · rw [run_partn ht rfl hj, hjn, hf, ← ex]
          simp [List.extract_toArray, List.extract_eq_take_drop]
        · rw [run_partn ht rfl hj, hjn, hf, ← ey]
          simp [List.extract_toArray, List.extract_eq_take_drop]
    rcases good.br _ _ _ h with ⟨hb, h⟩ | ⟨hb, h⟩
    · obtain ⟨b, hk, hb2⟩ := ih h
      refine ⟨b, hk, fun fs hs ρ w xs ys d hxl hyl hlx hly => ?_⟩
      cases hs with
      | cons f fs kd n segs hn hT hr =>
        obtain ⟨p, q, h1, h2, h3⟩ := key f hT rfl ρ w xs ys d hxl hyl hlx hly
        have hb : (us == vs) = true := hb
        simp only [Op.eqFields, if_pos hn, Sem.run_bind, h1, h2, h3, Result.andThen_ok, hb]
        simp only [Bool.not_true, Bool.false_eq_true, if_false]
        exact hb2 fs hr ρ w xs ys d hxl hyl hlx hly
    · refine ⟨false, h, fun fs hs ρ w xs ys d hxl hyl hlx hly => ?_⟩
      cases hs with
      | cons f fs kd n segs hn hT hr =>
        obtain ⟨p, q, h1, h2, h3⟩ := key f hT rfl ρ w xs ys d hxl hyl hlx hly
        have hb : (us == vs) = false := hb
        simp only [Op.eqFields, if_pos hn, Sem.run_bind, h1, h2, h3, Result.andThen_ok, hb]
        simp

/-- A row that is one array. -/
theorem segsK_arr {kd : IntKind} {n : Nat} {x y : List AV} {k : Bool → R} (h : holds (segsK A ops0 [(0, kd, n)] x y k)) (hx : x.length = n) (hy : y.length = n) :
    ∃ us vs : List Int, x = us.map (AV.int kd) ∧ y = vs.map (AV.int kd) ∧ holds (k (us == vs)) := by
  obtain ⟨_, h⟩ := good.chk _ _ (show holds (A.chk _ _) from h)
  obtain ⟨_, h⟩ := good.chk _ _ h
  obtain ⟨us, hus, h⟩ := good.ints _ _ _ h
  obtain ⟨vs, hvs, h⟩ := good.ints _ _ _ h
  have hus : (x.drop 0).take n = us.map (AV.int kd) := hus
  have hvs : (y.drop 0).take n = vs.map (AV.int kd) := hvs
  rw [List.drop_zero, List.take_of_length_le (by omega)] at hus hvs
  refine ⟨us, vs, hus, hvs, ?_⟩
  rcases good.br _ _ _ h with ⟨hb, h⟩ | ⟨hb, h⟩
  · have hb : (us == vs) = true := hb
    rw [hb]; exact h
  · have hb : (us == vs) = false := hb
    rw [hb]; exact h
end
end

end Go.Vm

namespace Go.Vm

section
variable {R : Type} {A : Alg R} {holds : R → Prop} (good : A.Good holds) {P : Program} {o : Oper} {avs : List AV} {H : Hl} {cf : CallF R} {k : ExK R}
include good

omit good in
theorem run_acmp {neg : Bool} {t : TypeId} {x y : Operand} {yt : TypeId} (ho : o.op = .binOp (if neg then .neq else .eql) t x y yt) (hg : P.eqGuardType P.depth t = false) {a : Act} {w : World} {xs ys : Array Value}
    (hx : a.eval x = .agg xs) (hy : a.eval y = .agg ys) {b : Bool} (h : (Op.equalIn 10000 t (.agg xs) (.agg ys)).run P w = .ok b w) : (execOp a.eval o).run P w = .ok (.value (.bool (Bool.xor neg b))) w := by
  have hgd : ∀ op, (op = .eql ∨ op = .neq) → (eqGuard op t x y (.agg xs) (.agg ys)).run P w = .ok () w := by
    intro op hop
    rcases hop with rfl | rfl <;> simp [eqGuard, hg]
  cases neg
  · simp only [Bool.false_eq_true, if_false] at ho
    simp only [execOp, ho, hx, hy, Sem.run_bind, hgd _ (.inl rfl), Result.andThen_ok, run_eql_struct, h, Sem.run_pure, Bool.false_bne]
  · simp only [if_true] at ho
    simp only [execOp, ho, hx, hy, Sem.run_bind, hgd _ (.inr rfl), Result.andThen_ok, run_neq_struct, h, Sem.run_pure, Bool.true_bne]

theorem s_acmp {neg : Bool} {t : TypeId} {x y : Operand} {yt : TypeId} {n : Nat} {segs : List (Nat × IntKind × Nat)} (ho : o.op = .binOp (if neg then .neq else .eql) t x y yt) (hT : RowT P t n segs)
    (hg : P.eqGuardType P.depth t = false) (h : holds (ex A ops0 cf H (.acmp neg n segs) avs k)) : Does P o [x, y] avs H fun r H' t f => holds (k r H' t f) := by
  rcases avs with _ | ⟨xa, _ | ⟨ya, _ | ⟨_, _⟩⟩⟩
  · exact (good.fail h).elim
  · cases xa <;> exact (good.fail h).elim
  · cases xa with
    | agg xs =>
      cases ya with
      | agg ys =>
        obtain ⟨hx, h⟩ := good.chk _ _ (show holds (A.chk _ _) from h)
        obtain ⟨hy, h⟩ := good.chk _ _ h
        have hx : xs.length = n := by simpa [ops0] using hx
        have hy : ys.length = n := by simpa [ops0] using hy
        cases hT with
        | arr e kd _ i ht he hi h1 =>
          obtain ⟨us, vs, hus, hvs, h⟩ := segsK_arr good h hx hy
          refine ⟨_, _, _, _, h, quiet2 fun ρ w a g hv hu _ _ => ⟨_, ?_, .bool _⟩⟩
          obtain ⟨ps, hpe, hpl, _, hpli⟩ := lies_agg hv
          obtain ⟨qs, hqe, hql, _, hqli⟩ := lies_agg hu
          have hul : us.length = n := by rw [← hx, hus]; simp
          have hvl : vs.length = n := by rw [← hy, hvs]; simp
          rw [hus] at hpli
          rw [hvs] at hqli
          have e1 := lies_ints (by omega) hpli
          have e2 := lies_ints (by omega) hqli
          refine run_acmp ho hg hpe hqe ?_
          rw [e1, e2]
          exact run_ints 9998 ⟨ht, he, hi, h1⟩ us vs hul hvl w
        | str fs _ _ ht hp hs =>
          obtain ⟨b, h, hb⟩ := segsK_sound good h
          refine ⟨_, _, _, _, h, quiet2 fun ρ w a g hv hu _ _ => ⟨_, ?_, .bool _⟩⟩
          obtain ⟨ps, hpe, hpl, _, hpli⟩ := lies_agg hv
          obtain ⟨qs, hqe, hql, _, hqli⟩ := lies_agg hu
          refine run_acmp ho hg hpe hqe ?_
          have hfs : P.fieldsOf t = fs := by simp [Program.fieldsOf, ht]
          rw [show (10000 : Nat) = 9999 + 1 from rfl, run_equalIn_struct w 9999 t _ _ (by rw [hfs]; exact ht) hp, hfs]
          exact hb fs.toList hs ρ w ps qs 9997 hpl hql hpli hqli
      | _ => exact (good.fail h).elim
    | _ => exact (good.fail h).elim
  · cases xa <;> first | exact (good.fail h).elim | (cases ya <;> exact (good.fail h).elim)

omit good in
theorem foldl_bytes (l : List UInt8) (s : ByteArray) : (l.map fun b => (b.toNat : Int)).foldl (fun r n => r.push (UInt8.ofNat n.toNat)) s = ⟨s.data ++ l.toArray⟩ := by
  induction l generalizing s with
  | nil => simp
  | cons b l ih =>
    simp only [List.map_cons, List.foldl_cons, ih]
    simp [ByteArray.push]

theorem s_b2s {s t : TypeId} {x : Operand} {e : TypeId} (ho : o.op = .convert s t x) (hs : P.underlying s = some (.slice e)) (he : P.underlying e = some (.int .u8)) (ht : P.underlying t = some .string)
    (h : holds (ex A ops0 cf H .b2s avs k)) : Does P o [x] avs H fun r H' t f => holds (k r H' t f) := by
  have main : ∀ {xa : AV}, (∀ ρ w v, VRel ρ w xa v → ∃ ao n c, v = .slice ao n c) → holds (elemsK A ops0 H 1 xa fun cs _ ft => A.byts cs fun s => k (.str s) H [] ft) →
      Does P o [x] [xa] H fun r H' t f => holds (k r H' t f) := by
    intro xa hsl h
    obtain ⟨cs, n, ft, h, hel⟩ := elemsK_sound good h
    obtain ⟨l, hl, h⟩ := good.byts _ _ h
    refine ⟨_, _, _, _, h, quiet1 fun ρ w a g hv hag hg => ⟨_, ?_, .str l⟩⟩
    have E := hel P ρ w g _ hv hag hg
    obtain ⟨ao, m, c, hve⟩ := hsl ρ w _ hv
    rw [hve] at E
    have hm : m = n := by
      have := E.lenOf
      simp [Builtin.lenOf] at this
      exact this
    subst hm
    have hcl := E.len
    obtain ⟨vs, h1, h2, h3, _⟩ := E.first m (Nat.le_refl _)
    have hll : l.length = m := by
      have := congrArg List.length hl
      simp at this; omega
    rw [List.take_of_length_le (by omega), hl] at h3
    have hmap : (l.map fun b => AV.int .u8 b.toNat) = (l.map fun b => (b.toNat : Int)).map (AV.int .u8) := by simp
    rw [hmap] at h3
    have hvs := lies_ints (by simp; omega) h3
    have hconv : (execOp a.eval o).run P w = ((Conv.bytesToString (.slice ao m c)).run P w).andThen fun v w' => .ok (.value v) w' := by
      simp only [execOp, ho, hve, Sem.run_bind, run_convert_bytes_string w s t e ao m c hs he ht, Sem.run_pure]
    rw [hconv]
    cases ao with
    | none =>
      have : m * 1 = 0 := by
        simp only [Builtin.firstCells, Sem.run_pure, Result.ok.injEq, and_true] at h2
        have := congrArg Array.size h2
        simp at this; omega
      have hln : l = [] := by apply List.eq_nil_of_length_eq_zero; omega
      subst hln
      simp only [Conv.bytesToString, Sem.run_pure, Result.andThen_ok]
      rfl
    | some ad =>
      simp only [Builtin.firstCells, Nat.mul_one] at h2
      rw [run_bytesToString w ad m c (l.map fun b => (b.toNat : Int)) (by rw [h2, hvs]), foldl_bytes]
      simp [ByteArray.empty, ByteArray.emptyWithCapacity]
      rfl
  rcases avs with _ | ⟨xa, _ | ⟨_, _⟩⟩
  · exact (good.fail h).elim
  · cases xa with
    | str => exact (good.fail h).elim
    | nils => exact main (fun ρ w v hv => ⟨none, 0, 0, inv_nils hv⟩) h
    | slc b of len cap sz => exact main (fun ρ w v hv => by
        cases hv with
        | slc _ _ _ _ _ _ h0 hs hvo hh => obtain ⟨ao, c, rfl, _⟩ := hs; exact ⟨_, _, _, rfl⟩) h
    | ros cs off len cap ex => exact main (fun ρ w v hv => by cases hv; exact ⟨_, _, _, rfl⟩) h
    | _ => exact (good.fail h).elim
  · cases xa <;> exact (good.fail h).elim

omit good in
theorem run_builtin {b : Builtin} {args : Array Operand} {ats : Array TypeId} (ho : o.op = .call { callee := .builtin b, args, argTypes := ats }) (a : Act) (w : World) :
    (execOp a.eval o).run P w = (builtin b ats o.type (args.map fun | .const _ => true | _ => false) (args.map a.eval)).run P w := by
  simp only [execOp, ho, resolve, Sem.run_bind, Sem.run_pure, Result.andThen_ok, invoke]
  rfl

theorem s_len {x : Operand} {t e : TypeId} (ho : o.op = .call { callee := .builtin .len, args := #[x], argTypes := #[t] }) (ht : P.underlying t = some (.slice e))
    (h : holds (ex A ops0 cf H .len avs k)) : Does P o [x] avs H fun r H' t f => holds (k r H' t f) := by
  have slice : ∀ (a : Act) (w : World) ao n c, a.eval x = .slice ao n c → (execOp a.eval o).run P w = .ok (.value (.int .i64 (n : Int))) w := by
    intro a w ao n c hve
    rw [run_builtin ho]
    simp [builtin, Builtin.len_, run_underlying ht, hve, goInt]
  rcases avs with _ | ⟨xa, _ | ⟨_, _⟩⟩
  · exact (good.fail h).elim
  · cases xa with
    | nils => exact ⟨_, _, _, _, h, quiet1 fun ρ w a g hv _ _ => ⟨_, slice a w _ _ _ (inv_nils hv), .int _ _⟩⟩
    | slc b of len cap sz =>
      refine ⟨_, _, _, _, h, quiet1 fun ρ w a g hv _ _ => ?_⟩
      generalize hve : a.eval x = ve at hv
      cases hv with
      | slc _ _ _ _ _ _ h0 hs hvo hh => obtain ⟨ao, c, rfl, _⟩ := hs; exact ⟨_, slice a w _ _ _ hve, .int _ _⟩
    | ros cs off len cap ex =>
      refine ⟨_, _, _, _, h, quiet1 fun ρ w a g hv _ _ => ?_⟩
      generalize hve : a.eval x = ve at hv
      cases hv with
      | ros => exact ⟨_, slice a w _ _ _ hve, .int _ _⟩
    | _ => exact (good.fail h).elim
  · cases xa <;> exact (good.fail h).elim

theorem s_lenT {x : Operand} {t : TypeId} (ho : o.op = .call { callee := .builtin .len, args := #[x], argTypes := #[t] }) (ht : P.underlying t = some .string)
    (h : holds (ex A ops0 cf H .lenT avs k)) : Does P o [x] avs H fun r H' t f => holds (k r H' t f) := by
  rcases avs with _ | ⟨xa, _ | ⟨_, _⟩⟩
  · exact (good.fail h).elim
  · cases xa with
    | str s =>
      refine ⟨_, _, _, _, h, quiet1 fun ρ w a g hv _ _ => ⟨_, ?_, .int _ _⟩⟩
      rw [run_builtin ho]
      simp [builtin, Builtin.len_, run_underlying ht, inv_str hv, goInt]
      rfl
    | _ => exact (good.fail h).elim
  · cases xa <;> exact (good.fail h).elim

omit good in
theorem s_lenA {x : Operand} {t e : TypeId} {n : Nat} (ho : o.op = .call { callee := .builtin .len, args := #[x], argTypes := #[t] }) (ht : P.underlying t = some (.array n e))
    (h : holds (ex A ops0 cf H (.lenA n) avs k)) (good : A.Good holds) : Does P o [x] avs H fun r H' t f => holds (k r H' t f) := by
  rcases avs with _ | ⟨xa, _ | ⟨_, _⟩⟩
  · exact (good.fail h).elim
  · refine ⟨_, _, _, _, h, quiet1 fun ρ w a g hv _ _ => ⟨_, ?_, .int _ _⟩⟩
    rw [run_builtin ho]
    simp [builtin, Builtin.len_, run_underlying ht, goInt]
  · exact (good.fail h).elim

end
end Go.Vm

namespace Go.Vm

/-! ### 'fill' -/

theorem foldl_set (vs : List Value) : ∀ (j off : Nat) (c : List Value), off + j + vs.length ≤ c.length →
    (vs.zipIdx j).foldl (fun (cs : Array Value) (p : Value × Nat) => cs.setIfInBounds (off + p.2) p.1) c.toArray = (spliceL c (off + j) vs).toArray := by
  induction vs with
  | nil => intro j off c h; simp [spliceL]
  | cons v vs ih =>
    intro j off c h
    simp only [List.length_cons] at h
    simp only [List.zipIdx_cons, List.foldl_cons, List.setIfInBounds_toArray]
    rw [ih (j + 1) off (c.set (off + j) v) (by simp; omega)]
    rw [show off + (j + 1) = off + j + 1 by omega, splice_cons (by omega)]

theorem lies_splice {ρ : Rho} {w : World} {z cs : List AV} {c vs : List Value} {off : Nat} (hz : c.length = z.length) (hl : cs.length = vs.length) (ho : off + cs.length ≤ z.length) (h : Lies ρ w z 0 c.toArray) (hc : Lies ρ w cs 0 vs.toArray) :
    Lies ρ w (spliceL z off cs) 0 (spliceL c off vs).toArray := by
  intro i a hi
  have g1 := splice_get z off cs ho i
  have g2 := splice_get c off vs (by omega) i
  rw [g1] at hi
  simp only [Nat.zero_add, List.getElem?_toArray]
  rw [g2]
  split at hi
  · rename_i h1
    rw [if_pos h1]
    obtain ⟨v, p, q, r⟩ := h i a hi
    exact ⟨v, by simpa using p, q, r⟩
  · rename_i h1
    rw [if_neg h1]
    split at hi
    · rename_i h2
      rw [if_pos (by omega)]
      obtain ⟨v, p, q, r⟩ := hc _ a hi
      exact ⟨v, by simpa using p, q, r⟩
    · rename_i h2
      rw [if_neg (by omega)]
      obtain ⟨v, p, q, r⟩ := h i a hi
      exact ⟨v, by simpa using p, q, r⟩

/-- The places of the parts. -/
def placesOf (f : Nat → Option (Nat × Nat)) : List Nat → Option (List (Nat × Nat))
  | [] => some []
  | j :: js => match f j, placesOf f js with
    | some p, some ps => some (p :: ps)
    | _, _ => none

section
variable {R : Type} {A : Alg R} {holds : R → Prop} (good : A.Good holds)
include good

theorem fillK_sound : ∀ {pl : List (Nat × Nat)} {xs z : List AV} {k : List AV → R}, holds (fillK A ops0 z pl xs k) →
    ∃ cs, holds (k cs) ∧ cs.length = z.length ∧ ∀ (ρ : Rho) (w : World) (vs c : List Value) (f : Nat → Option (Nat × Nat)) (js : List Nat), VRels ρ w xs vs → c.length = z.length → Lies ρ w z 0 c.toArray → placesOf f js = some pl →
      ∃ c' : List Value, Instr.fill f c.toArray (js.zip vs) = some c'.toArray ∧ c'.length = z.length ∧ Lies ρ w cs 0 c'.toArray := by
  intro pl
  induction pl with
  | nil =>
    intro xs z k h
    cases xs with
    | nil =>
      refine ⟨z, h, rfl, fun ρ w vs c f js hx hc hz hp => ?_⟩
      refine ⟨c, ?_, hc, hz⟩
      have : vs = [] := by have := hx.len; simpa using this
      subst this
      simp [Instr.fill]
    | cons => exact (good.fail h).elim
  | cons p pl ih =>
    intro xs z k h
    cases xs with
    | nil => exact (good.fail h).elim
    | cons x xs =>
      obtain ⟨off, n⟩ := p
      obtain ⟨cs, h, hcn, hcs⟩ := cells1K_sound good (show holds (cells1K A ops0 x n _) from h)
      obtain ⟨hle, h⟩ := good.chk _ _ h
      have hle : off + n ≤ z.length := by simpa [ops0] using hle
      obtain ⟨ds, h, hdl, hds⟩ := ih h
      have hspl : (ops0.spl z off cs).length = z.length := splice_length _ _ _ (by omega)
      refine ⟨ds, h, hdl.trans hspl, fun ρ w vs c f js hx hc hz hp => ?_⟩
      cases vs with
      | nil => have := hx.len; simp at this
      | cons v vs =>
        cases js with
        | nil => simp [placesOf] at hp
        | cons j js =>
          unfold placesOf at hp
          split at hp
          · rename_i q qs hq hqs
            cases hp
            obtain ⟨hsz, hli⟩ := hcs ρ w v hx.head
            have hvl : v.cells.toList.length = n := by simpa using hsz
            obtain ⟨c', h1, h2, h3⟩ := hds ρ w vs (spliceL c off v.cells.toList) f js hx.tail (by rw [hspl]; exact (splice_length _ _ _ (by omega)).trans hc)
              (lies_splice hc (by omega) (by omega) hz (by simpa using hli)) hqs
            refine ⟨c', ?_, h2.trans hspl, h3⟩
            simp only [List.zip_cons_cons, Instr.fill, hq]
            rw [if_neg (by simp [hsz]; omega)]
            have e := foldl_set v.cells.toList 0 off c (by omega)
            rw [Nat.add_zero] at e
            have e2 : v.cells.zipIdx.foldl (fun (cs : Array Value) (x : Value × Nat) => match x with | (c, j) => cs.setIfInBounds (off + j) c) c.toArray = (spliceL c off v.cells.toList).toArray := by
              rw [← e, ← Array.foldl_toList]
              simp
            rw [show v.cells.zipIdx.foldl _ c.toArray = (spliceL c off v.cells.toList).toArray from e2]
            exact h1
          · cases hp
end

section
variable {R : Type} {A : Alg R} {holds : R → Prop} (good : A.Good holds) {P : Program} {o : Oper} {avs : List AV} {H : Hl} {cf : CallF R} {k : ExK R}
include good

/-- A struct's parts. -/
def fieldPl (P : Program) (fs : Array Field) (j : Nat) : Option (Nat × Nat) :=
  match fs[j]? with
  | some f => match P.info? f.type with
    | some i => some (f.offset, i.size)
    | none => none
  | none => none

omit good in
theorem run_places {fs : List Field} (h : ∀ f ∈ fs, ∃ i, P.info? f.type = some i) (w : World) :
    (fs.mapM fun f => do pure (f.offset, ← sizeOf f.type) : Sem (List (Nat × Nat))).run P w = .ok (fs.map fun f => (f.offset, P.cellsOf f.type)) w := by
  induction fs with
  | nil => simp
  | cons f fs ih =>
    obtain ⟨i, hi⟩ := h f (by simp)
    simp only [List.mapM_cons, Sem.run_bind, run_size hi, Sem.run_pure, Result.andThen_ok, ih (fun g hg => h g (by simp [hg]))]
    simp [Program.cellsOf, hi]

theorem s_mkS {t : TypeId} {parts : Array (Nat × Operand)} {fs : Array Field} {i : TypeInfo} {z : Value} {zs : List AV} {pl : List (Nat × Nat)} (ho : o.op = .build t parts) (ht : P.underlying t = some (.struct fs))
    (hi : P.info? t = some i) (hz : i.zero = some z) (hs : toAVs z.cells.toList = some zs) (hall : ∀ f ∈ fs.toList, ∃ i, P.info? f.type = some i) (hp : placesOf (fieldPl P fs) (parts.toList.map (·.1)) = some pl)
    (h : holds (ex A ops0 cf H (.mk zs pl) avs k)) : Does P o (parts.toList.map (·.2)) avs H fun r H' t f => holds (k r H' t f) := by
  have h : holds (fillK A ops0 zs pl avs fun cs => k (.agg cs) H [] []) := h
  obtain ⟨cs, h, hcl, hcs⟩ := fillK_sound good h
  refine ⟨_, _, _, _, h, .quiet fun ρ w a g hx _ _ => ?_⟩
  have hzl : z.cells.toList.length = zs.length := (toAVs_rel hs).1.symm
  have hpl : ∀ js pl, placesOf (fieldPl P fs) js = some pl → placesOf (fun j => ((fs.toList.map fun f => (f.offset, P.cellsOf f.type)).toArray)[j]?) js = some pl := by
    intro js
    induction js with
    | nil => intro pl h; exact h
    | cons j js ih =>
      intro pl h
      unfold placesOf at h ⊢
      split at h
      · rename_i p ps hp hps
        rw [ih _ hps]
        unfold fieldPl at hp
        cases hf : fs[j]? with
        | none => simp [hf] at hp
        | some f =>
          simp only [hf] at hp
          cases hfi : P.info? f.type with
          | none => simp [hfi] at hp
          | some fi =>
            simp only [hfi] at hp
            have hft : fs.toList[j]? = some f := by simpa using hf
            cases hp
            cases h
            simp [hf, Program.cellsOf, hfi]
      · cases h
  obtain ⟨c', h1, h2, h3⟩ := hcs ρ w ((parts.toList.map (·.2)).map a.eval) z.cells.toList _ (parts.toList.map (·.1)) hx hzl (by have := toAVs_lies hs ρ w; exact this) (hpl _ _ hp)
  refine ⟨.agg c'.toArray, ?_, agg_of_lies (h2.trans hcl.symm) h3⟩
  have hparts : (parts.map fun (p : Nat × Operand) => (p.1, a.eval p.2)).toList = (parts.toList.map (·.1)).zip ((parts.toList.map (·.2)).map a.eval) := by
    rw [Array.toList_map]
    induction parts.toList with
    | nil => rfl
    | cons p l ih => simp [ih]
  have hm : (fs.mapM fun f => do pure (f.offset, ← sizeOf f.type) : Sem (Array (Nat × Nat))).run P w = .ok (fs.toList.map fun f => (f.offset, P.cellsOf f.type)).toArray w := by
    rw [Array.mapM_eq_mapM_toList]
    simp only [Sem.run_map, run_places hall w, Result.andThen_ok]
  simp only [execOp, ho, Instr.build, Sem.run_bind, run_zero hi hz, run_underlying ht, Result.andThen_ok, hm]
  have e : (parts.map fun x => (match x with | (i, x) => (i, a.eval x))).toList = (parts.toList.map (·.1)).zip ((parts.toList.map (·.2)).map a.eval) := hparts
  have ezz : z.cells = z.cells.toList.toArray := by simp
  rw [e, ezz, h1]
  simp

theorem s_mkA {t e : TypeId} {n : Nat} {parts : Array (Nat × Operand)} {i j : TypeInfo} {z : Value} {zs : List AV} {pl : List (Nat × Nat)} (ho : o.op = .build t parts) (ht : P.underlying t = some (.array n e))
    (hi : P.info? t = some i) (hz : i.zero = some z) (hs : toAVs z.cells.toList = some zs) (hj : P.info? e = some j) (hp : placesOf (fun i => some (i * j.size, j.size)) (parts.toList.map (·.1)) = some pl)
    (h : holds (ex A ops0 cf H (.mk zs pl) avs k)) : Does P o (parts.toList.map (·.2)) avs H fun r H' t f => holds (k r H' t f) := by
  have h : holds (fillK A ops0 zs pl avs fun cs => k (.agg cs) H [] []) := h
  obtain ⟨cs, h, hcl, hcs⟩ := fillK_sound good h
  refine ⟨_, _, _, _, h, .quiet fun ρ w a g hx _ _ => ?_⟩
  have hzl : z.cells.toList.length = zs.length := (toAVs_rel hs).1.symm
  obtain ⟨c', h1, h2, h3⟩ := hcs ρ w ((parts.toList.map (·.2)).map a.eval) z.cells.toList _ (parts.toList.map (·.1)) hx hzl (by have := toAVs_lies hs ρ w; exact this) hp
  refine ⟨.agg c'.toArray, ?_, agg_of_lies (h2.trans hcl.symm) h3⟩
  have e : (parts.map fun x => (match x with | (i, x) => (i, a.eval x))).toList = (parts.toList.map (·.1)).zip ((parts.toList.map (·.2)).map a.eval) := by
    rw [Array.toList_map]
    induction parts.toList with
    | nil => rfl
    | cons p l ih => simp [ih]
  simp only [execOp, ho, Instr.build, Sem.run_bind, run_zero hi hz, run_underlying ht, Result.andThen_ok, run_size hj]
  have ezz : z.cells = z.cells.toList.toArray := by simp
  rw [e, ezz, h1]
  simp
end

end Go.Vm

namespace Go.Vm

theorem push_ext {ρ : Rho} {w : World} {g : Hp} (hr : HRel ρ w g) (o : Obj) (n : Nat) : Ext n ρ w ρ { w with heap := w.heap.push o } where
  size := by simp
  os := rfl
  tape := rfl
  output := rfl
  keep B hB _ := by simp only [Array.getElem?_push]; rw [if_neg (by omega)]
  slot b _ hb := .inl rfl
  fresh b B F hl := .inr ⟨b, F, hl⟩
  rows B hB := by simp only [rows, Array.getElem?_push]; rw [if_neg (by omega)]

theorem HRel.push {ρ : Rho} {w : World} {g : Hp} (hr : HRel ρ w g) (o : Obj) : HRel ρ { w with heap := w.heap.push o } g where
  unborn := hr.unborn
  dead := hr.dead
  inj := hr.inj
  live b cs h := by
    rcases hr.live b cs h with h' | ⟨B, F, c, e, lo, hi, hl, hh, hs, hf, hc⟩
    · exact .inl h'
    · refine .inr ⟨B, F, c, e, lo, hi, hl, ?_, hs, hf, lies_bound (push_ext hr o) hc⟩
      have := hr.lt hl
      simp only [Array.getElem?_push]
      rw [if_neg (by omega)]
      exact hh
  marks b B F c e lo hi h1 h2 := by
    have := hr.lt h1
    simp only [Array.getElem?_push] at h2
    rw [if_neg (by omega)] at h2
    exact hr.marks b B F c e lo hi h1 h2

theorem rep_get {α : Type} (z : List α) (n i : Nat) (hz : z ≠ []) : ((List.replicate n z).flatten)[i]? = if i < n * z.length then z[i % z.length]? else none := by
  have hp : 0 < z.length := List.length_pos_iff.2 hz
  induction n generalizing i with
  | zero => simp
  | succ n ih =>
    simp only [List.replicate_succ, List.flatten_cons]
    by_cases h : i < z.length
    · rw [List.getElem?_append_left h, if_pos (by rw [Nat.add_mul, Nat.one_mul]; omega), Nat.mod_eq_of_lt h]
    · rw [List.getElem?_append_right (by omega), ih]
      have e : (i - z.length) % z.length = i % z.length := by
        conv => rhs; rw [show i = (i - z.length) + z.length by omega, Nat.add_mod_right]
      rw [e]
      have e2 : (n + 1) * z.length = n * z.length + z.length := by rw [Nat.add_mul, Nat.one_mul]
      rw [e2]
      by_cases h2 : i - z.length < n * z.length
      · rw [if_pos h2, if_pos (by omega)]
      · rw [if_neg h2, if_neg (by omega)]

/-- The rows that 'make' lays. -/
theorem lies_rep {z : Array Value} {zs : List AV} (hs : toAVs z.toList = some zs) (n : Nat) (ρ : Rho) (w : World) :
    Lies ρ w (List.replicate n zs).flatten 0 ((Array.range (n * z.size)).map (z[· % z.size]!)) := by
  intro i a hi
  have hl := (toAVs_rel hs).1
  by_cases hz : zs = []
  · subst hz; simp at hi
  · rw [rep_get zs n i hz] at hi
    split at hi
    · rename_i hlt
      obtain ⟨v, h1, h2⟩ := (toAVs_rel hs).2 _ a hi
      have hsz : zs.length = z.size := by simpa using hl
      rw [hsz] at hlt h1
      refine ⟨v, ?_, toAV_one h2, toAV_rel h2 ρ w⟩
      have hzp : 0 < z.size := by
        rw [← hsz]; exact List.length_pos_iff.2 hz
      have hm : i % z.size < z.size := Nat.mod_lt _ hzp
      have h1' : z[i % z.size]? = some v := by simpa using h1
      simp only [Nat.zero_add, Array.getElem?_map, Array.getElem?_range, hlt, if_true, Option.map_some]
      rw [getElem!_pos z (i % z.size) hm]
      rw [Array.getElem?_eq_getElem hm] at h1'
      exact h1'
    · cases hi

theorem rep_length {α : Type} (z : List α) (n : Nat) : ((List.replicate n z).flatten).length = n * z.length := by
  induction n with
  | zero => simp
  | succ n ih => simp only [List.replicate_succ, List.flatten_cons, List.length_append, ih]; rw [Nat.add_mul, Nat.one_mul]; omega

section
variable {R : Type} {A : Alg R} {holds : R → Prop} (good : A.Good holds) {P : Program} {o : Oper} {avs : List AV} {H : Hl} {cf : CallF R} {k : ExK R}
include good

theorem s_mks {t e : TypeId} {len : Nat} {parts : Array (Nat × Operand)} {j : TypeInfo} {z : Value} {zs : List AV} {pl : List (Nat × Nat)} (ho : o.op = .buildSlice t len parts) (ht : P.underlying t = some (.slice e))
    (hj : P.info? e = some j) (hsmall : len * j.size ≤ 2 ^ 24) (hz : j.zero = some z) (zc : Array Value) (hzc : zc = if len * j.size = 0 then #[] else z.cells)
    (hs : toAVs ((Array.range (len * j.size)).map (zc[· % zc.size]!)).toList = some zs) (hp : placesOf (fun i => some (i * j.size, j.size)) (parts.toList.map (·.1)) = some pl)
    (h : holds (ex A ops0 cf H (.mks zs len pl) avs k)) : Does P o (parts.toList.map (·.2)) avs H fun r H' t f => holds (k r H' t f) := by
  have h : holds (fillK A ops0 zs pl avs fun cs => k (.ros cs 0 len len true) H [] []) := h
  obtain ⟨cs, h, hcl, hcs⟩ := fillK_sound good h
  refine ⟨_, _, _, _, h, ⟨Nat.le_refl _, (fun b hb => by cases hb), fun _ _ _ => rfl, ?_⟩⟩
  intro ρ w a g hx _ _ _ hg
  have hzl := (toAVs_rel hs).1.symm
  obtain ⟨c', h1, h2, h3⟩ := hcs ρ w ((parts.toList.map (·.2)).map a.eval) _ _ (parts.toList.map (·.1)) hx hzl (toAVs_lies hs ρ w) hp
  have e1 : (parts.map fun x => (match x with | (i, x) => (i, a.eval x))).toList = (parts.toList.map (·.1)).zip ((parts.toList.map (·.2)).map a.eval) := by
    rw [Array.toList_map]
    induction parts.toList with
    | nil => rfl
    | cons p l ih => simp [ih]
  have hrun : (execOp a.eval o).run P w = .ok (.value (.slice (some ⟨w.heap.size, 0, none⟩) len len)) { w with heap := w.heap.push (.cells c'.toArray e) } := by
    rw [Array.toArray_toList] at h1
    simp only [execOp, ho, Instr.buildSlice, Sem.run_bind, run_underlying ht, run_size hj, Result.andThen_ok]
    rw [if_neg (by omega), e1]
    by_cases h0 : len * j.size = 0
    · rw [if_pos h0] at hzc
      subst hzc
      rw [if_pos h0]
      simp only [Sem.run_bind, Sem.run_pure, Result.andThen_ok]
      rw [h1]
      simp [newRow]
    · rw [if_neg h0] at hzc
      subst hzc
      rw [if_neg h0]
      simp only [Sem.run_bind, Sem.run_pure, Result.andThen_ok, run_zero hj hz]
      rw [h1]
      simp [newRow]
  refine OpDo.value hrun ⟨ρ, ?_, ?_, push_ext hg _⟩
  · rw [news_self, List.append_nil, upd_nil]
    exact hg.push _
  · have E := push_ext hg (.cells c'.toArray e)
    refine .ros cs 0 len len true w.heap.size 0 _ len c' (fun _ => by simp) (fun _ => hg.unowned (Nat.le_refl _)) (by omega) ?_ ?_ ?_ (Nat.le_refl _) (Nat.le_refl _) (fun _ => rfl) (fun _ => rfl)
    · have := agg_of_lies (h2.trans hcl.symm) h3
      cases this with
      | agg _ _ _ ho _ => exact ho
    · intro i v hv
      simp [World.cell?, hv]
    · intro i b v hb hv
      have := agg_of_lies (h2.trans hcl.symm) h3
      cases this with
      | agg _ _ _ _ hr => exact ext_bound E (hr i b v hb hv)

omit good in
theorem wrap_small {n : Int} (h0 : 0 ≤ n) (h : n ≤ 1099511627776) : IntKind.i64.wrap n = n := IntWalk.i64_in n (by omega)

theorem s_mksl {t e : TypeId} {x y : Operand} {j : TypeInfo} {z : Value} {zs : List AV} (ho : o.op = .makeSlice t x y) (ht : P.underlying t = some (.slice e)) (hj : P.info? e = some j) (hz : j.zero = some z)
    (hs : toAVs z.cells.toList = some zs) (hsz : z.cells.size = j.size) (h : holds (ex A ops0 cf H (.mksl zs j.bytes) avs k)) : Does P o [x, y] avs H fun r H' t f => holds (k r H' t f) := by
  rcases avs with _ | ⟨xa, _ | ⟨ya, _ | ⟨_, _⟩⟩⟩
  · exact (good.fail h).elim
  · cases xa <;> exact (good.fail h).elim
  · cases xa with
    | int kx l =>
      cases ya with
      | int ky c =>
        obtain ⟨hm, h⟩ := good.chk _ _ (show holds (A.chk (ops0.mkr l c j.bytes) (k (.slc (size H) 0 (ops0.nat l) (ops0.nat c) (size zs)) (join H [.cells (ops0.rep (ops0.nat c) zs)]) [] [])) from h)
        obtain ⟨hl0, hlc, hb⟩ : 0 ≤ l ∧ l ≤ c ∧ (c + 1) * ((j.bytes : Int) + 1) ≤ 1099511627776 := by
          have := hm
          simp only [ops0, Bool.and_eq_true, decide_eq_true_eq] at this
          exact ⟨this.1.1, this.1.2, this.2⟩
        have hc1 : c + 1 ≤ (c + 1) * ((j.bytes : Int) + 1) := by
          have : (c + 1) * 1 ≤ (c + 1) * ((j.bytes : Int) + 1) := Int.mul_le_mul_of_nonneg_left (by omega) (by omega)
          omega
        have hcb : (j.bytes : Int) * c ≤ (c + 1) * ((j.bytes : Int) + 1) := by
          have : (c + 1) * ((j.bytes : Int) + 1) = (j.bytes : Int) * c + (c + j.bytes + 1) := by
            rw [Int.add_mul, Int.mul_add, Int.mul_comm c]; omega
          omega
        rw [size_eq, join_eq, size_eq] at h
        refine ⟨_, _, _, _, h, .alloc fun ρ w a g hx _ hg => ⟨.slice (some ⟨w.heap.size, 0, none⟩) l.toNat c.toNat, w.drawn, (Array.range (c.toNat * z.cells.size)).map (z.cells[· % z.cells.size]!), e, ?_, ?_, ?_, ?_⟩⟩
        · have hxv := inv_int hx.two.1
          have hyv := inv_int hx.two.2
          have hwl := wrap_small hl0 (by omega)
          have hwc := wrap_small (n := c) (by omega) (by omega)
          simp only [execOp, ho, Instr.makeSlice, Sem.run_bind, run_underlying ht, Result.andThen_ok, hxv, hyv, asInt, asIntOf, Sem.run_pure, typeInfo, run_program, hj, hwl, hwc]
          have e1 : (decide (c < 0) || decide ((j.bytes : Int) * c > 2 ^ 48)) = false := by simp; omega
          have e2 : (decide (l < 0)) = false := by simp; omega
          have e3 : (decide (l > c)) = false := by simp; omega
          simp only [e1, e2, e3, Bool.or_false, Bool.false_eq_true, if_false, Sem.run_bind, run_askRoom, Result.andThen_ok, run_size hj, Sem.run_pure]
          rw [hsz]
          by_cases hc0 : c.toNat * j.size = 0
          · have e0 : ∀ f : Nat → Value, (Array.range 0).map f = #[] := fun f => by apply Array.eq_empty_of_size_eq_zero; simp
            simp only [hc0, if_true, Sem.run_bind, Sem.run_pure, Result.andThen_ok, newRow, run_newObj_alloc, e0]
            rfl
          · simp only [hc0, if_false, Sem.run_bind, Sem.run_pure, Result.andThen_ok, newRow, run_newObj_alloc, run_zero hj hz, hsz]
            simp
        · rw [show ops0.rep (ops0.nat c) zs = (List.replicate c.toNat zs).flatten from rfl, rep_length]
          have := (toAVs_rel hs).1
          simp at this
          simp [this]
        · have := lies_rep hs c.toNat ρ w
          exact this
        · intro ρ' w' hl hr
          have hlen : zs.length = z.cells.size := by have := (toAVs_rel hs).1; simpa using this
          refine .slc _ _ _ _ _ _ (by rw [hl]; simp) ⟨_, _, rfl, ?_, Nat.le_refl _, fun _ => ⟨_, _, rfl⟩⟩ (by rw [hl]; simp) ?_
          · simp only [ops0]; omega
          · intro B F hlb
            rw [hl] at hlb
            cases hlb
            refine ⟨_, _, Nat.le_refl _, ?_, rfl, fun _ => rfl, ?_⟩
            · simp only [ops0]; omega
            · rw [hr, hlen]; simp [ops0]
      | _ => exact (good.fail h).elim
    | _ => exact (good.fail h).elim
  · cases xa <;> first | exact (good.fail h).elim | (cases ya <;> exact (good.fail h).elim)

end
end Go.Vm

namespace Go.Vm

theorem run_bound {P : Program} {w : World} {kd : IntKind} {i : Int} {y : Nat} {code : BoundsCode} (h : 0 ≤ i ∧ i ≤ y) : (Instr.sliceBound (.int kd i) y code).run P w = .ok i.toNat w := by
  simp [Instr.sliceBound, asIntOf, h]

/-- What the bounds of a slice expression come to. -/
structure Bds (lo hi mx : Bool) (ys : List AV) (len cap l h m : Nat) : Prop where
  le : l ≤ h
  max : mx = true → h ≤ m ∧ m ≤ cap
  free : mx = false → m = cap ∧ (h = len ∨ h ≤ cap)
  run : ∀ (P : Program) (ρ : Rho) (w : World) (isS : Bool) (cap' : Nat) (low high mx' : Option Value), cap ≤ cap' → len ≤ cap' → VRels ρ w ys (low.toList ++ high.toList ++ mx'.toList) →
    low.isSome = lo → high.isSome = hi → mx'.isSome = mx → (Instr.sliceBounds isS len cap' low high mx').run P w = .ok (l, h, if mx then m else cap') w

section
variable {R : Type} {A : Alg R} {holds : R → Prop} (good : A.Good holds)
include good

theorem boundsK_sound {lo hi mx : Bool} {ys : List AV} {len cap : Nat} {k : Nat → Nat → Nat → R} (h : holds (boundsK A ops0 lo hi mx ys len cap k)) :
    ∃ l h m, holds (k l h m) ∧ Bds lo hi mx ys len cap l h m := by
  cases mx with
  | false =>
    cases lo with
    | false =>
      cases hi with
      | false =>
        rcases ys with _ | ⟨_, _⟩
        · refine ⟨_, _, _, h, Nat.zero_le _, by simp, fun _ => ⟨rfl, .inl rfl⟩, ?_⟩
          intro P ρ w isS cap' low high mx' hc hl hx h1 h2 h3
          cases low <;> cases high <;> cases mx' <;> simp at h1 h2 h3
          simp [Instr.sliceBounds]
        · exact (good.fail h).elim
      | true =>
        rcases ys with _ | ⟨y, _ | ⟨_, _⟩⟩
        · exact (good.fail h).elim
        · cases y with
          | int kd i =>
            obtain ⟨hb, h⟩ := good.chk _ _ (show holds (A.chk _ _) from h)
            have hb := inb0 hb
            refine ⟨_, _, _, h, Nat.zero_le _, by simp, fun _ => ⟨rfl, .inr (by simp only [ops0]; omega)⟩, ?_⟩
            intro P ρ w isS cap' low high mx' hc hl hx h1 h2 h3
            cases low <;> cases high <;> cases mx' <;> simp at h1 h2 h3
            simp at hx
            rw [inv_int hx.one]
            simp [Instr.sliceBounds, run_bound (P := P) (w := w) (kd := kd) (i := i) (y := cap') (by omega), ops0]
          | _ => exact (good.fail h).elim
        · cases y <;> exact (good.fail h).elim
    | true =>
      cases hi with
      | false =>
        rcases ys with _ | ⟨y, _ | ⟨_, _⟩⟩
        · exact (good.fail h).elim
        · cases y with
          | int kd i =>
            obtain ⟨hb, h⟩ := good.chk _ _ (show holds (A.chk _ _) from h)
            have hb := inb0 hb
            refine ⟨_, _, _, h, by simp only [ops0]; omega, by simp, fun _ => ⟨rfl, .inl rfl⟩, ?_⟩
            intro P ρ w isS cap' low high mx' hc hl hx h1 h2 h3
            cases low <;> cases high <;> cases mx' <;> simp at h1 h2 h3
            simp at hx
            rw [inv_int hx.one]
            simp [Instr.sliceBounds, run_bound (P := P) (w := w) (kd := kd) (i := i) (y := len) (by omega), ops0]
          | _ => exact (good.fail h).elim
        · cases y <;> exact (good.fail h).elim
      | true =>
        rcases ys with _ | ⟨y, _ | ⟨y2, _ | ⟨_, _⟩⟩⟩
        · exact (good.fail h).elim
        · cases y <;> exact (good.fail h).elim
        · cases y with
          | int kd i =>
            cases y2 with
            | int kd2 i2 =>
              obtain ⟨hb, h⟩ := good.chk _ _ (show holds (A.chk _ _) from h)
              obtain ⟨hb2, h⟩ := good.chk _ _ h
              have hb := inb0 hb
              have hb2 := inb0 hb2
              have hb2' : 0 ≤ i ∧ i ≤ (i2.toNat : Int) := hb2
              refine ⟨_, _, _, h, by simp only [ops0]; omega, by simp, fun _ => ⟨rfl, .inr (by simp only [ops0]; omega)⟩, ?_⟩
              intro P ρ w isS cap' low high mx' hc hl hx h1 h2 h3
              cases low <;> cases high <;> cases mx' <;> simp at h1 h2 h3
              simp at hx
              rw [inv_int hx.two.1, inv_int hx.two.2]
              simp [Instr.sliceBounds, run_bound (P := P) (w := w) (kd := kd2) (i := i2) (y := cap') (by omega), run_bound (P := P) (w := w) (kd := kd) (i := i) (y := i2.toNat) (by omega), ops0]
            | _ => exact (good.fail h).elim
          | _ => exact (good.fail h).elim
        · cases y <;> first | exact (good.fail h).elim | (cases y2 <;> exact (good.fail h).elim)
  | true =>
    cases lo with
    | false =>
      cases hi with
      | false => rcases ys with _ | ⟨y, _ | ⟨y2, _⟩⟩ <;> exact (good.fail h).elim
      | true =>
        rcases ys with _ | ⟨y, _ | ⟨y2, _ | ⟨_, _⟩⟩⟩
        · exact (good.fail h).elim
        · cases y <;> exact (good.fail h).elim
        · cases y with
          | int kd i =>
            cases y2 with
            | int kd2 i2 =>
              obtain ⟨hb, h⟩ := good.chk _ _ (show holds (A.chk _ _) from h)
              obtain ⟨hb2, h⟩ := good.chk _ _ h
              have hb := inb0 hb
              have hb2 := inb0 hb2
              have hb2' : 0 ≤ i ∧ i ≤ (i2.toNat : Int) := hb2
              refine ⟨_, _, _, h, Nat.zero_le _, fun _ => by simp only [ops0]; omega, by simp, ?_⟩
              intro P ρ w isS cap' low high mx' hc hl hx h1 h2 h3
              cases low <;> cases high <;> cases mx' <;> simp at h1 h2 h3
              simp at hx
              rw [inv_int hx.two.1, inv_int hx.two.2]
              simp [Instr.sliceBounds, run_bound (P := P) (w := w) (kd := kd2) (i := i2) (y := cap') (by omega), run_bound (P := P) (w := w) (kd := kd) (i := i) (y := i2.toNat) (by omega), ops0]
            | _ => exact (good.fail h).elim
          | _ => exact (good.fail h).elim
        · cases y <;> first | exact (good.fail h).elim | (cases y2 <;> exact (good.fail h).elim)
    | true =>
      cases hi with
      | false => rcases ys with _ | ⟨y, _ | ⟨y2, _ | ⟨y3, _⟩⟩⟩ <;> exact (good.fail h).elim
      | true =>
        rcases ys with _ | ⟨y, _ | ⟨y2, _ | ⟨y3, _ | ⟨_, _⟩⟩⟩⟩
        · exact (good.fail h).elim
        · cases y <;> exact (good.fail h).elim
        · cases y <;> first | exact (good.fail h).elim | (cases y2 <;> exact (good.fail h).elim)
        · cases y with
          | int kd i =>
            cases y2 with
            | int kd2 i2 =>
              cases y3 with
              | int kd3 i3 =>
                obtain ⟨hb, h⟩ := good.chk _ _ (show holds (A.chk _ _) from h)
                obtain ⟨hb2, h⟩ := good.chk _ _ h
                obtain ⟨hb3, h⟩ := good.chk _ _ h
                have hb := inb0 hb
                have hb2 := inb0 hb2
                have hb3 := inb0 hb3
                have hb2' : 0 ≤ i2 ∧ i2 ≤ (i3.toNat : Int) := hb2
                have hb3' : 0 ≤ i ∧ i ≤ (i2.toNat : Int) := hb3
                refine ⟨_, _, _, h, by simp only [ops0]; omega, fun _ => by simp only [ops0]; omega, by simp, ?_⟩
                intro P ρ w isS cap' low high mx' hc hl hx h1 h2 h3
                cases low <;> cases high <;> cases mx' <;> simp at h1 h2 h3
                simp at hx
                rw [inv_int hx.three.1, inv_int hx.three.2.1, inv_int hx.three.2.2]
                simp [Instr.sliceBounds, run_bound (P := P) (w := w) (kd := kd3) (i := i3) (y := cap') (by omega), run_bound (P := P) (w := w) (kd := kd2) (i := i2) (y := i3.toNat) (by omega),
                  run_bound (P := P) (w := w) (kd := kd) (i := i) (y := i2.toNat) (by omega), ops0]
              | _ => exact (good.fail h).elim
            | _ => exact (good.fail h).elim
          | _ => exact (good.fail h).elim
        · cases y <;> first | exact (good.fail h).elim | (cases y2 <;> first | exact (good.fail h).elim | (cases y3 <;> exact (good.fail h).elim))
end

section
variable {R : Type} {A : Alg R} {holds : R → Prop} (good : A.Good holds) {P : Program} {o : Oper} {avs : List AV} {H : Hl} {cf : CallF R} {k : ExK R}
include good

/-- The operands of a slice expression. -/
def slOps (x : Operand) (lo hi mx : Option Operand) : List Operand := x :: (lo.toList ++ hi.toList ++ mx.toList)

omit good in
theorem opt_map (a : Act) (lo hi mx : Option Operand) : (lo.toList ++ hi.toList ++ mx.toList).map a.eval = (lo.map a.eval).toList ++ (hi.map a.eval).toList ++ (mx.map a.eval).toList := by
  cases lo <;> cases hi <;> cases mx <;> simp

theorem s_slS {t e : TypeId} {x : Operand} {lo hi mx : Option Operand} {i : TypeInfo} (ho : o.op = .slice t x lo hi mx) (ht : P.underlying t = some (.slice e)) (hi' : P.info? e = some i)
    (h : holds (ex A ops0 cf H (.slS i.size lo.isSome hi.isSome mx.isSome) avs k)) : Does P o (slOps x lo hi mx) avs H fun r H' t f => holds (k r H' t f) := by
  have hrun : ∀ (a : Act) (w : World) (ρ : Rho) ys len cap l h m ao cap', Bds lo.isSome hi.isSome mx.isSome ys len cap l h m → VRels ρ w ys ((lo.toList ++ hi.toList ++ mx.toList).map a.eval) → cap ≤ cap' → len ≤ cap' →
      a.eval x = .slice ao len cap' → (execOp a.eval o).run P w = .ok (.value (.slice (if (if mx.isSome then m else cap') = l then ao else ao.map (·.add (l * i.size))) (h - l) ((if mx.isSome then m else cap') - l))) w := by
    intro a w ρ ys len cap l h m ao cap' B hx hc hl hve
    rw [opt_map] at hx
    have hb := B.run P ρ w true cap' _ _ _ hc hl hx (by simp) (by simp) (by simp)
    simp only [execOp, ho, Instr.sliceAt, Sem.run_bind, run_underlying ht, Result.andThen_ok, hve, Instr.slice, hb, run_size hi', Sem.run_pure]
  rcases avs with _ | ⟨xa, ys⟩
  · exact (good.fail h).elim
  · cases xa with
    | slc b of len cap sz =>
      simp only [ex, xSlS] at h
      split at h
      · rename_i hsz
        have hsz := Nat.eq_of_beq_eq_true hsz
        subst hsz
        obtain ⟨l, hh, m, h, B⟩ := boundsK_sound good h
        refine ⟨_, _, _, _, h, .quiet fun ρ w a g hx _ _ => ?_⟩
        have hv := hx.head
        generalize hve : a.eval x = ve at hv
        have hmx : ∀ cap', cap ≤ cap' → len ≤ cap' → hh ≤ (if mx.isSome then m else cap') ∧ (if mx.isSome then m else cap') ≤ cap' ∧ m ≤ (if mx.isSome then m else cap') := by
          intro cap' h1 h2
          by_cases hm : mx.isSome = true
          · have := B.max hm; simp only [hm, if_true]; omega
          · have := B.free (by simpa using hm); simp only [hm]; simp; omega
        cases hv with
        | slc _ _ _ _ _ _ h0 hs hvo hl =>
          obtain ⟨ao, cap', rfl, h1, h2, h3⟩ := hs
          have hr := hrun a w ρ ys len cap l hh m ao cap' B hx.tail h2 h1 hve
          refine ⟨_, hr, ?_⟩
          obtain ⟨g1, g2, g3⟩ := hmx cap' h2 h1
          have hle := B.le
          generalize (if mx.isSome then m else cap') = m' at *
          refine .slc _ _ _ _ _ _ h0 ⟨_, _, rfl, by simp only [ops0]; omega, by simp only [ops0]; omega, ?_⟩ ?_ ?_
          · intro hc
            obtain ⟨B0, F0, rfl⟩ := h3 (by omega)
            rw [if_neg (by omega)]
            exact ⟨B0, F0 + l * i.size, by simp [add_at]⟩
          · intro hvd
            obtain ⟨ao2, e1, e2, e3⟩ := hvo hvd
            cases e1
            refine ⟨if m' = l then ao else ao.map (·.add (l * i.size)), ?_, by simp only [ops0]; omega, by simp only [ops0]; omega⟩
            have q1 : m' - l = 0 := by omega
            have q2 : hh - l = 0 := by omega
            rw [q1, q2]
          · intro BB F hlb
            obtain ⟨ao2, cap2, e1, e2, e3, e4, e5⟩ := hl BB F hlb
            cases e3
            refine ⟨_, _, by simp only [ops0]; omega, by simp only [ops0]; omega, rfl, ?_, ?_⟩
            · intro hc
              have := e4 (by omega)
              subst this
              rw [if_neg (by omega)]
              simp [add_at, ops0, Nat.add_assoc]
            · have : F + of + m' * i.size ≤ F + of + cap' * i.size := Nat.add_le_add_left (Nat.mul_le_mul_right _ g2) _
              have e6 : l * i.size + (m' - l) * i.size = m' * i.size := by rw [← Nat.add_mul]; congr 1; omega
              simp only [ops0]
              omega
      · exact (good.fail h).elim
    | ros cells off len cap ex' =>
      simp only [ex, xSlS] at h
      obtain ⟨l, hh, m, h, B⟩ := boundsK_sound good h
      refine ⟨_, _, _, _, h, .quiet fun ρ w a g hx _ _ => ?_⟩
      have hv := hx.head
      generalize hve : a.eval x = ve at hv
      cases hv with
      | ros _ _ _ _ _ BB F ao cap' vs hlt hp hl ho' hc hr hcap hlen he ha =>
        have hrr := hrun a w ρ ys len cap l hh m ao cap' B hx.tail hcap hlen hve
        refine ⟨_, hrr, ?_⟩
        have hle := B.le
        by_cases hm : mx.isSome = true
        · obtain ⟨b1, b2⟩ := B.max hm
          simp only [hm, if_true, Bool.or_true]
          refine .ros cells _ _ _ _ BB F _ _ vs hlt hp hl ho' hc hr (by simp only [ops0]; omega) (by simp only [ops0]; omega) (fun _ => rfl) ?_
          intro hn
          rw [if_neg (by omega), ha (by omega)]
          simp [add_at, ops0, Nat.add_assoc]
        · obtain ⟨b1, b2⟩ := B.free (by simpa using hm)
          simp only [hm, Bool.or_false]
          subst b1
          refine .ros cells _ _ _ _ BB F _ _ vs hlt hp hl ho' hc hr (by simp only [ops0]; simp; omega) (by simp only [ops0]; simp; omega) (fun hx => by have := he hx; simp only [ops0]; simp; omega) ?_
          intro hn
          simp only [Bool.false_eq_true, if_false] at hn ⊢
          rw [if_neg (by omega), ha (by omega)]
          simp [add_at, ops0, Nat.add_assoc]
    | nils =>
      simp only [ex, xSlS] at h
      obtain ⟨l, hh, m, h, B⟩ := boundsK_sound good h
      refine ⟨_, _, _, _, h, .quiet fun ρ w a g hx _ _ => ?_⟩
      have hv := inv_nils hx.head
      have hrr := hrun a w ρ ys 0 0 l hh m none 0 B hx.tail (Nat.le_refl _) (Nat.le_refl _) hv
      refine ⟨_, hrr, ?_⟩
      have hle := B.le
      have : hh = 0 := by
        by_cases hm : mx.isSome = true
        · have := B.max hm; omega
        · have := (B.free (by simpa using hm)).2; omega
      have : (if mx.isSome = true then m else 0) = 0 := by
        split
        · rename_i hm; have := B.max hm; omega
        · rfl
      simp only [*]
      simp
      exact .nils
    | _ => exact (good.fail h).elim

theorem s_slA {t e : TypeId} {x : Operand} {n : Nat} {lo hi : Option Operand} {i : TypeInfo} (ho : o.op = .slice t x lo hi none) (ht : P.underlying t = some (.array n e)) (hi' : P.info? e = some i)
    (h : holds (ex A ops0 cf H (.slA n i.size lo.isSome hi.isSome) avs k)) : Does P o (slOps x lo hi none) avs H fun r H' t f => holds (k r H' t f) := by
  have hrun : ∀ (a : Act) (w : World) (ρ : Rho) ys l h m ad, Bds lo.isSome hi.isSome false ys n n l h m → VRels ρ w ys ((lo.toList ++ hi.toList ++ (none : Option Operand).toList).map a.eval) →
      a.eval x = .pointer (some ad) → (execOp a.eval o).run P w = .ok (.value (.slice (some (if n = l then ad else ad.add (l * i.size))) (h - l) (n - l))) w := by
    intro a w ρ ys l h m ad B hx hve
    rw [opt_map] at hx
    have hb := B.run P ρ w false n _ _ none (Nat.le_refl _) (Nat.le_refl _) hx (by simp) (by simp) rfl
    simp only [execOp, ho, Instr.sliceAt, Sem.run_bind, run_underlying ht, Result.andThen_ok, hve, Instr.sureAddr, Sem.run_pure, Option.map_none, hb, run_size hi']
    simp
  rcases avs with _ | ⟨xa, ys⟩
  · exact (good.fail h).elim
  · cases xa with
    | ptr b of =>
      obtain ⟨cs, hb, h⟩ := blkK_sound good (show holds (blkK A H b _) from h)
      obtain ⟨hle, h⟩ := good.chk _ _ h
      have hle : of + n * i.size ≤ cs.length := by simpa [ops0] using hle
      obtain ⟨l, hh, m, h, B⟩ := boundsK_sound good h
      obtain ⟨b1, b2⟩ := B.free rfl
      refine ⟨_, _, _, _, h, .quiet fun ρ w a g hx hag hg => ?_⟩
      obtain ⟨BB, F, c, e', lo', hi'', hl, hve, hc, hsz, hf, hli⟩ := ptr_live hg (agree_one hag hb) hx.head
      refine ⟨_, hrun a w ρ ys l hh m _ B hx.tail hve, ?_⟩
      have hbl := B.le
      refine .slc _ _ _ _ _ _ (by rw [hl]; simp) ⟨_, _, rfl, by simp only [ops0]; omega, by simp only [ops0]; omega, ?_⟩ (by rw [hl]; simp) ?_
      · intro hn
        split
        · exact ⟨_, _, rfl⟩
        · exact ⟨BB, F + of + l * i.size, by simp [add_at]⟩
      · intro B2 F2 hl2
        rw [hl] at hl2
        cases hl2
        refine ⟨_, _, by simp only [ops0]; omega, by simp only [ops0]; omega, rfl, ?_, ?_⟩
        · intro hn
          rw [if_neg (by omega)]
          simp [add_at, ops0, Nat.add_assoc]
        · rw [rows_here hc]
          have e6 : l * i.size + (n - l) * i.size = n * i.size := by rw [← Nat.add_mul]; congr 1; omega
          simp only [ops0]
          omega
    | rop cells of =>
      simp only [ex, xSlA] at h
      obtain ⟨l, hh, m, h, B⟩ := boundsK_sound good h
      obtain ⟨b1, b2⟩ := B.free rfl
      refine ⟨_, _, _, _, h, .quiet fun ρ w a g hx hag hg => ?_⟩
      have hv := hx.head
      generalize hve : a.eval x = ve at hv
      have hbl := B.le
      cases hv with
      | rop _ _ BB F vs hlt hp hl ho' hc hr =>
        refine ⟨_, hrun a w ρ ys l hh m _ B hx.tail hve, ?_⟩
        subst b1
        refine .ros cells _ _ _ _ BB F _ _ vs hlt hp hl ho' hc hr (Nat.le_refl _) (by simp only [ops0]; omega) (fun _ => rfl) ?_
        intro hn
        rw [if_neg (by omega)]
        simp [add_at, ops0, Nat.add_assoc]
    | _ => exact (good.fail h).elim
end

end Go.Vm

namespace Go.Vm

theorem grow_le (n : Nat) : ∀ r c, c ≤ n + (n + 768) / 4 → Builtin.growBy n r c ≤ n + (n + 768) / 4
  | 0, c, h => h
  | r + 1, c, h => by
    unfold Builtin.growBy
    split
    · exact h
    · exact grow_le n r _ (by omega)

theorem next_le {n old : Nat} (h : old < n) : Builtin.nextslicecap n old ≤ 2 * n + 192 := by
  unfold Builtin.nextslicecap
  split
  · omega
  · split
    · omega
    · have := grow_le n 4 old (by omega); omega

theorem room0 {l n bytes old : Nat} (h : ops0.room l n bytes = true) (ho : old < l + n) : ¬ Builtin.nextslicecap (l + n) old * bytes > 2 ^ 48 ∧ ¬ (((l + n : Nat) : Int) > IntKind.i64.max) := by
  have h : (l + n + 1) * (bytes + 1) ≤ 1099511627776 := by simpa [ops0] using h
  have h1 := next_le ho
  have h2 : Builtin.nextslicecap (l + n) old * bytes ≤ (2 * (l + n) + 192) * (bytes + 1) := Nat.mul_le_mul h1 (by omega)
  have h3 : (l + n + 1) * 1 ≤ (l + n + 1) * (bytes + 1) := Nat.mul_le_mul_left _ (by omega)
  have h4 : 1 * (bytes + 1) ≤ (l + n + 1) * (bytes + 1) := Nat.mul_le_mul_right _ (by omega)
  have h5 : (2 * (l + n) + 192) * (bytes + 1) ≤ 2 * ((l + n + 1) * (bytes + 1)) + 192 * (bytes + 1) := by
    rw [← Nat.mul_assoc, ← Nat.add_mul]
    exact Nat.mul_le_mul_right _ (by omega)
  have h6 : IntKind.i64.max = 9223372036854775807 := by decide
  rw [h6]
  omega

theorem HRel.nothing {ρ : Rho} {w : World} {g : Hp} (hr : HRel ρ w g) {N : Nat} (hN : g N = none) :
    HRel (rho1 ρ N .void) w (one g N (.cells [])) ∧ ∀ n, Ext n ρ w (rho1 ρ N .void) w := by
  have E : ∀ n, Ext n ρ w (rho1 ρ N .void) w := fun n => by
    refine ⟨Nat.le_refl _, rfl, rfl, rfl, fun _ _ _ => rfl, fun i _ hi => ?_, fun i B F h => ?_, fun _ _ => rfl⟩
    · left
      unfold rho1
      split
      · rename_i h; subst h; exact absurd (hr.unborn _ hN) hi
      · rfl
    · unfold rho1 at h
      split at h
      · cases h
      · exact .inr ⟨i, F, h⟩
  refine ⟨⟨?_, ?_, ?_, ?_, ?_⟩, E⟩
  · intro i hi
    unfold one at hi
    unfold rho1
    split at hi
    · cases hi
    · rename_i h; rw [if_neg h]; exact hr.unborn i hi
  · intro i hi
    unfold one at hi
    unfold rho1
    split at hi
    · cases hi
    · rename_i h; rw [if_neg h]; exact hr.dead i hi
  · intro i j B F F' h h'
    unfold rho1 at h h'
    split at h
    · cases h
    · split at h'
      · cases h'
      · exact hr.inj i j B F F' h h'
  · intro i ds hi
    unfold one at hi
    split at hi
    · rename_i h; subst h
      cases hi
      exact .inl ⟨by simp [rho1], rfl⟩
    · rename_i h
      rcases hr.live i ds hi with ⟨hv, hd⟩ | ⟨B', F', c2, e2, lo2, hi2, hl2, hh2, hs2, hf2, hc2⟩
      · exact .inl ⟨by simp [rho1, h, hv], hd⟩
      · exact .inr ⟨B', F', c2, e2, lo2, hi2, by simp [rho1, h, hl2], hh2, hs2, hf2, lies_bound E hc2⟩
  · intro i B F c e lo hi h1 h2
    unfold rho1 at h1
    split at h1
    · cases h1
    · exact hr.marks i B F c e lo hi h1 h2

/-- A block is taken over under another name, its row written. -/
theorem HRel.move {ρ : Rho} {w w' : World} {g : Hp} (hr : HRel ρ w g) {b N B F X : Nat} {c c' : Array Value} {e : TypeId} {lo hi : Nat} {bs cs' : List AV} (hg : g b = some (.cells bs)) (hN : g N = none) (hl : ρ b = .live B F)
    (h : w.heap[B]? = some (.cells c e (lo, hi))) (hf : ∀ j, X ≤ j → j < c.size → ¬ (lo ≤ j ∧ j < hi)) (hw : Wrote w B c' e (lo, hi) w') (hs : c'.size = c.size) (hs' : X + cs'.length ≤ c.size)
    (hc : Lies ρ w cs' X c') :
    HRel (rho1 (rho1 ρ b .dead) N (.live B X)) w' (one (one g b .dead) N (.cells cs')) ∧ ∀ n, Ext n ρ w (rho1 (rho1 ρ b .dead) N (.live B X)) w' := by
  have hbN : b ≠ N := by intro h; subst h; rw [hg] at hN; cases hN
  have E : ∀ n, Ext n ρ w (rho1 (rho1 ρ b .dead) N (.live B X)) w' := fun n => by
    have E0 := hw.ext hl h hs n
    refine ⟨E0.size, E0.os, E0.tape, E0.output, E0.keep, fun i _ hi => ?_, fun i B' F' h => ?_, E0.rows⟩
    · unfold rho1
      split
      · rename_i h; subst h; exact absurd (hr.unborn _ hN) hi
      · split
        · exact .inr rfl
        · exact .inl rfl
    · unfold rho1 at h
      split at h
      · cases h; exact .inr ⟨b, F, hl⟩
      · split at h
        · cases h
        · exact .inr ⟨i, F', h⟩
  refine ⟨⟨?_, ?_, ?_, ?_, ?_⟩, E⟩
  · intro i hi
    unfold one at hi
    split at hi
    · cases hi
    · rename_i h1
      split at hi
      · cases hi
      · rename_i h2
        simp only [rho1, if_neg h1, if_neg h2]
        exact hr.unborn i hi
  · intro i hi
    unfold one at hi
    split at hi
    · cases hi
    · rename_i h1
      split at hi
      · rename_i h2
        simp only [rho1, if_neg h1, if_pos h2]
      · rename_i h2
        simp only [rho1, if_neg h1, if_neg h2]
        exact hr.dead i hi
  · intro i j B' F1 F2 h1 h2
    unfold rho1 at h1 h2
    split at h1 <;> split at h2
    · rename_i a b; rw [a, b]
    · cases h1
      split at h2
      · cases h2
      · rename_i _ _ q; exact absurd (hr.inj j b B F2 F h2 hl) q
    · cases h2
      split at h1
      · cases h1
      · rename_i _ _ q; exact absurd (hr.inj i b B F1 F h1 hl) q
    · split at h1
      · cases h1
      · split at h2
        · cases h2
        · exact hr.inj i j B' F1 F2 h1 h2
  · intro i ds hi
    unfold one at hi
    split at hi
    · rename_i h1; subst h1
      cases hi
      exact .inr ⟨B, X, c', e, lo, _, by simp [rho1], hw.here, by omega, by rw [hs]; exact hf, lies_bound E hc⟩
    · rename_i h1
      split at hi
      · cases hi
      · rename_i h2
        rcases hr.live i ds hi with ⟨hv, hd⟩ | ⟨B', F', c2, e2, lo2, hi2, hl2, hh2, hs2, hf2, hc2⟩
        · exact .inl ⟨by simp [rho1, h1, h2, hv], hd⟩
        · have hne : B' ≠ B := by
            intro hbb; subst hbb
            exact h2 (hr.inj i b B' F' F hl2 hl)
          exact .inr ⟨B', F', c2, e2, lo2, hi2, by simp [rho1, h1, h2, hl2], (hw.other B' hne).trans hh2, hs2, hf2, lies_bound E hc2⟩
  · intro i B' F' c2 e2 lo2 hi2 h1 h2
    by_cases hB : B' = B
    · subst hB
      rw [hw.here] at h2
      cases h2
      rw [hs]
      exact hr.marks b _ F c e _ _ hl h
    · rw [hw.other B' hB] at h2
      unfold rho1 at h1
      split at h1
      · cases h1; exact absurd rfl hB
      · split at h1
        · cases h1
        · exact hr.marks i B' F' c2 e2 lo2 hi2 h1 h2

/-- The elements of a slice into a block. -/
theorem slc_elems {P : Program} {ρ : Rho} {w : World} {g : Hp} (hg : HRel ρ w g) {b o len cap sz sz' : Nat} {bs : List AV} (hgb : g b = some (.cells bs)) {v : Value} (hv : VRel ρ w (.slc b o len cap sz') v) (hle : o + len * sz ≤ bs.length) :
    Elems P ρ w sz v ((bs.drop o).take (len * sz)) len := by
  cases hv with
  | slc _ _ _ _ _ _ h0 hs hvo hh =>
    rcases hg.live b bs hgb with ⟨hvd, hbs⟩ | ⟨B, F, c, e, lo, hi, hl, hc, hsz, hf, hli⟩
    · obtain ⟨ao, rfl, rfl, rfl⟩ := hvo hvd
      subst hbs
      exact row_first (B := 0) (X := 0) (vs := []) (by simp) (by simp) (by simp) (fun _ => rfl) (fun i v h => by simp at h) (fun i a ha => by simp at ha) (fun v hv => by simp at hv)
    · obtain ⟨ao, cap', h1, h2, rfl, h4, h5⟩ := hh B F hl
      have hsub := Lies.sub (show Lies ρ w bs F c from hli) o (len * sz)
      obtain ⟨vs, hvl, hvc, hvl2, hvo2⟩ := hsub.values
      have hlen : ((bs.drop o).take (len * sz)).length = len * sz := by simp; omega
      refine row_first (B := B) (X := F + o) (vs := vs) hvl hlen ?_ ?_ ?_ hvl2 hvo2
      · intro hn
        exact h4 (by intro h; subst h; have : len = 0 := by omega
                     subst this; simp at hn)
      · intro hn
        have : cap' = 0 := by
          rcases Nat.eq_zero_or_pos cap' with h | h
          · exact h
          · have := h4 (by omega); rw [hn] at this; cases this
        omega
      · intro i v hv
        rw [cell_at hc]
        exact hvc i v hv

/-- Facts on an append's types. -/
structure AppT (P : Program) (t u e : TypeId) (j : TypeInfo) (z : Value) : Prop where
  sl : P.underlying t = some (.slice e)
  el : P.info? e = some j
  zero : j.zero = some z
  zs : z.cells.size = j.size
  src : (∃ e', P.underlying u = some (.slice e')) ∨ P.underlying u = some .string

section
variable {P : Program} {t u e : TypeId} {j : TypeInfo} {z : Value} {ty : TypeId} {cs : Array Bool}

/-- There is room. -/
theorem run_append_in (T : AppT P t u e j z) {w : World} {ao : Option Addr} {len cap n : Nat} {x : Value} {vs : List Value} (hn : (Builtin.lenOf x).run P w = .ok n w) (hf : (Builtin.firstCells j.size n x).run P w = .ok vs.toArray w)
    (hcap : len + n ≤ cap) : (builtin .append #[t, u] ty cs #[.slice ao len cap, x]).run P w =
      (match ao with | some a => (storeCells (a.add (len * j.size)) vs).run P w | none => .ok () w).andThen fun _ w' => .ok (.value (.slice ao (len + n) cap)) w' := by
  have key : ∀ d, P.underlying u = some d → ((∃ e', d = .slice e') ∨ d = .string) → (builtin .append #[t, u] ty cs #[.slice ao len cap, x]).run P w =
      (match ao with | some a => (storeCells (a.add (len * j.size)) vs).run P w | none => .ok () w).andThen fun _ w' => .ok (.value (.slice ao (len + n) cap)) w' := by
    rintro d hd (⟨e', rfl⟩ | rfl) <;>
    · simp only [builtin, Builtin.append_, List.getElem?_toArray, List.getElem?_cons_zero, List.getElem?_cons_succ, Sem.run_bind, run_underlying T.sl, run_underlying hd, Result.andThen_ok, run_size T.el, Sem.run_pure,
        Bool.false_eq_true, if_false, hn, if_pos hcap, Bool.not_false, if_true, hf]
      cases ao with
      | none => simp
      | some a => simp only [Sem.run_bind, Sem.run_pure]; cases (storeCells (a.add (len * j.size)) vs).run P w <;> rfl
  rcases T.src with ⟨e', h⟩ | h
  · exact key _ h (.inl ⟨e', rfl⟩)
  · exact key _ h (.inr rfl)

/-- It must grow. -/
theorem run_append_new (T : AppT P t u e j z) {w : World} {ao : Option Addr} {len cap n : Nat} {x : Value} {us vs : List Value} (hn : (Builtin.lenOf x).run P w = .ok n w)
    (hf : ∀ d, (Builtin.firstCells j.size n x).run P { w with drawn := d } = .ok vs.toArray { w with drawn := d }) (hs : ∀ d, (Builtin.firstCells j.size len (.slice ao len cap)).run P { w with drawn := d } = .ok us.toArray { w with drawn := d })
    (hcap : ¬ len + n ≤ cap) (hroom : ops0.room len n j.bytes = true) :
    ∃ N d, len + n ≤ N ∧ (builtin .append #[t, u] ty cs #[.slice ao len cap, x]).run P w =
      .ok (.value (.slice (some ⟨w.heap.size, 0, none⟩) (len + n) N)) { w with heap := w.heap.push (.cells (us.toArray ++ vs.toArray ++ Builtin.zeroCells z.cells (N - (len + n))) e), drawn := d } := by
  obtain ⟨r1, r2⟩ := room0 hroom (old := cap) (by omega)
  refine ⟨(len + n) + w.tape w.drawn (.appendCap (len + n) cap e) % (2 ^ 63 - (len + n)), w.drawn + 1, by omega, ?_⟩
  have key : ∀ d, P.underlying u = some d → ((∃ e', d = .slice e') ∨ d = .string) → (builtin .append #[t, u] ty cs #[.slice ao len cap, x]).run P w =
      .ok (.value (.slice (some ⟨w.heap.size, 0, none⟩) (len + n) ((len + n) + w.tape w.drawn (.appendCap (len + n) cap e) % (2 ^ 63 - (len + n)))))
        { w with heap := w.heap.push (.cells (us.toArray ++ vs.toArray ++ Builtin.zeroCells z.cells ((len + n) + w.tape w.drawn (.appendCap (len + n) cap e) % (2 ^ 63 - (len + n)) - (len + n))) e), drawn := w.drawn + 1 } := by
    rintro d hd (⟨e', rfl⟩ | rfl) <;>
    · simp only [builtin, Builtin.append_, List.getElem?_toArray, List.getElem?_cons_zero, List.getElem?_cons_succ, Sem.run_bind, run_underlying T.sl, run_underlying hd, Result.andThen_ok, run_size T.el, Sem.run_pure,
        Bool.false_eq_true, if_false, hn, if_neg hcap, Bool.not_false, if_true, typeInfo, run_program, T.el, r2, false_and, if_neg r1]
      simp only [run_choose, Question.forced, Bool.false_eq_true, if_false, Question.cut, Result.andThen_ok, run_askRoom]
      rw [hs]
      simp only [Result.andThen_ok]
      rw [hf]
      simp only [Result.andThen_ok, run_zero T.el T.zero, newRow, Sem.run_bind, run_newObj_alloc, Sem.run_pure]
      rfl
  rcases T.src with ⟨e', h⟩ | h
  · exact key _ h (.inl ⟨e', rfl⟩)
  · exact key _ h (.inr rfl)
end

end Go.Vm
