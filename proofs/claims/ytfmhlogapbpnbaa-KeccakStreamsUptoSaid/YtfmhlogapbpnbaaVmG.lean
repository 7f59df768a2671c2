/-
  A VERIFIED SYMBOLIC MACHINE, PART G: each operation of the machine does what the model's does (the proofs).
-/
import Derived.Test.YtfmhlogapbpnbaaVmF
namespace Go.Vm

section
variable {R : Type} {A : Alg R} {holds : R → Prop} (good : A.Good holds) {P : Program} {o : Oper} {avs : List AV} {H : Hl} {cf : CallF R} {k : ExK R}
include good

theorem s_mov {x : Operand} (ho : o.op = .move x ∨ o.op = .assign x) (h : holds (ex A ops0 cf H .mov avs k)) : Does P o [x] avs H fun r H' t f => holds (k r H' t f) := by
  rcases avs with _ | ⟨xa, _ | ⟨_, _⟩⟩
  · exact (good.fail h).elim
  · refine ⟨_, _, _, _, h, quiet1 fun ρ w a g hv _ _ => ⟨_, ?_, hv⟩⟩
    rcases ho with ho | ho <;> simp [execOp, ho]
  · exact (good.fail h).elim

theorem s_pick {c x y : Operand} (ho : o.op = .pick c x y) (h : holds (ex A ops0 cf H .pick avs k)) : Does P o [c, x, y] avs H fun r H' t f => holds (k r H' t f) := by
  rcases avs with _ | ⟨ca, _ | ⟨xa, _ | ⟨ya, _ | ⟨_, _⟩⟩⟩⟩
  · exact (good.fail h).elim
  · cases ca <;> first | exact (good.fail h).elim | (rename_i b; cases b <;> exact (good.fail h).elim)
  · cases ca <;> first | exact (good.fail h).elim | (rename_i b; cases b <;> exact (good.fail h).elim)
  · cases ca with
    | bool b =>
      cases b with
      | true => exact ⟨_, _, _, _, h, .quiet fun ρ w a g hx _ _ => ⟨a.eval x, by simp [execOp, ho, inv_bool hx.three.1, asBool], hx.three.2.1⟩⟩
      | false => exact ⟨_, _, _, _, h, .quiet fun ρ w a g hx _ _ => ⟨a.eval y, by simp [execOp, ho, inv_bool hx.three.1, asBool], hx.three.2.2⟩⟩
    | _ => exact (good.fail h).elim
  · cases ca <;> first | exact (good.fail h).elim | (rename_i b; cases b <;> exact (good.fail h).elim)

theorem s_alloc {e : TypeId} {i : TypeInfo} {z : Value} {zs : List AV} (ho : o.op = .alloc e) (hi : P.info? e = some i) (hz : i.zero = some z) (hs : toAVs z.cells.toList = some zs)
    (h : holds (ex A ops0 cf H (.alloc zs) avs k)) : Does P o [] avs H fun r H' t f => holds (k r H' t f) := by
  rcases avs with _ | ⟨_, _⟩
  · have h : holds (k (.ptr (size H) 0) (join H [.cells zs]) [] []) := h
    rw [size_eq, join_eq] at h
    refine ⟨_, _, _, _, h, .alloc fun ρ w a g hx _ hg => ⟨.pointer (some ⟨w.heap.size, 0, none⟩), w.drawn, z.cells, e, ?_, ?_, ?_, ?_⟩⟩
    · simp [execOp, ho, Instr.alloc, run_zero hi hz, newVar, newRow]
    · rw [(toAVs_rel hs).1]; simp
    · have := toAVs_lies hs ρ w; simpa using this
    · intro ρ' w' hl hr
      refine .ptr _ _ _ (by rw [hl]; simp) (by rw [hl]; simp) ⟨_, rfl⟩ ?_
      intro B F h'
      rw [hl] at h'; cases h'; rfl
  · exact (good.fail h).elim

theorem s_box {e : TypeId} {x : Operand} (ho : o.op = .box e x) (h : holds (ex A ops0 cf H .box avs k)) : Does P o [x] avs H fun r H' t f => holds (k r H' t f) := by
  rcases avs with _ | ⟨xa, _ | ⟨_, _⟩⟩
  · exact (good.fail h).elim
  · have h : holds (cellsK A xa fun cs => k (.ptr (size H) 0) (join H [.cells cs]) [] []) := h
    obtain ⟨cs, h, hc⟩ := cellsK_sound good h
    rw [size_eq, join_eq] at h
    refine ⟨_, _, _, _, h, .alloc fun ρ w a g hx _ hg => ⟨.pointer (some ⟨w.heap.size, 0, none⟩), w.drawn, (a.eval x).cells, e, ?_, ?_, ?_, ?_⟩⟩
    · simp [execOp, ho, Instr.box, newVar, newRow]
    · rw [(hc ρ w _ hx.one).1]; exact Nat.le_refl _
    · exact (hc ρ w _ hx.one).2
    · intro ρ' w' hl hr
      refine .ptr _ _ _ (by rw [hl]; simp) (by rw [hl]; simp) ⟨_, rfl⟩ ?_
      intro B F h'
      rw [hl] at h'; cases h'; rfl
  · exact (good.fail h).elim

theorem s_ld1 {t : TypeId} {x : Operand} {d : TypeDesc} {kd : Kd} (ho : o.op = .load t x) (hd : P.underlying t = some d) (ha : isAggD d = false) (h : holds (ex A ops0 cf H (.ld1 kd) avs k)) :
    Does P o [x] avs H fun r H' t f => holds (k r H' t f) := by
  rcases avs with _ | ⟨xa, _ | ⟨_, _⟩⟩
  · exact (good.fail h).elim
  · cases xa with
    | ptr b of =>
      have h : holds (blkK A H b fun cs => A.get kd cs of fun v => k v H [] [b]) := h
      obtain ⟨cs, hb, h⟩ := blkK_sound good h
      obtain ⟨r, hr, h⟩ := good.get _ _ _ _ h
      refine ⟨_, _, _, _, h, quiet1 fun ρ w a g hv hag hg => ?_⟩
      obtain ⟨B, F, c, e, lo, hi, hl, hve, hc, hsz, hf, hli⟩ := ptr_live hg (agree_one hag hb) hv
      obtain ⟨v, h1, h2, h3⟩ := hli of r hr
      refine ⟨v, ?_, h3⟩
      simp only [execOp, ho, hve, Instr.loadAt, Instr.sureAddr, Sem.run_bind, Sem.run_pure, Result.andThen_ok]
      rw [run_ld1 hd ha _ w (by rw [cell_at hc]; exact h1)]
      rfl
    | rop cs of =>
      have h : holds (A.get kd cs of fun v => k v H [] []) := h
      obtain ⟨r, hr, h⟩ := good.get _ _ _ _ h
      refine ⟨_, _, _, _, h, quiet1 fun ρ w a g hv hag hg => ?_⟩
      generalize hve : a.eval x = ve at hv
      cases hv with
      | rop _ _ B F vs hlt hp hl ho' hc hr' =>
        have hi : of < vs.length := by rw [hl]; exact (List.getElem?_eq_some_iff.1 hr).1
        have hvi : vs[of]? = some vs[of] := by simp [hi]
        refine ⟨vs[of], ?_, hr' of r _ hr hvi⟩
        simp only [execOp, ho, hve, Instr.loadAt, Instr.sureAddr, Sem.run_bind, Sem.run_pure, Result.andThen_ok]
        rw [run_ld1 hd ha _ w (hc of _ hvi)]
        rfl
    | _ => exact (good.fail h).elim
  · cases xa <;> exact (good.fail h).elim

theorem s_ldn {t : TypeId} {x : Operand} {d : TypeDesc} {i : TypeInfo} (ho : o.op = .load t x) (hd : P.underlying t = some d) (ha : isAggD d = true) (hi : P.info? t = some i)
    (h : holds (ex A ops0 cf H (.ldn i.size) avs k)) : Does P o [x] avs H fun r H' t f => holds (k r H' t f) := by
  rcases avs with _ | ⟨xa, _ | ⟨_, _⟩⟩
  · exact (good.fail h).elim
  · cases xa with
    | ptr b of =>
      have h : holds (blkK A H b fun cs => A.chk (ops0.le (ops0.add of i.size) (ops0.len cs)) (k (.agg (ops0.ext cs of i.size)) H [] [b])) := h
      obtain ⟨cs, hb, h⟩ := blkK_sound good h
      obtain ⟨hle, h⟩ := good.chk _ _ h
      have hle : of + i.size ≤ cs.length := by simpa [ops0] using hle
      refine ⟨_, _, _, _, h, quiet1 fun ρ w a g hv hag hg => ?_⟩
      obtain ⟨B, F, c, e, lo, hi', hl, hve, hc, hsz, hf, hli⟩ := ptr_live hg (agree_one hag hb) hv
      obtain ⟨vs, h1, h2, h3, h4⟩ := (hli.sub of i.size).values
      have hlen : ((cs.drop of).take i.size).length = i.size := by simp; omega
      refine ⟨.agg vs.toArray, ?_, agg_of_lies h1 h3⟩
      simp only [execOp, ho, hve, Instr.loadAt, Instr.sureAddr, Sem.run_bind, Sem.run_pure, Result.andThen_ok]
      rw [run_ldn hd ha hi (h1.trans hlen) (fun j v hj => by rw [cell_at hc]; exact h2 j v hj)]
      rfl
    | rop cs of =>
      have h : holds (A.chk (ops0.le (ops0.add of i.size) (ops0.len cs)) (k (.agg (ops0.ext cs of i.size)) H [] [])) := h
      obtain ⟨hle, h⟩ := good.chk _ _ h
      have hle : of + i.size ≤ cs.length := by simpa [ops0] using hle
      refine ⟨_, _, _, _, h, quiet1 fun ρ w a g hv hag hg => ?_⟩
      generalize hve : a.eval x = ve at hv
      cases hv with
      | rop _ _ B F vs hlt hp hl ho' hc hr' =>
        have hli : Lies ρ w cs 0 vs.toArray := by
          intro j b hj
          have hi : j < vs.length := by rw [hl]; exact (List.getElem?_eq_some_iff.1 hj).1
          exact ⟨vs[j], by simp [hi], ho' _ (List.getElem_mem _), hr' j b _ hj (by simp [hi])⟩
        obtain ⟨us, h1, h2, h3, h4⟩ := (hli.sub of i.size).values
        have hlen : ((cs.drop of).take i.size).length = i.size := by simp; omega
        refine ⟨.agg us.toArray, ?_, agg_of_lies h1 h3⟩
        simp only [execOp, ho, hve, Instr.loadAt, Instr.sureAddr, Sem.run_bind, Sem.run_pure, Result.andThen_ok]
        rw [run_ldn hd ha hi (h1.trans hlen) (fun j v hj => by
          have := h2 j v hj
          rw [Nat.add_assoc]
          exact hc (of + j) v (by simpa using this))]
        rfl
    | _ => exact (good.fail h).elim
  · cases xa <;> exact (good.fail h).elim

omit good in
theorem run_storeVar {P : Program} {t : TypeId} {i : TypeInfo} (hi : P.info? t = some i) (a : Addr) (v : Value) (hs : v.cells.size = i.size) (w : World) :
    (storeVar t a v).run P w = (storeCells a v.cells.toList).run P w := by
  unfold storeVar
  simp only [Sem.run_bind, run_size hi, Result.andThen_ok]
  rw [if_neg (by simp [hs])]

theorem s_st1 {t : TypeId} {x y : Operand} {i : TypeInfo} (ho : o.op = .store t x y) (hi : P.info? t = some i) (h1 : i.size = 1) (h : holds (ex A ops0 cf H .st1 avs k)) :
    Does P o [x, y] avs H fun r H' t f => holds (k r H' t f) := by
  rcases avs with _ | ⟨xa, _ | ⟨ya, _ | ⟨_, _⟩⟩⟩
  · exact (good.fail h).elim
  · cases xa <;> exact (good.fail h).elim
  · cases xa with
    | ptr b of =>
      have h : holds (oneK A ya (blkK A H b fun cs => A.chk (ops0.lt of (ops0.len cs)) (k (.tup []) (put H b (.cells (ops0.set cs of ya))) [b] [b]))) := h
      obtain ⟨hone, h⟩ := oneK_sound good h
      obtain ⟨cs, hb, h⟩ := blkK_sound good h
      obtain ⟨hlt, h⟩ := good.chk _ _ h
      have hlt : of < cs.length := by simpa [ops0] using hlt
      rw [put_eq] at h
      refine ⟨_, _, _, _, h, store_step hb (by simp [ops0]) ?_ (.inl (by intro h; subst h; simp at hlt)) (.inl rfl)⟩
      intro ρ w a g hx hg hag B F c e lo hi' hl hc hsz hf hli
      obtain ⟨hxv, hyv⟩ := hx.two
      obtain ⟨B', F', c', e', lo', hi'', hl', hve, hc', _⟩ := ptr_live hg (agree_one hag hb) hxv
      rw [hl] at hl'; cases hl'
      obtain ⟨ho1, ho2⟩ := one_rel hyv hone
      obtain ⟨w', hr, hw⟩ := run_storeCells' (P := P) (X := F + of) [a.eval y] 0 c w hc (by simp; omega) (fun j h1 h2 => hf j (by omega) h2) (by simpa using ho1)
      refine ⟨w', _, .skip, ⟨?_, .inl rfl⟩, hw, ?_, ?_⟩
      · simp only [execOp, ho, hve, Instr.storeAt, Instr.sureAddr, Sem.run_bind, Sem.run_pure, Result.andThen_ok]
        rw [run_storeVar hi _ _ (by rw [ho2, h1]; rfl), ho2]
        simp only [] at hr ⊢
        rw [hr]
        rfl
      · have := splice_length c.toList (F + of + 0) [a.eval y] (by simp; omega)
        simpa using this
      · intro j u hj
        have hg2 := splice_get c.toList (F + of + 0) [a.eval y] (by simp; omega) (F + j)
        simp only [ops0, List.getElem?_set] at hj
        simp only [List.getElem?_toArray]
        rw [hg2]
        by_cases hjo : of = j
        · subst hjo
          rw [if_pos rfl, if_pos hlt] at hj
          cases hj
          rw [if_neg (by omega), if_pos (by simp)]
          exact ⟨a.eval y, by simp, ho1, hyv⟩
        · rw [if_neg hjo] at hj
          obtain ⟨v, h1, h2, h3⟩ := hli j u hj
          refine ⟨v, ?_, h2, h3⟩
          split
          · simpa using h1
          · rw [if_neg (by simp; omega)]; simpa using h1
    | _ => exact (good.fail h).elim
  · cases xa <;> exact (good.fail h).elim

theorem s_stn {t : TypeId} {x y : Operand} {i : TypeInfo} (ho : o.op = .store t x y) (hi : P.info? t = some i) (h : holds (ex A ops0 cf H (.stn i.size) avs k)) :
    Does P o [x, y] avs H fun r H' t f => holds (k r H' t f) := by
  rcases avs with _ | ⟨xa, _ | ⟨ya, _ | ⟨_, _⟩⟩⟩
  · exact (good.fail h).elim
  · cases xa <;> exact (good.fail h).elim
  · cases xa with
    | ptr b of =>
      cases ya with
      | agg ys =>
        have h : holds (blkK A H b fun cs => A.chk (ops0.eq (ops0.len ys) i.size) (A.chk (ops0.le (ops0.add of i.size) (ops0.len cs)) (k (.tup []) (put H b (.cells (ops0.spl cs of ys))) [b] [b]))) := h
        obtain ⟨cs, hb, h⟩ := blkK_sound good h
        obtain ⟨heq, h⟩ := good.chk _ _ h
        obtain ⟨hle, h⟩ := good.chk _ _ h
        have heq : ys.length = i.size := by simpa [ops0] using heq
        have hle : of + i.size ≤ cs.length := by simpa [ops0] using hle
        rw [put_eq] at h
        by_cases hne : cs = []
        · subst hne
          simp at hle
          have hys : ys = [] := by apply List.eq_nil_of_length_eq_zero; omega
          subst hys
          -- nothing is stored, into nothing
          refine ⟨_, _, _, _, h, store_step hb (by simp [ops0, spliceL]) ?_ (.inr ?_) (.inl rfl)⟩
          · intro ρ w a g hx hg hag B F c e lo hi' hl hc hsz hf hli
            obtain ⟨hxv, hyv⟩ := hx.two
            obtain ⟨B', F', c', e', lo', hi'', hl', hve, hc', _⟩ := ptr_live hg (agree_one hag hb) hxv
            rw [hl] at hl'; cases hl'
            obtain ⟨vs, hyve, hvl, hvo, hvli⟩ := lies_agg hyv
            have hvs : vs = [] := by apply List.eq_nil_of_length_eq_zero; simpa using hvl
            subst hvs
            obtain ⟨w', hr, hw⟩ := run_storeCells' (P := P) (X := F + of) [] 0 c w hc (by simp at hsz ⊢; omega) (fun j h1 h2 => hf j (by omega) h2) (by simp)
            refine ⟨w', _, .skip, ⟨?_, .inl rfl⟩, hw, by simp [spliceL], ?_⟩
            · simp only [execOp, ho, hve, hyve, Instr.storeAt, Instr.sureAddr, Sem.run_bind, Sem.run_pure, Result.andThen_ok]
              rw [run_storeVar hi _ _ (by simp [Value.cells]; omega)]
              simp only [Value.cells]
              rw [hr]
              rfl
            · intro j u hj; simp [ops0, spliceL] at hj
          · intro ρ w a g hx hg
            have := hx.two.1
            cases this with
            | ptr _ _ _ h0 h1 _ _ => exact h1
        · refine ⟨_, _, _, _, h, store_step hb (by rw [show ops0.spl cs of ys = spliceL cs of ys from rfl]; exact splice_length _ _ _ (by omega)) ?_ (.inl hne) (.inl rfl)⟩
          intro ρ w a g hx hg hag B F c e lo hi' hl hc hsz hf hli
          obtain ⟨hxv, hyv⟩ := hx.two
          obtain ⟨B', F', c', e', lo', hi'', hl', hve, hc', _⟩ := ptr_live hg (agree_one hag hb) hxv
          rw [hl] at hl'; cases hl'
          obtain ⟨vs, hyve, hvl, hvo, hvli⟩ := lies_agg hyv
          obtain ⟨w', hr, hw⟩ := run_storeCells' (P := P) (X := F + of) vs 0 c w hc (by omega) (fun j h1 h2 => hf j (by omega) h2) hvo
          refine ⟨w', _, .skip, ⟨?_, .inl rfl⟩, hw, ?_, ?_⟩
          · simp only [execOp, ho, hve, hyve, Instr.storeAt, Instr.sureAddr, Sem.run_bind, Sem.run_pure, Result.andThen_ok]
            rw [run_storeVar hi _ _ (by simp [Value.cells]; omega)]
            simp only [Value.cells]
            rw [hr]
            rfl
          · have := splice_length c.toList (F + of + 0) vs (by simp; omega)
            simpa using this
          · intro j u hj
            have hg1 := splice_get cs of ys (by omega) j
            have hg2 := splice_get c.toList (F + of + 0) vs (by simp; omega) (F + j)
            rw [show ops0.spl cs of ys = spliceL cs of ys from rfl, hg1] at hj
            simp only [List.getElem?_toArray]
            rw [hg2]
            by_cases h1 : j < of
            · rw [if_pos h1] at hj
              rw [if_pos (by omega)]
              obtain ⟨v, g1, g2, g3⟩ := hli j u hj
              exact ⟨v, by simpa using g1, g2, g3⟩
            · rw [if_neg h1] at hj
              rw [if_neg (by omega)]
              by_cases h2 : j < of + ys.length
              · rw [if_pos h2] at hj
                rw [if_pos (by omega)]
                obtain ⟨v, g1, g2, g3⟩ := hvli (j - of) u hj
                refine ⟨v, ?_, g2, g3⟩
                rw [show F + j - (F + of + 0) = 0 + (j - of) by omega]
                simpa using g1
              · rw [if_neg h2] at hj
                rw [if_neg (by omega)]
                obtain ⟨v, g1, g2, g3⟩ := hli j u hj
                exact ⟨v, by simpa using g1, g2, g3⟩
      | _ => exact (good.fail h).elim
    | _ => exact (good.fail h).elim
  · cases xa <;> first | exact (good.fail h).elim | (cases ya <;> exact (good.fail h).elim)

theorem s_nilc {x : Operand} (ho : o.op = .nilCheck x) (h : holds (ex A ops0 cf H .nilc avs k)) : Does P o [x] avs H fun r H' t f => holds (k r H' t f) := by
  rcases avs with _ | ⟨xa, _ | ⟨_, _⟩⟩
  · exact (good.fail h).elim
  · cases xa with
    | ptr b of =>
      refine ⟨_, _, _, _, h, quiet1 fun ρ w a g hv _ _ => ⟨a.eval x, ?_, hv⟩⟩
      generalize hve : a.eval x = ve at hv
      cases hv with
      | ptr _ _ _ _ _ hs _ => obtain ⟨ad, rfl⟩ := hs; simp [execOp, ho, hve]
    | rop cs of =>
      refine ⟨_, _, _, _, h, quiet1 fun ρ w a g hv _ _ => ⟨a.eval x, ?_, hv⟩⟩
      generalize hve : a.eval x = ve at hv
      cases hv with
      | rop => simp [execOp, ho, hve]
    | fn f p q =>
      refine ⟨_, _, _, _, h, quiet1 fun ρ w a g hv _ _ => ⟨a.eval x, ?_, hv⟩⟩
      generalize hve : a.eval x = ve at hv
      cases hv with
      | fn => simp [execOp, ho, hve]
    | _ => exact (good.fail h).elim
  · cases xa <;> exact (good.fail h).elim

omit good in
theorem run_binOp_int {op : BinOp} {t : TypeId} {x y : Operand} {yt : TypeId} {a : Act} {w : World} {k1 k2 : IntKind} {m n : Int} (ho : o.op = .binOp op t x y yt) (hx : a.eval x = .int k1 m) (hy : a.eval y = .int k2 n) {v : Value}
    (h : (binOp op t (.int k1 m) (.int k2 n)).run P w = .ok v w) : (execOp a.eval o).run P w = .ok (.value v) w := by
  simp only [execOp, ho, hx, hy, Sem.run_bind]
  have hg : (eqGuard op t x y (.int k1 m) (.int k2 n)).run P w = .ok () w := by
    unfold eqGuard
    split <;> rfl
  rw [hg]
  simp only [Result.andThen_ok, h]
  rfl

theorem s_bin {op : BinOp} {t : TypeId} {x y : Operand} {yt : TypeId} {kd : IntKind} (ho : o.op = .binOp op t x y yt) (hop : op = .add ∨ op = .sub ∨ op = .mul ∨ op = .and ∨ op = .or ∨ op = .xor ∨ op = .andNot)
    (h : holds (ex A ops0 cf H (.bin op kd) avs k)) : Does P o [x, y] avs H fun r H' t f => holds (k r H' t f) := by
  rcases avs with _ | ⟨xa, _ | ⟨ya, _ | ⟨_, _⟩⟩⟩
  · exact (good.fail h).elim
  · cases xa <;> exact (good.fail h).elim
  · cases xa with
    | int k1 m =>
      cases ya with
      | int k2 n =>
        simp only [ex, xBin] at h
        split at h
        · rename_i e1 e2
          have e1 := sameK_eq e1
          have e2 := sameK_eq e2
          subst e1; subst e2
          refine ⟨_, _, _, _, h, quiet2 fun ρ w a g hv hu _ _ => ⟨_, run_binOp_int ho (inv_int hv) (inv_int hu) ?_, .int _ _⟩⟩
          rcases hop with rfl | rfl | rfl | rfl | rfl | rfl | rfl <;> simp [binOp, Op.intArith, Op.intBits, ops0, bin0]
        · exact (good.fail h).elim
      | _ => exact (good.fail h).elim
    | _ => exact (good.fail h).elim
  · cases xa <;> first | exact (good.fail h).elim | (cases ya <;> exact (good.fail h).elim)

theorem s_div {op : BinOp} {t : TypeId} {x y : Operand} {yt : TypeId} {kd : IntKind} (ho : o.op = .binOp op t x y yt) (hop : op = .quo ∨ op = .rem)
    (h : holds (ex A ops0 cf H (.div op kd) avs k)) : Does P o [x, y] avs H fun r H' t f => holds (k r H' t f) := by
  rcases avs with _ | ⟨xa, _ | ⟨ya, _ | ⟨_, _⟩⟩⟩
  · exact (good.fail h).elim
  · cases xa <;> exact (good.fail h).elim
  · cases xa with
    | int k1 m =>
      cases ya with
      | int k2 n =>
        simp only [ex, xDiv] at h
        split at h
        · rename_i e1 e2
          have e1 := sameK_eq e1
          have e2 := sameK_eq e2
          subst e1; subst e2
          obtain ⟨hz, h⟩ := good.chk _ _ h
          have hz : n ≠ 0 := by simpa [ops0] using hz
          refine ⟨_, _, _, _, h, quiet2 fun ρ w a g hv hu _ _ => ⟨_, run_binOp_int ho (inv_int hv) (inv_int hu) ?_, .int _ _⟩⟩
          rcases hop with rfl | rfl <;> simp [binOp, Op.intDiv, ops0, bin0, hz]
        · exact (good.fail h).elim
      | _ => exact (good.fail h).elim
    | _ => exact (good.fail h).elim
  · cases xa <;> first | exact (good.fail h).elim | (cases ya <;> exact (good.fail h).elim)

theorem s_shf {op : BinOp} {t : TypeId} {x y : Operand} {yt : TypeId} {kd : IntKind} (ho : o.op = .binOp op t x y yt) (hop : op = .shl ∨ op = .shr)
    (h : holds (ex A ops0 cf H (.shf op kd) avs k)) : Does P o [x, y] avs H fun r H' t f => holds (k r H' t f) := by
  rcases avs with _ | ⟨xa, _ | ⟨ya, _ | ⟨_, _⟩⟩⟩
  · exact (good.fail h).elim
  · cases xa <;> exact (good.fail h).elim
  · cases xa with
    | int k1 m =>
      cases ya with
      | int k2 n =>
        simp only [ex, xShf] at h
        split at h
        · rename_i e1
          have e1 := sameK_eq e1
          subst e1
          obtain ⟨hz, h⟩ := good.chk _ _ h
          have hz : ¬ n < 0 := by have : 0 ≤ n := by simpa [ops0] using hz
                                  omega
          refine ⟨_, _, _, _, h, quiet2 fun ρ w a g hv hu _ _ => ⟨_, run_binOp_int ho (inv_int hv) (inv_int hu) ?_, .int _ _⟩⟩
          rcases hop with rfl | rfl <;> simp only [binOp, Op.shift, ops0, shf0, if_neg hz, Sem.run_pure] <;> rfl
        · exact (good.fail h).elim
      | _ => exact (good.fail h).elim
    | _ => exact (good.fail h).elim
  · cases xa <;> first | exact (good.fail h).elim | (cases ya <;> exact (good.fail h).elim)

theorem s_cmp {op : BinOp} {t : TypeId} {x y : Operand} {yt : TypeId} (ho : o.op = .binOp op t x y yt) (hop : op = .eql ∨ op = .neq ∨ op = .lss ∨ op = .leq ∨ op = .gtr ∨ op = .geq)
    (h : holds (ex A ops0 cf H (.cmp op) avs k)) : Does P o [x, y] avs H fun r H' t f => holds (k r H' t f) := by
  rcases avs with _ | ⟨xa, _ | ⟨ya, _ | ⟨_, _⟩⟩⟩
  · exact (good.fail h).elim
  · cases xa <;> exact (good.fail h).elim
  · cases xa with
    | int k1 m =>
      cases ya with
      | int k2 n =>
        simp only [ex, xCmp] at h
        split at h
        · rename_i e1
          have e1 := sameK_eq e1
          subst e1
          have h := brB_sound good h
          refine ⟨_, _, _, _, h, quiet2 fun ρ w a g hv hu _ _ => ⟨_, run_binOp_int ho (inv_int hv) (inv_int hu) ?_, .bool _⟩⟩
          rcases hop with rfl | rfl | rfl | rfl | rfl | rfl <;> simp [binOp, Op.intCmp, ops0, cmp0]
        · exact (good.fail h).elim
      | _ => exact (good.fail h).elim
    | _ => exact (good.fail h).elim
  · cases xa <;> first | exact (good.fail h).elim | (cases ya <;> exact (good.fail h).elim)

end
end Go.Vm
