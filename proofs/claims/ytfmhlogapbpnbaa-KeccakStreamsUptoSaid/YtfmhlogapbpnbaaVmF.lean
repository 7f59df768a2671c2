/-
  A VERIFIED SYMBOLIC MACHINE, PART F: each operation of the machine does what the model's does.
-/
import Derived.Test.YtfmhlogapbpnbaaVmE
namespace Go.Vm

/-- What 'ex' hands on, and that the model's operation does it. -/
def Does (P : Program) (o : Oper) (xs : List Operand) (avs : List AV) (H : Hl) (Q : AV → Hl → List Nat → List Nat → Prop) : Prop :=
  ∃ r H' tch ft, Q r H' tch ft ∧ StepOK P o xs avs H r H' tch ft

section
variable {P : Program} {o : Oper} {avs : List AV} {H : Hl}

theorem quiet1 {x : Operand} {xa r : AV} {ft : List Nat}
    (h : ∀ (ρ : Rho) (w : World) (a : Act) (g : Hp), VRel ρ w xa (a.eval x) → agree g H ft → HRel ρ w g → ∃ v, (execOp a.eval o).run P w = .ok (.value v) w ∧ VRel ρ w r v) : StepOK P o [x] [xa] H r H [] ft :=
  .quiet fun ρ w a g hx => h ρ w a g hx.one
theorem quiet2 {x y : Operand} {xa ya r : AV} {ft : List Nat}
    (h : ∀ (ρ : Rho) (w : World) (a : Act) (g : Hp), VRel ρ w xa (a.eval x) → VRel ρ w ya (a.eval y) → agree g H ft → HRel ρ w g → ∃ v, (execOp a.eval o).run P w = .ok (.value v) w ∧ VRel ρ w r v) : StepOK P o [x, y] [xa, ya] H r H [] ft :=
  .quiet fun ρ w a g hx => h ρ w a g hx.two.1 hx.two.2

theorem agree_one {g : Hp} {b : Nat} {k : Blk} (h : agree g H [b]) (hb : H[b]? = some k) : g b = some k := (h b (by simp)).trans hb

theorem run_ld1 {t : TypeId} {d : TypeDesc} (h : P.underlying t = some d) (hd : isAggD d = false) (a : Addr) (w : World) {v : Value} (hv : w.cell? a = some v) : (loadVar t a).run P w = .ok v w := by
  unfold loadVar
  rw [Sem.run_bind, run_agg h, hd]
  simp only [Result.andThen_ok, Bool.false_eq_true, if_false]
  exact run_load_some hv

theorem run_ldn {t : TypeId} {d : TypeDesc} {i : TypeInfo} (h : P.underlying t = some d) (hd : isAggD d = true) (hi : P.info? t = some i) {B X : Nat} {w : World} {vs : List Value} (hl : vs.length = i.size)
    (hv : ∀ j v, vs[j]? = some v → w.cell? ⟨B, X + j, none⟩ = some v) : (loadVar t ⟨B, X, none⟩).run P w = .ok (.agg vs.toArray) w := by
  unfold loadVar
  rw [Sem.run_bind, run_agg h, hd]
  simp only [Result.andThen_ok, if_true, Sem.run_bind, run_size hi]
  rw [run_loadCells' vs i.size hl hv]
  rfl

theorem upd_self {g : Hp} {H : Hl} {b : Nat} {k : Blk} (hb : b < H.length) : upd g (H.set b k) ([b] ++ news H.length (H.set b k).length) = one g b k := by
  funext i
  simp only [upd, one, List.length_set, news_self, List.append_nil, List.mem_singleton]
  by_cases h : i = b
  · subst h; simp [hb]
  · simp [h]

/-- A store into a block. -/
theorem store_step {xs : List Operand} {b : Nat} {cs cs' : List AV} {r : AV} (hb : H[b]? = some (.cells cs)) (hs : cs'.length = cs.length) {ft : List Nat}
    (h : ∀ (ρ : Rho) (w : World) (a : Act) (g : Hp), VRels ρ w avs (xs.map a.eval) → HRel ρ w g → agree g H ft → ∀ B F c e lo hi, ρ b = .live B F → w.heap[B]? = some (.cells c e (lo, hi)) → F + cs.length ≤ c.size →
      (∀ j, F ≤ j → j < c.size → ¬ (lo ≤ j ∧ j < hi)) → Lies ρ w cs F c → ∃ w' c' n, ((execOp a.eval o).run P w = .ok n w' ∧ (n = .skip ∨ ∃ v, n = .value v ∧ VRel ρ w r v)) ∧ Wrote w B c' e (lo, hi) w' ∧ c'.size = c.size ∧ Lies ρ w cs' F c')
    (hne : cs ≠ [] ∨ ∀ (ρ : Rho) (w : World) (a : Act) (g : Hp), VRels ρ w avs (xs.map a.eval) → HRel ρ w g → ρ b ≠ .void) (hr : r = .tup [] ∨ ∀ (a : Act) (w w' : World) n, (execOp a.eval o).run P w = .ok n w' → n ≠ .skip) :
    StepOK P o xs avs H r (H.set b (.cells cs')) [b] ft where
  grow := by simp
  old i hi := by
    have hbl := (List.getElem?_eq_some_iff.1 hb).1
    simp at hi; subst hi; exact hbl
  keep i hi hn := by
    simp at hn
    rw [List.getElem?_set_ne (fun h => hn h.symm)]
  does ρ w a g hx hf ht _ hg := by
    have hbl := (List.getElem?_eq_some_iff.1 hb).1
    have hgb : g b = some (.cells cs) := agree_one ht hb
    rcases hg.live b cs hgb with ⟨hv, hcs⟩ | ⟨B, F, c, e, lo, hi, hl, hc, hsz, hf2, hli⟩
    · rcases hne with hne | hne
      · exact absurd hcs hne
      · exact absurd hv (hne ρ w a g hx hg)
    · obtain ⟨w', c', n, ⟨hrun, hn⟩, hw, hcs, hli'⟩ := h ρ w a g hx hg hf B F c e lo hi hl hc hsz hf2 hli
      have E : ∀ n, Ext n ρ w ρ w' := hw.ext hl hc hcs
      have R := hg.wrote hgb hl hc hf2 hw hcs (by omega) hli'
      rcases hn with rfl | ⟨v, rfl, hv⟩
      · refine OpDo.skip hrun ⟨ρ, ?_, ?_, E⟩
        · rw [upd_self hbl]; exact R
        · rcases hr with rfl | hr
          · exact undef_rel ρ w'
          · exact absurd rfl (hr a w w' _ hrun)
      · refine OpDo.value hrun ⟨ρ, ?_, ext_bound E hv, E⟩
        rw [upd_self hbl]; exact R
end

end Go.Vm
