/-
  A VERIFIED SYMBOLIC MACHINE, PART V: that the machine is sound.
-/
import Derived.Test.YtfmhlogapbpnbaaVmU
namespace Go.Vm

def resOf (P : Program) : List ResultVar → Option (List RV)
  | [] => some []
  | .tmp t :: rs => match resOf P rs with
    | some xs => some (.tmp t :: xs)
    | none => none
  | .cell a ty :: rs => match resOf P rs, P.underlying ty, P.info? ty with
    | some xs, some d, some i => match isAggD d with
      | true => some (.cell a i.size :: xs)
      | false => some (.cell1 a (kdOf d) :: xs)
    | _, _, _ => none

/-- vf is the function f, as the machine sees it. -/
structure FnOK (P : Program) (f : Nat) (vf : VF) : Prop where
  ex : ∃ fn c, P.funcs[f]? = some fn ∧ fn.body = some c ∧ (fn.name == "runtime.NumGoroutine") = false ∧ compile P c = vf.body ∧ fn.ntmps = vf.ntmps ∧ resOf P fn.results.toList = some vf.results

theorem FnOK.real {P : Program} {f : Nat} {vf : VF} (h : FnOK P f vf) (args : Array Value) (w : World) : (callFunc f args).run P w = .ok (.enter f args) w := by
  obtain ⟨fn, c, h1, h2, h3, _⟩ := h.ex
  have h3 : fn.name ≠ "runtime.NumGoroutine" := by simpa using h3
  simp [callFunc, h1, h2, h3]

/-- What a result is read off. -/
def resVar (tmps : Array Value) : ResultVar → Sem Value
  | .tmp t => pure (tmps.getD t undef)
  | .cell a t => do loadVar t (← asAddr (tmps.getD a undef))

section
variable {R : Type} {A : Alg R} {holds : R → Prop} {P : Program} (good : A.Good holds)
include good

theorem results_sound {fr : Fr} {H : Hl} : ∀ {rvs : List ResultVar} {rv : List RV} {k : List AV → R}, resOf P rvs = some rv → holds (results A ops0 rv fr H k) →
    ∃ vs, holds (k vs) ∧ ∀ (ρ : Rho) (w : World) (tmps : Array Value), HRel ρ w (fun b => H[b]?) → FRel ρ w fr tmps →
      ∃ us : List Value, (rvs.mapM (resVar tmps)).run P w = .ok us w ∧ VRels ρ w vs us
  | [], rv, k, hr, h => by
    cases hr
    exact ⟨[], h, fun ρ w tmps _ _ => ⟨[], by simp, .nil⟩⟩
  | .tmp t :: rs, rv, k, hr, h => by
    simp only [resOf] at hr
    split at hr <;> first | cases hr | skip
    rename_i xs hx
    obtain ⟨vs, h, hv⟩ := results_sound hx (show holds (results A ops0 xs fr H fun vs => k (slot fr t :: vs)) from h)
    refine ⟨_, h, fun ρ w tmps hg hf => ?_⟩
    obtain ⟨us, h1, h2⟩ := hv ρ w tmps hg hf
    exact ⟨_, by simp only [List.mapM_cons, resVar, Sem.run_bind, Sem.run_pure, Result.andThen_ok, h1], .cons (slot_rel hf t) h2⟩
  | .cell t ty :: rs, rv, k, hr, h => by
    simp only [resOf] at hr
    split at hr <;> first | cases hr | skip
    rename_i xs d i hx hd hi
    split at hr <;> cases hr
    · rename_i ha
      unfold results at h
      split at h
      · rename_i b o hs
        obtain ⟨cs, hb, h⟩ := blkK_sound good h
        obtain ⟨hle, h⟩ := good.chk _ _ h
        have hle : o + i.size ≤ cs.length := by simpa [ops0] using hle
        obtain ⟨vs, h, hv⟩ := results_sound hx h
        refine ⟨_, h, fun ρ w tmps hg hf => ?_⟩
        obtain ⟨us, h1, h2⟩ := hv ρ w tmps hg hf
        have hp := slot_rel hf t
        rw [hs] at hp
        obtain ⟨B, F, c, e, lo, hi', hl, hve, hc, hsz, hfz, hli⟩ := ptr_live hg hb hp
        obtain ⟨ws, hwl, hwc, hwl2, hwo⟩ := (Lies.sub hli o i.size).values
        have hlen : ((cs.drop o).take i.size).length = i.size := by simp; omega
        have hrun := run_ldn hd ha hi (B := B) (X := F + o) (w := w) (vs := ws) (by omega) (fun j v hv => by rw [cell_at hc]; exact hwc j v hv)
        refine ⟨.agg ws.toArray :: us, ?_, .cons (agg_of_lies hwl hwl2) h2⟩
        simp only [List.mapM_cons, resVar, Sem.run_bind, hve, asAddr, Sem.run_pure, Result.andThen_ok, hrun, h1]
      · exact (good.fail h).elim
    · rename_i ha
      unfold results at h
      split at h
      · rename_i b o hs
        obtain ⟨cs, hb, h⟩ := blkK_sound good h
        obtain ⟨x, hx', h⟩ := good.get _ _ _ _ h
        obtain ⟨vs, h, hv⟩ := results_sound hx h
        refine ⟨_, h, fun ρ w tmps hg hf => ?_⟩
        obtain ⟨us, h1, h2⟩ := hv ρ w tmps hg hf
        have hp := slot_rel hf t
        rw [hs] at hp
        obtain ⟨B, F, c, e, lo, hi', hl, hve, hc, hsz, hfz, hli⟩ := ptr_live hg hb hp
        obtain ⟨v, hvc, _, hvr⟩ := hli o x hx'
        have hrun := run_ld1 hd ha ⟨B, F + o, none⟩ w (v := v) (by rw [cell_at hc]; exact hvc)
        refine ⟨v :: us, ?_, .cons hvr h2⟩
        simp only [List.mapM_cons, resVar, Sem.run_bind, hve, asAddr, Sem.run_pure, Result.andThen_ok, hrun, h1]
      · exact (good.fail h).elim

omit good in
theorem pack_rel {ρ : Rho} {w : World} {vs : List AV} {us : List Value} (h : VRels ρ w vs us) : VRel ρ w (pack vs) (if h : us.toArray.size = 1 then us.toArray[0] else .tuple us.toArray) := by
  have hl := h.len
  rcases vs with _ | ⟨x, _ | ⟨y, vs⟩⟩
  · have : us = [] := List.eq_nil_of_length_eq_zero (by simpa using hl)
    subst this
    exact .tup [] [] rfl (fun i a v ha _ => by simp at ha)
  · rcases us with _ | ⟨u, _ | ⟨v, us⟩⟩
    · simp at hl
    · exact h.one
    · simp at hl
  · rcases us with _ | ⟨u, _ | ⟨v, us⟩⟩
    · simp at hl
    · simp at hl
    · exact .tup _ _ h.len h.at_

theorem fn_results {fn : Func} {rv : List RV} {fr : Fr} {H : Hl} {k : List AV → R} (hr : resOf P fn.results.toList = some rv) (h : holds (results A ops0 rv fr H k)) :
    ∃ vs, holds (k vs) ∧ ∀ (ρ : Rho) (w : World) (tmps : Array Value), HRel ρ w (fun b => H[b]?) → FRel ρ w fr tmps → ∃ v, (Go.results fn tmps).run P w = .ok v w ∧ VRel ρ w (pack vs) v := by
  obtain ⟨vs, h, hv⟩ := results_sound good hr h
  refine ⟨vs, h, fun ρ w tmps hg hf => ?_⟩
  obtain ⟨us, h1, h2⟩ := hv ρ w tmps hg hf
  refine ⟨_, ?_, pack_rel h2⟩
  have hm : (fn.results.mapM (resVar tmps)).run P w = .ok us.toArray w := by
    rw [Array.mapM_eq_mapM_toList, Sem.run_map, h1]
    rfl
  show ((fn.results.mapM (resVar tmps) >>= fun vs => pure (if h : vs.size = 1 then vs[0] else .tuple vs)) : Sem Value).run P w = _
  rw [Sem.run_bind, hm]
  rfl
end

theorem pad_eq (n : Nat) : pad n = List.replicate n (.tup []) := by
  induction n with
  | zero => rfl
  | succ n ih => simp [pad, ih, List.replicate_succ]

/-- The frame of a call. -/
theorem frame0 {ρ : Rho} {w : World} {vals : List AV} {us : List Value} (h : VRels ρ w vals us) (n : Nat) :
    FRel ρ w (join vals (pad (n - size vals))) (us.toArray ++ Array.replicate (n - us.toArray.size) undef) := by
  have hl := h.len
  rw [join_eq, pad_eq, size_eq]
  have : (us.toArray ++ Array.replicate (n - us.toArray.size) undef).toList = us ++ List.replicate (n - vals.length) undef := by
    simp [hl]
  unfold FRel
  rw [this]
  refine h.append ⟨by simp, fun i a v ha hv => ?_⟩
  rw [List.getElem?_replicate] at ha hv
  split at ha
  · rename_i hi
    rw [if_pos hi] at hv
    cases ha; cases hv
    exact undef_rel ρ w
  · cases ha

section
variable {R : Type} {A : Alg R} {holds : R → Prop} {P : Program} (fine : A.Fine P holds) {T : Nat → Option VF} (hT : ∀ f vf, T f = some vf → FnOK P f vf)
include fine

/-- A function's body, gone through, is a call. -/
theorem call_of_body {f : Nat} {vf : VF} (hfn : FnOK P f vf) {vals : List AV} {H : Hl} {k : AV → Hl → List Nat → R} {n : Nat}
    (ih : ∀ c n0 fr H lg (k : Ex → Fr → Hl → List Nat → R), n0 ≤ H.length → holds (vm A ops0 T n n0 (compile P c) fr H lg k) → ∃ ex fr' H' lg', Goes (c.wp P) n0 fr H lg (exitOf ex) fr' H' lg' ∧ holds (k ex fr' H' lg'))
    (h : holds (vcall A ops0 T n vf vals H k)) : ∃ r H' lg, CallTo P f vals H r H' lg ∧ holds (k r H' lg) := by
  have hreal := hfn.real
  obtain ⟨fn, c, hf, hb, hname, hcomp, hnt, hres⟩ := hfn.ex
  unfold vcall at h
  rw [← hcomp, ← hnt] at h
  obtain ⟨ex, fr', H', lg', hg, h⟩ := ih c (size H) _ H [] _ (by rw [size_eq]; exact Nat.le_refl _) h
  have fin : ∀ e, (e = .normal ∨ e = .ret) → exitOf ex = e → holds (results A ops0 vf.results fr' H' fun vs => k (pack vs) H' lg') → ∃ r H' lg, CallTo P f vals H r H' lg ∧ holds (k r H' lg) := by
    intro e he hee h
    obtain ⟨vs, h, hv⟩ := fn_results fine.toGood hres h
    refine ⟨_, _, _, ⟨hreal, by have := hg.grow; rwa [size_eq] at this, fun b hb hn => hg.keep b (by rw [size_eq]; exact hb) hn, ?_⟩, h⟩
    intro ρ w us hgw hvs
    refine calls_of_wp hf hb ?_
    refine hg.does ρ w _ _ hgw (frame0 hvs _) fun a' w' ρ' g1 g2 g3 g4 => ?_
    obtain ⟨v, h1, h2⟩ := hv ρ' w' a'.tmps g1 g2
    rw [size_eq] at g4
    rw [hee]
    rcases he with rfl | rfl
    · exact ⟨g3, v, h1, v, ρ', rfl, g1, h2, g4⟩
    · exact ⟨g3, v, h1, v, ρ', rfl, g1, h2, g4⟩
  cases ex with
  | norm => exact fin .normal (.inl rfl) rfl h
  | ret => exact fin .ret (.inr rfl) rfl h
  | exit id => exact (fine.fail h).elim

include hT
theorem vm_sound : ∀ (n : Nat),
    (∀ c n0 fr H lg (k : Ex → Fr → Hl → List Nat → R), n0 ≤ H.length → holds (vm A ops0 T n n0 (compile P c) fr H lg k) → ∃ ex fr' H' lg', Goes (c.wp P) n0 fr H lg (exitOf ex) fr' H' lg' ∧ holds (k ex fr' H' lg')) ∧
    (∀ c n0 fr H lg (k : Ex → Fr → Hl → List Nat → R), n0 ≤ H.length → holds (vm A ops0 T n n0 (.loop (compile P c)) fr H lg k) → ∃ ex fr' H' lg', Goes (LoopWp P c) n0 fr H lg (exitOf ex) fr' H' lg' ∧ holds (k ex fr' H' lg'))
  | 0 => ⟨fun c n0 fr H lg k _ h => (fine.fail h).elim, fun c n0 fr H lg k _ h => (fine.fail h).elim⟩
  | n + 1 => by
    obtain ⟨ihS, ihL⟩ := vm_sound n
    have hcf : CallOK P holds (fun f vals H k => match T f with
        | none => A.call f vals H k
        | some vf => vm A ops0 T n (size H) vf.body (join vals (pad (vf.ntmps - size vals))) H [] fun ex fr H' lg => match ex with
          | .exit _ => A.fail
          | _ => results A ops0 vf.results fr H' fun vs => k (pack vs) H' lg) := by
      intro f vals H k h
      simp only at h
      split at h
      · exact fine.call f vals H k h
      · rename_i vf hvf
        exact call_of_body fine (hT f vf hvf) ihS h
    have L : ∀ c n0 fr H lg (k : Ex → Fr → Hl → List Nat → R), n0 ≤ H.length → holds (vm A ops0 T (n + 1) n0 (.loop (compile P c)) fr H lg k) → ∃ ex fr' H' lg', Goes (LoopWp P c) n0 fr H lg (exitOf ex) fr' H' lg' ∧ holds (k ex fr' H' lg') := by
      intro c n0 fr H lg k hn0 h
      unfold vm at h
      rcases fine.loop _ _ _ _ _ _ _ hn0 h with h | ⟨ex, fr', H', lg', h1, h2⟩
      · obtain ⟨ex, fr', H', lg', hg, h⟩ := ihS c n0 fr H lg _ hn0 h
        cases ex with
        | norm =>
          obtain ⟨ex2, fr2, H2, lg2, hg2, h⟩ := ihL c n0 fr' H' lg' k hg.grow h
          exact ⟨ex2, fr2, H2, lg2, hg.trans hg2 fun Q a w hw => LoopWp.step (wp_mono hw (by rintro e a w ⟨rfl, h⟩; exact h)), h⟩
        | ret => exact ⟨.ret, fr', H', lg', hg.weak fun Q a w hw => LoopWp.step (wp_mono hw (by rintro e a w ⟨rfl, h⟩; exact h)), h⟩
        | exit id => exact ⟨.exit id, fr', H', lg', hg.weak fun Q a w hw => LoopWp.step (wp_mono hw (by rintro e a w ⟨rfl, h⟩; exact h)), h⟩
      · exact ⟨ex, fr', H', lg', h1 c rfl, h2⟩
    refine ⟨?_, L⟩
    intro c n0 fr H lg k hn0 h
    cases c with
    | skip => exact ⟨.norm, fr, H, lg, ⟨hn0, fun b hb => hb, fun b _ _ => rfl, fun ρ w a Q h1 h2 hQ => wp_skip (hQ a w ρ h1 h2 rfl (Ext.refl _ _ _))⟩, h⟩
    | ret => exact ⟨.ret, fr, H, lg, ⟨hn0, fun b hb => hb, fun b _ _ => rfl, fun ρ w a Q h1 h2 hQ => wp_ret (hQ a w ρ h1 h2 rfl (Ext.refl _ _ _))⟩, h⟩
    | exit id => exact ⟨.exit id, fr, H, lg, ⟨hn0, fun b hb => hb, fun b _ _ => rfl, fun ρ w a Q h1 h2 hQ => wp_exit (hQ a w ρ h1 h2 rfl (Ext.refl _ _ _))⟩, h⟩
    | region id ops draw =>
      obtain ⟨fr', H', lg', hg, h⟩ := region_sound fine.toGood hcf (id := id) (all := ops) (draw := draw) (n0 := n0) (fr := fr) (H := H) (lg := lg) (k := fun fr H lg => k .norm fr H lg) hn0 (fun d bef vs e => by
        have h : holds (vm A ops0 T (n + 1) n0 (regOf P ops draw) fr H lg k) := h
        rw [e] at h
        exact h)
      exact ⟨.norm, fr', H', lg', hg, h⟩
    | seq x y =>
      obtain ⟨ex, fr', H', lg', hg, h⟩ := ihS x n0 fr H lg _ hn0 h
      cases ex with
      | norm =>
        obtain ⟨ex2, fr2, H2, lg2, hg2, h⟩ := ihS y n0 fr' H' lg' k hg.grow h
        exact ⟨ex2, fr2, H2, lg2, hg.trans hg2 fun Q a w hw => wp_seq (wp_mono hw (by rintro e a w ⟨rfl, h⟩; exact h)), h⟩
      | ret => exact ⟨.ret, fr', H', lg', hg.weak fun Q a w hw => wp_seq (wp_mono hw (by rintro e a w ⟨rfl, h⟩; exact h)), h⟩
      | exit id => exact ⟨.exit id, fr', H', lg', hg.weak fun Q a w hw => wp_seq (wp_mono hw (by rintro e a w ⟨rfl, h⟩; exact h)), h⟩
    | cond c x y =>
      simp only [compile] at h
      cases hc : argOf c with
      | none => rw [hc] at h; exact (fine.fail h).elim
      | some z =>
        rw [hc] at h
        have h : holds (match ev fr z with
          | .bool true => vm A ops0 T n n0 (compile P x) fr H lg k
          | .bool false => vm A ops0 T n n0 (compile P y) fr H lg k
          | _ => A.fail) := h
        split at h
        · rename_i hev
          obtain ⟨ex, fr', H', lg', hg, h⟩ := ihS x n0 fr H lg k hn0 h
          refine ⟨ex, fr', H', lg', ⟨hg.grow, hg.sub, hg.keep, fun ρ w a Q h1 h2 hQ => ?_⟩, h⟩
          have := arg_rel h2 hc
          rw [hev] at this
          exact wp_cond_true (inv_bool this) (hg.does ρ w a Q h1 h2 hQ)
        · rename_i hev
          obtain ⟨ex, fr', H', lg', hg, h⟩ := ihS y n0 fr H lg k hn0 h
          refine ⟨ex, fr', H', lg', ⟨hg.grow, hg.sub, hg.keep, fun ρ w a Q h1 h2 hQ => ?_⟩, h⟩
          have := arg_rel h2 hc
          rw [hev] at this
          exact wp_cond_false (inv_bool this) (hg.does ρ w a Q h1 h2 hQ)
        · exact (fine.fail h).elim
    | block id x =>
      replace h := ihS x n0 fr H lg _ hn0 h
      obtain ⟨ex, fr', H', lg', hg, h⟩ := h
      cases ex with
      | norm => exact ⟨.norm, fr', H', lg', hg.weak fun Q a w hw => wp_block (wp_mono hw (by rintro e a w ⟨rfl, h⟩; exact h)), h⟩
      | ret => exact ⟨.ret, fr', H', lg', hg.weak fun Q a w hw => wp_block (wp_mono hw (by rintro e a w ⟨rfl, h⟩; exact h)), h⟩
      | exit j =>
        simp only at h
        split at h
        · rename_i hj
          have hj := Nat.eq_of_beq_eq_true hj
          subst hj
          exact ⟨.norm, fr', H', lg', hg.weak fun Q a w hw => wp_block (wp_mono hw (by rintro e a w ⟨rfl, h⟩; simpa [exitOf, Exit.inBlock] using h)), h⟩
        · rename_i hj
          have hj : j ≠ id := by intro e; subst e; simp [Nat.beq_refl] at hj
          exact ⟨.exit j, fr', H', lg', hg.weak fun Q a w hw => wp_block (wp_mono hw (by rintro e a w ⟨rfl, h⟩; simpa [exitOf, Exit.inBlock, hj] using h)), h⟩
    | loop x =>
      obtain ⟨ex, fr', H', lg', hg, h⟩ := L x n0 fr H lg k hn0 h
      exact ⟨ex, fr', H', lg', hg.weak fun Q a w hw => LoopWp.wp (by
        have : (fun e1 a1 w1 => e1 = exitOf ex ∧ Q (exitOf ex) a1 w1) = fun e1 a1 w1 => e1 = exitOf ex ∧ Q e1 a1 w1 := by
          funext e1 a1 w1
          exact propext ⟨fun ⟨a, b⟩ => ⟨a, a ▸ b⟩, fun ⟨a, b⟩ => ⟨a, a ▸ b⟩⟩
        rw [this] at hw
        intro b k cs
        obtain ⟨e, a', w', hq, harr⟩ := hw b k cs
        exact ⟨e, a', w', hq.2, harr⟩), h⟩
    | _ => exact (fine.fail h).elim

/-- A CALL, by the machine. -/
theorem vcall_sound {n : Nat} {f : Nat} {vf : VF} (hfn : FnOK P f vf) {vals : List AV} {H : Hl} {k : AV → Hl → List Nat → R} (h : holds (vcall A ops0 T n vf vals H k)) :
    ∃ r H' lg, CallTo P f vals H r H' lg ∧ holds (k r H' lg) :=
  call_of_body fine hfn (vm_sound fine hT n).1 h
end

end Go.Vm
