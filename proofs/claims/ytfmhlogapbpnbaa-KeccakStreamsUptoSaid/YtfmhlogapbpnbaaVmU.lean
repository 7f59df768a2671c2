/-
  A VERIFIED SYMBOLIC MACHINE, PART U: code, functions, calls.
-/
import Derived.Test.YtfmhlogapbpnbaaVmT
namespace Go.Vm

/-- The machine's code of a piece of Go code. -/
def compile (P : Program) : Code → VC
  | .skip => .skip
  | .ret => .ret
  | .exit id => .exit id
  | .region _ ops draw => regOf P ops draw
  | .seq a b => .seq (compile P a) (compile P b)
  | .cond c a b => match argOf c with
    | some x => .cond x (compile P a) (compile P b)
    | none => .reg false [] [badO]
  | .block id b => .block id (compile P b)
  | .loop b => .loop (compile P b)
  | _ => .reg false [] [badO]

def exitOf : Ex → Exit
  | .norm => .normal
  | .ret => .ret
  | .exit id => .exit id

/-- A loop, from its body's start on. -/
def LoopWp (P : Program) (c : Code) (Q : Exit → Act → World → Prop) (a : Act) (w : World) : Prop :=
  ∀ (b : Frame) (k : List Item) (cs : List Frame), ∃ e a' w', Q e a' w' ∧ Arrives P (lone (b.at a (.code c :: .inLoop c :: k)) cs w) b k cs e a' w'

theorem LoopWp.wp {P : Program} {c : Code} {Q : Exit → Act → World → Prop} {a : Act} {w : World} (h : LoopWp P c Q a w) : (Code.loop c).wp P Q a w := fun b k cs =>
  let ⟨e, a', w', hq, harr⟩ := h b k cs
  ⟨e, a', w', hq, .of_steps (.one step_loop) harr⟩

theorem LoopWp.step {P : Program} {c : Code} {Q : Exit → Act → World → Prop} {a : Act} {w : World} (h : c.wp P (Exit.then (LoopWp P c Q) Q) a w) : LoopWp P c Q a w := by
  intro b k cs
  obtain ⟨e, a₁, w₁, hq, harr⟩ := h b (.inLoop c :: k) cs
  cases e with
  | normal =>
    obtain ⟨e₂, a₂, w₂, hq₂, harr₂⟩ := hq b k cs
    exact ⟨e₂, a₂, w₂, hq₂, .of_steps (Steps.trans harr (.one step_inLoop)) harr₂⟩
  | exit id => exact ⟨_, a₁, w₁, hq, .pass (x := .inLoop c) rfl (fun _ _ => .inl (by simp)) harr⟩
  | goto l => exact ⟨_, a₁, w₁, hq, .pass (x := .inLoop c) rfl (fun _ _ => .inl (by simp)) harr⟩
  | ret => exact ⟨_, a₁, w₁, hq, .pass (x := .inLoop c) rfl (fun _ _ => .inl (by simp)) harr⟩
  | panic ch => exact ⟨_, a₁, w₁, hq, .pass (x := .inLoop c) rfl (fun _ _ => .inl (by simp)) harr⟩
  | outgrown => exact ⟨_, a₁, w₁, hq, .pass (x := .inLoop c) rfl (fun _ _ => .inl (by simp)) harr⟩

/-- What a loop comes to. -/
def LoopTo (P : Program) (n0 : Nat) (b : VC) (fr : Fr) (H : Hl) (lg : List Nat) (ex : Ex) (fr' : Fr) (H' : Hl) (lg' : List Nat) : Prop :=
  ∀ c, compile P c = b → Goes (LoopWp P c) n0 fr H lg (exitOf ex) fr' H' lg'

/-- The algebra's words for calls and loops are good. -/
structure Alg.Fine {R : Type} (A : Alg R) (P : Program) (holds : R → Prop) : Prop extends A.Good holds where
  call : CallOK P holds A.call
  loop : ∀ n0 b fr H lg k u, n0 ≤ H.length → holds (A.loop n0 b fr H lg k u) → holds (u ()) ∨ ∃ ex fr' H' lg', LoopTo P n0 b fr H lg ex fr' H' lg' ∧ holds (k ex fr' H' lg')

theorem inv_end {n : Nat} {vf : Nat → VO} {t : Tr} {ρ0 : Rho} {w0 : World} {ds : List Deferred} {a : Act} {w : World} (h : Inv n vf t ρ0 w0 ds (fun _ => True) a w) :
    ∃ ρ, HRel ρ w (fun b => (t.H n)[b]?) ∧ FRel ρ w (t.fr n) a.tmps ∧ (∀ m, Ext m ρ0 w0 ρ w) ∧ a.defers = ds := by
  obtain ⟨⟨ρ, fr, g, h1, h2, h3, h4, h5⟩, h6⟩ := h
  have e1 : fr = t.fr n := List.ext_getElem? fun s => h4 s n (Nat.le_refl _) fun j hj _ => ⟨fun _ => hj, fun _ => trivial⟩
  have e2 : g = fun b => (t.H n)[b]? := funext fun b => h5 b n (Nat.le_refl _) fun j hj _ _ => ⟨fun _ => hj, fun _ => trivial⟩
  subst e1; subst e2
  exact ⟨ρ, h1, h2, h3, h6⟩

section
variable {R : Type} {A : Alg R} {holds : R → Prop} {P : Program} {cf : CallF R} (good : A.Good holds) (hcf : CallOK P holds cf)
include good

theorem bad_region {i : Nat} {fr : Fr} {H : Hl} {lg : List Nat} {rs : List Rec} {k : Fr → Hl → List Nat → List Rec → R} (h : holds (vops A ops0 cf i [badO] fr H lg rs k)) : False := good.fail h

include hcf
theorem region_sound {id : Nat} {all : Array Oper} {draw : Bool} {n0 : Nat} {fr : Fr} {H : Hl} {lg : List Nat} {k : Fr → Hl → List Nat → R} (hn0 : n0 ≤ H.length)
    (h : ∀ d bef vs, regOf P all draw = .reg d bef vs → holds (vops A ops0 cf 0 vs fr H lg [] fun fr H lg rs => match d with
      | false => k fr H lg
      | true => A.chk (races bef rs) (k fr H lg))) :
    ∃ fr' H' lg', Goes ((Code.region id all draw).wp P) n0 fr H lg .normal fr' H' lg' ∧ holds (k fr' H' lg') := by
  let vf : Nat → VO := fun j => (vosOf P all).getD j badO
  have hvf : ∀ j o, all[j]? = some o → vf j = voOf P all o := by
    intro j o ho
    simp [vf, vosOf, List.getD_eq_getElem?_getD, ho]
  let t0 : Tr := ⟨fun _ => fr, fun _ => H, fun _ => .top, fun _ => [], fun _ => [], fun _ => false⟩
  have main : ∀ (k' : Fr → Hl → List Nat → List Rec → R), holds (vops A ops0 cf 0 (vosOf P all) fr H lg [] k') → ∃ t lg', t.fr 0 = fr ∧ t.H 0 = H ∧ (∀ j o, j < all.size → all[j]? = some o → StepAt P all o (vf j) t j) ∧
      (∀ b, b ∈ lg → b ∈ lg') ∧ (∀ b, b < H.length → b ∉ lg' → (t.H all.size)[b]? = H[b]?) ∧ H.length ≤ (t.H all.size).length ∧ holds (k' (t.fr all.size) (t.H all.size) lg' (recs vf t all.size)) := by
    intro k' hk'
    have := vops_sound good hcf all vf hvf H lg all.toList 0 t0 lg (fun j => by simp) (fun j o hj => by omega) (fun b hb => hb) (fun b _ _ => rfl) (Nat.le_refl _) hk'
    simpa using this
  have start : ∀ (t : Tr) (ρ : Rho) (w w1 : World) (a : Act) (D : Nat → Prop), t.fr 0 = fr → t.H 0 = H → (∀ j o, j < all.size → all[j]? = some o → StepAt P all o (vf j) t j) → (∀ j, j < all.size → ¬ D j) →
      HRel ρ w1 (fun b => H[b]?) → FRel ρ w1 fr a.tmps → (∀ m, Ext m ρ w ρ w1) → Inv all.size vf t ρ w a.defers D a w1 := by
    intro t ρ w w1 a D h1 h2 hst hD hg hf hE
    refine ⟨⟨ρ, fr, _, hg, hf, hE, fun s p hp hw => ?_, fun b p hp hw => ?_⟩, rfl⟩
    · -- nobody ahead of p writes it
      have mid : ∀ d, d ≤ p → (t.fr d)[s]? = fr[s]? := by
        intro d
        induction d with
        | zero => intro _; rw [h1]
        | succ d ih =>
          intro hd
          have hlt : d < all.size := by omega
          have hst' := hst d all[d] hlt (by simp [hlt])
          rw [hst'.fr]
          have hne : (vf d).dst ≠ some s := fun e => hD d hlt ((hw d hlt e).2 (by omega))
          cases hdd : (vf d).dst with
          | none => exact ih (by omega)
          | some d2 =>
            simp only [setD, put_eq]
            rw [set_get, if_neg (by intro e; subst e; exact hne hdd)]
            exact ih (by omega)
      exact (mid p (Nat.le_refl _)).symm
    · have mid : ∀ d, d ≤ p → (t.H d)[b]? = H[b]? := by
        intro d
        induction d with
        | zero => intro _; rw [h2]
        | succ d ih =>
          intro hd
          have hlt : d < all.size := by omega
          have hst' := hst d all[d] hlt (by simp [hlt])
          rw [hst'.keep b ?_]
          · exact ih (by omega)
          · intro hb
            have hr : t.run d = true := by
              cases hr : t.run d with
              | true => rfl
              | false => rw [(hst'.passed hr).2.2.1] at hb; cases hb
            exact hD d hlt ((hw d hlt hr hb).2 (by omega))
      exact (mid p (Nat.le_refl _)).symm
  cases draw with
  | false =>
    have h := h false [] (vosOf P all) rfl
    obtain ⟨t, lg', t1, t2, hst, s1, s2, s3, h⟩ := main _ h
    refine ⟨t.fr all.size, t.H all.size, lg', ⟨Nat.le_trans hn0 s3, s1, fun b hb hn => s2 b (by omega) hn, ?_⟩, h⟩
    intro ρ w a Q hg hf hQ
    apply wp_region
    rw [List.range_eq_range']
    refine ops_text (vf := vf) (t := t) (ρ0 := ρ) (w0 := w) (ds := a.defers) rfl hst ⟨fun i j hij _ _ => hij, fun i j hij _ _ _ _ => hij⟩ ?_ all.size 0 a w (by omega) ?_
    · intro a' w' hi
      obtain ⟨ρ', g1, g2, g3, g4⟩ := inv_end hi
      exact hQ a' w' ρ' g1 g2 g4 (g3 n0)
    · exact start t ρ w w a _ t1 t2 hst (fun j _ => by omega) hg hf (fun m => Ext.refl m ρ w)
  | true =>
    unfold regOf at h
    simp only at h
    split at h
    · rename_i hok
      simp only [Bool.and_eq_true] at hok
      have h := h true _ _ rfl
      obtain ⟨t, lg', t1, t2, hst, s1, s2, s3, h⟩ := main _ h
      obtain ⟨hr, h⟩ := good.chk _ _ h
      refine ⟨t.fr all.size, t.H all.size, lg', ⟨Nat.le_trans hn0 s3, s1, fun b hb hn => s2 b (by omega) hn, ?_⟩, h⟩
      intro ρ w a Q hg hf hQ
      apply wp_region_draw
      intro tp
      have hsch : Region.schedule (P.follows .mixedOrders) all tp = Region.linearise .any all tp := by
        unfold Region.schedule
        rw [if_pos hok.1.1]
      rw [hsch]
      unfold Region.linearise
      have hv : ∀ j, j < all.size → (vosOf P all)[j]? = some (vf j) := by
        intro j hj
        simp [vf, vosOf, List.getD_eq_getElem?_getD, hj]
      refine wpAny_sound all.size tp _ a _ ?_
      refine ops_any (vf := vf) (t := t) (ρ0 := ρ) (w0 := w) (ds := a.defers) rfl hst rfl (fun j o ho e h1 h2 => by
          have := edgesOK_ok hok.1.2 j o (by simpa using ho) e h1 h2
          omega) ⟨fun i j hij hj hc => ?_, fun i j hij hj hri hrj hc => races_ok hr i j hij hj hri hrj hc⟩ ?_ all.size _ a _ (by simp) ?_ ?_ ?_
      · have := slotsOK_ok hok.2 i j _ _ (hv i (by omega)) (hv j hj) hij hc
        simpa using this
      · intro a' w' hi
        obtain ⟨ρ', g1, g2, g3, g4⟩ := inv_end hi
        exact hQ a' w' ρ' g1 g2 g4 (g3 n0)
      · rw [cnt_congr (q := fun _ => true) (fun i hi => by simp [hi])]
        exact cnt_all _
      · intro j o _ hl
        exfalso
        rw [Array.getD_eq_getD_getElem?] at hl
        rcases Nat.lt_or_ge j all.size with h' | h'
        · simp [h'] at hl
        · rw [Array.getElem?_eq_none (by simpa using h')] at hl; cases hl
      · refine start t ρ w _ a _ t1 t2 hst ?_ (hg.drew _) (vrels_bound (drew_ext ρ w _) hf) (drew_ext ρ w _)
        intro j hj
        rw [Array.getD_eq_getD_getElem?]
        simp [hj]
    · have h := h false [] [badO] rfl
      exact (bad_region good h).elim
end

end Go.Vm
