/-
  A VERIFIED SYMBOLIC MACHINE, PART M: slice expressions.
-/
import Derived.Test.YtfmhlogapbpnbaaVmL
namespace Go.Vm

theorem run_bound {P : Program} {w : World} {kd : IntKind} {i : Int} {y : Nat} {code : BoundsCode} (h : 0 ≤ i ∧ i ≤ y) : (Instr.sliceBound (.int kd i) y code).run P w = .ok i.toNat w := by
  simp [Instr.sliceBound, asIntOf, h]

/-- What the bounds of a slice expression come to. -/
structure Bds (lo hi mx : Bool) (ys : List AV) (len cap l h m : Nat) : Prop where
  le : l ≤ h
  max : mx = true → h ≤ m ∧ m ≤ cap
  free : mx = false → m = cap ∧ (h = len ∨ h ≤ cap)
  run : ∀ (P : Program) (ρ : Rho) (w : World) (isS : Bool) (cap' : Nat) (low high mx' : Option Value), cap ≤ cap' → len ≤ cap' → VRels ρ w ys (low.toList ++ high.toList ++ mx'.toList) →
    low.isSome = lo → high.isSome = hi → mx'.isSome = mx → (Instr.sliceBounds isS len cap' low high mx').run P w = .ok (l, h, if mx then m else cap') w

section
variable {R : Type} {A : Alg R} {holds : R → Prop} (good : A.Good holds)
include good

theorem boundsK_sound {lo hi mx : Bool} {ys : List AV} {len cap : Nat} {k : Nat → Nat → Nat → R} (h : holds (boundsK A ops0 lo hi mx ys len cap k)) :
    ∃ l h m, holds (k l h m) ∧ Bds lo hi mx ys len cap l h m := by
  cases mx with
  | false =>
    cases lo with
    | false =>
      cases hi with
      | false =>
        rcases ys with _ | ⟨_, _⟩
        · refine ⟨_, _, _, h, Nat.zero_le _, by simp, fun _ => ⟨rfl, .inl rfl⟩, ?_⟩
          intro P ρ w isS cap' low high mx' hc hl hx h1 h2 h3
          cases low <;> cases high <;> cases mx' <;> simp at h1 h2 h3
          simp [Instr.sliceBounds]
        · exact (good.fail h).elim
      | true =>
        rcases ys with _ | ⟨y, _ | ⟨_, _⟩⟩
        · exact (good.fail h).elim
        · cases y with
          | int kd i =>
            obtain ⟨hb, h⟩ := good.chk _ _ (show holds (A.chk _ _) from h)
            have hb := inb0 hb
            refine ⟨_, _, _, h, Nat.zero_le _, by simp, fun _ => ⟨rfl, .inr (by simp only [ops0]; omega)⟩, ?_⟩
            intro P ρ w isS cap' low high mx' hc hl hx h1 h2 h3
            cases low <;> cases high <;> cases mx' <;> simp at h1 h2 h3
            simp at hx
            rw [inv_int hx.one]
            simp [Instr.sliceBounds, run_bound (P := P) (w := w) (kd := kd) (i := i) (y := cap') (by omega), ops0]
          | _ => exact (good.fail h).elim
        · cases y <;> exact (good.fail h).elim
    | true =>
      cases hi with
      | false =>
        rcases ys with _ | ⟨y, _ | ⟨_, _⟩⟩
        · exact (good.fail h).elim
        · cases y with
          | int kd i =>
            obtain ⟨hb, h⟩ := good.chk _ _ (show holds (A.chk _ _) from h)
            have hb := inb0 hb
            refine ⟨_, _, _, h, by simp only [ops0]; omega, by simp, fun _ => ⟨rfl, .inl rfl⟩, ?_⟩
            intro P ρ w isS cap' low high mx' hc hl hx h1 h2 h3
            cases low <;> cases high <;> cases mx' <;> simp at h1 h2 h3
            simp at hx
            rw [inv_int hx.one]
            simp [Instr.sliceBounds, run_bound (P := P) (w := w) (kd := kd) (i := i) (y := len) (by omega), ops0]
          | _ => exact (good.fail h).elim
        · cases y <;> exact (good.fail h).elim
      | true =>
        rcases ys with _ | ⟨y, _ | ⟨y2, _ | ⟨_, _⟩⟩⟩
        · exact (good.fail h).elim
        · cases y <;> exact (good.fail h).elim
        · cases y with
          | int kd i =>
            cases y2 with
            | int kd2 i2 =>
              obtain ⟨hb, h⟩ := good.chk _ _ (show holds (A.chk _ _) from h)
              obtain ⟨hb2, h⟩ := good.chk _ _ h
              have hb := inb0 hb
              have hb2 := inb0 hb2
              have hb2' : 0 ≤ i ∧ i ≤ (i2.toNat : Int) := hb2
              refine ⟨_, _, _, h, by simp only [ops0]; omega, by simp, fun _ => ⟨rfl, .inr (by simp only [ops0]; omega)⟩, ?_⟩
              intro P ρ w isS cap' low high mx' hc hl hx h1 h2 h3
              cases low <;> cases high <;> cases mx' <;> simp at h1 h2 h3
              simp at hx
              rw [inv_int hx.two.1, inv_int hx.two.2]
              simp [Instr.sliceBounds, run_bound (P := P) (w := w) (kd := kd2) (i := i2) (y := cap') (by omega), run_bound (P := P) (w := w) (kd := kd) (i := i) (y := i2.toNat) (by omega), ops0]
            | _ => exact (good.fail h).elim
          | _ => exact (good.fail h).elim
        · cases y <;> first | exact (good.fail h).elim | (cases y2 <;> exact (good.fail h).elim)
  | true =>
    cases lo with
    | false =>
      cases hi with
      | false => rcases ys with _ | ⟨y, _ | ⟨y2, _⟩⟩ <;> exact (good.fail h).elim
      | true =>
        rcases ys with _ | ⟨y, _ | ⟨y2, _ | ⟨_, _⟩⟩⟩
        · exact (good.fail h).elim
        · cases y <;> exact (good.fail h).elim
        · cases y with
          | int kd i =>
            cases y2 with
            | int kd2 i2 =>
              obtain ⟨hb, h⟩ := good.chk _ _ (show holds (A.chk _ _) from h)
              obtain ⟨hb2, h⟩ := good.chk _ _ h
              have hb := inb0 hb
              have hb2 := inb0 hb2
              have hb2' : 0 ≤ i ∧ i ≤ (i2.toNat : Int) := hb2
              refine ⟨_, _, _, h, Nat.zero_le _, fun _ => by simp only [ops0]; omega, by simp, ?_⟩
              intro P ρ w isS cap' low high mx' hc hl hx h1 h2 h3
              cases low <;> cases high <;> cases mx' <;> simp at h1 h2 h3
              simp at hx
              rw [inv_int hx.two.1, inv_int hx.two.2]
              simp [Instr.sliceBounds, run_bound (P := P) (w := w) (kd := kd2) (i := i2) (y := cap') (by omega), run_bound (P := P) (w := w) (kd := kd) (i := i) (y := i2.toNat) (by omega), ops0]
            | _ => exact (good.fail h).elim
          | _ => exact (good.fail h).elim
        · cases y <;> first | exact (good.fail h).elim | (cases y2 <;> exact (good.fail h).elim)
    | true =>
      cases hi with
      | false => rcases ys with _ | ⟨y, _ | ⟨y2, _ | ⟨y3, _⟩⟩⟩ <;> exact (good.fail h).elim
      | true =>
        rcases ys with _ | ⟨y, _ | ⟨y2, _ | ⟨y3, _ | ⟨_, _⟩⟩⟩⟩
        · exact (good.fail h).elim
        · cases y <;> exact (good.fail h).elim
        · cases y <;> first | exact (good.fail h).elim | (cases y2 <;> exact (good.fail h).elim)
        · cases y with
          | int kd i =>
            cases y2 with
            | int kd2 i2 =>
              cases y3 with
              | int kd3 i3 =>
                obtain ⟨hb, h⟩ := good.chk _ _ (show holds (A.chk _ _) from h)
                obtain ⟨hb2, h⟩ := good.chk _ _ h
                obtain ⟨hb3, h⟩ := good.chk _ _ h
                have hb := inb0 hb
                have hb2 := inb0 hb2
                have hb3 := inb0 hb3
                have hb2' : 0 ≤ i2 ∧ i2 ≤ (i3.toNat : Int) := hb2
                have hb3' : 0 ≤ i ∧ i ≤ (i2.toNat : Int) := hb3
                refine ⟨_, _, _, h, by simp only [ops0]; omega, fun _ => by simp only [ops0]; omega, by simp, ?_⟩
                intro P ρ w isS cap' low high mx' hc hl hx h1 h2 h3
                cases low <;> cases high <;> cases mx' <;> simp at h1 h2 h3
                simp at hx
                rw [inv_int hx.three.1, inv_int hx.three.2.1, inv_int hx.three.2.2]
                simp [Instr.sliceBounds, run_bound (P := P) (w := w) (kd := kd3) (i := i3) (y := cap') (by omega), run_bound (P := P) (w := w) (kd := kd2) (i := i2) (y := i3.toNat) (by omega),
                  run_bound (P := P) (w := w) (kd := kd) (i := i) (y := i2.toNat) (by omega), ops0]
              | _ => exact (good.fail h).elim
            | _ => exact (good.fail h).elim
          | _ => exact (good.fail h).elim
        · cases y <;> first | exact (good.fail h).elim | (cases y2 <;> first | exact (good.fail h).elim | (cases y3 <;> exact (good.fail h).elim))
end

section
variable {R : Type} {A : Alg R} {holds : R → Prop} (good : A.Good holds) {P : Program} {o : Oper} {avs : List AV} {H : Hl} {cf : CallF R} {k : ExK R}
include good

/-- The operands of a slice expression. -/
def slOps (x : Operand) (lo hi mx : Option Operand) : List Operand := x :: (lo.toList ++ hi.toList ++ mx.toList)

omit good in
theorem opt_map (a : Act) (lo hi mx : Option Operand) : (lo.toList ++ hi.toList ++ mx.toList).map a.eval = (lo.map a.eval).toList ++ (hi.map a.eval).toList ++ (mx.map a.eval).toList := by
  cases lo <;> cases hi <;> cases mx <;> simp

theorem s_slS {t e : TypeId} {x : Operand} {lo hi mx : Option Operand} {i : TypeInfo} (ho : o.op = .slice t x lo hi mx) (ht : P.underlying t = some (.slice e)) (hi' : P.info? e = some i)
    (h : holds (ex A ops0 cf H (.slS i.size lo.isSome hi.isSome mx.isSome) avs k)) : Does P o (slOps x lo hi mx) avs H fun r H' t f => holds (k r H' t f) := by
  have hrun : ∀ (a : Act) (w : World) (ρ : Rho) ys len cap l h m ao cap', Bds lo.isSome hi.isSome mx.isSome ys len cap l h m → VRels ρ w ys ((lo.toList ++ hi.toList ++ mx.toList).map a.eval) → cap ≤ cap' → len ≤ cap' →
      a.eval x = .slice ao len cap' → (execOp a.eval o).run P w = .ok (.value (.slice (if (if mx.isSome then m else cap') = l then ao else ao.map (·.add (l * i.size))) (h - l) ((if mx.isSome then m else cap') - l))) w := by
    intro a w ρ ys len cap l h m ao cap' B hx hc hl hve
    rw [opt_map] at hx
    have hb := B.run P ρ w true cap' _ _ _ hc hl hx (by simp) (by simp) (by simp)
    simp only [execOp, ho, Instr.sliceAt, Sem.run_bind, run_underlying ht, Result.andThen_ok, hve, Instr.slice, hb, run_size hi', Sem.run_pure]
  rcases avs with _ | ⟨xa, ys⟩
  · exact (good.fail h).elim
  · cases xa with
    | slc b of len cap sz =>
      simp only [ex, xSlS] at h
      split at h
      · rename_i hsz
        have hsz := Nat.eq_of_beq_eq_true hsz
        subst hsz
        obtain ⟨l, hh, m, h, B⟩ := boundsK_sound good h
        refine ⟨_, _, _, _, h, .quiet fun ρ w a g hx _ _ => ?_⟩
        have hv := hx.head
        generalize hve : a.eval x = ve at hv
        have hmx : ∀ cap', cap ≤ cap' → len ≤ cap' → hh ≤ (if mx.isSome then m else cap') ∧ (if mx.isSome then m else cap') ≤ cap' ∧ m ≤ (if mx.isSome then m else cap') := by
          intro cap' h1 h2
          by_cases hm : mx.isSome = true
          · have := B.max hm; simp only [hm, if_true]; omega
          · have := B.free (by simpa using hm); simp only [hm]; simp; omega
        cases hv with
        | slc _ _ _ _ _ _ h0 hs hvo hl =>
          obtain ⟨ao, cap', rfl, h1, h2, h3⟩ := hs
          have hr := hrun a w ρ ys len cap l hh m ao cap' B hx.tail h2 h1 hve
          refine ⟨_, hr, ?_⟩
          obtain ⟨g1, g2, g3⟩ := hmx cap' h2 h1
          have hle := B.le
          generalize (if mx.isSome then m else cap') = m' at *
          refine .slc _ _ _ _ _ _ h0 ⟨_, _, rfl, by simp only [ops0]; omega, by simp only [ops0]; omega, ?_⟩ ?_ ?_
          · intro hc
            obtain ⟨B0, F0, rfl⟩ := h3 (by omega)
            rw [if_neg (by omega)]
            exact ⟨B0, F0 + l * i.size, by simp [add_at]⟩
          · intro hvd
            obtain ⟨ao2, e1, e2, e3⟩ := hvo hvd
            cases e1
            refine ⟨if m' = l then ao else ao.map (·.add (l * i.size)), ?_, by simp only [ops0]; omega, by simp only [ops0]; omega⟩
            have q1 : m' - l = 0 := by omega
            have q2 : hh - l = 0 := by omega
            rw [q1, q2]
          · intro BB F hlb
            obtain ⟨ao2, cap2, e1, e2, e3, e4, e5⟩ := hl BB F hlb
            cases e3
            refine ⟨_, _, by simp only [ops0]; omega, by simp only [ops0]; omega, rfl, ?_, ?_⟩
            · intro hc
              have := e4 (by omega)
              subst this
              rw [if_neg (by omega)]
              simp [add_at, ops0, Nat.add_assoc]
            · have : F + of + m' * i.size ≤ F + of + cap' * i.size := Nat.add_le_add_left (Nat.mul_le_mul_right _ g2) _
              have e6 : l * i.size + (m' - l) * i.size = m' * i.size := by rw [← Nat.add_mul]; congr 1; omega
              simp only [ops0]
              omega
      · exact (good.fail h).elim
    | ros cells off len cap ex' =>
      simp only [ex, xSlS] at h
      obtain ⟨l, hh, m, h, B⟩ := boundsK_sound good h
      refine ⟨_, _, _, _, h, .quiet fun ρ w a g hx _ _ => ?_⟩
      have hv := hx.head
      generalize hve : a.eval x = ve at hv
      cases hv with
      | ros _ _ _ _ _ BB F ao cap' vs hlt hp hl ho' hc hr hcap hlen he ha =>
        have hrr := hrun a w ρ ys len cap l hh m ao cap' B hx.tail hcap hlen hve
        refine ⟨_, hrr, ?_⟩
        have hle := B.le
        by_cases hm : mx.isSome = true
        · obtain ⟨b1, b2⟩ := B.max hm
          simp only [hm, if_true, Bool.or_true]
          refine .ros cells _ _ _ _ BB F _ _ vs hlt hp hl ho' hc hr (by simp only [ops0]; omega) (by simp only [ops0]; omega) (fun _ => rfl) ?_
          intro hn
          rw [if_neg (by omega), ha (by omega)]
          simp [add_at, ops0, Nat.add_assoc]
        · obtain ⟨b1, b2⟩ := B.free (by simpa using hm)
          simp only [hm, Bool.or_false]
          subst b1
          refine .ros cells _ _ _ _ BB F _ _ vs hlt hp hl ho' hc hr (by simp only [ops0]; simp; omega) (by simp only [ops0]; simp; omega) (fun hx => by have := he hx; simp only [ops0]; simp; omega) ?_
          intro hn
          simp only [Bool.false_eq_true, if_false] at hn ⊢
          rw [if_neg (by omega), ha (by omega)]
          simp [add_at, ops0, Nat.add_assoc]
    | nils =>
      simp only [ex, xSlS] at h
      obtain ⟨l, hh, m, h, B⟩ := boundsK_sound good h
      refine ⟨_, _, _, _, h, .quiet fun ρ w a g hx _ _ => ?_⟩
      have hv := inv_nils hx.head
      have hrr := hrun a w ρ ys 0 0 l hh m none 0 B hx.tail (Nat.le_refl _) (Nat.le_refl _) hv
      refine ⟨_, hrr, ?_⟩
      have hle := B.le
      have : hh = 0 := by
        by_cases hm : mx.isSome = true
        · have := B.max hm; omega
        · have := (B.free (by simpa using hm)).2; omega
      have : (if mx.isSome = true then m else 0) = 0 := by
        split
        · rename_i hm; have := B.max hm; omega
        · rfl
      simp only [*]
      simp
      exact .nils
    | _ => exact (good.fail h).elim

theorem s_slA {t e : TypeId} {x : Operand} {n : Nat} {lo hi : Option Operand} {i : TypeInfo} (ho : o.op = .slice t x lo hi none) (ht : P.underlying t = some (.array n e)) (hi' : P.info? e = some i)
    (h : holds (ex A ops0 cf H (.slA n i.size lo.isSome hi.isSome) avs k)) : Does P o (slOps x lo hi none) avs H fun r H' t f => holds (k r H' t f) := by
  have hrun : ∀ (a : Act) (w : World) (ρ : Rho) ys l h m ad, Bds lo.isSome hi.isSome false ys n n l h m → VRels ρ w ys ((lo.toList ++ hi.toList ++ (none : Option Operand).toList).map a.eval) →
      a.eval x = .pointer (some ad) → (execOp a.eval o).run P w = .ok (.value (.slice (some (if n = l then ad else ad.add (l * i.size))) (h - l) (n - l))) w := by
    intro a w ρ ys l h m ad B hx hve
    rw [opt_map] at hx
    have hb := B.run P ρ w false n _ _ none (Nat.le_refl _) (Nat.le_refl _) hx (by simp) (by simp) rfl
    simp only [execOp, ho, Instr.sliceAt, Sem.run_bind, run_underlying ht, Result.andThen_ok, hve, Instr.sureAddr, Sem.run_pure, Option.map_none, hb, run_size hi']
    simp
  rcases avs with _ | ⟨xa, ys⟩
  · exact (good.fail h).elim
  · cases xa with
    | ptr b of =>
      obtain ⟨cs, hb, h⟩ := blkK_sound good (show holds (blkK A H b _) from h)
      obtain ⟨hle, h⟩ := good.chk _ _ h
      have hle : of + n * i.size ≤ cs.length := by simpa [ops0] using hle
      obtain ⟨l, hh, m, h, B⟩ := boundsK_sound good h
      obtain ⟨b1, b2⟩ := B.free rfl
      refine ⟨_, _, _, _, h, .quiet fun ρ w a g hx hag hg => ?_⟩
      obtain ⟨BB, F, c, e', lo', hi'', hl, hve, hc, hsz, hf, hli⟩ := ptr_live hg (agree_one hag hb) hx.head
      refine ⟨_, hrun a w ρ ys l hh m _ B hx.tail hve, ?_⟩
      have hbl := B.le
      refine .slc _ _ _ _ _ _ (by rw [hl]; simp) ⟨_, _, rfl, by simp only [ops0]; omega, by simp only [ops0]; omega, ?_⟩ (by rw [hl]; simp) ?_
      · intro hn
        split
        · exact ⟨_, _, rfl⟩
        · exact ⟨BB, F + of + l * i.size, by simp [add_at]⟩
      · intro B2 F2 hl2
        rw [hl] at hl2
        cases hl2
        refine ⟨_, _, by simp only [ops0]; omega, by simp only [ops0]; omega, rfl, ?_, ?_⟩
        · intro hn
          rw [if_neg (by omega)]
          simp [add_at, ops0, Nat.add_assoc]
        · rw [rows_here hc]
          have e6 : l * i.size + (n - l) * i.size = n * i.size := by rw [← Nat.add_mul]; congr 1; omega
          simp only [ops0]
          omega
    | rop cells of =>
      simp only [ex, xSlA] at h
      obtain ⟨l, hh, m, h, B⟩ := boundsK_sound good h
      obtain ⟨b1, b2⟩ := B.free rfl
      refine ⟨_, _, _, _, h, .quiet fun ρ w a g hx hag hg => ?_⟩
      have hv := hx.head
      generalize hve : a.eval x = ve at hv
      have hbl := B.le
      cases hv with
      | rop _ _ BB F vs hlt hp hl ho' hc hr =>
        refine ⟨_, hrun a w ρ ys l hh m _ B hx.tail hve, ?_⟩
        subst b1
        refine .ros cells _ _ _ _ BB F _ _ vs hlt hp hl ho' hc hr (Nat.le_refl _) (by simp only [ops0]; omega) (fun _ => rfl) ?_
        intro hn
        rw [if_neg (by omega)]
        simp [add_at, ops0, Nat.add_assoc]
    | _ => exact (good.fail h).elim
end

end Go.Vm
