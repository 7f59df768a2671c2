/-
  KECCAK, PART 11: a round of a state.
-/
import Derived.Test.YtfmhlogapbpnbaaYal
import Derived.Test.YtfmhlogapbpnbaaYae
import Derived.Below
import Derived.Test.YtfmhlogapbpnbaaYak
import Derived.Test.YtfmhlogapbpnbaaYad
import Derived.Test.YtfmhlogapbpnbaaProg
import Derived.KernelRfl

namespace Go.Proofs.Vm
open Go.Vm
noncomputable section

/-- What 'keccak.Round' calls. -/
def roundK (F : List Int → Int → List Int) : Con := fun f vals H => match f, vals with
  | 74, [] => some (.tup [.agg byL, .agg toL], H, [])
  | 32, [.int .i64 (.ofNat n)] => match Nat.blt n 24 with
    | true => some (.int .u64 (rcs.getD n 0), H, [])
    | false => none
  | 75, [.ptr b 0, .ptr c 0, .ptr d 0, .int .u64 k] => match Nat.beq b c, Nat.beq b d, Nat.beq c d with
    | false, false, false => match nth H b, nth H c, nth H d with
      | some (.cells cs), some (.cells xs), some (.cells ys) => match toInts .u64 cs, toInts .i64 xs, toInts .i64 ys with
        | some ws, some l, some m => match Nat.beq (size ws) 25, l == byI, m == toI with
          | true, true, true => some (.tup [], put H b (.cells ((ex25 (F ws k)).map w)), [b])
          | _, _, _ => none
        | _, _, _ => none
      | _, _, _ => none
    | _, _, _ => none
  | _, _ => none

theorem roundK_ok : ConOK Try.prog (roundK rnd) := by
  intro f vals H r H' lg h
  unfold roundK at h
  split at h
  · cases h
    exact tabC_ok 74 [] H _ H [] rfl
  · rename_i n
    split at h <;> cases h
    rename_i hn
    have hn := (blt_iff _ _).1 hn
    exact CallTo.pure (H := H) 0 (vals := [.int .i64 (.ofNat n)]) (call_cut (noCon_ok _) (tabOne_ok ok32) (tabOne_self 32 vf32) 0 [] (c32_run n hn) (by simp) (fun b hb => by cases hb))
  · rename_i b c d k
    split at h <;> first | cases h | skip
    rename_i n1 n2 n3
    split at h <;> first | cases h | skip
    rename_i cs xs ys hb hx hy
    split at h <;> first | cases h | skip
    rename_i ws l m g1 g2 g3
    split at h <;> cases h
    rename_i hl e1 e2
    have hl := Nat.eq_of_beq_eq_true hl
    rw [size_eq] at hl
    rw [nth_eq] at hb hx hy
    have e1 : l = byI := by simpa using e1
    have e2 : m = toI := by simpa using e2
    have g1 := toInts_ok g1
    have g2 := toInts_ok g2
    have g3 := toInts_ok g3
    subst g1 g2 g3 e1 e2
    obtain ⟨s0, s1, s2, s3, s4, s5, s6, s7, s8, s9, s10, s11, s12, s13, s14, s15, s16, s17, s18, s19, s20, s21, s22, s23, s24, rfl⟩ := list25 hl
    have hrun := mix_sep (fun op => bin0 op .u64) (fun op => shf0 op .u64) rotl s0 s1 s2 s3 s4 s5 s6 s7 s8 s9 s10 s11 s12 s13 s14 s15 s16 s17 s18 s19 s20 s21 s22 s23 s24 k
    rw [opsW_eq] at hrun
    have hc := call_cut rotC_ok tabM_ok (f := 75) rfl 3 [0] hrun (by simp) (fun i hi hn => by
      match i, hi, hn with
      | 0, _, hn => exact absurd (List.mem_singleton.2 rfl) hn
      | 1, _, _ => rfl
      | 2, _, _ => rfl)
    have ne : ∀ {x y : Nat}, Nat.beq x y = false → x ≠ y := fun h e => by subst e; simp [Nat.beq_refl] at h
    have h2 := CallTo.three (vals := [.ptr b 0, .ptr c 0, .ptr d 0, .int .u64 k]) hc hb hx hy (ne n1) (ne n2) (ne n3) (flatL_ints .u64 [s0, s1, s2, s3, s4, s5, s6, s7, s8, s9, s10, s11, s12, s13, s14, s15, s16, s17, s18, s19, s20, s21, s22, s23, s24]) (flatL_ints .u64 _) (flatL_ints .i64 byI) (flatL_ints .i64 toI) (fun φ => by
      simp [renL, ren, pickN, placeIn, Nat.beq_refl, n1, n2, n3])
    rw [show ex25 (rnd [s0, s1, s2, s3, s4, s5, s6, s7, s8, s9, s10, s11, s12, s13, s14, s15, s16, s17, s18, s19, s20, s21, s22, s23, s24] k) = rnd [s0, s1, s2, s3, s4, s5, s6, s7, s8, s9, s10, s11, s12, s13, s14, s15, s16, s17, s18, s19, s20, s21, s22, s23, s24] k from ex25_eq (rnd_length ..)]
    exact h2
  · cases h

theorem round34_run (F : List Int → Int → List Int) (s0 s1 s2 s3 s4 s5 s6 s7 s8 s9 s10 s11 s12 s13 s14 s15 s16 s17 s18 s19 s20 s21 s22 s23 s24 : Int) : ∀ n, n < 24 →
    vcall (optA (roundK F)) ops0 (tabOne 34 vf34) 100 vf34 [.agg (([s0, s1, s2, s3, s4, s5, s6, s7, s8, s9, s10, s11, s12, s13, s14, s15, s16, s17, s18, s19, s20, s21, s22, s23, s24] : List Int).map w), .int .i64 (.ofNat n)] [] (cutK 0) = some (.agg ((ex25 (F [s0, s1, s2, s3, s4, s5, s6, s7, s8, s9, s10, s11, s12, s13, s14, s15, s16, s17, s18, s19, s20, s21, s22, s23, s24] (rcs.getD n 0))).map w), [], [])
  | 0, _ => by kernel_rfl
  | 1, _ => by kernel_rfl
  | 2, _ => by kernel_rfl
  | 3, _ => by kernel_rfl
  | 4, _ => by kernel_rfl
  | 5, _ => by kernel_rfl
  | 6, _ => by kernel_rfl
  | 7, _ => by kernel_rfl
  | 8, _ => by kernel_rfl
  | 9, _ => by kernel_rfl
  | 10, _ => by kernel_rfl
  | 11, _ => by kernel_rfl
  | 12, _ => by kernel_rfl
  | 13, _ => by kernel_rfl
  | 14, _ => by kernel_rfl
  | 15, _ => by kernel_rfl
  | 16, _ => by kernel_rfl
  | 17, _ => by kernel_rfl
  | 18, _ => by kernel_rfl
  | 19, _ => by kernel_rfl
  | 20, _ => by kernel_rfl
  | 21, _ => by kernel_rfl
  | 22, _ => by kernel_rfl
  | 23, _ => by kernel_rfl
  | i + 24, h => absurd h (by omega)

/-- 'keccak.Round', of a round that there is. -/
theorem round34 {s : List Int} (hs : s.length = 25) {n : Nat} (hn : n < 24) (H : Hl) : CallTo Try.prog 34 [.agg (s.map w), .int .i64 (.ofNat n)] H (.agg ((rndN s n).map w)) H [] := by
  obtain ⟨s0, s1, s2, s3, s4, s5, s6, s7, s8, s9, s10, s11, s12, s13, s14, s15, s16, s17, s18, s19, s20, s21, s22, s23, s24, rfl⟩ := list25 hs
  have h := call_cut roundK_ok (tabOne_ok ok34) (tabOne_self 34 vf34) 0 [] (round34_run rnd s0 s1 s2 s3 s4 s5 s6 s7 s8 s9 s10 s11 s12 s13 s14 s15 s16 s17 s18 s19 s20 s21 s22 s23 s24 n hn) (by simp) (fun b hb => by cases hb)
  rw [show ex25 (rnd [s0, s1, s2, s3, s4, s5, s6, s7, s8, s9, s10, s11, s12, s13, s14, s15, s16, s17, s18, s19, s20, s21, s22, s23, s24] (rcs.getD n 0)) = rndN [s0, s1, s2, s3, s4, s5, s6, s7, s8, s9, s10, s11, s12, s13, s14, s15, s16, s17, s18, s19, s20, s21, s22, s23, s24] n from ex25_eq (rnd_length ..)] at h
  have h2 := CallTo.pure (H := H) 0 (vals := [.agg (([s0, s1, s2, s3, s4, s5, s6, s7, s8, s9, s10, s11, s12, s13, s14, s15, s16, s17, s18, s19, s20, s21, s22, s23, s24] : List Int).map w), .int .i64 (.ofNat n)]) h
  have e : backV [] H.length (.agg ((rndN [s0, s1, s2, s3, s4, s5, s6, s7, s8, s9, s10, s11, s12, s13, s14, s15, s16, s17, s18, s19, s20, s21, s22, s23, s24] n).map w)) = .agg ((rndN [s0, s1, s2, s3, s4, s5, s6, s7, s8, s9, s10, s11, s12, s13, s14, s15, s16, s17, s18, s19, s20, s21, s22, s23, s24] n).map w) := by
    simp only [backV, ren]
    exact congrArg AV.agg (renL_flat (flatL_ints .u64 _))
  rw [e] at h2
  exact h2

end
end Go.Proofs.Vm

namespace Go.Proofs.Vm
open Go.Vm
noncomputable section

theorem round35_run (F : List Int → Nat → List Int) (s0 s1 s2 s3 s4 s5 s6 s7 s8 s9 s10 s11 s12 s13 s14 s15 s16 s17 s18 s19 s20 s21 s22 s23 s24 : Int) : ∀ n, n < 24 →
    vcall (optA (roundC F)) ops0 (tabOne 35 vf35) 100 vf35 [.agg (([s0, s1, s2, s3, s4, s5, s6, s7, s8, s9, s10, s11, s12, s13, s14, s15, s16, s17, s18, s19, s20, s21, s22, s23, s24] : List Int).map w), .int .i64 (.ofNat n)] [] (cutK 0) = some (.agg ((ex25 (F [s0, s1, s2, s3, s4, s5, s6, s7, s8, s9, s10, s11, s12, s13, s14, s15, s16, s17, s18, s19, s20, s21, s22, s23, s24] n)).map w), [], [])
  | 0, _ => by kernel_rfl
  | 1, _ => by kernel_rfl
  | 2, _ => by kernel_rfl
  | 3, _ => by kernel_rfl
  | 4, _ => by kernel_rfl
  | 5, _ => by kernel_rfl
  | 6, _ => by kernel_rfl
  | 7, _ => by kernel_rfl
  | 8, _ => by kernel_rfl
  | 9, _ => by kernel_rfl
  | 10, _ => by kernel_rfl
  | 11, _ => by kernel_rfl
  | 12, _ => by kernel_rfl
  | 13, _ => by kernel_rfl
  | 14, _ => by kernel_rfl
  | 15, _ => by kernel_rfl
  | 16, _ => by kernel_rfl
  | 17, _ => by kernel_rfl
  | 18, _ => by kernel_rfl
  | 19, _ => by kernel_rfl
  | 20, _ => by kernel_rfl
  | 21, _ => by kernel_rfl
  | 22, _ => by kernel_rfl
  | 23, _ => by kernel_rfl
  | i + 24, h => absurd h (by omega)

/-- 'tollhouseref03.Round', of a round that there is. -/
theorem round35 {s : List Int} (hs : s.length = 25) {n : Nat} (hn : n < 24) (H : Hl) : CallTo Try.prog 35 [.agg (s.map w), .int .i64 (.ofNat n)] H (.agg ((rndN s n).map w)) H [] := by
  obtain ⟨s0, s1, s2, s3, s4, s5, s6, s7, s8, s9, s10, s11, s12, s13, s14, s15, s16, s17, s18, s19, s20, s21, s22, s23, s24, rfl⟩ := list25 hs
  have h := call_cut roundC_ok (tabOne_ok ok35) (tabOne_self 35 vf35) 0 [] (round35_run rndN s0 s1 s2 s3 s4 s5 s6 s7 s8 s9 s10 s11 s12 s13 s14 s15 s16 s17 s18 s19 s20 s21 s22 s23 s24 n hn) (by simp) (fun b hb => by cases hb)
  rw [show ex25 (rndN [s0, s1, s2, s3, s4, s5, s6, s7, s8, s9, s10, s11, s12, s13, s14, s15, s16, s17, s18, s19, s20, s21, s22, s23, s24] n) = rndN [s0, s1, s2, s3, s4, s5, s6, s7, s8, s9, s10, s11, s12, s13, s14, s15, s16, s17, s18, s19, s20, s21, s22, s23, s24] n from ex25_eq (rnd_length ..)] at h
  have h2 := CallTo.pure (H := H) 0 (vals := [.agg (([s0, s1, s2, s3, s4, s5, s6, s7, s8, s9, s10, s11, s12, s13, s14, s15, s16, s17, s18, s19, s20, s21, s22, s23, s24] : List Int).map w), .int .i64 (.ofNat n)]) h
  have e : backV [] H.length (.agg ((rndN [s0, s1, s2, s3, s4, s5, s6, s7, s8, s9, s10, s11, s12, s13, s14, s15, s16, s17, s18, s19, s20, s21, s22, s23, s24] n).map w)) = .agg ((rndN [s0, s1, s2, s3, s4, s5, s6, s7, s8, s9, s10, s11, s12, s13, s14, s15, s16, s17, s18, s19, s20, s21, s22, s23, s24] n).map w) := by
    simp only [backV, ren]
    exact congrArg AV.agg (renL_flat (flatL_ints .u64 _))
  rw [e] at h2
  exact h2

end
end Go.Proofs.Vm

namespace Go.Vm
open Go.RowKit

def noRho : Rho := fun _ => .unborn

/-- A contract on an empty memory: nothing that was there turns. -/
theorem CallTo.enter {P : Program} {f : Nat} {vals : List AV} {r : AV} {H' : Hl} {lg : List Nat} (hc : CallTo P f vals [] r H' lg) {w : World} {us : List Value} (hv : VRels noRho w vals us) :
    Calls P f us.toArray w fun e w' => ∃ v ρ', e = .returned v ∧ VRel ρ' w' r v ∧ Below w.heap.size w w' := by
  have hg : HRel noRho w (fun b => ([] : Hl)[b]?) := ⟨fun _ _ => rfl, fun b h => (by simp at h), fun b b' B F F' h => (by cases h), fun b cs h => (by simp at h), fun b B F c e lo hi h => (by cases h)⟩
  refine (hc.does noRho w us hg hv).mono ?_
  rintro e w' ⟨v, ρ', rfl, _, h2, h3⟩
  exact ⟨v, ρ', rfl, h2, h3.os, h3.tape, h3.output, h3.size, fun k hk => h3.keep k hk (fun b F h => by cases h)⟩

end Go.Vm

namespace Go.Proofs.Vm
open Go.Vm
noncomputable section

/-- '==' by what is handed in. -/
def opsQ (γ : Int → Int → Bool) : Ops := { ops0 with
  cmp := fun op x y => match op with
    | .eql => γ x y
    | op => cmp0 op x y }
theorem opsQ_eq : opsQ (cmp0 .eql) = ops0 := by
  have h1 : (opsQ (cmp0 .eql)).cmp = ops0.cmp := by
    funext op x y
    cases op <;> rfl
  show { ops0 with cmp := (opsQ (cmp0 .eql)).cmp } = ops0
  rw [h1]

/-- The places on the way, and the sums. -/
def plA : List Int := [1, 0, 2, 1, 2, 3, 3, 0, 1, 3, 1, 4, 4, 0, 3, 4, 3, 2, 2, 0, 4, 2, 4, 1, 1]
def plB : List Int := [0, 2, 1, 2, 3, 3, 0, 1, 3, 1, 4, 4, 0, 3, 4, 3, 2, 2, 0, 4, 2, 4, 1, 1, 0]
def plS : List Int := [1, 3, 6, 10, 15, 21, 28, 36, 45, 55, 66, 78, 91, 105, 120, 136, 153, 171, 190, 210, 231, 253, 276, 300, 325]
def plD : List Int := [1, 3, 6, 10, 15, 21, 28, 36, 45, 55, 2, 14, 27, 41, 56, 8, 25, 43, 62, 18, 39, 61, 20, 44, 5]

def lp30 : VC := (.seq (.seq (.reg .false [] [⟨(.some 9), .none, .mov, [(.t 7)]⟩, ⟨(.some 10), .none, (.cmp .leq), [(.t 9), (.c (.int .i64 (.ofNat 24)))]⟩]) (.cond (.t 10) .skip (.exit 0))) (.seq (.block 1 (.seq (.seq (.reg .false [] [⟨(.some 17), .none, .mov, [(.t 5)]⟩, ⟨(.some 18), .none, .mov, [(.t 0)]⟩, ⟨(.some 19), .none, (.cmp .eql), [(.t 17), (.t 18)]⟩, ⟨(.some 20), .none, .mov, [(.t 19)]⟩, ⟨(.some 21), (.some ⟨20, .true⟩), .mov, [(.t 6)]⟩, ⟨(.some 22), (.some ⟨20, .true⟩), .mov, [(.t 1)]⟩, ⟨(.some 23), (.some ⟨20, .true⟩), (.cmp .eql), [(.t 21), (.t 22)]⟩, ⟨(.some 24), .none, .pick, [(.t 20), (.t 23), (.c (.bool .false))]⟩]) (.cond (.t 24) (.seq (.reg .false [] [⟨(.some 25), .none, .mov, [(.t 8)]⟩, ⟨(.some 26), .none, (.div .rem .i64), [(.t 25), (.c (.int .i64 (.ofNat 64)))]⟩, ⟨(.some 4), .none, .mov, [(.t 26)]⟩]) .ret) .skip)) (.reg .false [] [⟨(.some 28), .none, .mov, [(.t 5)]⟩, ⟨(.some 29), .none, .mov, [(.t 6)]⟩, ⟨(.some 30), .none, (.call 72), [(.t 28), (.t 29)]⟩, ⟨(.some 27), .none, .mov, [(.t 30)]⟩, ⟨(.some 31), .none, (.ext 0), [(.t 27)]⟩, ⟨(.some 32), .none, (.ext 1), [(.t 27)]⟩, ⟨(.some 5), .none, .mov, [(.t 31)]⟩, ⟨(.some 6), .none, .mov, [(.t 32)]⟩]))) (.reg .false [] [⟨(.some 11), .none, .mov, [(.t 7)]⟩, ⟨(.some 12), .none, (.bin .add .i64), [(.t 11), (.c (.int .i64 (.ofNat 1)))]⟩, ⟨(.some 13), .none, .mov, [(.t 8)]⟩, ⟨(.some 14), .none, .mov, [(.t 7)]⟩, ⟨(.some 15), .none, (.bin .add .i64), [(.t 13), (.t 14)]⟩, ⟨(.some 16), .none, (.bin .add .i64), [(.t 15), (.c (.int .i64 (.ofNat 1)))]⟩, ⟨(.some 7), .none, .mov, [(.t 12)]⟩, ⟨(.some 8), .none, .mov, [(.t 16)]⟩])))
def mask30 : List Bool := [false, false, true, true, false, false, false, false, false, true, true, true, true, true, true, true, true, true, true, true, true, true, true, true, true, true, true, true, true, true, true, true, true]
def fr30 (x y : Int) (i : Nat) (v : Int) : Fr := [.int .i64 x, .int .i64 y, .top, .top, .int .i64 v, .int .i64 (plA.getD i 0), .int .i64 (plB.getD i 0), .int .i64 (.ofNat (i + 1)), .int .i64 (plS.getD i 0), .top, .top, .top, .top, .top, .top, .top, .top, .top, .top, .top, .top, .top, .top, .top, .top, .top, .top, .top, .top, .top, .top, .top, .top]
theorem body30 (γ : Int → Int → Bool) (x y : Int) : ∀ i, i < 24 →
    vm (optC noCon) (opsQ γ) (tabOne 72 vf72) 100 0 lp30 (fr30 x y i 0) [] [] (bodyF mask30) =
      match γ (plA.getD i 0) x with
      | true => match γ (plB.getD i 0) y with
        | true => some (.ret, fr30 x y i (plD.getD i 0), [], [])
        | false => some (.norm, fr30 x y (i + 1) 0, [], [])
      | false => some (.norm, fr30 x y (i + 1) 0, [], [])
  | 0, _ => by kernel_rfl
  | 1, _ => by kernel_rfl
  | 2, _ => by kernel_rfl
  | 3, _ => by kernel_rfl
  | 4, _ => by kernel_rfl
  | 5, _ => by kernel_rfl
  | 6, _ => by kernel_rfl
  | 7, _ => by kernel_rfl
  | 8, _ => by kernel_rfl
  | 9, _ => by kernel_rfl
  | 10, _ => by kernel_rfl
  | 11, _ => by kernel_rfl
  | 12, _ => by kernel_rfl
  | 13, _ => by kernel_rfl
  | 14, _ => by kernel_rfl
  | 15, _ => by kernel_rfl
  | 16, _ => by kernel_rfl
  | 17, _ => by kernel_rfl
  | 18, _ => by kernel_rfl
  | 19, _ => by kernel_rfl
  | 20, _ => by kernel_rfl
  | 21, _ => by kernel_rfl
  | 22, _ => by kernel_rfl
  | 23, _ => by kernel_rfl
  | i + 24, h => absurd h (by omega)
theorem end30 (x y : Int) : vm (optC noCon) ops0 (tabOne 72 vf72) 100 0 lp30 (fr30 x y 24 0) [] [] (bodyF mask30) = some (.exit 0, fr30 x y 24 0, [], []) := by kernel_rfl

def lp31 : VC := (.seq (.seq (.reg .false [] [⟨(.some 8), .none, .mov, [(.t 7)]⟩, ⟨(.some 9), .none, (.cmp .lss), [(.t 8), (.c (.int .i64 (.ofNat 24)))]⟩]) (.cond (.t 9) .skip (.exit 0))) (.seq (.block 1 (.seq (.seq (.reg .false [] [⟨(.some 12), .none, .mov, [(.t 5)]⟩, ⟨(.some 13), .none, .mov, [(.t 0)]⟩, ⟨(.some 14), .none, (.cmp .eql), [(.t 12), (.t 13)]⟩, ⟨(.some 15), .none, .mov, [(.t 14)]⟩, ⟨(.some 16), (.some ⟨15, .true⟩), .mov, [(.t 6)]⟩, ⟨(.some 17), (.some ⟨15, .true⟩), .mov, [(.t 1)]⟩, ⟨(.some 18), (.some ⟨15, .true⟩), (.cmp .eql), [(.t 16), (.t 17)]⟩, ⟨(.some 19), .none, .pick, [(.t 15), (.t 18), (.c (.bool .false))]⟩]) (.cond (.t 19) (.seq (.reg .false [] [⟨(.some 20), .none, .mov, [(.t 7)]⟩, ⟨(.some 21), .none, (.bin .add .i64), [(.t 20), (.c (.int .i64 (.ofNat 1)))]⟩, ⟨(.some 22), .none, .mov, [(.t 7)]⟩, ⟨(.some 23), .none, (.bin .add .i64), [(.t 22), (.c (.int .i64 (.ofNat 2)))]⟩, ⟨(.some 24), .none, (.bin .mul .i64), [(.t 21), (.t 23)]⟩, ⟨(.some 25), .none, (.div .quo .i64), [(.t 24), (.c (.int .i64 (.ofNat 2)))]⟩, ⟨(.some 26), .none, (.div .rem .i64), [(.t 25), (.c (.int .i64 (.ofNat 64)))]⟩, ⟨(.some 4), .none, .mov, [(.t 26)]⟩]) .ret) .skip)) (.reg .false [] [⟨(.some 27), .none, .mov, [(.t 6)]⟩, ⟨(.some 28), .none, .mov, [(.t 5)]⟩, ⟨(.some 29), .none, (.bin .mul .i64), [(.c (.int .i64 (.ofNat 2))), (.t 28)]⟩, ⟨(.some 30), .none, .mov, [(.t 6)]⟩, ⟨(.some 31), .none, (.bin .mul .i64), [(.c (.int .i64 (.ofNat 3))), (.t 30)]⟩, ⟨(.some 32), .none, (.bin .add .i64), [(.t 29), (.t 31)]⟩, ⟨(.some 33), .none, (.div .rem .i64), [(.t 32), (.c (.int .i64 (.ofNat 5)))]⟩, ⟨(.some 5), .none, .mov, [(.t 27)]⟩, ⟨(.some 6), .none, .mov, [(.t 33)]⟩]))) (.reg .false [] [⟨(.some 10), .none, .mov, [(.t 7)]⟩, ⟨(.some 11), .none, (.bin .add .i64), [(.t 10), (.c (.int .i64 (.ofNat 1)))]⟩, ⟨(.some 7), .none, .mov, [(.t 11)]⟩])))
def mask31 : List Bool := [false, false, true, true, false, false, false, false, true, true, true, true, true, true, true, true, true, true, true, true, true, true, true, true, true, true, true, true, true, true, true, true, true, true]
def fr31 (x y : Int) (i : Nat) (v : Int) : Fr := [.int .i64 x, .int .i64 y, .top, .top, .int .i64 v, .int .i64 (plA.getD i 0), .int .i64 (plB.getD i 0), .int .i64 (.ofNat i), .top, .top, .top, .top, .top, .top, .top, .top, .top, .top, .top, .top, .top, .top, .top, .top, .top, .top, .top, .top, .top, .top, .top, .top, .top, .top]
theorem body31 (γ : Int → Int → Bool) (x y : Int) : ∀ i, i < 24 →
    vm (optC noCon) (opsQ γ) noTab 100 0 lp31 (fr31 x y i 0) [] [] (bodyF mask31) =
      match γ (plA.getD i 0) x with
      | true => match γ (plB.getD i 0) y with
        | true => some (.ret, fr31 x y i (plD.getD i 0), [], [])
        | false => some (.norm, fr31 x y (i + 1) 0, [], [])
      | false => some (.norm, fr31 x y (i + 1) 0, [], [])
  | 0, _ => by kernel_rfl
  | 1, _ => by kernel_rfl
  | 2, _ => by kernel_rfl
  | 3, _ => by kernel_rfl
  | 4, _ => by kernel_rfl
  | 5, _ => by kernel_rfl
  | 6, _ => by kernel_rfl
  | 7, _ => by kernel_rfl
  | 8, _ => by kernel_rfl
  | 9, _ => by kernel_rfl
  | 10, _ => by kernel_rfl
  | 11, _ => by kernel_rfl
  | 12, _ => by kernel_rfl
  | 13, _ => by kernel_rfl
  | 14, _ => by kernel_rfl
  | 15, _ => by kernel_rfl
  | 16, _ => by kernel_rfl
  | 17, _ => by kernel_rfl
  | 18, _ => by kernel_rfl
  | 19, _ => by kernel_rfl
  | 20, _ => by kernel_rfl
  | 21, _ => by kernel_rfl
  | 22, _ => by kernel_rfl
  | 23, _ => by kernel_rfl
  | i + 24, h => absurd h (by omega)
theorem end31 (x y : Int) : vm (optC noCon) ops0 noTab 100 0 lp31 (fr31 x y 24 0) [] [] (bodyF mask31) = some (.exit 0, fr31 x y 24 0, [], []) := by kernel_rfl

def hit (x y : Int) (i : Nat) : Bool := cmp0 .eql (plA.getD i 0) x && cmp0 .eql (plB.getD i 0) y
/-- By how much a word is turned. -/
def distF (x y : Int) : Int := match (List.range 24).find? (hit x y) with
  | some i => plD.getD i 0
  | none => 0

theorem dist_cases (x y : Int) : (∃ k, k < 24 ∧ hit x y k = true ∧ (∀ j, j < k → hit x y j = false) ∧ distF x y = plD.getD k 0) ∨ ((∀ j, j < 24 → hit x y j = false) ∧ distF x y = 0) := by
  unfold distF
  cases h : (List.range 24).find? (hit x y) with
  | some k =>
    have h1 := List.find?_some h
    have h2 := List.mem_of_find?_eq_some h
    have h3 : k < 24 := List.mem_range.1 h2
    refine .inl ⟨k, h3, h1, fun j hj => ?_, rfl⟩
    rw [List.find?_range_eq_some] at h
    have := h.2.2 j hj
    simpa using this
  | none =>
    refine .inr ⟨fun j hj => ?_, rfl⟩
    have := List.find?_eq_none.1 h j (List.mem_range.2 hj)
    simpa using this

theorem miss30 {x y : Int} {i : Nat} (hi : i < 24) (h : hit x y i = false) : BodyTo Try.prog 0 lp30 (fr30 x y i 0) [] .norm (fr30 x y (i + 1) 0) [] := by
  have hb := body30 (cmp0 .eql) x y i hi
  rw [opsQ_eq] at hb
  unfold hit at h
  cases h1 : cmp0 .eql (plA.getD i 0) x with
  | false =>
    rw [h1] at hb
    exact body_forget (noCon_ok _) (tabOne_ok ok72) hb (by simp)
  | true =>
    rw [h1, Bool.true_and] at h
    rw [h1, h] at hb
    exact body_forget (noCon_ok _) (tabOne_ok ok72) hb (by simp)
theorem hits30 {x y : Int} {i : Nat} (hi : i < 24) (h : hit x y i = true) : BodyTo Try.prog 0 lp30 (fr30 x y i 0) [] .ret (fr30 x y i (plD.getD i 0)) [] := by
  have hb := body30 (cmp0 .eql) x y i hi
  rw [opsQ_eq] at hb
  unfold hit at h
  rw [Bool.and_eq_true] at h
  rw [h.1, h.2] at hb
  exact body_forget (noCon_ok _) (tabOne_ok ok72) hb (by simp)

def in30 (x y : Int) : Fr := [.int .i64 x, .int .i64 y, .tup [], .tup [], .int .i64 0, .int .i64 1, .int .i64 0, .int .i64 1, .int .i64 1, .tup [], .tup [], .tup [], .tup [], .tup [], .tup [], .tup [], .tup [], .tup [], .tup [], .tup [], .tup [], .tup [], .tup [], .tup [], .tup [], .tup [], .tup [], .tup [], .tup [], .tup [], .tup [], .tup [], .tup []]
def entA30 (x y : Int) (k : Nat) (v : Int) : Lent := ⟨0, lp30, in30 x y, [], .ret, fr30 x y k v, []⟩
def entB30 (x y : Int) : Lent := ⟨0, lp30, in30 x y, [], .exit 0, fr30 x y 24 0, []⟩
theorem runA30 (x y v : Int) (k : Nat) :
    vcall (propL noCon fun _ _ => some (entA30 x y k v)) ops0 (tabOne 30 vf30) 100 vf30 [.int .i64 x, .int .i64 y] [] (fun r H lg => cutK 0 r H lg = some (.int .i64 v, [], [])) =
      (0 = 0 ∧ lp30 = lp30 ∧ in30 x y = in30 x y ∧ ([] : Hl) = [] ∧ some ((.int .i64 v, [], []) : Out) = some (.int .i64 v, [], [])) := by kernel_rfl
theorem runB30 (x y : Int) :
    vcall (propL noCon fun _ _ => some (entB30 x y)) ops0 (tabOne 30 vf30) 100 vf30 [.int .i64 x, .int .i64 y] [] (fun r H lg => cutK 0 r H lg = some (.int .i64 0, [], [])) =
      (0 = 0 ∧ lp30 = lp30 ∧ in30 x y = in30 x y ∧ ([] : Hl) = [] ∧ some ((.int .i64 0, [], []) : Out) = some (.int .i64 0, [], [])) := by kernel_rfl

theorem dist30 (x y : Int) (H : Hl) : CallTo Try.prog 30 [.int .i64 x, .int .i64 y] H (.int .i64 (distF x y)) H [] := by
  refine CallTo.pure (H := H) (r0 := .int .i64 (distF x y)) (lg := []) 0 (vals := [.int .i64 x, .int .i64 y]) ?_
  show CallTo Try.prog 30 [.int .i64 x, .int .i64 y] [] (.int .i64 (distF x y)) [] []
  rcases dist_cases x y with ⟨k, hk, hh, hm, e⟩ | ⟨hm, e⟩
  · rw [e]
    have hl := loop_chain (P := Try.prog) (n0 := 0) (b := lp30) (ex := .ret) (fr' := fr30 x y k (plD.getD k 0)) (H' := []) (by intro h; cases h) (fun i => (fr30 x y i 0, [])) k 0
      (fun j _ hj => miss30 (by omega) (hm j (by omega))) (by rw [Nat.zero_add]; exact hits30 hk hh)
    have hE : (entA30 x y k (plD.getD k 0)).OK Try.prog := LoopTo.pre (Weak.forget (show 0 ≤ 0 by decide) mask30) hl
    exact call_loop (noCon_ok _) (E := fun _ _ => some (entA30 x y k (plD.getD k 0))) (fun fr H e he => by cases he; exact hE) (tabOne_ok ok30) (tabOne_self 30 vf30) 0 []
      (Eq.mpr (runA30 _ _ _ _) ⟨rfl, rfl, rfl, rfl, rfl⟩) (by simp) (fun b hb hn => by simp at hb)
  · rw [e]
    have hl := loop_chain (P := Try.prog) (n0 := 0) (b := lp30) (ex := .exit 0) (fr' := fr30 x y 24 0) (H' := []) (by intro h; cases h) (fun i => (fr30 x y i 0, [])) 24 0
      (fun j _ hj => miss30 (by omega) (hm j (by omega))) (body_forget (noCon_ok _) (tabOne_ok ok72) (end30 x y) (by simp))
    have hE : (entB30 x y).OK Try.prog := LoopTo.pre (Weak.forget (show 0 ≤ 0 by decide) mask30) hl
    exact call_loop (noCon_ok _) (E := fun _ _ => some (entB30 x y)) (fun fr H e he => by cases he; exact hE) (tabOne_ok ok30) (tabOne_self 30 vf30) 0 []
      (Eq.mpr (runB30 _ _) ⟨rfl, rfl, rfl, rfl, rfl⟩) (by simp) (fun b hb hn => by simp at hb)

theorem miss31 {x y : Int} {i : Nat} (hi : i < 24) (h : hit x y i = false) : BodyTo Try.prog 0 lp31 (fr31 x y i 0) [] .norm (fr31 x y (i + 1) 0) [] := by
  have hb := body31 (cmp0 .eql) x y i hi
  rw [opsQ_eq] at hb
  unfold hit at h
  cases h1 : cmp0 .eql (plA.getD i 0) x with
  | false =>
    rw [h1] at hb
    exact body_forget (noCon_ok _) (noTab_ok _) hb (by simp)
  | true =>
    rw [h1, Bool.true_and] at h
    rw [h1, h] at hb
    exact body_forget (noCon_ok _) (noTab_ok _) hb (by simp)
theorem hits31 {x y : Int} {i : Nat} (hi : i < 24) (h : hit x y i = true) : BodyTo Try.prog 0 lp31 (fr31 x y i 0) [] .ret (fr31 x y i (plD.getD i 0)) [] := by
  have hb := body31 (cmp0 .eql) x y i hi
  rw [opsQ_eq] at hb
  unfold hit at h
  rw [Bool.and_eq_true] at h
  rw [h.1, h.2] at hb
  exact body_forget (noCon_ok _) (noTab_ok _) hb (by simp)

def in31 (x y : Int) : Fr := [.int .i64 x, .int .i64 y, .tup [], .tup [], .int .i64 0, .int .i64 1, .int .i64 0, .int .i64 0, .tup [], .tup [], .tup [], .tup [], .tup [], .tup [], .tup [], .tup [], .tup [], .tup [], .tup [], .tup [], .tup [], .tup [], .tup [], .tup [], .tup [], .tup [], .tup [], .tup [], .tup [], .tup [], .tup [], .tup [], .tup [], .tup []]
def entA31 (x y : Int) (k : Nat) (v : Int) : Lent := ⟨0, lp31, in31 x y, [], .ret, fr31 x y k v, []⟩
def entB31 (x y : Int) : Lent := ⟨0, lp31, in31 x y, [], .exit 0, fr31 x y 24 0, []⟩
theorem runA31 (x y v : Int) (k : Nat) :
    vcall (propL noCon fun _ _ => some (entA31 x y k v)) ops0 (tabOne 31 vf31) 100 vf31 [.int .i64 x, .int .i64 y] [] (fun r H lg => cutK 0 r H lg = some (.int .i64 v, [], [])) =
      (0 = 0 ∧ lp31 = lp31 ∧ in31 x y = in31 x y ∧ ([] : Hl) = [] ∧ some ((.int .i64 v, [], []) : Out) = some (.int .i64 v, [], [])) := by kernel_rfl
theorem runB31 (x y : Int) :
    vcall (propL noCon fun _ _ => some (entB31 x y)) ops0 (tabOne 31 vf31) 100 vf31 [.int .i64 x, .int .i64 y] [] (fun r H lg => cutK 0 r H lg = some (.int .i64 0, [], [])) =
      (0 = 0 ∧ lp31 = lp31 ∧ in31 x y = in31 x y ∧ ([] : Hl) = [] ∧ some ((.int .i64 0, [], []) : Out) = some (.int .i64 0, [], [])) := by kernel_rfl

theorem dist31 (x y : Int) (H : Hl) : CallTo Try.prog 31 [.int .i64 x, .int .i64 y] H (.int .i64 (distF x y)) H [] := by
  refine CallTo.pure (H := H) (r0 := .int .i64 (distF x y)) (lg := []) 0 (vals := [.int .i64 x, .int .i64 y]) ?_
  show CallTo Try.prog 31 [.int .i64 x, .int .i64 y] [] (.int .i64 (distF x y)) [] []
  rcases dist_cases x y with ⟨k, hk, hh, hm, e⟩ | ⟨hm, e⟩
  · rw [e]
    have hl := loop_chain (P := Try.prog) (n0 := 0) (b := lp31) (ex := .ret) (fr' := fr31 x y k (plD.getD k 0)) (H' := []) (by intro h; cases h) (fun i => (fr31 x y i 0, [])) k 0
      (fun j _ hj => miss31 (by omega) (hm j (by omega))) (by rw [Nat.zero_add]; exact hits31 hk hh)
    have hE : (entA31 x y k (plD.getD k 0)).OK Try.prog := LoopTo.pre (Weak.forget (show 0 ≤ 0 by decide) mask31) hl
    exact call_loop (noCon_ok _) (E := fun _ _ => some (entA31 x y k (plD.getD k 0))) (fun fr H e he => by cases he; exact hE) (tabOne_ok ok31) (tabOne_self 31 vf31) 0 []
      (Eq.mpr (runA31 _ _ _ _) ⟨rfl, rfl, rfl, rfl, rfl⟩) (by simp) (fun b hb hn => by simp at hb)
  · rw [e]
    have hl := loop_chain (P := Try.prog) (n0 := 0) (b := lp31) (ex := .exit 0) (fr' := fr31 x y 24 0) (H' := []) (by intro h; cases h) (fun i => (fr31 x y i 0, [])) 24 0
      (fun j _ hj => miss31 (by omega) (hm j (by omega))) (body_forget (noCon_ok _) (noTab_ok _) (end31 x y) (by simp))
    have hE : (entB31 x y).OK Try.prog := LoopTo.pre (Weak.forget (show 0 ≤ 0 by decide) mask31) hl
    exact call_loop (noCon_ok _) (E := fun _ _ => some (entB31 x y)) (fun fr H e he => by cases he; exact hE) (tabOne_ok ok31) (tabOne_self 31 vf31) 0 []
      (Eq.mpr (runB31 _ _) ⟨rfl, rfl, rfl, rfl, rfl⟩) (by simp) (fun b hb hn => by simp at hb)

end
end Go.Proofs.Vm

namespace Go.Proofs.Vm
open Go.Vm
noncomputable section
/-- Never. -/
def lnX : LnF := fun _ _ fr H => some (False, .ok .norm fr H)
theorem lnX_ok (P : Program) : LnOK P lnX := fun _ _ _ _ _ _ e _ hp => by cases e; exact hp.elim
def cnX : CnF := fun _ _ H => some (False, .ok (.tup []) H [])
theorem cnX_ok (P : Program) : CnOK P cnX := fun _ _ _ _ _ e hp => by cases e; exact hp.elim

theorem vc32x (n : Int) (Q : AV → Hl → List Nat → Prop) :
  (vcall (vcA kdYes cnX lnX) ops0 (tabOne 32 vf32) 100 vf32 [.int .i64 n] [] Q) =
 ((Br (ops0.cmp BinOp.lss n (Int.ofNat 0))
 (Q (AV.int IntKind.u64 (Int.ofNat 0)) [] [])
 (Br (ops0.cmp BinOp.geq n (Int.ofNat 24))
 (Q (AV.int IntKind.u64 (Int.ofNat 0)) [] [])
 (False ∧
 (Q (AV.int IntKind.u64 (Int.ofNat 0)) [] []))))) := by kernel_rfl

theorem vc33x (n : Int) (Q : AV → Hl → List Nat → Prop) :
  (vcall (vcA kdYes cnX lnX) ops0 (tabOne 33 vf33) 100 vf33 [.int .i64 n] [] Q) =
 ((Br (ops0.cmp BinOp.lss n (Int.ofNat 0))
 (Q (AV.int IntKind.u64 (Int.ofNat 0)) [] [])
 (Br (ops0.cmp BinOp.gtr n (Int.ofNat 23))
 (Q (AV.int IntKind.u64 (Int.ofNat 0)) [] [])
 (False ∧
 (Q (AV.int IntKind.u64 (Int.ofNat 0)) [] []))))) := by kernel_rfl

theorem vc34x (cs : List AV) (n : Int) (Q : AV → Hl → Prop) :
  (vcall (vcA kdYes cnX lnX) ops0 (tabOne 34 vf34) 100 vf34 [.agg cs, .int .i64 n] [] (endN (fun _ => 0) Q)) =
 ((Br (ops0.cmp BinOp.lss n (Int.ofNat 0))
 (Chk (ops0.le 25 (ops0.len cs))
 (Chk (ops0.eq (ops0.len (ops0.ext cs 0 25)) 25)
 (Chk (ops0.le 25 (ops0.len (ops0.spl [(AV.int IntKind.u64 (Int.ofNat 0)), (AV.int IntKind.u64 (Int.ofNat 0)), (AV.int IntKind.u64 (Int.ofNat 0)), (AV.int IntKind.u64 (Int.ofNat 0)), (AV.int IntKind.u64 (Int.ofNat 0)), (AV.int IntKind.u64 (Int.ofNat 0)), (AV.int IntKind.u64 (Int.ofNat 0)), (AV.int IntKind.u64 (Int.ofNat 0)), (AV.int IntKind.u64 (Int.ofNat 0)), (AV.int IntKind.u64 (Int.ofNat 0)), (AV.int IntKind.u64 (Int.ofNat 0)), (AV.int IntKind.u64 (Int.ofNat 0)), (AV.int IntKind.u64 (Int.ofNat 0)), (AV.int IntKind.u64 (Int.ofNat 0)), (AV.int IntKind.u64 (Int.ofNat 0)), (AV.int IntKind.u64 (Int.ofNat 0)), (AV.int IntKind.u64 (Int.ofNat 0)), (AV.int IntKind.u64 (Int.ofNat 0)), (AV.int IntKind.u64 (Int.ofNat 0)), (AV.int IntKind.u64 (Int.ofNat 0)), (AV.int IntKind.u64 (Int.ofNat 0)), (AV.int IntKind.u64 (Int.ofNat 0)), (AV.int IntKind.u64 (Int.ofNat 0)), (AV.int IntKind.u64 (Int.ofNat 0)), (AV.int IntKind.u64 (Int.ofNat 0))] 0 (ops0.ext cs 0 25))))
 (Q (AV.agg (ops0.ext (ops0.spl [(AV.int IntKind.u64 (Int.ofNat 0)), (AV.int IntKind.u64 (Int.ofNat 0)), (AV.int IntKind.u64 (Int.ofNat 0)), (AV.int IntKind.u64 (Int.ofNat 0)), (AV.int IntKind.u64 (Int.ofNat 0)), (AV.int IntKind.u64 (Int.ofNat 0)), (AV.int IntKind.u64 (Int.ofNat 0)), (AV.int IntKind.u64 (Int.ofNat 0)), (AV.int IntKind.u64 (Int.ofNat 0)), (AV.int IntKind.u64 (Int.ofNat 0)), (AV.int IntKind.u64 (Int.ofNat 0)), (AV.int IntKind.u64 (Int.ofNat 0)), (AV.int IntKind.u64 (Int.ofNat 0)), (AV.int IntKind.u64 (Int.ofNat 0)), (AV.int IntKind.u64 (Int.ofNat 0)), (AV.int IntKind.u64 (Int.ofNat 0)), (AV.int IntKind.u64 (Int.ofNat 0)), (AV.int IntKind.u64 (Int.ofNat 0)), (AV.int IntKind.u64 (Int.ofNat 0)), (AV.int IntKind.u64 (Int.ofNat 0)), (AV.int IntKind.u64 (Int.ofNat 0)), (AV.int IntKind.u64 (Int.ofNat 0)), (AV.int IntKind.u64 (Int.ofNat 0)), (AV.int IntKind.u64 (Int.ofNat 0)), (AV.int IntKind.u64 (Int.ofNat 0))] 0 (ops0.ext cs 0 25)) 0 25)) []))))
 (Br (ops0.cmp BinOp.geq n (Int.ofNat 24))
 (Chk (ops0.le 25 (ops0.len cs))
 (Chk (ops0.eq (ops0.len (ops0.ext cs 0 25)) 25)
 (Chk (ops0.le 25 (ops0.len (ops0.spl [(AV.int IntKind.u64 (Int.ofNat 0)), (AV.int IntKind.u64 (Int.ofNat 0)), (AV.int IntKind.u64 (Int.ofNat 0)), (AV.int IntKind.u64 (Int.ofNat 0)), (AV.int IntKind.u64 (Int.ofNat 0)), (AV.int IntKind.u64 (Int.ofNat 0)), (AV.int IntKind.u64 (Int.ofNat 0)), (AV.int IntKind.u64 (Int.ofNat 0)), (AV.int IntKind.u64 (Int.ofNat 0)), (AV.int IntKind.u64 (Int.ofNat 0)), (AV.int IntKind.u64 (Int.ofNat 0)), (AV.int IntKind.u64 (Int.ofNat 0)), (AV.int IntKind.u64 (Int.ofNat 0)), (AV.int IntKind.u64 (Int.ofNat 0)), (AV.int IntKind.u64 (Int.ofNat 0)), (AV.int IntKind.u64 (Int.ofNat 0)), (AV.int IntKind.u64 (Int.ofNat 0)), (AV.int IntKind.u64 (Int.ofNat 0)), (AV.int IntKind.u64 (Int.ofNat 0)), (AV.int IntKind.u64 (Int.ofNat 0)), (AV.int IntKind.u64 (Int.ofNat 0)), (AV.int IntKind.u64 (Int.ofNat 0)), (AV.int IntKind.u64 (Int.ofNat 0)), (AV.int IntKind.u64 (Int.ofNat 0)), (AV.int IntKind.u64 (Int.ofNat 0))] 0 (ops0.ext cs 0 25))))
 (Q (AV.agg (ops0.ext (ops0.spl [(AV.int IntKind.u64 (Int.ofNat 0)), (AV.int IntKind.u64 (Int.ofNat 0)), (AV.int IntKind.u64 (Int.ofNat 0)), (AV.int IntKind.u64 (Int.ofNat 0)), (AV.int IntKind.u64 (Int.ofNat 0)), (AV.int IntKind.u64 (Int.ofNat 0)), (AV.int IntKind.u64 (Int.ofNat 0)), (AV.int IntKind.u64 (Int.ofNat 0)), (AV.int IntKind.u64 (Int.ofNat 0)), (AV.int IntKind.u64 (Int.ofNat 0)), (AV.int IntKind.u64 (Int.ofNat 0)), (AV.int IntKind.u64 (Int.ofNat 0)), (AV.int IntKind.u64 (Int.ofNat 0)), (AV.int IntKind.u64 (Int.ofNat 0)), (AV.int IntKind.u64 (Int.ofNat 0)), (AV.int IntKind.u64 (Int.ofNat 0)), (AV.int IntKind.u64 (Int.ofNat 0)), (AV.int IntKind.u64 (Int.ofNat 0)), (AV.int IntKind.u64 (Int.ofNat 0)), (AV.int IntKind.u64 (Int.ofNat 0)), (AV.int IntKind.u64 (Int.ofNat 0)), (AV.int IntKind.u64 (Int.ofNat 0)), (AV.int IntKind.u64 (Int.ofNat 0)), (AV.int IntKind.u64 (Int.ofNat 0)), (AV.int IntKind.u64 (Int.ofNat 0))] 0 (ops0.ext cs 0 25)) 0 25)) []))))
 (False ∧
 False)))) := by kernel_rfl

theorem vc35x (cs : List AV) (n : Int) (Q : AV → Hl → Prop) :
  (vcall (vcA kdYes cnX lnX) ops0 (tabOne 35 vf35) 100 vf35 [.agg cs, .int .i64 n] [] (endN (fun _ => 0) Q)) =
 ((Br (ops0.cmp BinOp.lss n (Int.ofNat 0))
 (Chk (ops0.le 25 (ops0.len cs))
 (Chk (ops0.eq (ops0.len (ops0.ext cs 0 25)) 25)
 (Chk (ops0.le 25 (ops0.len (ops0.spl [(AV.int IntKind.u64 (Int.ofNat 0)), (AV.int IntKind.u64 (Int.ofNat 0)), (AV.int IntKind.u64 (Int.ofNat 0)), (AV.int IntKind.u64 (Int.ofNat 0)), (AV.int IntKind.u64 (Int.ofNat 0)), (AV.int IntKind.u64 (Int.ofNat 0)), (AV.int IntKind.u64 (Int.ofNat 0)), (AV.int IntKind.u64 (Int.ofNat 0)), (AV.int IntKind.u64 (Int.ofNat 0)), (AV.int IntKind.u64 (Int.ofNat 0)), (AV.int IntKind.u64 (Int.ofNat 0)), (AV.int IntKind.u64 (Int.ofNat 0)), (AV.int IntKind.u64 (Int.ofNat 0)), (AV.int IntKind.u64 (Int.ofNat 0)), (AV.int IntKind.u64 (Int.ofNat 0)), (AV.int IntKind.u64 (Int.ofNat 0)), (AV.int IntKind.u64 (Int.ofNat 0)), (AV.int IntKind.u64 (Int.ofNat 0)), (AV.int IntKind.u64 (Int.ofNat 0)), (AV.int IntKind.u64 (Int.ofNat 0)), (AV.int IntKind.u64 (Int.ofNat 0)), (AV.int IntKind.u64 (Int.ofNat 0)), (AV.int IntKind.u64 (Int.ofNat 0)), (AV.int IntKind.u64 (Int.ofNat 0)), (AV.int IntKind.u64 (Int.ofNat 0))] 0 (ops0.ext cs 0 25))))
 (Q (AV.agg (ops0.ext (ops0.spl [(AV.int IntKind.u64 (Int.ofNat 0)), (AV.int IntKind.u64 (Int.ofNat 0)), (AV.int IntKind.u64 (Int.ofNat 0)), (AV.int IntKind.u64 (Int.ofNat 0)), (AV.int IntKind.u64 (Int.ofNat 0)), (AV.int IntKind.u64 (Int.ofNat 0)), (AV.int IntKind.u64 (Int.ofNat 0)), (AV.int IntKind.u64 (Int.ofNat 0)), (AV.int IntKind.u64 (Int.ofNat 0)), (AV.int IntKind.u64 (Int.ofNat 0)), (AV.int IntKind.u64 (Int.ofNat 0)), (AV.int IntKind.u64 (Int.ofNat 0)), (AV.int IntKind.u64 (Int.ofNat 0)), (AV.int IntKind.u64 (Int.ofNat 0)), (AV.int IntKind.u64 (Int.ofNat 0)), (AV.int IntKind.u64 (Int.ofNat 0)), (AV.int IntKind.u64 (Int.ofNat 0)), (AV.int IntKind.u64 (Int.ofNat 0)), (AV.int IntKind.u64 (Int.ofNat 0)), (AV.int IntKind.u64 (Int.ofNat 0)), (AV.int IntKind.u64 (Int.ofNat 0)), (AV.int IntKind.u64 (Int.ofNat 0)), (AV.int IntKind.u64 (Int.ofNat 0)), (AV.int IntKind.u64 (Int.ofNat 0)), (AV.int IntKind.u64 (Int.ofNat 0))] 0 (ops0.ext cs 0 25)) 0 25)) []))))
 (Br (ops0.cmp BinOp.gtr n (Int.ofNat 23))
 (Chk (ops0.le 25 (ops0.len cs))
 (Chk (ops0.eq (ops0.len (ops0.ext cs 0 25)) 25)
 (Chk (ops0.le 25 (ops0.len (ops0.spl [(AV.int IntKind.u64 (Int.ofNat 0)), (AV.int IntKind.u64 (Int.ofNat 0)), (AV.int IntKind.u64 (Int.ofNat 0)), (AV.int IntKind.u64 (Int.ofNat 0)), (AV.int IntKind.u64 (Int.ofNat 0)), (AV.int IntKind.u64 (Int.ofNat 0)), (AV.int IntKind.u64 (Int.ofNat 0)), (AV.int IntKind.u64 (Int.ofNat 0)), (AV.int IntKind.u64 (Int.ofNat 0)), (AV.int IntKind.u64 (Int.ofNat 0)), (AV.int IntKind.u64 (Int.ofNat 0)), (AV.int IntKind.u64 (Int.ofNat 0)), (AV.int IntKind.u64 (Int.ofNat 0)), (AV.int IntKind.u64 (Int.ofNat 0)), (AV.int IntKind.u64 (Int.ofNat 0)), (AV.int IntKind.u64 (Int.ofNat 0)), (AV.int IntKind.u64 (Int.ofNat 0)), (AV.int IntKind.u64 (Int.ofNat 0)), (AV.int IntKind.u64 (Int.ofNat 0)), (AV.int IntKind.u64 (Int.ofNat 0)), (AV.int IntKind.u64 (Int.ofNat 0)), (AV.int IntKind.u64 (Int.ofNat 0)), (AV.int IntKind.u64 (Int.ofNat 0)), (AV.int IntKind.u64 (Int.ofNat 0)), (AV.int IntKind.u64 (Int.ofNat 0))] 0 (ops0.ext cs 0 25))))
 (Q (AV.agg (ops0.ext (ops0.spl [(AV.int IntKind.u64 (Int.ofNat 0)), (AV.int IntKind.u64 (Int.ofNat 0)), (AV.int IntKind.u64 (Int.ofNat 0)), (AV.int IntKind.u64 (Int.ofNat 0)), (AV.int IntKind.u64 (Int.ofNat 0)), (AV.int IntKind.u64 (Int.ofNat 0)), (AV.int IntKind.u64 (Int.ofNat 0)), (AV.int IntKind.u64 (Int.ofNat 0)), (AV.int IntKind.u64 (Int.ofNat 0)), (AV.int IntKind.u64 (Int.ofNat 0)), (AV.int IntKind.u64 (Int.ofNat 0)), (AV.int IntKind.u64 (Int.ofNat 0)), (AV.int IntKind.u64 (Int.ofNat 0)), (AV.int IntKind.u64 (Int.ofNat 0)), (AV.int IntKind.u64 (Int.ofNat 0)), (AV.int IntKind.u64 (Int.ofNat 0)), (AV.int IntKind.u64 (Int.ofNat 0)), (AV.int IntKind.u64 (Int.ofNat 0)), (AV.int IntKind.u64 (Int.ofNat 0)), (AV.int IntKind.u64 (Int.ofNat 0)), (AV.int IntKind.u64 (Int.ofNat 0)), (AV.int IntKind.u64 (Int.ofNat 0)), (AV.int IntKind.u64 (Int.ofNat 0)), (AV.int IntKind.u64 (Int.ofNat 0)), (AV.int IntKind.u64 (Int.ofNat 0))] 0 (ops0.ext cs 0 25)) 0 25)) []))))
 (False ∧
 False)))) := by kernel_rfl

/-- A constant, whatever the number. -/
def cstF (n : Int) : Int := if 0 ≤ n ∧ n < 24 then rcs.getD n.toNat 0 else 0
/-- A round, whatever the number. -/
def rndZ (s : List Int) (n : Int) : List Int := if 0 ≤ n ∧ n < 24 then rndN s n.toNat else s

theorem const32 (n : Int) (H : Hl) : CallTo Try.prog 32 [.int .i64 n] H (.int .u64 (cstF n)) H [] := by
  refine CallTo.pure (H := H) (r0 := .int .u64 (cstF n)) (lg := []) 0 (vals := [.int .i64 n]) ?_
  show CallTo Try.prog 32 [.int .i64 n] [] (.int .u64 (cstF n)) [] []
  unfold cstF
  by_cases h : 0 ≤ n ∧ n < 24
  · rw [if_pos h]
    obtain ⟨m, rfl⟩ : ∃ m : Nat, n = Int.ofNat m := ⟨n.toNat, (Int.toNat_of_nonneg h.1).symm⟩
    exact call_cut (noCon_ok _) (tabOne_ok ok32) (tabOne_self 32 vf32) 0 [] (c32_run m (by have := h.2; simp at this; omega)) (by simp) (fun b hb hn => by simp at hb)
  · rw [if_neg h]
    refine call_x (cnX_ok _) (lnX_ok _) (tabOne_ok ok32) (tabOne_self 32 vf32) (n := 100) (g := kdYes) ?_
    rw [vc32x]
    refine Br.mk (fun _ => ⟨rfl, rfl, rfl⟩) (fun h1 => Br.mk (fun _ => ⟨rfl, rfl, rfl⟩) (fun h2 => ?_))
    have h1 : ¬ n < 0 := of_decide_eq_false h1
    have h2 : ¬ n ≥ 24 := of_decide_eq_false h2
    omega
theorem const33 (n : Int) (H : Hl) : CallTo Try.prog 33 [.int .i64 n] H (.int .u64 (cstF n)) H [] := by
  refine CallTo.pure (H := H) (r0 := .int .u64 (cstF n)) (lg := []) 0 (vals := [.int .i64 n]) ?_
  show CallTo Try.prog 33 [.int .i64 n] [] (.int .u64 (cstF n)) [] []
  unfold cstF
  by_cases h : 0 ≤ n ∧ n < 24
  · rw [if_pos h]
    obtain ⟨m, rfl⟩ : ∃ m : Nat, n = Int.ofNat m := ⟨n.toNat, (Int.toNat_of_nonneg h.1).symm⟩
    exact call_cut bitC_ok (tabOne_ok ok33) (tabOne_self 33 vf33) 0 [] (c33_run m (by have := h.2; simp at this; omega)) (by simp) (fun b hb hn => by simp at hb)
  · rw [if_neg h]
    refine call_x (cnX_ok _) (lnX_ok _) (tabOne_ok ok33) (tabOne_self 33 vf33) (n := 100) (g := kdYes) ?_
    rw [vc33x]
    refine Br.mk (fun _ => ⟨rfl, rfl, rfl⟩) (fun h1 => Br.mk (fun _ => ⟨rfl, rfl, rfl⟩) (fun h2 => ?_))
    have h1 : ¬ n < 0 := of_decide_eq_false h1
    have h2 : ¬ n > 23 := of_decide_eq_false h2
    omega

theorem flat_w (s : List Int) : flatL (s.map w) := flatL_ints _ _
theorem same_row {s : List Int} (hs : s.length = 25) (Q : AV → Prop) (h : Q (.agg (s.map w))) (z : List AV) (hz : z.length = 25) :
    (Chk (ops0.le 25 (ops0.len (s.map w)))
 (Chk (ops0.eq (ops0.len (ops0.ext (s.map w) 0 25)) 25)
 (Chk (ops0.le 25 (ops0.len (ops0.spl z 0 (ops0.ext (s.map w) 0 25))))
 (Q (AV.agg (ops0.ext (ops0.spl z 0 (ops0.ext (s.map w) 0 25)) 0 25)))))) := by
  have e1 : ops0.ext (s.map w) 0 25 = s.map w := by rw [nExt, List.drop_zero, List.take_of_length_le (by simp [hs])]
  have e2 : ops0.spl z 0 (s.map w) = s.map w := by rw [nSpl, List.take_zero, List.nil_append, Nat.zero_add, List.drop_of_length_le (by simp [hs, hz]), List.append_nil]
  rw [e1, e2, e1]
  exact Chk.mk (by rw [nLe, nLen]; exact decide_eq_true (by simp [hs])) (Chk.mk (by rw [nEq, nLen]; exact decide_eq_true (by simp [hs])) (Chk.mk (by rw [nLe, nLen]; exact decide_eq_true (by simp [hs])) h))

theorem roundZ34 {s : List Int} (hs : s.length = 25) (n : Int) (H : Hl) : CallTo Try.prog 34 [.agg (s.map w), .int .i64 n] H (.agg ((rndZ s n).map w)) H [] := by
  unfold rndZ
  by_cases h : 0 ≤ n ∧ n < 24
  · rw [if_pos h]
    obtain ⟨m, rfl⟩ : ∃ m : Nat, n = Int.ofNat m := ⟨n.toNat, (Int.toNat_of_nonneg h.1).symm⟩
    exact round34 hs (by have := h.2; simp at this; omega) H
  · rw [if_neg h]
    have hc : CallTo Try.prog 34 [.agg (s.map w), .int .i64 n] [] (.agg (s.map w)) [] [] := by
      refine call_n (cnX_ok _) (lnX_ok _) (tabOne_ok ok34) (tabOne_self 34 vf34) (n := 100) (g := kdYes) (m := fun _ => 0) [] ?_ (by simp) ?_ (by simp)
      · rw [vc34x]
        refine Br.mk (fun _ => same_row hs (fun r => r = AV.agg (s.map w) ∧ ([] : Hl) = []) ⟨rfl, rfl⟩ _ rfl) (fun h1 => Br.mk (fun _ => same_row hs (fun r => r = AV.agg (s.map w) ∧ ([] : Hl) = []) ⟨rfl, rfl⟩ _ rfl) (fun h2 => ?_))
        have h1 : ¬ n < 0 := of_decide_eq_false h1
        have h2 : ¬ n ≥ 24 := of_decide_eq_false h2
        omega
      · show AV.agg _ = _
        rw [renL_flat (flat_w s)]
    have h2 := CallTo.lookV (H := H) hc (.cons (Vw.agg H (Still.flat (flat_w s))) (.cons (Vw.int H _ _) .nil))
    rw [backV_flat (flat_w s)] at h2
    exact h2
theorem roundZ35 {s : List Int} (hs : s.length = 25) (n : Int) (H : Hl) : CallTo Try.prog 35 [.agg (s.map w), .int .i64 n] H (.agg ((rndZ s n).map w)) H [] := by
  unfold rndZ
  by_cases h : 0 ≤ n ∧ n < 24
  · rw [if_pos h]
    obtain ⟨m, rfl⟩ : ∃ m : Nat, n = Int.ofNat m := ⟨n.toNat, (Int.toNat_of_nonneg h.1).symm⟩
    exact round35 hs (by have := h.2; simp at this; omega) H
  · rw [if_neg h]
    have hc : CallTo Try.prog 35 [.agg (s.map w), .int .i64 n] [] (.agg (s.map w)) [] [] := by
      refine call_n (cnX_ok _) (lnX_ok _) (tabOne_ok ok35) (tabOne_self 35 vf35) (n := 100) (g := kdYes) (m := fun _ => 0) [] ?_ (by simp) ?_ (by simp)
      · rw [vc35x]
        refine Br.mk (fun _ => same_row hs (fun r => r = AV.agg (s.map w) ∧ ([] : Hl) = []) ⟨rfl, rfl⟩ _ rfl) (fun h1 => Br.mk (fun _ => same_row hs (fun r => r = AV.agg (s.map w) ∧ ([] : Hl) = []) ⟨rfl, rfl⟩ _ rfl) (fun h2 => ?_))
        have h1 : ¬ n < 0 := of_decide_eq_false h1
        have h2 : ¬ n > 23 := of_decide_eq_false h2
        omega
      · show AV.agg _ = _
        rw [renL_flat (flat_w s)]
    have h2 := CallTo.lookV (H := H) hc (.cons (Vw.agg H (Still.flat (flat_w s))) (.cons (Vw.int H _ _) .nil))
    rw [backV_flat (flat_w s)] at h2
    exact h2

/-- Words of a state. -/
def PW (cs : List AV) : Prop := ∃ s : List Int, s.length = 25 ∧ cs = s.map w
/-- All that the laws of layer 3 call (kept apart). -/
structure AF extends KF where
  dist : Int → Int → Int
  cst : Int → Int
  rnd : List AV → Int → List AV
  rnds : List AV → List AV
def af0 : AF := { kf0 with dist := distF, cst := cstF, rnd := fun cs n => (rndZ (intsA cs) n).map w, rnds := fun cs => (allF (intsA cs)).map w }
def cnA (S : AF) : CnF := fun f vals H => match f, vals with
  | 30, [.int .i64 x, .int .i64 y] => some (True, .ok (.int .i64 (S.dist x y)) H [])
  | 31, [.int .i64 x, .int .i64 y] => some (True, .ok (.int .i64 (S.dist x y)) H [])
  | 32, [.int .i64 n] => some (True, .ok (.int .u64 (S.cst n)) H [])
  | 33, [.int .i64 n] => some (True, .ok (.int .u64 (S.cst n)) H [])
  | 34, [.agg cs, .int .i64 n] => some (PW cs, .ok (.agg (S.rnd cs n)) H [])
  | 35, [.agg cs, .int .i64 n] => some (PW cs, .ok (.agg (S.rnd cs n)) H [])
  | 29, [.agg cs] => some (PW cs, .ok (.agg (S.rnds cs)) H [])
  | 36, [.agg cs] => some (PW cs, .ok (.agg (S.rnds cs)) H [])
  | f, vals => cnK S.toKF f vals H

theorem cnA_ok : CnOK Try.prog (cnA af0) := by
  intro f vals H p x e hp
  unfold cnA at e
  split at e
  · cases e; exact dist30 _ _ H
  · cases e; exact dist31 _ _ H
  · cases e; exact const32 _ H
  · cases e; exact const33 _ H
  · cases e
    obtain ⟨s, hs, rfl⟩ := hp
    show CallTo _ _ _ _ (.agg ((rndZ (intsA (s.map w)) _).map w)) _ _
    rw [intA_w]
    exact roundZ34 hs _ H
  · cases e
    obtain ⟨s, hs, rfl⟩ := hp
    show CallTo _ _ _ _ (.agg ((rndZ (intsA (s.map w)) _).map w)) _ _
    rw [intA_w]
    exact roundZ35 hs _ H
  · cases e
    obtain ⟨s, hs, rfl⟩ := hp
    show CallTo _ _ _ _ (.agg ((allF (intsA (s.map w))).map w)) _ _
    rw [intA_w]
    exact rounds29 hs H
  · cases e
    obtain ⟨s, hs, rfl⟩ := hp
    show CallTo _ _ _ _ (.agg ((allF (intsA (s.map w))).map w)) _ _
    rw [intA_w]
    exact rounds36 hs H
  · exact cnK_ok _ _ _ _ _ e hp

end
end Go.Proofs.Vm

namespace Go.Proofs.Vm
open Go.Vm
noncomputable section

theorem vc25 (S : AF) (Q : AV → Hl → Prop) :
  (vcall (vcA kdYes (cnA S) noLn) ops0 (tabOne 25 vf25) 100 vf25 [] [] (endN (fun _ => 0) Q)) =
 (((PPs [] 0 0) ∧
 (Chk (ops0.eq (ops0.len (KF.sum (AF.toKF S) [])) 32)
 (∃ n : Int, ((Nth (ops0.spl [(AV.int IntKind.u8 (Int.ofNat 0)), (AV.int IntKind.u8 (Int.ofNat 0)), (AV.int IntKind.u8 (Int.ofNat 0)), (AV.int IntKind.u8 (Int.ofNat 0)), (AV.int IntKind.u8 (Int.ofNat 0)), (AV.int IntKind.u8 (Int.ofNat 0)), (AV.int IntKind.u8 (Int.ofNat 0)), (AV.int IntKind.u8 (Int.ofNat 0)), (AV.int IntKind.u8 (Int.ofNat 0)), (AV.int IntKind.u8 (Int.ofNat 0)), (AV.int IntKind.u8 (Int.ofNat 0)), (AV.int IntKind.u8 (Int.ofNat 0)), (AV.int IntKind.u8 (Int.ofNat 0)), (AV.int IntKind.u8 (Int.ofNat 0)), (AV.int IntKind.u8 (Int.ofNat 0)), (AV.int IntKind.u8 (Int.ofNat 0)), (AV.int IntKind.u8 (Int.ofNat 0)), (AV.int IntKind.u8 (Int.ofNat 0)), (AV.int IntKind.u8 (Int.ofNat 0)), (AV.int IntKind.u8 (Int.ofNat 0)), (AV.int IntKind.u8 (Int.ofNat 0)), (AV.int IntKind.u8 (Int.ofNat 0)), (AV.int IntKind.u8 (Int.ofNat 0)), (AV.int IntKind.u8 (Int.ofNat 0)), (AV.int IntKind.u8 (Int.ofNat 0)), (AV.int IntKind.u8 (Int.ofNat 0)), (AV.int IntKind.u8 (Int.ofNat 0)), (AV.int IntKind.u8 (Int.ofNat 0)), (AV.int IntKind.u8 (Int.ofNat 0)), (AV.int IntKind.u8 (Int.ofNat 0)), (AV.int IntKind.u8 (Int.ofNat 0)), (AV.int IntKind.u8 (Int.ofNat 0))] 0 (KF.sum (AF.toKF S) [])) 0 (AV.int IntKind.u8 n)) ∧
 (Br (ops0.cmp BinOp.eql n (Int.ofNat 167))
 (∃ n1 : Int, ((Nth (ops0.spl [(AV.int IntKind.u8 (Int.ofNat 0)), (AV.int IntKind.u8 (Int.ofNat 0)), (AV.int IntKind.u8 (Int.ofNat 0)), (AV.int IntKind.u8 (Int.ofNat 0)), (AV.int IntKind.u8 (Int.ofNat 0)), (AV.int IntKind.u8 (Int.ofNat 0)), (AV.int IntKind.u8 (Int.ofNat 0)), (AV.int IntKind.u8 (Int.ofNat 0)), (AV.int IntKind.u8 (Int.ofNat 0)), (AV.int IntKind.u8 (Int.ofNat 0)), (AV.int IntKind.u8 (Int.ofNat 0)), (AV.int IntKind.u8 (Int.ofNat 0)), (AV.int IntKind.u8 (Int.ofNat 0)), (AV.int IntKind.u8 (Int.ofNat 0)), (AV.int IntKind.u8 (Int.ofNat 0)), (AV.int IntKind.u8 (Int.ofNat 0)), (AV.int IntKind.u8 (Int.ofNat 0)), (AV.int IntKind.u8 (Int.ofNat 0)), (AV.int IntKind.u8 (Int.ofNat 0)), (AV.int IntKind.u8 (Int.ofNat 0)), (AV.int IntKind.u8 (Int.ofNat 0)), (AV.int IntKind.u8 (Int.ofNat 0)), (AV.int IntKind.u8 (Int.ofNat 0)), (AV.int IntKind.u8 (Int.ofNat 0)), (AV.int IntKind.u8 (Int.ofNat 0)), (AV.int IntKind.u8 (Int.ofNat 0)), (AV.int IntKind.u8 (Int.ofNat 0)), (AV.int IntKind.u8 (Int.ofNat 0)), (AV.int IntKind.u8 (Int.ofNat 0)), (AV.int IntKind.u8 (Int.ofNat 0)), (AV.int IntKind.u8 (Int.ofNat 0)), (AV.int IntKind.u8 (Int.ofNat 0))] 0 (KF.sum (AF.toKF S) [])) 1 (AV.int IntKind.u8 n1)) ∧
 (Br (ops0.cmp BinOp.eql n1 (Int.ofNat 255))
 (∃ n2 : Int, ((Nth (ops0.spl [(AV.int IntKind.u8 (Int.ofNat 0)), (AV.int IntKind.u8 (Int.ofNat 0)), (AV.int IntKind.u8 (Int.ofNat 0)), (AV.int IntKind.u8 (Int.ofNat 0)), (AV.int IntKind.u8 (Int.ofNat 0)), (AV.int IntKind.u8 (Int.ofNat 0)), (AV.int IntKind.u8 (Int.ofNat 0)), (AV.int IntKind.u8 (Int.ofNat 0)), (AV.int IntKind.u8 (Int.ofNat 0)), (AV.int IntKind.u8 (Int.ofNat 0)), (AV.int IntKind.u8 (Int.ofNat 0)), (AV.int IntKind.u8 (Int.ofNat 0)), (AV.int IntKind.u8 (Int.ofNat 0)), (AV.int IntKind.u8 (Int.ofNat 0)), (AV.int IntKind.u8 (Int.ofNat 0)), (AV.int IntKind.u8 (Int.ofNat 0)), (AV.int IntKind.u8 (Int.ofNat 0)), (AV.int IntKind.u8 (Int.ofNat 0)), (AV.int IntKind.u8 (Int.ofNat 0)), (AV.int IntKind.u8 (Int.ofNat 0)), (AV.int IntKind.u8 (Int.ofNat 0)), (AV.int IntKind.u8 (Int.ofNat 0)), (AV.int IntKind.u8 (Int.ofNat 0)), (AV.int IntKind.u8 (Int.ofNat 0)), (AV.int IntKind.u8 (Int.ofNat 0)), (AV.int IntKind.u8 (Int.ofNat 0)), (AV.int IntKind.u8 (Int.ofNat 0)), (AV.int IntKind.u8 (Int.ofNat 0)), (AV.int IntKind.u8 (Int.ofNat 0)), (AV.int IntKind.u8 (Int.ofNat 0)), (AV.int IntKind.u8 (Int.ofNat 0)), (AV.int IntKind.u8 (Int.ofNat 0))] 0 (KF.sum (AF.toKF S) [])) 31 (AV.int IntKind.u8 n2)) ∧
 (Br (ops0.cmp BinOp.eql n2 (Int.ofNat 74))
 ((PPs [] 0 0) ∧
 (True ∧
 (Br (ops0.cmp BinOp.eql (AF.cst S (Int.ofNat 0)) (Int.ofNat 1))
 (Q (AV.bool Bool.true) [])
 (Q (AV.bool Bool.false) []))))
 (Q (AV.bool Bool.false) []))))
 (Q (AV.bool Bool.false) []))))
 (Q (AV.bool Bool.false) []))))))) := by kernel_rfl

theorem dig0_0 : (streamF 136 6 32 [])[0]? = some 167 := by kernel_rfl
theorem dig0_1 : (streamF 136 6 32 [])[1]? = some 255 := by kernel_rfl
theorem dig0_31 : (streamF 136 6 32 [])[31]? = some 74 := by kernel_rfl

theorem pps_nil : PPs [] 0 0 := ⟨fun p hp => (by cases hp), [], rfl, by decide, fun j lb h => (by simp at h)⟩

theorem spl_all {z xs : List AV} (h : z.length = xs.length) : ops0.spl z 0 xs = xs := by
  rw [nSpl, List.take_zero, List.nil_append, Nat.zero_add, List.drop_of_length_le (by omega), List.append_nil]

theorem lives25 (H : Hl) : CallTo Try.prog 25 [] H (.bool true) H [] := by
  have hc : CallTo Try.prog 25 [] [] (.bool true) [] [] := by
    refine call_n cnA_ok (noLn_ok _) (tabOne_ok ok25) (tabOne_self 25 vf25) (n := 100) (g := kdYes) (m := fun _ => 0) [] ?_ (by simp) rfl (by simp)
    rw [vc25]
    have e1 : KF.sum (AF.toKF af0) [] = (streamF 136 6 32 []).map by8 := rfl
    have hl : ((streamF 136 6 32 []).map by8).length = 32 := by rw [List.length_map, streamF_length]
    rw [e1, spl_all (by rw [hl]; rfl)]
    have g : ∀ (i : Nat) (b : UInt8), (streamF 136 6 32 [])[i]? = some b → Nth ((streamF 136 6 32 []).map by8) i (.int .u8 (Int.ofNat b.toNat)) := fun i b h => Nth.mk (by rw [List.getElem?_map, h]; rfl)
    refine ⟨pps_nil, Chk.mk (by rw [nEq, nLen, hl]; rfl) ⟨_, g 0 167 dig0_0, Br.t rfl ⟨_, g 1 255 dig0_1, Br.t rfl ⟨_, g 31 74 dig0_31, Br.t rfl ⟨pps_nil, trivial, Br.t rfl ⟨rfl, rfl⟩⟩⟩⟩⟩⟩
  exact CallTo.lookV (H := H) hc .nil

/-- With what lives. -/
def cnB (S : AF) : CnF := fun f vals H => match f, vals with
  | 25, [] => some (True, .ok (.bool true) H [])
  | f, vals => cnA S f vals H
theorem cnB_ok : CnOK Try.prog (cnB af0) := by
  intro f vals H p x e hp
  unfold cnB at e
  split at e
  · cases e; exact lives25 H
  · exact cnA_ok _ _ _ _ _ e hp

end
end Go.Proofs.Vm

namespace Go.Proofs.Vm
open Go.Vm
noncomputable section

def vf10 : VF := ⟨53, [(.tmp 6)], (.seq (.reg .false [] [⟨(.some 3), .none, .box, [(.t 0)]⟩, ⟨(.some 6), .none, .mov, [(.c (.bool .false))]⟩]) (.seq (.reg .false [] [⟨(.some 9), .none, (.mks [] 0 []), []⟩, ⟨(.some 10), .none, .mov, [(.t 2)]⟩, ⟨(.some 11), .none, (.app 1 1), [(.t 9), (.t 10)]⟩, ⟨(.some 7), .none, .mov, [(.t 11)]⟩]) (.seq (.reg .false [] [⟨(.some 12), .none, (.ldn 32), [(.t 3)]⟩, ⟨(.some 13), .none, .mov, [(.t 1)]⟩, ⟨(.some 14), .none, .mov, [(.t 7)]⟩, ⟨(.some 15), .none, (.call 37), [(.t 12), (.t 13), (.t 14)]⟩, ⟨(.some 8), .none, .mov, [(.t 15)]⟩]) (.seq (.seq (.reg .true [0, 1, 3, 7, 15, 7, 7, 7, 231, 487, 1023, 2047, 4095, 8191, 16383, 8191, 40959, 131071, 262143] [⟨(.some 16), .none, (.call 38), []⟩, ⟨(.some 17), .none, .not, [(.t 16)]⟩, ⟨(.some 18), .none, .mov, [(.t 17)]⟩, ⟨(.some 19), (.some ⟨18, .false⟩), .mov, [(.t 8)]⟩, ⟨(.some 20), (.some ⟨18, .false⟩), .b2s, [(.t 19)]⟩, ⟨(.some 21), (.some ⟨18, .false⟩), (.ldn 32), [(.t 3)]⟩, ⟨(.some 22), (.some ⟨18, .false⟩), .mov, [(.t 1)]⟩, ⟨(.some 23), (.some ⟨18, .false⟩), .mov, [(.t 2)]⟩, ⟨(.some 24), (.some ⟨18, .false⟩), (.call 39), [(.t 21), (.t 22), (.t 23)]⟩, ⟨(.some 25), (.some ⟨18, .false⟩), .b2s, [(.t 24)]⟩, ⟨(.some 26), (.some ⟨18, .false⟩), (.scmp .true), [(.t 20), (.t 25)]⟩, ⟨(.some 27), .none, .pick, [(.t 18), (.c (.bool .true)), (.t 26)]⟩, ⟨(.some 28), .none, .mov, [(.t 27)]⟩, ⟨(.some 29), (.some ⟨28, .false⟩), .mov, [(.t 7)]⟩, ⟨(.some 30), (.some ⟨28, .false⟩), .b2s, [(.t 29)]⟩, ⟨(.some 31), (.some ⟨28, .false⟩), .mov, [(.t 2)]⟩, ⟨(.some 32), (.some ⟨28, .false⟩), .b2s, [(.t 31)]⟩, ⟨(.some 33), (.some ⟨28, .false⟩), (.scmp .true), [(.t 30), (.t 32)]⟩, ⟨(.some 34), .none, .pick, [(.t 28), (.c (.bool .true)), (.t 33)]⟩]) (.cond (.t 34) (.seq (.reg .false [] [⟨(.some 6), .none, .mov, [(.c (.bool .false))]⟩]) .ret) .skip)) (.seq (.reg .true [0, 1, 3, 7, 15, 31, 63, 127, 255, 511, 511, 511, 4095, 8191, 511, 16895, 65535, 131071, 262143] [⟨(.some 35), .none, .mov, [(.t 1)]⟩, ⟨(.some 36), .none, .lenT, [(.t 35)]⟩, ⟨(.some 37), .none, (.cmp .gtr), [(.t 36), (.c (.int .i64 (.ofNat 64)))]⟩, ⟨(.some 38), .none, .mov, [(.t 37)]⟩, ⟨(.some 39), (.some ⟨38, .false⟩), .mov, [(.t 2)]⟩, ⟨(.some 40), (.some ⟨38, .false⟩), .len, [(.t 39)]⟩, ⟨(.some 41), (.some ⟨38, .false⟩), (.cmp .gtr), [(.t 40), (.c (.int .i64 (.ofNat 65536)))]⟩, ⟨(.some 42), .none, .pick, [(.t 38), (.c (.bool .true)), (.t 41)]⟩, ⟨(.some 43), .none, .mov, [(.t 42)]⟩, ⟨(.some 44), (.some ⟨43, .false⟩), (.ldn 32), [(.t 3)]⟩, ⟨(.some 45), (.some ⟨43, .false⟩), .mov, [(.t 1)]⟩, ⟨(.some 46), (.some ⟨43, .false⟩), .mov, [(.t 8)]⟩, ⟨(.some 47), (.some ⟨43, .false⟩), (.call 37), [(.t 44), (.t 45), (.t 46)]⟩, ⟨(.some 48), (.some ⟨43, .false⟩), .b2s, [(.t 47)]⟩, ⟨(.some 49), (.some ⟨43, .false⟩), .mov, [(.t 2)]⟩, ⟨(.some 50), (.some ⟨43, .false⟩), .b2s, [(.t 49)]⟩, ⟨(.some 51), (.some ⟨43, .false⟩), (.scmp .false), [(.t 48), (.t 50)]⟩, ⟨(.some 52), .none, .pick, [(.t 43), (.c (.bool .true)), (.t 51)]⟩, ⟨(.some 6), .none, .mov, [(.t 52)]⟩]) .ret)))))⟩
theorem ok10 : FnOK Try.prog 10 vf10 := .of Try.func10 (by kernel_rfl) (by kernel_rfl)
def vf11 : VF := ⟨57, [(.tmp 6)], (.seq (.reg .false [] [⟨(.some 3), .none, .box, [(.t 0)]⟩, ⟨(.some 6), .none, .mov, [(.c (.bool .false))]⟩]) (.seq (.reg .true [0, 0, 0, 6, 0, 30, 62, 127, 0, 511] [⟨(.some 9), .none, (.ldn 32), [(.t 3)]⟩, ⟨(.some 10), .none, (.mks [] 0 []), []⟩, ⟨(.some 11), .none, .mov, [(.t 1)]⟩, ⟨(.some 12), .none, (.app 1 1), [(.t 10), (.t 11)]⟩, ⟨(.some 13), .none, .mov, [(.t 2)]⟩, ⟨(.some 14), .none, (.app 1 1), [(.t 12), (.t 13)]⟩, ⟨(.some 15), .none, (.mks [.nils] 1 [⟨0, 1⟩]), [(.t 14)]⟩, ⟨(.some 16), .none, (.call 40), [(.t 9), (.c (.str [120])), (.t 15)]⟩, ⟨(.some 7), .none, (.alloc [(.int .u8 (.ofNat 0)), (.int .u8 (.ofNat 0)), (.int .u8 (.ofNat 0)), (.int .u8 (.ofNat 0)), (.int .u8 (.ofNat 0)), (.int .u8 (.ofNat 0)), (.int .u8 (.ofNat 0)), (.int .u8 (.ofNat 0)), (.int .u8 (.ofNat 0)), (.int .u8 (.ofNat 0)), (.int .u8 (.ofNat 0)), (.int .u8 (.ofNat 0)), (.int .u8 (.ofNat 0)), (.int .u8 (.ofNat 0)), (.int .u8 (.ofNat 0)), (.int .u8 (.ofNat 0)), (.int .u8 (.ofNat 0)), (.int .u8 (.ofNat 0)), (.int .u8 (.ofNat 0)), (.int .u8 (.ofNat 0)), (.int .u8 (.ofNat 0)), (.int .u8 (.ofNat 0)), (.int .u8 (.ofNat 0)), (.int .u8 (.ofNat 0)), (.int .u8 (.ofNat 0)), (.int .u8 (.ofNat 0)), (.int .u8 (.ofNat 0)), (.int .u8 (.ofNat 0)), (.int .u8 (.ofNat 0)), (.int .u8 (.ofNat 0)), (.int .u8 (.ofNat 0)), (.int .u8 (.ofNat 0))]), []⟩, ⟨.none, .none, (.stn 32), [(.t 7), (.t 16)]⟩]) (.seq (.reg .false [] [⟨(.some 17), .none, (.ldn 32), [(.t 3)]⟩, ⟨(.some 18), .none, .mov, [(.t 1)]⟩, ⟨(.some 19), .none, .mov, [(.t 2)]⟩, ⟨(.some 20), .none, (.mks [.nils, .nils] 2 [⟨0, 1⟩, ⟨1, 1⟩]), [(.t 18), (.t 19)]⟩, ⟨(.some 21), .none, (.call 40), [(.t 17), (.c (.str [120])), (.t 20)]⟩, ⟨(.some 8), .none, (.alloc [(.int .u8 (.ofNat 0)), (.int .u8 (.ofNat 0)), (.int .u8 (.ofNat 0)), (.int .u8 (.ofNat 0)), (.int .u8 (.ofNat 0)), (.int .u8 (.ofNat 0)), (.int .u8 (.ofNat 0)), (.int .u8 (.ofNat 0)), (.int .u8 (.ofNat 0)), (.int .u8 (.ofNat 0)), (.int .u8 (.ofNat 0)), (.int .u8 (.ofNat 0)), (.int .u8 (.ofNat 0)), (.int .u8 (.ofNat 0)), (.int .u8 (.ofNat 0)), (.int .u8 (.ofNat 0)), (.int .u8 (.ofNat 0)), (.int .u8 (.ofNat 0)), (.int .u8 (.ofNat 0)), (.int .u8 (.ofNat 0)), (.int .u8 (.ofNat 0)), (.int .u8 (.ofNat 0)), (.int .u8 (.ofNat 0)), (.int .u8 (.ofNat 0)), (.int .u8 (.ofNat 0)), (.int .u8 (.ofNat 0)), (.int .u8 (.ofNat 0)), (.int .u8 (.ofNat 0)), (.int .u8 (.ofNat 0)), (.int .u8 (.ofNat 0)), (.int .u8 (.ofNat 0)), (.int .u8 (.ofNat 0))]), []⟩, ⟨.none, .none, (.stn 32), [(.t 8), (.t 21)]⟩]) (.seq (.reg .true [0, 1, 3, 3, 3, 27, 3, 123, 251, 511, 3, 2047, 4095, 8191, 16383, 16383, 16383, 114687, 262143, 16383, 1048575, 2097151, 4194303, 8388607, 8388607, 8388607, 58720255, 134217727, 8388607, 8388607, 8388607, 1619001343, 4294967295, 8589934591, 17179869183, 34359738367] [⟨(.some 22), .none, (.call 38), []⟩, ⟨(.some 23), .none, .mov, [(.t 22)]⟩, ⟨(.some 24), (.some ⟨23, .true⟩), (.ldn 32), [(.t 3)]⟩, ⟨(.some 25), (.some ⟨23, .true⟩), (.mks [] 0 []), []⟩, ⟨(.some 26), (.some ⟨23, .true⟩), .mov, [(.t 1)]⟩, ⟨(.some 27), (.some ⟨23, .true⟩), (.app 1 1), [(.t 25), (.t 26)]⟩, ⟨(.some 28), (.some ⟨23, .true⟩), .mov, [(.t 2)]⟩, ⟨(.some 29), (.some ⟨23, .true⟩), (.app 1 1), [(.t 27), (.t 28)]⟩, ⟨(.some 30), (.some ⟨23, .true⟩), (.mks [.nils] 1 [⟨0, 1⟩]), [(.t 29)]⟩, ⟨(.some 31), (.some ⟨23, .true⟩), (.call 41), [(.t 24), (.c (.str [120])), (.t 30)]⟩, ⟨(.some 32), (.some ⟨23, .true⟩), (.ldn 32), [(.t 7)]⟩, ⟨(.some 33), (.some ⟨23, .true⟩), (.acmp .false 32 [⟨0, ⟨.u8, 32⟩⟩]), [(.t 31), (.t 32)]⟩, ⟨(.some 34), .none, .pick, [(.t 23), (.t 33), (.c (.bool .false))]⟩, ⟨(.some 35), .none, .mov, [(.t 34)]⟩, ⟨(.some 36), (.some ⟨35, .true⟩), (.ldn 32), [(.t 3)]⟩, ⟨(.some 37), (.some ⟨35, .true⟩), .mov, [(.t 1)]⟩, ⟨(.some 38), (.some ⟨35, .true⟩), .mov, [(.t 2)]⟩, ⟨(.some 39), (.some ⟨35, .true⟩), (.mks [.nils, .nils] 2 [⟨0, 1⟩, ⟨1, 1⟩]), [(.t 37), (.t 38)]⟩, ⟨(.some 40), (.some ⟨35, .true⟩), (.call 41), [(.t 36), (.c (.str [120])), (.t 39)]⟩, ⟨(.some 41), (.some ⟨35, .true⟩), (.ldn 32), [(.t 8)]⟩, ⟨(.some 42), (.some ⟨35, .true⟩), (.acmp .false 32 [⟨0, ⟨.u8, 32⟩⟩]), [(.t 40), (.t 41)]⟩, ⟨(.some 43), .none, .pick, [(.t 35), (.t 42), (.c (.bool .false))]⟩, ⟨(.some 44), .none, .mov, [(.t 43)]⟩, ⟨(.some 45), (.some ⟨44, .true⟩), (.ldn 32), [(.t 3)]⟩, ⟨(.some 46), (.some ⟨44, .true⟩), .mov, [(.t 2)]⟩, ⟨(.some 47), (.some ⟨44, .true⟩), .mov, [(.t 1)]⟩, ⟨(.some 48), (.some ⟨44, .true⟩), (.mks [.nils, .nils] 2 [⟨0, 1⟩, ⟨1, 1⟩]), [(.t 46), (.t 47)]⟩, ⟨(.some 49), (.some ⟨44, .true⟩), (.call 41), [(.t 45), (.c (.str [120])), (.t 48)]⟩, ⟨(.some 50), (.some ⟨44, .true⟩), (.ldn 32), [(.t 3)]⟩, ⟨(.some 51), (.some ⟨44, .true⟩), .mov, [(.t 2)]⟩, ⟨(.some 52), (.some ⟨44, .true⟩), .mov, [(.t 1)]⟩, ⟨(.some 53), (.some ⟨44, .true⟩), (.mks [.nils, .nils] 2 [⟨0, 1⟩, ⟨1, 1⟩]), [(.t 51), (.t 52)]⟩, ⟨(.some 54), (.some ⟨44, .true⟩), (.call 40), [(.t 50), (.c (.str [120])), (.t 53)]⟩, ⟨(.some 55), (.some ⟨44, .true⟩), (.acmp .false 32 [⟨0, ⟨.u8, 32⟩⟩]), [(.t 49), (.t 54)]⟩, ⟨(.some 56), .none, .pick, [(.t 44), (.t 55), (.c (.bool .false))]⟩, ⟨(.some 6), .none, .mov, [(.t 56)]⟩]) .ret))))⟩
theorem ok11 : FnOK Try.prog 11 vf11 := .of Try.func11 (by kernel_rfl) (by kernel_rfl)
def vf12 : VF := ⟨91, [(.tmp 6)], (.seq (.reg .false [] [⟨(.some 3), .none, .box, [(.t 0)]⟩, ⟨(.some 6), .none, .mov, [(.c (.bool .false))]⟩]) (.seq (.seq (.reg .false [] [⟨(.some 11), .none, .mov, [(.t 1)]⟩, ⟨(.some 12), .none, .len, [(.t 11)]⟩, ⟨(.some 13), .none, (.cmp .gtr), [(.t 12), (.c (.int .i64 (.ofNat 60000)))]⟩, ⟨(.some 14), .none, .mov, [(.t 13)]⟩, ⟨(.some 15), (.some ⟨14, .false⟩), .mov, [(.t 2)]⟩, ⟨(.some 16), (.some ⟨14, .false⟩), .len, [(.t 15)]⟩, ⟨(.some 17), (.some ⟨14, .false⟩), (.cmp .gtr), [(.t 16), (.c (.int .i64 (.ofNat 5000)))]⟩, ⟨(.some 18), .none, .pick, [(.t 14), (.c (.bool .true)), (.t 17)]⟩]) (.cond (.t 18) (.seq (.reg .false [] [⟨(.some 6), .none, .mov, [(.c (.bool .true))]⟩]) .ret) .skip)) (.seq (.reg .true [0, 0, 0, 6, 0, 30, 63, 127] [⟨(.some 19), .none, (.ldn 32), [(.t 3)]⟩, ⟨(.some 20), .none, (.mks [] 0 []), []⟩, ⟨(.some 21), .none, .mov, [(.t 1)]⟩, ⟨(.some 22), .none, (.app 1 1), [(.t 20), (.t 21)]⟩, ⟨(.some 23), .none, .mov, [(.t 2)]⟩, ⟨(.some 24), .none, (.app 1 1), [(.t 22), (.t 23)]⟩, ⟨(.some 25), .none, (.call 37), [(.t 19), (.c (.str [109])), (.t 24)]⟩, ⟨(.some 7), .none, .mov, [(.t 25)]⟩]) (.seq (.reg .false [] [⟨(.some 26), .none, (.ldn 32), [(.t 3)]⟩, ⟨(.some 27), .none, .mov, [(.t 1)]⟩, ⟨(.some 28), .none, (.call 37), [(.t 26), (.c (.str [109])), (.t 27)]⟩, ⟨(.some 8), .none, .mov, [(.t 28)]⟩]) (.seq (.reg .true [0, 0, 2, 6, 15, 31] [⟨(.some 29), .none, (.ldn 32), [(.t 3)]⟩, ⟨(.some 30), .none, .mov, [(.t 1)]⟩, ⟨(.some 31), .none, .len, [(.t 30)]⟩, ⟨(.some 32), .none, (.mksl [(.int .u8 (.ofNat 0))] 1), [(.t 31), (.t 31)]⟩, ⟨(.some 33), .none, (.call 37), [(.t 29), (.c (.str [109])), (.t 32)]⟩, ⟨(.some 9), .none, .mov, [(.t 33)]⟩]) (.seq (.seq (.reg .false [] [⟨(.some 34), .none, (.call 38), []⟩, ⟨(.some 35), .none, .not, [(.t 34)]⟩, ⟨(.some 36), .none, .mov, [(.t 35)]⟩, ⟨(.some 37), (.some ⟨36, .false⟩), .mov, [(.t 7)]⟩, ⟨(.some 38), (.some ⟨36, .false⟩), .len, [(.t 37)]⟩, ⟨(.some 39), (.some ⟨36, .false⟩), .mov, [(.t 1)]⟩, ⟨(.some 40), (.some ⟨36, .false⟩), .len, [(.t 39)]⟩, ⟨(.some 41), (.some ⟨36, .false⟩), .mov, [(.t 2)]⟩, ⟨(.some 42), (.some ⟨36, .false⟩), .len, [(.t 41)]⟩, ⟨(.some 43), (.some ⟨36, .false⟩), (.bin .add .i64), [(.t 40), (.t 42)]⟩, ⟨(.some 44), (.some ⟨36, .false⟩), (.cmp .neq), [(.t 38), (.t 43)]⟩, ⟨(.some 45), .none, .pick, [(.t 36), (.c (.bool .true)), (.t 44)]⟩, ⟨(.some 46), .none, .mov, [(.t 45)]⟩, ⟨(.some 47), (.some ⟨46, .false⟩), .mov, [(.t 8)]⟩, ⟨(.some 48), (.some ⟨46, .false⟩), .len, [(.t 47)]⟩, ⟨(.some 49), (.some ⟨46, .false⟩), .mov, [(.t 1)]⟩, ⟨(.some 50), (.some ⟨46, .false⟩), .len, [(.t 49)]⟩, ⟨(.some 51), (.some ⟨46, .false⟩), (.cmp .neq), [(.t 48), (.t 50)]⟩, ⟨(.some 52), .none, .pick, [(.t 46), (.c (.bool .true)), (.t 51)]⟩, ⟨(.some 53), .none, .mov, [(.t 52)]⟩, ⟨(.some 54), (.some ⟨53, .false⟩), .mov, [(.t 9)]⟩, ⟨(.some 55), (.some ⟨53, .false⟩), .len, [(.t 54)]⟩, ⟨(.some 56), (.some ⟨53, .false⟩), .mov, [(.t 1)]⟩, ⟨(.some 57), (.some ⟨53, .false⟩), .len, [(.t 56)]⟩, ⟨(.some 58), (.some ⟨53, .false⟩), (.cmp .neq), [(.t 55), (.t 57)]⟩, ⟨(.some 59), .none, .pick, [(.t 53), (.c (.bool .true)), (.t 58)]⟩]) (.cond (.t 59) (.seq (.reg .false [] [⟨(.some 6), .none, .mov, [(.c (.bool .false))]⟩]) .ret) .skip)) (.seq (.seq (.reg .false [] [⟨(.some 10), .none, .mov, [(.c (.int .i64 (.ofNat 0)))]⟩]) (.block 0 (.loop (.seq (.seq (.reg .false [] [⟨(.some 60), .none, .mov, [(.t 10)]⟩, ⟨(.some 61), .none, .mov, [(.t 1)]⟩, ⟨(.some 62), .none, .len, [(.t 61)]⟩, ⟨(.some 63), .none, (.cmp .lss), [(.t 60), (.t 62)]⟩]) (.cond (.t 63) .skip (.exit 0))) (.seq (.block 1 (.seq (.reg .true [0, 0, 3, 7, 0, 0, 48, 112, 255, 511, 1023, 1023, 4095, 8191, 1023, 1023, 50175, 115711, 1023, 1023, 787455, 1836031, 4178943, 8388607, 16777215] [⟨(.some 66), .none, .mov, [(.t 8)]⟩, ⟨(.some 67), .none, .mov, [(.t 10)]⟩, ⟨(.some 68), .none, (.ixS 1), [(.t 66), (.t 67)]⟩, ⟨(.some 69), .none, (.ld1 (.int .u8)), [(.t 68)]⟩, ⟨(.some 70), .none, .mov, [(.t 7)]⟩, ⟨(.some 71), .none, .mov, [(.t 10)]⟩, ⟨(.some 72), .none, (.ixS 1), [(.t 70), (.t 71)]⟩, ⟨(.some 73), .none, (.ld1 (.int .u8)), [(.t 72)]⟩, ⟨(.some 74), .none, (.cmp .neq), [(.t 69), (.t 73)]⟩, ⟨(.some 75), .none, .mov, [(.t 74)]⟩, ⟨(.some 76), (.some ⟨75, .false⟩), .mov, [(.t 8)]⟩, ⟨(.some 77), (.some ⟨75, .false⟩), .mov, [(.t 10)]⟩, ⟨(.some 78), (.some ⟨75, .false⟩), (.ixS 1), [(.t 76), (.t 77)]⟩, ⟨(.some 79), (.some ⟨75, .false⟩), (.ld1 (.int .u8)), [(.t 78)]⟩, ⟨(.some 80), (.some ⟨75, .false⟩), .mov, [(.t 9)]⟩, ⟨(.some 81), (.some ⟨75, .false⟩), .mov, [(.t 10)]⟩, ⟨(.some 82), (.some ⟨75, .false⟩), (.ixS 1), [(.t 80), (.t 81)]⟩, ⟨(.some 83), (.some ⟨75, .false⟩), (.ld1 (.int .u8)), [(.t 82)]⟩, ⟨(.some 84), (.some ⟨75, .false⟩), .mov, [(.t 1)]⟩, ⟨(.some 85), (.some ⟨75, .false⟩), .mov, [(.t 10)]⟩, ⟨(.some 86), (.some ⟨75, .false⟩), (.ixS 1), [(.t 84), (.t 85)]⟩, ⟨(.some 87), (.some ⟨75, .false⟩), (.ld1 (.int .u8)), [(.t 86)]⟩, ⟨(.some 88), (.some ⟨75, .false⟩), (.bin .xor .u8), [(.t 83), (.t 87)]⟩, ⟨(.some 89), (.some ⟨75, .false⟩), (.cmp .neq), [(.t 79), (.t 88)]⟩, ⟨(.some 90), .none, .pick, [(.t 75), (.c (.bool .true)), (.t 89)]⟩]) (.cond (.t 90) (.seq (.reg .false [] [⟨(.some 6), .none, .mov, [(.c (.bool .false))]⟩]) .ret) .skip))) (.reg .false [] [⟨(.some 64), .none, .mov, [(.t 10)]⟩, ⟨(.some 65), .none, (.bin .add .i64), [(.t 64), (.c (.int .i64 (.ofNat 1)))]⟩, ⟨(.some 10), .none, .mov, [(.t 65)]⟩])))))) (.seq (.reg .false [] [⟨(.some 6), .none, .mov, [(.c (.bool .true))]⟩]) .ret))))))))⟩
theorem ok12 : FnOK Try.prog 12 vf12 := .of Try.func12 (by kernel_rfl) (by kernel_rfl)
def vf13 : VF := ⟨77, [(.tmp 8)], (.seq (.reg .false [] [⟨(.some 4), .none, .box, [(.t 0)]⟩, ⟨(.some 8), .none, .mov, [(.c (.bool .false))]⟩]) (.seq (.reg .false [] [⟨(.some 9), .none, .mov, [(.c .nils)]⟩]) (.seq (.seq (.reg .false [] [⟨(.some 10), .none, .mov, [(.c (.int .i64 (.ofNat 0)))]⟩]) (.block 0 (.loop (.seq (.seq (.reg .false [] [⟨(.some 12), .none, .mov, [(.t 10)]⟩, ⟨(.some 13), .none, .mov, [(.t 2)]⟩, ⟨(.some 14), .none, .len, [(.t 13)]⟩, ⟨(.some 15), .none, (.cmp .lss), [(.t 12), (.t 14)]⟩]) (.cond (.t 15) .skip (.exit 0))) (.seq (.block 1 (.reg .false [] [⟨(.some 18), .none, .mov, [(.t 9)]⟩, ⟨(.some 19), .none, (.mks [] 0 []), []⟩, ⟨(.some 20), .none, .mov, [(.t 2)]⟩, ⟨(.some 21), .none, .mov, [(.t 10)]⟩, ⟨(.some 22), .none, (.ixS 1), [(.t 20), (.t 21)]⟩, ⟨(.some 23), .none, (.ld1 .slc), [(.t 22)]⟩, ⟨(.some 24), .none, (.app 1 1), [(.t 19), (.t 23)]⟩, ⟨(.some 25), .none, (.mks [.nils] 1 [⟨0, 1⟩]), [(.t 24)]⟩, ⟨(.some 26), .none, (.app 1 24), [(.t 18), (.t 25)]⟩, ⟨(.some 9), .none, .mov, [(.t 26)]⟩])) (.reg .false [] [⟨(.some 16), .none, .mov, [(.t 10)]⟩, ⟨(.some 17), .none, (.bin .add .i64), [(.t 16), (.c (.int .i64 (.ofNat 1)))]⟩, ⟨(.some 10), .none, .mov, [(.t 17)]⟩])))))) (.seq (.seq (.reg .true [0, 1, 3, 7, 7, 7, 63, 7, 7, 7, 1023, 2047, 4095, 8191, 16383, 16383, 16383, 131071, 16383, 16383, 16383, 2097151, 4194303, 8388607, 16777215, 33554431, 67108863, 134217727, 33554431, 402653183, 939524095, 2147483647, 4294967295] [⟨(.some 27), .none, (.call 38), []⟩, ⟨(.some 28), .none, .not, [(.t 27)]⟩, ⟨(.some 29), .none, .mov, [(.t 28)]⟩, ⟨(.some 30), (.some ⟨29, .false⟩), (.ldn 32), [(.t 4)]⟩, ⟨(.some 31), (.some ⟨29, .false⟩), .mov, [(.t 1)]⟩, ⟨(.some 32), (.some ⟨29, .false⟩), .mov, [(.t 9)]⟩, ⟨(.some 33), (.some ⟨29, .false⟩), (.call 41), [(.t 30), (.t 31), (.t 32)]⟩, ⟨(.some 34), (.some ⟨29, .false⟩), (.ldn 32), [(.t 4)]⟩, ⟨(.some 35), (.some ⟨29, .false⟩), .mov, [(.t 1)]⟩, ⟨(.some 36), (.some ⟨29, .false⟩), .mov, [(.t 2)]⟩, ⟨(.some 37), (.some ⟨29, .false⟩), (.call 40), [(.t 34), (.t 35), (.t 36)]⟩, ⟨(.some 38), (.some ⟨29, .false⟩), (.acmp .true 32 [⟨0, ⟨.u8, 32⟩⟩]), [(.t 33), (.t 37)]⟩, ⟨(.some 39), .none, .pick, [(.t 29), (.c (.bool .true)), (.t 38)]⟩, ⟨(.some 40), .none, .mov, [(.t 39)]⟩, ⟨(.some 41), (.some ⟨40, .false⟩), (.ldn 32), [(.t 4)]⟩, ⟨(.some 42), (.some ⟨40, .false⟩), .mov, [(.t 1)]⟩, ⟨(.some 43), (.some ⟨40, .false⟩), .mov, [(.t 3)]⟩, ⟨(.some 44), (.some ⟨40, .false⟩), (.call 42), [(.t 41), (.t 42), (.t 43)]⟩, ⟨(.some 45), (.some ⟨40, .false⟩), (.ldn 32), [(.t 4)]⟩, ⟨(.some 46), (.some ⟨40, .false⟩), .mov, [(.t 1)]⟩, ⟨(.some 47), (.some ⟨40, .false⟩), .mov, [(.t 3)]⟩, ⟨(.some 48), (.some ⟨40, .false⟩), (.call 43), [(.t 45), (.t 46), (.t 47)]⟩, ⟨(.some 49), (.some ⟨40, .false⟩), (.acmp .true 32 [⟨0, ⟨.u8, 32⟩⟩]), [(.t 44), (.t 48)]⟩, ⟨(.some 50), .none, .pick, [(.t 40), (.c (.bool .true)), (.t 49)]⟩, ⟨(.some 51), .none, .mov, [(.t 50)]⟩, ⟨(.some 52), (.some ⟨51, .false⟩), .mov, [(.t 3)]⟩, ⟨(.some 53), (.some ⟨51, .false⟩), (.call 44), [(.t 52)]⟩, ⟨(.some 54), (.some ⟨51, .false⟩), .b2s, [(.t 53)]⟩, ⟨(.some 55), (.some ⟨51, .false⟩), .mov, [(.t 3)]⟩, ⟨(.some 56), (.some ⟨51, .false⟩), (.call 45), [(.t 55)]⟩, ⟨(.some 57), (.some ⟨51, .false⟩), .b2s, [(.t 56)]⟩, ⟨(.some 58), (.some ⟨51, .false⟩), (.scmp .true), [(.t 54), (.t 57)]⟩, ⟨(.some 59), .none, .pick, [(.t 51), (.c (.bool .true)), (.t 58)]⟩]) (.cond (.t 59) (.seq (.reg .false [] [⟨(.some 8), .none, .mov, [(.c (.bool .false))]⟩]) .ret) .skip)) (.seq (.seq (.reg .false [] [⟨(.some 11), .none, .mov, [(.c (.int .i64 (.ofNat 0)))]⟩]) (.block 2 (.loop (.seq (.seq (.reg .false [] [⟨(.some 60), .none, .mov, [(.t 11)]⟩, ⟨(.some 61), .none, .mov, [(.t 2)]⟩, ⟨(.some 62), .none, .len, [(.t 61)]⟩, ⟨(.some 63), .none, (.cmp .lss), [(.t 60), (.t 62)]⟩]) (.cond (.t 63) .skip (.exit 2))) (.seq (.block 3 (.seq (.reg .true [0, 0, 3, 7, 15, 0, 0, 96, 224, 480, 1023] [⟨(.some 66), .none, .mov, [(.t 9)]⟩, ⟨(.some 67), .none, .mov, [(.t 11)]⟩, ⟨(.some 68), .none, (.ixS 1), [(.t 66), (.t 67)]⟩, ⟨(.some 69), .none, (.ld1 .slc), [(.t 68)]⟩, ⟨(.some 70), .none, .b2s, [(.t 69)]⟩, ⟨(.some 71), .none, .mov, [(.t 2)]⟩, ⟨(.some 72), .none, .mov, [(.t 11)]⟩, ⟨(.some 73), .none, (.ixS 1), [(.t 71), (.t 72)]⟩, ⟨(.some 74), .none, (.ld1 .slc), [(.t 73)]⟩, ⟨(.some 75), .none, .b2s, [(.t 74)]⟩, ⟨(.some 76), .none, (.scmp .true), [(.t 70), (.t 75)]⟩]) (.cond (.t 76) (.seq (.reg .false [] [⟨(.some 8), .none, .mov, [(.c (.bool .false))]⟩]) .ret) .skip))) (.reg .false [] [⟨(.some 64), .none, .mov, [(.t 11)]⟩, ⟨(.some 65), .none, (.bin .add .i64), [(.t 64), (.c (.int .i64 (.ofNat 1)))]⟩, ⟨(.some 11), .none, .mov, [(.t 65)]⟩])))))) (.seq (.reg .false [] [⟨(.some 8), .none, .mov, [(.c (.bool .true))]⟩]) .ret))))))⟩
theorem ok13 : FnOK Try.prog 13 vf13 := .of Try.func13 (by kernel_rfl) (by kernel_rfl)
def vf14 : VF := ⟨33, [(.tmp 6)], (.seq (.reg .false [] [⟨(.some 5), .none, .box, [(.t 2)]⟩, ⟨(.some 6), .none, .mov, [(.c (.bool .false))]⟩]) (.seq (.reg .true [0, 1, 3, 3, 15, 3, 35, 3, 131, 483, 1023, 2047, 4095, 8191, 8191, 8191, 57343, 131071, 262143, 524287, 1048575, 2097151, 1048575, 8388607, 16777215, 33554431, 67108863] [⟨(.some 7), .none, (.call 38), []⟩, ⟨(.some 8), .none, .mov, [(.t 7)]⟩, ⟨(.some 9), (.some ⟨8, .true⟩), .mov, [(.t 0)]⟩, ⟨(.some 10), (.some ⟨8, .true⟩), .mov, [(.t 1)]⟩, ⟨(.some 11), (.some ⟨8, .true⟩), (.call 46), [(.t 9), (.t 10)]⟩, ⟨(.some 12), (.some ⟨8, .true⟩), .mov, [(.t 0)]⟩, ⟨(.some 13), (.some ⟨8, .true⟩), .b2s, [(.t 12)]⟩, ⟨(.some 14), (.some ⟨8, .true⟩), .mov, [(.t 1)]⟩, ⟨(.some 15), (.some ⟨8, .true⟩), .b2s, [(.t 14)]⟩, ⟨(.some 16), (.some ⟨8, .true⟩), (.scmp .false), [(.t 13), (.t 15)]⟩, ⟨(.some 17), (.some ⟨8, .true⟩), (.bcmp .false), [(.t 11), (.t 16)]⟩, ⟨(.some 18), .none, .pick, [(.t 8), (.t 17), (.c (.bool .false))]⟩, ⟨(.some 19), .none, .mov, [(.t 18)]⟩, ⟨(.some 20), (.some ⟨19, .true⟩), .mov, [(.t 0)]⟩, ⟨(.some 21), (.some ⟨19, .true⟩), (.mks [] 0 []), []⟩, ⟨(.some 22), (.some ⟨19, .true⟩), .mov, [(.t 0)]⟩, ⟨(.some 23), (.some ⟨19, .true⟩), (.app 1 1), [(.t 21), (.t 22)]⟩, ⟨(.some 24), (.some ⟨19, .true⟩), (.call 46), [(.t 20), (.t 23)]⟩, ⟨(.some 25), .none, .pick, [(.t 19), (.t 24), (.c (.bool .false))]⟩, ⟨(.some 26), .none, .mov, [(.t 25)]⟩, ⟨(.some 27), (.some ⟨26, .true⟩), (.ldn 32), [(.t 5)]⟩, ⟨(.some 28), (.some ⟨26, .true⟩), (.call 47), [(.t 27)]⟩, ⟨(.some 29), (.some ⟨26, .true⟩), (.slA 32 1 .false .false), [(.t 5)]⟩, ⟨(.some 30), (.some ⟨26, .true⟩), (.call 24), [(.t 29)]⟩, ⟨(.some 31), (.some ⟨26, .true⟩), (.acmp .false 32 [⟨0, ⟨.u8, 32⟩⟩]), [(.t 28), (.t 30)]⟩, ⟨(.some 32), .none, .pick, [(.t 26), (.t 31), (.c (.bool .false))]⟩, ⟨(.some 6), .none, .mov, [(.t 32)]⟩]) .ret))⟩
theorem ok14 : FnOK Try.prog 14 vf14 := .of Try.func14 (by kernel_rfl) (by kernel_rfl)
def vf15 : VF := ⟨50, [(.tmp 6)], (.seq (.reg .false [] [⟨(.some 3), .none, .box, [(.t 0)]⟩, ⟨(.some 6), .none, .mov, [(.c (.bool .false))]⟩]) (.seq (.reg .false [] [⟨(.some 10), .none, .mov, [(.t 2)]⟩, ⟨(.some 11), .none, (.call 44), [(.t 10)]⟩, ⟨(.some 7), .none, .mov, [(.t 11)]⟩]) (.seq (.reg .false [] [⟨(.some 8), .none, .mov, [(.c (.int .u64 (.ofNat 0)))]⟩]) (.seq (.seq (.reg .false [] [⟨(.some 12), .none, .mov, [(.t 7)]⟩, ⟨(.some 13), .none, .len, [(.t 12)]⟩, ⟨(.some 14), .none, (.bin .sub .i64), [(.t 13), (.c (.int .i64 (.ofNat 1)))]⟩, ⟨(.some 9), .none, .mov, [(.t 14)]⟩]) (.block 0 (.loop (.seq (.seq (.reg .false [] [⟨(.some 15), .none, .mov, [(.t 9)]⟩, ⟨(.some 16), .none, (.cmp .geq), [(.t 15), (.c (.int .i64 (.ofNat 0)))]⟩]) (.cond (.t 16) .skip (.exit 0))) (.seq (.block 1 (.reg .false [] [⟨(.some 19), .none, .mov, [(.t 8)]⟩, ⟨(.some 20), .none, (.shf .shl .u64), [(.t 19), (.c (.int .u64 (.ofNat 8)))]⟩, ⟨(.some 21), .none, .mov, [(.t 7)]⟩, ⟨(.some 22), .none, .mov, [(.t 9)]⟩, ⟨(.some 23), .none, (.ixS 1), [(.t 21), (.t 22)]⟩, ⟨(.some 24), .none, (.ld1 (.int .u8)), [(.t 23)]⟩, ⟨(.some 25), .none, (.cvt .u64), [(.t 24)]⟩, ⟨(.some 26), .none, (.bin .or .u64), [(.t 20), (.t 25)]⟩, ⟨(.some 8), .none, .mov, [(.t 26)]⟩])) (.reg .false [] [⟨(.some 17), .none, .mov, [(.t 9)]⟩, ⟨(.some 18), .none, (.bin .sub .i64), [(.t 17), (.c (.int .i64 (.ofNat 1)))]⟩, ⟨(.some 9), .none, .mov, [(.t 18)]⟩])))))) (.seq (.reg .true [0, 1, 3, 7, 15, 31, 63, 127, 127, 511, 1023, 2047, 4095, 4095, 4095, 32767, 4095, 4095, 4095, 266239, 1048575, 2097151, 4194303, 8388607] [⟨(.some 27), .none, (.call 38), []⟩, ⟨(.some 28), .none, .mov, [(.t 27)]⟩, ⟨(.some 29), (.some ⟨28, .true⟩), .mov, [(.t 7)]⟩, ⟨(.some 30), (.some ⟨28, .true⟩), .len, [(.t 29)]⟩, ⟨(.some 31), (.some ⟨28, .true⟩), (.cmp .eql), [(.t 30), (.c (.int .i64 (.ofNat 8)))]⟩, ⟨(.some 32), .none, .pick, [(.t 28), (.t 31), (.c (.bool .false))]⟩, ⟨(.some 33), .none, .mov, [(.t 32)]⟩, ⟨(.some 34), (.some ⟨33, .true⟩), .mov, [(.t 8)]⟩, ⟨(.some 35), (.some ⟨33, .true⟩), .mov, [(.t 2)]⟩, ⟨(.some 36), (.some ⟨33, .true⟩), (.cmp .eql), [(.t 34), (.t 35)]⟩, ⟨(.some 37), .none, .pick, [(.t 33), (.t 36), (.c (.bool .false))]⟩, ⟨(.some 38), .none, .mov, [(.t 37)]⟩, ⟨(.some 39), (.some ⟨38, .true⟩), (.ldn 32), [(.t 3)]⟩, ⟨(.some 40), (.some ⟨38, .true⟩), .mov, [(.t 1)]⟩, ⟨(.some 41), (.some ⟨38, .true⟩), .mov, [(.t 2)]⟩, ⟨(.some 42), (.some ⟨38, .true⟩), (.call 42), [(.t 39), (.t 40), (.t 41)]⟩, ⟨(.some 43), (.some ⟨38, .true⟩), (.ldn 32), [(.t 3)]⟩, ⟨(.some 44), (.some ⟨38, .true⟩), .mov, [(.t 1)]⟩, ⟨(.some 45), (.some ⟨38, .true⟩), .mov, [(.t 7)]⟩, ⟨(.some 46), (.some ⟨38, .true⟩), (.mks [.nils] 1 [⟨0, 1⟩]), [(.t 45)]⟩, ⟨(.some 47), (.some ⟨38, .true⟩), (.call 41), [(.t 43), (.t 44), (.t 46)]⟩, ⟨(.some 48), (.some ⟨38, .true⟩), (.acmp .false 32 [⟨0, ⟨.u8, 32⟩⟩]), [(.t 42), (.t 47)]⟩, ⟨(.some 49), .none, .pick, [(.t 38), (.t 48), (.c (.bool .false))]⟩, ⟨(.some 6), .none, .mov, [(.t 49)]⟩]) .ret)))))⟩
theorem ok15 : FnOK Try.prog 15 vf15 := .of Try.func15 (by kernel_rfl) (by kernel_rfl)
def vf37 : VF := ⟨41, [(.tmp 6)], (.seq (.reg .false [] [⟨(.some 3), .none, .box, [(.t 0)]⟩, ⟨(.some 6), .none, .mov, [(.c .nils)]⟩]) (.seq (.seq (.reg .false [] [⟨(.some 10), .none, .mov, [(.t 1)]⟩, ⟨(.some 11), .none, .lenT, [(.t 10)]⟩, ⟨(.some 12), .none, (.cmp .gtr), [(.t 11), (.c (.int .i64 (.ofNat 64)))]⟩, ⟨(.some 13), .none, .mov, [(.t 12)]⟩, ⟨(.some 14), (.some ⟨13, .false⟩), .mov, [(.t 2)]⟩, ⟨(.some 15), (.some ⟨13, .false⟩), .len, [(.t 14)]⟩, ⟨(.some 16), (.some ⟨13, .false⟩), (.cmp .gtr), [(.t 15), (.c (.int .i64 (.ofNat 65536)))]⟩, ⟨(.some 17), .none, .pick, [(.t 13), (.c (.bool .true)), (.t 16)]⟩]) (.cond (.t 17) (.seq (.reg .false [] [⟨(.some 6), .none, .mov, [(.c .nils)]⟩]) .ret) .skip)) (.seq (.reg .false [] [⟨(.some 18), .none, .mov, [(.t 2)]⟩, ⟨(.some 19), .none, .len, [(.t 18)]⟩, ⟨(.some 20), .none, (.ldn 32), [(.t 3)]⟩, ⟨(.some 21), .none, .mov, [(.t 1)]⟩, ⟨(.some 22), .none, (.call 79), [(.t 20), (.t 21)]⟩, ⟨(.some 23), .none, (.mks [.nils] 1 [⟨0, 1⟩]), [(.t 22)]⟩, ⟨(.some 24), .none, (.call 27), [(.t 19), (.t 23)]⟩, ⟨(.some 7), .none, .mov, [(.t 24)]⟩]) (.seq (.seq (.reg .false [] [⟨(.some 25), .none, .mov, [(.t 2)]⟩, ⟨(.some 26), .none, .len, [(.t 25)]⟩, ⟨(.some 27), .none, .mov, [(.c (.int .i64 (.ofNat 0)))]⟩]) (.block 0 (.loop (.seq (.reg .false [] [⟨(.some 28), .none, (.cmp .lss), [(.t 27), (.t 26)]⟩]) (.seq (.cond (.t 28) .skip (.exit 0)) (.seq (.block 1 (.seq (.reg .false [] [⟨(.some 29), .none, .mov, [(.t 27)]⟩, ⟨(.some 30), .none, (.ixS 1), [(.t 25), (.t 27)]⟩, ⟨(.some 31), .none, (.ld1 (.int .u8)), [(.t 30)]⟩, ⟨(.some 8), .none, .mov, [(.t 29)]⟩, ⟨(.some 9), .none, .mov, [(.t 31)]⟩]) (.reg .false [] [⟨(.some 32), .none, .mov, [(.t 7)]⟩, ⟨(.some 33), .none, .mov, [(.t 8)]⟩, ⟨(.some 34), .none, (.ixS 1), [(.t 32), (.t 33)]⟩, ⟨(.some 35), .none, (.ld1 (.int .u8)), [(.t 34)]⟩, ⟨(.some 36), .none, .mov, [(.t 9)]⟩, ⟨(.some 37), .none, (.bin .xor .u8), [(.t 35), (.t 36)]⟩, ⟨(.some 38), .none, (.ixS 1), [(.t 32), (.t 33)]⟩, ⟨.none, .none, .st1, [(.t 38), (.t 37)]⟩]))) (.reg .false [] [⟨(.some 39), .none, (.bin .add .i64), [(.t 27), (.c (.int .i64 (.ofNat 1)))]⟩, ⟨(.some 27), .none, .mov, [(.t 39)]⟩]))))))) (.seq (.reg .false [] [⟨(.some 40), .none, .mov, [(.t 7)]⟩, ⟨(.some 6), .none, .mov, [(.t 40)]⟩]) .ret)))))⟩
theorem ok37 : FnOK Try.prog 37 vf37 := .of Try.func37 (by kernel_rfl) (by kernel_rfl)
def vf38 : VF := ⟨38, [(.tmp 0)], (.seq (.reg .false [] [⟨(.some 0), .none, .mov, [(.c (.bool .false))]⟩]) (.seq (.reg .false [] [⟨(.some 3), .none, (.mk [(.int .u8 (.ofNat 0)), (.int .u8 (.ofNat 0)), (.int .u8 (.ofNat 0)), (.int .u8 (.ofNat 0)), (.int .u8 (.ofNat 0)), (.int .u8 (.ofNat 0)), (.int .u8 (.ofNat 0)), (.int .u8 (.ofNat 0)), (.int .u8 (.ofNat 0)), (.int .u8 (.ofNat 0)), (.int .u8 (.ofNat 0)), (.int .u8 (.ofNat 0)), (.int .u8 (.ofNat 0)), (.int .u8 (.ofNat 0)), (.int .u8 (.ofNat 0)), (.int .u8 (.ofNat 0)), (.int .u8 (.ofNat 0)), (.int .u8 (.ofNat 0)), (.int .u8 (.ofNat 0)), (.int .u8 (.ofNat 0)), (.int .u8 (.ofNat 0)), (.int .u8 (.ofNat 0)), (.int .u8 (.ofNat 0)), (.int .u8 (.ofNat 0)), (.int .u8 (.ofNat 0)), (.int .u8 (.ofNat 0)), (.int .u8 (.ofNat 0)), (.int .u8 (.ofNat 0)), (.int .u8 (.ofNat 0)), (.int .u8 (.ofNat 0)), (.int .u8 (.ofNat 0)), (.int .u8 (.ofNat 0))] [⟨0, 1⟩]), [(.c (.int .u8 (.ofNat 1)))]⟩, ⟨(.some 1), .none, (.alloc [(.int .u8 (.ofNat 0)), (.int .u8 (.ofNat 0)), (.int .u8 (.ofNat 0)), (.int .u8 (.ofNat 0)), (.int .u8 (.ofNat 0)), (.int .u8 (.ofNat 0)), (.int .u8 (.ofNat 0)), (.int .u8 (.ofNat 0)), (.int .u8 (.ofNat 0)), (.int .u8 (.ofNat 0)), (.int .u8 (.ofNat 0)), (.int .u8 (.ofNat 0)), (.int .u8 (.ofNat 0)), (.int .u8 (.ofNat 0)), (.int .u8 (.ofNat 0)), (.int .u8 (.ofNat 0)), (.int .u8 (.ofNat 0)), (.int .u8 (.ofNat 0)), (.int .u8 (.ofNat 0)), (.int .u8 (.ofNat 0)), (.int .u8 (.ofNat 0)), (.int .u8 (.ofNat 0)), (.int .u8 (.ofNat 0)), (.int .u8 (.ofNat 0)), (.int .u8 (.ofNat 0)), (.int .u8 (.ofNat 0)), (.int .u8 (.ofNat 0)), (.int .u8 (.ofNat 0)), (.int .u8 (.ofNat 0)), (.int .u8 (.ofNat 0)), (.int .u8 (.ofNat 0)), (.int .u8 (.ofNat 0))]), []⟩, ⟨.none, .none, (.stn 32), [(.t 1), (.t 3)]⟩]) (.seq (.reg .false [] [⟨(.some 4), .none, (.ldn 32), [(.t 1)]⟩, ⟨(.some 5), .none, (.mko [(.int .u8 (.ofNat 0)), (.int .u8 (.ofNat 0)), (.int .u8 (.ofNat 0))] 3 1 [⟨0, 1⟩, ⟨1, 1⟩, ⟨2, 1⟩]), [(.c (.int .u8 (.ofNat 97))), (.c (.int .u8 (.ofNat 98))), (.c (.int .u8 (.ofNat 99)))]⟩, ⟨(.some 6), .none, .frz, [(.t 5)]⟩, ⟨(.some 7), .none, (.call 37), [(.t 4), (.c (.str [120])), (.t 6)]⟩, ⟨(.some 2), .none, .mov, [(.t 7)]⟩]) (.seq (.reg .true [0, 1, 0, 7, 15, 31, 63, 127, 255, 511, 1023, 2047, 4095, 8191, 16383, 32767, 65535, 131071, 262143, 524287, 1048575, 1048575, 4194303, 8388607, 16777215, 33554431, 67108863, 134217727, 268435455, 536870911, 1073741823] [⟨(.some 8), .none, (.ldn 32), [(.t 1)]⟩, ⟨(.some 9), .none, (.call 41), [(.t 8), (.c (.str [120])), (.c .nils)]⟩, ⟨(.some 10), .none, (.ldn 32), [(.t 1)]⟩, ⟨(.some 11), .none, (.call 41), [(.t 10), (.c (.str [121])), (.c .nils)]⟩, ⟨(.some 12), .none, (.acmp .true 32 [⟨0, ⟨.u8, 32⟩⟩]), [(.t 9), (.t 11)]⟩, ⟨(.some 13), .none, .mov, [(.t 12)]⟩, ⟨(.some 14), (.some ⟨13, .true⟩), .mov, [(.t 2)]⟩, ⟨(.some 15), (.some ⟨13, .true⟩), .len, [(.t 14)]⟩, ⟨(.some 16), (.some ⟨13, .true⟩), (.cmp .eql), [(.t 15), (.c (.int .i64 (.ofNat 3)))]⟩, ⟨(.some 17), .none, .pick, [(.t 13), (.t 16), (.c (.bool .false))]⟩, ⟨(.some 18), .none, .mov, [(.t 17)]⟩, ⟨(.some 19), (.some ⟨18, .true⟩), .mov, [(.t 2)]⟩, ⟨(.some 20), (.some ⟨18, .true⟩), .b2s, [(.t 19)]⟩, ⟨(.some 21), (.some ⟨18, .true⟩), (.scmp .true), [(.t 20), (.c (.str [97, 98, 99]))]⟩, ⟨(.some 22), .none, .pick, [(.t 18), (.t 21), (.c (.bool .false))]⟩, ⟨(.some 23), .none, .mov, [(.t 22)]⟩, ⟨(.some 24), (.some ⟨23, .true⟩), (.mks [] 0 []), []⟩, ⟨(.some 25), (.some ⟨23, .true⟩), (.call 46), [(.c .nils), (.t 24)]⟩, ⟨(.some 26), .none, .pick, [(.t 23), (.t 25), (.c (.bool .false))]⟩, ⟨(.some 27), .none, .mov, [(.t 26)]⟩, ⟨(.some 28), (.some ⟨27, .true⟩), (.mks [(.int .u8 (.ofNat 0))] 1 [⟨0, 1⟩]), [(.c (.int .u8 (.ofNat 1)))]⟩, ⟨(.some 29), (.some ⟨27, .true⟩), (.mks [(.int .u8 (.ofNat 0))] 1 [⟨0, 1⟩]), [(.c (.int .u8 (.ofNat 2)))]⟩, ⟨(.some 30), (.some ⟨27, .true⟩), (.call 46), [(.t 28), (.t 29)]⟩, ⟨(.some 31), (.some ⟨27, .true⟩), .not, [(.t 30)]⟩, ⟨(.some 32), .none, .pick, [(.t 27), (.t 31), (.c (.bool .false))]⟩, ⟨(.some 33), .none, .mov, [(.t 32)]⟩, ⟨(.some 34), (.some ⟨33, .true⟩), (.call 44), [(.c (.int .u64 (.ofNat 3)))]⟩, ⟨(.some 35), (.some ⟨33, .true⟩), .len, [(.t 34)]⟩, ⟨(.some 36), (.some ⟨33, .true⟩), (.cmp .eql), [(.t 35), (.c (.int .i64 (.ofNat 8)))]⟩, ⟨(.some 37), .none, .pick, [(.t 33), (.t 36), (.c (.bool .false))]⟩, ⟨(.some 0), .none, .mov, [(.t 37)]⟩]) .ret))))⟩
theorem ok38 : FnOK Try.prog 38 vf38 := .of Try.func38 (by kernel_rfl) (by kernel_rfl)
def vf39 : VF := ⟨43, [(.tmp 6)], (.seq (.reg .false [] [⟨(.some 3), .none, .box, [(.t 0)]⟩, ⟨(.some 6), .none, .mov, [(.c .nils)]⟩]) (.seq (.seq (.reg .false [] [⟨(.some 10), .none, .mov, [(.t 1)]⟩, ⟨(.some 11), .none, .lenT, [(.t 10)]⟩, ⟨(.some 12), .none, (.cmp .gtr), [(.t 11), (.c (.int .i64 (.ofNat 64)))]⟩, ⟨(.some 13), .none, .mov, [(.t 12)]⟩, ⟨(.some 14), (.some ⟨13, .false⟩), .mov, [(.t 2)]⟩, ⟨(.some 15), (.some ⟨13, .false⟩), .len, [(.t 14)]⟩, ⟨(.some 16), (.some ⟨13, .false⟩), (.cmp .gtr), [(.t 15), (.c (.int .i64 (.ofNat 65536)))]⟩, ⟨(.some 17), .none, .pick, [(.t 13), (.c (.bool .true)), (.t 16)]⟩]) (.cond (.t 17) (.seq (.reg .false [] [⟨(.some 6), .none, .mov, [(.c .nils)]⟩]) .ret) .skip)) (.seq (.reg .false [] [⟨(.some 18), .none, .mov, [(.t 2)]⟩, ⟨(.some 19), .none, .len, [(.t 18)]⟩, ⟨(.some 20), .none, (.ldn 32), [(.t 3)]⟩, ⟨(.some 21), .none, .mov, [(.t 1)]⟩, ⟨(.some 22), .none, (.call 80), [(.t 20), (.t 21)]⟩, ⟨(.some 23), .none, (.call 28), [(.t 19), (.t 22)]⟩, ⟨(.some 7), .none, .mov, [(.t 23)]⟩]) (.seq (.reg .false [] [⟨(.some 8), .none, .mov, [(.c .nils)]⟩]) (.seq (.seq (.reg .false [] [⟨(.some 9), .none, .mov, [(.c (.int .i64 (.ofNat 0)))]⟩]) (.block 0 (.loop (.seq (.seq (.reg .false [] [⟨(.some 24), .none, .mov, [(.t 9)]⟩, ⟨(.some 25), .none, .mov, [(.t 2)]⟩, ⟨(.some 26), .none, .len, [(.t 25)]⟩, ⟨(.some 27), .none, (.cmp .lss), [(.t 24), (.t 26)]⟩]) (.cond (.t 27) .skip (.exit 0))) (.seq (.block 1 (.reg .true [0, 0, 0, 6, 14, 0, 0, 96, 224, 510, 1022, 2047, 4095] [⟨(.some 30), .none, .mov, [(.t 8)]⟩, ⟨(.some 31), .none, .mov, [(.t 2)]⟩, ⟨(.some 32), .none, .mov, [(.t 9)]⟩, ⟨(.some 33), .none, (.ixS 1), [(.t 31), (.t 32)]⟩, ⟨(.some 34), .none, (.ld1 (.int .u8)), [(.t 33)]⟩, ⟨(.some 35), .none, .mov, [(.t 7)]⟩, ⟨(.some 36), .none, .mov, [(.t 9)]⟩, ⟨(.some 37), .none, (.ixS 1), [(.t 35), (.t 36)]⟩, ⟨(.some 38), .none, (.ld1 (.int .u8)), [(.t 37)]⟩, ⟨(.some 39), .none, (.bin .xor .u8), [(.t 34), (.t 38)]⟩, ⟨(.some 40), .none, (.mks [(.int .u8 (.ofNat 0))] 1 [⟨0, 1⟩]), [(.t 39)]⟩, ⟨(.some 41), .none, (.app 1 1), [(.t 30), (.t 40)]⟩, ⟨(.some 8), .none, .mov, [(.t 41)]⟩])) (.reg .false [] [⟨(.some 28), .none, .mov, [(.t 9)]⟩, ⟨(.some 29), .none, (.bin .add .i64), [(.t 28), (.c (.int .i64 (.ofNat 1)))]⟩, ⟨(.some 9), .none, .mov, [(.t 29)]⟩])))))) (.seq (.reg .false [] [⟨(.some 42), .none, .mov, [(.t 8)]⟩, ⟨(.some 6), .none, .mov, [(.t 42)]⟩]) .ret))))))⟩
theorem ok39 : FnOK Try.prog 39 vf39 := .of Try.func39 (by kernel_rfl) (by kernel_rfl)
def vf40 : VF := ⟨38, [(.cell 6 32)], (.seq (.reg .false [] [⟨(.some 3), .none, .box, [(.t 0)]⟩, ⟨(.some 6), .none, (.alloc [(.int .u8 (.ofNat 0)), (.int .u8 (.ofNat 0)), (.int .u8 (.ofNat 0)), (.int .u8 (.ofNat 0)), (.int .u8 (.ofNat 0)), (.int .u8 (.ofNat 0)), (.int .u8 (.ofNat 0)), (.int .u8 (.ofNat 0)), (.int .u8 (.ofNat 0)), (.int .u8 (.ofNat 0)), (.int .u8 (.ofNat 0)), (.int .u8 (.ofNat 0)), (.int .u8 (.ofNat 0)), (.int .u8 (.ofNat 0)), (.int .u8 (.ofNat 0)), (.int .u8 (.ofNat 0)), (.int .u8 (.ofNat 0)), (.int .u8 (.ofNat 0)), (.int .u8 (.ofNat 0)), (.int .u8 (.ofNat 0)), (.int .u8 (.ofNat 0)), (.int .u8 (.ofNat 0)), (.int .u8 (.ofNat 0)), (.int .u8 (.ofNat 0)), (.int .u8 (.ofNat 0)), (.int .u8 (.ofNat 0)), (.int .u8 (.ofNat 0)), (.int .u8 (.ofNat 0)), (.int .u8 (.ofNat 0)), (.int .u8 (.ofNat 0)), (.int .u8 (.ofNat 0)), (.int .u8 (.ofNat 0))]), []⟩]) (.seq (.seq (.reg .false [] [⟨(.some 9), .none, .mov, [(.t 1)]⟩, ⟨(.some 10), .none, .lenT, [(.t 9)]⟩, ⟨(.some 11), .none, (.cmp .gtr), [(.t 10), (.c (.int .i64 (.ofNat 64)))]⟩]) (.cond (.t 11) (.seq (.reg .false [] [⟨(.some 12), .none, (.mk [(.int .u8 (.ofNat 0)), (.int .u8 (.ofNat 0)), (.int .u8 (.ofNat 0)), (.int .u8 (.ofNat 0)), (.int .u8 (.ofNat 0)), (.int .u8 (.ofNat 0)), (.int .u8 (.ofNat 0)), (.int .u8 (.ofNat 0)), (.int .u8 (.ofNat 0)), (.int .u8 (.ofNat 0)), (.int .u8 (.ofNat 0)), (.int .u8 (.ofNat 0)), (.int .u8 (.ofNat 0)), (.int .u8 (.ofNat 0)), (.int .u8 (.ofNat 0)), (.int .u8 (.ofNat 0)), (.int .u8 (.ofNat 0)), (.int .u8 (.ofNat 0)), (.int .u8 (.ofNat 0)), (.int .u8 (.ofNat 0)), (.int .u8 (.ofNat 0)), (.int .u8 (.ofNat 0)), (.int .u8 (.ofNat 0)), (.int .u8 (.ofNat 0)), (.int .u8 (.ofNat 0)), (.int .u8 (.ofNat 0)), (.int .u8 (.ofNat 0)), (.int .u8 (.ofNat 0)), (.int .u8 (.ofNat 0)), (.int .u8 (.ofNat 0)), (.int .u8 (.ofNat 0)), (.int .u8 (.ofNat 0))] []), []⟩, ⟨.none, .none, (.stn 32), [(.t 6), (.t 12)]⟩]) .ret) .skip)) (.seq (.reg .false [] [⟨(.some 13), .none, (.ldn 32), [(.t 3)]⟩, ⟨(.some 14), .none, .mov, [(.t 1)]⟩, ⟨(.some 15), .none, (.call 80), [(.t 13), (.t 14)]⟩, ⟨(.some 7), .none, .mov, [(.t 15)]⟩]) (.seq (.seq (.reg .false [] [⟨(.some 8), .none, .mov, [(.c (.int .i64 (.ofNat 0)))]⟩]) (.block 0 (.loop (.seq (.seq (.reg .false [] [⟨(.some 16), .none, .mov, [(.t 8)]⟩, ⟨(.some 17), .none, .mov, [(.t 2)]⟩, ⟨(.some 18), .none, .len, [(.t 17)]⟩, ⟨(.some 19), .none, (.cmp .lss), [(.t 16), (.t 18)]⟩]) (.cond (.t 19) .skip (.exit 0))) (.seq (.block 1 (.reg .true [0, 0, 0, 6, 14, 30, 62, 126, 255, 0, 0, 1536, 3584, 8191, 16383] [⟨(.some 22), .none, .mov, [(.t 7)]⟩, ⟨(.some 23), .none, .mov, [(.t 2)]⟩, ⟨(.some 24), .none, .mov, [(.t 8)]⟩, ⟨(.some 25), .none, (.ixS 1), [(.t 23), (.t 24)]⟩, ⟨(.some 26), .none, (.ld1 .slc), [(.t 25)]⟩, ⟨(.some 27), .none, .len, [(.t 26)]⟩, ⟨(.some 28), .none, (.cvt .u64), [(.t 27)]⟩, ⟨(.some 29), .none, (.call 45), [(.t 28)]⟩, ⟨(.some 30), .none, (.app 1 1), [(.t 22), (.t 29)]⟩, ⟨(.some 31), .none, .mov, [(.t 2)]⟩, ⟨(.some 32), .none, .mov, [(.t 8)]⟩, ⟨(.some 33), .none, (.ixS 1), [(.t 31), (.t 32)]⟩, ⟨(.some 34), .none, (.ld1 .slc), [(.t 33)]⟩, ⟨(.some 35), .none, (.app 1 1), [(.t 30), (.t 34)]⟩, ⟨(.some 7), .none, .mov, [(.t 35)]⟩])) (.reg .false [] [⟨(.some 20), .none, .mov, [(.t 8)]⟩, ⟨(.some 21), .none, (.bin .add .i64), [(.t 20), (.c (.int .i64 (.ofNat 1)))]⟩, ⟨(.some 8), .none, .mov, [(.t 21)]⟩])))))) (.seq (.reg .false [] [⟨(.some 36), .none, .mov, [(.t 7)]⟩, ⟨(.some 37), .none, (.call 24), [(.t 36)]⟩, ⟨.none, .none, (.stn 32), [(.t 6), (.t 37)]⟩]) .ret)))))⟩
theorem ok40 : FnOK Try.prog 40 vf40 := .of Try.func40 (by kernel_rfl) (by kernel_rfl)
def vf41 : VF := ⟨35, [(.cell 6 32)], (.seq (.reg .false [] [⟨(.some 3), .none, .box, [(.t 0)]⟩, ⟨(.some 6), .none, (.alloc [(.int .u8 (.ofNat 0)), (.int .u8 (.ofNat 0)), (.int .u8 (.ofNat 0)), (.int .u8 (.ofNat 0)), (.int .u8 (.ofNat 0)), (.int .u8 (.ofNat 0)), (.int .u8 (.ofNat 0)), (.int .u8 (.ofNat 0)), (.int .u8 (.ofNat 0)), (.int .u8 (.ofNat 0)), (.int .u8 (.ofNat 0)), (.int .u8 (.ofNat 0)), (.int .u8 (.ofNat 0)), (.int .u8 (.ofNat 0)), (.int .u8 (.ofNat 0)), (.int .u8 (.ofNat 0)), (.int .u8 (.ofNat 0)), (.int .u8 (.ofNat 0)), (.int .u8 (.ofNat 0)), (.int .u8 (.ofNat 0)), (.int .u8 (.ofNat 0)), (.int .u8 (.ofNat 0)), (.int .u8 (.ofNat 0)), (.int .u8 (.ofNat 0)), (.int .u8 (.ofNat 0)), (.int .u8 (.ofNat 0)), (.int .u8 (.ofNat 0)), (.int .u8 (.ofNat 0)), (.int .u8 (.ofNat 0)), (.int .u8 (.ofNat 0)), (.int .u8 (.ofNat 0)), (.int .u8 (.ofNat 0))]), []⟩]) (.seq (.seq (.reg .false [] [⟨(.some 10), .none, .mov, [(.t 1)]⟩, ⟨(.some 11), .none, .lenT, [(.t 10)]⟩, ⟨(.some 12), .none, (.cmp .gtr), [(.t 11), (.c (.int .i64 (.ofNat 64)))]⟩]) (.cond (.t 12) (.seq (.reg .false [] [⟨(.some 13), .none, (.mk [(.int .u8 (.ofNat 0)), (.int .u8 (.ofNat 0)), (.int .u8 (.ofNat 0)), (.int .u8 (.ofNat 0)), (.int .u8 (.ofNat 0)), (.int .u8 (.ofNat 0)), (.int .u8 (.ofNat 0)), (.int .u8 (.ofNat 0)), (.int .u8 (.ofNat 0)), (.int .u8 (.ofNat 0)), (.int .u8 (.ofNat 0)), (.int .u8 (.ofNat 0)), (.int .u8 (.ofNat 0)), (.int .u8 (.ofNat 0)), (.int .u8 (.ofNat 0)), (.int .u8 (.ofNat 0)), (.int .u8 (.ofNat 0)), (.int .u8 (.ofNat 0)), (.int .u8 (.ofNat 0)), (.int .u8 (.ofNat 0)), (.int .u8 (.ofNat 0)), (.int .u8 (.ofNat 0)), (.int .u8 (.ofNat 0)), (.int .u8 (.ofNat 0)), (.int .u8 (.ofNat 0)), (.int .u8 (.ofNat 0)), (.int .u8 (.ofNat 0)), (.int .u8 (.ofNat 0)), (.int .u8 (.ofNat 0)), (.int .u8 (.ofNat 0)), (.int .u8 (.ofNat 0)), (.int .u8 (.ofNat 0))] []), []⟩, ⟨.none, .none, (.stn 32), [(.t 6), (.t 13)]⟩]) .ret) .skip)) (.seq (.reg .false [] [⟨(.some 14), .none, (.ldn 32), [(.t 3)]⟩, ⟨(.some 15), .none, .mov, [(.t 1)]⟩, ⟨(.some 16), .none, (.call 79), [(.t 14), (.t 15)]⟩, ⟨(.some 17), .none, (.mks [.nils] 1 [⟨0, 1⟩]), [(.t 16)]⟩, ⟨(.some 7), .none, .mov, [(.t 17)]⟩]) (.seq (.seq (.reg .false [] [⟨(.some 18), .none, .mov, [(.t 2)]⟩, ⟨(.some 19), .none, .len, [(.t 18)]⟩, ⟨(.some 20), .none, .mov, [(.c (.int .i64 (.ofNat 0)))]⟩]) (.block 0 (.loop (.seq (.reg .false [] [⟨(.some 21), .none, (.cmp .lss), [(.t 20), (.t 19)]⟩]) (.seq (.cond (.t 21) .skip (.exit 0)) (.seq (.block 1 (.seq (.reg .false [] [⟨(.some 22), .none, (.ixS 1), [(.t 18), (.t 20)]⟩, ⟨(.some 23), .none, (.ld1 .slc), [(.t 22)]⟩, ⟨(.some 9), .none, .mov, [(.t 23)]⟩]) (.reg .false [] [⟨(.some 24), .none, .mov, [(.t 7)]⟩, ⟨(.some 25), .none, .mov, [(.t 9)]⟩, ⟨(.some 26), .none, .len, [(.t 25)]⟩, ⟨(.some 27), .none, (.cvt .u64), [(.t 26)]⟩, ⟨(.some 28), .none, (.call 44), [(.t 27)]⟩, ⟨(.some 29), .none, .mov, [(.t 9)]⟩, ⟨(.some 30), .none, (.mks [.nils, .nils] 2 [⟨0, 1⟩, ⟨1, 1⟩]), [(.t 28), (.t 29)]⟩, ⟨(.some 31), .none, (.app 1 24), [(.t 24), (.t 30)]⟩, ⟨(.some 7), .none, .mov, [(.t 31)]⟩]))) (.reg .false [] [⟨(.some 32), .none, (.bin .add .i64), [(.t 20), (.c (.int .i64 (.ofNat 1)))]⟩, ⟨(.some 20), .none, .mov, [(.t 32)]⟩]))))))) (.seq (.reg .false [] [⟨(.some 33), .none, .mov, [(.t 7)]⟩, ⟨(.some 34), .none, (.call 26), [(.t 33)]⟩, ⟨.none, .none, (.stn 32), [(.t 6), (.t 34)]⟩]) .ret)))))⟩
theorem ok41 : FnOK Try.prog 41 vf41 := .of Try.func41 (by kernel_rfl) (by kernel_rfl)
def vf42 : VF := ⟨13, [(.cell 6 32)], (.seq (.reg .false [] [⟨(.some 3), .none, .box, [(.t 0)]⟩, ⟨(.some 6), .none, (.alloc [(.int .u8 (.ofNat 0)), (.int .u8 (.ofNat 0)), (.int .u8 (.ofNat 0)), (.int .u8 (.ofNat 0)), (.int .u8 (.ofNat 0)), (.int .u8 (.ofNat 0)), (.int .u8 (.ofNat 0)), (.int .u8 (.ofNat 0)), (.int .u8 (.ofNat 0)), (.int .u8 (.ofNat 0)), (.int .u8 (.ofNat 0)), (.int .u8 (.ofNat 0)), (.int .u8 (.ofNat 0)), (.int .u8 (.ofNat 0)), (.int .u8 (.ofNat 0)), (.int .u8 (.ofNat 0)), (.int .u8 (.ofNat 0)), (.int .u8 (.ofNat 0)), (.int .u8 (.ofNat 0)), (.int .u8 (.ofNat 0)), (.int .u8 (.ofNat 0)), (.int .u8 (.ofNat 0)), (.int .u8 (.ofNat 0)), (.int .u8 (.ofNat 0)), (.int .u8 (.ofNat 0)), (.int .u8 (.ofNat 0)), (.int .u8 (.ofNat 0)), (.int .u8 (.ofNat 0)), (.int .u8 (.ofNat 0)), (.int .u8 (.ofNat 0)), (.int .u8 (.ofNat 0)), (.int .u8 (.ofNat 0))]), []⟩]) (.seq (.reg .true [0, 0, 0, 4, 12, 31, 63] [⟨(.some 7), .none, (.ldn 32), [(.t 3)]⟩, ⟨(.some 8), .none, .mov, [(.t 1)]⟩, ⟨(.some 9), .none, .mov, [(.t 2)]⟩, ⟨(.some 10), .none, (.call 44), [(.t 9)]⟩, ⟨(.some 11), .none, (.mks [.nils] 1 [⟨0, 1⟩]), [(.t 10)]⟩, ⟨(.some 12), .none, (.call 41), [(.t 7), (.t 8), (.t 11)]⟩, ⟨.none, .none, (.stn 32), [(.t 6), (.t 12)]⟩]) .ret))⟩
theorem ok42 : FnOK Try.prog 42 vf42 := .of Try.func42 (by kernel_rfl) (by kernel_rfl)
def vf43 : VF := ⟨13, [(.cell 6 32)], (.seq (.reg .false [] [⟨(.some 3), .none, .box, [(.t 0)]⟩, ⟨(.some 6), .none, (.alloc [(.int .u8 (.ofNat 0)), (.int .u8 (.ofNat 0)), (.int .u8 (.ofNat 0)), (.int .u8 (.ofNat 0)), (.int .u8 (.ofNat 0)), (.int .u8 (.ofNat 0)), (.int .u8 (.ofNat 0)), (.int .u8 (.ofNat 0)), (.int .u8 (.ofNat 0)), (.int .u8 (.ofNat 0)), (.int .u8 (.ofNat 0)), (.int .u8 (.ofNat 0)), (.int .u8 (.ofNat 0)), (.int .u8 (.ofNat 0)), (.int .u8 (.ofNat 0)), (.int .u8 (.ofNat 0)), (.int .u8 (.ofNat 0)), (.int .u8 (.ofNat 0)), (.int .u8 (.ofNat 0)), (.int .u8 (.ofNat 0)), (.int .u8 (.ofNat 0)), (.int .u8 (.ofNat 0)), (.int .u8 (.ofNat 0)), (.int .u8 (.ofNat 0)), (.int .u8 (.ofNat 0)), (.int .u8 (.ofNat 0)), (.int .u8 (.ofNat 0)), (.int .u8 (.ofNat 0)), (.int .u8 (.ofNat 0)), (.int .u8 (.ofNat 0)), (.int .u8 (.ofNat 0)), (.int .u8 (.ofNat 0))]), []⟩]) (.seq (.reg .true [0, 0, 0, 4, 12, 31, 63] [⟨(.some 7), .none, (.ldn 32), [(.t 3)]⟩, ⟨(.some 8), .none, .mov, [(.t 1)]⟩, ⟨(.some 9), .none, .mov, [(.t 2)]⟩, ⟨(.some 10), .none, (.call 45), [(.t 9)]⟩, ⟨(.some 11), .none, (.mks [.nils] 1 [⟨0, 1⟩]), [(.t 10)]⟩, ⟨(.some 12), .none, (.call 40), [(.t 7), (.t 8), (.t 11)]⟩, ⟨.none, .none, (.stn 32), [(.t 6), (.t 12)]⟩]) .ret))⟩
theorem ok43 : FnOK Try.prog 43 vf43 := .of Try.func43 (by kernel_rfl) (by kernel_rfl)
def vf44 : VF := ⟨21, [(.tmp 2)], (.seq (.reg .false [] [⟨(.some 2), .none, .mov, [(.c .nils)]⟩]) (.seq (.reg .false [] [⟨(.some 5), .none, (.mksl [(.int .u8 (.ofNat 0))] 1), [(.c (.int .i64 (.ofNat 8))), (.c (.int .i64 (.ofNat 8)))]⟩, ⟨(.some 3), .none, .mov, [(.t 5)]⟩]) (.seq (.seq (.reg .false [] [⟨(.some 6), .none, .mov, [(.t 3)]⟩, ⟨(.some 7), .none, .len, [(.t 6)]⟩, ⟨(.some 8), .none, .mov, [(.c (.int .i64 (.ofNat 0)))]⟩]) (.block 0 (.loop (.seq (.reg .false [] [⟨(.some 9), .none, (.cmp .lss), [(.t 8), (.t 7)]⟩]) (.seq (.cond (.t 9) .skip (.exit 0)) (.seq (.block 1 (.seq (.reg .false [] [⟨(.some 10), .none, .mov, [(.t 8)]⟩, ⟨(.some 4), .none, .mov, [(.t 10)]⟩]) (.reg .false [] [⟨(.some 11), .none, .mov, [(.t 3)]⟩, ⟨(.some 12), .none, .mov, [(.t 4)]⟩, ⟨(.some 13), .none, .mov, [(.t 0)]⟩, ⟨(.some 14), .none, .mov, [(.t 4)]⟩, ⟨(.some 15), .none, (.bin .mul .i64), [(.c (.int .i64 (.ofNat 8))), (.t 14)]⟩, ⟨(.some 16), .none, (.shf .shr .u64), [(.t 13), (.t 15)]⟩, ⟨(.some 17), .none, (.cvt .u8), [(.t 16)]⟩, ⟨(.some 18), .none, (.ixS 1), [(.t 11), (.t 12)]⟩, ⟨.none, .none, .st1, [(.t 18), (.t 17)]⟩]))) (.reg .false [] [⟨(.some 19), .none, (.bin .add .i64), [(.t 8), (.c (.int .i64 (.ofNat 1)))]⟩, ⟨(.some 8), .none, .mov, [(.t 19)]⟩]))))))) (.seq (.reg .false [] [⟨(.some 20), .none, .mov, [(.t 3)]⟩, ⟨(.some 2), .none, .mov, [(.t 20)]⟩]) .ret))))⟩
theorem ok44 : FnOK Try.prog 44 vf44 := .of Try.func44 (by kernel_rfl) (by kernel_rfl)
def vf45 : VF := ⟨18, [(.tmp 2)], (.seq (.reg .false [] [⟨(.some 2), .none, .mov, [(.c .nils)]⟩]) (.seq (.reg .false [] [⟨(.some 3), .none, .mov, [(.c .nils)]⟩]) (.seq (.seq (.reg .false [] [⟨(.some 4), .none, .mov, [(.c (.int .i64 (.ofNat 0)))]⟩]) (.block 0 (.loop (.seq (.seq (.reg .false [] [⟨(.some 5), .none, .mov, [(.t 4)]⟩, ⟨(.some 6), .none, (.cmp .lss), [(.t 5), (.c (.int .i64 (.ofNat 8)))]⟩]) (.cond (.t 6) .skip (.exit 0))) (.seq (.block 1 (.reg .false [] [⟨(.some 9), .none, .mov, [(.t 3)]⟩, ⟨(.some 10), .none, .mov, [(.t 0)]⟩, ⟨(.some 11), .none, .mov, [(.t 4)]⟩, ⟨(.some 12), .none, (.bin .mul .i64), [(.c (.int .i64 (.ofNat 8))), (.t 11)]⟩, ⟨(.some 13), .none, (.shf .shr .u64), [(.t 10), (.t 12)]⟩, ⟨(.some 14), .none, (.cvt .u8), [(.t 13)]⟩, ⟨(.some 15), .none, (.mks [(.int .u8 (.ofNat 0))] 1 [⟨0, 1⟩]), [(.t 14)]⟩, ⟨(.some 16), .none, (.app 1 1), [(.t 9), (.t 15)]⟩, ⟨(.some 3), .none, .mov, [(.t 16)]⟩])) (.reg .false [] [⟨(.some 7), .none, .mov, [(.t 4)]⟩, ⟨(.some 8), .none, (.bin .add .i64), [(.t 7), (.c (.int .i64 (.ofNat 1)))]⟩, ⟨(.some 4), .none, .mov, [(.t 8)]⟩])))))) (.seq (.reg .false [] [⟨(.some 17), .none, .mov, [(.t 3)]⟩, ⟨(.some 2), .none, .mov, [(.t 17)]⟩]) .ret))))⟩
theorem ok45 : FnOK Try.prog 45 vf45 := .of Try.func45 (by kernel_rfl) (by kernel_rfl)
def vf46 : VF := ⟨36, [(.tmp 4)], (.seq (.reg .false [] [⟨(.some 4), .none, .mov, [(.c (.bool .false))]⟩]) (.seq (.reg .false [] [⟨(.some 7), .none, .mov, [(.t 0)]⟩, ⟨(.some 8), .none, .len, [(.t 7)]⟩, ⟨(.some 9), .none, .mov, [(.t 1)]⟩, ⟨(.some 10), .none, .len, [(.t 9)]⟩, ⟨(.some 11), .none, (.bin .xor .i64), [(.t 8), (.t 10)]⟩, ⟨(.some 5), .none, .mov, [(.t 11)]⟩]) (.seq (.seq (.reg .false [] [⟨(.some 12), .none, .mov, [(.t 0)]⟩, ⟨(.some 13), .none, .len, [(.t 12)]⟩, ⟨(.some 14), .none, .mov, [(.t 1)]⟩, ⟨(.some 15), .none, .len, [(.t 14)]⟩, ⟨(.some 16), .none, (.mnx .false), [(.t 13), (.t 15)]⟩, ⟨(.some 17), .none, .mov, [(.c (.int .i64 (.ofNat 0)))]⟩]) (.block 0 (.loop (.seq (.reg .false [] [⟨(.some 18), .none, (.cmp .lss), [(.t 17), (.t 16)]⟩]) (.seq (.cond (.t 18) .skip (.exit 0)) (.seq (.block 1 (.seq (.reg .false [] [⟨(.some 19), .none, .mov, [(.t 17)]⟩, ⟨(.some 6), .none, .mov, [(.t 19)]⟩]) (.reg .true [0, 0, 0, 6, 14, 30, 0, 0, 192, 448, 960, 2046, 4095, 8191] [⟨(.some 20), .none, .mov, [(.t 5)]⟩, ⟨(.some 21), .none, .mov, [(.t 0)]⟩, ⟨(.some 22), .none, .mov, [(.t 6)]⟩, ⟨(.some 23), .none, (.ixS 1), [(.t 21), (.t 22)]⟩, ⟨(.some 24), .none, (.ld1 (.int .u8)), [(.t 23)]⟩, ⟨(.some 25), .none, (.cvt .i64), [(.t 24)]⟩, ⟨(.some 26), .none, .mov, [(.t 1)]⟩, ⟨(.some 27), .none, .mov, [(.t 6)]⟩, ⟨(.some 28), .none, (.ixS 1), [(.t 26), (.t 27)]⟩, ⟨(.some 29), .none, (.ld1 (.int .u8)), [(.t 28)]⟩, ⟨(.some 30), .none, (.cvt .i64), [(.t 29)]⟩, ⟨(.some 31), .none, (.bin .xor .i64), [(.t 25), (.t 30)]⟩, ⟨(.some 32), .none, (.bin .or .i64), [(.t 20), (.t 31)]⟩, ⟨(.some 5), .none, .mov, [(.t 32)]⟩]))) (.reg .false [] [⟨(.some 33), .none, (.bin .add .i64), [(.t 17), (.c (.int .i64 (.ofNat 1)))]⟩, ⟨(.some 17), .none, .mov, [(.t 33)]⟩]))))))) (.seq (.reg .false [] [⟨(.some 34), .none, .mov, [(.t 5)]⟩, ⟨(.some 35), .none, (.cmp .eql), [(.t 34), (.c (.int .i64 (.ofNat 0)))]⟩, ⟨(.some 4), .none, .mov, [(.t 35)]⟩]) .ret))))⟩
theorem ok46 : FnOK Try.prog 46 vf46 := .of Try.func46 (by kernel_rfl) (by kernel_rfl)
def vf47 : VF := ⟨6, [(.cell 2 32)], (.seq (.reg .false [] [⟨(.some 1), .none, .box, [(.t 0)]⟩, ⟨(.some 2), .none, (.alloc [(.int .u8 (.ofNat 0)), (.int .u8 (.ofNat 0)), (.int .u8 (.ofNat 0)), (.int .u8 (.ofNat 0)), (.int .u8 (.ofNat 0)), (.int .u8 (.ofNat 0)), (.int .u8 (.ofNat 0)), (.int .u8 (.ofNat 0)), (.int .u8 (.ofNat 0)), (.int .u8 (.ofNat 0)), (.int .u8 (.ofNat 0)), (.int .u8 (.ofNat 0)), (.int .u8 (.ofNat 0)), (.int .u8 (.ofNat 0)), (.int .u8 (.ofNat 0)), (.int .u8 (.ofNat 0)), (.int .u8 (.ofNat 0)), (.int .u8 (.ofNat 0)), (.int .u8 (.ofNat 0)), (.int .u8 (.ofNat 0)), (.int .u8 (.ofNat 0)), (.int .u8 (.ofNat 0)), (.int .u8 (.ofNat 0)), (.int .u8 (.ofNat 0)), (.int .u8 (.ofNat 0)), (.int .u8 (.ofNat 0)), (.int .u8 (.ofNat 0)), (.int .u8 (.ofNat 0)), (.int .u8 (.ofNat 0)), (.int .u8 (.ofNat 0)), (.int .u8 (.ofNat 0)), (.int .u8 (.ofNat 0))]), []⟩]) (.seq (.reg .false [] [⟨(.some 3), .none, (.slA 32 1 .false .false), [(.t 1)]⟩, ⟨(.some 4), .none, (.mks [.nils] 1 [⟨0, 1⟩]), [(.t 3)]⟩, ⟨(.some 5), .none, (.call 26), [(.t 4)]⟩, ⟨.none, .none, (.stn 32), [(.t 2), (.t 5)]⟩]) .ret))⟩
theorem ok47 : FnOK Try.prog 47 vf47 := .of Try.func47 (by kernel_rfl) (by kernel_rfl)
def vf79 : VF := ⟨23, [(.tmp 4)], (.seq (.reg .false [] [⟨(.some 2), .none, .box, [(.t 0)]⟩, ⟨(.some 4), .none, .mov, [(.c .nils)]⟩]) (.seq (.reg .false [] [⟨(.some 6), .none, .mov, [(.t 1)]⟩, ⟨(.some 7), .none, .lenT, [(.t 6)]⟩, ⟨(.some 8), .none, (.bin .add .i64), [(.c (.int .i64 (.ofNat 1))), (.t 7)]⟩, ⟨(.some 9), .none, (.bin .add .i64), [(.t 8), (.c (.int .i64 (.ofNat 32)))]⟩, ⟨(.some 10), .none, (.mksl [(.int .u8 (.ofNat 0))] 1), [(.c (.int .i64 (.ofNat 0))), (.t 9)]⟩, ⟨(.some 5), .none, .mov, [(.t 10)]⟩]) (.seq (.reg .false [] [⟨(.some 11), .none, .mov, [(.t 5)]⟩, ⟨(.some 12), .none, .mov, [(.t 1)]⟩, ⟨(.some 13), .none, .lenT, [(.t 12)]⟩, ⟨(.some 14), .none, (.cvt .u8), [(.t 13)]⟩, ⟨(.some 15), .none, (.mks [(.int .u8 (.ofNat 0))] 1 [⟨0, 1⟩]), [(.t 14)]⟩, ⟨(.some 16), .none, (.app 1 1), [(.t 11), (.t 15)]⟩, ⟨(.some 5), .none, .mov, [(.t 16)]⟩]) (.seq (.reg .false [] [⟨(.some 17), .none, .mov, [(.t 5)]⟩, ⟨(.some 18), .none, .mov, [(.t 1)]⟩, ⟨(.some 19), .none, (.app 1 1), [(.t 17), (.t 18)]⟩, ⟨(.some 5), .none, .mov, [(.t 19)]⟩]) (.seq (.reg .false [] [⟨(.some 20), .none, .mov, [(.t 5)]⟩, ⟨(.some 21), .none, (.slA 32 1 .false .false), [(.t 2)]⟩, ⟨(.some 22), .none, (.app 1 1), [(.t 20), (.t 21)]⟩, ⟨(.some 4), .none, .mov, [(.t 22)]⟩]) .ret)))))⟩
theorem ok79 : FnOK Try.prog 79 vf79 := .of Try.func79 (by kernel_rfl) (by kernel_rfl)
def vf80 : VF := ⟨13, [(.tmp 4)], (.seq (.reg .false [] [⟨(.some 2), .none, .box, [(.t 0)]⟩, ⟨(.some 4), .none, .mov, [(.c .nils)]⟩]) (.seq (.reg .true [0, 1, 3, 7, 0, 31, 0, 127, 255] [⟨(.some 5), .none, .mov, [(.t 1)]⟩, ⟨(.some 6), .none, .lenT, [(.t 5)]⟩, ⟨(.some 7), .none, (.cvt .u8), [(.t 6)]⟩, ⟨(.some 8), .none, (.mks [(.int .u8 (.ofNat 0))] 1 [⟨0, 1⟩]), [(.t 7)]⟩, ⟨(.some 9), .none, .mov, [(.t 1)]⟩, ⟨(.some 10), .none, (.app 1 1), [(.t 8), (.t 9)]⟩, ⟨(.some 11), .none, (.slA 32 1 .false .false), [(.t 2)]⟩, ⟨(.some 12), .none, (.app 1 1), [(.t 10), (.t 11)]⟩, ⟨(.some 4), .none, .mov, [(.t 12)]⟩]) .ret))⟩
theorem ok80 : FnOK Try.prog 80 vf80 := .of Try.func80 (by kernel_rfl) (by kernel_rfl)

def tabU4 (f : Nat) : Option VF :=
  match f with
  | 10 => some vf10
  | 11 => some vf11
  | 12 => some vf12
  | 13 => some vf13
  | 14 => some vf14
  | 15 => some vf15
  | 37 => some vf37
  | 38 => some vf38
  | 39 => some vf39
  | 40 => some vf40
  | 41 => some vf41
  | 42 => some vf42
  | 43 => some vf43
  | 44 => some vf44
  | 45 => some vf45
  | 46 => some vf46
  | 47 => some vf47
  | 79 => some vf79
  | 80 => some vf80
  | _ => none

theorem tabU4_ok : ∀ f vf, tabU4 f = some vf → FnOK Try.prog f vf := by
  intro f vf h
  unfold tabU4 at h
  split at h <;> cases h
  · exact ok10
  · exact ok11
  · exact ok12
  · exact ok13
  · exact ok14
  · exact ok15
  · exact ok37
  · exact ok38
  · exact ok39
  · exact ok40
  · exact ok41
  · exact ok42
  · exact ok43
  · exact ok44
  · exact ok45
  · exact ok46
  · exact ok47
  · exact ok79
  · exact ok80

end
end Go.Proofs.Vm
