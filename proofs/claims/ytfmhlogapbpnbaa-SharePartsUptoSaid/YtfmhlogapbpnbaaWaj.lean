/-
  KECCAK, PART 11: a round of a state.
-/
import Derived.Test.YtfmhlogapbpnbaaWai
import Derived.Test.YtfmhlogapbpnbaaWad
import Derived.Below
import Derived.Test.YtfmhlogapbpnbaaWah
import Derived.Test.YtfmhlogapbpnbaaWac
import Derived.Test.YtfmhlogapbpnbaaProg
import Derived.KernelRfl

namespace Go.Proofs.Vm
open Go.Vm
noncomputable section

/-- What 'keccak.Round' calls. -/
def roundK (F : List Int → Int → List Int) : Con := fun f vals H => match f, vals with
  | 74, [] => some (.tup [.agg byL, .agg toL], H, [])
  | 32, [.int .i64 (.ofNat n)] => match Nat.blt n 24 with
    | true => some (.int .u64 (rcs.getD n 0), H, [])
    | false => none
  | 75, [.ptr b 0, .ptr c 0, .ptr d 0, .int .u64 k] => match Nat.beq b c, Nat.beq b d, Nat.beq c d with
    | false, false, false => match nth H b, nth H c, nth H d with
      | some (.cells cs), some (.cells xs), some (.cells ys) => match toInts .u64 cs, toInts .i64 xs, toInts .i64 ys with
        | some ws, some l, some m => match Nat.beq (size ws) 25, l == byI, m == toI with
          | true, true, true => some (.tup [], put H b (.cells ((ex25 (F ws k)).map w)), [b])
          | _, _, _ => none
        | _, _, _ => none
      | _, _, _ => none
    | _, _, _ => none
  | _, _ => none

theorem roundK_ok : ConOK Try.prog (roundK rnd) := by
  intro f vals H r H' lg h
  unfold roundK at h
  split at h
  · cases h
    exact tabC_ok 74 [] H _ H [] rfl
  · rename_i n
    split at h <;> cases h
    rename_i hn
    have hn := (blt_iff _ _).1 hn
    exact CallTo.pure (H := H) 0 (vals := [.int .i64 (.ofNat n)]) (call_cut (noCon_ok _) (tabOne_ok ok32) (tabOne_self 32 vf32) 0 [] (c32_run n hn) (by simp) (fun b hb => by cases hb))
  · rename_i b c d k
    split at h <;> first | cases h | skip
    rename_i n1 n2 n3
    split at h <;> first | cases h | skip
    rename_i cs xs ys hb hx hy
    split at h <;> first | cases h | skip
    rename_i ws l m g1 g2 g3
    split at h <;> cases h
    rename_i hl e1 e2
    have hl := Nat.eq_of_beq_eq_true hl
    rw [size_eq] at hl
    rw [nth_eq] at hb hx hy
    have e1 : l = byI := by simpa using e1
    have e2 : m = toI := by simpa using e2
    have g1 := toInts_ok g1
    have g2 := toInts_ok g2
    have g3 := toInts_ok g3
    subst g1 g2 g3 e1 e2
    obtain ⟨s0, s1, s2, s3, s4, s5, s6, s7, s8, s9, s10, s11, s12, s13, s14, s15, s16, s17, s18, s19, s20, s21, s22, s23, s24, rfl⟩ := list25 hl
    have hrun := mix_sep (fun op => bin0 op .u64) (fun op => shf0 op .u64) rotl s0 s1 s2 s3 s4 s5 s6 s7 s8 s9 s10 s11 s12 s13 s14 s15 s16 s17 s18 s19 s20 s21 s22 s23 s24 k
    rw [opsW_eq] at hrun
    have hc := call_cut rotC_ok tabM_ok (f := 75) rfl 3 [0] hrun (by simp) (fun i hi hn => by
      match i, hi, hn with
      | 0, _, hn => exact absurd (List.mem_singleton.2 rfl) hn
      | 1, _, _ => rfl
      | 2, _, _ => rfl)
    have ne : ∀ {x y : Nat}, Nat.beq x y = false → x ≠ y := fun h e => by subst e; simp [Nat.beq_refl] at h
    have h2 := CallTo.three (vals := [.ptr b 0, .ptr c 0, .ptr d 0, .int .u64 k]) hc hb hx hy (ne n1) (ne n2) (ne n3) (flatL_ints .u64 [s0, s1, s2, s3, s4, s5, s6, s7, s8, s9, s10, s11, s12, s13, s14, s15, s16, s17, s18, s19, s20, s21, s22, s23, s24]) (flatL_ints .u64 _) (flatL_ints .i64 byI) (flatL_ints .i64 toI) (fun φ => by
      simp [renL, ren, pickN, placeIn, Nat.beq_refl, n1, n2, n3])
    rw [show ex25 (rnd [s0, s1, s2, s3, s4, s5, s6, s7, s8, s9, s10, s11, s12, s13, s14, s15, s16, s17, s18, s19, s20, s21, s22, s23, s24] k) = rnd [s0, s1, s2, s3, s4, s5, s6, s7, s8, s9, s10, s11, s12, s13, s14, s15, s16, s17, s18, s19, s20, s21, s22, s23, s24] k from ex25_eq (rnd_length ..)]
    exact h2
  · cases h

theorem round34_run (F : List Int → Int → List Int) (s0 s1 s2 s3 s4 s5 s6 s7 s8 s9 s10 s11 s12 s13 s14 s15 s16 s17 s18 s19 s20 s21 s22 s23 s24 : Int) : ∀ n, n < 24 →
    vcall (optA (roundK F)) ops0 (tabOne 34 vf34) 100 vf34 [.agg (([s0, s1, s2, s3, s4, s5, s6, s7, s8, s9, s10, s11, s12, s13, s14, s15, s16, s17, s18, s19, s20, s21, s22, s23, s24] : List Int).map w), .int .i64 (.ofNat n)] [] (cutK 0) = some (.agg ((ex25 (F [s0, s1, s2, s3, s4, s5, s6, s7, s8, s9, s10, s11, s12, s13, s14, s15, s16, s17, s18, s19, s20, s21, s22, s23, s24] (rcs.getD n 0))).map w), [], [])
  | 0, _ => by kernel_rfl
  | 1, _ => by kernel_rfl
  | 2, _ => by kernel_rfl
  | 3, _ => by kernel_rfl
  | 4, _ => by kernel_rfl
  | 5, _ => by kernel_rfl
  | 6, _ => by kernel_rfl
  | 7, _ => by kernel_rfl
  | 8, _ => by kernel_rfl
  | 9, _ => by kernel_rfl
  | 10, _ => by kernel_rfl
  | 11, _ => by kernel_rfl
  | 12, _ => by kernel_rfl
  | 13, _ => by kernel_rfl
  | 14, _ => by kernel_rfl
  | 15, _ => by kernel_rfl
  | 16, _ => by kernel_rfl
  | 17, _ => by kernel_rfl
  | 18, _ => by kernel_rfl
  | 19, _ => by kernel_rfl
  | 20, _ => by kernel_rfl
  | 21, _ => by kernel_rfl
  | 22, _ => by kernel_rfl
  | 23, _ => by kernel_rfl
  | i + 24, h => absurd h (by omega)

/-- 'keccak.Round', of a round that there is. -/
theorem round34 {s : List Int} (hs : s.length = 25) {n : Nat} (hn : n < 24) (H : Hl) : CallTo Try.prog 34 [.agg (s.map w), .int .i64 (.ofNat n)] H (.agg ((rndN s n).map w)) H [] := by
  obtain ⟨s0, s1, s2, s3, s4, s5, s6, s7, s8, s9, s10, s11, s12, s13, s14, s15, s16, s17, s18, s19, s20, s21, s22, s23, s24, rfl⟩ := list25 hs
  have h := call_cut roundK_ok (tabOne_ok ok34) (tabOne_self 34 vf34) 0 [] (round34_run rnd s0 s1 s2 s3 s4 s5 s6 s7 s8 s9 s10 s11 s12 s13 s14 s15 s16 s17 s18 s19 s20 s21 s22 s23 s24 n hn) (by simp) (fun b hb => by cases hb)
  rw [show ex25 (rnd [s0, s1, s2, s3, s4, s5, s6, s7, s8, s9, s10, s11, s12, s13, s14, s15, s16, s17, s18, s19, s20, s21, s22, s23, s24] (rcs.getD n 0)) = rndN [s0, s1, s2, s3, s4, s5, s6, s7, s8, s9, s10, s11, s12, s13, s14, s15, s16, s17, s18, s19, s20, s21, s22, s23, s24] n from ex25_eq (rnd_length ..)] at h
  have h2 := CallTo.pure (H := H) 0 (vals := [.agg (([s0, s1, s2, s3, s4, s5, s6, s7, s8, s9, s10, s11, s12, s13, s14, s15, s16, s17, s18, s19, s20, s21, s22, s23, s24] : List Int).map w), .int .i64 (.ofNat n)]) h
  have e : backV [] H.length (.agg ((rndN [s0, s1, s2, s3, s4, s5, s6, s7, s8, s9, s10, s11, s12, s13, s14, s15, s16, s17, s18, s19, s20, s21, s22, s23, s24] n).map w)) = .agg ((rndN [s0, s1, s2, s3, s4, s5, s6, s7, s8, s9, s10, s11, s12, s13, s14, s15, s16, s17, s18, s19, s20, s21, s22, s23, s24] n).map w) := by
    simp only [backV, ren]
    exact congrArg AV.agg (renL_flat (flatL_ints .u64 _))
  rw [e] at h2
  exact h2

end
end Go.Proofs.Vm

namespace Go.Proofs.Vm
open Go.Vm
noncomputable section

theorem round35_run (F : List Int → Nat → List Int) (s0 s1 s2 s3 s4 s5 s6 s7 s8 s9 s10 s11 s12 s13 s14 s15 s16 s17 s18 s19 s20 s21 s22 s23 s24 : Int) : ∀ n, n < 24 →
    vcall (optA (roundC F)) ops0 (tabOne 35 vf35) 100 vf35 [.agg (([s0, s1, s2, s3, s4, s5, s6, s7, s8, s9, s10, s11, s12, s13, s14, s15, s16, s17, s18, s19, s20, s21, s22, s23, s24] : List Int).map w), .int .i64 (.ofNat n)] [] (cutK 0) = some (.agg ((ex25 (F [s0, s1, s2, s3, s4, s5, s6, s7, s8, s9, s10, s11, s12, s13, s14, s15, s16, s17, s18, s19, s20, s21, s22, s23, s24] n)).map w), [], [])
  | 0, _ => by kernel_rfl
  | 1, _ => by kernel_rfl
  | 2, _ => by kernel_rfl
  | 3, _ => by kernel_rfl
  | 4, _ => by kernel_rfl
  | 5, _ => by kernel_rfl
  | 6, _ => by kernel_rfl
  | 7, _ => by kernel_rfl
  | 8, _ => by kernel_rfl
  | 9, _ => by kernel_rfl
  | 10, _ => by kernel_rfl
  | 11, _ => by kernel_rfl
  | 12, _ => by kernel_rfl
  | 13, _ => by kernel_rfl
  | 14, _ => by kernel_rfl
  | 15, _ => by kernel_rfl
  | 16, _ => by kernel_rfl
  | 17, _ => by kernel_rfl
  | 18, _ => by kernel_rfl
  | 19, _ => by kernel_rfl
  | 20, _ => by kernel_rfl
  | 21, _ => by kernel_rfl
  | 22, _ => by kernel_rfl
  | 23, _ => by kernel_rfl
  | i + 24, h => absurd h (by omega)

/-- 'tollhouseref03.Round', of a round that there is. -/
theorem round35 {s : List Int} (hs : s.length = 25) {n : Nat} (hn : n < 24) (H : Hl) : CallTo Try.prog 35 [.agg (s.map w), .int .i64 (.ofNat n)] H (.agg ((rndN s n).map w)) H [] := by
  obtain ⟨s0, s1, s2, s3, s4, s5, s6, s7, s8, s9, s10, s11, s12, s13, s14, s15, s16, s17, s18, s19, s20, s21, s22, s23, s24, rfl⟩ := list25 hs
  have h := call_cut roundC_ok (tabOne_ok ok35) (tabOne_self 35 vf35) 0 [] (round35_run rndN s0 s1 s2 s3 s4 s5 s6 s7 s8 s9 s10 s11 s12 s13 s14 s15 s16 s17 s18 s19 s20 s21 s22 s23 s24 n hn) (by simp) (fun b hb => by cases hb)
  rw [show ex25 (rndN [s0, s1, s2, s3, s4, s5, s6, s7, s8, s9, s10, s11, s12, s13, s14, s15, s16, s17, s18, s19, s20, s21, s22, s23, s24] n) = rndN [s0, s1, s2, s3, s4, s5, s6, s7, s8, s9, s10, s11, s12, s13, s14, s15, s16, s17, s18, s19, s20, s21, s22, s23, s24] n from ex25_eq (rnd_length ..)] at h
  have h2 := CallTo.pure (H := H) 0 (vals := [.agg (([s0, s1, s2, s3, s4, s5, s6, s7, s8, s9, s10, s11, s12, s13, s14, s15, s16, s17, s18, s19, s20, s21, s22, s23, s24] : List Int).map w), .int .i64 (.ofNat n)]) h
  have e : backV [] H.length (.agg ((rndN [s0, s1, s2, s3, s4, s5, s6, s7, s8, s9, s10, s11, s12, s13, s14, s15, s16, s17, s18, s19, s20, s21, s22, s23, s24] n).map w)) = .agg ((rndN [s0, s1, s2, s3, s4, s5, s6, s7, s8, s9, s10, s11, s12, s13, s14, s15, s16, s17, s18, s19, s20, s21, s22, s23, s24] n).map w) := by
    simp only [backV, ren]
    exact congrArg AV.agg (renL_flat (flatL_ints .u64 _))
  rw [e] at h2
  exact h2

end
end Go.Proofs.Vm

namespace Go.Vm
open Go.RowKit

def noRho : Rho := fun _ => .unborn

/-- A contract on an empty memory: nothing that was there turns. -/
theorem CallTo.enter {P : Program} {f : Nat} {vals : List AV} {r : AV} {H' : Hl} {lg : List Nat} (hc : CallTo P f vals [] r H' lg) {w : World} {us : List Value} (hv : VRels noRho w vals us) :
    Calls P f us.toArray w fun e w' => ∃ v ρ', e = .returned v ∧ VRel ρ' w' r v ∧ Below w.heap.size w w' := by
  have hg : HRel noRho w (fun b => ([] : Hl)[b]?) := ⟨fun _ _ => rfl, fun b h => (by simp at h), fun b b' B F F' h => (by cases h), fun b cs h => (by simp at h), fun b B F c e lo hi h => (by cases h)⟩
  refine (hc.does noRho w us hg hv).mono ?_
  rintro e w' ⟨v, ρ', rfl, _, h2, h3⟩
  exact ⟨v, ρ', rfl, h2, h3.os, h3.tape, h3.output, h3.size, fun k hk => h3.keep k hk (fun b F h => by cases h)⟩

end Go.Vm

namespace Go.Proofs.Vm
open Go.Vm
noncomputable section

/-- '==' by what is handed in. -/
def opsQ (γ : Int → Int → Bool) : Ops := { ops0 with
  cmp := fun op x y => match op with
    | .eql => γ x y
    | op => cmp0 op x y }
theorem opsQ_eq : opsQ (cmp0 .eql) = ops0 := by
  have h1 : (opsQ (cmp0 .eql)).cmp = ops0.cmp := by
    funext op x y
    cases op <;> rfl
  show { ops0 with cmp := (opsQ (cmp0 .eql)).cmp } = ops0
  rw [h1]

/-- The places on the way, and the sums. -/
def plA : List Int := [1, 0, 2, 1, 2, 3, 3, 0, 1, 3, 1, 4, 4, 0, 3, 4, 3, 2, 2, 0, 4, 2, 4, 1, 1]
def plB : List Int := [0, 2, 1, 2, 3, 3, 0, 1, 3, 1, 4, 4, 0, 3, 4, 3, 2, 2, 0, 4, 2, 4, 1, 1, 0]
def plS : List Int := [1, 3, 6, 10, 15, 21, 28, 36, 45, 55, 66, 78, 91, 105, 120, 136, 153, 171, 190, 210, 231, 253, 276, 300, 325]
def plD : List Int := [1, 3, 6, 10, 15, 21, 28, 36, 45, 55, 2, 14, 27, 41, 56, 8, 25, 43, 62, 18, 39, 61, 20, 44, 5]

def lp30 : VC := (.seq (.seq (.reg .false [] [⟨(.some 9), .none, .mov, [(.t 7)]⟩, ⟨(.some 10), .none, (.cmp .leq), [(.t 9), (.c (.int .i64 (.ofNat 24)))]⟩]) (.cond (.t 10) .skip (.exit 0))) (.seq (.block 1 (.seq (.seq (.reg .false [] [⟨(.some 17), .none, .mov, [(.t 5)]⟩, ⟨(.some 18), .none, .mov, [(.t 0)]⟩, ⟨(.some 19), .none, (.cmp .eql), [(.t 17), (.t 18)]⟩, ⟨(.some 20), .none, .mov, [(.t 19)]⟩, ⟨(.some 21), (.some ⟨20, .true⟩), .mov, [(.t 6)]⟩, ⟨(.some 22), (.some ⟨20, .true⟩), .mov, [(.t 1)]⟩, ⟨(.some 23), (.some ⟨20, .true⟩), (.cmp .eql), [(.t 21), (.t 22)]⟩, ⟨(.some 24), .none, .pick, [(.t 20), (.t 23), (.c (.bool .false))]⟩]) (.cond (.t 24) (.seq (.reg .false [] [⟨(.some 25), .none, .mov, [(.t 8)]⟩, ⟨(.some 26), .none, (.div .rem .i64), [(.t 25), (.c (.int .i64 (.ofNat 64)))]⟩, ⟨(.some 4), .none, .mov, [(.t 26)]⟩]) .ret) .skip)) (.reg .false [] [⟨(.some 28), .none, .mov, [(.t 5)]⟩, ⟨(.some 29), .none, .mov, [(.t 6)]⟩, ⟨(.some 30), .none, (.call 72), [(.t 28), (.t 29)]⟩, ⟨(.some 27), .none, .mov, [(.t 30)]⟩, ⟨(.some 31), .none, (.ext 0), [(.t 27)]⟩, ⟨(.some 32), .none, (.ext 1), [(.t 27)]⟩, ⟨(.some 5), .none, .mov, [(.t 31)]⟩, ⟨(.some 6), .none, .mov, [(.t 32)]⟩]))) (.reg .false [] [⟨(.some 11), .none, .mov, [(.t 7)]⟩, ⟨(.some 12), .none, (.bin .add .i64), [(.t 11), (.c (.int .i64 (.ofNat 1)))]⟩, ⟨(.some 13), .none, .mov, [(.t 8)]⟩, ⟨(.some 14), .none, .mov, [(.t 7)]⟩, ⟨(.some 15), .none, (.bin .add .i64), [(.t 13), (.t 14)]⟩, ⟨(.some 16), .none, (.bin .add .i64), [(.t 15), (.c (.int .i64 (.ofNat 1)))]⟩, ⟨(.some 7), .none, .mov, [(.t 12)]⟩, ⟨(.some 8), .none, .mov, [(.t 16)]⟩])))
def mask30 : List Bool := [false, false, true, true, false, false, false, false, false, true, true, true, true, true, true, true, true, true, true, true, true, true, true, true, true, true, true, true, true, true, true, true, true]
def fr30 (x y : Int) (i : Nat) (v : Int) : Fr := [.int .i64 x, .int .i64 y, .top, .top, .int .i64 v, .int .i64 (plA.getD i 0), .int .i64 (plB.getD i 0), .int .i64 (.ofNat (i + 1)), .int .i64 (plS.getD i 0), .top, .top, .top, .top, .top, .top, .top, .top, .top, .top, .top, .top, .top, .top, .top, .top, .top, .top, .top, .top, .top, .top, .top, .top]
theorem body30 (γ : Int → Int → Bool) (x y : Int) : ∀ i, i < 24 →
    vm (optC noCon) (opsQ γ) (tabOne 72 vf72) 100 0 lp30 (fr30 x y i 0) [] [] (bodyF mask30) =
      match γ (plA.getD i 0) x with
      | true => match γ (plB.getD i 0) y with
        | true => some (.ret, fr30 x y i (plD.getD i 0), [], [])
        | false => some (.norm, fr30 x y (i + 1) 0, [], [])
      | false => some (.norm, fr30 x y (i + 1) 0, [], [])
  | 0, _ => by kernel_rfl
  | 1, _ => by kernel_rfl
  | 2, _ => by kernel_rfl
  | 3, _ => by kernel_rfl
  | 4, _ => by kernel_rfl
  | 5, _ => by kernel_rfl
  | 6, _ => by kernel_rfl
  | 7, _ => by kernel_rfl
  | 8, _ => by kernel_rfl
  | 9, _ => by kernel_rfl
  | 10, _ => by kernel_rfl
  | 11, _ => by kernel_rfl
  | 12, _ => by kernel_rfl
  | 13, _ => by kernel_rfl
  | 14, _ => by kernel_rfl
  | 15, _ => by kernel_rfl
  | 16, _ => by kernel_rfl
  | 17, _ => by kernel_rfl
  | 18, _ => by kernel_rfl
  | 19, _ => by kernel_rfl
  | 20, _ => by kernel_rfl
  | 21, _ => by kernel_rfl
  | 22, _ => by kernel_rfl
  | 23, _ => by kernel_rfl
  | i + 24, h => absurd h (by omega)
theorem end30 (x y : Int) : vm (optC noCon) ops0 (tabOne 72 vf72) 100 0 lp30 (fr30 x y 24 0) [] [] (bodyF mask30) = some (.exit 0, fr30 x y 24 0, [], []) := by kernel_rfl

def lp31 : VC := (.seq (.seq (.reg .false [] [⟨(.some 8), .none, .mov, [(.t 7)]⟩, ⟨(.some 9), .none, (.cmp .lss), [(.t 8), (.c (.int .i64 (.ofNat 24)))]⟩]) (.cond (.t 9) .skip (.exit 0))) (.seq (.block 1 (.seq (.seq (.reg .false [] [⟨(.some 12), .none, .mov, [(.t 5)]⟩, ⟨(.some 13), .none, .mov, [(.t 0)]⟩, ⟨(.some 14), .none, (.cmp .eql), [(.t 12), (.t 13)]⟩, ⟨(.some 15), .none, .mov, [(.t 14)]⟩, ⟨(.some 16), (.some ⟨15, .true⟩), .mov, [(.t 6)]⟩, ⟨(.some 17), (.some ⟨15, .true⟩), .mov, [(.t 1)]⟩, ⟨(.some 18), (.some ⟨15, .true⟩), (.cmp .eql), [(.t 16), (.t 17)]⟩, ⟨(.some 19), .none, .pick, [(.t 15), (.t 18), (.c (.bool .false))]⟩]) (.cond (.t 19) (.seq (.reg .false [] [⟨(.some 20), .none, .mov, [(.t 7)]⟩, ⟨(.some 21), .none, (.bin .add .i64), [(.t 20), (.c (.int .i64 (.ofNat 1)))]⟩, ⟨(.some 22), .none, .mov, [(.t 7)]⟩, ⟨(.some 23), .none, (.bin .add .i64), [(.t 22), (.c (.int .i64 (.ofNat 2)))]⟩, ⟨(.some 24), .none, (.bin .mul .i64), [(.t 21), (.t 23)]⟩, ⟨(.some 25), .none, (.div .quo .i64), [(.t 24), (.c (.int .i64 (.ofNat 2)))]⟩, ⟨(.some 26), .none, (.div .rem .i64), [(.t 25), (.c (.int .i64 (.ofNat 64)))]⟩, ⟨(.some 4), .none, .mov, [(.t 26)]⟩]) .ret) .skip)) (.reg .false [] [⟨(.some 27), .none, .mov, [(.t 6)]⟩, ⟨(.some 28), .none, .mov, [(.t 5)]⟩, ⟨(.some 29), .none, (.bin .mul .i64), [(.c (.int .i64 (.ofNat 2))), (.t 28)]⟩, ⟨(.some 30), .none, .mov, [(.t 6)]⟩, ⟨(.some 31), .none, (.bin .mul .i64), [(.c (.int .i64 (.ofNat 3))), (.t 30)]⟩, ⟨(.some 32), .none, (.bin .add .i64), [(.t 29), (.t 31)]⟩, ⟨(.some 33), .none, (.div .rem .i64), [(.t 32), (.c (.int .i64 (.ofNat 5)))]⟩, ⟨(.some 5), .none, .mov, [(.t 27)]⟩, ⟨(.some 6), .none, .mov, [(.t 33)]⟩]))) (.reg .false [] [⟨(.some 10), .none, .mov, [(.t 7)]⟩, ⟨(.some 11), .none, (.bin .add .i64), [(.t 10), (.c (.int .i64 (.ofNat 1)))]⟩, ⟨(.some 7), .none, .mov, [(.t 11)]⟩])))
def mask31 : List Bool := [false, false, true, true, false, false, false, false, true, true, true, true, true, true, true, true, true, true, true, true, true, true, true, true, true, true, true, true, true, true, true, true, true, true]
def fr31 (x y : Int) (i : Nat) (v : Int) : Fr := [.int .i64 x, .int .i64 y, .top, .top, .int .i64 v, .int .i64 (plA.getD i 0), .int .i64 (plB.getD i 0), .int .i64 (.ofNat i), .top, .top, .top, .top, .top, .top, .top, .top, .top, .top, .top, .top, .top, .top, .top, .top, .top, .top, .top, .top, .top, .top, .top, .top, .top, .top]
theorem body31 (γ : Int → Int → Bool) (x y : Int) : ∀ i, i < 24 →
    vm (optC noCon) (opsQ γ) noTab 100 0 lp31 (fr31 x y i 0) [] [] (bodyF mask31) =
      match γ (plA.getD i 0) x with
      | true => match γ (plB.getD i 0) y with
        | true => some (.ret, fr31 x y i (plD.getD i 0), [], [])
        | false => some (.norm, fr31 x y (i + 1) 0, [], [])
      | false => some (.norm, fr31 x y (i + 1) 0, [], [])
  | 0, _ => by kernel_rfl
  | 1, _ => by kernel_rfl
  | 2, _ => by kernel_rfl
  | 3, _ => by kernel_rfl
  | 4, _ => by kernel_rfl
  | 5, _ => by kernel_rfl
  | 6, _ => by kernel_rfl
  | 7, _ => by kernel_rfl
  | 8, _ => by kernel_rfl
  | 9, _ => by kernel_rfl
  | 10, _ => by kernel_rfl
  | 11, _ => by kernel_rfl
  | 12, _ => by kernel_rfl
  | 13, _ => by kernel_rfl
  | 14, _ => by kernel_rfl
  | 15, _ => by kernel_rfl
  | 16, _ => by kernel_rfl
  | 17, _ => by kernel_rfl
  | 18, _ => by kernel_rfl
  | 19, _ => by kernel_rfl
  | 20, _ => by kernel_rfl
  | 21, _ => by kernel_rfl
  | 22, _ => by kernel_rfl
  | 23, _ => by kernel_rfl
  | i + 24, h => absurd h (by omega)
theorem end31 (x y : Int) : vm (optC noCon) ops0 noTab 100 0 lp31 (fr31 x y 24 0) [] [] (bodyF mask31) = some (.exit 0, fr31 x y 24 0, [], []) := by kernel_rfl

def hit (x y : Int) (i : Nat) : Bool := cmp0 .eql (plA.getD i 0) x && cmp0 .eql (plB.getD i 0) y
/-- By how much a word is turned. -/
def distF (x y : Int) : Int := match (List.range 24).find? (hit x y) with
  | some i => plD.getD i 0
  | none => 0

theorem dist_cases (x y : Int) : (∃ k, k < 24 ∧ hit x y k = true ∧ (∀ j, j < k → hit x y j = false) ∧ distF x y = plD.getD k 0) ∨ ((∀ j, j < 24 → hit x y j = false) ∧ distF x y = 0) := by
  unfold distF
  cases h : (List.range 24).find? (hit x y) with
  | some k =>
    have h1 := List.find?_some h
    have h2 := List.mem_of_find?_eq_some h
    have h3 : k < 24 := List.mem_range.1 h2
    refine .inl ⟨k, h3, h1, fun j hj => ?_, rfl⟩
    rw [List.find?_range_eq_some] at h
    have := h.2.2 j hj
    simpa using this
  | none =>
    refine .inr ⟨fun j hj => ?_, rfl⟩
    have := List.find?_eq_none.1 h j (List.mem_range.2 hj)
    simpa using this

theorem miss30 {x y : Int} {i : Nat} (hi : i < 24) (h : hit x y i = false) : BodyTo Try.prog 0 lp30 (fr30 x y i 0) [] .norm (fr30 x y (i + 1) 0) [] := by
  have hb := body30 (cmp0 .eql) x y i hi
  rw [opsQ_eq] at hb
  unfold hit at h
  cases h1 : cmp0 .eql (plA.getD i 0) x with
  | false =>
    rw [h1] at hb
    exact body_forget (noCon_ok _) (tabOne_ok ok72) hb (by simp)
  | true =>
    rw [h1, Bool.true_and] at h
    rw [h1, h] at hb
    exact body_forget (noCon_ok _) (tabOne_ok ok72) hb (by simp)
theorem hits30 {x y : Int} {i : Nat} (hi : i < 24) (h : hit x y i = true) : BodyTo Try.prog 0 lp30 (fr30 x y i 0) [] .ret (fr30 x y i (plD.getD i 0)) [] := by
  have hb := body30 (cmp0 .eql) x y i hi
  rw [opsQ_eq] at hb
  unfold hit at h
  rw [Bool.and_eq_true] at h
  rw [h.1, h.2] at hb
  exact body_forget (noCon_ok _) (tabOne_ok ok72) hb (by simp)

def in30 (x y : Int) : Fr := [.int .i64 x, .int .i64 y, .tup [], .tup [], .int .i64 0, .int .i64 1, .int .i64 0, .int .i64 1, .int .i64 1, .tup [], .tup [], .tup [], .tup [], .tup [], .tup [], .tup [], .tup [], .tup [], .tup [], .tup [], .tup [], .tup [], .tup [], .tup [], .tup [], .tup [], .tup [], .tup [], .tup [], .tup [], .tup [], .tup [], .tup []]
def entA30 (x y : Int) (k : Nat) (v : Int) : Lent := ⟨0, lp30, in30 x y, [], .ret, fr30 x y k v, []⟩
def entB30 (x y : Int) : Lent := ⟨0, lp30, in30 x y, [], .exit 0, fr30 x y 24 0, []⟩
theorem runA30 (x y v : Int) (k : Nat) :
    vcall (propL noCon fun _ _ => some (entA30 x y k v)) ops0 (tabOne 30 vf30) 100 vf30 [.int .i64 x, .int .i64 y] [] (fun r H lg => cutK 0 r H lg = some (.int .i64 v, [], [])) =
      (0 = 0 ∧ lp30 = lp30 ∧ in30 x y = in30 x y ∧ ([] : Hl) = [] ∧ some ((.int .i64 v, [], []) : Out) = some (.int .i64 v, [], [])) := by kernel_rfl
theorem runB30 (x y : Int) :
    vcall (propL noCon fun _ _ => some (entB30 x y)) ops0 (tabOne 30 vf30) 100 vf30 [.int .i64 x, .int .i64 y] [] (fun r H lg => cutK 0 r H lg = some (.int .i64 0, [], [])) =
      (0 = 0 ∧ lp30 = lp30 ∧ in30 x y = in30 x y ∧ ([] : Hl) = [] ∧ some ((.int .i64 0, [], []) : Out) = some (.int .i64 0, [], [])) := by kernel_rfl

theorem dist30 (x y : Int) (H : Hl) : CallTo Try.prog 30 [.int .i64 x, .int .i64 y] H (.int .i64 (distF x y)) H [] := by
  refine CallTo.pure (H := H) (r0 := .int .i64 (distF x y)) (lg := []) 0 (vals := [.int .i64 x, .int .i64 y]) ?_
  show CallTo Try.prog 30 [.int .i64 x, .int .i64 y] [] (.int .i64 (distF x y)) [] []
  rcases dist_cases x y with ⟨k, hk, hh, hm, e⟩ | ⟨hm, e⟩
  · rw [e]
    have hl := loop_chain (P := Try.prog) (n0 := 0) (b := lp30) (ex := .ret) (fr' := fr30 x y k (plD.getD k 0)) (H' := []) (by intro h; cases h) (fun i => (fr30 x y i 0, [])) k 0
      (fun j _ hj => miss30 (by omega) (hm j (by omega))) (by rw [Nat.zero_add]; exact hits30 hk hh)
    have hE : (entA30 x y k (plD.getD k 0)).OK Try.prog := LoopTo.pre (Weak.forget (show 0 ≤ 0 by decide) mask30) hl
    exact call_loop (noCon_ok _) (E := fun _ _ => some (entA30 x y k (plD.getD k 0))) (fun fr H e he => by cases he; exact hE) (tabOne_ok ok30) (tabOne_self 30 vf30) 0 []
      (Eq.mpr (runA30 _ _ _ _) ⟨rfl, rfl, rfl, rfl, rfl⟩) (by simp) (fun b hb hn => by simp at hb)
  · rw [e]
    have hl := loop_chain (P := Try.prog) (n0 := 0) (b := lp30) (ex := .exit 0) (fr' := fr30 x y 24 0) (H' := []) (by intro h; cases h) (fun i => (fr30 x y i 0, [])) 24 0
      (fun j _ hj => miss30 (by omega) (hm j (by omega))) (body_forget (noCon_ok _) (tabOne_ok ok72) (end30 x y) (by simp))
    have hE : (entB30 x y).OK Try.prog := LoopTo.pre (Weak.forget (show 0 ≤ 0 by decide) mask30) hl
    exact call_loop (noCon_ok _) (E := fun _ _ => some (entB30 x y)) (fun fr H e he => by cases he; exact hE) (tabOne_ok ok30) (tabOne_self 30 vf30) 0 []
      (Eq.mpr (runB30 _ _) ⟨rfl, rfl, rfl, rfl, rfl⟩) (by simp) (fun b hb hn => by simp at hb)

theorem miss31 {x y : Int} {i : Nat} (hi : i < 24) (h : hit x y i = false) : BodyTo Try.prog 0 lp31 (fr31 x y i 0) [] .norm (fr31 x y (i + 1) 0) [] := by
  have hb := body31 (cmp0 .eql) x y i hi
  rw [opsQ_eq] at hb
  unfold hit at h
  cases h1 : cmp0 .eql (plA.getD i 0) x with
  | false =>
    rw [h1] at hb
    exact body_forget (noCon_ok _) (noTab_ok _) hb (by simp)
  | true =>
    rw [h1, Bool.true_and] at h
    rw [h1, h] at hb
    exact body_forget (noCon_ok _) (noTab_ok _) hb (by simp)
theorem hits31 {x y : Int} {i : Nat} (hi : i < 24) (h : hit x y i = true) : BodyTo Try.prog 0 lp31 (fr31 x y i 0) [] .ret (fr31 x y i (plD.getD i 0)) [] := by
  have hb := body31 (cmp0 .eql) x y i hi
  rw [opsQ_eq] at hb
  unfold hit at h
  rw [Bool.and_eq_true] at h
  rw [h.1, h.2] at hb
  exact body_forget (noCon_ok _) (noTab_ok _) hb (by simp)

def in31 (x y : Int) : Fr := [.int .i64 x, .int .i64 y, .tup [], .tup [], .int .i64 0, .int .i64 1, .int .i64 0, .int .i64 0, .tup [], .tup [], .tup [], .tup [], .tup [], .tup [], .tup [], .tup [], .tup [], .tup [], .tup [], .tup [], .tup [], .tup [], .tup [], .tup [], .tup [], .tup [], .tup [], .tup [], .tup [], .tup [], .tup [], .tup [], .tup [], .tup []]
def entA31 (x y : Int) (k : Nat) (v : Int) : Lent := ⟨0, lp31, in31 x y, [], .ret, fr31 x y k v, []⟩
def entB31 (x y : Int) : Lent := ⟨0, lp31, in31 x y, [], .exit 0, fr31 x y 24 0, []⟩
theorem runA31 (x y v : Int) (k : Nat) :
    vcall (propL noCon fun _ _ => some (entA31 x y k v)) ops0 (tabOne 31 vf31) 100 vf31 [.int .i64 x, .int .i64 y] [] (fun r H lg => cutK 0 r H lg = some (.int .i64 v, [], [])) =
      (0 = 0 ∧ lp31 = lp31 ∧ in31 x y = in31 x y ∧ ([] : Hl) = [] ∧ some ((.int .i64 v, [], []) : Out) = some (.int .i64 v, [], [])) := by kernel_rfl
theorem runB31 (x y : Int) :
    vcall (propL noCon fun _ _ => some (entB31 x y)) ops0 (tabOne 31 vf31) 100 vf31 [.int .i64 x, .int .i64 y] [] (fun r H lg => cutK 0 r H lg = some (.int .i64 0, [], [])) =
      (0 = 0 ∧ lp31 = lp31 ∧ in31 x y = in31 x y ∧ ([] : Hl) = [] ∧ some ((.int .i64 0, [], []) : Out) = some (.int .i64 0, [], [])) := by kernel_rfl

theorem dist31 (x y : Int) (H : Hl) : CallTo Try.prog 31 [.int .i64 x, .int .i64 y] H (.int .i64 (distF x y)) H [] := by
  refine CallTo.pure (H := H) (r0 := .int .i64 (distF x y)) (lg := []) 0 (vals := [.int .i64 x, .int .i64 y]) ?_
  show CallTo Try.prog 31 [.int .i64 x, .int .i64 y] [] (.int .i64 (distF x y)) [] []
  rcases dist_cases x y with ⟨k, hk, hh, hm, e⟩ | ⟨hm, e⟩
  · rw [e]
    have hl := loop_chain (P := Try.prog) (n0 := 0) (b := lp31) (ex := .ret) (fr' := fr31 x y k (plD.getD k 0)) (H' := []) (by intro h; cases h) (fun i => (fr31 x y i 0, [])) k 0
      (fun j _ hj => miss31 (by omega) (hm j (by omega))) (by rw [Nat.zero_add]; exact hits31 hk hh)
    have hE : (entA31 x y k (plD.getD k 0)).OK Try.prog := LoopTo.pre (Weak.forget (show 0 ≤ 0 by decide) mask31) hl
    exact call_loop (noCon_ok _) (E := fun _ _ => some (entA31 x y k (plD.getD k 0))) (fun fr H e he => by cases he; exact hE) (tabOne_ok ok31) (tabOne_self 31 vf31) 0 []
      (Eq.mpr (runA31 _ _ _ _) ⟨rfl, rfl, rfl, rfl, rfl⟩) (by simp) (fun b hb hn => by simp at hb)
  · rw [e]
    have hl := loop_chain (P := Try.prog) (n0 := 0) (b := lp31) (ex := .exit 0) (fr' := fr31 x y 24 0) (H' := []) (by intro h; cases h) (fun i => (fr31 x y i 0, [])) 24 0
      (fun j _ hj => miss31 (by omega) (hm j (by omega))) (body_forget (noCon_ok _) (noTab_ok _) (end31 x y) (by simp))
    have hE : (entB31 x y).OK Try.prog := LoopTo.pre (Weak.forget (show 0 ≤ 0 by decide) mask31) hl
    exact call_loop (noCon_ok _) (E := fun _ _ => some (entB31 x y)) (fun fr H e he => by cases he; exact hE) (tabOne_ok ok31) (tabOne_self 31 vf31) 0 []
      (Eq.mpr (runB31 _ _) ⟨rfl, rfl, rfl, rfl, rfl⟩) (by simp) (fun b hb hn => by simp at hb)

end
end Go.Proofs.Vm

namespace Go.Proofs.Vm
open Go.Vm
noncomputable section
/-- Never. -/
def lnX : LnF := fun _ _ fr H => some (False, .ok .norm fr H)
theorem lnX_ok (P : Program) : LnOK P lnX := fun _ _ _ _ _ _ e _ hp => by cases e; exact hp.elim
def cnX : CnF := fun _ _ H => some (False, .ok (.tup []) H [])
theorem cnX_ok (P : Program) : CnOK P cnX := fun _ _ _ _ _ e hp => by cases e; exact hp.elim

theorem vc32x (n : Int) (Q : AV → Hl → List Nat → Prop) :
  (vcall (vcA kdYes cnX lnX) ops0 (tabOne 32 vf32) 100 vf32 [.int .i64 n] [] Q) =
 ((Br (ops0.cmp BinOp.lss n (Int.ofNat 0))
 (Q (AV.int IntKind.u64 (Int.ofNat 0)) [] [])
 (Br (ops0.cmp BinOp.geq n (Int.ofNat 24))
 (Q (AV.int IntKind.u64 (Int.ofNat 0)) [] [])
 (False ∧
 (Q (AV.int IntKind.u64 (Int.ofNat 0)) [] []))))) := by kernel_rfl

theorem vc33x (n : Int) (Q : AV → Hl → List Nat → Prop) :
  (vcall (vcA kdYes cnX lnX) ops0 (tabOne 33 vf33) 100 vf33 [.int .i64 n] [] Q) =
 ((Br (ops0.cmp BinOp.lss n (Int.ofNat 0))
 (Q (AV.int IntKind.u64 (Int.ofNat 0)) [] [])
 (Br (ops0.cmp BinOp.gtr n (Int.ofNat 23))
 (Q (AV.int IntKind.u64 (Int.ofNat 0)) [] [])
 (False ∧
 (Q (AV.int IntKind.u64 (Int.ofNat 0)) [] []))))) := by kernel_rfl

theorem vc34x (cs : List AV) (n : Int) (Q : AV → Hl → Prop) :
  (vcall (vcA kdYes cnX lnX) ops0 (tabOne 34 vf34) 100 vf34 [.agg cs, .int .i64 n] [] (endN (fun _ => 0) Q)) =
 ((Br (ops0.cmp BinOp.lss n (Int.ofNat 0))
 (Chk (ops0.le 25 (ops0.len cs))
 (Chk (ops0.eq (ops0.len (ops0.ext cs 0 25)) 25)
 (Chk (ops0.le 25 (ops0.len (ops0.spl [(AV.int IntKind.u64 (Int.ofNat 0)), (AV.int IntKind.u64 (Int.ofNat 0)), (AV.int IntKind.u64 (Int.ofNat 0)), (AV.int IntKind.u64 (Int.ofNat 0)), (AV.int IntKind.u64 (Int.ofNat 0)), (AV.int IntKind.u64 (Int.ofNat 0)), (AV.int IntKind.u64 (Int.ofNat 0)), (AV.int IntKind.u64 (Int.ofNat 0)), (AV.int IntKind.u64 (Int.ofNat 0)), (AV.int IntKind.u64 (Int.ofNat 0)), (AV.int IntKind.u64 (Int.ofNat 0)), (AV.int IntKind.u64 (Int.ofNat 0)), (AV.int IntKind.u64 (Int.ofNat 0)), (AV.int IntKind.u64 (Int.ofNat 0)), (AV.int IntKind.u64 (Int.ofNat 0)), (AV.int IntKind.u64 (Int.ofNat 0)), (AV.int IntKind.u64 (Int.ofNat 0)), (AV.int IntKind.u64 (Int.ofNat 0)), (AV.int IntKind.u64 (Int.ofNat 0)), (AV.int IntKind.u64 (Int.ofNat 0)), (AV.int IntKind.u64 (Int.ofNat 0)), (AV.int IntKind.u64 (Int.ofNat 0)), (AV.int IntKind.u64 (Int.ofNat 0)), (AV.int IntKind.u64 (Int.ofNat 0)), (AV.int IntKind.u64 (Int.ofNat 0))] 0 (ops0.ext cs 0 25))))
 (Q (AV.agg (ops0.ext (ops0.spl [(AV.int IntKind.u64 (Int.ofNat 0)), (AV.int IntKind.u64 (Int.ofNat 0)), (AV.int IntKind.u64 (Int.ofNat 0)), (AV.int IntKind.u64 (Int.ofNat 0)), (AV.int IntKind.u64 (Int.ofNat 0)), (AV.int IntKind.u64 (Int.ofNat 0)), (AV.int IntKind.u64 (Int.ofNat 0)), (AV.int IntKind.u64 (Int.ofNat 0)), (AV.int IntKind.u64 (Int.ofNat 0)), (AV.int IntKind.u64 (Int.ofNat 0)), (AV.int IntKind.u64 (Int.ofNat 0)), (AV.int IntKind.u64 (Int.ofNat 0)), (AV.int IntKind.u64 (Int.ofNat 0)), (AV.int IntKind.u64 (Int.ofNat 0)), (AV.int IntKind.u64 (Int.ofNat 0)), (AV.int IntKind.u64 (Int.ofNat 0)), (AV.int IntKind.u64 (Int.ofNat 0)), (AV.int IntKind.u64 (Int.ofNat 0)), (AV.int IntKind.u64 (Int.ofNat 0)), (AV.int IntKind.u64 (Int.ofNat 0)), (AV.int IntKind.u64 (Int.ofNat 0)), (AV.int IntKind.u64 (Int.ofNat 0)), (AV.int IntKind.u64 (Int.ofNat 0)), (AV.int IntKind.u64 (Int.ofNat 0)), (AV.int IntKind.u64 (Int.ofNat 0))] 0 (ops0.ext cs 0 25)) 0 25)) []))))
 (Br (ops0.cmp BinOp.geq n (Int.ofNat 24))
 (Chk (ops0.le 25 (ops0.len cs))
 (Chk (ops0.eq (ops0.len (ops0.ext cs 0 25)) 25)
 (Chk (ops0.le 25 (ops0.len (ops0.spl [(AV.int IntKind.u64 (Int.ofNat 0)), (AV.int IntKind.u64 (Int.ofNat 0)), (AV.int IntKind.u64 (Int.ofNat 0)), (AV.int IntKind.u64 (Int.ofNat 0)), (AV.int IntKind.u64 (Int.ofNat 0)), (AV.int IntKind.u64 (Int.ofNat 0)), (AV.int IntKind.u64 (Int.ofNat 0)), (AV.int IntKind.u64 (Int.ofNat 0)), (AV.int IntKind.u64 (Int.ofNat 0)), (AV.int IntKind.u64 (Int.ofNat 0)), (AV.int IntKind.u64 (Int.ofNat 0)), (AV.int IntKind.u64 (Int.ofNat 0)), (AV.int IntKind.u64 (Int.ofNat 0)), (AV.int IntKind.u64 (Int.ofNat 0)), (AV.int IntKind.u64 (Int.ofNat 0)), (AV.int IntKind.u64 (Int.ofNat 0)), (AV.int IntKind.u64 (Int.ofNat 0)), (AV.int IntKind.u64 (Int.ofNat 0)), (AV.int IntKind.u64 (Int.ofNat 0)), (AV.int IntKind.u64 (Int.ofNat 0)), (AV.int IntKind.u64 (Int.ofNat 0)), (AV.int IntKind.u64 (Int.ofNat 0)), (AV.int IntKind.u64 (Int.ofNat 0)), (AV.int IntKind.u64 (Int.ofNat 0)), (AV.int IntKind.u64 (Int.ofNat 0))] 0 (ops0.ext cs 0 25))))
 (Q (AV.agg (ops0.ext (ops0.spl [(AV.int IntKind.u64 (Int.ofNat 0)), (AV.int IntKind.u64 (Int.ofNat 0)), (AV.int IntKind.u64 (Int.ofNat 0)), (AV.int IntKind.u64 (Int.ofNat 0)), (AV.int IntKind.u64 (Int.ofNat 0)), (AV.int IntKind.u64 (Int.ofNat 0)), (AV.int IntKind.u64 (Int.ofNat 0)), (AV.int IntKind.u64 (Int.ofNat 0)), (AV.int IntKind.u64 (Int.ofNat 0)), (AV.int IntKind.u64 (Int.ofNat 0)), (AV.int IntKind.u64 (Int.ofNat 0)), (AV.int IntKind.u64 (Int.ofNat 0)), (AV.int IntKind.u64 (Int.ofNat 0)), (AV.int IntKind.u64 (Int.ofNat 0)), (AV.int IntKind.u64 (Int.ofNat 0)), (AV.int IntKind.u64 (Int.ofNat 0)), (AV.int IntKind.u64 (Int.ofNat 0)), (AV.int IntKind.u64 (Int.ofNat 0)), (AV.int IntKind.u64 (Int.ofNat 0)), (AV.int IntKind.u64 (Int.ofNat 0)), (AV.int IntKind.u64 (Int.ofNat 0)), (AV.int IntKind.u64 (Int.ofNat 0)), (AV.int IntKind.u64 (Int.ofNat 0)), (AV.int IntKind.u64 (Int.ofNat 0)), (AV.int IntKind.u64 (Int.ofNat 0))] 0 (ops0.ext cs 0 25)) 0 25)) []))))
 (False ∧
 False)))) := by kernel_rfl

theorem vc35x (cs : List AV) (n : Int) (Q : AV → Hl → Prop) :
  (vcall (vcA kdYes cnX lnX) ops0 (tabOne 35 vf35) 100 vf35 [.agg cs, .int .i64 n] [] (endN (fun _ => 0) Q)) =
 ((Br (ops0.cmp BinOp.lss n (Int.ofNat 0))
 (Chk (ops0.le 25 (ops0.len cs))
 (Chk (ops0.eq (ops0.len (ops0.ext cs 0 25)) 25)
 (Chk (ops0.le 25 (ops0.len (ops0.spl [(AV.int IntKind.u64 (Int.ofNat 0)), (AV.int IntKind.u64 (Int.ofNat 0)), (AV.int IntKind.u64 (Int.ofNat 0)), (AV.int IntKind.u64 (Int.ofNat 0)), (AV.int IntKind.u64 (Int.ofNat 0)), (AV.int IntKind.u64 (Int.ofNat 0)), (AV.int IntKind.u64 (Int.ofNat 0)), (AV.int IntKind.u64 (Int.ofNat 0)), (AV.int IntKind.u64 (Int.ofNat 0)), (AV.int IntKind.u64 (Int.ofNat 0)), (AV.int IntKind.u64 (Int.ofNat 0)), (AV.int IntKind.u64 (Int.ofNat 0)), (AV.int IntKind.u64 (Int.ofNat 0)), (AV.int IntKind.u64 (Int.ofNat 0)), (AV.int IntKind.u64 (Int.ofNat 0)), (AV.int IntKind.u64 (Int.ofNat 0)), (AV.int IntKind.u64 (Int.ofNat 0)), (AV.int IntKind.u64 (Int.ofNat 0)), (AV.int IntKind.u64 (Int.ofNat 0)), (AV.int IntKind.u64 (Int.ofNat 0)), (AV.int IntKind.u64 (Int.ofNat 0)), (AV.int IntKind.u64 (Int.ofNat 0)), (AV.int IntKind.u64 (Int.ofNat 0)), (AV.int IntKind.u64 (Int.ofNat 0)), (AV.int IntKind.u64 (Int.ofNat 0))] 0 (ops0.ext cs 0 25))))
 (Q (AV.agg (ops0.ext (ops0.spl [(AV.int IntKind.u64 (Int.ofNat 0)), (AV.int IntKind.u64 (Int.ofNat 0)), (AV.int IntKind.u64 (Int.ofNat 0)), (AV.int IntKind.u64 (Int.ofNat 0)), (AV.int IntKind.u64 (Int.ofNat 0)), (AV.int IntKind.u64 (Int.ofNat 0)), (AV.int IntKind.u64 (Int.ofNat 0)), (AV.int IntKind.u64 (Int.ofNat 0)), (AV.int IntKind.u64 (Int.ofNat 0)), (AV.int IntKind.u64 (Int.ofNat 0)), (AV.int IntKind.u64 (Int.ofNat 0)), (AV.int IntKind.u64 (Int.ofNat 0)), (AV.int IntKind.u64 (Int.ofNat 0)), (AV.int IntKind.u64 (Int.ofNat 0)), (AV.int IntKind.u64 (Int.ofNat 0)), (AV.int IntKind.u64 (Int.ofNat 0)), (AV.int IntKind.u64 (Int.ofNat 0)), (AV.int IntKind.u64 (Int.ofNat 0)), (AV.int IntKind.u64 (Int.ofNat 0)), (AV.int IntKind.u64 (Int.ofNat 0)), (AV.int IntKind.u64 (Int.ofNat 0)), (AV.int IntKind.u64 (Int.ofNat 0)), (AV.int IntKind.u64 (Int.ofNat 0)), (AV.int IntKind.u64 (Int.ofNat 0)), (AV.int IntKind.u64 (Int.ofNat 0))] 0 (ops0.ext cs 0 25)) 0 25)) []))))
 (Br (ops0.cmp BinOp.gtr n (Int.ofNat 23))
 (Chk (ops0.le 25 (ops0.len cs))
 (Chk (ops0.eq (ops0.len (ops0.ext cs 0 25)) 25)
 (Chk (ops0.le 25 (ops0.len (ops0.spl [(AV.int IntKind.u64 (Int.ofNat 0)), (AV.int IntKind.u64 (Int.ofNat 0)), (AV.int IntKind.u64 (Int.ofNat 0)), (AV.int IntKind.u64 (Int.ofNat 0)), (AV.int IntKind.u64 (Int.ofNat 0)), (AV.int IntKind.u64 (Int.ofNat 0)), (AV.int IntKind.u64 (Int.ofNat 0)), (AV.int IntKind.u64 (Int.ofNat 0)), (AV.int IntKind.u64 (Int.ofNat 0)), (AV.int IntKind.u64 (Int.ofNat 0)), (AV.int IntKind.u64 (Int.ofNat 0)), (AV.int IntKind.u64 (Int.ofNat 0)), (AV.int IntKind.u64 (Int.ofNat 0)), (AV.int IntKind.u64 (Int.ofNat 0)), (AV.int IntKind.u64 (Int.ofNat 0)), (AV.int IntKind.u64 (Int.ofNat 0)), (AV.int IntKind.u64 (Int.ofNat 0)), (AV.int IntKind.u64 (Int.ofNat 0)), (AV.int IntKind.u64 (Int.ofNat 0)), (AV.int IntKind.u64 (Int.ofNat 0)), (AV.int IntKind.u64 (Int.ofNat 0)), (AV.int IntKind.u64 (Int.ofNat 0)), (AV.int IntKind.u64 (Int.ofNat 0)), (AV.int IntKind.u64 (Int.ofNat 0)), (AV.int IntKind.u64 (Int.ofNat 0))] 0 (ops0.ext cs 0 25))))
 (Q (AV.agg (ops0.ext (ops0.spl [(AV.int IntKind.u64 (Int.ofNat 0)), (AV.int IntKind.u64 (Int.ofNat 0)), (AV.int IntKind.u64 (Int.ofNat 0)), (AV.int IntKind.u64 (Int.ofNat 0)), (AV.int IntKind.u64 (Int.ofNat 0)), (AV.int IntKind.u64 (Int.ofNat 0)), (AV.int IntKind.u64 (Int.ofNat 0)), (AV.int IntKind.u64 (Int.ofNat 0)), (AV.int IntKind.u64 (Int.ofNat 0)), (AV.int IntKind.u64 (Int.ofNat 0)), (AV.int IntKind.u64 (Int.ofNat 0)), (AV.int IntKind.u64 (Int.ofNat 0)), (AV.int IntKind.u64 (Int.ofNat 0)), (AV.int IntKind.u64 (Int.ofNat 0)), (AV.int IntKind.u64 (Int.ofNat 0)), (AV.int IntKind.u64 (Int.ofNat 0)), (AV.int IntKind.u64 (Int.ofNat 0)), (AV.int IntKind.u64 (Int.ofNat 0)), (AV.int IntKind.u64 (Int.ofNat 0)), (AV.int IntKind.u64 (Int.ofNat 0)), (AV.int IntKind.u64 (Int.ofNat 0)), (AV.int IntKind.u64 (Int.ofNat 0)), (AV.int IntKind.u64 (Int.ofNat 0)), (AV.int IntKind.u64 (Int.ofNat 0)), (AV.int IntKind.u64 (Int.ofNat 0))] 0 (ops0.ext cs 0 25)) 0 25)) []))))
 (False ∧
 False)))) := by kernel_rfl

/-- A constant, whatever the number. -/
def cstF (n : Int) : Int := if 0 ≤ n ∧ n < 24 then rcs.getD n.toNat 0 else 0
/-- A round, whatever the number. -/
def rndZ (s : List Int) (n : Int) : List Int := if 0 ≤ n ∧ n < 24 then rndN s n.toNat else s

theorem const32 (n : Int) (H : Hl) : CallTo Try.prog 32 [.int .i64 n] H (.int .u64 (cstF n)) H [] := by
  refine CallTo.pure (H := H) (r0 := .int .u64 (cstF n)) (lg := []) 0 (vals := [.int .i64 n]) ?_
  show CallTo Try.prog 32 [.int .i64 n] [] (.int .u64 (cstF n)) [] []
  unfold cstF
  by_cases h : 0 ≤ n ∧ n < 24
  · rw [if_pos h]
    obtain ⟨m, rfl⟩ : ∃ m : Nat, n = Int.ofNat m := ⟨n.toNat, (Int.toNat_of_nonneg h.1).symm⟩
    exact call_cut (noCon_ok _) (tabOne_ok ok32) (tabOne_self 32 vf32) 0 [] (c32_run m (by have := h.2; simp at this; omega)) (by simp) (fun b hb hn => by simp at hb)
  · rw [if_neg h]
    refine call_x (cnX_ok _) (lnX_ok _) (tabOne_ok ok32) (tabOne_self 32 vf32) (n := 100) (g := kdYes) ?_
    rw [vc32x]
    refine Br.mk (fun _ => ⟨rfl, rfl, rfl⟩) (fun h1 => Br.mk (fun _ => ⟨rfl, rfl, rfl⟩) (fun h2 => ?_))
    have h1 : ¬ n < 0 := of_decide_eq_false h1
    have h2 : ¬ n ≥ 24 := of_decide_eq_false h2
    omega
theorem const33 (n : Int) (H : Hl) : CallTo Try.prog 33 [.int .i64 n] H (.int .u64 (cstF n)) H [] := by
  refine CallTo.pure (H := H) (r0 := .int .u64 (cstF n)) (lg := []) 0 (vals := [.int .i64 n]) ?_
  show CallTo Try.prog 33 [.int .i64 n] [] (.int .u64 (cstF n)) [] []
  unfold cstF
  by_cases h : 0 ≤ n ∧ n < 24
  · rw [if_pos h]
    obtain ⟨m, rfl⟩ : ∃ m : Nat, n = Int.ofNat m := ⟨n.toNat, (Int.toNat_of_nonneg h.1).symm⟩
    exact call_cut bitC_ok (tabOne_ok ok33) (tabOne_self 33 vf33) 0 [] (c33_run m (by have := h.2; simp at this; omega)) (by simp) (fun b hb hn => by simp at hb)
  · rw [if_neg h]
    refine call_x (cnX_ok _) (lnX_ok _) (tabOne_ok ok33) (tabOne_self 33 vf33) (n := 100) (g := kdYes) ?_
    rw [vc33x]
    refine Br.mk (fun _ => ⟨rfl, rfl, rfl⟩) (fun h1 => Br.mk (fun _ => ⟨rfl, rfl, rfl⟩) (fun h2 => ?_))
    have h1 : ¬ n < 0 := of_decide_eq_false h1
    have h2 : ¬ n > 23 := of_decide_eq_false h2
    omega

theorem flat_w (s : List Int) : flatL (s.map w) := flatL_ints _ _
theorem same_row {s : List Int} (hs : s.length = 25) (Q : AV → Prop) (h : Q (.agg (s.map w))) (z : List AV) (hz : z.length = 25) :
    (Chk (ops0.le 25 (ops0.len (s.map w)))
 (Chk (ops0.eq (ops0.len (ops0.ext (s.map w) 0 25)) 25)
 (Chk (ops0.le 25 (ops0.len (ops0.spl z 0 (ops0.ext (s.map w) 0 25))))
 (Q (AV.agg (ops0.ext (ops0.spl z 0 (ops0.ext (s.map w) 0 25)) 0 25)))))) := by
  have e1 : ops0.ext (s.map w) 0 25 = s.map w := by rw [nExt, List.drop_zero, List.take_of_length_le (by simp [hs])]
  have e2 : ops0.spl z 0 (s.map w) = s.map w := by rw [nSpl, List.take_zero, List.nil_append, Nat.zero_add, List.drop_of_length_le (by simp [hs, hz]), List.append_nil]
  rw [e1, e2, e1]
  exact Chk.mk (by rw [nLe, nLen]; exact decide_eq_true (by simp [hs])) (Chk.mk (by rw [nEq, nLen]; exact decide_eq_true (by simp [hs])) (Chk.mk (by rw [nLe, nLen]; exact decide_eq_true (by simp [hs])) h))

theorem roundZ34 {s : List Int} (hs : s.length = 25) (n : Int) (H : Hl) : CallTo Try.prog 34 [.agg (s.map w), .int .i64 n] H (.agg ((rndZ s n).map w)) H [] := by
  unfold rndZ
  by_cases h : 0 ≤ n ∧ n < 24
  · rw [if_pos h]
    obtain ⟨m, rfl⟩ : ∃ m : Nat, n = Int.ofNat m := ⟨n.toNat, (Int.toNat_of_nonneg h.1).symm⟩
    exact round34 hs (by have := h.2; simp at this; omega) H
  · rw [if_neg h]
    have hc : CallTo Try.prog 34 [.agg (s.map w), .int .i64 n] [] (.agg (s.map w)) [] [] := by
      refine call_n (cnX_ok _) (lnX_ok _) (tabOne_ok ok34) (tabOne_self 34 vf34) (n := 100) (g := kdYes) (m := fun _ => 0) [] ?_ (by simp) ?_ (by simp)
      · rw [vc34x]
        refine Br.mk (fun _ => same_row hs (fun r => r = AV.agg (s.map w) ∧ ([] : Hl) = []) ⟨rfl, rfl⟩ _ rfl) (fun h1 => Br.mk (fun _ => same_row hs (fun r => r = AV.agg (s.map w) ∧ ([] : Hl) = []) ⟨rfl, rfl⟩ _ rfl) (fun h2 => ?_))
        have h1 : ¬ n < 0 := of_decide_eq_false h1
        have h2 : ¬ n ≥ 24 := of_decide_eq_false h2
        omega
      · show AV.agg _ = _
        rw [renL_flat (flat_w s)]
    have h2 := CallTo.lookV (H := H) hc (.cons (Vw.agg H (Still.flat (flat_w s))) (.cons (Vw.int H _ _) .nil))
    rw [backV_flat (flat_w s)] at h2
    exact h2
theorem roundZ35 {s : List Int} (hs : s.length = 25) (n : Int) (H : Hl) : CallTo Try.prog 35 [.agg (s.map w), .int .i64 n] H (.agg ((rndZ s n).map w)) H [] := by
  unfold rndZ
  by_cases h : 0 ≤ n ∧ n < 24
  · rw [if_pos h]
    obtain ⟨m, rfl⟩ : ∃ m : Nat, n = Int.ofNat m := ⟨n.toNat, (Int.toNat_of_nonneg h.1).symm⟩
    exact round35 hs (by have := h.2; simp at this; omega) H
  · rw [if_neg h]
    have hc : CallTo Try.prog 35 [.agg (s.map w), .int .i64 n] [] (.agg (s.map w)) [] [] := by
      refine call_n (cnX_ok _) (lnX_ok _) (tabOne_ok ok35) (tabOne_self 35 vf35) (n := 100) (g := kdYes) (m := fun _ => 0) [] ?_ (by simp) ?_ (by simp)
      · rw [vc35x]
        refine Br.mk (fun _ => same_row hs (fun r => r = AV.agg (s.map w) ∧ ([] : Hl) = []) ⟨rfl, rfl⟩ _ rfl) (fun h1 => Br.mk (fun _ => same_row hs (fun r => r = AV.agg (s.map w) ∧ ([] : Hl) = []) ⟨rfl, rfl⟩ _ rfl) (fun h2 => ?_))
        have h1 : ¬ n < 0 := of_decide_eq_false h1
        have h2 : ¬ n > 23 := of_decide_eq_false h2
        omega
      · show AV.agg _ = _
        rw [renL_flat (flat_w s)]
    have h2 := CallTo.lookV (H := H) hc (.cons (Vw.agg H (Still.flat (flat_w s))) (.cons (Vw.int H _ _) .nil))
    rw [backV_flat (flat_w s)] at h2
    exact h2

/-- Words of a state. -/
def PW (cs : List AV) : Prop := ∃ s : List Int, s.length = 25 ∧ cs = s.map w
/-- All that the laws of layer 3 call (kept apart). -/
structure AF extends KF where
  dist : Int → Int → Int
  cst : Int → Int
  rnd : List AV → Int → List AV
  rnds : List AV → List AV
def af0 : AF := { kf0 with dist := distF, cst := cstF, rnd := fun cs n => (rndZ (intsA cs) n).map w, rnds := fun cs => (allF (intsA cs)).map w }
def cnA (S : AF) : CnF := fun f vals H => match f, vals with
  | 30, [.int .i64 x, .int .i64 y] => some (True, .ok (.int .i64 (S.dist x y)) H [])
  | 31, [.int .i64 x, .int .i64 y] => some (True, .ok (.int .i64 (S.dist x y)) H [])
  | 32, [.int .i64 n] => some (True, .ok (.int .u64 (S.cst n)) H [])
  | 33, [.int .i64 n] => some (True, .ok (.int .u64 (S.cst n)) H [])
  | 34, [.agg cs, .int .i64 n] => some (PW cs, .ok (.agg (S.rnd cs n)) H [])
  | 35, [.agg cs, .int .i64 n] => some (PW cs, .ok (.agg (S.rnd cs n)) H [])
  | 29, [.agg cs] => some (PW cs, .ok (.agg (S.rnds cs)) H [])
  | 36, [.agg cs] => some (PW cs, .ok (.agg (S.rnds cs)) H [])
  | f, vals => cnK S.toKF f vals H

theorem cnA_ok : CnOK Try.prog (cnA af0) := by
  intro f vals H p x e hp
  unfold cnA at e
  split at e
  · cases e; exact dist30 _ _ H
  · cases e; exact dist31 _ _ H
  · cases e; exact const32 _ H
  · cases e; exact const33 _ H
  · cases e
    obtain ⟨s, hs, rfl⟩ := hp
    show CallTo _ _ _ _ (.agg ((rndZ (intsA (s.map w)) _).map w)) _ _
    rw [intA_w]
    exact roundZ34 hs _ H
  · cases e
    obtain ⟨s, hs, rfl⟩ := hp
    show CallTo _ _ _ _ (.agg ((rndZ (intsA (s.map w)) _).map w)) _ _
    rw [intA_w]
    exact roundZ35 hs _ H
  · cases e
    obtain ⟨s, hs, rfl⟩ := hp
    show CallTo _ _ _ _ (.agg ((allF (intsA (s.map w))).map w)) _ _
    rw [intA_w]
    exact rounds29 hs H
  · cases e
    obtain ⟨s, hs, rfl⟩ := hp
    show CallTo _ _ _ _ (.agg ((allF (intsA (s.map w))).map w)) _ _
    rw [intA_w]
    exact rounds36 hs H
  · exact cnK_ok _ _ _ _ _ e hp

end
end Go.Proofs.Vm

namespace Go.Proofs.Vm
open Go.Vm
noncomputable section

theorem spl_all {z xs : List AV} (h : z.length = xs.length) : ops0.spl z 0 xs = xs := by
  rw [nSpl, List.take_zero, List.nil_append, Nat.zero_add, List.drop_of_length_le (by omega), List.append_nil]

end
end Go.Proofs.Vm

namespace Go.Proofs.Vm
open Go.Vm
noncomputable section

def vf37 : VF := ⟨41, [(.tmp 6)], (.seq (.reg .false [] [⟨(.some 3), .none, .box, [(.t 0)]⟩, ⟨(.some 6), .none, .mov, [(.c .nils)]⟩]) (.seq (.seq (.reg .false [] [⟨(.some 10), .none, .mov, [(.t 1)]⟩, ⟨(.some 11), .none, .lenT, [(.t 10)]⟩, ⟨(.some 12), .none, (.cmp .gtr), [(.t 11), (.c (.int .i64 (.ofNat 64)))]⟩, ⟨(.some 13), .none, .mov, [(.t 12)]⟩, ⟨(.some 14), (.some ⟨13, .false⟩), .mov, [(.t 2)]⟩, ⟨(.some 15), (.some ⟨13, .false⟩), .len, [(.t 14)]⟩, ⟨(.some 16), (.some ⟨13, .false⟩), (.cmp .gtr), [(.t 15), (.c (.int .i64 (.ofNat 65536)))]⟩, ⟨(.some 17), .none, .pick, [(.t 13), (.c (.bool .true)), (.t 16)]⟩]) (.cond (.t 17) (.seq (.reg .false [] [⟨(.some 6), .none, .mov, [(.c .nils)]⟩]) .ret) .skip)) (.seq (.reg .false [] [⟨(.some 18), .none, .mov, [(.t 2)]⟩, ⟨(.some 19), .none, .len, [(.t 18)]⟩, ⟨(.some 20), .none, (.ldn 32), [(.t 3)]⟩, ⟨(.some 21), .none, .mov, [(.t 1)]⟩, ⟨(.some 22), .none, (.call 79), [(.t 20), (.t 21)]⟩, ⟨(.some 23), .none, (.mks [.nils] 1 [⟨0, 1⟩]), [(.t 22)]⟩, ⟨(.some 24), .none, (.call 27), [(.t 19), (.t 23)]⟩, ⟨(.some 7), .none, .mov, [(.t 24)]⟩]) (.seq (.seq (.reg .false [] [⟨(.some 25), .none, .mov, [(.t 2)]⟩, ⟨(.some 26), .none, .len, [(.t 25)]⟩, ⟨(.some 27), .none, .mov, [(.c (.int .i64 (.ofNat 0)))]⟩]) (.block 0 (.loop (.seq (.reg .false [] [⟨(.some 28), .none, (.cmp .lss), [(.t 27), (.t 26)]⟩]) (.seq (.cond (.t 28) .skip (.exit 0)) (.seq (.block 1 (.seq (.reg .false [] [⟨(.some 29), .none, .mov, [(.t 27)]⟩, ⟨(.some 30), .none, (.ixS 1), [(.t 25), (.t 27)]⟩, ⟨(.some 31), .none, (.ld1 (.int .u8)), [(.t 30)]⟩, ⟨(.some 8), .none, .mov, [(.t 29)]⟩, ⟨(.some 9), .none, .mov, [(.t 31)]⟩]) (.reg .false [] [⟨(.some 32), .none, .mov, [(.t 7)]⟩, ⟨(.some 33), .none, .mov, [(.t 8)]⟩, ⟨(.some 34), .none, (.ixS 1), [(.t 32), (.t 33)]⟩, ⟨(.some 35), .none, (.ld1 (.int .u8)), [(.t 34)]⟩, ⟨(.some 36), .none, .mov, [(.t 9)]⟩, ⟨(.some 37), .none, (.bin .xor .u8), [(.t 35), (.t 36)]⟩, ⟨(.some 38), .none, (.ixS 1), [(.t 32), (.t 33)]⟩, ⟨.none, .none, .st1, [(.t 38), (.t 37)]⟩]))) (.reg .false [] [⟨(.some 39), .none, (.bin .add .i64), [(.t 27), (.c (.int .i64 (.ofNat 1)))]⟩, ⟨(.some 27), .none, .mov, [(.t 39)]⟩]))))))) (.seq (.reg .false [] [⟨(.some 40), .none, .mov, [(.t 7)]⟩, ⟨(.some 6), .none, .mov, [(.t 40)]⟩]) .ret)))))⟩
theorem ok37 : FnOK Try.prog 37 vf37 := .of Try.func37 (by kernel_rfl) (by kernel_rfl)
def vf39 : VF := ⟨43, [(.tmp 6)], (.seq (.reg .false [] [⟨(.some 3), .none, .box, [(.t 0)]⟩, ⟨(.some 6), .none, .mov, [(.c .nils)]⟩]) (.seq (.seq (.reg .false [] [⟨(.some 10), .none, .mov, [(.t 1)]⟩, ⟨(.some 11), .none, .lenT, [(.t 10)]⟩, ⟨(.some 12), .none, (.cmp .gtr), [(.t 11), (.c (.int .i64 (.ofNat 64)))]⟩, ⟨(.some 13), .none, .mov, [(.t 12)]⟩, ⟨(.some 14), (.some ⟨13, .false⟩), .mov, [(.t 2)]⟩, ⟨(.some 15), (.some ⟨13, .false⟩), .len, [(.t 14)]⟩, ⟨(.some 16), (.some ⟨13, .false⟩), (.cmp .gtr), [(.t 15), (.c (.int .i64 (.ofNat 65536)))]⟩, ⟨(.some 17), .none, .pick, [(.t 13), (.c (.bool .true)), (.t 16)]⟩]) (.cond (.t 17) (.seq (.reg .false [] [⟨(.some 6), .none, .mov, [(.c .nils)]⟩]) .ret) .skip)) (.seq (.reg .false [] [⟨(.some 18), .none, .mov, [(.t 2)]⟩, ⟨(.some 19), .none, .len, [(.t 18)]⟩, ⟨(.some 20), .none, (.ldn 32), [(.t 3)]⟩, ⟨(.some 21), .none, .mov, [(.t 1)]⟩, ⟨(.some 22), .none, (.call 80), [(.t 20), (.t 21)]⟩, ⟨(.some 23), .none, (.call 28), [(.t 19), (.t 22)]⟩, ⟨(.some 7), .none, .mov, [(.t 23)]⟩]) (.seq (.reg .false [] [⟨(.some 8), .none, .mov, [(.c .nils)]⟩]) (.seq (.seq (.reg .false [] [⟨(.some 9), .none, .mov, [(.c (.int .i64 (.ofNat 0)))]⟩]) (.block 0 (.loop (.seq (.seq (.reg .false [] [⟨(.some 24), .none, .mov, [(.t 9)]⟩, ⟨(.some 25), .none, .mov, [(.t 2)]⟩, ⟨(.some 26), .none, .len, [(.t 25)]⟩, ⟨(.some 27), .none, (.cmp .lss), [(.t 24), (.t 26)]⟩]) (.cond (.t 27) .skip (.exit 0))) (.seq (.block 1 (.reg .true [0, 0, 0, 6, 14, 0, 0, 96, 224, 510, 1022, 2047, 4095] [⟨(.some 30), .none, .mov, [(.t 8)]⟩, ⟨(.some 31), .none, .mov, [(.t 2)]⟩, ⟨(.some 32), .none, .mov, [(.t 9)]⟩, ⟨(.some 33), .none, (.ixS 1), [(.t 31), (.t 32)]⟩, ⟨(.some 34), .none, (.ld1 (.int .u8)), [(.t 33)]⟩, ⟨(.some 35), .none, .mov, [(.t 7)]⟩, ⟨(.some 36), .none, .mov, [(.t 9)]⟩, ⟨(.some 37), .none, (.ixS 1), [(.t 35), (.t 36)]⟩, ⟨(.some 38), .none, (.ld1 (.int .u8)), [(.t 37)]⟩, ⟨(.some 39), .none, (.bin .xor .u8), [(.t 34), (.t 38)]⟩, ⟨(.some 40), .none, (.mks [(.int .u8 (.ofNat 0))] 1 [⟨0, 1⟩]), [(.t 39)]⟩, ⟨(.some 41), .none, (.app 1 1), [(.t 30), (.t 40)]⟩, ⟨(.some 8), .none, .mov, [(.t 41)]⟩])) (.reg .false [] [⟨(.some 28), .none, .mov, [(.t 9)]⟩, ⟨(.some 29), .none, (.bin .add .i64), [(.t 28), (.c (.int .i64 (.ofNat 1)))]⟩, ⟨(.some 9), .none, .mov, [(.t 29)]⟩])))))) (.seq (.reg .false [] [⟨(.some 42), .none, .mov, [(.t 8)]⟩, ⟨(.some 6), .none, .mov, [(.t 42)]⟩]) .ret))))))⟩
theorem ok39 : FnOK Try.prog 39 vf39 := .of Try.func39 (by kernel_rfl) (by kernel_rfl)
def vf40 : VF := ⟨38, [(.cell 6 32)], (.seq (.reg .false [] [⟨(.some 3), .none, .box, [(.t 0)]⟩, ⟨(.some 6), .none, (.alloc [(.int .u8 (.ofNat 0)), (.int .u8 (.ofNat 0)), (.int .u8 (.ofNat 0)), (.int .u8 (.ofNat 0)), (.int .u8 (.ofNat 0)), (.int .u8 (.ofNat 0)), (.int .u8 (.ofNat 0)), (.int .u8 (.ofNat 0)), (.int .u8 (.ofNat 0)), (.int .u8 (.ofNat 0)), (.int .u8 (.ofNat 0)), (.int .u8 (.ofNat 0)), (.int .u8 (.ofNat 0)), (.int .u8 (.ofNat 0)), (.int .u8 (.ofNat 0)), (.int .u8 (.ofNat 0)), (.int .u8 (.ofNat 0)), (.int .u8 (.ofNat 0)), (.int .u8 (.ofNat 0)), (.int .u8 (.ofNat 0)), (.int .u8 (.ofNat 0)), (.int .u8 (.ofNat 0)), (.int .u8 (.ofNat 0)), (.int .u8 (.ofNat 0)), (.int .u8 (.ofNat 0)), (.int .u8 (.ofNat 0)), (.int .u8 (.ofNat 0)), (.int .u8 (.ofNat 0)), (.int .u8 (.ofNat 0)), (.int .u8 (.ofNat 0)), (.int .u8 (.ofNat 0)), (.int .u8 (.ofNat 0))]), []⟩]) (.seq (.seq (.reg .false [] [⟨(.some 9), .none, .mov, [(.t 1)]⟩, ⟨(.some 10), .none, .lenT, [(.t 9)]⟩, ⟨(.some 11), .none, (.cmp .gtr), [(.t 10), (.c (.int .i64 (.ofNat 64)))]⟩]) (.cond (.t 11) (.seq (.reg .false [] [⟨(.some 12), .none, (.mk [(.int .u8 (.ofNat 0)), (.int .u8 (.ofNat 0)), (.int .u8 (.ofNat 0)), (.int .u8 (.ofNat 0)), (.int .u8 (.ofNat 0)), (.int .u8 (.ofNat 0)), (.int .u8 (.ofNat 0)), (.int .u8 (.ofNat 0)), (.int .u8 (.ofNat 0)), (.int .u8 (.ofNat 0)), (.int .u8 (.ofNat 0)), (.int .u8 (.ofNat 0)), (.int .u8 (.ofNat 0)), (.int .u8 (.ofNat 0)), (.int .u8 (.ofNat 0)), (.int .u8 (.ofNat 0)), (.int .u8 (.ofNat 0)), (.int .u8 (.ofNat 0)), (.int .u8 (.ofNat 0)), (.int .u8 (.ofNat 0)), (.int .u8 (.ofNat 0)), (.int .u8 (.ofNat 0)), (.int .u8 (.ofNat 0)), (.int .u8 (.ofNat 0)), (.int .u8 (.ofNat 0)), (.int .u8 (.ofNat 0)), (.int .u8 (.ofNat 0)), (.int .u8 (.ofNat 0)), (.int .u8 (.ofNat 0)), (.int .u8 (.ofNat 0)), (.int .u8 (.ofNat 0)), (.int .u8 (.ofNat 0))] []), []⟩, ⟨.none, .none, (.stn 32), [(.t 6), (.t 12)]⟩]) .ret) .skip)) (.seq (.reg .false [] [⟨(.some 13), .none, (.ldn 32), [(.t 3)]⟩, ⟨(.some 14), .none, .mov, [(.t 1)]⟩, ⟨(.some 15), .none, (.call 80), [(.t 13), (.t 14)]⟩, ⟨(.some 7), .none, .mov, [(.t 15)]⟩]) (.seq (.seq (.reg .false [] [⟨(.some 8), .none, .mov, [(.c (.int .i64 (.ofNat 0)))]⟩]) (.block 0 (.loop (.seq (.seq (.reg .false [] [⟨(.some 16), .none, .mov, [(.t 8)]⟩, ⟨(.some 17), .none, .mov, [(.t 2)]⟩, ⟨(.some 18), .none, .len, [(.t 17)]⟩, ⟨(.some 19), .none, (.cmp .lss), [(.t 16), (.t 18)]⟩]) (.cond (.t 19) .skip (.exit 0))) (.seq (.block 1 (.reg .true [0, 0, 0, 6, 14, 30, 62, 126, 255, 0, 0, 1536, 3584, 8191, 16383] [⟨(.some 22), .none, .mov, [(.t 7)]⟩, ⟨(.some 23), .none, .mov, [(.t 2)]⟩, ⟨(.some 24), .none, .mov, [(.t 8)]⟩, ⟨(.some 25), .none, (.ixS 1), [(.t 23), (.t 24)]⟩, ⟨(.some 26), .none, (.ld1 .slc), [(.t 25)]⟩, ⟨(.some 27), .none, .len, [(.t 26)]⟩, ⟨(.some 28), .none, (.cvt .u64), [(.t 27)]⟩, ⟨(.some 29), .none, (.call 45), [(.t 28)]⟩, ⟨(.some 30), .none, (.app 1 1), [(.t 22), (.t 29)]⟩, ⟨(.some 31), .none, .mov, [(.t 2)]⟩, ⟨(.some 32), .none, .mov, [(.t 8)]⟩, ⟨(.some 33), .none, (.ixS 1), [(.t 31), (.t 32)]⟩, ⟨(.some 34), .none, (.ld1 .slc), [(.t 33)]⟩, ⟨(.some 35), .none, (.app 1 1), [(.t 30), (.t 34)]⟩, ⟨(.some 7), .none, .mov, [(.t 35)]⟩])) (.reg .false [] [⟨(.some 20), .none, .mov, [(.t 8)]⟩, ⟨(.some 21), .none, (.bin .add .i64), [(.t 20), (.c (.int .i64 (.ofNat 1)))]⟩, ⟨(.some 8), .none, .mov, [(.t 21)]⟩])))))) (.seq (.reg .false [] [⟨(.some 36), .none, .mov, [(.t 7)]⟩, ⟨(.some 37), .none, (.call 24), [(.t 36)]⟩, ⟨.none, .none, (.stn 32), [(.t 6), (.t 37)]⟩]) .ret)))))⟩
theorem ok40 : FnOK Try.prog 40 vf40 := .of Try.func40 (by kernel_rfl) (by kernel_rfl)
def vf41 : VF := ⟨35, [(.cell 6 32)], (.seq (.reg .false [] [⟨(.some 3), .none, .box, [(.t 0)]⟩, ⟨(.some 6), .none, (.alloc [(.int .u8 (.ofNat 0)), (.int .u8 (.ofNat 0)), (.int .u8 (.ofNat 0)), (.int .u8 (.ofNat 0)), (.int .u8 (.ofNat 0)), (.int .u8 (.ofNat 0)), (.int .u8 (.ofNat 0)), (.int .u8 (.ofNat 0)), (.int .u8 (.ofNat 0)), (.int .u8 (.ofNat 0)), (.int .u8 (.ofNat 0)), (.int .u8 (.ofNat 0)), (.int .u8 (.ofNat 0)), (.int .u8 (.ofNat 0)), (.int .u8 (.ofNat 0)), (.int .u8 (.ofNat 0)), (.int .u8 (.ofNat 0)), (.int .u8 (.ofNat 0)), (.int .u8 (.ofNat 0)), (.int .u8 (.ofNat 0)), (.int .u8 (.ofNat 0)), (.int .u8 (.ofNat 0)), (.int .u8 (.ofNat 0)), (.int .u8 (.ofNat 0)), (.int .u8 (.ofNat 0)), (.int .u8 (.ofNat 0)), (.int .u8 (.ofNat 0)), (.int .u8 (.ofNat 0)), (.int .u8 (.ofNat 0)), (.int .u8 (.ofNat 0)), (.int .u8 (.ofNat 0)), (.int .u8 (.ofNat 0))]), []⟩]) (.seq (.seq (.reg .false [] [⟨(.some 10), .none, .mov, [(.t 1)]⟩, ⟨(.some 11), .none, .lenT, [(.t 10)]⟩, ⟨(.some 12), .none, (.cmp .gtr), [(.t 11), (.c (.int .i64 (.ofNat 64)))]⟩]) (.cond (.t 12) (.seq (.reg .false [] [⟨(.some 13), .none, (.mk [(.int .u8 (.ofNat 0)), (.int .u8 (.ofNat 0)), (.int .u8 (.ofNat 0)), (.int .u8 (.ofNat 0)), (.int .u8 (.ofNat 0)), (.int .u8 (.ofNat 0)), (.int .u8 (.ofNat 0)), (.int .u8 (.ofNat 0)), (.int .u8 (.ofNat 0)), (.int .u8 (.ofNat 0)), (.int .u8 (.ofNat 0)), (.int .u8 (.ofNat 0)), (.int .u8 (.ofNat 0)), (.int .u8 (.ofNat 0)), (.int .u8 (.ofNat 0)), (.int .u8 (.ofNat 0)), (.int .u8 (.ofNat 0)), (.int .u8 (.ofNat 0)), (.int .u8 (.ofNat 0)), (.int .u8 (.ofNat 0)), (.int .u8 (.ofNat 0)), (.int .u8 (.ofNat 0)), (.int .u8 (.ofNat 0)), (.int .u8 (.ofNat 0)), (.int .u8 (.ofNat 0)), (.int .u8 (.ofNat 0)), (.int .u8 (.ofNat 0)), (.int .u8 (.ofNat 0)), (.int .u8 (.ofNat 0)), (.int .u8 (.ofNat 0)), (.int .u8 (.ofNat 0)), (.int .u8 (.ofNat 0))] []), []⟩, ⟨.none, .none, (.stn 32), [(.t 6), (.t 13)]⟩]) .ret) .skip)) (.seq (.reg .false [] [⟨(.some 14), .none, (.ldn 32), [(.t 3)]⟩, ⟨(.some 15), .none, .mov, [(.t 1)]⟩, ⟨(.some 16), .none, (.call 79), [(.t 14), (.t 15)]⟩, ⟨(.some 17), .none, (.mks [.nils] 1 [⟨0, 1⟩]), [(.t 16)]⟩, ⟨(.some 7), .none, .mov, [(.t 17)]⟩]) (.seq (.seq (.reg .false [] [⟨(.some 18), .none, .mov, [(.t 2)]⟩, ⟨(.some 19), .none, .len, [(.t 18)]⟩, ⟨(.some 20), .none, .mov, [(.c (.int .i64 (.ofNat 0)))]⟩]) (.block 0 (.loop (.seq (.reg .false [] [⟨(.some 21), .none, (.cmp .lss), [(.t 20), (.t 19)]⟩]) (.seq (.cond (.t 21) .skip (.exit 0)) (.seq (.block 1 (.seq (.reg .false [] [⟨(.some 22), .none, (.ixS 1), [(.t 18), (.t 20)]⟩, ⟨(.some 23), .none, (.ld1 .slc), [(.t 22)]⟩, ⟨(.some 9), .none, .mov, [(.t 23)]⟩]) (.reg .false [] [⟨(.some 24), .none, .mov, [(.t 7)]⟩, ⟨(.some 25), .none, .mov, [(.t 9)]⟩, ⟨(.some 26), .none, .len, [(.t 25)]⟩, ⟨(.some 27), .none, (.cvt .u64), [(.t 26)]⟩, ⟨(.some 28), .none, (.call 44), [(.t 27)]⟩, ⟨(.some 29), .none, .mov, [(.t 9)]⟩, ⟨(.some 30), .none, (.mks [.nils, .nils] 2 [⟨0, 1⟩, ⟨1, 1⟩]), [(.t 28), (.t 29)]⟩, ⟨(.some 31), .none, (.app 1 24), [(.t 24), (.t 30)]⟩, ⟨(.some 7), .none, .mov, [(.t 31)]⟩]))) (.reg .false [] [⟨(.some 32), .none, (.bin .add .i64), [(.t 20), (.c (.int .i64 (.ofNat 1)))]⟩, ⟨(.some 20), .none, .mov, [(.t 32)]⟩]))))))) (.seq (.reg .false [] [⟨(.some 33), .none, .mov, [(.t 7)]⟩, ⟨(.some 34), .none, (.call 26), [(.t 33)]⟩, ⟨.none, .none, (.stn 32), [(.t 6), (.t 34)]⟩]) .ret)))))⟩
theorem ok41 : FnOK Try.prog 41 vf41 := .of Try.func41 (by kernel_rfl) (by kernel_rfl)
def vf42 : VF := ⟨13, [(.cell 6 32)], (.seq (.reg .false [] [⟨(.some 3), .none, .box, [(.t 0)]⟩, ⟨(.some 6), .none, (.alloc [(.int .u8 (.ofNat 0)), (.int .u8 (.ofNat 0)), (.int .u8 (.ofNat 0)), (.int .u8 (.ofNat 0)), (.int .u8 (.ofNat 0)), (.int .u8 (.ofNat 0)), (.int .u8 (.ofNat 0)), (.int .u8 (.ofNat 0)), (.int .u8 (.ofNat 0)), (.int .u8 (.ofNat 0)), (.int .u8 (.ofNat 0)), (.int .u8 (.ofNat 0)), (.int .u8 (.ofNat 0)), (.int .u8 (.ofNat 0)), (.int .u8 (.ofNat 0)), (.int .u8 (.ofNat 0)), (.int .u8 (.ofNat 0)), (.int .u8 (.ofNat 0)), (.int .u8 (.ofNat 0)), (.int .u8 (.ofNat 0)), (.int .u8 (.ofNat 0)), (.int .u8 (.ofNat 0)), (.int .u8 (.ofNat 0)), (.int .u8 (.ofNat 0)), (.int .u8 (.ofNat 0)), (.int .u8 (.ofNat 0)), (.int .u8 (.ofNat 0)), (.int .u8 (.ofNat 0)), (.int .u8 (.ofNat 0)), (.int .u8 (.ofNat 0)), (.int .u8 (.ofNat 0)), (.int .u8 (.ofNat 0))]), []⟩]) (.seq (.reg .true [0, 0, 0, 4, 12, 31, 63] [⟨(.some 7), .none, (.ldn 32), [(.t 3)]⟩, ⟨(.some 8), .none, .mov, [(.t 1)]⟩, ⟨(.some 9), .none, .mov, [(.t 2)]⟩, ⟨(.some 10), .none, (.call 44), [(.t 9)]⟩, ⟨(.some 11), .none, (.mks [.nils] 1 [⟨0, 1⟩]), [(.t 10)]⟩, ⟨(.some 12), .none, (.call 41), [(.t 7), (.t 8), (.t 11)]⟩, ⟨.none, .none, (.stn 32), [(.t 6), (.t 12)]⟩]) .ret))⟩
theorem ok42 : FnOK Try.prog 42 vf42 := .of Try.func42 (by kernel_rfl) (by kernel_rfl)
def vf43 : VF := ⟨13, [(.cell 6 32)], (.seq (.reg .false [] [⟨(.some 3), .none, .box, [(.t 0)]⟩, ⟨(.some 6), .none, (.alloc [(.int .u8 (.ofNat 0)), (.int .u8 (.ofNat 0)), (.int .u8 (.ofNat 0)), (.int .u8 (.ofNat 0)), (.int .u8 (.ofNat 0)), (.int .u8 (.ofNat 0)), (.int .u8 (.ofNat 0)), (.int .u8 (.ofNat 0)), (.int .u8 (.ofNat 0)), (.int .u8 (.ofNat 0)), (.int .u8 (.ofNat 0)), (.int .u8 (.ofNat 0)), (.int .u8 (.ofNat 0)), (.int .u8 (.ofNat 0)), (.int .u8 (.ofNat 0)), (.int .u8 (.ofNat 0)), (.int .u8 (.ofNat 0)), (.int .u8 (.ofNat 0)), (.int .u8 (.ofNat 0)), (.int .u8 (.ofNat 0)), (.int .u8 (.ofNat 0)), (.int .u8 (.ofNat 0)), (.int .u8 (.ofNat 0)), (.int .u8 (.ofNat 0)), (.int .u8 (.ofNat 0)), (.int .u8 (.ofNat 0)), (.int .u8 (.ofNat 0)), (.int .u8 (.ofNat 0)), (.int .u8 (.ofNat 0)), (.int .u8 (.ofNat 0)), (.int .u8 (.ofNat 0)), (.int .u8 (.ofNat 0))]), []⟩]) (.seq (.reg .true [0, 0, 0, 4, 12, 31, 63] [⟨(.some 7), .none, (.ldn 32), [(.t 3)]⟩, ⟨(.some 8), .none, .mov, [(.t 1)]⟩, ⟨(.some 9), .none, .mov, [(.t 2)]⟩, ⟨(.some 10), .none, (.call 45), [(.t 9)]⟩, ⟨(.some 11), .none, (.mks [.nils] 1 [⟨0, 1⟩]), [(.t 10)]⟩, ⟨(.some 12), .none, (.call 40), [(.t 7), (.t 8), (.t 11)]⟩, ⟨.none, .none, (.stn 32), [(.t 6), (.t 12)]⟩]) .ret))⟩
theorem ok43 : FnOK Try.prog 43 vf43 := .of Try.func43 (by kernel_rfl) (by kernel_rfl)
def vf44 : VF := ⟨21, [(.tmp 2)], (.seq (.reg .false [] [⟨(.some 2), .none, .mov, [(.c .nils)]⟩]) (.seq (.reg .false [] [⟨(.some 5), .none, (.mksl [(.int .u8 (.ofNat 0))] 1), [(.c (.int .i64 (.ofNat 8))), (.c (.int .i64 (.ofNat 8)))]⟩, ⟨(.some 3), .none, .mov, [(.t 5)]⟩]) (.seq (.seq (.reg .false [] [⟨(.some 6), .none, .mov, [(.t 3)]⟩, ⟨(.some 7), .none, .len, [(.t 6)]⟩, ⟨(.some 8), .none, .mov, [(.c (.int .i64 (.ofNat 0)))]⟩]) (.block 0 (.loop (.seq (.reg .false [] [⟨(.some 9), .none, (.cmp .lss), [(.t 8), (.t 7)]⟩]) (.seq (.cond (.t 9) .skip (.exit 0)) (.seq (.block 1 (.seq (.reg .false [] [⟨(.some 10), .none, .mov, [(.t 8)]⟩, ⟨(.some 4), .none, .mov, [(.t 10)]⟩]) (.reg .false [] [⟨(.some 11), .none, .mov, [(.t 3)]⟩, ⟨(.some 12), .none, .mov, [(.t 4)]⟩, ⟨(.some 13), .none, .mov, [(.t 0)]⟩, ⟨(.some 14), .none, .mov, [(.t 4)]⟩, ⟨(.some 15), .none, (.bin .mul .i64), [(.c (.int .i64 (.ofNat 8))), (.t 14)]⟩, ⟨(.some 16), .none, (.shf .shr .u64), [(.t 13), (.t 15)]⟩, ⟨(.some 17), .none, (.cvt .u8), [(.t 16)]⟩, ⟨(.some 18), .none, (.ixS 1), [(.t 11), (.t 12)]⟩, ⟨.none, .none, .st1, [(.t 18), (.t 17)]⟩]))) (.reg .false [] [⟨(.some 19), .none, (.bin .add .i64), [(.t 8), (.c (.int .i64 (.ofNat 1)))]⟩, ⟨(.some 8), .none, .mov, [(.t 19)]⟩]))))))) (.seq (.reg .false [] [⟨(.some 20), .none, .mov, [(.t 3)]⟩, ⟨(.some 2), .none, .mov, [(.t 20)]⟩]) .ret))))⟩
theorem ok44 : FnOK Try.prog 44 vf44 := .of Try.func44 (by kernel_rfl) (by kernel_rfl)
def vf45 : VF := ⟨18, [(.tmp 2)], (.seq (.reg .false [] [⟨(.some 2), .none, .mov, [(.c .nils)]⟩]) (.seq (.reg .false [] [⟨(.some 3), .none, .mov, [(.c .nils)]⟩]) (.seq (.seq (.reg .false [] [⟨(.some 4), .none, .mov, [(.c (.int .i64 (.ofNat 0)))]⟩]) (.block 0 (.loop (.seq (.seq (.reg .false [] [⟨(.some 5), .none, .mov, [(.t 4)]⟩, ⟨(.some 6), .none, (.cmp .lss), [(.t 5), (.c (.int .i64 (.ofNat 8)))]⟩]) (.cond (.t 6) .skip (.exit 0))) (.seq (.block 1 (.reg .false [] [⟨(.some 9), .none, .mov, [(.t 3)]⟩, ⟨(.some 10), .none, .mov, [(.t 0)]⟩, ⟨(.some 11), .none, .mov, [(.t 4)]⟩, ⟨(.some 12), .none, (.bin .mul .i64), [(.c (.int .i64 (.ofNat 8))), (.t 11)]⟩, ⟨(.some 13), .none, (.shf .shr .u64), [(.t 10), (.t 12)]⟩, ⟨(.some 14), .none, (.cvt .u8), [(.t 13)]⟩, ⟨(.some 15), .none, (.mks [(.int .u8 (.ofNat 0))] 1 [⟨0, 1⟩]), [(.t 14)]⟩, ⟨(.some 16), .none, (.app 1 1), [(.t 9), (.t 15)]⟩, ⟨(.some 3), .none, .mov, [(.t 16)]⟩])) (.reg .false [] [⟨(.some 7), .none, .mov, [(.t 4)]⟩, ⟨(.some 8), .none, (.bin .add .i64), [(.t 7), (.c (.int .i64 (.ofNat 1)))]⟩, ⟨(.some 4), .none, .mov, [(.t 8)]⟩])))))) (.seq (.reg .false [] [⟨(.some 17), .none, .mov, [(.t 3)]⟩, ⟨(.some 2), .none, .mov, [(.t 17)]⟩]) .ret))))⟩
theorem ok45 : FnOK Try.prog 45 vf45 := .of Try.func45 (by kernel_rfl) (by kernel_rfl)
def vf46 : VF := ⟨36, [(.tmp 4)], (.seq (.reg .false [] [⟨(.some 4), .none, .mov, [(.c (.bool .false))]⟩]) (.seq (.reg .false [] [⟨(.some 7), .none, .mov, [(.t 0)]⟩, ⟨(.some 8), .none, .len, [(.t 7)]⟩, ⟨(.some 9), .none, .mov, [(.t 1)]⟩, ⟨(.some 10), .none, .len, [(.t 9)]⟩, ⟨(.some 11), .none, (.bin .xor .i64), [(.t 8), (.t 10)]⟩, ⟨(.some 5), .none, .mov, [(.t 11)]⟩]) (.seq (.seq (.reg .false [] [⟨(.some 12), .none, .mov, [(.t 0)]⟩, ⟨(.some 13), .none, .len, [(.t 12)]⟩, ⟨(.some 14), .none, .mov, [(.t 1)]⟩, ⟨(.some 15), .none, .len, [(.t 14)]⟩, ⟨(.some 16), .none, (.mnx .false), [(.t 13), (.t 15)]⟩, ⟨(.some 17), .none, .mov, [(.c (.int .i64 (.ofNat 0)))]⟩]) (.block 0 (.loop (.seq (.reg .false [] [⟨(.some 18), .none, (.cmp .lss), [(.t 17), (.t 16)]⟩]) (.seq (.cond (.t 18) .skip (.exit 0)) (.seq (.block 1 (.seq (.reg .false [] [⟨(.some 19), .none, .mov, [(.t 17)]⟩, ⟨(.some 6), .none, .mov, [(.t 19)]⟩]) (.reg .true [0, 0, 0, 6, 14, 30, 0, 0, 192, 448, 960, 2046, 4095, 8191] [⟨(.some 20), .none, .mov, [(.t 5)]⟩, ⟨(.some 21), .none, .mov, [(.t 0)]⟩, ⟨(.some 22), .none, .mov, [(.t 6)]⟩, ⟨(.some 23), .none, (.ixS 1), [(.t 21), (.t 22)]⟩, ⟨(.some 24), .none, (.ld1 (.int .u8)), [(.t 23)]⟩, ⟨(.some 25), .none, (.cvt .i64), [(.t 24)]⟩, ⟨(.some 26), .none, .mov, [(.t 1)]⟩, ⟨(.some 27), .none, .mov, [(.t 6)]⟩, ⟨(.some 28), .none, (.ixS 1), [(.t 26), (.t 27)]⟩, ⟨(.some 29), .none, (.ld1 (.int .u8)), [(.t 28)]⟩, ⟨(.some 30), .none, (.cvt .i64), [(.t 29)]⟩, ⟨(.some 31), .none, (.bin .xor .i64), [(.t 25), (.t 30)]⟩, ⟨(.some 32), .none, (.bin .or .i64), [(.t 20), (.t 31)]⟩, ⟨(.some 5), .none, .mov, [(.t 32)]⟩]))) (.reg .false [] [⟨(.some 33), .none, (.bin .add .i64), [(.t 17), (.c (.int .i64 (.ofNat 1)))]⟩, ⟨(.some 17), .none, .mov, [(.t 33)]⟩]))))))) (.seq (.reg .false [] [⟨(.some 34), .none, .mov, [(.t 5)]⟩, ⟨(.some 35), .none, (.cmp .eql), [(.t 34), (.c (.int .i64 (.ofNat 0)))]⟩, ⟨(.some 4), .none, .mov, [(.t 35)]⟩]) .ret))))⟩
theorem ok46 : FnOK Try.prog 46 vf46 := .of Try.func46 (by kernel_rfl) (by kernel_rfl)
def vf47 : VF := ⟨6, [(.cell 2 32)], (.seq (.reg .false [] [⟨(.some 1), .none, .box, [(.t 0)]⟩, ⟨(.some 2), .none, (.alloc [(.int .u8 (.ofNat 0)), (.int .u8 (.ofNat 0)), (.int .u8 (.ofNat 0)), (.int .u8 (.ofNat 0)), (.int .u8 (.ofNat 0)), (.int .u8 (.ofNat 0)), (.int .u8 (.ofNat 0)), (.int .u8 (.ofNat 0)), (.int .u8 (.ofNat 0)), (.int .u8 (.ofNat 0)), (.int .u8 (.ofNat 0)), (.int .u8 (.ofNat 0)), (.int .u8 (.ofNat 0)), (.int .u8 (.ofNat 0)), (.int .u8 (.ofNat 0)), (.int .u8 (.ofNat 0)), (.int .u8 (.ofNat 0)), (.int .u8 (.ofNat 0)), (.int .u8 (.ofNat 0)), (.int .u8 (.ofNat 0)), (.int .u8 (.ofNat 0)), (.int .u8 (.ofNat 0)), (.int .u8 (.ofNat 0)), (.int .u8 (.ofNat 0)), (.int .u8 (.ofNat 0)), (.int .u8 (.ofNat 0)), (.int .u8 (.ofNat 0)), (.int .u8 (.ofNat 0)), (.int .u8 (.ofNat 0)), (.int .u8 (.ofNat 0)), (.int .u8 (.ofNat 0)), (.int .u8 (.ofNat 0))]), []⟩]) (.seq (.reg .false [] [⟨(.some 3), .none, (.slA 32 1 .false .false), [(.t 1)]⟩, ⟨(.some 4), .none, (.mks [.nils] 1 [⟨0, 1⟩]), [(.t 3)]⟩, ⟨(.some 5), .none, (.call 26), [(.t 4)]⟩, ⟨.none, .none, (.stn 32), [(.t 2), (.t 5)]⟩]) .ret))⟩
theorem ok47 : FnOK Try.prog 47 vf47 := .of Try.func47 (by kernel_rfl) (by kernel_rfl)
def vf79 : VF := ⟨23, [(.tmp 4)], (.seq (.reg .false [] [⟨(.some 2), .none, .box, [(.t 0)]⟩, ⟨(.some 4), .none, .mov, [(.c .nils)]⟩]) (.seq (.reg .false [] [⟨(.some 6), .none, .mov, [(.t 1)]⟩, ⟨(.some 7), .none, .lenT, [(.t 6)]⟩, ⟨(.some 8), .none, (.bin .add .i64), [(.c (.int .i64 (.ofNat 1))), (.t 7)]⟩, ⟨(.some 9), .none, (.bin .add .i64), [(.t 8), (.c (.int .i64 (.ofNat 32)))]⟩, ⟨(.some 10), .none, (.mksl [(.int .u8 (.ofNat 0))] 1), [(.c (.int .i64 (.ofNat 0))), (.t 9)]⟩, ⟨(.some 5), .none, .mov, [(.t 10)]⟩]) (.seq (.reg .false [] [⟨(.some 11), .none, .mov, [(.t 5)]⟩, ⟨(.some 12), .none, .mov, [(.t 1)]⟩, ⟨(.some 13), .none, .lenT, [(.t 12)]⟩, ⟨(.some 14), .none, (.cvt .u8), [(.t 13)]⟩, ⟨(.some 15), .none, (.mks [(.int .u8 (.ofNat 0))] 1 [⟨0, 1⟩]), [(.t 14)]⟩, ⟨(.some 16), .none, (.app 1 1), [(.t 11), (.t 15)]⟩, ⟨(.some 5), .none, .mov, [(.t 16)]⟩]) (.seq (.reg .false [] [⟨(.some 17), .none, .mov, [(.t 5)]⟩, ⟨(.some 18), .none, .mov, [(.t 1)]⟩, ⟨(.some 19), .none, (.app 1 1), [(.t 17), (.t 18)]⟩, ⟨(.some 5), .none, .mov, [(.t 19)]⟩]) (.seq (.reg .false [] [⟨(.some 20), .none, .mov, [(.t 5)]⟩, ⟨(.some 21), .none, (.slA 32 1 .false .false), [(.t 2)]⟩, ⟨(.some 22), .none, (.app 1 1), [(.t 20), (.t 21)]⟩, ⟨(.some 4), .none, .mov, [(.t 22)]⟩]) .ret)))))⟩
theorem ok79 : FnOK Try.prog 79 vf79 := .of Try.func79 (by kernel_rfl) (by kernel_rfl)
def vf80 : VF := ⟨13, [(.tmp 4)], (.seq (.reg .false [] [⟨(.some 2), .none, .box, [(.t 0)]⟩, ⟨(.some 4), .none, .mov, [(.c .nils)]⟩]) (.seq (.reg .true [0, 1, 3, 7, 0, 31, 0, 127, 255] [⟨(.some 5), .none, .mov, [(.t 1)]⟩, ⟨(.some 6), .none, .lenT, [(.t 5)]⟩, ⟨(.some 7), .none, (.cvt .u8), [(.t 6)]⟩, ⟨(.some 8), .none, (.mks [(.int .u8 (.ofNat 0))] 1 [⟨0, 1⟩]), [(.t 7)]⟩, ⟨(.some 9), .none, .mov, [(.t 1)]⟩, ⟨(.some 10), .none, (.app 1 1), [(.t 8), (.t 9)]⟩, ⟨(.some 11), .none, (.slA 32 1 .false .false), [(.t 2)]⟩, ⟨(.some 12), .none, (.app 1 1), [(.t 10), (.t 11)]⟩, ⟨(.some 4), .none, .mov, [(.t 12)]⟩]) .ret))⟩
theorem ok80 : FnOK Try.prog 80 vf80 := .of Try.func80 (by kernel_rfl) (by kernel_rfl)

end
end Go.Proofs.Vm

namespace Go.Proofs.Vm
open Go.Vm
noncomputable section

theorem vc44 (n : Int) (Q : Nat → Nat → Nat → Nat → List AV → Prop) :
  (vcall (vcA kdYes noCn noLn) ops0 (tabOne 44 vf44) 200 vf44 [.int .u64 n] [] (endB Q)) =
 (((flatL [(AV.int IntKind.u8 (ops0.cvt IntKind.u8 (ops0.shf BinOp.shr IntKind.u64 n (Int.ofNat 0)))), (AV.int IntKind.u8 (ops0.cvt IntKind.u8 (ops0.shf BinOp.shr IntKind.u64 n (Int.ofNat 8)))), (AV.int IntKind.u8 (ops0.cvt IntKind.u8 (ops0.shf BinOp.shr IntKind.u64 n (Int.ofNat 16)))), (AV.int IntKind.u8 (ops0.cvt IntKind.u8 (ops0.shf BinOp.shr IntKind.u64 n (Int.ofNat 24)))), (AV.int IntKind.u8 (ops0.cvt IntKind.u8 (ops0.shf BinOp.shr IntKind.u64 n (Int.ofNat 32)))), (AV.int IntKind.u8 (ops0.cvt IntKind.u8 (ops0.shf BinOp.shr IntKind.u64 n (Int.ofNat 40)))), (AV.int IntKind.u8 (ops0.cvt IntKind.u8 (ops0.shf BinOp.shr IntKind.u64 n (Int.ofNat 48)))), (AV.int IntKind.u8 (ops0.cvt IntKind.u8 (ops0.shf BinOp.shr IntKind.u64 n (Int.ofNat 56))))]) ∧
 (Q 0 8 8 1 [(AV.int IntKind.u8 (ops0.cvt IntKind.u8 (ops0.shf BinOp.shr IntKind.u64 n (Int.ofNat 0)))), (AV.int IntKind.u8 (ops0.cvt IntKind.u8 (ops0.shf BinOp.shr IntKind.u64 n (Int.ofNat 8)))), (AV.int IntKind.u8 (ops0.cvt IntKind.u8 (ops0.shf BinOp.shr IntKind.u64 n (Int.ofNat 16)))), (AV.int IntKind.u8 (ops0.cvt IntKind.u8 (ops0.shf BinOp.shr IntKind.u64 n (Int.ofNat 24)))), (AV.int IntKind.u8 (ops0.cvt IntKind.u8 (ops0.shf BinOp.shr IntKind.u64 n (Int.ofNat 32)))), (AV.int IntKind.u8 (ops0.cvt IntKind.u8 (ops0.shf BinOp.shr IntKind.u64 n (Int.ofNat 40)))), (AV.int IntKind.u8 (ops0.cvt IntKind.u8 (ops0.shf BinOp.shr IntKind.u64 n (Int.ofNat 48)))), (AV.int IntKind.u8 (ops0.cvt IntKind.u8 (ops0.shf BinOp.shr IntKind.u64 n (Int.ofNat 56))))]))) := by kernel_rfl

theorem vc45 (n : Int) (Q : Nat → Nat → Nat → Nat → List AV → Prop) :
  (vcall (vcA kdYes noCn noLn) ops0 (tabOne 45 vf45) 200 vf45 [.int .u64 n] [] (endB Q)) =
 (((flatL [(AV.int IntKind.u8 (ops0.cvt IntKind.u8 (ops0.shf BinOp.shr IntKind.u64 n (Int.ofNat 0)))), (AV.int IntKind.u8 (ops0.cvt IntKind.u8 (ops0.shf BinOp.shr IntKind.u64 n (Int.ofNat 8)))), (AV.int IntKind.u8 (ops0.cvt IntKind.u8 (ops0.shf BinOp.shr IntKind.u64 n (Int.ofNat 16)))), (AV.int IntKind.u8 (ops0.cvt IntKind.u8 (ops0.shf BinOp.shr IntKind.u64 n (Int.ofNat 24)))), (AV.int IntKind.u8 (ops0.cvt IntKind.u8 (ops0.shf BinOp.shr IntKind.u64 n (Int.ofNat 32)))), (AV.int IntKind.u8 (ops0.cvt IntKind.u8 (ops0.shf BinOp.shr IntKind.u64 n (Int.ofNat 40)))), (AV.int IntKind.u8 (ops0.cvt IntKind.u8 (ops0.shf BinOp.shr IntKind.u64 n (Int.ofNat 48)))), (AV.int IntKind.u8 (ops0.cvt IntKind.u8 (ops0.shf BinOp.shr IntKind.u64 n (Int.ofNat 56))))]) ∧
 (Q 0 8 8 1 [(AV.int IntKind.u8 (ops0.cvt IntKind.u8 (ops0.shf BinOp.shr IntKind.u64 n (Int.ofNat 0)))), (AV.int IntKind.u8 (ops0.cvt IntKind.u8 (ops0.shf BinOp.shr IntKind.u64 n (Int.ofNat 8)))), (AV.int IntKind.u8 (ops0.cvt IntKind.u8 (ops0.shf BinOp.shr IntKind.u64 n (Int.ofNat 16)))), (AV.int IntKind.u8 (ops0.cvt IntKind.u8 (ops0.shf BinOp.shr IntKind.u64 n (Int.ofNat 24)))), (AV.int IntKind.u8 (ops0.cvt IntKind.u8 (ops0.shf BinOp.shr IntKind.u64 n (Int.ofNat 32)))), (AV.int IntKind.u8 (ops0.cvt IntKind.u8 (ops0.shf BinOp.shr IntKind.u64 n (Int.ofNat 40)))), (AV.int IntKind.u8 (ops0.cvt IntKind.u8 (ops0.shf BinOp.shr IntKind.u64 n (Int.ofNat 48)))), (AV.int IntKind.u8 (ops0.cvt IntKind.u8 (ops0.shf BinOp.shr IntKind.u64 n (Int.ofNat 56))))]))) := by kernel_rfl

theorem vc79 (key : List AV) (l : List UInt8) (Q : Nat → Nat → Nat → Nat → List AV → Prop) :
  (vcall (vcA kdYes noCn noLn) ops0 (tabOne 79 vf79) 200 vf79 [.agg key, .str l] [] (endB Q)) =
 ((Chk (ops0.mkr (Int.ofNat 0) (ops0.bin BinOp.add IntKind.i64 (ops0.bin BinOp.add IntKind.i64 (Int.ofNat 1) (ops0.ofn (ops0.slen l))) (Int.ofNat 32)) 1)
 (Chk (ops0.room 1 (ops0.slen l) 1)
 (Chk (ops0.le 32 (ops0.len key))
 (Chk (ops0.le (ops0.add 0 (ops0.mul (ops0.add 1 (ops0.slen l)) 1)) (ops0.len ((AV.int IntKind.u8 (ops0.cvt IntKind.u8 (ops0.ofn (ops0.slen l)))) :: (([] : List AV) ++ (ops0.scells l)))))
 (Chk (ops0.le 32 (ops0.len key))
 (Chk (ops0.room (ops0.add 1 (ops0.slen l)) 32 1)
 ((flatL (ops0.app (ops0.ext ((AV.int IntKind.u8 (ops0.cvt IntKind.u8 (ops0.ofn (ops0.slen l)))) :: (([] : List AV) ++ (ops0.scells l))) 0 (ops0.mul (ops0.add 1 (ops0.slen l)) 1)) (ops0.ext key 0 32))) ∧
 (Q 0 (ops0.add (ops0.add 1 (ops0.slen l)) 32) (ops0.add (ops0.add 1 (ops0.slen l)) 32) 1 (ops0.app (ops0.ext ((AV.int IntKind.u8 (ops0.cvt IntKind.u8 (ops0.ofn (ops0.slen l)))) :: (([] : List AV) ++ (ops0.scells l))) 0 (ops0.mul (ops0.add 1 (ops0.slen l)) 1)) (ops0.ext key 0 32))))))))))) := by kernel_rfl

theorem vc80 (key : List AV) (l : List UInt8) (Q : Nat → Nat → Nat → Nat → List AV → Prop) :
  (vcall (vcA kdYes noCn noLn) ops0 (tabOne 80 vf80) 200 vf80 [.agg key, .str l] [] (endB Q)) =
 ((Br (ops0.lt 0 (ops0.slen l))
 (Chk (ops0.room 1 (ops0.slen l) 1)
 (Chk (ops0.le 32 (ops0.len key))
 (Chk (ops0.le (ops0.add 0 (ops0.mul (ops0.add 1 (ops0.slen l)) 1)) (ops0.len ((AV.int IntKind.u8 (ops0.cvt IntKind.u8 (ops0.ofn (ops0.slen l)))) :: (([] : List AV) ++ (ops0.scells l)))))
 (Chk (ops0.le 32 (ops0.len key))
 (Chk (ops0.room (ops0.add 1 (ops0.slen l)) 32 1)
 ((flatL (ops0.app (ops0.ext ((AV.int IntKind.u8 (ops0.cvt IntKind.u8 (ops0.ofn (ops0.slen l)))) :: (([] : List AV) ++ (ops0.scells l))) 0 (ops0.mul (ops0.add 1 (ops0.slen l)) 1)) (ops0.ext key 0 32))) ∧
 (Q 0 (ops0.add (ops0.add 1 (ops0.slen l)) 32) (ops0.add (ops0.add 1 (ops0.slen l)) 32) 1 (ops0.app (ops0.ext ((AV.int IntKind.u8 (ops0.cvt IntKind.u8 (ops0.ofn (ops0.slen l)))) :: (([] : List AV) ++ (ops0.scells l))) 0 (ops0.mul (ops0.add 1 (ops0.slen l)) 1)) (ops0.ext key 0 32)))))))))
 (Chk (ops0.le 32 (ops0.len key))
 (Chk (ops0.le 32 (ops0.len key))
 ((flatL ((AV.int IntKind.u8 (ops0.cvt IntKind.u8 (ops0.ofn (ops0.slen l)))) :: (([] : List AV) ++ (ops0.ext key 0 32)))) ∧
 (Q 0 33 33 1 ((AV.int IntKind.u8 (ops0.cvt IntKind.u8 (ops0.ofn (ops0.slen l)))) :: (([] : List AV) ++ (ops0.ext key 0 32))))))))) := by kernel_rfl

/-- A number's bytes. -/
def bytesN (k : Nat) : List UInt8 := [UInt8.ofNat (k / 2 ^ 0), UInt8.ofNat (k / 2 ^ 8), UInt8.ofNat (k / 2 ^ 16), UInt8.ofNat (k / 2 ^ 24), UInt8.ofNat (k / 2 ^ 32), UInt8.ofNat (k / 2 ^ 40), UInt8.ofNat (k / 2 ^ 48), UInt8.ofNat (k / 2 ^ 56)]
/-- What stands ahead. -/
def headL (key l : List UInt8) : List UInt8 := UInt8.ofNat l.length :: (l ++ key)
theorem headL_length (key l : List UInt8) : (headL key l).length = l.length + key.length + 1 := by
  unfold headL
  rw [List.length_cons, List.length_append]

theorem shr8 (k s : Nat) (h : s ≤ 64) : ops0.cvt .u8 (ops0.shf .shr .u64 (Int.ofNat k) (Int.ofNat s)) = Int.ofNat (UInt8.ofNat (k / 2 ^ s)).toNat := by
  have e1 : ops0.shf .shr .u64 (Int.ofNat k) (Int.ofNat s) = Int.ofNat (k / 2 ^ s) := by
    show (Int.ofNat k).fdiv (2 ^ (Nat.min (Int.ofNat s).toNat 64)) = _
    have : Nat.min (Int.ofNat s).toNat 64 = s := Nat.min_eq_left h
    rw [this]
    have e2 : (2 : Int) ^ s = Int.ofNat (2 ^ s) := by simp
    rw [e2]
    exact Int.fdiv_eq_ediv_of_nonneg _ (Int.natCast_nonneg _)
  rw [e1]
  generalize k / 2 ^ s = q
  show IntKind.u8.wrap (Int.ofNat q) = _
  simp [IntKind.wrap, IntKind.bits, IntKind.signed]

theorem flatL8 (a b c d e f g h : Int) : flatL [.int .u8 a, .int .u8 b, .int .u8 c, .int .u8 d, .int .u8 e, .int .u8 f, .int .u8 g, .int .u8 h] := by
  intro x hx
  simp only [List.mem_cons, List.not_mem_nil, or_false] at hx
  rcases hx with rfl | rfl | rfl | rfl | rfl | rfl | rfl | rfl <;> rfl

theorem bytes_cells (k : Nat) : [AV.int IntKind.u8 (ops0.cvt IntKind.u8 (ops0.shf BinOp.shr IntKind.u64 (Int.ofNat k) (Int.ofNat 0))), .int IntKind.u8 (ops0.cvt IntKind.u8 (ops0.shf BinOp.shr IntKind.u64 (Int.ofNat k) (Int.ofNat 8))), .int IntKind.u8 (ops0.cvt IntKind.u8 (ops0.shf BinOp.shr IntKind.u64 (Int.ofNat k) (Int.ofNat 16))), .int IntKind.u8 (ops0.cvt IntKind.u8 (ops0.shf BinOp.shr IntKind.u64 (Int.ofNat k) (Int.ofNat 24))),
    .int IntKind.u8 (ops0.cvt IntKind.u8 (ops0.shf BinOp.shr IntKind.u64 (Int.ofNat k) (Int.ofNat 32))), .int IntKind.u8 (ops0.cvt IntKind.u8 (ops0.shf BinOp.shr IntKind.u64 (Int.ofNat k) (Int.ofNat 40))), .int IntKind.u8 (ops0.cvt IntKind.u8 (ops0.shf BinOp.shr IntKind.u64 (Int.ofNat k) (Int.ofNat 48))), .int IntKind.u8 (ops0.cvt IntKind.u8 (ops0.shf BinOp.shr IntKind.u64 (Int.ofNat k) (Int.ofNat 56)))] = (bytesN k).map by8 := by
  rw [shr8 k 0 (by decide), shr8 k 8 (by decide), shr8 k 16 (by decide), shr8 k 24 (by decide), shr8 k 32 (by decide), shr8 k 40 (by decide), shr8 k 48 (by decide), shr8 k 56 (by decide)]
  rfl

theorem bytes44 (k : Nat) : CallTo Try.prog 44 [.int .u64 (Int.ofNat k)] [] (.slc 0 0 8 8 1) [.cells ((bytesN k).map by8)] [] := by
  refine call_b (noCn_ok _) (noLn_ok _) (tabOne_ok ok44) (tabOne_self 44 vf44) (n := 200) (g := kdYes) ?_
  rw [vc44]
  exact ⟨flatL8 _ _ _ _ _ _ _ _, rfl, rfl, rfl, rfl, bytes_cells k⟩
theorem bytes45 (k : Nat) : CallTo Try.prog 45 [.int .u64 (Int.ofNat k)] [] (.slc 0 0 8 8 1) [.cells ((bytesN k).map by8)] [] := by
  refine call_b (noCn_ok _) (noLn_ok _) (tabOne_ok ok45) (tabOne_self 45 vf45) (n := 200) (g := kdYes) ?_
  rw [vc45]
  exact ⟨flatL8 _ _ _ _ _ _ _ _, rfl, rfl, rfl, rfl, bytes_cells k⟩

theorem head_cell (l : List UInt8) (h : l.length ≤ 64) : AV.int IntKind.u8 (ops0.cvt IntKind.u8 (ops0.ofn (ops0.slen l))) = by8 (UInt8.ofNat l.length) := by
  rw [nSlen, nOfn, nC8 (by omega)]
  unfold by8
  rw [UInt8.toNat_ofNat_of_lt' (by show _ < 256; omega)]

theorem head_all (key l : List UInt8) : by8 (UInt8.ofNat l.length) :: ((([] : List AV) ++ l.map by8) ++ key.map by8) = (headL key l).map by8 := by
  unfold headL
  rw [List.nil_append, List.map_cons, List.map_append]

theorem head79 (key l : List UInt8) (hk : key.length = 32) (hl : l.length ≤ 64) : CallTo Try.prog 79 [.agg (key.map by8), .str l] [] (.slc 0 0 (l.length + 33) (l.length + 33) 1) [.cells ((headL key l).map by8)] [] := by
  refine call_b (noCn_ok _) (noLn_ok _) (tabOne_ok ok79) (tabOne_self 79 vf79) (n := 200) (g := kdYes) ?_
  rw [vc79, head_cell l hl]
  have hkl : (key.map by8).length = 32 := by rw [List.length_map, hk]
  have e1 : ops0.ext (key.map by8) 0 32 = key.map by8 := by rw [nExt, List.drop_zero, List.take_of_length_le (by omega)]
  have e2 : ops0.ext (by8 (UInt8.ofNat l.length) :: (([] : List AV) ++ ops0.scells l)) 0 (ops0.mul (ops0.add 1 (ops0.slen l)) 1) = by8 (UInt8.ofNat l.length) :: (([] : List AV) ++ l.map by8) := by
    rw [nExt, List.drop_zero, List.take_of_length_le (by rw [nTimes, nPlus, nSlen, nScells]; simp; omega)]
    rfl
  rw [e1, e2]
  simp (disch := omega) only [nSlen, nOfn, nAdd, nMkr, nRoom, nLe, nLen, nPlus, nTimes, nScells, hkl]
  refine Chk.mk (by simp; omega) (Chk.mk (decide_eq_true (by omega)) (Chk.mk (decide_eq_true (by omega)) (Chk.mk (decide_eq_true (by simp; omega)) (Chk.mk (decide_eq_true (by omega)) (Chk.mk (decide_eq_true (by omega)) ?_)))))
  rw [nApp, List.cons_append, head_all]
  exact ⟨flat_by8 _, by trivial, by omega, by omega, by trivial, rfl⟩

theorem head80 (key l : List UInt8) (hk : key.length = 32) (hl : l.length ≤ 64) : CallTo Try.prog 80 [.agg (key.map by8), .str l] [] (.slc 0 0 (l.length + 33) (l.length + 33) 1) [.cells ((headL key l).map by8)] [] := by
  refine call_b (noCn_ok _) (noLn_ok _) (tabOne_ok ok80) (tabOne_self 80 vf80) (n := 200) (g := kdYes) ?_
  rw [vc80, head_cell l hl]
  have hkl : (key.map by8).length = 32 := by rw [List.length_map, hk]
  have e1 : ops0.ext (key.map by8) 0 32 = key.map by8 := by rw [nExt, List.drop_zero, List.take_of_length_le (by omega)]
  have e2 : ops0.ext (by8 (UInt8.ofNat l.length) :: (([] : List AV) ++ ops0.scells l)) 0 (ops0.mul (ops0.add 1 (ops0.slen l)) 1) = by8 (UInt8.ofNat l.length) :: (([] : List AV) ++ l.map by8) := by
    rw [nExt, List.drop_zero, List.take_of_length_le (by rw [nTimes, nPlus, nSlen, nScells]; simp; omega)]
    rfl
  rw [e1, e2]
  simp (disch := omega) only [nSlen, nOfn, nAdd, nMkr, nRoom, nLe, nLt, nLen, nPlus, nTimes, nScells, hkl]
  refine Br.mk (fun h0 => ?_) (fun h0 => ?_)
  · refine Chk.mk (decide_eq_true (by omega)) (Chk.mk (decide_eq_true (by omega)) (Chk.mk (decide_eq_true (by simp; omega)) (Chk.mk (decide_eq_true (by omega)) (Chk.mk (decide_eq_true (by omega)) ?_))))
    rw [nApp, List.cons_append, head_all]
    exact ⟨flat_by8 _, by trivial, by omega, by omega, by trivial, rfl⟩
  · have h0 : l = [] := by
      have := of_decide_eq_false h0
      exact List.eq_nil_of_length_eq_zero (by omega)
    subst h0
    refine Chk.mk (decide_eq_true (by omega)) (Chk.mk (decide_eq_true (by omega)) ?_)
    exact ⟨flat_by8 (headL key []), by trivial, by trivial, by trivial, by trivial, by trivial⟩

/-- Bytes of zero. -/
def z8 (n : Nat) : List AV := List.replicate n (by8 0)
theorem z8_eq (n : Nat) : z8 n = (List.replicate n (0 : UInt8)).map by8 := by rw [List.map_replicate]; rfl
theorem z8_flat (n : Nat) : flatL (z8 n) := by rw [z8_eq]; exact flat_by8 _
theorem z8_length (n : Nat) : (z8 n).length = n := List.length_replicate
/-- 32 bytes. -/
def PKey (ks : List AV) : Prop := ∃ key : List UInt8, key.length = 32 ∧ ks = key.map by8
structure MF where
  bytes : Int → List AV
  head : List AV → List UInt8 → List AV
def mf0 : MF := ⟨fun n => (bytesN n.toNat).map by8, fun ks l => (headL (bytesA ks) l).map by8⟩
def cnM1 (S : MF) : CnF := fun f vals H => match f, vals with
  | 44, [.int .u64 n] => some (0 ≤ n, .ok (.slc (size H) 0 8 8 1) (join H [.cells (S.bytes n)]) [])
  | 45, [.int .u64 n] => some (0 ≤ n, .ok (.slc (size H) 0 8 8 1) (join H [.cells (S.bytes n)]) [])
  | 79, [.agg ks, .str l] => some (PKey ks ∧ l.length ≤ 64, .ok (.slc (size H) 0 (ops0.add (ops0.slen l) 33) (ops0.add (ops0.slen l) 33) 1) (join H [.cells (S.head ks l)]) [])
  | 80, [.agg ks, .str l] => some (PKey ks ∧ l.length ≤ 64, .ok (.slc (size H) 0 (ops0.add (ops0.slen l) 33) (ops0.add (ops0.slen l) 33) 1) (join H [.cells (S.head ks l)]) [])
  | _, _ => none

theorem cnM1_ok : CnOK Try.prog (cnM1 mf0) := by
  intro f vals H p x e hp
  unfold cnM1 at e
  split at e
  · rename_i n
    cases e
    obtain ⟨m, rfl⟩ : ∃ m : Nat, n = Int.ofNat m := ⟨n.toNat, (Int.toNat_of_nonneg hp).symm⟩
    exact CallTo.lookS (bytes44 m) (flat_by8 _) (.cons (Vw.int H _ _) .nil)
  · rename_i n
    cases e
    obtain ⟨m, rfl⟩ : ∃ m : Nat, n = Int.ofNat m := ⟨n.toNat, (Int.toNat_of_nonneg hp).symm⟩
    exact CallTo.lookS (bytes45 m) (flat_by8 _) (.cons (Vw.int H _ _) .nil)
  · rename_i ks l
    cases e
    obtain ⟨⟨key, hk, rfl⟩, hl⟩ := hp
    have h := CallTo.lookS (head79 key l hk hl) (flat_by8 _) (.cons (Vw.agg H (Still.flat (flat_by8 key))) (.cons (Vw.str H l) .nil))
    show CallTo _ _ _ _ _ (join H [.cells ((headL (bytesA (key.map by8)) l).map by8)]) _
    rw [bytesA_by8]
    exact h
  · rename_i ks l
    cases e
    obtain ⟨⟨key, hk, rfl⟩, hl⟩ := hp
    have h := CallTo.lookS (head80 key l hk hl) (flat_by8 _) (.cons (Vw.agg H (Still.flat (flat_by8 key))) (.cons (Vw.str H l) .nil))
    show CallTo _ _ _ _ _ (join H [.cells ((headL (bytesA (key.map by8)) l).map by8)]) _
    rw [bytesA_by8]
    exact h
  · cases e

/-- With what layer 3 does. -/
structure NF extends AF where
  toMF : MF
def nf0 : NF := { af0 with toMF := mf0 }
def cnN1 (S : NF) : CnF := cnOr (cnM1 S.toMF) (cnA S.toAF)
theorem cnN1_ok : CnOK Try.prog (cnN1 nf0) := cnOr_ok cnM1_ok cnA_ok

end
end Go.Proofs.Vm

namespace Go.Proofs.Vm
open Go.Vm
noncomputable section
/-- Parts, each with its length ahead. -/
def textL (pl : List (List UInt8)) : List UInt8 := (pl.map fun p => bytesN p.length ++ p).flatten
def partsL (ps : List AV) (o n : Nat) : List (List UInt8) := ((ps.drop o).take n).map partA
/-- A part, and its length ahead, as slices. -/
def twoA (p : AV) : List AV := [.ros ((bytesN (partA p).length).map by8) 0 8 8 false, p]
def rowsA (hd : List AV) (m c : Nat) (ps : List AV) (o n : Nat) : List AV := .ros hd 0 m c false :: (((ps.drop o).take n).map twoA).flatten
/-- What the loops come to (kept apart). -/
structure TF where
  rows : List AV → Nat → Nat → List AV → Nat → Nat → List AV
  txt : List AV → List AV → Nat → Nat → List AV
  len : Nat → List AV → Nat → Nat → Nat
def tf0 : TF := ⟨rowsA, fun hd ps o n => hd ++ (textL (partsL ps o n)).map by8, fun m ps o n => m + (textL (partsL ps o n)).length⟩
def P41 (ks out hd : List AV) (m : Nat) (ps : List AV) (o n : Nat) : Prop := flatL ks ∧ flatL out ∧ (∃ lb : List UInt8, hd = lb.map by8 ∧ m = lb.length) ∧ PPs ps o n ∧ n < 8589934592
/-- Each part lies within its cells. -/
def PRm (ps : List AV) (o n : Nat) : Prop := ∀ j, j < n → ∀ pc off len cap ex, ps[o + j]? = some (.ros pc off len cap ex) → off + len ≤ pc.length
def P40 (ks out hd : List AV) (m : Nat) (ps : List AV) (o n : Nat) : Prop := PRm ps o n ∧ flatL ks ∧ flatL out ∧ m ≤ 1000 ∧ (∃ lb : List UInt8, hd = lb.map by8 ∧ m = lb.length) ∧ PPs ps o n ∧ (textL (partsL ps o n)).length < 68719476736
def lp41 : VC := (.seq (.reg .false [] [⟨(.some 21), .none, (.cmp .lss), [(.t 20), (.t 19)]⟩]) (.seq (.cond (.t 21) .skip (.exit 0)) (.seq (.block 1 (.seq (.reg .false [] [⟨(.some 22), .none, (.ixS 1), [(.t 18), (.t 20)]⟩, ⟨(.some 23), .none, (.ld1 .slc), [(.t 22)]⟩, ⟨(.some 9), .none, .mov, [(.t 23)]⟩]) (.reg .false [] [⟨(.some 24), .none, .mov, [(.t 7)]⟩, ⟨(.some 25), .none, .mov, [(.t 9)]⟩, ⟨(.some 26), .none, .len, [(.t 25)]⟩, ⟨(.some 27), .none, (.cvt .u64), [(.t 26)]⟩, ⟨(.some 28), .none, (.call 44), [(.t 27)]⟩, ⟨(.some 29), .none, .mov, [(.t 9)]⟩, ⟨(.some 30), .none, (.mks [.nils, .nils] 2 [⟨0, 1⟩, ⟨1, 1⟩]), [(.t 28), (.t 29)]⟩, ⟨(.some 31), .none, (.app 1 24), [(.t 24), (.t 30)]⟩, ⟨(.some 7), .none, .mov, [(.t 31)]⟩]))) (.reg .false [] [⟨(.some 32), .none, (.bin .add .i64), [(.t 20), (.c (.int .i64 (.ofNat 1)))]⟩, ⟨(.some 20), .none, .mov, [(.t 32)]⟩]))))
def fr41 (x7 : AV) (ps : List AV) (o n c : Nat) (e : Bool) (i : Nat) : Fr := [.top, .top, .top, .top, .top, .top, .ptr 1 0, x7, .top, .top, .top, .top, .top, .top, .top, .top, .top, .top, .ros ps o n c e, .int .i64 (Int.ofNat n), .int .i64 (Int.ofNat i), .top, .top, .top, .top, .top, .top, .top, .top, .top, .top, .top, .top, .top, .top]
def mk41 : List Bool := [true, true, true, true, true, true, false, false, true, true, true, true, true, true, true, true, true, true, false, false, false, true, true, true, true, true, true, true, true, true, true, true, true, true, true]
def ln41 (F : TF) : LnF := fun n0 b fr H => match slot fr 7, slot fr 18, H with
  | .ros [.slc 2 0 m c' 1] 0 1 1 true, .ros ps o n c e, [.cells ks, .cells out, .cells hd] => some (n0 = 0 ∧ VCis b lp41 ∧ forget mk41 fr = fr41 (.ros [.slc 2 0 m c' 1] 0 1 1 true) ps o n c e 0 ∧ P41 ks out hd m ps o n,
      .ok (.exit 0) (fr41 (.ros (F.rows hd m c' ps o n) 0 (2 * n + 1) (2 * n + 1) false) ps o n c e n) [.cells ks, .cells out])
  | _, _, _ => none
def lp40 : VC := (.seq (.seq (.reg .false [] [⟨(.some 16), .none, .mov, [(.t 8)]⟩, ⟨(.some 17), .none, .mov, [(.t 2)]⟩, ⟨(.some 18), .none, .len, [(.t 17)]⟩, ⟨(.some 19), .none, (.cmp .lss), [(.t 16), (.t 18)]⟩]) (.cond (.t 19) .skip (.exit 0))) (.seq (.block 1 (.reg .true [0, 0, 0, 6, 14, 30, 62, 126, 255, 0, 0, 1536, 3584, 8191, 16383] [⟨(.some 22), .none, .mov, [(.t 7)]⟩, ⟨(.some 23), .none, .mov, [(.t 2)]⟩, ⟨(.some 24), .none, .mov, [(.t 8)]⟩, ⟨(.some 25), .none, (.ixS 1), [(.t 23), (.t 24)]⟩, ⟨(.some 26), .none, (.ld1 .slc), [(.t 25)]⟩, ⟨(.some 27), .none, .len, [(.t 26)]⟩, ⟨(.some 28), .none, (.cvt .u64), [(.t 27)]⟩, ⟨(.some 29), .none, (.call 45), [(.t 28)]⟩, ⟨(.some 30), .none, (.app 1 1), [(.t 22), (.t 29)]⟩, ⟨(.some 31), .none, .mov, [(.t 2)]⟩, ⟨(.some 32), .none, .mov, [(.t 8)]⟩, ⟨(.some 33), .none, (.ixS 1), [(.t 31), (.t 32)]⟩, ⟨(.some 34), .none, (.ld1 .slc), [(.t 33)]⟩, ⟨(.some 35), .none, (.app 1 1), [(.t 30), (.t 34)]⟩, ⟨(.some 7), .none, .mov, [(.t 35)]⟩])) (.reg .false [] [⟨(.some 20), .none, .mov, [(.t 8)]⟩, ⟨(.some 21), .none, (.bin .add .i64), [(.t 20), (.c (.int .i64 (.ofNat 1)))]⟩, ⟨(.some 8), .none, .mov, [(.t 21)]⟩])))
def fr40 (L : Nat) (ps : List AV) (o n c : Nat) (e : Bool) (i : Nat) : Fr := [.top, .top, .ros ps o n c e, .top, .top, .top, .ptr 1 0, .slc 2 0 L L 1, .int .i64 (Int.ofNat i), .top, .top, .top, .top, .top, .top, .top, .top, .top, .top, .top, .top, .top, .top, .top, .top, .top, .top, .top, .top, .top, .top, .top, .top, .top, .top, .top, .top, .top]
def mk40 : List Bool := [true, true, false, true, true, true, false, false, false, true, true, true, true, true, true, true, true, true, true, true, true, true, true, true, true, true, true, true, true, true, true, true, true, true, true, true, true, true]
def ln40 (F : TF) : LnF := fun n0 b fr H => match slot fr 7, slot fr 2, H with
  | .slc 2 0 m _ 1, .ros ps o n c e, [.cells ks, .cells out, .cells hd] => some (n0 = 0 ∧ VCis b lp40 ∧ forget mk40 fr = fr40 m ps o n c e 0 ∧ P40 ks out hd m ps o n,
      .ok (.exit 0) (fr40 (F.len m ps o n) ps o n c e n) [.cells ks, .cells out, .cells (F.txt hd ps o n)])
  | _, _, _ => none

theorem vcl41a (S : NF) (ks out hd ps : List AV) (m c' o n c : Nat) (e : Bool) (i : Nat) (Q : Ex → Fr → Hl → Prop) :
  (vm (vcA kdYes (cnN1 S) noLn) ops0 noTab 100 0 lp41 (fr41 (.ros [.ros hd 0 m c' false] 0 1 1 true) ps o n c e i) [.cells ks, .cells out] [] (bodyX mk41 Q)) =
 ((Br (ops0.cmp BinOp.lss (Int.ofNat i) (Int.ofNat n))
 (Chk (ops0.inr (Int.ofNat i) n)
 (∃ ds : (List AV), (∃ off : Nat, (∃ len : Nat, (∃ cap : Nat, (∃ e1 : Bool, ((Nth ps (ops0.adr o (Int.ofNat i) 1) (AV.ros ds off len cap e1)) ∧
 (((Int.ofNat 0) ≤ (ops0.cvt IntKind.u64 (ops0.ofn len))) ∧
 (Q Ex.norm [AV.top, AV.top, AV.top, AV.top, AV.top, AV.top, (AV.ptr 1 0), (AV.slc 3 0 3 3 1), AV.top, AV.top, AV.top, AV.top, AV.top, AV.top, AV.top, AV.top, AV.top, AV.top, (AV.ros ps o n c e), (AV.int IntKind.i64 (Int.ofNat n)), (AV.int IntKind.i64 (ops0.bin BinOp.add IntKind.i64 (Int.ofNat i) (Int.ofNat 1))), AV.top, AV.top, AV.top, AV.top, AV.top, AV.top, AV.top, AV.top, AV.top, AV.top, AV.top, AV.top, AV.top, AV.top] [(Blk.cells ks), (Blk.cells out), (Blk.cells (MF.bytes (NF.toMF S) (ops0.cvt IntKind.u64 (ops0.ofn len)))), (Blk.cells [(AV.ros hd 0 m c' Bool.false), (AV.slc 2 0 8 8 1), (AV.ros ds off len cap e1)])])))))))))
 (Q (Ex.exit 0) [AV.top, AV.top, AV.top, AV.top, AV.top, AV.top, (AV.ptr 1 0), (AV.ros [(AV.ros hd 0 m c' Bool.false)] 0 1 1 Bool.true), AV.top, AV.top, AV.top, AV.top, AV.top, AV.top, AV.top, AV.top, AV.top, AV.top, (AV.ros ps o n c e), (AV.int IntKind.i64 (Int.ofNat n)), (AV.int IntKind.i64 (Int.ofNat i)), AV.top, AV.top, AV.top, AV.top, AV.top, AV.top, AV.top, AV.top, AV.top, AV.top, AV.top, AV.top, AV.top, AV.top] [(Blk.cells ks), (Blk.cells out)]))) := by kernel_rfl

theorem vcl41b (S : NF) (ks out rows ps : List AV) (L o n c : Nat) (e : Bool) (i : Nat) (Q : Ex → Fr → Hl → Prop) :
  (vm (vcA kdYes (cnN1 S) noLn) ops0 noTab 100 0 lp41 (fr41 (.slc 2 0 L L 1) ps o n c e i) [.cells ks, .cells out, .cells rows] [] (bodyX mk41 Q)) =
 ((Br (ops0.cmp BinOp.lss (Int.ofNat i) (Int.ofNat n))
 (Chk (ops0.inr (Int.ofNat i) n)
 (∃ ds : (List AV), (∃ off : Nat, (∃ len : Nat, (∃ cap : Nat, (∃ e1 : Bool, ((Nth ps (ops0.adr o (Int.ofNat i) 1) (AV.ros ds off len cap e1)) ∧
 (((Int.ofNat 0) ≤ (ops0.cvt IntKind.u64 (ops0.ofn len))) ∧
 (Chk (ops0.le (ops0.add 0 (ops0.mul L 1)) (ops0.len rows))
 (Chk (ops0.room L 2 24)
 (Q Ex.norm [AV.top, AV.top, AV.top, AV.top, AV.top, AV.top, (AV.ptr 1 0), (AV.slc 4 0 (ops0.add L 2) (ops0.add L 2) 1), AV.top, AV.top, AV.top, AV.top, AV.top, AV.top, AV.top, AV.top, AV.top, AV.top, (AV.ros ps o n c e), (AV.int IntKind.i64 (Int.ofNat n)), (AV.int IntKind.i64 (ops0.bin BinOp.add IntKind.i64 (Int.ofNat i) (Int.ofNat 1))), AV.top, AV.top, AV.top, AV.top, AV.top, AV.top, AV.top, AV.top, AV.top, AV.top, AV.top, AV.top, AV.top, AV.top] [(Blk.cells ks), (Blk.cells out), Blk.dead, (Blk.cells (MF.bytes (NF.toMF S) (ops0.cvt IntKind.u64 (ops0.ofn len)))), (Blk.cells (ops0.app (ops0.ext rows 0 (ops0.mul L 1)) [(AV.slc 3 0 8 8 1), (AV.ros ds off len cap e1)]))])))))))))))
 (Q (Ex.exit 0) [AV.top, AV.top, AV.top, AV.top, AV.top, AV.top, (AV.ptr 1 0), (AV.slc 2 0 L L 1), AV.top, AV.top, AV.top, AV.top, AV.top, AV.top, AV.top, AV.top, AV.top, AV.top, (AV.ros ps o n c e), (AV.int IntKind.i64 (Int.ofNat n)), (AV.int IntKind.i64 (Int.ofNat i)), AV.top, AV.top, AV.top, AV.top, AV.top, AV.top, AV.top, AV.top, AV.top, AV.top, AV.top, AV.top, AV.top, AV.top] [(Blk.cells ks), (Blk.cells out), (Blk.cells rows)]))) := by kernel_rfl

theorem vcl40 (S : NF) (ks out ms ps : List AV) (L o n c : Nat) (e : Bool) (i : Nat) (Q : Ex → Fr → Hl → Prop) :
  (vm (vcA kdYes (cnN1 S) noLn) ops0 noTab 100 0 lp40 (fr40 L ps o n c e i) [.cells ks, .cells out, .cells ms] [] (bodyX mk40 Q)) =
 ((Br (ops0.cmp BinOp.lss (Int.ofNat i) (ops0.ofn n))
 (Chk (ops0.inr (Int.ofNat i) n)
 (∃ ds : (List AV), (∃ off : Nat, (∃ len : Nat, (∃ cap : Nat, (∃ e1 : Bool, ((Nth ps (ops0.adr o (Int.ofNat i) 1) (AV.ros ds off len cap e1)) ∧
 (((Int.ofNat 0) ≤ (ops0.cvt IntKind.u64 (ops0.ofn len))) ∧
 (Chk (ops0.le (ops0.add 0 (ops0.mul L 1)) (ops0.len ms))
 (Chk (ops0.le 8 (ops0.len (MF.bytes (NF.toMF S) (ops0.cvt IntKind.u64 (ops0.ofn len)))))
 (Chk (ops0.room L 8 1)
 (Chk (ops0.inr (Int.ofNat i) n)
 (∃ ds1 : (List AV), (∃ off1 : Nat, (∃ len1 : Nat, (∃ cap1 : Nat, (∃ e2 : Bool, ((Nth ps (ops0.adr o (Int.ofNat i) 1) (AV.ros ds1 off1 len1 cap1 e2)) ∧
 (Chk (ops0.le (ops0.add 0 (ops0.mul (ops0.add L 8) 1)) (ops0.len (ops0.app (ops0.ext ms 0 (ops0.mul L 1)) (ops0.ext (MF.bytes (NF.toMF S) (ops0.cvt IntKind.u64 (ops0.ofn len))) 0 8))))
 (Chk (ops0.le (ops0.add off1 (ops0.mul len1 1)) (ops0.len ds1))
 (Chk (ops0.room (ops0.add L 8) len1 1)
 (Q Ex.norm [AV.top, AV.top, (AV.ros ps o n c e), AV.top, AV.top, AV.top, (AV.ptr 1 0), (AV.slc 5 0 (ops0.add (ops0.add L 8) len1) (ops0.add (ops0.add L 8) len1) 1), (AV.int IntKind.i64 (ops0.bin BinOp.add IntKind.i64 (Int.ofNat i) (Int.ofNat 1))), AV.top, AV.top, AV.top, AV.top, AV.top, AV.top, AV.top, AV.top, AV.top, AV.top, AV.top, AV.top, AV.top, AV.top, AV.top, AV.top, AV.top, AV.top, AV.top, AV.top, AV.top, AV.top, AV.top, AV.top, AV.top, AV.top, AV.top, AV.top, AV.top] [(Blk.cells ks), (Blk.cells out), Blk.dead, (Blk.cells (MF.bytes (NF.toMF S) (ops0.cvt IntKind.u64 (ops0.ofn len)))), Blk.dead, (Blk.cells (ops0.app (ops0.ext (ops0.app (ops0.ext ms 0 (ops0.mul L 1)) (ops0.ext (MF.bytes (NF.toMF S) (ops0.cvt IntKind.u64 (ops0.ofn len))) 0 8)) 0 (ops0.mul (ops0.add L 8) 1)) (ops0.ext ds1 off1 (ops0.mul len1 1))))]))))))))))))))))))))))
 (Q (Ex.exit 0) [AV.top, AV.top, (AV.ros ps o n c e), AV.top, AV.top, AV.top, (AV.ptr 1 0), (AV.slc 2 0 L L 1), (AV.int IntKind.i64 (Int.ofNat i)), AV.top, AV.top, AV.top, AV.top, AV.top, AV.top, AV.top, AV.top, AV.top, AV.top, AV.top, AV.top, AV.top, AV.top, AV.top, AV.top, AV.top, AV.top, AV.top, AV.top, AV.top, AV.top, AV.top, AV.top, AV.top, AV.top, AV.top, AV.top, AV.top] [(Blk.cells ks), (Blk.cells out), (Blk.cells ms)]))) := by kernel_rfl

theorem vc41 (S : NF) (F : TF) (ks ps : List AV) (l : List UInt8) (o n c : Nat) (e : Bool) (Q : AV → Hl → Prop) :
  (vcall (vcA kdYes (cnN1 S) (ln41 F)) ops0 (tabOne 41 vf41) 200 vf41 [.agg ks, .str l, .ros ps o n c e] [] (endN (fun _ => 0) Q)) =
 ((Br (ops0.cmp BinOp.gtr (ops0.ofn (ops0.slen l)) (Int.ofNat 64))
 (Q (AV.agg (z8 32)) [])
 (Chk (ops0.le 32 (ops0.len ks))
 (((PKey (ops0.ext ks 0 32)) ∧
 ((List.length l) ≤ 64)) ∧
 ((((0 : Nat) = 0) ∧
 ((VCis lp41 lp41) ∧
 ((([AV.top, AV.top, AV.top, AV.top, AV.top, AV.top, (AV.ptr 1 0), (AV.ros [(AV.slc 2 0 (ops0.add (ops0.slen l) 33) (ops0.add (ops0.slen l) 33) 1)] 0 1 1 Bool.true), AV.top, AV.top, AV.top, AV.top, AV.top, AV.top, AV.top, AV.top, AV.top, AV.top, (AV.ros ps o n c e), (AV.int IntKind.i64 (ops0.ofn n)), (AV.int IntKind.i64 (Int.ofNat 0)), AV.top, AV.top, AV.top, AV.top, AV.top, AV.top, AV.top, AV.top, AV.top, AV.top, AV.top, AV.top, AV.top, AV.top] : Fr) = [AV.top, AV.top, AV.top, AV.top, AV.top, AV.top, (AV.ptr 1 0), (AV.ros [(AV.slc 2 0 (ops0.add (ops0.slen l) 33) (ops0.add (ops0.slen l) 33) 1)] 0 1 1 Bool.true), AV.top, AV.top, AV.top, AV.top, AV.top, AV.top, AV.top, AV.top, AV.top, AV.top, (AV.ros ps o n c e), (AV.int IntKind.i64 (Int.ofNat n)), (AV.int IntKind.i64 (Int.ofNat 0)), AV.top, AV.top, AV.top, AV.top, AV.top, AV.top, AV.top, AV.top, AV.top, AV.top, AV.top, AV.top, AV.top, AV.top]) ∧
 (P41 ks (z8 32) (MF.head (NF.toMF S) (ops0.ext ks 0 32) l) (ops0.add (ops0.slen l) 33) ps o n)))) ∧
 ((PPs (List.map (vw1 [(Blk.cells ks), (Blk.cells (z8 32))]) (TF.rows F (MF.head (NF.toMF S) (ops0.ext ks 0 32) l) (ops0.add (ops0.slen l) 33) (ops0.add (ops0.slen l) 33) ps o n)) 0 ((2 * n) + 1)) ∧
 (Chk (ops0.eq (ops0.len (KF.sum (AF.toKF (NF.toAF S)) (rdP (List.map (vw1 [(Blk.cells ks), (Blk.cells (z8 32))]) (TF.rows F (MF.head (NF.toMF S) (ops0.ext ks 0 32) l) (ops0.add (ops0.slen l) 33) (ops0.add (ops0.slen l) 33) ps o n)) 0 ((2 * n) + 1)))) 32)
 (Chk (ops0.le 32 (ops0.len (ops0.spl (z8 32) 0 (KF.sum (AF.toKF (NF.toAF S)) (rdP (List.map (vw1 [(Blk.cells ks), (Blk.cells (z8 32))]) (TF.rows F (MF.head (NF.toMF S) (ops0.ext ks 0 32) l) (ops0.add (ops0.slen l) 33) (ops0.add (ops0.slen l) 33) ps o n)) 0 ((2 * n) + 1))))))
 (Q (AV.agg (ops0.ext (ops0.spl (z8 32) 0 (KF.sum (AF.toKF (NF.toAF S)) (rdP (List.map (vw1 [(Blk.cells ks), (Blk.cells (z8 32))]) (TF.rows F (MF.head (NF.toMF S) (ops0.ext ks 0 32) l) (ops0.add (ops0.slen l) 33) (ops0.add (ops0.slen l) 33) ps o n)) 0 ((2 * n) + 1)))) 0 32)) []))))))))) := by kernel_rfl

theorem vc40 (S : NF) (F : TF) (ks ps : List AV) (l : List UInt8) (o n c : Nat) (e : Bool) (Q : AV → Hl → Prop) :
  (vcall (vcA kdYes (cnN1 S) (ln40 F)) ops0 (tabOne 40 vf40) 200 vf40 [.agg ks, .str l, .ros ps o n c e] [] (endN (fun _ => 0) Q)) =
 ((Br (ops0.cmp BinOp.gtr (ops0.ofn (ops0.slen l)) (Int.ofNat 64))
 (Q (AV.agg (z8 32)) [])
 (Chk (ops0.le 32 (ops0.len ks))
 (((PKey (ops0.ext ks 0 32)) ∧
 ((List.length l) ≤ 64)) ∧
 ((((0 : Nat) = 0) ∧
 ((VCis lp40 lp40) ∧
 ((([AV.top, AV.top, (AV.ros ps o n c e), AV.top, AV.top, AV.top, (AV.ptr 1 0), (AV.slc 2 0 (ops0.add (ops0.slen l) 33) (ops0.add (ops0.slen l) 33) 1), (AV.int IntKind.i64 (Int.ofNat 0)), AV.top, AV.top, AV.top, AV.top, AV.top, AV.top, AV.top, AV.top, AV.top, AV.top, AV.top, AV.top, AV.top, AV.top, AV.top, AV.top, AV.top, AV.top, AV.top, AV.top, AV.top, AV.top, AV.top, AV.top, AV.top, AV.top, AV.top, AV.top, AV.top] : Fr) = [AV.top, AV.top, (AV.ros ps o n c e), AV.top, AV.top, AV.top, (AV.ptr 1 0), (AV.slc 2 0 (ops0.add (ops0.slen l) 33) (ops0.add (ops0.slen l) 33) 1), (AV.int IntKind.i64 (Int.ofNat 0)), AV.top, AV.top, AV.top, AV.top, AV.top, AV.top, AV.top, AV.top, AV.top, AV.top, AV.top, AV.top, AV.top, AV.top, AV.top, AV.top, AV.top, AV.top, AV.top, AV.top, AV.top, AV.top, AV.top, AV.top, AV.top, AV.top, AV.top, AV.top, AV.top]) ∧
 (P40 ks (z8 32) (MF.head (NF.toMF S) (ops0.ext ks 0 32) l) (ops0.add (ops0.slen l) 33) ps o n)))) ∧
 ((PB (TF.txt F (MF.head (NF.toMF S) (ops0.ext ks 0 32) l) ps o n) 0 (TF.len F (ops0.add (ops0.slen l) 33) ps o n)) ∧
 (Chk (ops0.eq (ops0.len (KF.sum (AF.toKF (NF.toAF S)) (rdB (TF.txt F (MF.head (NF.toMF S) (ops0.ext ks 0 32) l) ps o n) 0 (TF.len F (ops0.add (ops0.slen l) 33) ps o n)))) 32)
 (Chk (ops0.le 32 (ops0.len (ops0.spl (z8 32) 0 (KF.sum (AF.toKF (NF.toAF S)) (rdB (TF.txt F (MF.head (NF.toMF S) (ops0.ext ks 0 32) l) ps o n) 0 (TF.len F (ops0.add (ops0.slen l) 33) ps o n))))))
 (Q (AV.agg (ops0.ext (ops0.spl (z8 32) 0 (KF.sum (AF.toKF (NF.toAF S)) (rdB (TF.txt F (MF.head (NF.toMF S) (ops0.ext ks 0 32) l) ps o n) 0 (TF.len F (ops0.add (ops0.slen l) 33) ps o n)))) 0 32)) []))))))))) := by kernel_rfl

/-! ### The program's tag -/
theorem fr41_ren {σ : Nat → Option Nat} {φ : Nat → Option (List AV)} (h1 : σ 1 = some 1) {ps : List AV} (hps : Still ps) (x7 : AV) (o n c : Nat) (e : Bool) (i : Nat) :
    forget mk41 (renL σ φ true (fr41 x7 ps o n c e i)) = fr41 (ren σ φ true x7) ps o n c e i := by
  unfold fr41 mk41
  simp only [renL, ren, h1, forget, hps σ φ]

theorem twoA_ros {pc : List AV} {off len cap : Nat} {ex : Bool} {lb : List UInt8} (hb : BytesAt pc off len lb) :
    twoA (.ros pc off len cap ex) = [.ros ((bytesN len).map by8) 0 8 8 false, .ros pc off len cap ex] := by
  unfold twoA
  rw [partA_ros hb, hb.1]

theorem cvt_len {len : Nat} (h : len < 1099511627776) : ops0.cvt .u64 (ops0.ofn len) = Int.ofNat len := by rw [nOfn, nC64 (by omega)]

theorem body41b {ks out rows ps pc : List AV} {o n c i off len cap : Nat} {e ex : Bool} {lb : List UInt8} (hks : flatL ks) (hout : flatL out) (hrows : Still rows) (hps : Still ps) (hi : i < n) (hn : n < 8589934592)
    (hp : ps[o + i]? = some (.ros pc off len cap ex)) (hb : BytesAt pc off len lb) (hlen : len < 1099511627776) (hL : rows.length = 2 * i + 1) :
    BodyTo Try.prog 0 lp41 (fr41 (.slc 2 0 (2 * i + 1) (2 * i + 1) 1) ps o n c e i) [.cells ks, .cells out, .cells rows] .norm
      (fr41 (.slc 2 0 (2 * (i + 1) + 1) (2 * (i + 1) + 1) 1) ps o n c e (i + 1)) [.cells ks, .cells out, .cells (rows ++ twoA (.ros pc off len cap ex))] := by
  have h1 : BodyTo Try.prog 0 lp41 (fr41 (.slc 2 0 (2 * i + 1) (2 * i + 1) 1) ps o n c e i) [.cells ks, .cells out, .cells rows] .norm
      (fr41 (.slc 4 0 (2 * (i + 1) + 1) (2 * (i + 1) + 1) 1) ps o n c e (i + 1)) [.cells ks, .cells out, .dead, .cells ((bytesN len).map by8), .cells (rows ++ [.slc 3 0 8 8 1, .ros pc off len cap ex])] := by
    have key : ∀ Q : Ex → Fr → Hl → Prop, Q .norm (fr41 (.slc 4 0 (2 * (i + 1) + 1) (2 * (i + 1) + 1) 1) ps o n c e (i + 1)) [.cells ks, .cells out, .dead, .cells ((bytesN len).map by8), .cells (rows ++ [.slc 3 0 8 8 1, .ros pc off len cap ex])] →
        vm (vcA kdYes (cnN1 nf0) noLn) ops0 noTab 100 0 lp41 (fr41 (.slc 2 0 (2 * i + 1) (2 * i + 1) 1) ps o n c e i) [.cells ks, .cells out, .cells rows] [] (bodyX mk41 Q) := by
      intro Q hQ
      rw [vcl41b, nAdd (by omega)]
      refine Br.t (by rw [nLss]; exact decide_eq_true hi) (Chk.mk (by rw [nInr]; exact decide_eq_true hi) ⟨pc, off, len, cap, ex, Nth.mk (by rw [nAdr, Nat.mul_one]; exact hp), ?_, ?_⟩)
      · rw [cvt_len hlen]; exact Int.natCast_nonneg _
      · rw [cvt_len hlen]
        refine Chk.mk (by rw [nLe, nPlus, nTimes, nLen]; exact decide_eq_true (by omega)) (Chk.mk (by rw [nRoom]; exact decide_eq_true (by omega)) ?_)
        have e1 : ops0.ext rows 0 (ops0.mul (2 * i + 1) 1) = rows := by rw [nExt, nTimes, List.drop_zero, List.take_of_length_le (by omega)]
        rw [e1, nApp]
        exact hQ
    exact body_x cnN1_ok (noLn_ok _) (noTab_ok _) (n := 100) (g := kdYes) (bs := mk41) (key _ ⟨rfl, rfl, rfl⟩) (by simp)
  have h2 := h1.post (Weak.pickV [0, 1, 4] mk41 2 (by simp) (by simp) (by simp))
  rw [fr41_ren (show pickN [0, 1, 4] 1 = some 1 from rfl) hps] at h2
  have e2 : viewF [.cells ks, .cells out, .dead, .cells ((bytesN len).map by8), .cells (rows ++ [.slc 3 0 8 8 1, .ros pc off len cap ex])] [0, 1, 4] 2 3 = some ((bytesN len).map by8) := by
    show some (renL _ _ true _) = _
    rw [renL_flat (flat_by8 _)]
  have e3 : pickH (viewF [.cells ks, .cells out, .dead, .cells ((bytesN len).map by8), .cells (rows ++ [.slc 3 0 8 8 1, .ros pc off len cap ex])] [0, 1, 4] 2) [0, 1, 4] [.cells ks, .cells out, .dead, .cells ((bytesN len).map by8), .cells (rows ++ [.slc 3 0 8 8 1, .ros pc off len cap ex])] =
      [.cells ks, .cells out, .cells (rows ++ twoA (.ros pc off len cap ex))] := by
    have hpc : ∀ σ φ, renL σ φ true pc = pc := by
      intro σ φ
      have := renL_get σ φ true ps (o + i)
      rw [hps σ φ, hp] at this
      simp only [Option.map_some, ren, Option.some.injEq, AV.ros.injEq, and_true] at this
      exact this.symm
    have p3 : pickN [0, 1, 4] 3 = none := rfl
    rw [twoA_ros hb]
    show [renB _ _ true (.cells ks), renB _ _ true (.cells out), renB _ _ true (.cells (rows ++ [.slc 3 0 8 8 1, .ros pc off len cap ex]))] = _
    simp only [renB, renL_flat hks, renL_flat hout, renL_append, hrows _ _, renL, ren, p3, e2, hpc]
  have p4 : pickN [0, 1, 4] 4 = some 2 := rfl
  rw [e3] at h2
  simp only [ren, p4] at h2
  exact h2

theorem body41a {ks out hd ps pc : List AV} {m c' o n c off len cap : Nat} {e ex : Bool} {lb : List UInt8} (hks : flatL ks) (hout : flatL out) (hhd : flatL hd) (hps : Still ps) (hi : 0 < n) (hn : n < 8589934592)
    (hp : ps[o + 0]? = some (.ros pc off len cap ex)) (hb : BytesAt pc off len lb) (hlen : len < 1099511627776) :
    BodyTo Try.prog 0 lp41 (fr41 (.ros [.ros hd 0 m c' false] 0 1 1 true) ps o n c e 0) [.cells ks, .cells out] .norm
      (fr41 (.slc 2 0 3 3 1) ps o n c e 1) [.cells ks, .cells out, .cells (.ros hd 0 m c' false :: twoA (.ros pc off len cap ex))] := by
  have h1 : BodyTo Try.prog 0 lp41 (fr41 (.ros [.ros hd 0 m c' false] 0 1 1 true) ps o n c e 0) [.cells ks, .cells out] .norm
      (fr41 (.slc 3 0 3 3 1) ps o n c e 1) [.cells ks, .cells out, .cells ((bytesN len).map by8), .cells [.ros hd 0 m c' false, .slc 2 0 8 8 1, .ros pc off len cap ex]] := by
    have key : ∀ Q : Ex → Fr → Hl → Prop, Q .norm (fr41 (.slc 3 0 3 3 1) ps o n c e 1) [.cells ks, .cells out, .cells ((bytesN len).map by8), .cells [.ros hd 0 m c' false, .slc 2 0 8 8 1, .ros pc off len cap ex]] →
        vm (vcA kdYes (cnN1 nf0) noLn) ops0 noTab 100 0 lp41 (fr41 (.ros [.ros hd 0 m c' false] 0 1 1 true) ps o n c e 0) [.cells ks, .cells out] [] (bodyX mk41 Q) := by
      intro Q hQ
      rw [vcl41a]
      refine Br.t (by rw [nLss]; exact decide_eq_true hi) (Chk.mk (by rw [nInr]; exact decide_eq_true hi) ⟨pc, off, len, cap, ex, Nth.mk (by rw [nAdr, Nat.mul_one]; exact hp), ?_, ?_⟩)
      · rw [cvt_len hlen]; exact Int.natCast_nonneg _
      · rw [cvt_len hlen]
        exact hQ
    exact body_x cnN1_ok (noLn_ok _) (noTab_ok _) (n := 100) (g := kdYes) (bs := mk41) (key _ ⟨rfl, rfl, rfl⟩) (by simp)
  have h2 := h1.post (Weak.pickV [0, 1, 3] mk41 2 (by simp) (by simp) (by simp))
  rw [fr41_ren (show pickN [0, 1, 3] 1 = some 1 from rfl) hps] at h2
  have e2 : viewF [.cells ks, .cells out, .cells ((bytesN len).map by8), .cells [.ros hd 0 m c' false, .slc 2 0 8 8 1, .ros pc off len cap ex]] [0, 1, 3] 2 2 = some ((bytesN len).map by8) := by
    show some (renL _ _ true _) = _
    rw [renL_flat (flat_by8 _)]
  have e3 : pickH (viewF [.cells ks, .cells out, .cells ((bytesN len).map by8), .cells [.ros hd 0 m c' false, .slc 2 0 8 8 1, .ros pc off len cap ex]] [0, 1, 3] 2) [0, 1, 3] [.cells ks, .cells out, .cells ((bytesN len).map by8), .cells [.ros hd 0 m c' false, .slc 2 0 8 8 1, .ros pc off len cap ex]] =
      [.cells ks, .cells out, .cells (.ros hd 0 m c' false :: twoA (.ros pc off len cap ex))] := by
    have hpc : ∀ σ φ, renL σ φ true pc = pc := by
      intro σ φ
      have := renL_get σ φ true ps (o + 0)
      rw [hps σ φ, hp] at this
      simp only [Option.map_some, ren, Option.some.injEq, AV.ros.injEq, and_true] at this
      exact this.symm
    have p3 : pickN [0, 1, 3] 2 = none := rfl
    rw [twoA_ros hb]
    show [renB _ _ true (.cells ks), renB _ _ true (.cells out), renB _ _ true (.cells [.ros hd 0 m c' false, .slc 2 0 8 8 1, .ros pc off len cap ex])] = _
    simp only [renB, renL_flat hks, renL_flat hout, renL, ren, p3, e2, hpc, renL_flat hhd]
  have p4 : pickN [0, 1, 3] 3 = some 2 := rfl
  rw [e3] at h2
  simp only [ren, p4] at h2
  exact h2

theorem rowsA_zero (hd : List AV) (m c : Nat) (ps : List AV) (o : Nat) : rowsA hd m c ps o 0 = [.ros hd 0 m c false] := by
  unfold rowsA
  rw [List.take_zero]; rfl
theorem rowsA_succ (hd : List AV) (m c : Nat) (ps : List AV) (o i : Nat) {p : AV} (hp : ps[o + i]? = some p) : rowsA hd m c ps o (i + 1) = rowsA hd m c ps o i ++ twoA p := by
  unfold rowsA
  have h1 : (ps.drop o)[i]? = some p := by rw [List.getElem?_drop]; exact hp
  have hlt := (List.getElem?_eq_some_iff.1 h1).1
  have : (ps.drop o)[i] = p := (List.getElem?_eq_some_iff.1 h1).2
  rw [List.take_succ_eq_append_getElem hlt, this, List.map_append, List.flatten_append]
  simp
theorem rowsA_length (hd : List AV) (m c : Nat) (ps : List AV) (o : Nat) : ∀ i, o + i ≤ ps.length → (rowsA hd m c ps o i).length = 2 * i + 1
  | 0, _ => by rw [rowsA_zero]; rfl
  | i + 1, h => by
    rw [rowsA_succ hd m c ps o i (p := ps[o + i]'(by omega)) (List.getElem?_eq_getElem (by omega)), List.length_append, rowsA_length hd m c ps o i (by omega)]
    rfl
theorem PartsAt.lt {ps : List AV} {o n : Nat} {pl : List (List UInt8)} (h : PartsAt ps o n pl) (h0 : 0 < n) : o + n ≤ ps.length := by
  have hlt : n - 1 < pl.length := by rw [h.1]; omega
  obtain ⟨_, pc, off, len, cap, ex, e, _⟩ := h.2.2 (n - 1) pl[n - 1] (List.getElem?_eq_getElem hlt)
  have := (List.getElem?_eq_some_iff.1 e).1
  omega
theorem rowsA_rows {hd : List AV} (hh : flatL hd) (m c : Nat) {ps : List AV} (o n : Nat) (hp : Rows1 ps) : Rows1 (rowsA hd m c ps o n) := by
  intro p h
  unfold rowsA at h
  rcases List.mem_cons.1 h with rfl | h
  · exact ⟨hd, 0, m, c, false, rfl, hh⟩
  · obtain ⟨l, hl, hpl⟩ := List.mem_flatten.1 h
    obtain ⟨q, hq, rfl⟩ := List.mem_map.1 hl
    have hq : q ∈ ps := List.mem_of_mem_drop (List.mem_of_mem_take hq)
    unfold twoA at hpl
    rcases List.mem_cons.1 hpl with rfl | hpl
    · exact ⟨_, 0, 8, 8, false, rfl, flat_by8 _⟩
    · obtain rfl := List.mem_singleton.1 hpl
      exact hp p hq

def S41 (ks out hd : List AV) (m c' : Nat) (ps : List AV) (o n c : Nat) (e : Bool) : Nat → Fr × Hl
  | 0 => (fr41 (.ros [.ros hd 0 m c' false] 0 1 1 true) ps o n c e 0, [.cells ks, .cells out])
  | i + 1 => (fr41 (.slc 2 0 (2 * (i + 1) + 1) (2 * (i + 1) + 1) 1) ps o n c e (i + 1), [.cells ks, .cells out, .cells (rowsA hd m c' ps o (i + 1))])

theorem loop41 {ks out hd : List AV} {m c' : Nat} {ps : List AV} {o n : Nat} (c : Nat) (e : Bool) (h : P41 ks out hd m ps o n) :
    ∀ lg, LoopTo Try.prog 0 lp41 (fr41 (.ros [.ros hd 0 m c' false] 0 1 1 true) ps o n c e 0) [.cells ks, .cells out] lg (.exit 0) (fr41 (.ros (rowsA hd m c' ps o n) 0 (2 * n + 1) (2 * n + 1) false) ps o n c e n) [.cells ks, .cells out] (List.range 0 ++ lg) := by
  obtain ⟨hks, hout, ⟨hb8, rfl, rfl⟩, ⟨hr1, pl, hpl⟩, hn⟩ := h
  have hstill := hr1.still
  have hhd := flat_by8 hb8
  have hrows : ∀ i, Still (rowsA (hb8.map by8) hb8.length c' ps o i) := fun i => (rowsA_rows hhd _ _ _ _ hr1).still
  refine loop_chain (P := Try.prog) (n0 := 0) (b := lp41) (ex := .exit 0) (by intro h; cases h) (S41 ks out (hb8.map by8) hb8.length c' ps o n c e) n 0 (fun i _ hi => ?_) ?_
  · have hi' : i < n := by omega
    have hlt : i < pl.length := by rw [hpl.1]; exact hi'
    obtain ⟨hl, pc, off, len, cap, ex, hp, hb⟩ := hpl.2.2 i pl[i] (List.getElem?_eq_getElem hlt)
    have hlen : len < 1099511627776 := by have := hb.1; omega
    have hsucc := rowsA_succ (hb8.map by8) hb8.length c' ps o i hp
    cases i with
    | zero =>
      have h2 := body41a (m := hb8.length) (c' := c') (c := c) (e := e) hks hout hhd hstill hi' hn hp hb hlen
      rw [rowsA_zero] at hsucc
      show BodyTo _ _ _ _ _ _ _ [.cells ks, .cells out, .cells (rowsA (hb8.map by8) hb8.length c' ps o (0 + 1))]
      rw [hsucc]
      exact h2
    | succ i =>
      have h2 := body41b (c := c) (e := e) hks hout (hrows (i + 1)) hstill hi' hn hp hb hlen (rowsA_length _ _ _ _ _ (i + 1) (by have := hpl.lt (by omega); omega))
      show BodyTo _ _ _ _ _ _ _ [.cells ks, .cells out, .cells (rowsA (hb8.map by8) hb8.length c' ps o (i + 1 + 1))]
      rw [hsucc]
      exact h2
  · rw [Nat.zero_add]
    cases n with
    | zero =>
      have h1 : BodyTo Try.prog 0 lp41 (fr41 (.ros [.ros (hb8.map by8) 0 hb8.length c' false] 0 1 1 true) ps o 0 c e 0) [.cells ks, .cells out] (.exit 0) (fr41 (.ros [.ros (hb8.map by8) 0 hb8.length c' false] 0 1 1 true) ps o 0 c e 0) [.cells ks, .cells out] := by
        refine body_x cnN1_ok (noLn_ok _) (noTab_ok _) (n := 100) (g := kdYes) (bs := mk41) ?_ (by simp)
        rw [vcl41a]
        exact Br.f rfl ⟨rfl, rfl, rfl⟩
      refine h1.post (Weak.le (by simp) ?_)
      rw [rowsA_zero]
      exact FLe.put (fr := fr41 (.ros [.ros (hb8.map by8) 0 hb8.length c' false] 0 1 1 true) ps o 0 c e 0) (k := 7) rfl (VLe.loose _ _ _ _ _)
    | succ n =>
      have h1 : BodyTo Try.prog 0 lp41 (fr41 (.slc 2 0 (2 * (n + 1) + 1) (2 * (n + 1) + 1) 1) ps o (n + 1) c e (n + 1)) [.cells ks, .cells out, .cells (rowsA (hb8.map by8) hb8.length c' ps o (n + 1))] (.exit 0)
          (fr41 (.slc 2 0 (2 * (n + 1) + 1) (2 * (n + 1) + 1) 1) ps o (n + 1) c e (n + 1)) [.cells ks, .cells out, .cells (rowsA (hb8.map by8) hb8.length c' ps o (n + 1))] := by
        refine body_x cnN1_ok (noLn_ok _) (noTab_ok _) (n := 100) (g := kdYes) (bs := mk41) ?_ (by simp)
        rw [vcl41b]
        exact Br.f (by rw [nLss]; exact decide_eq_false (by omega)) ⟨rfl, rfl, rfl⟩
      have h2 := h1.post (Weak.pickV [0, 1] mk41 2 (by simp) (by simp) (by simp))
      rw [fr41_ren (show pickN [0, 1] 1 = some 1 from rfl) hstill] at h2
      have e2 : viewF [.cells ks, .cells out, .cells (rowsA (hb8.map by8) hb8.length c' ps o (n + 1))] [0, 1] 2 2 = some (rowsA (hb8.map by8) hb8.length c' ps o (n + 1)) := by
        show some (renL _ _ true _) = _
        rw [hrows (n + 1)]
      have p2 : pickN [0, 1] 2 = none := rfl
      have e3 : pickH (viewF [.cells ks, .cells out, .cells (rowsA (hb8.map by8) hb8.length c' ps o (n + 1))] [0, 1] 2) [0, 1] [.cells ks, .cells out, .cells (rowsA (hb8.map by8) hb8.length c' ps o (n + 1))] = [.cells ks, .cells out] := by
        show [renB _ _ true (.cells ks), renB _ _ true (.cells out)] = _
        simp only [renB, renL_flat hks, renL_flat hout]
      rw [e3] at h2
      simp only [ren, p2, e2] at h2
      exact h2

theorem ln41_ok : LnOK Try.prog (ln41 tf0) := by
  intro n0 b fr H p x e hn hp lg
  unfold ln41 at e
  split at e <;> cases e
  rename_i m c' ps o n c e ks out hd h1 h2
  obtain ⟨rfl, hb, hf, hp⟩ := hp
  have hb : b = lp41 := hb
  subst hb
  have hp' := hp
  obtain ⟨hks, hout, ⟨hb8, rfl, rfl⟩, ⟨hr1, pl, hpl⟩, hn⟩ := hp'
  have hw := (Weak.forget (n0 := 0) (fr := fr) (H := [.cells ks, .cells out, .cells (hb8.map by8)]) (by simp) mk41)
  rw [hf] at hw
  have hw2 := hw.trans (Weak.pickV [0, 1] mk41 2 (by simp) (by simp) (by simp))
  rw [fr41_ren (show pickN [0, 1] 1 = some 1 from rfl) hr1.still] at hw2
  have e2 : viewF [.cells ks, .cells out, .cells (hb8.map by8)] [0, 1] 2 2 = some (hb8.map by8) := by
    show some (renL _ _ true _) = _
    rw [renL_flat (flat_by8 _)]
  have p2 : pickN [0, 1] 2 = none := rfl
  have e3 : pickH (viewF [.cells ks, .cells out, .cells (hb8.map by8)] [0, 1] 2) [0, 1] [.cells ks, .cells out, .cells (hb8.map by8)] = [.cells ks, .cells out] := by
    show [renB _ _ true (.cells ks), renB _ _ true (.cells out)] = _
    simp only [renB, renL_flat hks, renL_flat hout]
  rw [e3] at hw2
  simp only [ren, renL, p2, e2] at hw2
  exact LoopTo.pre hw2 (loop41 c e hp) lg


/-! ### The document's tag -/
theorem fr40_ren {σ : Nat → Option Nat} {φ : Nat → Option (List AV)} (h1 : σ 1 = some 1) (h5 : σ 5 = some 2) {ps : List AV} (hps : Still ps) (L o n c : Nat) (e : Bool) (i : Nat) :
    forget mk40 (renL σ φ true (put (fr40 L ps o n c e i) 7 (.slc 5 0 L L 1))) = fr40 L ps o n c e i := by
  unfold fr40 mk40
  simp only [put_succ, put_zero, renL, ren, h1, h5, forget, hps σ φ]

theorem textL_snoc (pl : List (List UInt8)) (p : List UInt8) : textL (pl ++ [p]) = textL pl ++ (bytesN p.length ++ p) := by
  unfold textL
  rw [List.map_append, List.flatten_append]
  simp
theorem partsL_succ (ps : List AV) (o i : Nat) {p : AV} (hp : ps[o + i]? = some p) : partsL ps o (i + 1) = partsL ps o i ++ [partA p] := by
  unfold partsL
  have h1 : (ps.drop o)[i]? = some p := by rw [List.getElem?_drop]; exact hp
  have hlt := (List.getElem?_eq_some_iff.1 h1).1
  have : (ps.drop o)[i] = p := (List.getElem?_eq_some_iff.1 h1).2
  rw [List.take_succ_eq_append_getElem hlt, this, List.map_append]
  rfl
theorem partsL_zero (ps : List AV) (o : Nat) : partsL ps o 0 = [] := by
  unfold partsL
  rw [List.take_zero]; rfl
theorem textL_nil : textL [] = [] := rfl
theorem bytesN_length (k : Nat) : (bytesN k).length = 8 := rfl
theorem textL_mono (a b : List (List UInt8)) : (textL a).length ≤ (textL (a ++ b)).length := by
  unfold textL
  rw [List.map_append, List.flatten_append, List.length_append]
  omega
theorem textL_ge (a : List (List UInt8)) : 8 * a.length ≤ (textL a).length := by
  induction a with
  | nil => simp
  | cons x xs ih =>
    unfold textL at ih ⊢
    rw [List.map_cons, List.flatten_cons, List.length_append, List.length_append, bytesN_length, List.length_cons]
    omega
theorem partsL_le (ps : List AV) (o : Nat) {i n : Nat} (h : i ≤ n) : (textL (partsL ps o i)).length ≤ (textL (partsL ps o n)).length := by
  have : partsL ps o n = partsL ps o i ++ (((ps.drop o).drop i).take (n - i)).map partA := by
    unfold partsL
    rw [← List.map_append]
    congr 1
    have h2 := List.take_add (l := ps.drop o) (i := i) (j := n - i)
    rw [Nat.add_sub_cancel' h] at h2
    exact h2
  rw [this]
  exact textL_mono _ _

theorem body40 {ks out ps pc : List AV} {o n c i off len cap : Nat} {e ex : Bool} {lb tb : List UInt8} (hks : flatL ks) (hout : flatL out) (hps : Still ps) (hi : i < n) (hn : n < 8589934592)
    (hp : ps[o + i]? = some (.ros pc off len cap ex)) (hb : BytesAt pc off len lb) (hro : off + len ≤ pc.length) (hlen : tb.length + (8 + len) < 137438953472) :
    BodyTo Try.prog 0 lp40 (fr40 tb.length ps o n c e i) [.cells ks, .cells out, .cells (tb.map by8)] .norm
      (fr40 (tb ++ (bytesN len ++ lb)).length ps o n c e (i + 1)) [.cells ks, .cells out, .cells ((tb ++ (bytesN len ++ lb)).map by8)] := by
  have hll := hb.1
  have hL : (tb ++ (bytesN len ++ lb)).length = tb.length + 8 + len := by rw [List.length_append, List.length_append, bytesN_length, hll]; omega
  have h1 : BodyTo Try.prog 0 lp40 (fr40 tb.length ps o n c e i) [.cells ks, .cells out, .cells (tb.map by8)] .norm
      (put (fr40 (tb ++ (bytesN len ++ lb)).length ps o n c e (i + 1)) 7 (.slc 5 0 (tb ++ (bytesN len ++ lb)).length (tb ++ (bytesN len ++ lb)).length 1))
      [.cells ks, .cells out, .dead, .cells ((bytesN len).map by8), .dead, .cells ((tb ++ (bytesN len ++ lb)).map by8)] := by
    have key : ∀ Q : Ex → Fr → Hl → Prop, Q .norm (put (fr40 (tb ++ (bytesN len ++ lb)).length ps o n c e (i + 1)) 7 (.slc 5 0 (tb ++ (bytesN len ++ lb)).length (tb ++ (bytesN len ++ lb)).length 1))
          [.cells ks, .cells out, .dead, .cells ((bytesN len).map by8), .dead, .cells ((tb ++ (bytesN len ++ lb)).map by8)] →
        vm (vcA kdYes (cnN1 nf0) noLn) ops0 noTab 100 0 lp40 (fr40 tb.length ps o n c e i) [.cells ks, .cells out, .cells (tb.map by8)] [] (bodyX mk40 Q) := by
      intro Q hQ
      rw [vcl40, nAdd (by omega)]
      have e0 : MF.bytes (NF.toMF nf0) (Int.ofNat len) = (bytesN len).map by8 := rfl
      have e1 : ops0.ext (tb.map by8) 0 (ops0.mul tb.length 1) = tb.map by8 := by rw [nExt, nTimes, List.drop_zero, List.take_of_length_le (by simp)]
      have e2 : ops0.ext ((bytesN len).map by8) 0 8 = (bytesN len).map by8 := rfl
      have e3 : ops0.ext pc off (ops0.mul len 1) = lb.map by8 := by rw [nExt, nTimes, Nat.mul_one]; exact hb.2
      have e4 : ops0.ext (ops0.app (tb.map by8) ((bytesN len).map by8)) 0 (ops0.mul (ops0.add tb.length 8) 1) = (tb ++ bytesN len).map by8 := by
        rw [nExt, nTimes, nPlus, nApp, ← List.map_append, List.drop_zero, List.take_of_length_le (by simp [bytesN_length])]
      refine Br.t (by rw [nOfn, nLss]; exact decide_eq_true hi) (Chk.mk (by rw [nInr]; exact decide_eq_true hi) ⟨pc, off, len, cap, ex, Nth.mk (by rw [nAdr, Nat.mul_one]; exact hp), ?_, ?_⟩)
      · rw [cvt_len (by omega)]; exact Int.natCast_nonneg _
      · rw [cvt_len (by omega), e0, e1, e2]
        refine Chk.mk (by rw [nLe, nPlus, nTimes, nLen]; exact decide_eq_true (by simp)) (Chk.mk (by rw [nLe, nLen]; exact decide_eq_true (by simp [bytesN_length])) (Chk.mk (by rw [nRoom]; exact decide_eq_true (by omega)) (Chk.mk (by rw [nInr]; exact decide_eq_true hi)
          ⟨pc, off, len, cap, ex, Nth.mk (by rw [nAdr, Nat.mul_one]; exact hp), ?_⟩)))
        rw [e4, e3]
        refine Chk.mk (by rw [nLe, nPlus, nPlus, nTimes, nLen, nApp]; exact decide_eq_true (by simp [bytesN_length])) (Chk.mk (by rw [nLe, nPlus, nTimes, nLen]; exact decide_eq_true (by omega)) (Chk.mk (by rw [nRoom, nPlus]; exact decide_eq_true (by omega)) ?_))
        rw [nPlus, nPlus, nApp, ← List.map_append, List.append_assoc, ← hL]
        exact hQ
    exact body_x cnN1_ok (noLn_ok _) (noTab_ok _) (n := 100) (g := kdYes) (bs := mk40) (key _ ⟨rfl, rfl, rfl⟩) (by simp)
  have h2 := h1.post (Weak.pick [0, 1, 5] mk40 (by simp) (by simp) (by simp))
  have e5 : wkF [0, 1, 5] mk40 (put (fr40 (tb ++ (bytesN len ++ lb)).length ps o n c e (i + 1)) 7 (.slc 5 0 (tb ++ (bytesN len ++ lb)).length (tb ++ (bytesN len ++ lb)).length 1)) = fr40 (tb ++ (bytesN len ++ lb)).length ps o n c e (i + 1) :=
    fr40_ren (show pickN [0, 1, 5] 1 = some 1 from rfl) (show pickN [0, 1, 5] 5 = some 2 from rfl) hps _ _ _ _ _ _
  have e6 : wkH [0, 1, 5] [.cells ks, .cells out, .dead, .cells ((bytesN len).map by8), .dead, .cells ((tb ++ (bytesN len ++ lb)).map by8)] = [.cells ks, .cells out, .cells ((tb ++ (bytesN len ++ lb)).map by8)] := by
    show [renB _ _ true (.cells ks), renB _ _ true (.cells out), renB _ _ true (.cells _)] = _
    simp only [renB, renL_flat hks, renL_flat hout, renL_flat (flat_by8 _)]
  rw [e5, e6] at h2
  exact h2

/-- What is read lies there, and no further. -/
theorem BytesAt.room {pc : List AV} {off len : Nat} {lb : List UInt8} (h : BytesAt pc off len lb) : len = 0 ∨ off + len ≤ pc.length := by
  have h1 := congrArg List.length h.2
  rw [List.length_take, List.length_drop, List.length_map, h.1] at h1
  omega


theorem loop40 {ks out hd : List AV} {m : Nat} {ps : List AV} {o n : Nat} (c : Nat) (e : Bool) (h : P40 ks out hd m ps o n) :
    ∀ lg, LoopTo Try.prog 0 lp40 (fr40 m ps o n c e 0) [.cells ks, .cells out, .cells hd] lg (.exit 0) (fr40 (m + (textL (partsL ps o n)).length) ps o n c e n) [.cells ks, .cells out, .cells (hd ++ (textL (partsL ps o n)).map by8)] (List.range 0 ++ lg) := by
  obtain ⟨hroom, hks, hout, hm, ⟨hb8, rfl, rfl⟩, ⟨hr1, pl, hpl⟩, hn⟩ := h
  have hstill := hr1.still
  have hpn : (partsL ps o n).length = n := by
    have := hpl.parts
    unfold partsL
    rw [this]; exact hpl.1
  have hge := textL_ge (partsL ps o n)
  rw [hpn] at hge
  have h := loop_chain (P := Try.prog) (n0 := 0) (b := lp40) (ex := .exit 0) (fr' := fr40 (hb8 ++ textL (partsL ps o n)).length ps o n c e n) (H' := [.cells ks, .cells out, .cells ((hb8 ++ textL (partsL ps o n)).map by8)]) (by intro h; cases h)
    (fun i => (fr40 (hb8 ++ textL (partsL ps o i)).length ps o n c e i, [.cells ks, .cells out, .cells ((hb8 ++ textL (partsL ps o i)).map by8)])) n 0 (fun i _ hi => ?_) ?_
  · rw [List.length_append, List.map_append] at h
    simpa [partsL_zero, textL_nil] using h
  · have hi' : i < n := by omega
    have hlt : i < pl.length := by rw [hpl.1]; exact hi'
    obtain ⟨hl, pc, off, len, cap, ex, hp, hb⟩ := hpl.2.2 i pl[i] (List.getElem?_eq_getElem hlt)
    have hll := hb.1
    have hs : textL (partsL ps o (i + 1)) = textL (partsL ps o i) ++ (bytesN len ++ pl[i]) := by
      rw [partsL_succ ps o i hp, partA_ros hb, textL_snoc, hll]
    have hle := partsL_le ps o (show i + 1 ≤ n by omega)
    rw [hs, List.length_append, List.length_append, bytesN_length, hll] at hle
    have h2 := body40 (tb := hb8 ++ textL (partsL ps o i)) (c := c) (e := e) hks hout hstill hi' (by omega) hp hb (hroom i hi' _ _ _ _ _ hp) (by rw [List.length_append]; omega)
    show BodyTo _ _ _ (fr40 (hb8 ++ textL (partsL ps o i)).length ps o n c e i) [.cells ks, .cells out, .cells ((hb8 ++ textL (partsL ps o i)).map by8)] _ (fr40 (hb8 ++ textL (partsL ps o (i + 1))).length ps o n c e (i + 1)) [.cells ks, .cells out, .cells ((hb8 ++ textL (partsL ps o (i + 1))).map by8)]
    rw [hs, ← List.append_assoc]
    exact h2
  · rw [Nat.zero_add]
    refine body_x cnN1_ok (noLn_ok _) (noTab_ok _) (n := 100) (g := kdYes) (bs := mk40) ?_ (by simp)
    show vm _ _ _ _ _ _ (fr40 (hb8 ++ textL (partsL ps o n)).length ps o n c e n) [.cells ks, .cells out, .cells ((hb8 ++ textL (partsL ps o n)).map by8)] _ _
    rw [vcl40]
    exact Br.f (by rw [nOfn, nLss]; exact decide_eq_false (by omega)) ⟨rfl, rfl, rfl⟩

theorem ln40_ok : LnOK Try.prog (ln40 tf0) := by
  intro n0 b fr H p x e hn hp lg
  unfold ln40 at e
  split at e <;> cases e
  rename_i m c' ps o n c e ks out hd h1 h2
  obtain ⟨rfl, hb, hf, hp⟩ := hp
  have hb : b = lp40 := hb
  subst hb
  refine LoopTo.pre (Weak.forget (by simp) mk40) ?_ lg
  rw [hf]
  exact loop40 c e hp

/-! ### The contracts -/
/-- The tag of parts under a key. -/
def tagL (key l : List UInt8) (pl : List (List UInt8)) : List UInt8 := if 64 < l.length then List.replicate 32 0 else streamF 136 6 32 (headL key l ++ textL pl)
def PTag (ps : List AV) (o n : Nat) : Prop := PPs ps o n ∧ PRm ps o n ∧ (textL (partsL ps o n)).length < 68719476736
theorem tagL_length (key l : List UInt8) (pl : List (List UInt8)) : (tagL key l pl).length = 32 := by
  unfold tagL
  split
  · simp
  · exact streamF_length _ _ _ _

theorem PartsAt.append {a b : List AV} {n m : Nat} {pl ql : List (List UInt8)} (h : PartsAt a 0 n pl) (k : PartsAt b 0 m ql) (hl : a.length = n) (hlt : n + m < 1099511627776) : PartsAt (a ++ b) 0 (n + m) (pl ++ ql) := by
  refine ⟨by rw [List.length_append, h.1, k.1], hlt, fun j lb hj => ?_⟩
  rw [Nat.zero_add]
  rcases Nat.lt_or_ge j n with hjn | hjn
  · rw [List.getElem?_append_left (by rw [h.1]; exact hjn)] at hj
    rw [List.getElem?_append_left (by omega)]
    have := h.2.2 j lb hj
    rw [Nat.zero_add] at this
    exact this
  · rw [List.getElem?_append_right (by rw [h.1]; exact hjn), h.1] at hj
    rw [List.getElem?_append_right (by omega), hl]
    have := k.2.2 (j - n) lb hj
    rw [Nat.zero_add] at this
    exact this

theorem bytesAt_whole (lb : List UInt8) : BytesAt (lb.map by8) 0 lb.length lb := ⟨rfl, by rw [List.drop_zero, List.take_of_length_le (by simp)]⟩

def plR (hb : List UInt8) (pl : List (List UInt8)) : List (List UInt8) := hb :: (pl.map fun p => [bytesN p.length, p]).flatten
theorem plR_flat (hb : List UInt8) (pl : List (List UInt8)) : (plR hb pl).flatten = hb ++ textL pl := by
  unfold plR textL
  rw [List.flatten_cons]
  congr 1
  induction pl with
  | nil => rfl
  | cons x xs ih =>
    rw [List.map_cons, List.flatten_cons, List.flatten_append, ih, List.map_cons, List.flatten_cons]
    simp

theorem rows_parts (hb : List UInt8) (hh : hb.length < 1099511627776) (c : Nat) {ps : List AV} {o n : Nat} {pl : List (List UInt8)} (hpl : PartsAt ps o n pl) (hn : n < 8589934592) :
    ∀ i, i ≤ n → PartsAt (rowsA (hb.map by8) hb.length c ps o i) 0 (2 * i + 1) (plR hb (pl.take i))
  | 0, _ => by
    rw [rowsA_zero, List.take_zero]
    refine ⟨rfl, by omega, fun j lb hj => ?_⟩
    cases j with
    | zero =>
      obtain rfl : hb = lb := Option.some.inj hj
      exact ⟨hh, _, _, _, _, _, rfl, bytesAt_whole hb⟩
    | succ j => cases hj
  | i + 1, hi => by
    have ih := rows_parts hb hh c hpl hn i (by omega)
    have hlt : i < pl.length := by rw [hpl.1]; exact hi
    obtain ⟨hl, pc, off, len, cap, ex, hp, hbt⟩ := hpl.2.2 i pl[i] (List.getElem?_eq_getElem hlt)
    have hll := hbt.1
    rw [rowsA_succ _ _ _ _ _ _ hp, List.take_succ_eq_append_getElem hlt, twoA_ros hbt]
    have e1 : plR hb (pl.take i ++ [pl[i]]) = plR hb (pl.take i) ++ [bytesN len, pl[i]] := by
      unfold plR
      rw [List.map_append, List.flatten_append, ← hll]
      simp
    rw [e1]
    refine ih.append (m := 2) ⟨rfl, by omega, fun j lb hj => ?_⟩ (rowsA_length _ _ _ _ _ i (by have := hpl.lt (by omega); omega)) (by omega)
    cases j with
    | zero =>
      obtain rfl : bytesN len = lb := Option.some.inj hj
      exact ⟨by rw [bytesN_length]; omega, _, _, _, _, _, rfl, bytesAt_whole (bytesN len)⟩
    | succ j =>
      cases j with
      | zero =>
        obtain rfl : pl[i] = lb := Option.some.inj hj
        exact ⟨hl, _, _, _, _, _, rfl, hbt⟩
      | succ j => cases hj

theorem map_vw1 (H : Hl) {ps : List AV} (h : Rows1 ps) : ps.map (vw1 H) = ps := by
  have : ∀ p ∈ ps, vw1 H p = p := by
    intro p hp
    obtain ⟨cs, o, n, c, e, rfl, _⟩ := h p hp
    rfl
  rw [List.map_congr_left this, List.map_id'']
  intro a; rfl

theorem keep32 {xs : List AV} (h : xs.length = 32) : ops0.ext (ops0.spl (z8 32) 0 xs) 0 32 = xs := by
  rw [spl_all (by rw [z8_length, h]), nExt, List.drop_zero, List.take_of_length_le (by omega)]
theorem lab_lt {l : List UInt8} (h : ops0.cmp .gtr (ops0.ofn (ops0.slen l)) (Int.ofNat 64) = true) : 64 < l.length := by
  rw [nOfn, nSlen, nGtr] at h; exact of_decide_eq_true h
theorem lab_le {l : List UInt8} (h : ops0.cmp .gtr (ops0.ofn (ops0.slen l)) (Int.ofNat 64) = false) : ¬ 64 < l.length := by
  rw [nOfn, nSlen, nGtr] at h; exact of_decide_eq_false h

theorem tag41 {key l : List UInt8} (hk : key.length = 32) {ps : List AV} {o n : Nat} (c : Nat) (e : Bool) (h : PTag ps o n) :
    CallTo Try.prog 41 [.agg (key.map by8), .str l, .ros ps o n c e] [] (.agg ((tagL key l (partsL ps o n)).map by8)) [] [] := by
  refine call_n cnN1_ok ln41_ok (tabOne_ok ok41) (tabOne_self 41 vf41) (n := 200) (g := kdYes) (m := fun _ => 0) [] ?_ (by simp) (by show AV.agg _ = _; rw [renL_flat (flat_by8 _)]) (by simp)
  rw [vc41]
  refine Br.mk (fun hl => ?_) (fun hl => ?_)
  · have hl := lab_lt hl
    refine ⟨?_, rfl⟩
    rw [z8_eq]
    unfold tagL
    rw [if_pos hl]
  · have hl := lab_le hl
    obtain ⟨⟨hr1, pl, hpl⟩, hroom, htot⟩ := h
    have hpe : partsL ps o n = pl := hpl.parts
    have hge := textL_ge (partsL ps o n)
    rw [hpe, hpl.1] at hge
    rw [hpe] at htot
    have hkl : (key.map by8).length = 32 := by rw [List.length_map, hk]
    have e1 : ops0.ext (key.map by8) 0 32 = key.map by8 := by rw [nExt, List.drop_zero, List.take_of_length_le (by omega)]
    have e2 : MF.head (NF.toMF nf0) (key.map by8) l = (headL key l).map by8 := by
      show (headL (bytesA (key.map by8)) l).map by8 = _
      rw [bytesA_by8]
    have e3 : ops0.add (ops0.slen l) 33 = (headL key l).length := by rw [nPlus, nSlen, headL_length, hk]
    have e4 : TF.rows tf0 ((headL key l).map by8) (headL key l).length (headL key l).length ps o n = rowsA ((headL key l).map by8) (headL key l).length (headL key l).length ps o n := rfl
    rw [e1, e2, e3, e4]
    have hhl := headL_length key l
    have hrows := rowsA_rows (flat_by8 (headL key l)) (headL key l).length (headL key l).length o n hr1
    have hparts := rows_parts (headL key l) (by omega) (headL key l).length hpl (by omega) n (Nat.le_refl n)
    rw [List.take_of_length_le (by rw [hpl.1]; omega)] at hparts
    rw [map_vw1 _ hrows]
    have e5 : KF.sum (AF.toKF (NF.toAF nf0)) (rdP (rowsA ((headL key l).map by8) (headL key l).length (headL key l).length ps o n) 0 (2 * n + 1)) = (streamF 136 6 32 (headL key l ++ textL pl)).map by8 := by
      show (streamF 136 6 32 (rdP _ 0 (2 * n + 1))).map by8 = _
      have : rdP (rowsA ((headL key l).map by8) (headL key l).length (headL key l).length ps o n) 0 (2 * n + 1) = headL key l ++ textL pl := by
        unfold rdP
        rw [hparts.parts, plR_flat]
      rw [this]
    rw [e5]
    have hsl : ((streamF 136 6 32 (headL key l ++ textL pl)).map by8).length = 32 := by rw [List.length_map, streamF_length]
    rw [keep32 hsl]
    refine Chk.mk (by rw [nLe, nLen]; exact decide_eq_true (by omega)) ⟨⟨⟨key, hk, rfl⟩, by omega⟩, ⟨rfl, rfl, rfl, flat_by8 _, z8_flat _, ⟨_, rfl, rfl⟩, ⟨hr1, pl, hpl⟩, by omega⟩, ⟨hrows, _, hparts⟩,
      Chk.mk (by rw [nEq, nLen]; exact decide_eq_true hsl) (Chk.mk (by rw [nLe, nLen, spl_all (by rw [z8_length, hsl])]; exact decide_eq_true (by omega)) ⟨?_, rfl⟩)⟩
    unfold tagL
    rw [if_neg hl, hpe]

theorem tag40 {key l : List UInt8} (hk : key.length = 32) {ps : List AV} {o n : Nat} (c : Nat) (e : Bool) (h : PTag ps o n) :
    CallTo Try.prog 40 [.agg (key.map by8), .str l, .ros ps o n c e] [] (.agg ((tagL key l (partsL ps o n)).map by8)) [] [] := by
  refine call_n cnN1_ok ln40_ok (tabOne_ok ok40) (tabOne_self 40 vf40) (n := 200) (g := kdYes) (m := fun _ => 0) [] ?_ (by simp) (by show AV.agg _ = _; rw [renL_flat (flat_by8 _)]) (by simp)
  rw [vc40]
  refine Br.mk (fun hl => ?_) (fun hl => ?_)
  · have hl := lab_lt hl
    refine ⟨?_, rfl⟩
    rw [z8_eq]
    unfold tagL
    rw [if_pos hl]
  · have hl := lab_le hl
    obtain ⟨hpps, hroom, htot⟩ := h
    have hkl : (key.map by8).length = 32 := by rw [List.length_map, hk]
    have e1 : ops0.ext (key.map by8) 0 32 = key.map by8 := by rw [nExt, List.drop_zero, List.take_of_length_le (by omega)]
    have e2 : MF.head (NF.toMF nf0) (key.map by8) l = (headL key l).map by8 := by
      show (headL (bytesA (key.map by8)) l).map by8 = _
      rw [bytesA_by8]
    have e3 : ops0.add (ops0.slen l) 33 = (headL key l).length := by rw [nPlus, nSlen, headL_length, hk]
    have hhl := headL_length key l
    have e4 : TF.txt tf0 ((headL key l).map by8) ps o n = (headL key l ++ textL (partsL ps o n)).map by8 := by rw [List.map_append]; rfl
    have e6 : TF.len tf0 (headL key l).length ps o n = (headL key l ++ textL (partsL ps o n)).length := by rw [List.length_append]; rfl
    rw [e1, e2, e3, e4, e6]
    have e5 : KF.sum (AF.toKF (NF.toAF nf0)) (rdB ((headL key l ++ textL (partsL ps o n)).map by8) 0 (headL key l ++ textL (partsL ps o n)).length) = (streamF 136 6 32 (headL key l ++ textL (partsL ps o n))).map by8 := by
      show (streamF 136 6 32 (rdB _ 0 _)).map by8 = _
      rw [rdB_eq (bytesAt_whole _)]
    rw [e5]
    have hsl : ((streamF 136 6 32 (headL key l ++ textL (partsL ps o n))).map by8).length = 32 := by rw [List.length_map, streamF_length]
    rw [keep32 hsl]
    refine Chk.mk (by rw [nLe, nLen]; exact decide_eq_true (by omega)) ⟨⟨⟨key, hk, rfl⟩, by omega⟩, ⟨rfl, rfl, rfl, hroom, flat_by8 _, z8_flat _, by omega, ⟨_, rfl, rfl⟩, hpps, htot⟩, ⟨flat_by8 _, by simp, by rw [List.length_append]; omega, _, bytesAt_whole _⟩,
      Chk.mk (by rw [nEq, nLen]; exact decide_eq_true hsl) (Chk.mk (by rw [nLe, nLen, spl_all (by rw [z8_length, hsl])]; exact decide_eq_true (by omega)) ⟨?_, rfl⟩)⟩
    unfold tagL
    rw [if_neg hl]

end
end Go.Proofs.Vm
