/-
  KECCAK, PART 18: the digest and the stream, of the program.
-/
import Derived.Test.YtfmhlogapbpnbaaYag
import Derived.Test.YtfmhlogapbpnbaaYae

namespace Go.Proofs.Vm
open Go.Vm
noncomputable section
def P69 (cs ps : List AV) (o n : Nat) (y : Int) : Prop := SpR cs ∧ Still ps ∧ (∃ pl, PartsAt ps o n pl) ∧ ∃ b : UInt8, y = Int.ofNat b.toNat
def P70 (b c : Nat) (cs os : List AV) (n : Nat) : Prop := b ≠ c ∧ flatL os ∧ n ≤ os.length ∧ n < 1099511627776 ∧ ∃ (rate : Nat) (x : List Int × Nat), 1 ≤ rate ∧ rate ≤ 168 ∧ x.1.length = 25 ∧ x.2 ≤ rate ∧ cs = spC rate x
def finC (cs ps : List AV) (o n : Nat) (y : Int) : List AV := spC (rateA cs) (fin (rateA cs) (UInt8.ofNat y.toNat) (takeL (rateA cs) (stA cs) (((ps.drop o).take n).map partA).flatten), 0)
def letS (cs : List AV) (n : Nat) : List AV := spC (rateA cs) (ltN (rateA cs) n (stA cs))
def letO (cs os : List AV) (n : Nat) : List AV := (letL (rateA cs) n (stA cs)).map by8 ++ os.drop n

/-- An empty sponge. -/
def sp0 (r : Int) : List AV := zero25 ++ tail r 0

/-- What the sponge's functions come to (kept apart). -/
structure SF where
  fin : List AV → List AV → Nat → Nat → Int → List AV
  lets : List AV → Nat → List AV
  leto : List AV → List AV → Nat → List AV
  sp : Int → List AV
def sf0 : SF := ⟨finC, letS, letO, sp0⟩
/-- The sponge's functions, in any memory. -/
def cnTl (S : SF) : CnF := fun f vals H => match f, vals with
  | 69, [.ptr b 0, .ros ps o n c e, .int .u8 y] => match nth H b with
    | some (.cells cs) => some (P69 cs ps o n y, .ok (.tup []) (put H b (.cells (S.fin cs ps o n y))) [b])
    | _ => none
  | 70, [.ptr b 0, .slc d 0 n c 1] => match nth H b, nth H d with
    | some (.cells cs), some (.cells os) => some (P70 b d cs os n, .ok (.tup []) (put (put H b (.cells (S.lets cs n))) d (.cells (S.leto cs os n))) [b, d])
    | _, _ => none
  | 68, [.int .i64 r] => some (True, .ok (.ptr (size H) 0) (join H [.cells (S.sp r)]) [])
  | _, _ => none
/-- How many blocks the result bears. -/
def mR : AV → Nat
  | .slc _ _ _ _ _ => 1
  | _ => 0

theorem vc26 (S : SF) (ps : List AV) (o n c : Nat) (e : Bool) (Q : AV → Hl → Prop) :
  (vcall (vcA kdYes (cnTl S) noLn) ops0 (tabOne 26 vf26) 100 vf26 [.ros ps o n c e] [] (endN (fun _ => 0) Q)) =
 ((True ∧
 ((P69 (SF.sp S (Int.ofNat 136)) ps o n (Int.ofNat 6)) ∧
 ((P70 2 1 (SF.fin S (SF.sp S (Int.ofNat 136)) ps o n (Int.ofNat 6)) [(AV.int IntKind.u8 (Int.ofNat 0)), (AV.int IntKind.u8 (Int.ofNat 0)), (AV.int IntKind.u8 (Int.ofNat 0)), (AV.int IntKind.u8 (Int.ofNat 0)), (AV.int IntKind.u8 (Int.ofNat 0)), (AV.int IntKind.u8 (Int.ofNat 0)), (AV.int IntKind.u8 (Int.ofNat 0)), (AV.int IntKind.u8 (Int.ofNat 0)), (AV.int IntKind.u8 (Int.ofNat 0)), (AV.int IntKind.u8 (Int.ofNat 0)), (AV.int IntKind.u8 (Int.ofNat 0)), (AV.int IntKind.u8 (Int.ofNat 0)), (AV.int IntKind.u8 (Int.ofNat 0)), (AV.int IntKind.u8 (Int.ofNat 0)), (AV.int IntKind.u8 (Int.ofNat 0)), (AV.int IntKind.u8 (Int.ofNat 0)), (AV.int IntKind.u8 (Int.ofNat 0)), (AV.int IntKind.u8 (Int.ofNat 0)), (AV.int IntKind.u8 (Int.ofNat 0)), (AV.int IntKind.u8 (Int.ofNat 0)), (AV.int IntKind.u8 (Int.ofNat 0)), (AV.int IntKind.u8 (Int.ofNat 0)), (AV.int IntKind.u8 (Int.ofNat 0)), (AV.int IntKind.u8 (Int.ofNat 0)), (AV.int IntKind.u8 (Int.ofNat 0)), (AV.int IntKind.u8 (Int.ofNat 0)), (AV.int IntKind.u8 (Int.ofNat 0)), (AV.int IntKind.u8 (Int.ofNat 0)), (AV.int IntKind.u8 (Int.ofNat 0)), (AV.int IntKind.u8 (Int.ofNat 0)), (AV.int IntKind.u8 (Int.ofNat 0)), (AV.int IntKind.u8 (Int.ofNat 0))] 32) ∧
 (Chk (ops0.le 32 (ops0.len (SF.leto S (SF.fin S (SF.sp S (Int.ofNat 136)) ps o n (Int.ofNat 6)) [(AV.int IntKind.u8 (Int.ofNat 0)), (AV.int IntKind.u8 (Int.ofNat 0)), (AV.int IntKind.u8 (Int.ofNat 0)), (AV.int IntKind.u8 (Int.ofNat 0)), (AV.int IntKind.u8 (Int.ofNat 0)), (AV.int IntKind.u8 (Int.ofNat 0)), (AV.int IntKind.u8 (Int.ofNat 0)), (AV.int IntKind.u8 (Int.ofNat 0)), (AV.int IntKind.u8 (Int.ofNat 0)), (AV.int IntKind.u8 (Int.ofNat 0)), (AV.int IntKind.u8 (Int.ofNat 0)), (AV.int IntKind.u8 (Int.ofNat 0)), (AV.int IntKind.u8 (Int.ofNat 0)), (AV.int IntKind.u8 (Int.ofNat 0)), (AV.int IntKind.u8 (Int.ofNat 0)), (AV.int IntKind.u8 (Int.ofNat 0)), (AV.int IntKind.u8 (Int.ofNat 0)), (AV.int IntKind.u8 (Int.ofNat 0)), (AV.int IntKind.u8 (Int.ofNat 0)), (AV.int IntKind.u8 (Int.ofNat 0)), (AV.int IntKind.u8 (Int.ofNat 0)), (AV.int IntKind.u8 (Int.ofNat 0)), (AV.int IntKind.u8 (Int.ofNat 0)), (AV.int IntKind.u8 (Int.ofNat 0)), (AV.int IntKind.u8 (Int.ofNat 0)), (AV.int IntKind.u8 (Int.ofNat 0)), (AV.int IntKind.u8 (Int.ofNat 0)), (AV.int IntKind.u8 (Int.ofNat 0)), (AV.int IntKind.u8 (Int.ofNat 0)), (AV.int IntKind.u8 (Int.ofNat 0)), (AV.int IntKind.u8 (Int.ofNat 0)), (AV.int IntKind.u8 (Int.ofNat 0))] 32)))
 (Chk (ops0.eq (ops0.len (ops0.ext (SF.leto S (SF.fin S (SF.sp S (Int.ofNat 136)) ps o n (Int.ofNat 6)) [(AV.int IntKind.u8 (Int.ofNat 0)), (AV.int IntKind.u8 (Int.ofNat 0)), (AV.int IntKind.u8 (Int.ofNat 0)), (AV.int IntKind.u8 (Int.ofNat 0)), (AV.int IntKind.u8 (Int.ofNat 0)), (AV.int IntKind.u8 (Int.ofNat 0)), (AV.int IntKind.u8 (Int.ofNat 0)), (AV.int IntKind.u8 (Int.ofNat 0)), (AV.int IntKind.u8 (Int.ofNat 0)), (AV.int IntKind.u8 (Int.ofNat 0)), (AV.int IntKind.u8 (Int.ofNat 0)), (AV.int IntKind.u8 (Int.ofNat 0)), (AV.int IntKind.u8 (Int.ofNat 0)), (AV.int IntKind.u8 (Int.ofNat 0)), (AV.int IntKind.u8 (Int.ofNat 0)), (AV.int IntKind.u8 (Int.ofNat 0)), (AV.int IntKind.u8 (Int.ofNat 0)), (AV.int IntKind.u8 (Int.ofNat 0)), (AV.int IntKind.u8 (Int.ofNat 0)), (AV.int IntKind.u8 (Int.ofNat 0)), (AV.int IntKind.u8 (Int.ofNat 0)), (AV.int IntKind.u8 (Int.ofNat 0)), (AV.int IntKind.u8 (Int.ofNat 0)), (AV.int IntKind.u8 (Int.ofNat 0)), (AV.int IntKind.u8 (Int.ofNat 0)), (AV.int IntKind.u8 (Int.ofNat 0)), (AV.int IntKind.u8 (Int.ofNat 0)), (AV.int IntKind.u8 (Int.ofNat 0)), (AV.int IntKind.u8 (Int.ofNat 0)), (AV.int IntKind.u8 (Int.ofNat 0)), (AV.int IntKind.u8 (Int.ofNat 0)), (AV.int IntKind.u8 (Int.ofNat 0))] 32) 0 32)) 32)
 (Chk (ops0.le 32 (ops0.len (ops0.spl [(AV.int IntKind.u8 (Int.ofNat 0)), (AV.int IntKind.u8 (Int.ofNat 0)), (AV.int IntKind.u8 (Int.ofNat 0)), (AV.int IntKind.u8 (Int.ofNat 0)), (AV.int IntKind.u8 (Int.ofNat 0)), (AV.int IntKind.u8 (Int.ofNat 0)), (AV.int IntKind.u8 (Int.ofNat 0)), (AV.int IntKind.u8 (Int.ofNat 0)), (AV.int IntKind.u8 (Int.ofNat 0)), (AV.int IntKind.u8 (Int.ofNat 0)), (AV.int IntKind.u8 (Int.ofNat 0)), (AV.int IntKind.u8 (Int.ofNat 0)), (AV.int IntKind.u8 (Int.ofNat 0)), (AV.int IntKind.u8 (Int.ofNat 0)), (AV.int IntKind.u8 (Int.ofNat 0)), (AV.int IntKind.u8 (Int.ofNat 0)), (AV.int IntKind.u8 (Int.ofNat 0)), (AV.int IntKind.u8 (Int.ofNat 0)), (AV.int IntKind.u8 (Int.ofNat 0)), (AV.int IntKind.u8 (Int.ofNat 0)), (AV.int IntKind.u8 (Int.ofNat 0)), (AV.int IntKind.u8 (Int.ofNat 0)), (AV.int IntKind.u8 (Int.ofNat 0)), (AV.int IntKind.u8 (Int.ofNat 0)), (AV.int IntKind.u8 (Int.ofNat 0)), (AV.int IntKind.u8 (Int.ofNat 0)), (AV.int IntKind.u8 (Int.ofNat 0)), (AV.int IntKind.u8 (Int.ofNat 0)), (AV.int IntKind.u8 (Int.ofNat 0)), (AV.int IntKind.u8 (Int.ofNat 0)), (AV.int IntKind.u8 (Int.ofNat 0)), (AV.int IntKind.u8 (Int.ofNat 0))] 0 (ops0.ext (SF.leto S (SF.fin S (SF.sp S (Int.ofNat 136)) ps o n (Int.ofNat 6)) [(AV.int IntKind.u8 (Int.ofNat 0)), (AV.int IntKind.u8 (Int.ofNat 0)), (AV.int IntKind.u8 (Int.ofNat 0)), (AV.int IntKind.u8 (Int.ofNat 0)), (AV.int IntKind.u8 (Int.ofNat 0)), (AV.int IntKind.u8 (Int.ofNat 0)), (AV.int IntKind.u8 (Int.ofNat 0)), (AV.int IntKind.u8 (Int.ofNat 0)), (AV.int IntKind.u8 (Int.ofNat 0)), (AV.int IntKind.u8 (Int.ofNat 0)), (AV.int IntKind.u8 (Int.ofNat 0)), (AV.int IntKind.u8 (Int.ofNat 0)), (AV.int IntKind.u8 (Int.ofNat 0)), (AV.int IntKind.u8 (Int.ofNat 0)), (AV.int IntKind.u8 (Int.ofNat 0)), (AV.int IntKind.u8 (Int.ofNat 0)), (AV.int IntKind.u8 (Int.ofNat 0)), (AV.int IntKind.u8 (Int.ofNat 0)), (AV.int IntKind.u8 (Int.ofNat 0)), (AV.int IntKind.u8 (Int.ofNat 0)), (AV.int IntKind.u8 (Int.ofNat 0)), (AV.int IntKind.u8 (Int.ofNat 0)), (AV.int IntKind.u8 (Int.ofNat 0)), (AV.int IntKind.u8 (Int.ofNat 0)), (AV.int IntKind.u8 (Int.ofNat 0)), (AV.int IntKind.u8 (Int.ofNat 0)), (AV.int IntKind.u8 (Int.ofNat 0)), (AV.int IntKind.u8 (Int.ofNat 0)), (AV.int IntKind.u8 (Int.ofNat 0)), (AV.int IntKind.u8 (Int.ofNat 0)), (AV.int IntKind.u8 (Int.ofNat 0)), (AV.int IntKind.u8 (Int.ofNat 0))] 32) 0 32))))
 (Q (AV.agg (ops0.ext (ops0.spl [(AV.int IntKind.u8 (Int.ofNat 0)), (AV.int IntKind.u8 (Int.ofNat 0)), (AV.int IntKind.u8 (Int.ofNat 0)), (AV.int IntKind.u8 (Int.ofNat 0)), (AV.int IntKind.u8 (Int.ofNat 0)), (AV.int IntKind.u8 (Int.ofNat 0)), (AV.int IntKind.u8 (Int.ofNat 0)), (AV.int IntKind.u8 (Int.ofNat 0)), (AV.int IntKind.u8 (Int.ofNat 0)), (AV.int IntKind.u8 (Int.ofNat 0)), (AV.int IntKind.u8 (Int.ofNat 0)), (AV.int IntKind.u8 (Int.ofNat 0)), (AV.int IntKind.u8 (Int.ofNat 0)), (AV.int IntKind.u8 (Int.ofNat 0)), (AV.int IntKind.u8 (Int.ofNat 0)), (AV.int IntKind.u8 (Int.ofNat 0)), (AV.int IntKind.u8 (Int.ofNat 0)), (AV.int IntKind.u8 (Int.ofNat 0)), (AV.int IntKind.u8 (Int.ofNat 0)), (AV.int IntKind.u8 (Int.ofNat 0)), (AV.int IntKind.u8 (Int.ofNat 0)), (AV.int IntKind.u8 (Int.ofNat 0)), (AV.int IntKind.u8 (Int.ofNat 0)), (AV.int IntKind.u8 (Int.ofNat 0)), (AV.int IntKind.u8 (Int.ofNat 0)), (AV.int IntKind.u8 (Int.ofNat 0)), (AV.int IntKind.u8 (Int.ofNat 0)), (AV.int IntKind.u8 (Int.ofNat 0)), (AV.int IntKind.u8 (Int.ofNat 0)), (AV.int IntKind.u8 (Int.ofNat 0)), (AV.int IntKind.u8 (Int.ofNat 0)), (AV.int IntKind.u8 (Int.ofNat 0))] 0 (ops0.ext (SF.leto S (SF.fin S (SF.sp S (Int.ofNat 136)) ps o n (Int.ofNat 6)) [(AV.int IntKind.u8 (Int.ofNat 0)), (AV.int IntKind.u8 (Int.ofNat 0)), (AV.int IntKind.u8 (Int.ofNat 0)), (AV.int IntKind.u8 (Int.ofNat 0)), (AV.int IntKind.u8 (Int.ofNat 0)), (AV.int IntKind.u8 (Int.ofNat 0)), (AV.int IntKind.u8 (Int.ofNat 0)), (AV.int IntKind.u8 (Int.ofNat 0)), (AV.int IntKind.u8 (Int.ofNat 0)), (AV.int IntKind.u8 (Int.ofNat 0)), (AV.int IntKind.u8 (Int.ofNat 0)), (AV.int IntKind.u8 (Int.ofNat 0)), (AV.int IntKind.u8 (Int.ofNat 0)), (AV.int IntKind.u8 (Int.ofNat 0)), (AV.int IntKind.u8 (Int.ofNat 0)), (AV.int IntKind.u8 (Int.ofNat 0)), (AV.int IntKind.u8 (Int.ofNat 0)), (AV.int IntKind.u8 (Int.ofNat 0)), (AV.int IntKind.u8 (Int.ofNat 0)), (AV.int IntKind.u8 (Int.ofNat 0)), (AV.int IntKind.u8 (Int.ofNat 0)), (AV.int IntKind.u8 (Int.ofNat 0)), (AV.int IntKind.u8 (Int.ofNat 0)), (AV.int IntKind.u8 (Int.ofNat 0)), (AV.int IntKind.u8 (Int.ofNat 0)), (AV.int IntKind.u8 (Int.ofNat 0)), (AV.int IntKind.u8 (Int.ofNat 0)), (AV.int IntKind.u8 (Int.ofNat 0)), (AV.int IntKind.u8 (Int.ofNat 0)), (AV.int IntKind.u8 (Int.ofNat 0)), (AV.int IntKind.u8 (Int.ofNat 0)), (AV.int IntKind.u8 (Int.ofNat 0))] 32) 0 32)) 0 32)) [])))))))) := by kernel_rfl

theorem vc27 (S : SF) (k : Int) (ps : List AV) (o n c : Nat) (e : Bool) (Q : AV → Hl → Prop) :
  (vcall (vcA kdYes (cnTl S) noLn) ops0 (tabOne 27 vf27) 100 vf27 [.int .i64 k, .ros ps o n c e] [] (endN mR Q)) =
 ((Br (ops0.cmp BinOp.lss k (Int.ofNat 1))
 (Q AV.nils [])
 (Br (ops0.cmp BinOp.gtr k (Int.ofNat 65536))
 (Q AV.nils [])
 (Chk (ops0.mkr k k 1)
 (True ∧
 ((P69 (SF.sp S (Int.ofNat 168)) ps o n (Int.ofNat 31)) ∧
 ((P70 1 0 (SF.fin S (SF.sp S (Int.ofNat 168)) ps o n (Int.ofNat 31)) (ops0.rep (ops0.nat k) [(AV.int IntKind.u8 (Int.ofNat 0))]) (ops0.nat k)) ∧
 (Q (AV.slc 0 0 (ops0.nat k) (ops0.nat k) 1) [(Blk.cells (renL (pickN [0]) Go.Vm.noView Bool.true (SF.leto S (SF.fin S (SF.sp S (Int.ofNat 168)) ps o n (Int.ofNat 31)) (ops0.rep (ops0.nat k) [(AV.int IntKind.u8 (Int.ofNat 0))]) (ops0.nat k))))])))))))) := by kernel_rfl

theorem sp0_eq (r : Nat) : sp0 (Int.ofNat r) = spC r (zer, 0) := rfl
theorem flat_by8 (l : List UInt8) : flatL (l.map by8) := by
  intro a ha
  obtain ⟨b, _, rfl⟩ := List.mem_map.1 ha
  rfl
theorem flat_sp (rate : Nat) (x : List Int × Nat) : flatL (spC rate x) := flatL_append (flatL_ints _ _) (tail_flat _ _)
theorem finC_eq {rate : Nat} {x : List Int × Nat} (hx : x.1.length = 25) {ps : List AV} {o n : Nat} {pl : List (List UInt8)} (hpl : PartsAt ps o n pl) (b : UInt8) :
    finC (spC rate x) ps o n (Int.ofNat b.toNat) = spC rate (fin rate b (takeL rate x pl.flatten), 0) := by
  unfold finC
  rw [rateA_sp rate hx, stA_sp rate hx, hpl.parts]
  have : UInt8.ofNat (Int.ofNat b.toNat).toNat = b := by simp
  rw [this]
theorem letO_eq {rate : Nat} {x : List Int × Nat} (hx : x.1.length = 25) (os : List AV) (n : Nat) : letO (spC rate x) os n = (letL rate n x).map by8 ++ os.drop n := by
  unfold letO
  rw [rateA_sp rate hx, stA_sp rate hx]
theorem letS_eq {rate : Nat} {x : List Int × Nat} (hx : x.1.length = 25) (n : Nat) : letS (spC rate x) n = spC rate (ltN rate n x) := by
  unfold letS
  rw [rateA_sp rate hx, stA_sp rate hx]
theorem fin_length (rate : Nat) (b : UInt8) {x : List Int × Nat} (hx : x.1.length = 25) : (fin rate b x).length = 25 := st_length (addB_length (addB_length hx _ _) _ _) 24

theorem cnTl_ok : CnOK Try.prog (cnTl sf0) := by
  intro f vals H p x e hp
  unfold cnTl at e
  split at e
  · rename_i b ps o n c ex y
    split at e <;> cases e
    rename_i cs hb
    rw [nth_eq] at hb
    obtain ⟨⟨rate, x, h1, h2, h3, rfl⟩, hs, ⟨pl, hpl⟩, u, rfl⟩ := hp
    show CallTo _ _ _ _ _ (put H b (.cells (finC _ _ _ _ _))) _
    rw [finC_eq h2 hpl]
    exact CallTo.one (vals := [.ptr b 0, .ros ps o n c ex, by8 u]) (take69 rate h1 (by omega) x h2 h3 ps o n c ex pl hpl u) hb (flat_sp _ _) (flat_sp _ _) (fun φ => by
      simp only [renL, ren_one, Still.ros hs]; rfl)
  · rename_i b d n c
    split at e <;> cases e
    rename_i cs os hb hd
    rw [nth_eq] at hb hd
    obtain ⟨hbd, ho, hn, hn2, rate, x, r1, r2, r3, r4, rfl⟩ := hp
    show CallTo _ _ _ _ _ (put (put H b (.cells (letS _ _))) d (.cells (letO _ _ _))) _
    rw [letS_eq r3, letO_eq r3]
    exact CallTo.two (vals := [.ptr b 0, .slc d 0 n c 1]) (let70 rate r1 r2 x r3 r4 n c os hn hn2) hb hd hbd (flat_sp _ _) (flat_sp _ _) ho (flatL_append (flat_by8 _) (fun a ha => ho a (List.mem_of_mem_drop ha))) (fun φ => by
      have : Nat.beq b d = false := by
        cases h : Nat.beq b d
        · rfl
        · exact absurd (Nat.eq_of_beq_eq_true h) hbd
      simp [renL, ren, pickN, placeIn, Nat.beq_refl, this])
  · rename_i r
    cases e
    exact CallTo.new (vals := [.int .i64 r]) (call_cut tabC_ok (tabOne_ok ok68) (tabOne_self 68 vf68) 1 [] (start_run r) (by simp) (fun b hb => by cases hb)) (flatL_append zero25_flat (tail_flat _ _)) (fun φ => rfl)
  · cases e

theorem take_app {l : List UInt8} {n : Nat} (h : l.length = n) (t : List AV) : (l.map by8 ++ t).take n = l.map by8 := by
  rw [List.take_append_of_le_length (by simp [h]), List.take_of_length_le (by simp [h])]

/-- THE DIGEST OF ALL PARTS, by the program. -/
theorem sum26 {ps : List AV} {o n : Nat} (c : Nat) (e : Bool) {pl : List (List UInt8)} (hs : Still ps) (hpl : PartsAt ps o n pl) :
    CallTo Try.prog 26 [.ros ps o n c e] [] (.agg ((streamF 136 6 32 pl.flatten).map by8)) [] [] := by
  refine call_n cnTl_ok (noLn_ok _) (tabOne_ok ok26) (tabOne_self 26 vf26) (n := 100) (g := kdYes) (m := fun _ => 0) [] ?_ (by simp) ?_ (by simp)
  · rw [vc26]
    have e1 : SF.fin sf0 (SF.sp sf0 (Int.ofNat 136)) ps o n (Int.ofNat 6) = spC 136 (absorb 136 6 pl.flatten, 0) := finC_eq (rate := 136) (x := (zer, 0)) rfl hpl 6
    have hl : (absorb 136 6 pl.flatten).length = 25 := (absorb_ok 136 6 _).1
    refine ⟨trivial, ⟨⟨136, (zer, 0), by omega, rfl, by simp, rfl⟩, hs, ⟨pl, hpl⟩, 6, rfl⟩, ?_⟩
    rw [e1]
    have e2 : ∀ os, SF.leto sf0 (spC 136 (absorb 136 6 pl.flatten, 0)) os 32 = (streamF 136 6 32 pl.flatten).map by8 ++ os.drop 32 := fun os => letO_eq (x := (absorb 136 6 pl.flatten, 0)) hl os 32
    simp only [e2]
    have hL := streamF_length 136 6 32 pl.flatten
    generalize streamF 136 6 32 pl.flatten = L at hL ⊢
    simp only [nLe, nLen, nExt, nEq, nSpl, List.drop_zero, List.take_zero, List.nil_append]
    rw [take_app hL]
    refine ⟨⟨by omega, ?_, by simp, by omega, 136, (absorb 136 6 pl.flatten, 0), by omega, by omega, hl, by simp, rfl⟩, Chk.mk (decide_eq_true (by simp; omega)) (Chk.mk (decide_eq_true (by simp; omega)) (Chk.mk (decide_eq_true (by simp; omega)) ⟨?_, trivial⟩))⟩
    · intro a ha
      simp only [List.mem_cons, List.not_mem_nil, or_false, or_self] at ha
      rw [ha]; rfl
    · rw [take_app hL]
  · show AV.agg _ = _
    rw [renL_flat (flat_by8 _)]

/-- THE STREAM OF ALL PARTS, by the program. -/
theorem stream27 {ps : List AV} {o n : Nat} (c : Nat) (e : Bool) {pl : List (List UInt8)} (hs : Still ps) (hpl : PartsAt ps o n pl) (k : Nat) (hk : 1 ≤ k ∧ k ≤ 65536) :
    CallTo Try.prog 27 [.int .i64 (Int.ofNat k), .ros ps o n c e] [] (.slc 0 0 k k 1) [.cells ((streamF 168 31 k pl.flatten).map by8)] [] := by
  refine call_n cnTl_ok (noLn_ok _) (tabOne_ok ok27) (tabOne_self 27 vf27) (n := 100) (g := kdYes) (m := mR) [] ?_ (by simp) ?_ (by simp)
  · rw [vc27]
    have e1 : SF.fin sf0 (SF.sp sf0 (Int.ofNat 168)) ps o n (Int.ofNat 31) = spC 168 (absorb 168 31 pl.flatten, 0) := finC_eq (rate := 168) (x := (zer, 0)) rfl hpl 31
    have hl : (absorb 168 31 pl.flatten).length = 25 := (absorb_ok 168 31 _).1
    have e2 : ∀ os, SF.leto sf0 (spC 168 (absorb 168 31 pl.flatten, 0)) os k = (streamF 168 31 k pl.flatten).map by8 ++ os.drop k := fun os => letO_eq (x := (absorb 168 31 pl.flatten, 0)) hl os k
    refine Br.f (by rw [nLss]; exact decide_eq_false (by omega)) (Br.f (by rw [nGtr]; exact decide_eq_false (by omega)) (Chk.mk (by rw [nMkr]; simp; omega) ⟨trivial, ⟨⟨168, (zer, 0), by omega, rfl, by simp, rfl⟩, hs, ⟨pl, hpl⟩, 31, rfl⟩, ?_⟩))
    rw [e1]
    simp only [e2, nNat, nRep]
    have hL := streamF_length 168 31 k pl.flatten
    generalize streamF 168 31 k pl.flatten = L at hL ⊢
    have hz : (List.replicate k [AV.int IntKind.u8 (Int.ofNat 0)]).flatten.length = k := by simp
    refine ⟨⟨by omega, ?_, by omega, by omega, 168, (absorb 168 31 pl.flatten, 0), by omega, by omega, hl, by simp, rfl⟩, trivial, ?_⟩
    · intro a ha
      simp only [List.mem_flatten, List.mem_replicate] at ha
      obtain ⟨l, ⟨_, rfl⟩, hl⟩ := ha
      simp only [List.mem_singleton] at hl
      rw [hl]; rfl
    · rw [List.drop_of_length_le (by omega), List.append_nil, renL_flat (flat_by8 _)]
  · rfl

theorem stream27_nil {ps : List AV} {o n : Nat} (c : Nat) (e : Bool) (k : Int) (hk : ¬ (1 ≤ k ∧ k ≤ 65536)) :
    CallTo Try.prog 27 [.int .i64 k, .ros ps o n c e] [] .nils [] [] := by
  refine call_n cnTl_ok (noLn_ok _) (tabOne_ok ok27) (tabOne_self 27 vf27) (n := 100) (g := kdYes) (m := mR) [] ?_ (by simp) ?_ (by simp)
  · rw [vc27]
    refine Br.mk (fun h => ⟨rfl, rfl⟩) (fun h => Br.mk (fun h => ⟨rfl, rfl⟩) (fun h2 => ?_))
    have h : ¬ k < 1 := of_decide_eq_false h
    have h2 : ¬ k > 65536 := of_decide_eq_false h2
    omega
  · rfl

end
end Go.Proofs.Vm
