/-
  A VERIFIED SYMBOLIC MACHINE, PART Vw: a contract of a function that only looks at slices, wherever these lie.
-/
import Derived.Test.YtfmhlogapbpnbaaYb
import Derived.Test.YtfmhlogapbpnbaaVmK12
import Derived.Test.YtfmhlogapbpnbaaVmK13

namespace Go.Vm
noncomputable section

/-- x, in the memory H, reads as y where nothing is owned. -/
def Vw (H : Hl) (x y : AV) : Prop := VLe (ren (pickN []) (viewF H [] 3) true x) y
inductive Vws (H : Hl) : List AV → List AV → Prop where
  | nil : Vws H [] []
  | cons {x y : AV} {xs ys : List AV} (h : Vw H x y) (t : Vws H xs ys) : Vws H (x :: xs) (y :: ys)

theorem vws_rel {H : Hl} {xs ys : List AV} (h : Vws H xs ys) {ρ : Rho} {w : World} : ∀ {vs : List Value}, VRels ρ w (renL (pickN []) (viewF H [] 3) true xs) vs → VRels ρ w ys vs := by
  induction h with
  | nil => intro vs hv; exact hv
  | cons h _ ih =>
    intro vs hv
    cases vs with
    | nil => have := hv.len; simp [renL] at this
    | cons v vs => exact .cons (h _ _ _ hv.head) (ih hv.tail)

theorem CallTo.le {P : Program} {f : Nat} {vals vals' : List AV} {H H' : Hl} {r : AV} {lg : List Nat} (hc : CallTo P f vals' H r H' lg) (h : ∀ ρ w us, VRels ρ w vals us → VRels ρ w vals' us) : CallTo P f vals H r H' lg :=
  ⟨hc.real, hc.grow, hc.keep, fun ρ w us hg hv => hc.does ρ w us hg (h ρ w us hv)⟩

/-- Looking alone: a value alone. -/
theorem CallTo.lookV {P : Program} {f : Nat} {vals vals0 : List AV} {r0 : AV} {lg : List Nat} {H : Hl} (hc : CallTo P f vals0 [] r0 [] lg) (h : Vws H vals vals0) : CallTo P f vals H (backV [] H.length r0) H [] :=
  CallTo.pure 3 (hc.le fun ρ w us hv => vws_rel h hv)

/-- Looking alone: a new block, without names in it. -/
theorem CallTo.lookS {P : Program} {f : Nat} {vals vals0 : List AV} {o n c sz : Nat} {cs : List AV} {H : Hl} {lg : List Nat} (hc : CallTo P f vals0 [] (.slc 0 o n c sz) [.cells cs] lg) (h1 : flatL cs) (h : Vws H vals vals0) :
    CallTo P f vals H (.slc (size H) o n c sz) (join H [.cells cs]) [] := by
  have hc' : CallTo P f (renL (pickN []) (viewF H [] 3) true vals) (pickH (viewF H [] 3) [] H) (.slc 0 o n c sz) [.cells cs] lg := hc.le fun ρ w us hv => vws_rel h hv
  have h := CallTo.frame (H := H) (vals := vals) [] 3 List.nodup_nil (fun b hb => by cases hb) hc' (fun b c hp => by cases hp)
  have e1 : backH [] H [.cells cs] = join H [.cells cs] := by
    apply List.ext_getElem?
    intro b
    rw [backH_get, join_eq]
    by_cases hb : b < H.length
    · rw [if_pos hb, List.getElem?_append_left hb]; rfl
    · rw [if_neg hb, List.getElem?_append_right (by omega)]
      simp only [List.length_nil, Nat.zero_add]
      cases b - H.length with
      | zero => simp [backB, renB, renL_flat h1]
      | succ d => simp
  have e2 : backL [] lg = [] := by simp [backL]
  have e3 : backV [] H.length (.slc 0 o n c sz) = .slc (size H) o n c sz := by simp [backV, ren, backN, size_eq]
  rw [e1, e2, e3] at h
  exact h

theorem Vw.same {H : Hl} {x : AV} (h : ∀ σ φ, ren σ φ true x = x) : Vw H x x := by
  unfold Vw
  rw [h]
  exact VLe.refl x
theorem Vw.int (H : Hl) (k : IntKind) (n : Int) : Vw H (.int k n) (.int k n) := .same fun _ _ => rfl
theorem Vw.str (H : Hl) (s : List UInt8) : Vw H (.str s) (.str s) := .same fun _ _ => rfl
theorem Vw.agg (H : Hl) {cs : List AV} (h : Still cs) : Vw H (.agg cs) (.agg cs) := .same fun σ φ => by simp only [ren, h σ φ]

/-- Bytes and their like, as slices of nobody. -/
def vw1 (H : Hl) (x : AV) : AV :=
  match x with
  | .ros cs o n c e => .ros cs o n c e
  | .slc b o n c _ => match nth H b with
    | some (.cells cs) => .ros cs o n c false
    | _ => .top
  | .nils => .ros [] 0 0 0 true
  | _ => .top

theorem Vw.one {H : Hl} {x : AV} {cs : List AV} {o n c : Nat} {e : Bool} (h : vw1 H x = .ros cs o n c e) (hf : flatL cs) : Vw H x (.ros cs o n c e) := by
  unfold vw1 at h
  split at h
  · cases h
    exact .same fun σ φ => Still.ros (Still.flat hf) o n c e σ φ
  · rename_i b o' n' c' sz
    split at h <;> cases h
    rename_i hb
    rw [nth_eq] at hb
    unfold Vw
    have : ren (pickN []) (viewF H [] 3) true (.slc b o n c sz) = .ros cs o n c false := by
      have e1 : pickN [] b = none := rfl
      have e2 : viewF H [] 3 b = some cs := by
        unfold viewF
        rw [hb]
        simp only [renL_flat hf]
      simp only [ren, e1, e2]
    rw [this]
    exact VLe.refl _
  · cases h
    exact VLe.nils
  · cases h

theorem VLe.ros {cs cs' : List AV} (hl : cs.length = cs'.length) (h : ∀ (i : Nat) (a b : AV), cs[i]? = some a → cs'[i]? = some b → VLe a b) (o n c : Nat) (e : Bool) : VLe (.ros cs o n c e) (.ros cs' o n c e) := by
  intro ρ w v hv
  have hne : cs' ≠ [] → cs ≠ [] := fun hn h0 => hn (List.eq_nil_of_length_eq_zero (by rw [← hl, h0]; rfl))
  cases hv with
  | ros _ _ _ _ _ B F ao cap' vs hlt hp hl' ho hc hr hcap hlen he ha =>
    refine .ros cs' o n c e B F ao cap' vs (fun hn => hlt (hne hn)) (fun hn => hp (hne hn)) (by omega) ho hc (fun i a v hi hv => ?_) hcap hlen he ha
    have hi' : i < cs.length := by rw [hl]; exact (List.getElem?_eq_some_iff.1 hi).1
    exact h i cs[i] a (by simp [hi']) hi ρ w v (hr i cs[i] v (by simp [hi']) hv)

/-- A slice of slices, as a slice of nobody. -/
def vw2 (H : Hl) (x : AV) : AV :=
  match x with
  | .ros ps o n c e => .ros (ps.map (vw1 H)) o n c e
  | .slc b o n c _ => match nth H b with
    | some (.cells ps) => .ros (ps.map (vw1 H)) o n c false
    | _ => .top
  | .nils => .ros [] 0 0 0 true
  | _ => .top

/-- Each is a slice of values that name no block. -/
def Rows1 (ps : List AV) : Prop := ∀ p, p ∈ ps → ∃ cs o n c e, p = .ros cs o n c e ∧ flatL cs
theorem Rows1.still {ps : List AV} (h : Rows1 ps) : Still ps := Still.all fun p hp σ φ => by
  obtain ⟨cs, o, n, c, e, rfl, hf⟩ := h p hp
  exact Still.ros (Still.flat hf) o n c e σ φ

theorem view2 {H : Hl} {m : Nat} {x : AV} {cs : List AV} {o n c : Nat} {e : Bool} (h : vw1 H x = .ros cs o n c e) (hf : flatL cs) : VLe (ren (pickN []) (viewF H [] (m + 1)) true x) (.ros cs o n c e) := by
  unfold vw1 at h
  split at h
  · cases h
    rw [Still.ros (Still.flat hf) o n c e]
    exact VLe.refl _
  · rename_i b o' n' c' sz
    split at h <;> cases h
    rename_i hb
    rw [nth_eq] at hb
    have : ren (pickN []) (viewF H [] (m + 1)) true (.slc b o n c sz) = .ros cs o n c false := by
      have e1 : pickN [] b = none := rfl
      have e2 : viewF H [] (m + 1) b = some cs := by
        unfold viewF
        rw [hb]
        simp only [renL_flat hf]
      simp only [ren, e1, e2]
    rw [this]
    exact VLe.refl _
  · cases h
    exact VLe.nils
  · cases h

theorem Vw.two {H : Hl} {x : AV} {ps : List AV} {o n c : Nat} {e : Bool} (h : vw2 H x = .ros ps o n c e) (hf : Rows1 ps) : Vw H x (.ros ps o n c e) := by
  have key : ∀ (m : Nat) (qs : List AV), Rows1 (qs.map (vw1 H)) → ∀ o n c e, VLe (.ros (renL (pickN []) (viewF H [] (m + 1)) true qs) o n c e) (.ros (qs.map (vw1 H)) o n c e) := by
    intro m qs hq o n c e
    refine VLe.ros (by rw [renL_length, List.length_map]) (fun i a b ha hb => ?_) o n c e
    rw [renL_get] at ha
    rw [List.getElem?_map] at hb
    obtain ⟨y, hy, rfl⟩ := Option.map_eq_some_iff.1 ha
    rw [hy] at hb
    cases hb
    obtain ⟨cs, o', n', c', e', e1, hcs⟩ := hq (vw1 H y) (List.mem_map.2 ⟨y, List.mem_of_getElem? hy, rfl⟩)
    rw [e1]
    exact view2 e1 hcs
  unfold vw2 at h
  split at h
  · rename_i qs _ _ _ _
    cases h
    exact key 2 qs hf o n c e
  · rename_i b o' n' c' sz
    split at h <;> cases h
    rename_i qs hb
    rw [nth_eq] at hb
    unfold Vw
    have : ren (pickN []) (viewF H [] 3) true (.slc b o n c sz) = .ros (renL (pickN []) (viewF H [] 2) true qs) o n c false := by
      have e1 : pickN [] b = none := rfl
      have e2 : viewF H [] 3 b = some (renL (pickN []) (viewF H [] 2) true qs) := by
        rw [viewF, hb]
      simp only [ren, e1, e2]
    rw [this]
    exact key 1 qs hf o n c false
  · cases h
    exact VLe.nils
  · cases h

end
end Go.Vm

namespace Go.Proofs.Vm
open Go.Vm
noncomputable section
/-- Bytes lie there. -/
def PB (pc : List AV) (off len : Nat) : Prop := flatL pc ∧ off + len ≤ pc.length ∧ len < 137438953472 ∧ ∃ lb, BytesAt pc off len lb
def rdB (pc : List AV) (off len : Nat) : List UInt8 := bytesA ((pc.drop off).take len)
/-- Sums and streams (kept apart). -/
structure KF where
  sum : List UInt8 → List AV
  str : List UInt8 → Nat → List AV
def cn67 (S : Nat → Nat → Nat → List UInt8 → List AV) : CnF := fun f vals H => match f, vals with
  | 67, [.int .i64 n, .int .i64 (.ofNat rate), .int .u8 (.ofNat e), x] => match vw1 H x with
    | .ros pc off len _ _ => some (PB pc off len ∧ 0 ≤ n ∧ n < 274877906944 ∧ ((rate = 136 ∧ e = 6) ∨ (rate = 168 ∧ e = 31)), .ok (.slc (size H) 0 n.toNat n.toNat 1) (join H [.cells (S n.toNat rate e (rdB pc off len))]) [])
    | _ => none
  | _, _ => none
def st67 (n rate e : Nat) (l : List UInt8) : List AV := (streamF rate (UInt8.ofNat e) n l).map by8
def lp24 : VC := (.seq (.seq (.reg .false [] [⟨(.some 8), .none, .mov, [(.t 5)]⟩, ⟨(.some 9), .none, (.cmp .lss), [(.t 8), (.c (.int .i64 (.ofNat 32)))]⟩]) (.cond (.t 9) .skip (.exit 0))) (.seq (.block 1 (.reg .false [] [⟨(.some 12), .none, .mov, [(.t 5)]⟩, ⟨(.some 13), .none, .mov, [(.t 4)]⟩, ⟨(.some 14), .none, .mov, [(.t 5)]⟩, ⟨(.some 15), .none, (.ixS 1), [(.t 13), (.t 14)]⟩, ⟨(.some 16), .none, (.ld1 (.int .u8)), [(.t 15)]⟩, ⟨(.some 17), .none, (.ixA 32 1), [(.t 3), (.t 12)]⟩, ⟨.none, .none, .st1, [(.t 17), (.t 16)]⟩])) (.reg .false [] [⟨(.some 10), .none, .mov, [(.t 5)]⟩, ⟨(.some 11), .none, (.bin .add .i64), [(.t 10), (.c (.int .i64 (.ofNat 1)))]⟩, ⟨(.some 5), .none, .mov, [(.t 11)]⟩])))
def fr24 (x3 x4 : AV) (i : Nat) : Fr := [.top, .top, .ptr 0 0, .ptr 1 0, x4, .int .i64 (Int.ofNat i), .top, .top, .top, .top, .top, .top, .top, .top, .top, .top, .top, .top, .top]
def mk24 : List Bool := [true, true, false, false, false, false, true, true, true, true, true, true, true, true, true, true, true, true, true]
def ln24 : LnF := fun n0 b fr H => match slot fr 4, H with
  | .slc 2 0 32 c 1, [.cells xs, .cells ys, .cells zs] => some (n0 = 0 ∧ VCis b lp24 ∧ forget mk24 fr = fr24 (.ptr 1 0) (.slc 2 0 32 c 1) 0 ∧ ys.length = 32 ∧ ∃ l : List UInt8, l.length = 32 ∧ zs = l.map by8,
      .ok (.exit 0) (fr24 (.ptr 1 0) (.slc 2 0 32 c 1) 32) [.cells xs, .cells zs, .cells zs])
  | _, _ => none

theorem vcl24 (xs ys zs : List AV) (c i : Nat) (Q : Ex → Fr → Hl → Prop) :
  (vm (vcA kdYes noCn noLn) ops0 noTab 100 0 lp24 (fr24 (.ptr 1 0) (.slc 2 0 32 c 1) i) [.cells xs, .cells ys, .cells zs] [] (bodyX mk24 Q)) =
 ((Br (ops0.cmp BinOp.lss (Int.ofNat i) (Int.ofNat 32))
 (Chk (ops0.inr (Int.ofNat i) 32)
 (∃ n : Int, ((Nth zs (ops0.adr 0 (Int.ofNat i) 1) (AV.int IntKind.u8 n)) ∧
 (Chk (ops0.inr (Int.ofNat i) 32)
 (Chk (ops0.lt (ops0.adr 0 (Int.ofNat i) 1) (ops0.len ys))
 (Q Ex.norm [AV.top, AV.top, (AV.ptr 0 0), (AV.ptr 1 0), (AV.slc 2 0 32 c 1), (AV.int IntKind.i64 (ops0.bin BinOp.add IntKind.i64 (Int.ofNat i) (Int.ofNat 1))), AV.top, AV.top, AV.top, AV.top, AV.top, AV.top, AV.top, AV.top, AV.top, AV.top, AV.top, AV.top, AV.top] [(Blk.cells xs), (Blk.cells (ops0.set ys (ops0.adr 0 (Int.ofNat i) 1) (AV.int IntKind.u8 n))), (Blk.cells zs)]))))))
 (Q (Ex.exit 0) [AV.top, AV.top, (AV.ptr 0 0), (AV.ptr 1 0), (AV.slc 2 0 32 c 1), (AV.int IntKind.i64 (Int.ofNat i)), AV.top, AV.top, AV.top, AV.top, AV.top, AV.top, AV.top, AV.top, AV.top, AV.top, AV.top, AV.top, AV.top] [(Blk.cells xs), (Blk.cells ys), (Blk.cells zs)]))) := by kernel_rfl

theorem vc28 (S : Nat → Nat → Nat → List UInt8 → List AV) (k : Int) (pc : List AV) (off len cap : Nat) (ex : Bool) (Q : AV → Hl → List Nat → Prop) :
  (vcall (vcA kdYes (cn67 S) noLn) ops0 (tabOne 28 vf28) 100 vf28 [.int .i64 k, .ros pc off len cap ex] [] Q) =
 ((Br (ops0.cmp BinOp.lss k (Int.ofNat 1))
 (Q AV.nils [] [])
 (Br (ops0.cmp BinOp.gtr k (Int.ofNat 65536))
 (Q AV.nils [] [])
 (((PB pc off len) ∧
 (((Int.ofNat 0) ≤ k) ∧
 ((k < (Int.ofNat 274877906944)) ∧
 (Or (((168 : Nat) = 136) ∧ ((31 : Nat) = 6)) (((168 : Nat) = 168) ∧ ((31 : Nat) = 31)))))) ∧
 (Q (AV.slc 0 0 (Int.toNat k) (Int.toNat k) 1) [(Blk.cells (S (Int.toNat k) 168 31 (rdB pc off len)))] []))))) := by kernel_rfl

theorem vc24 (S : Nat → Nat → Nat → List UInt8 → List AV) (pc : List AV) (off len cap : Nat) (ex : Bool) (Q : AV → Hl → Prop) :
  (vcall (vcA kdYes (cn67 S) ln24) ops0 (tabOne 24 vf24) 100 vf24 [.ros pc off len cap ex] [] (endN (fun _ => 0) Q)) =
 ((((PB pc off len) ∧
 (((Int.ofNat 0) ≤ (Int.ofNat 32)) ∧
 (((Int.ofNat 32) < (Int.ofNat 274877906944)) ∧
 (Or (((136 : Nat) = 136) ∧ ((6 : Nat) = 6)) (((136 : Nat) = 168) ∧ ((6 : Nat) = 31)))))) ∧
 ((((0 : Nat) = 0) ∧
 ((VCis lp24 lp24) ∧
 ((([AV.top, AV.top, (AV.ptr 0 0), (AV.ptr 1 0), (AV.slc 2 0 32 32 1), (AV.int IntKind.i64 (Int.ofNat 0)), AV.top, AV.top, AV.top, AV.top, AV.top, AV.top, AV.top, AV.top, AV.top, AV.top, AV.top, AV.top, AV.top] : Fr) = [AV.top, AV.top, (AV.ptr 0 0), (AV.ptr 1 0), (AV.slc 2 0 32 32 1), (AV.int IntKind.i64 (Int.ofNat 0)), AV.top, AV.top, AV.top, AV.top, AV.top, AV.top, AV.top, AV.top, AV.top, AV.top, AV.top, AV.top, AV.top]) ∧
 (((32 : Nat) = 32) ∧
 (∃ l : (List UInt8), ((((List.length l) : Nat) = 32) ∧
 (((S 32 136 6 (rdB pc off len)) : (List AV)) = (List.map by8 l)))))))) ∧
 (Chk (ops0.le 32 (ops0.len (S 32 136 6 (rdB pc off len))))
 (Chk (ops0.eq (ops0.len (ops0.ext (S 32 136 6 (rdB pc off len)) 0 32)) 32)
 (Chk (ops0.le 32 (ops0.len (ops0.spl [(AV.int IntKind.u8 (Int.ofNat 0)), (AV.int IntKind.u8 (Int.ofNat 0)), (AV.int IntKind.u8 (Int.ofNat 0)), (AV.int IntKind.u8 (Int.ofNat 0)), (AV.int IntKind.u8 (Int.ofNat 0)), (AV.int IntKind.u8 (Int.ofNat 0)), (AV.int IntKind.u8 (Int.ofNat 0)), (AV.int IntKind.u8 (Int.ofNat 0)), (AV.int IntKind.u8 (Int.ofNat 0)), (AV.int IntKind.u8 (Int.ofNat 0)), (AV.int IntKind.u8 (Int.ofNat 0)), (AV.int IntKind.u8 (Int.ofNat 0)), (AV.int IntKind.u8 (Int.ofNat 0)), (AV.int IntKind.u8 (Int.ofNat 0)), (AV.int IntKind.u8 (Int.ofNat 0)), (AV.int IntKind.u8 (Int.ofNat 0)), (AV.int IntKind.u8 (Int.ofNat 0)), (AV.int IntKind.u8 (Int.ofNat 0)), (AV.int IntKind.u8 (Int.ofNat 0)), (AV.int IntKind.u8 (Int.ofNat 0)), (AV.int IntKind.u8 (Int.ofNat 0)), (AV.int IntKind.u8 (Int.ofNat 0)), (AV.int IntKind.u8 (Int.ofNat 0)), (AV.int IntKind.u8 (Int.ofNat 0)), (AV.int IntKind.u8 (Int.ofNat 0)), (AV.int IntKind.u8 (Int.ofNat 0)), (AV.int IntKind.u8 (Int.ofNat 0)), (AV.int IntKind.u8 (Int.ofNat 0)), (AV.int IntKind.u8 (Int.ofNat 0)), (AV.int IntKind.u8 (Int.ofNat 0)), (AV.int IntKind.u8 (Int.ofNat 0)), (AV.int IntKind.u8 (Int.ofNat 0))] 0 (ops0.ext (S 32 136 6 (rdB pc off len)) 0 32))))
 (Q (AV.agg (ops0.ext (ops0.spl [(AV.int IntKind.u8 (Int.ofNat 0)), (AV.int IntKind.u8 (Int.ofNat 0)), (AV.int IntKind.u8 (Int.ofNat 0)), (AV.int IntKind.u8 (Int.ofNat 0)), (AV.int IntKind.u8 (Int.ofNat 0)), (AV.int IntKind.u8 (Int.ofNat 0)), (AV.int IntKind.u8 (Int.ofNat 0)), (AV.int IntKind.u8 (Int.ofNat 0)), (AV.int IntKind.u8 (Int.ofNat 0)), (AV.int IntKind.u8 (Int.ofNat 0)), (AV.int IntKind.u8 (Int.ofNat 0)), (AV.int IntKind.u8 (Int.ofNat 0)), (AV.int IntKind.u8 (Int.ofNat 0)), (AV.int IntKind.u8 (Int.ofNat 0)), (AV.int IntKind.u8 (Int.ofNat 0)), (AV.int IntKind.u8 (Int.ofNat 0)), (AV.int IntKind.u8 (Int.ofNat 0)), (AV.int IntKind.u8 (Int.ofNat 0)), (AV.int IntKind.u8 (Int.ofNat 0)), (AV.int IntKind.u8 (Int.ofNat 0)), (AV.int IntKind.u8 (Int.ofNat 0)), (AV.int IntKind.u8 (Int.ofNat 0)), (AV.int IntKind.u8 (Int.ofNat 0)), (AV.int IntKind.u8 (Int.ofNat 0)), (AV.int IntKind.u8 (Int.ofNat 0)), (AV.int IntKind.u8 (Int.ofNat 0)), (AV.int IntKind.u8 (Int.ofNat 0)), (AV.int IntKind.u8 (Int.ofNat 0)), (AV.int IntKind.u8 (Int.ofNat 0)), (AV.int IntKind.u8 (Int.ofNat 0)), (AV.int IntKind.u8 (Int.ofNat 0)), (AV.int IntKind.u8 (Int.ofNat 0))] 0 (ops0.ext (S 32 136 6 (rdB pc off len)) 0 32)) 0 32)) []))))))) := by kernel_rfl

theorem rdB_eq {pc : List AV} {off len : Nat} {lb : List UInt8} (h : BytesAt pc off len lb) : rdB pc off len = lb := by
  unfold rdB
  rw [h.2, bytesA_by8]

theorem cn67_ok : CnOK Try.prog (cn67 st67) := by
  intro f vals H p x e hp
  unfold cn67 at e
  split at e
  · rename_i n rate k y
    split at e <;> cases e
    rename_i pc off len cap ex hv
    obtain ⟨⟨hf, ho, hl, lb, hlb⟩, h0, hn, hr⟩ := hp
    obtain ⟨m, rfl⟩ : ∃ m : Nat, n = Int.ofNat m := ⟨n.toNat, (Int.toNat_of_nonneg h0).symm⟩
    have hn : m < 274877906944 := by
      have : (m : Int) < 274877906944 := hn
      omega
    show CallTo _ _ _ _ (.slc (size H) 0 m m 1) (join H [.cells (st67 m rate k (rdB pc off len))]) []
    rw [rdB_eq hlb]
    have hvs : Vws H [.int .i64 (Int.ofNat m), .int .i64 (Int.ofNat rate), .int .u8 (Int.ofNat k), y] [.int .i64 (Int.ofNat m), .int .i64 (Int.ofNat rate), .int .u8 (Int.ofNat k), .ros pc off len cap ex] :=
      .cons (.int _ _ _) (.cons (.int _ _ _) (.cons (.int _ _ _) (.cons (.one hv hf) .nil)))
    have hc : CallTo Try.prog 67 [.int .i64 (Int.ofNat m), .int .i64 (Int.ofNat rate), .int .u8 (Int.ofNat k), .ros pc off len cap ex] [] (.slc 0 0 m m 1) [.cells ((streamF rate (UInt8.ofNat k) m lb).map by8)] [] := by
      rcases hr with ⟨rfl, rfl⟩ | ⟨rfl, rfl⟩
      · exact out67 pc off len cap ex lb hlb hl m 136 6 (by decide) (by decide) (by decide) (.inl rfl) hn ho
      · exact out67 pc off len cap ex lb hlb hl m 168 31 (by decide) (by decide) (by decide) (.inr rfl) hn ho
    exact CallTo.lookS hc (flat_by8 _) hvs
  · cases e

theorem loop24 (c : Nat) (xs ys : List AV) (hy : ys.length = 32) (l : List UInt8) (hl : l.length = 32) :
    ∀ lg, LoopTo Try.prog 0 lp24 (fr24 (.ptr 1 0) (.slc 2 0 32 c 1) 0) [.cells xs, .cells ys, .cells (l.map by8)] lg (.exit 0) (fr24 (.ptr 1 0) (.slc 2 0 32 c 1) 32) [.cells xs, .cells (l.map by8), .cells (l.map by8)] (List.range 0 ++ lg) := by
  have h := loop_chain (P := Try.prog) (n0 := 0) (b := lp24) (ex := .exit 0) (fr' := fr24 (.ptr 1 0) (.slc 2 0 32 c 1) 32) (H' := [.cells xs, .cells (l.map by8), .cells (l.map by8)]) (by intro h; cases h)
    (fun i => (fr24 (.ptr 1 0) (.slc 2 0 32 c 1) i, [.cells xs, .cells ((l.take i).map by8 ++ ys.drop i), .cells (l.map by8)])) 32 0 (fun i _ hi => ?_) ?_
  · simpa using h
  · have hi' : i < 32 := by omega
    have key : ∀ Q : Ex → Fr → Hl → Prop, Q .norm (fr24 (.ptr 1 0) (.slc 2 0 32 c 1) (i + 1)) [.cells xs, .cells ((l.take (i + 1)).map by8 ++ ys.drop (i + 1)), .cells (l.map by8)] →
        vm (vcA kdYes noCn noLn) ops0 noTab 100 0 lp24 (fr24 (.ptr 1 0) (.slc 2 0 32 c 1) i) [.cells xs, .cells ((l.take i).map by8 ++ ys.drop i), .cells (l.map by8)] [] (bodyX mk24 Q) := by
      intro Q hQ
      rw [vcl24, nAdd (by omega)]
      simp only [nLss, nInr, nAdr, nLt, nLen, nSet, Nat.zero_add, Nat.mul_one]
      have hx : (l.map by8)[i]? = some (.int .u8 (Int.ofNat (l[i]'(by omega)).toNat)) := by
        rw [List.getElem?_map, List.getElem?_eq_getElem (by omega)]; rfl
      refine Br.t (decide_eq_true hi') (Chk.mk (decide_eq_true hi') ⟨_, Nth.mk hx, Chk.mk (decide_eq_true hi') (Chk.mk (decide_eq_true (by simp [hl, hy]; omega)) ?_)⟩)
      rw [set_mid (l.take i) ys (by simp [hl]; omega) (by omega)]
      rw [List.take_succ_eq_append_getElem (by omega), List.map_append, List.append_assoc] at hQ
      exact hQ
    exact body_x (noCn_ok _) (noLn_ok _) (noTab_ok _) (n := 100) (g := kdYes) (bs := mk24) (key _ ⟨rfl, rfl, rfl⟩) (by simp)
  · show BodyTo _ _ _ (fr24 (.ptr 1 0) (.slc 2 0 32 c 1) 32) [.cells xs, .cells ((l.take 32).map by8 ++ ys.drop 32), .cells (l.map by8)] _ _ _
    rw [List.take_of_length_le (by omega), List.drop_of_length_le (by omega), List.append_nil]
    refine body_x (noCn_ok _) (noLn_ok _) (noTab_ok _) (n := 100) (g := kdYes) (bs := mk24) ?_ (by simp)
    rw [vcl24]
    exact Br.f rfl ⟨rfl, rfl, rfl⟩

theorem ln24_ok : LnOK Try.prog ln24 := by
  intro n0 b fr H p x e hn hp lg
  unfold ln24 at e
  split at e <;> cases e
  rename_i c xs ys zs h1
  obtain ⟨rfl, hb, hf, hy, l, hl, rfl⟩ := hp
  have hb : b = lp24 := hb
  subst hb
  refine LoopTo.pre (Weak.forget (by simp) mk24) ?_ lg
  rw [hf]
  exact loop24 c xs ys hy l hl

/-- THE DIGEST, by the document. -/
theorem sum24 {pc : List AV} {off len : Nat} (cap : Nat) (ex : Bool) (h : PB pc off len) : CallTo Try.prog 24 [.ros pc off len cap ex] [] (.agg ((streamF 136 6 32 (rdB pc off len)).map by8)) [] [] := by
  refine call_n cn67_ok ln24_ok (tabOne_ok ok24) (tabOne_self 24 vf24) (n := 100) (g := kdYes) (m := fun _ => 0) [] ?_ (by simp) ?_ (by simp)
  · rw [vc24]
    have hL := streamF_length 136 6 32 (rdB pc off len)
    have e1 : st67 32 136 6 (rdB pc off len) = (streamF 136 6 32 (rdB pc off len)).map by8 := rfl
    simp only [e1]
    generalize streamF 136 6 32 (rdB pc off len) = L at hL ⊢
    simp only [nLe, nLen, nExt, nEq, nSpl, List.drop_zero, List.take_zero, List.nil_append]
    have ht : (L.map by8).take 32 = L.map by8 := List.take_of_length_le (by simp [hL])
    rw [ht, take_app hL]
    refine ⟨⟨h, by decide, by decide, .inl ⟨by trivial, by trivial⟩⟩, ⟨by trivial, rfl, by trivial, by simp, L, hL, rfl⟩, Chk.mk (decide_eq_true (by simp [hL])) (Chk.mk (decide_eq_true (by simp [hL])) (Chk.mk (decide_eq_true (by simp [hL])) ⟨by trivial, by trivial⟩))⟩
  · show AV.agg _ = _
    rw [renL_flat (flat_by8 _)]

theorem stream28 {pc : List AV} {off len : Nat} (cap : Nat) (ex : Bool) (h : PB pc off len) (k : Nat) (hk : 1 ≤ k ∧ k ≤ 65536) : CallTo Try.prog 28 [.int .i64 (Int.ofNat k), .ros pc off len cap ex] [] (.slc 0 0 k k 1) [.cells ((streamF 168 31 k (rdB pc off len)).map by8)] [] := by
  refine call_x cn67_ok (noLn_ok _) (tabOne_ok ok28) (tabOne_self 28 vf28) (n := 100) (g := kdYes) ?_
  rw [vc28]
  exact Br.f (by rw [nLss]; exact decide_eq_false (by omega)) (Br.f (by rw [nGtr]; exact decide_eq_false (by omega)) ⟨⟨h, by simp, by simp; omega, .inr ⟨rfl, rfl⟩⟩, rfl, rfl, rfl⟩)
theorem stream28_nil {pc : List AV} {off len : Nat} (cap : Nat) (ex : Bool) (k : Int) (hk : ¬ (1 ≤ k ∧ k ≤ 65536)) : CallTo Try.prog 28 [.int .i64 k, .ros pc off len cap ex] [] .nils [] [] := by
  refine call_x cn67_ok (noLn_ok _) (tabOne_ok ok28) (tabOne_self 28 vf28) (n := 100) (g := kdYes) ?_
  rw [vc28]
  refine Br.mk (fun h => ⟨rfl, rfl, rfl⟩) (fun h => Br.mk (fun h => ⟨rfl, rfl, rfl⟩) (fun h2 => ?_))
  have h : ¬ k < 1 := of_decide_eq_false h
  have h2 : ¬ k > 65536 := of_decide_eq_false h2
  omega

/-! ### Contracts in any memory -/
def PPs (ps : List AV) (o n : Nat) : Prop := Rows1 ps ∧ ∃ pl, PartsAt ps o n pl
def rdP (ps : List AV) (o n : Nat) : List UInt8 := (((ps.drop o).take n).map partA).flatten
def inK (k : Int) : Bool := decide (1 ≤ k) && decide (k ≤ 65536)
def kf0 : KF := ⟨fun l => (streamF 136 6 32 l).map by8, fun l n => (streamF 168 31 n l).map by8⟩
/-- Digests and streams. -/
def cnK (S : KF) : CnF := fun f vals H => match f, vals with
  | 24, [x] => match vw1 H x with
    | .ros pc off len _ _ => some (PB pc off len, .ok (.agg (S.sum (rdB pc off len))) H [])
    | _ => none
  | 26, [x] => match vw2 H x with
    | .ros ps o n _ _ => some (PPs ps o n, .ok (.agg (S.sum (rdP ps o n))) H [])
    | _ => none
  | 27, [.int .i64 k, x] => match vw2 H x with
    | .ros ps o n _ _ => some (PPs ps o n, .cond (inK k) (.ok (.slc (size H) 0 k.toNat k.toNat 1) (join H [.cells (S.str (rdP ps o n) k.toNat)]) []) (.ok .nils H []))
    | _ => none
  | 28, [.int .i64 k, x] => match vw1 H x with
    | .ros pc off len _ _ => some (PB pc off len, .cond (inK k) (.ok (.slc (size H) 0 k.toNat k.toNat 1) (join H [.cells (S.str (rdB pc off len) k.toNat)]) []) (.ok .nils H []))
    | _ => none
  | _, _ => none

theorem backV_flat {H : Hl} {cs : List AV} (h : flatL cs) : backV [] H.length (.agg cs) = .agg cs := by
  show AV.agg _ = _
  rw [renL_flat h]
theorem inK_true {k : Int} (h : inK k = true) : ∃ n : Nat, k = Int.ofNat n ∧ 1 ≤ n ∧ n ≤ 65536 := by
  simp only [inK, Bool.and_eq_true, decide_eq_true_eq] at h
  exact ⟨k.toNat, (Int.toNat_of_nonneg (by omega)).symm, by omega, by omega⟩
theorem inK_false {k : Int} (h : inK k = false) : ¬ (1 ≤ k ∧ k ≤ 65536) := by
  intro hk
  have : inK k = true := by simp only [inK, Bool.and_eq_true, decide_eq_true_eq]; exact hk
  rw [this] at h; cases h

theorem cnK_ok : CnOK Try.prog (cnK kf0) := by
  intro f vals H p x e hp
  unfold cnK at e
  split at e
  · rename_i y
    split at e <;> cases e
    rename_i pc off len cap ex hv
    have h := CallTo.lookV (sum24 cap ex hp) (.cons (Vw.one hv hp.1) .nil)
    rw [backV_flat (flat_by8 _)] at h
    exact h
  · rename_i y
    split at e <;> cases e
    rename_i ps o n c ex hv
    obtain ⟨hr, pl, hpl⟩ := hp
    have h := CallTo.lookV (sum26 c ex hr.still hpl) (.cons (Vw.two hv hr) .nil)
    rw [backV_flat (flat_by8 _)] at h
    show CallTo _ _ _ _ (.agg ((streamF 136 6 32 (rdP ps o n)).map by8)) _ _
    unfold rdP
    rw [hpl.parts]
    exact h
  · rename_i k y
    split at e <;> cases e
    rename_i ps o n c ex hv
    obtain ⟨hr, pl, hpl⟩ := hp
    cases hk : inK k with
    | true =>
      obtain ⟨m, rfl, hm⟩ := inK_true hk
      simp only [CRes.fin, hk]
      have h := CallTo.lookS (stream27 c ex hr.still hpl m hm) (flat_by8 _) (.cons (Vw.int H _ _) (.cons (Vw.two hv hr) .nil))
      show CallTo _ _ _ _ _ (join H [.cells ((streamF 168 31 m (rdP ps o n)).map by8)]) _
      unfold rdP
      rw [hpl.parts]
      exact h
    | false =>
      simp only [CRes.fin, hk]
      exact CallTo.lookV (stream27_nil c ex k (inK_false hk)) (.cons (Vw.int H _ _) (.cons (Vw.two hv hr) .nil))
  · rename_i k y
    split at e <;> cases e
    rename_i pc off len c ex hv
    cases hk : inK k with
    | true =>
      obtain ⟨m, rfl, hm⟩ := inK_true hk
      simp only [CRes.fin, hk]
      exact CallTo.lookS (stream28 c ex hp m hm) (flat_by8 _) (.cons (Vw.int H _ _) (.cons (Vw.one hv hp.1) .nil))
    | false =>
      simp only [CRes.fin, hk]
      exact CallTo.lookV (stream28_nil c ex k (inK_false hk)) (.cons (Vw.int H _ _) (.cons (Vw.one hv hp.1) .nil))
  · cases e

end
end Go.Proofs.Vm

namespace Go.Proofs.Vm
open Go.Vm
noncomputable section
/-- Never. -/
def lnX : LnF := fun _ _ fr H => some (False, .ok .norm fr H)
theorem lnX_ok (P : Program) : LnOK P lnX := fun _ _ _ _ _ _ e _ hp => by cases e; exact hp.elim
def cnX : CnF := fun _ _ H => some (False, .ok (.tup []) H [])
theorem cnX_ok (P : Program) : CnOK P cnX := fun _ _ _ _ _ e hp => by cases e; exact hp.elim

theorem vc32x (n : Int) (Q : AV → Hl → List Nat → Prop) :
  (vcall (vcA kdYes cnX lnX) ops0 (tabOne 32 vf32) 100 vf32 [.int .i64 n] [] Q) =
 ((Br (ops0.cmp BinOp.lss n (Int.ofNat 0))
 (Q (AV.int IntKind.u64 (Int.ofNat 0)) [] [])
 (Br (ops0.cmp BinOp.geq n (Int.ofNat 24))
 (Q (AV.int IntKind.u64 (Int.ofNat 0)) [] [])
 (False ∧
 (Q (AV.int IntKind.u64 (Int.ofNat 0)) [] []))))) := by kernel_rfl

theorem vc33x (n : Int) (Q : AV → Hl → List Nat → Prop) :
  (vcall (vcA kdYes cnX lnX) ops0 (tabOne 33 vf33) 100 vf33 [.int .i64 n] [] Q) =
 ((Br (ops0.cmp BinOp.lss n (Int.ofNat 0))
 (Q (AV.int IntKind.u64 (Int.ofNat 0)) [] [])
 (Br (ops0.cmp BinOp.gtr n (Int.ofNat 23))
 (Q (AV.int IntKind.u64 (Int.ofNat 0)) [] [])
 (False ∧
 (Q (AV.int IntKind.u64 (Int.ofNat 0)) [] []))))) := by kernel_rfl

theorem vc34x (cs : List AV) (n : Int) (Q : AV → Hl → Prop) :
  (vcall (vcA kdYes cnX lnX) ops0 (tabOne 34 vf34) 100 vf34 [.agg cs, .int .i64 n] [] (endN (fun _ => 0) Q)) =
 ((Br (ops0.cmp BinOp.lss n (Int.ofNat 0))
 (Chk (ops0.le 25 (ops0.len cs))
 (Chk (ops0.eq (ops0.len (ops0.ext cs 0 25)) 25)
 (Chk (ops0.le 25 (ops0.len (ops0.spl [(AV.int IntKind.u64 (Int.ofNat 0)), (AV.int IntKind.u64 (Int.ofNat 0)), (AV.int IntKind.u64 (Int.ofNat 0)), (AV.int IntKind.u64 (Int.ofNat 0)), (AV.int IntKind.u64 (Int.ofNat 0)), (AV.int IntKind.u64 (Int.ofNat 0)), (AV.int IntKind.u64 (Int.ofNat 0)), (AV.int IntKind.u64 (Int.ofNat 0)), (AV.int IntKind.u64 (Int.ofNat 0)), (AV.int IntKind.u64 (Int.ofNat 0)), (AV.int IntKind.u64 (Int.ofNat 0)), (AV.int IntKind.u64 (Int.ofNat 0)), (AV.int IntKind.u64 (Int.ofNat 0)), (AV.int IntKind.u64 (Int.ofNat 0)), (AV.int IntKind.u64 (Int.ofNat 0)), (AV.int IntKind.u64 (Int.ofNat 0)), (AV.int IntKind.u64 (Int.ofNat 0)), (AV.int IntKind.u64 (Int.ofNat 0)), (AV.int IntKind.u64 (Int.ofNat 0)), (AV.int IntKind.u64 (Int.ofNat 0)), (AV.int IntKind.u64 (Int.ofNat 0)), (AV.int IntKind.u64 (Int.ofNat 0)), (AV.int IntKind.u64 (Int.ofNat 0)), (AV.int IntKind.u64 (Int.ofNat 0)), (AV.int IntKind.u64 (Int.ofNat 0))] 0 (ops0.ext cs 0 25))))
 (Q (AV.agg (ops0.ext (ops0.spl [(AV.int IntKind.u64 (Int.ofNat 0)), (AV.int IntKind.u64 (Int.ofNat 0)), (AV.int IntKind.u64 (Int.ofNat 0)), (AV.int IntKind.u64 (Int.ofNat 0)), (AV.int IntKind.u64 (Int.ofNat 0)), (AV.int IntKind.u64 (Int.ofNat 0)), (AV.int IntKind.u64 (Int.ofNat 0)), (AV.int IntKind.u64 (Int.ofNat 0)), (AV.int IntKind.u64 (Int.ofNat 0)), (AV.int IntKind.u64 (Int.ofNat 0)), (AV.int IntKind.u64 (Int.ofNat 0)), (AV.int IntKind.u64 (Int.ofNat 0)), (AV.int IntKind.u64 (Int.ofNat 0)), (AV.int IntKind.u64 (Int.ofNat 0)), (AV.int IntKind.u64 (Int.ofNat 0)), (AV.int IntKind.u64 (Int.ofNat 0)), (AV.int IntKind.u64 (Int.ofNat 0)), (AV.int IntKind.u64 (Int.ofNat 0)), (AV.int IntKind.u64 (Int.ofNat 0)), (AV.int IntKind.u64 (Int.ofNat 0)), (AV.int IntKind.u64 (Int.ofNat 0)), (AV.int IntKind.u64 (Int.ofNat 0)), (AV.int IntKind.u64 (Int.ofNat 0)), (AV.int IntKind.u64 (Int.ofNat 0)), (AV.int IntKind.u64 (Int.ofNat 0))] 0 (ops0.ext cs 0 25)) 0 25)) []))))
 (Br (ops0.cmp BinOp.geq n (Int.ofNat 24))
 (Chk (ops0.le 25 (ops0.len cs))
 (Chk (ops0.eq (ops0.len (ops0.ext cs 0 25)) 25)
 (Chk (ops0.le 25 (ops0.len (ops0.spl [(AV.int IntKind.u64 (Int.ofNat 0)), (AV.int IntKind.u64 (Int.ofNat 0)), (AV.int IntKind.u64 (Int.ofNat 0)), (AV.int IntKind.u64 (Int.ofNat 0)), (AV.int IntKind.u64 (Int.ofNat 0)), (AV.int IntKind.u64 (Int.ofNat 0)), (AV.int IntKind.u64 (Int.ofNat 0)), (AV.int IntKind.u64 (Int.ofNat 0)), (AV.int IntKind.u64 (Int.ofNat 0)), (AV.int IntKind.u64 (Int.ofNat 0)), (AV.int IntKind.u64 (Int.ofNat 0)), (AV.int IntKind.u64 (Int.ofNat 0)), (AV.int IntKind.u64 (Int.ofNat 0)), (AV.int IntKind.u64 (Int.ofNat 0)), (AV.int IntKind.u64 (Int.ofNat 0)), (AV.int IntKind.u64 (Int.ofNat 0)), (AV.int IntKind.u64 (Int.ofNat 0)), (AV.int IntKind.u64 (Int.ofNat 0)), (AV.int IntKind.u64 (Int.ofNat 0)), (AV.int IntKind.u64 (Int.ofNat 0)), (AV.int IntKind.u64 (Int.ofNat 0)), (AV.int IntKind.u64 (Int.ofNat 0)), (AV.int IntKind.u64 (Int.ofNat 0)), (AV.int IntKind.u64 (Int.ofNat 0)), (AV.int IntKind.u64 (Int.ofNat 0))] 0 (ops0.ext cs 0 25))))
 (Q (AV.agg (ops0.ext (ops0.spl [(AV.int IntKind.u64 (Int.ofNat 0)), (AV.int IntKind.u64 (Int.ofNat 0)), (AV.int IntKind.u64 (Int.ofNat 0)), (AV.int IntKind.u64 (Int.ofNat 0)), (AV.int IntKind.u64 (Int.ofNat 0)), (AV.int IntKind.u64 (Int.ofNat 0)), (AV.int IntKind.u64 (Int.ofNat 0)), (AV.int IntKind.u64 (Int.ofNat 0)), (AV.int IntKind.u64 (Int.ofNat 0)), (AV.int IntKind.u64 (Int.ofNat 0)), (AV.int IntKind.u64 (Int.ofNat 0)), (AV.int IntKind.u64 (Int.ofNat 0)), (AV.int IntKind.u64 (Int.ofNat 0)), (AV.int IntKind.u64 (Int.ofNat 0)), (AV.int IntKind.u64 (Int.ofNat 0)), (AV.int IntKind.u64 (Int.ofNat 0)), (AV.int IntKind.u64 (Int.ofNat 0)), (AV.int IntKind.u64 (Int.ofNat 0)), (AV.int IntKind.u64 (Int.ofNat 0)), (AV.int IntKind.u64 (Int.ofNat 0)), (AV.int IntKind.u64 (Int.ofNat 0)), (AV.int IntKind.u64 (Int.ofNat 0)), (AV.int IntKind.u64 (Int.ofNat 0)), (AV.int IntKind.u64 (Int.ofNat 0)), (AV.int IntKind.u64 (Int.ofNat 0))] 0 (ops0.ext cs 0 25)) 0 25)) []))))
 (False ∧
 False)))) := by kernel_rfl

theorem vc35x (cs : List AV) (n : Int) (Q : AV → Hl → Prop) :
  (vcall (vcA kdYes cnX lnX) ops0 (tabOne 35 vf35) 100 vf35 [.agg cs, .int .i64 n] [] (endN (fun _ => 0) Q)) =
 ((Br (ops0.cmp BinOp.lss n (Int.ofNat 0))
 (Chk (ops0.le 25 (ops0.len cs))
 (Chk (ops0.eq (ops0.len (ops0.ext cs 0 25)) 25)
 (Chk (ops0.le 25 (ops0.len (ops0.spl [(AV.int IntKind.u64 (Int.ofNat 0)), (AV.int IntKind.u64 (Int.ofNat 0)), (AV.int IntKind.u64 (Int.ofNat 0)), (AV.int IntKind.u64 (Int.ofNat 0)), (AV.int IntKind.u64 (Int.ofNat 0)), (AV.int IntKind.u64 (Int.ofNat 0)), (AV.int IntKind.u64 (Int.ofNat 0)), (AV.int IntKind.u64 (Int.ofNat 0)), (AV.int IntKind.u64 (Int.ofNat 0)), (AV.int IntKind.u64 (Int.ofNat 0)), (AV.int IntKind.u64 (Int.ofNat 0)), (AV.int IntKind.u64 (Int.ofNat 0)), (AV.int IntKind.u64 (Int.ofNat 0)), (AV.int IntKind.u64 (Int.ofNat 0)), (AV.int IntKind.u64 (Int.ofNat 0)), (AV.int IntKind.u64 (Int.ofNat 0)), (AV.int IntKind.u64 (Int.ofNat 0)), (AV.int IntKind.u64 (Int.ofNat 0)), (AV.int IntKind.u64 (Int.ofNat 0)), (AV.int IntKind.u64 (Int.ofNat 0)), (AV.int IntKind.u64 (Int.ofNat 0)), (AV.int IntKind.u64 (Int.ofNat 0)), (AV.int IntKind.u64 (Int.ofNat 0)), (AV.int IntKind.u64 (Int.ofNat 0)), (AV.int IntKind.u64 (Int.ofNat 0))] 0 (ops0.ext cs 0 25))))
 (Q (AV.agg (ops0.ext (ops0.spl [(AV.int IntKind.u64 (Int.ofNat 0)), (AV.int IntKind.u64 (Int.ofNat 0)), (AV.int IntKind.u64 (Int.ofNat 0)), (AV.int IntKind.u64 (Int.ofNat 0)), (AV.int IntKind.u64 (Int.ofNat 0)), (AV.int IntKind.u64 (Int.ofNat 0)), (AV.int IntKind.u64 (Int.ofNat 0)), (AV.int IntKind.u64 (Int.ofNat 0)), (AV.int IntKind.u64 (Int.ofNat 0)), (AV.int IntKind.u64 (Int.ofNat 0)), (AV.int IntKind.u64 (Int.ofNat 0)), (AV.int IntKind.u64 (Int.ofNat 0)), (AV.int IntKind.u64 (Int.ofNat 0)), (AV.int IntKind.u64 (Int.ofNat 0)), (AV.int IntKind.u64 (Int.ofNat 0)), (AV.int IntKind.u64 (Int.ofNat 0)), (AV.int IntKind.u64 (Int.ofNat 0)), (AV.int IntKind.u64 (Int.ofNat 0)), (AV.int IntKind.u64 (Int.ofNat 0)), (AV.int IntKind.u64 (Int.ofNat 0)), (AV.int IntKind.u64 (Int.ofNat 0)), (AV.int IntKind.u64 (Int.ofNat 0)), (AV.int IntKind.u64 (Int.ofNat 0)), (AV.int IntKind.u64 (Int.ofNat 0)), (AV.int IntKind.u64 (Int.ofNat 0))] 0 (ops0.ext cs 0 25)) 0 25)) []))))
 (Br (ops0.cmp BinOp.gtr n (Int.ofNat 23))
 (Chk (ops0.le 25 (ops0.len cs))
 (Chk (ops0.eq (ops0.len (ops0.ext cs 0 25)) 25)
 (Chk (ops0.le 25 (ops0.len (ops0.spl [(AV.int IntKind.u64 (Int.ofNat 0)), (AV.int IntKind.u64 (Int.ofNat 0)), (AV.int IntKind.u64 (Int.ofNat 0)), (AV.int IntKind.u64 (Int.ofNat 0)), (AV.int IntKind.u64 (Int.ofNat 0)), (AV.int IntKind.u64 (Int.ofNat 0)), (AV.int IntKind.u64 (Int.ofNat 0)), (AV.int IntKind.u64 (Int.ofNat 0)), (AV.int IntKind.u64 (Int.ofNat 0)), (AV.int IntKind.u64 (Int.ofNat 0)), (AV.int IntKind.u64 (Int.ofNat 0)), (AV.int IntKind.u64 (Int.ofNat 0)), (AV.int IntKind.u64 (Int.ofNat 0)), (AV.int IntKind.u64 (Int.ofNat 0)), (AV.int IntKind.u64 (Int.ofNat 0)), (AV.int IntKind.u64 (Int.ofNat 0)), (AV.int IntKind.u64 (Int.ofNat 0)), (AV.int IntKind.u64 (Int.ofNat 0)), (AV.int IntKind.u64 (Int.ofNat 0)), (AV.int IntKind.u64 (Int.ofNat 0)), (AV.int IntKind.u64 (Int.ofNat 0)), (AV.int IntKind.u64 (Int.ofNat 0)), (AV.int IntKind.u64 (Int.ofNat 0)), (AV.int IntKind.u64 (Int.ofNat 0)), (AV.int IntKind.u64 (Int.ofNat 0))] 0 (ops0.ext cs 0 25))))
 (Q (AV.agg (ops0.ext (ops0.spl [(AV.int IntKind.u64 (Int.ofNat 0)), (AV.int IntKind.u64 (Int.ofNat 0)), (AV.int IntKind.u64 (Int.ofNat 0)), (AV.int IntKind.u64 (Int.ofNat 0)), (AV.int IntKind.u64 (Int.ofNat 0)), (AV.int IntKind.u64 (Int.ofNat 0)), (AV.int IntKind.u64 (Int.ofNat 0)), (AV.int IntKind.u64 (Int.ofNat 0)), (AV.int IntKind.u64 (Int.ofNat 0)), (AV.int IntKind.u64 (Int.ofNat 0)), (AV.int IntKind.u64 (Int.ofNat 0)), (AV.int IntKind.u64 (Int.ofNat 0)), (AV.int IntKind.u64 (Int.ofNat 0)), (AV.int IntKind.u64 (Int.ofNat 0)), (AV.int IntKind.u64 (Int.ofNat 0)), (AV.int IntKind.u64 (Int.ofNat 0)), (AV.int IntKind.u64 (Int.ofNat 0)), (AV.int IntKind.u64 (Int.ofNat 0)), (AV.int IntKind.u64 (Int.ofNat 0)), (AV.int IntKind.u64 (Int.ofNat 0)), (AV.int IntKind.u64 (Int.ofNat 0)), (AV.int IntKind.u64 (Int.ofNat 0)), (AV.int IntKind.u64 (Int.ofNat 0)), (AV.int IntKind.u64 (Int.ofNat 0)), (AV.int IntKind.u64 (Int.ofNat 0))] 0 (ops0.ext cs 0 25)) 0 25)) []))))
 (False ∧
 False)))) := by kernel_rfl

/-- A constant, whatever the number. -/
def cstF (n : Int) : Int := if 0 ≤ n ∧ n < 24 then rcs.getD n.toNat 0 else 0
/-- A round, whatever the number. -/
def rndZ (s : List Int) (n : Int) : List Int := if 0 ≤ n ∧ n < 24 then rndN s n.toNat else s

theorem const32 (n : Int) (H : Hl) : CallTo Try.prog 32 [.int .i64 n] H (.int .u64 (cstF n)) H [] := by
  refine CallTo.pure (H := H) (r0 := .int .u64 (cstF n)) (lg := []) 0 (vals := [.int .i64 n]) ?_
  show CallTo Try.prog 32 [.int .i64 n] [] (.int .u64 (cstF n)) [] []
  unfold cstF
  by_cases h : 0 ≤ n ∧ n < 24
  · rw [if_pos h]
    obtain ⟨m, rfl⟩ : ∃ m : Nat, n = Int.ofNat m := ⟨n.toNat, (Int.toNat_of_nonneg h.1).symm⟩
    exact call_cut (noCon_ok _) (tabOne_ok ok32) (tabOne_self 32 vf32) 0 [] (c32_run m (by have := h.2; simp at this; omega)) (by simp) (fun b hb hn => by simp at hb)
  · rw [if_neg h]
    refine call_x (cnX_ok _) (lnX_ok _) (tabOne_ok ok32) (tabOne_self 32 vf32) (n := 100) (g := kdYes) ?_
    rw [vc32x]
    refine Br.mk (fun _ => ⟨rfl, rfl, rfl⟩) (fun h1 => Br.mk (fun _ => ⟨rfl, rfl, rfl⟩) (fun h2 => ?_))
    have h1 : ¬ n < 0 := of_decide_eq_false h1
    have h2 : ¬ n ≥ 24 := of_decide_eq_false h2
    omega
theorem const33 (n : Int) (H : Hl) : CallTo Try.prog 33 [.int .i64 n] H (.int .u64 (cstF n)) H [] := by
  refine CallTo.pure (H := H) (r0 := .int .u64 (cstF n)) (lg := []) 0 (vals := [.int .i64 n]) ?_
  show CallTo Try.prog 33 [.int .i64 n] [] (.int .u64 (cstF n)) [] []
  unfold cstF
  by_cases h : 0 ≤ n ∧ n < 24
  · rw [if_pos h]
    obtain ⟨m, rfl⟩ : ∃ m : Nat, n = Int.ofNat m := ⟨n.toNat, (Int.toNat_of_nonneg h.1).symm⟩
    exact call_cut bitC_ok (tabOne_ok ok33) (tabOne_self 33 vf33) 0 [] (c33_run m (by have := h.2; simp at this; omega)) (by simp) (fun b hb hn => by simp at hb)
  · rw [if_neg h]
    refine call_x (cnX_ok _) (lnX_ok _) (tabOne_ok ok33) (tabOne_self 33 vf33) (n := 100) (g := kdYes) ?_
    rw [vc33x]
    refine Br.mk (fun _ => ⟨rfl, rfl, rfl⟩) (fun h1 => Br.mk (fun _ => ⟨rfl, rfl, rfl⟩) (fun h2 => ?_))
    have h1 : ¬ n < 0 := of_decide_eq_false h1
    have h2 : ¬ n > 23 := of_decide_eq_false h2
    omega

theorem flat_w (s : List Int) : flatL (s.map w) := flatL_ints _ _
theorem same_row {s : List Int} (hs : s.length = 25) (Q : AV → Prop) (h : Q (.agg (s.map w))) (z : List AV) (hz : z.length = 25) :
    (Chk (ops0.le 25 (ops0.len (s.map w)))
 (Chk (ops0.eq (ops0.len (ops0.ext (s.map w) 0 25)) 25)
 (Chk (ops0.le 25 (ops0.len (ops0.spl z 0 (ops0.ext (s.map w) 0 25))))
 (Q (AV.agg (ops0.ext (ops0.spl z 0 (ops0.ext (s.map w) 0 25)) 0 25)))))) := by
  have e1 : ops0.ext (s.map w) 0 25 = s.map w := by rw [nExt, List.drop_zero, List.take_of_length_le (by simp [hs])]
  have e2 : ops0.spl z 0 (s.map w) = s.map w := by rw [nSpl, List.take_zero, List.nil_append, Nat.zero_add, List.drop_of_length_le (by simp [hs, hz]), List.append_nil]
  rw [e1, e2, e1]
  exact Chk.mk (by rw [nLe, nLen]; exact decide_eq_true (by simp [hs])) (Chk.mk (by rw [nEq, nLen]; exact decide_eq_true (by simp [hs])) (Chk.mk (by rw [nLe, nLen]; exact decide_eq_true (by simp [hs])) h))

theorem roundZ34 {s : List Int} (hs : s.length = 25) (n : Int) (H : Hl) : CallTo Try.prog 34 [.agg (s.map w), .int .i64 n] H (.agg ((rndZ s n).map w)) H [] := by
  unfold rndZ
  by_cases h : 0 ≤ n ∧ n < 24
  · rw [if_pos h]
    obtain ⟨m, rfl⟩ : ∃ m : Nat, n = Int.ofNat m := ⟨n.toNat, (Int.toNat_of_nonneg h.1).symm⟩
    exact round34 hs (by have := h.2; simp at this; omega) H
  · rw [if_neg h]
    have hc : CallTo Try.prog 34 [.agg (s.map w), .int .i64 n] [] (.agg (s.map w)) [] [] := by
      refine call_n (cnX_ok _) (lnX_ok _) (tabOne_ok ok34) (tabOne_self 34 vf34) (n := 100) (g := kdYes) (m := fun _ => 0) [] ?_ (by simp) ?_ (by simp)
      · rw [vc34x]
        refine Br.mk (fun _ => same_row hs (fun r => r = AV.agg (s.map w) ∧ ([] : Hl) = []) ⟨rfl, rfl⟩ _ rfl) (fun h1 => Br.mk (fun _ => same_row hs (fun r => r = AV.agg (s.map w) ∧ ([] : Hl) = []) ⟨rfl, rfl⟩ _ rfl) (fun h2 => ?_))
        have h1 : ¬ n < 0 := of_decide_eq_false h1
        have h2 : ¬ n ≥ 24 := of_decide_eq_false h2
        omega
      · show AV.agg _ = _
        rw [renL_flat (flat_w s)]
    have h2 := CallTo.lookV (H := H) hc (.cons (Vw.agg H (Still.flat (flat_w s))) (.cons (Vw.int H _ _) .nil))
    rw [backV_flat (flat_w s)] at h2
    exact h2
theorem roundZ35 {s : List Int} (hs : s.length = 25) (n : Int) (H : Hl) : CallTo Try.prog 35 [.agg (s.map w), .int .i64 n] H (.agg ((rndZ s n).map w)) H [] := by
  unfold rndZ
  by_cases h : 0 ≤ n ∧ n < 24
  · rw [if_pos h]
    obtain ⟨m, rfl⟩ : ∃ m : Nat, n = Int.ofNat m := ⟨n.toNat, (Int.toNat_of_nonneg h.1).symm⟩
    exact round35 hs (by have := h.2; simp at this; omega) H
  · rw [if_neg h]
    have hc : CallTo Try.prog 35 [.agg (s.map w), .int .i64 n] [] (.agg (s.map w)) [] [] := by
      refine call_n (cnX_ok _) (lnX_ok _) (tabOne_ok ok35) (tabOne_self 35 vf35) (n := 100) (g := kdYes) (m := fun _ => 0) [] ?_ (by simp) ?_ (by simp)
      · rw [vc35x]
        refine Br.mk (fun _ => same_row hs (fun r => r = AV.agg (s.map w) ∧ ([] : Hl) = []) ⟨rfl, rfl⟩ _ rfl) (fun h1 => Br.mk (fun _ => same_row hs (fun r => r = AV.agg (s.map w) ∧ ([] : Hl) = []) ⟨rfl, rfl⟩ _ rfl) (fun h2 => ?_))
        have h1 : ¬ n < 0 := of_decide_eq_false h1
        have h2 : ¬ n > 23 := of_decide_eq_false h2
        omega
      · show AV.agg _ = _
        rw [renL_flat (flat_w s)]
    have h2 := CallTo.lookV (H := H) hc (.cons (Vw.agg H (Still.flat (flat_w s))) (.cons (Vw.int H _ _) .nil))
    rw [backV_flat (flat_w s)] at h2
    exact h2

/-- Words of a state. -/
def PW (cs : List AV) : Prop := ∃ s : List Int, s.length = 25 ∧ cs = s.map w
/-- All that the laws of layer 3 call (kept apart). -/
structure AF extends KF where
  dist : Int → Int → Int
  cst : Int → Int
  rnd : List AV → Int → List AV
  rnds : List AV → List AV
def af0 : AF := { kf0 with dist := distF, cst := cstF, rnd := fun cs n => (rndZ (intsA cs) n).map w, rnds := fun cs => (allF (intsA cs)).map w }
def cnA (S : AF) : CnF := fun f vals H => match f, vals with
  | 30, [.int .i64 x, .int .i64 y] => some (True, .ok (.int .i64 (S.dist x y)) H [])
  | 31, [.int .i64 x, .int .i64 y] => some (True, .ok (.int .i64 (S.dist x y)) H [])
  | 32, [.int .i64 n] => some (True, .ok (.int .u64 (S.cst n)) H [])
  | 33, [.int .i64 n] => some (True, .ok (.int .u64 (S.cst n)) H [])
  | 34, [.agg cs, .int .i64 n] => some (PW cs, .ok (.agg (S.rnd cs n)) H [])
  | 35, [.agg cs, .int .i64 n] => some (PW cs, .ok (.agg (S.rnd cs n)) H [])
  | 29, [.agg cs] => some (PW cs, .ok (.agg (S.rnds cs)) H [])
  | 36, [.agg cs] => some (PW cs, .ok (.agg (S.rnds cs)) H [])
  | f, vals => cnK S.toKF f vals H

theorem cnA_ok : CnOK Try.prog (cnA af0) := by
  intro f vals H p x e hp
  unfold cnA at e
  split at e
  · cases e; exact dist30 _ _ H
  · cases e; exact dist31 _ _ H
  · cases e; exact const32 _ H
  · cases e; exact const33 _ H
  · cases e
    obtain ⟨s, hs, rfl⟩ := hp
    show CallTo _ _ _ _ (.agg ((rndZ (intsA (s.map w)) _).map w)) _ _
    rw [intA_w]
    exact roundZ34 hs _ H
  · cases e
    obtain ⟨s, hs, rfl⟩ := hp
    show CallTo _ _ _ _ (.agg ((rndZ (intsA (s.map w)) _).map w)) _ _
    rw [intA_w]
    exact roundZ35 hs _ H
  · cases e
    obtain ⟨s, hs, rfl⟩ := hp
    show CallTo _ _ _ _ (.agg ((allF (intsA (s.map w))).map w)) _ _
    rw [intA_w]
    exact rounds29 hs H
  · cases e
    obtain ⟨s, hs, rfl⟩ := hp
    show CallTo _ _ _ _ (.agg ((allF (intsA (s.map w))).map w)) _ _
    rw [intA_w]
    exact rounds36 hs H
  · exact cnK_ok _ _ _ _ _ e hp

end
end Go.Proofs.Vm

namespace Go.Proofs.Vm
open Go.Vm
noncomputable section

theorem vc25 (S : AF) (Q : AV → Hl → Prop) :
  (vcall (vcA kdYes (cnA S) noLn) ops0 (tabOne 25 vf25) 100 vf25 [] [] (endN (fun _ => 0) Q)) =
 (((PPs [] 0 0) ∧
 (Chk (ops0.eq (ops0.len (KF.sum (AF.toKF S) [])) 32)
 (∃ n : Int, ((Nth (ops0.spl [(AV.int IntKind.u8 (Int.ofNat 0)), (AV.int IntKind.u8 (Int.ofNat 0)), (AV.int IntKind.u8 (Int.ofNat 0)), (AV.int IntKind.u8 (Int.ofNat 0)), (AV.int IntKind.u8 (Int.ofNat 0)), (AV.int IntKind.u8 (Int.ofNat 0)), (AV.int IntKind.u8 (Int.ofNat 0)), (AV.int IntKind.u8 (Int.ofNat 0)), (AV.int IntKind.u8 (Int.ofNat 0)), (AV.int IntKind.u8 (Int.ofNat 0)), (AV.int IntKind.u8 (Int.ofNat 0)), (AV.int IntKind.u8 (Int.ofNat 0)), (AV.int IntKind.u8 (Int.ofNat 0)), (AV.int IntKind.u8 (Int.ofNat 0)), (AV.int IntKind.u8 (Int.ofNat 0)), (AV.int IntKind.u8 (Int.ofNat 0)), (AV.int IntKind.u8 (Int.ofNat 0)), (AV.int IntKind.u8 (Int.ofNat 0)), (AV.int IntKind.u8 (Int.ofNat 0)), (AV.int IntKind.u8 (Int.ofNat 0)), (AV.int IntKind.u8 (Int.ofNat 0)), (AV.int IntKind.u8 (Int.ofNat 0)), (AV.int IntKind.u8 (Int.ofNat 0)), (AV.int IntKind.u8 (Int.ofNat 0)), (AV.int IntKind.u8 (Int.ofNat 0)), (AV.int IntKind.u8 (Int.ofNat 0)), (AV.int IntKind.u8 (Int.ofNat 0)), (AV.int IntKind.u8 (Int.ofNat 0)), (AV.int IntKind.u8 (Int.ofNat 0)), (AV.int IntKind.u8 (Int.ofNat 0)), (AV.int IntKind.u8 (Int.ofNat 0)), (AV.int IntKind.u8 (Int.ofNat 0))] 0 (KF.sum (AF.toKF S) [])) 0 (AV.int IntKind.u8 n)) ∧
 (Br (ops0.cmp BinOp.eql n (Int.ofNat 167))
 (∃ n1 : Int, ((Nth (ops0.spl [(AV.int IntKind.u8 (Int.ofNat 0)), (AV.int IntKind.u8 (Int.ofNat 0)), (AV.int IntKind.u8 (Int.ofNat 0)), (AV.int IntKind.u8 (Int.ofNat 0)), (AV.int IntKind.u8 (Int.ofNat 0)), (AV.int IntKind.u8 (Int.ofNat 0)), (AV.int IntKind.u8 (Int.ofNat 0)), (AV.int IntKind.u8 (Int.ofNat 0)), (AV.int IntKind.u8 (Int.ofNat 0)), (AV.int IntKind.u8 (Int.ofNat 0)), (AV.int IntKind.u8 (Int.ofNat 0)), (AV.int IntKind.u8 (Int.ofNat 0)), (AV.int IntKind.u8 (Int.ofNat 0)), (AV.int IntKind.u8 (Int.ofNat 0)), (AV.int IntKind.u8 (Int.ofNat 0)), (AV.int IntKind.u8 (Int.ofNat 0)), (AV.int IntKind.u8 (Int.ofNat 0)), (AV.int IntKind.u8 (Int.ofNat 0)), (AV.int IntKind.u8 (Int.ofNat 0)), (AV.int IntKind.u8 (Int.ofNat 0)), (AV.int IntKind.u8 (Int.ofNat 0)), (AV.int IntKind.u8 (Int.ofNat 0)), (AV.int IntKind.u8 (Int.ofNat 0)), (AV.int IntKind.u8 (Int.ofNat 0)), (AV.int IntKind.u8 (Int.ofNat 0)), (AV.int IntKind.u8 (Int.ofNat 0)), (AV.int IntKind.u8 (Int.ofNat 0)), (AV.int IntKind.u8 (Int.ofNat 0)), (AV.int IntKind.u8 (Int.ofNat 0)), (AV.int IntKind.u8 (Int.ofNat 0)), (AV.int IntKind.u8 (Int.ofNat 0)), (AV.int IntKind.u8 (Int.ofNat 0))] 0 (KF.sum (AF.toKF S) [])) 1 (AV.int IntKind.u8 n1)) ∧
 (Br (ops0.cmp BinOp.eql n1 (Int.ofNat 255))
 (∃ n2 : Int, ((Nth (ops0.spl [(AV.int IntKind.u8 (Int.ofNat 0)), (AV.int IntKind.u8 (Int.ofNat 0)), (AV.int IntKind.u8 (Int.ofNat 0)), (AV.int IntKind.u8 (Int.ofNat 0)), (AV.int IntKind.u8 (Int.ofNat 0)), (AV.int IntKind.u8 (Int.ofNat 0)), (AV.int IntKind.u8 (Int.ofNat 0)), (AV.int IntKind.u8 (Int.ofNat 0)), (AV.int IntKind.u8 (Int.ofNat 0)), (AV.int IntKind.u8 (Int.ofNat 0)), (AV.int IntKind.u8 (Int.ofNat 0)), (AV.int IntKind.u8 (Int.ofNat 0)), (AV.int IntKind.u8 (Int.ofNat 0)), (AV.int IntKind.u8 (Int.ofNat 0)), (AV.int IntKind.u8 (Int.ofNat 0)), (AV.int IntKind.u8 (Int.ofNat 0)), (AV.int IntKind.u8 (Int.ofNat 0)), (AV.int IntKind.u8 (Int.ofNat 0)), (AV.int IntKind.u8 (Int.ofNat 0)), (AV.int IntKind.u8 (Int.ofNat 0)), (AV.int IntKind.u8 (Int.ofNat 0)), (AV.int IntKind.u8 (Int.ofNat 0)), (AV.int IntKind.u8 (Int.ofNat 0)), (AV.int IntKind.u8 (Int.ofNat 0)), (AV.int IntKind.u8 (Int.ofNat 0)), (AV.int IntKind.u8 (Int.ofNat 0)), (AV.int IntKind.u8 (Int.ofNat 0)), (AV.int IntKind.u8 (Int.ofNat 0)), (AV.int IntKind.u8 (Int.ofNat 0)), (AV.int IntKind.u8 (Int.ofNat 0)), (AV.int IntKind.u8 (Int.ofNat 0)), (AV.int IntKind.u8 (Int.ofNat 0))] 0 (KF.sum (AF.toKF S) [])) 31 (AV.int IntKind.u8 n2)) ∧
 (Br (ops0.cmp BinOp.eql n2 (Int.ofNat 74))
 ((PPs [] 0 0) ∧
 (True ∧
 (Br (ops0.cmp BinOp.eql (AF.cst S (Int.ofNat 0)) (Int.ofNat 1))
 (Q (AV.bool Bool.true) [])
 (Q (AV.bool Bool.false) []))))
 (Q (AV.bool Bool.false) []))))
 (Q (AV.bool Bool.false) []))))
 (Q (AV.bool Bool.false) []))))))) := by kernel_rfl

theorem dig0_0 : (streamF 136 6 32 [])[0]? = some 167 := by kernel_rfl
theorem dig0_1 : (streamF 136 6 32 [])[1]? = some 255 := by kernel_rfl
theorem dig0_31 : (streamF 136 6 32 [])[31]? = some 74 := by kernel_rfl

theorem pps_nil : PPs [] 0 0 := ⟨fun p hp => (by cases hp), [], rfl, by decide, fun j lb h => (by simp at h)⟩

theorem spl_all {z xs : List AV} (h : z.length = xs.length) : ops0.spl z 0 xs = xs := by
  rw [nSpl, List.take_zero, List.nil_append, Nat.zero_add, List.drop_of_length_le (by omega), List.append_nil]

theorem lives25 (H : Hl) : CallTo Try.prog 25 [] H (.bool true) H [] := by
  have hc : CallTo Try.prog 25 [] [] (.bool true) [] [] := by
    refine call_n cnA_ok (noLn_ok _) (tabOne_ok ok25) (tabOne_self 25 vf25) (n := 100) (g := kdYes) (m := fun _ => 0) [] ?_ (by simp) rfl (by simp)
    rw [vc25]
    have e1 : KF.sum (AF.toKF af0) [] = (streamF 136 6 32 []).map by8 := rfl
    have hl : ((streamF 136 6 32 []).map by8).length = 32 := by rw [List.length_map, streamF_length]
    rw [e1, spl_all (by rw [hl]; rfl)]
    have g : ∀ (i : Nat) (b : UInt8), (streamF 136 6 32 [])[i]? = some b → Nth ((streamF 136 6 32 []).map by8) i (.int .u8 (Int.ofNat b.toNat)) := fun i b h => Nth.mk (by rw [List.getElem?_map, h]; rfl)
    refine ⟨pps_nil, Chk.mk (by rw [nEq, nLen, hl]; rfl) ⟨_, g 0 167 dig0_0, Br.t rfl ⟨_, g 1 255 dig0_1, Br.t rfl ⟨_, g 31 74 dig0_31, Br.t rfl ⟨pps_nil, trivial, Br.t rfl ⟨rfl, rfl⟩⟩⟩⟩⟩⟩
  exact CallTo.lookV (H := H) hc .nil

/-- With what lives. -/
def cnB (S : AF) : CnF := fun f vals H => match f, vals with
  | 25, [] => some (True, .ok (.bool true) H [])
  | f, vals => cnA S f vals H
theorem cnB_ok : CnOK Try.prog (cnB af0) := by
  intro f vals H p x e hp
  unfold cnB at e
  split at e
  · cases e; exact lives25 H
  · exact cnA_ok _ _ _ _ _ e hp

end
end Go.Proofs.Vm
