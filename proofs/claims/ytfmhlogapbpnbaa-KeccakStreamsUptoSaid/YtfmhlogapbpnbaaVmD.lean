/-
  A VERIFIED SYMBOLIC MACHINE, PART D: the model's operations as the machine's, and that they do the same.
-/
import Derived.Test.YtfmhlogapbpnbaaVmC
namespace Go.Vm

/-! ### Constants and operands -/

def toAV : Value → Option AV
  | .bool b => some (.bool b)
  | .int k n => some (.int k n)
  | .float k n => some (.flt k n)
  | .string s => some (.str s.data.toList)
  | .pointer none => some .nilp
  | .slice none 0 0 => some .nils
  | .nilFunc => some .nilf
  | .nilIface => some .nili
  | _ => none

theorem toAV_rel {v : Value} {a : AV} (h : toAV v = some a) (ρ : Rho) (w : World) : VRel ρ w a v := by
  unfold toAV at h
  split at h <;> first
    | (cases h; first | exact .bool _ | exact .int _ _ | exact .flt _ _ | exact .nilp | exact .nils | exact .nilf | exact .nili | exact .str _)
    | cases h

theorem toAV_one {v : Value} {a : AV} (h : toAV v = some a) : vone v = true := by
  unfold toAV at h
  split at h <;> first | rfl | cases h

def toAVs : List Value → Option (List AV)
  | [] => some []
  | v :: vs => match toAV v, toAVs vs with
    | some a, some as => some (a :: as)
    | _, _ => none

theorem toAVs_rel {vs : List Value} {as : List AV} (h : toAVs vs = some as) : as.length = vs.length ∧ ∀ (i : Nat) (a : AV), as[i]? = some a → ∃ v, vs[i]? = some v ∧ toAV v = some a := by
  induction vs generalizing as with
  | nil => cases h; exact ⟨rfl, fun i a ha => by simp at ha⟩
  | cons v vs ih =>
    unfold toAVs at h
    split at h
    · rename_i x y hx hy
      cases h
      obtain ⟨hl, hi⟩ := ih hy
      refine ⟨by simp [hl], fun i a ha => ?_⟩
      cases i with
      | zero => simp at ha; subst ha; exact ⟨v, by simp, hx⟩
      | succ i => simp at ha; obtain ⟨u, h1, h2⟩ := hi i a ha; exact ⟨u, by simpa using h1, h2⟩
    · cases h

theorem toAVs_lies {vs : List Value} {as : List AV} (h : toAVs vs = some as) (ρ : Rho) (w : World) : Lies ρ w as 0 vs.toArray := by
  intro i a ha
  obtain ⟨v, h1, h2⟩ := (toAVs_rel h).2 i a ha
  exact ⟨v, by simpa using h1, toAV_one h2, toAV_rel h2 ρ w⟩

def argOf : Operand → Option Arg
  | .tmp t => some (.t t)
  | .const v => match v with
    | .tuple vs => if vs.size = 0 then some (.c (.tup [])) else none
    | v => (toAV v).map .c
  | .func f => some (.c (.fn f [] []))
  | .global _ => none

def argsOf : List Operand → Option (List Arg)
  | [] => some []
  | x :: xs => match argOf x, argsOf xs with
    | some a, some as => some (a :: as)
    | _, _ => none

/-- A frame. -/
abbrev FRel (ρ : Rho) (w : World) (fr : Fr) (tmps : Array Value) : Prop := VRels ρ w fr tmps.toList

theorem slot_eq (fr : Fr) (t : Nat) : slot fr t = fr[t]?.getD (.tup []) := by
  induction fr generalizing t with
  | nil => simp [slot_nil]
  | cons x fr ih => cases t <;> simp [slot_zero, slot_succ, ih]

theorem undef_rel (ρ : Rho) (w : World) : VRel ρ w (.tup []) undef := .tup [] [] rfl (fun i a v h _ => by simp at h)

theorem slot_rel {ρ : Rho} {w : World} {fr : Fr} {tmps : Array Value} (h : FRel ρ w fr tmps) (t : Nat) : VRel ρ w (slot fr t) (tmps.getD t undef) := by
  rw [slot_eq]
  have hl := h.len
  cases hf : fr[t]? with
  | none =>
    have : tmps.getD t undef = undef := by
      have hn : tmps.size ≤ t := by simp at hf hl; omega
      simp [Array.getD, Nat.not_lt.2 hn]
    rw [this]
    exact undef_rel ρ w
  | some a =>
    obtain ⟨v, hv, hr⟩ := h.get hf
    have : tmps.getD t undef = v := by
      have h' : tmps[t]? = some v := by simpa using hv
      simp [h']
    rw [this]
    exact hr

theorem arg_rel {ρ : Rho} {w : World} {fr : Fr} {a : Act} (h : FRel ρ w fr a.tmps) {x : Operand} {y : Arg} (hy : argOf x = some y) : VRel ρ w (ev fr y) (a.eval x) := by
  unfold argOf at hy
  split at hy
  · cases hy; exact slot_rel h _
  · split at hy
    · split at hy
      · rename_i hs
        cases hy
        have e := Array.size_eq_zero_iff.1 hs
        subst e
        exact undef_rel ρ w
      · cases hy
    · obtain ⟨b, hb, e⟩ := Option.map_eq_some_iff.1 hy
      subst e
      exact toAV_rel hb ρ w
  · cases hy
    exact .fn _ [] [] [] [] rfl rfl (fun i a v h _ => by simp at h) (fun i a v h _ => by simp at h)
  · cases hy

theorem args_rel {ρ : Rho} {w : World} {fr : Fr} {a : Act} (h : FRel ρ w fr a.tmps) {xs : List Operand} {ys : List Arg} (hy : argsOf xs = some ys) : VRels ρ w (evs fr ys) (xs.map a.eval) := by
  induction xs generalizing ys with
  | nil => cases hy; exact .nil
  | cons x xs ih =>
    unfold argsOf at hy
    split at hy
    · rename_i p q hp hq
      cases hy
      exact .cons (arg_rel h hp) (ih hq)
    · cases hy

/-! ### What an operation comes to -/

def agree (g : Hp) (H : Hl) (l : List Nat) : Prop := ∀ b, b ∈ l → g b = H[b]?
def upd (g : Hp) (H' : Hl) (l : List Nat) : Hp := fun b => if b ∈ l then H'[b]? else g b

structure StepOK (P : Program) (o : Oper) (xs : List Operand) (avs : List AV) (H : Hl) (r : AV) (H' : Hl) (tch ft : List Nat) : Prop where
  grow : H.length ≤ H'.length
  old : ∀ b, b ∈ tch → b < H.length
  keep : ∀ b, b < H.length → b ∉ tch → H'[b]? = H[b]?
  does : ∀ (ρ : Rho) (w : World) (a : Act) (g : Hp), VRels ρ w avs (xs.map a.eval) → agree g H ft → agree g H tch → (∀ b, H.length ≤ b → b < H'.length → g b = none) → HRel ρ w g →
    OpDo P o a w (fun v w' => ∃ ρ', HRel ρ' w' (upd g H' (tch ++ news H.length H'.length)) ∧ VRel ρ' w' r v ∧ ∀ n, Ext n ρ w ρ' w')

theorem news_self (n : Nat) : news n n = [] := by
  apply List.eq_nil_iff_forall_not_mem.2
  intro i hi
  have := (mem_news n n i).1 hi
  omega
theorem news_succ (n : Nat) : news n (n + 1) = [n] := by
  have h : ∀ i, i ∈ upto n → (!(Nat.blt i n)) = false := by
    intro i hi
    have := (blt_iff i n).2 ((mem_upto n i).1 hi)
    simp [this]
  have hn : (!(Nat.blt n n)) = true := by
    cases h : Nat.blt n n
    · rfl
    · have := (blt_iff n n).1 h; omega
  simp only [news, upto, List.filter_cons, hn, if_true]
  congr 1
  apply List.filter_eq_nil_iff.2
  intro i hi
  simp [h i hi]

theorem upd_nil (g : Hp) (H' : Hl) : upd g H' [] = g := by funext b; simp [upd]

/-- An operation that turns nothing. -/
theorem StepOK.quiet {P : Program} {o : Oper} {xs : List Operand} {avs : List AV} {H : Hl} {r : AV} {ft : List Nat}
    (h : ∀ (ρ : Rho) (w : World) (a : Act) (g : Hp), VRels ρ w avs (xs.map a.eval) → agree g H ft → HRel ρ w g → ∃ v, (execOp a.eval o).run P w = .ok (.value v) w ∧ VRel ρ w r v) :
    StepOK P o xs avs H r H [] ft where
  grow := Nat.le_refl _
  old b hb := by cases hb
  keep _ _ _ := rfl
  does ρ w a g hx hf _ _ hg := by
    obtain ⟨v, hr, hv⟩ := h ρ w a g hx hf hg
    refine OpDo.value hr ⟨ρ, ?_, hv, fun n => Ext.refl n ρ w⟩
    rw [news_self, List.append_nil, upd_nil]
    exact hg

theorem upd_one {g : Hp} {H : Hl} {k : Blk} : upd g (H ++ [k]) ([] ++ news H.length (H ++ [k]).length) = one g H.length k := by
  funext b
  simp only [upd, one, List.nil_append, List.length_append, List.length_cons, List.length_nil, Nat.zero_add, news_succ, List.mem_singleton]
  by_cases h : b = H.length
  · subst h; simp
  · simp [h]

/-- An operation that makes a block. -/
theorem StepOK.alloc {P : Program} {o : Oper} {xs : List Operand} {avs : List AV} {H : Hl} {r : AV} {ft : List Nat} {cs : List AV}
    (h : ∀ (ρ : Rho) (w : World) (a : Act) (g : Hp), VRels ρ w avs (xs.map a.eval) → agree g H ft → HRel ρ w g → ∃ v d c e, (execOp a.eval o).run P w = .ok (.value v) { w with heap := w.heap.push (.cells c e), drawn := d } ∧
      cs.length ≤ c.size ∧ Lies ρ w cs 0 c ∧ ∀ ρ' w', ρ' H.length = .live w.heap.size 0 → rows w' w.heap.size = c.size → VRel ρ' w' r v) :
    StepOK P o xs avs H r (H ++ [.cells cs]) [] ft where
  grow := by simp
  old b hb := by cases hb
  keep b hb _ := by rw [List.getElem?_append_left hb]
  does ρ w a g hx hf _ hn hg := by
    obtain ⟨v, d, c, e, hr, hs, hc, hv⟩ := h ρ w a g hx hf hg
    have hN : g H.length = none := hn _ (Nat.le_refl _) (by simp)
    have R := (hg.alloc hN (e := e) hs hc).drew d
    have E : ∀ n, Ext n ρ w (rho1 ρ H.length (.live w.heap.size 0)) { w with heap := w.heap.push (.cells c e) } := alloc_ext hg hN _ _ (by intro B F h; cases h; rfl)
    refine OpDo.value hr ⟨rho1 ρ H.length (.live w.heap.size 0), ?_, ?_, fun n => (E n).trans (drew_ext _ _ d n)⟩
    · rw [upd_one]; exact R
    · exact hv _ _ (by simp [rho1]) (by simp [rows])

/-! ### Facts on types -/

theorem run_size {P : Program} {t : TypeId} {i : TypeInfo} (h : P.info? t = some i) (w : World) : (sizeOf t).run P w = .ok i.size w := by
  simp [sizeOf, typeInfo, h]
theorem run_zero {P : Program} {t : TypeId} {i : TypeInfo} {z : Value} (h : P.info? t = some i) (hz : i.zero = some z) (w : World) : (zeroValue t).run P w = .ok z w := by
  simp [zeroValue, typeInfo, h, hz]
def isAggD : TypeDesc → Bool
  | .struct _ | .array _ _ => true
  | _ => false
theorem run_agg {P : Program} {t : TypeId} {d : TypeDesc} (h : P.underlying t = some d) (w : World) : (isAgg t).run P w = .ok (isAggD d) w := by
  unfold isAgg
  rw [Sem.run_bind, run_underlying h w]
  cases d <;> rfl

end Go.Vm
