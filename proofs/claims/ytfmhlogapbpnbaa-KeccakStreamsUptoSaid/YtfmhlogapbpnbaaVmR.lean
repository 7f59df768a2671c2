/-
  A VERIFIED SYMBOLIC MACHINE, PART R: a region's operations, in the text's order and in any order that its edges let.
-/
import Derived.Test.YtfmhlogapbpnbaaVmQ
namespace Go.Vm

/-! ### The code of a region -/

def badO : VO := ⟨none, none, .bad, []⟩

def voOf (P : Program) (all : Array Oper) (o : Oper) : VO :=
  match copOf P o.op with
  | some (vo, xs) => match argsOf xs with
    | some as => match o.guard with
      | none => ⟨o.dst, none, vo, as⟩
      | some (g, want) => match (all[g]?).bind (·.dst) with
        | some d => ⟨o.dst, some (d, want), vo, as⟩
        | none => badO
    | none => badO
  | none => badO

def vosOf (P : Program) (all : Array Oper) : List VO := all.toList.map (voOf P all)

/-- The slot that it fills and its guard are the operation's. -/
structure GuardOK (all : Array Oper) (o : Oper) (v : VO) : Prop where
  dst : v.dst = o.dst
  guard : (o.guard = none ∧ v.guard = none) ∨ ∃ g want d, o.guard = some (g, want) ∧ (all[g]?).bind (·.dst) = some d ∧ v.guard = some (d, want)

theorem voOf_ok (P : Program) (all : Array Oper) (o : Oper) : voOf P all o = badO ∨ (GuardOK all o (voOf P all o) ∧ ∃ xs, copOf P o.op = some ((voOf P all o).op, xs) ∧ argsOf xs = some (voOf P all o).args) := by
  unfold voOf
  split
  · rename_i vo xs hc
    split
    · rename_i as ha
      split
      · rename_i hg
        exact .inr ⟨⟨rfl, .inl ⟨hg, rfl⟩⟩, xs, hc, ha⟩
      · rename_i g want hg
        split
        · rename_i d hd
          exact .inr ⟨⟨rfl, .inr ⟨g, want, d, hg, hd, rfl⟩⟩, xs, hc, ha⟩
        · exact .inl rfl
    · exact .inl rfl
  · exact .inl rfl

/-- The slots that an operation of the machine looks at. -/
def readsA : List Arg → List Nat
  | [] => []
  | .t n :: as => n :: readsA as
  | .c _ :: as => readsA as
def readsOf (v : VO) : List Nat :=
  match v.guard with
  | some (d, _) => d :: readsA v.args
  | none => readsA v.args
def hasO : Option Nat → List Nat → Bool
  | some d, l => has d l
  | none, _ => false
def sameO : Option Nat → Option Nat → Bool
  | some d, some e => Nat.beq d e
  | _, _ => false
def slotClash (u v : VO) : Bool := hasO u.dst (readsOf v) || sameO u.dst v.dst || hasO v.dst (readsOf u)

/-- Do all pairs that share a slot stand in order? (The list from place i on.) -/
def slotsOne (bef : List Nat) (i : Nat) (u : VO) : Nat → List VO → Bool
  | _, [] => true
  | j, v :: vs => match slotClash u v with
    | true => match (slotN bef j).testBit i with
      | true => slotsOne bef i u (j + 1) vs
      | false => false
    | false => slotsOne bef i u (j + 1) vs
def slotsOK (bef : List Nat) : Nat → List VO → Bool
  | _, [] => true
  | i, u :: vs => match slotsOne bef i u (i + 1) vs with
    | true => slotsOK bef (i + 1) vs
    | false => false

/-! ### Small lists -/
theorem has_iff (n : Nat) (l : List Nat) : has n l = true ↔ n ∈ l := by
  induction l with
  | nil => simp [has]
  | cons x l ih =>
    unfold has
    cases h : Nat.beq x n
    · have hx : x ≠ n := by intro e; subst e; simp [Nat.beq_refl] at h
      simp only [ih, List.mem_cons]
      exact ⟨.inr, fun h => h.resolve_left (fun e => hx e.symm)⟩
    · have hx := Nat.eq_of_beq_eq_true h
      subst hx; simp
theorem meet_iff (l m : List Nat) : meet l m = true ↔ ∃ x, x ∈ l ∧ x ∈ m := by
  induction l with
  | nil => simp [meet]
  | cons x l ih =>
    unfold meet
    cases h : has x m
    · have hx : x ∉ m := fun hm => by have := (has_iff x m).2 hm; simp [h] at this
      simp only [ih, List.mem_cons]
      constructor
      · rintro ⟨y, a, b⟩; exact ⟨y, .inr a, b⟩
      · rintro ⟨y, a | a, b⟩
        · subst a; exact absurd b hx
        · exact ⟨y, a, b⟩
    · have := (has_iff x m).1 h
      simp only [true_iff]
      exact ⟨x, by simp, this⟩
theorem over_iff (n : Nat) (l : List Nat) : over n l = true ↔ ∃ x, x ∈ l ∧ n ≤ x := by
  induction l with
  | nil => simp [over]
  | cons x l ih =>
    unfold over
    cases h : Nat.blt x n
    · have hx : n ≤ x := by
        rcases Nat.lt_or_ge x n with h' | h'
        · have := (blt_iff _ _).2 h'; simp [h] at this
        · exact h'
      simp only [true_iff]
      exact ⟨x, by simp, hx⟩
    · have hx : x < n := (blt_iff _ _).1 h
      simp only [ih, List.mem_cons]
      constructor
      · rintro ⟨y, a, b⟩; exact ⟨y, .inr a, b⟩
      · rintro ⟨y, a | a, b⟩
        · subst a; omega
        · exact ⟨y, a, b⟩

theorem slotN_eq (l : List Nat) (i : Nat) : slotN l i = l[i]?.getD 0 := by
  induction l generalizing i with
  | nil => simp [slotN]
  | cons x l ih => cases i <;> simp [slotN, ih]

theorem slotsOne_ok {bef : List Nat} {i : Nat} {u : VO} : ∀ {vs : List VO} {j : Nat}, slotsOne bef i u j vs = true → ∀ k v, vs[k]? = some v → slotClash u v = true → (slotN bef (j + k)).testBit i = true
  | [], _, _, k, v, hv, _ => by simp at hv
  | x :: vs, j, h, k, v, hv, hc => by
    unfold slotsOne at h
    cases k with
    | zero =>
      simp at hv; subst hv
      rw [hc] at h
      simp only at h
      split at h
      · assumption
      · cases h
    | succ k =>
      have : slotsOne bef i u (j + 1) vs = true := by
        split at h
        · split at h
          · exact h
          · cases h
        · exact h
      have := slotsOne_ok this k v (by simpa using hv) hc
      rw [show j + (k + 1) = j + 1 + k by omega]; exact this

theorem slotsOK_ok {bef : List Nat} : ∀ {vs : List VO} {i : Nat}, slotsOK bef i vs = true → ∀ j k u v, vs[j]? = some u → vs[k]? = some v → j < k → slotClash u v = true → (slotN bef (i + k)).testBit (i + j) = true
  | [], _, _, j, k, u, v, hu, _, _, _ => by simp at hu
  | x :: vs, i, h, j, k, u, v, hu, hv, hjk, hc => by
    unfold slotsOK at h
    split at h
    · rename_i h1
      cases k with
      | zero => omega
      | succ k =>
        cases j with
        | zero =>
          simp at hu; subst hu
          have := slotsOne_ok h1 k v (by simpa using hv) hc
          rw [show i + (k + 1) = i + 1 + k by omega]; exact this
        | succ j =>
          have := slotsOK_ok h j k u v (by simpa using hu) (by simpa using hv) (by omega) hc
          rw [show i + (k + 1) = i + 1 + k by omega, show i + (j + 1) = i + 1 + j by omega]; exact this
    · cases h

/-! ### A run in the text's order -/

structure Tr where
  fr : Nat → Fr
  H : Nat → Hl
  r : Nat → AV
  T : Nat → List Nat
  F : Nat → List Nat
  run : Nat → Bool

structure StepAt (P : Program) (all : Array Oper) (o : Oper) (v : VO) (t : Tr) (j : Nat) : Prop where
  gd : GuardOK all o v
  fr : t.fr (j + 1) = setD (t.fr j) v.dst (t.r j)
  grow : (t.H j).length ≤ (t.H (j + 1)).length
  keep : ∀ b, b ∉ t.T j → (t.H (j + 1))[b]? = (t.H j)[b]?
  in_ : ∀ b, b ∈ t.T j → b < (t.H (j + 1)).length
  ran : t.run j = true → guardOf (t.fr j) v.guard = .run ∧ ∃ tch xs, t.T j = tch ++ news (t.H j).length (t.H (j + 1)).length ∧ copOf P o.op = some (v.op, xs) ∧ argsOf xs = some v.args ∧
    StepX P o (isCall v.op) xs (evs (t.fr j) v.args) (t.H j) (t.r j) (t.H (j + 1)) tch (t.F j)
  passed : t.run j = false → guardOf (t.fr j) v.guard = .pass ∧ t.r j = .tup [] ∧ t.T j = [] ∧ t.H (j + 1) = t.H j

/-- What the machine noted down of it, the last operation first. -/
def recs (vs : Nat → VO) (t : Tr) : Nat → List Rec
  | 0 => []
  | n + 1 => if t.run n = true then note n (t.T n) (t.F n) (limOf (vs n).op (t.H n).length) (recs vs t n) else recs vs t n

theorem recs_congr {vs : Nat → VO} {t u : Tr} {n : Nat} (h : ∀ j, j < n → t.run j = u.run j ∧ t.T j = u.T j ∧ t.F j = u.F j ∧ t.H j = u.H j) : recs vs t n = recs vs u n := by
  induction n with
  | zero => rfl
  | succ n ih =>
    obtain ⟨a, b, c, d⟩ := h n (by omega)
    simp only [recs, a, b, c, d, ih (fun j hj => h j (by omega))]

theorem StepAt.congr {P : Program} {all : Array Oper} {o : Oper} {v : VO} {t u : Tr} {j : Nat} (h : StepAt P all o v t j) (h1 : u.fr j = t.fr j) (h2 : u.fr (j + 1) = t.fr (j + 1)) (h3 : u.H j = t.H j) (h4 : u.H (j + 1) = t.H (j + 1))
    (h5 : u.r j = t.r j) (h6 : u.T j = t.T j) (h7 : u.F j = t.F j) (h8 : u.run j = t.run j) : StepAt P all o v u j := by
  obtain ⟨a0, a, b, c, d, e, f⟩ := h
  rw [← h1, ← h2, ← h5] at a
  rw [← h3, ← h4] at b
  rw [← h3, ← h4, ← h6] at c
  rw [← h4, ← h6] at d
  rw [← h1, ← h3, ← h4, ← h5, ← h6, ← h7, ← h8] at e
  rw [← h1, ← h3, ← h4, ← h5, ← h6, ← h8] at f
  exact ⟨a0, a, b, c, d, e, f⟩

def Tr.ext (t : Tr) (i : Nat) (fr : Fr) (H : Hl) (r : AV) (T F : List Nat) (run : Bool) : Tr where
  fr k := if k = i + 1 then fr else t.fr k
  H k := if k = i + 1 then H else t.H k
  r k := if k = i then r else t.r k
  T k := if k = i then T else t.T k
  F k := if k = i then F else t.F k
  run k := if k = i then run else t.run k

theorem Tr.ext_old {P : Program} {all : Array Oper} {o : Oper} {v : VO} {t : Tr} {i j : Nat} {fr : Fr} {H : Hl} {r : AV} {T F : List Nat} {run : Bool} (hj : j < i) (h : StepAt P all o v t j) : StepAt P all o v (t.ext i fr H r T F run) j :=
  h.congr (by simp [Tr.ext]; omega) (by simp [Tr.ext]; omega) (by simp [Tr.ext]; omega) (by simp [Tr.ext]; omega) (by simp [Tr.ext]; omega) (by simp [Tr.ext]; omega) (by simp [Tr.ext]; omega) (by simp [Tr.ext]; omega)

section
variable {R : Type} {A : Alg R} {holds : R → Prop} (good : A.Good holds) {P : Program} {cf : CallF R} (hcf : CallOK P holds cf)
include good hcf

theorem vops_sound {k : Fr → Hl → List Nat → List Rec → R} (all : Array Oper) (vf : Nat → VO) (hvf : ∀ j o, all[j]? = some o → vf j = voOf P all o) (H0 : Hl) (lg0 : List Nat) :
    ∀ (os : List Oper) (i : Nat) (t : Tr) (lg : List Nat), (∀ j, os[j]? = all[i + j]?) → (∀ j o, j < i → all[j]? = some o → StepAt P all o (vf j) t j) →
      (∀ b, b ∈ lg0 → b ∈ lg) → (∀ b, b < H0.length → b ∉ lg → (t.H i)[b]? = H0[b]?) → H0.length ≤ (t.H i).length →
      holds (vops A ops0 cf i (os.map (voOf P all)) (t.fr i) (t.H i) lg (recs vf t i) k) →
      ∃ t' lg', t'.fr 0 = t.fr 0 ∧ t'.H 0 = t.H 0 ∧ (∀ j o, j < i + os.length → all[j]? = some o → StepAt P all o (vf j) t' j) ∧ (∀ b, b ∈ lg0 → b ∈ lg') ∧
        (∀ b, b < H0.length → b ∉ lg' → (t'.H (i + os.length))[b]? = H0[b]?) ∧ H0.length ≤ (t'.H (i + os.length)).length ∧
        holds (k (t'.fr (i + os.length)) (t'.H (i + os.length)) lg' (recs vf t' (i + os.length)))
  | [], i, t, lg, _, hold, hlg, hkeep, hgrow, h => ⟨t, lg, rfl, rfl, by simpa using hold, hlg, by simpa using hkeep, by simpa using hgrow, h⟩
  | o :: os, i, t, lg, hos, hold, hlg, hkeep, hgrow, h => by
    have ho : all[i]? = some o := by have := hos 0; simpa using this.symm
    have hv : vf i = voOf P all o := hvf i o ho
    have hos' : ∀ j, os[j]? = all[i + 1 + j]? := fun j => by
      have := hos (j + 1)
      rw [show i + (j + 1) = i + 1 + j by omega] at this
      simpa using this
    simp only [List.map_cons] at h
    rw [← hv] at h
    have hlen : i + (o :: os).length = i + 1 + os.length := by simp; omega
    rw [hlen]
    generalize hgd : guardOf (t.fr i) (vf i).guard = gd at *
    -- what comes of it: one step, and the rest
    have fin : ∀ (fr' : Fr) (H' : Hl) (r : AV) (T F : List Nat) (run : Bool) (lg' : List Nat), StepAt P all o (vf i) (t.ext i fr' H' r T F run) i → (∀ b, b ∈ lg → b ∈ lg') → (∀ b, b < H0.length → b ∉ lg' → H'[b]? = H0[b]?) → H0.length ≤ H'.length →
        holds (vops A ops0 cf (i + 1) (os.map (voOf P all)) fr' H' lg' (recs vf (t.ext i fr' H' r T F run) (i + 1)) k) →
        ∃ t' lg', t'.fr 0 = t.fr 0 ∧ t'.H 0 = t.H 0 ∧ (∀ j o, j < i + 1 + os.length → all[j]? = some o → StepAt P all o (vf j) t' j) ∧ (∀ b, b ∈ lg0 → b ∈ lg') ∧
          (∀ b, b < H0.length → b ∉ lg' → (t'.H (i + 1 + os.length))[b]? = H0[b]?) ∧ H0.length ≤ (t'.H (i + 1 + os.length)).length ∧
          holds (k (t'.fr (i + 1 + os.length)) (t'.H (i + 1 + os.length)) lg' (recs vf t' (i + 1 + os.length))) := by
      intro fr' H' r T F run lg' hst hsub hk hg h
      have e1 : (t.ext i fr' H' r T F run).fr (i + 1) = fr' := by simp [Tr.ext]
      have e2 : (t.ext i fr' H' r T F run).H (i + 1) = H' := by simp [Tr.ext]
      obtain ⟨t', lg2, a, b, c, d, e, f, g⟩ := vops_sound all vf hvf H0 lg0 os (i + 1) (t.ext i fr' H' r T F run) lg' hos' (fun j o' hj ho' => by
          rcases Nat.lt_or_ge j i with h' | h'
          · exact Tr.ext_old h' (hold j o' h' ho')
          · have : j = i := by omega
            subst this
            rw [ho] at ho'; cases ho'
            exact hst) (fun b hb => hsub b (hlg b hb)) (by rw [e2]; exact hk) (by rw [e2]; exact hg) (by rw [e1, e2]; exact h)
      refine ⟨t', lg2, a.trans (by simp [Tr.ext]), b.trans (by simp [Tr.ext]), c, d, e, f, g⟩
    unfold vops at h
    rw [hgd] at h
    cases gd with
    | bad => exact (good.fail h).elim
    | pass =>
      have hgk : GuardOK all o (vf i) := by
        rcases voOf_ok P all o with hb | hb
        · rw [hv, hb] at hgd; cases hgd
        · rw [hv]; exact hb.1
      refine fin (setD (t.fr i) (vf i).dst (.tup [])) (t.H i) (.tup []) [] [] false lg ⟨hgk, ?_, ?_, ?_, ?_, ?_, ?_⟩ (fun b hb => hb) hkeep hgrow ?_
      · simp [Tr.ext]
      · simp [Tr.ext]
      · intro b _; simp [Tr.ext]
      · intro b hb; simp [Tr.ext] at hb
      · intro hr; simp [Tr.ext] at hr
      · intro _; refine ⟨?_, ?_, ?_, ?_⟩ <;> simp [Tr.ext, hgd]
      · have e : recs vf (t.ext i (setD (t.fr i) (vf i).dst (.tup [])) (t.H i) (.tup []) [] [] false) (i + 1) = recs vf t i := by
          have : recs vf (t.ext i (setD (t.fr i) (vf i).dst (.tup [])) (t.H i) (.tup []) [] [] false) i = recs vf t i := recs_congr (fun j hj => by refine ⟨?_, ?_, ?_, ?_⟩ <;> simp [Tr.ext] <;> omega)
          simp only [recs, this]
          simp [Tr.ext]
        rw [e]; exact h
    | run =>
      obtain ⟨hgk, xs, hc, ha⟩ : GuardOK all o (vf i) ∧ ∃ xs, copOf P o.op = some ((vf i).op, xs) ∧ argsOf xs = some (vf i).args := by
        rcases voOf_ok P all o with hb | hb
        · rw [hv, hb] at h
          exact (good.fail h).elim
        · rw [hv]; exact hb
      obtain ⟨r, H', tch, ft, h, hs⟩ := ex_sound good hcf hc h
      rw [size_eq, size_eq, join_eq, join_eq] at h
      refine fin (setD (t.fr i) (vf i).dst r) H' r (tch ++ news (t.H i).length H'.length) ft true (tch ++ lg) ⟨hgk, ?_, ?_, ?_, ?_, ?_, ?_⟩ (fun b hb => List.mem_append_right _ hb) ?_ (Nat.le_trans hgrow hs.grow) ?_
      · simp [Tr.ext]
      · simpa [Tr.ext] using hs.grow
      · intro b hb
        simp only [Tr.ext, if_true, List.mem_append, mem_news] at hb ⊢
        rw [if_neg (by omega)]
        rcases Nat.lt_or_ge b (t.H i).length with h' | h'
        · exact hs.keep b h' fun hb' => hb (.inl hb')
        · have : H'.length ≤ b := by
            rcases Nat.lt_or_ge b H'.length with h2 | h2
            · exact absurd (.inr ⟨h', h2⟩) hb
            · exact h2
          rw [List.getElem?_eq_none h', List.getElem?_eq_none this]
      · intro b hb
        simp only [Tr.ext, if_true, List.mem_append, mem_news] at hb ⊢
        rcases hb with hb | hb
        · exact Nat.lt_of_lt_of_le (hs.old b hb) hs.grow
        · exact hb.2
      · intro _
        refine ⟨by simpa [Tr.ext] using hgd, tch, xs, ?_, hc, ha, ?_⟩
        · simp [Tr.ext]
        · simpa [Tr.ext] using hs
      · intro hr; simp [Tr.ext] at hr
      · intro b hb hn
        rw [List.mem_append] at hn
        rw [hs.keep b (Nat.lt_of_lt_of_le hb hgrow) (fun h' => hn (.inl h'))]
        exact hkeep b hb fun h' => hn (.inr h')
      · have e : recs vf (t.ext i (setD (t.fr i) (vf i).dst r) H' r (tch ++ news (t.H i).length H'.length) ft true) (i + 1) =
            note i (tch ++ news (t.H i).length H'.length) ft (limOf (vf i).op (t.H i).length) (recs vf t i) := by
          have : recs vf (t.ext i (setD (t.fr i) (vf i).dst r) H' r (tch ++ news (t.H i).length H'.length) ft true) i = recs vf t i := recs_congr (fun j hj => by refine ⟨?_, ?_, ?_, ?_⟩ <;> simp [Tr.ext] <;> omega)
          simp only [recs, this]
          simp [Tr.ext]
        rw [e]; exact h
end

end Go.Vm
