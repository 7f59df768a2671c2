/-
  A VERIFIED SYMBOLIC MACHINE, PART O: append and copy do what the model's do.
-/
import Derived.Test.YtfmhlogapbpnbaaYab
import Derived.Laws.IdiomStrings

namespace Go.Vm

theorem lies_append {ρ : Rho} {w : World} {xs ys : List AV} {us vs : List Value} {zs : Array Value} (hl : us.length = xs.length) (h1 : Lies ρ w xs 0 us.toArray) (h2 : Lies ρ w ys 0 vs.toArray) :
    Lies ρ w (xs ++ ys) 0 (us.toArray ++ vs.toArray ++ zs) := by
  intro i a hi
  have hys : ∀ i a, ys[i]? = some a → i < vs.length := by
    intro i a h
    obtain ⟨v, hv, _⟩ := h2 i a h
    simp at hv
    exact (List.getElem?_eq_some_iff.1 hv).1
  by_cases h : i < xs.length
  · rw [List.getElem?_append_left h] at hi
    obtain ⟨v, p, q, r⟩ := h1 i a hi
    refine ⟨v, ?_, q, r⟩
    rw [Array.getElem?_append_left (by simp; omega), Array.getElem?_append_left (by simp; omega)]
    exact p
  · rw [List.getElem?_append_right (by omega)] at hi
    obtain ⟨v, p, q, r⟩ := h2 _ a hi
    have := hys _ a hi
    refine ⟨v, ?_, q, r⟩
    rw [Array.getElem?_append_left (by simp; omega), Array.getElem?_append_right (by simp; omega)]
    simp only [List.size_toArray]
    rw [hl, show 0 + i - xs.length = 0 + (i - xs.length) by omega]
    exact p

theorem take_all {α : Type} {l : List α} {n : Nat} (h : l.length = n) : l.take n = l := List.take_of_length_le (by omega)

theorem drawn_elems {P : Program} {ρ : Rho} {w : World} {sz n : Nat} {v : Value} {cs : List AV} (h : ∀ d, Elems P ρ { w with drawn := d } sz v cs n) :
    ∃ vs : List Value, vs.length = n * sz ∧ (∀ d, (Builtin.firstCells sz n v).run P { w with drawn := d } = .ok vs.toArray { w with drawn := d }) ∧ Lies ρ w cs 0 vs.toArray ∧ ∀ v ∈ vs, vone v = true := by
  obtain ⟨vs, h1, h2, h3, h4⟩ := (h w.drawn).first n (Nat.le_refl _)
  have hcl := (h w.drawn).len
  refine ⟨vs, h1, fun d => ?_, ?_, h4⟩
  · obtain ⟨us, g1, g2, _, _⟩ := (h d).first n (Nat.le_refl _)
    have : ∀ (d d' : Nat) r, (Builtin.firstCells sz n v).run P { w with drawn := d } = .ok r { w with drawn := d } → (Builtin.firstCells sz n v).run P { w with drawn := d' } = .ok r { w with drawn := d' } := by
      intro d d' r hr
      cases v with
      | slice ao l c =>
        cases ao with
        | none => simpa [Builtin.firstCells] using hr
        | some a =>
          simp only [Builtin.firstCells] at hr ⊢
          unfold loadCells at hr ⊢
          have gen : ∀ (m i : Nat) (acc : Array Value) r, (loadCellsFrom a i m acc).run P { w with drawn := d } = .ok r { w with drawn := d } → (loadCellsFrom a i m acc).run P { w with drawn := d' } = .ok r { w with drawn := d' } := by
            intro m
            induction m with
            | zero => intro i acc r h; simpa [loadCellsFrom] using h
            | succ m ih =>
              intro i acc r h
              simp only [loadCellsFrom, Sem.run_bind, run_load] at h ⊢
              have hc : ({ w with drawn := d } : World).cell? (a.add i) = ({ w with drawn := d' } : World).cell? (a.add i) := rfl
              have hfar : ({ w with drawn := d } : World).farLoad P (a.add i) (Mode.plain == Mode.atomic) = ({ w with drawn := d' } : World).farLoad P (a.add i) (Mode.plain == Mode.atomic) := rfl
              rw [hc] at h
              cases hcc : ({ w with drawn := d' } : World).cell? (a.add i) with
              | some v =>
                rw [hcc] at h
                simp only [Result.andThen_ok] at h ⊢
                exact ih _ _ _ h
              | none =>
                rw [hcc] at h
                simp only [] at h ⊢
                rw [hfar] at h
                cases hff : ({ w with drawn := d' } : World).farLoad P (a.add i) (Mode.plain == Mode.atomic) with
                | ok x =>
                  rw [hff] at h
                  obtain ⟨v, _⟩ := x
                  simp only [Result.andThen_ok] at h ⊢
                  exact ih _ _ _ h
                | error e =>
                  rw [hff] at h
                  simp at h
          exact gen _ _ _ _ hr
      | string s => simpa [Builtin.firstCells] using hr
      | _ => simp [Builtin.firstCells] at hr
    exact this w.drawn d _ h2
  · rw [take_all hcl] at h3
    exact h3

section
variable {P : Program} {t u e : TypeId} {j : TypeInfo} {z : Value}

theorem zeros_size (n : Nat) (zc : Array Value) : (Builtin.zeroCells zc n).size = n * zc.size := by simp [Builtin.zeroCells]

theorem upd_two {g : Hp} {H : Hl} {b : Nat} {k k' : Blk} (hb : b < H.length) : upd g (H.set b k ++ [k']) ([b] ++ news H.length (H.set b k ++ [k']).length) = one (one g b k) H.length k' := by
  funext i
  simp only [upd, one, List.length_append, List.length_set, List.length_cons, List.length_nil, Nat.zero_add, news_succ, List.mem_append, List.mem_singleton]
  by_cases h : i = H.length
  · subst h
    simp
  · by_cases h2 : i = b
    · subst h2
      rw [if_pos (.inl rfl), if_neg h, if_pos rfl, List.getElem?_append_left (by simpa using hb)]
      simp [hb]
    · rw [if_neg (by simp [h, h2]), if_neg h, if_neg h2]
end

section
variable {R : Type} {A : Alg R} {holds : R → Prop} (good : A.Good holds) {P : Program} {o : Oper} {avs : List AV} {H : Hl} {cf : CallF R} {k : ExK R}
include good

theorem s_app {x y : Operand} {t u e : TypeId} {j : TypeInfo} {z : Value} (ho : o.op = .call { callee := .builtin .append, args := #[x, y], argTypes := #[t, u] }) (T : AppT P t u e j z)
    (h : holds (ex A ops0 cf H (.app j.size j.bytes) avs k)) : Does P o [x, y] avs H fun r H' t f => holds (k r H' t f) := by
  have hex : ∀ (a : Act) (w : World), (execOp a.eval o).run P w = (builtin .append #[t, u] o.type (#[x, y].map fun | .const _ => true | _ => false) #[a.eval x, a.eval y]).run P w := by
    intro a w
    rw [run_builtin ho]
    simp
    rfl
  -- onto nothing
  have bare : ∀ {xa ya : AV}, (∀ ρ w v, VRel ρ w xa v → ∃ ao, v = .slice ao 0 0) →
      holds (elemsK A ops0 H j.size ya fun cs n ft => A.chk (ops0.room 0 n j.bytes) (k (.slc (size H) 0 n n j.size) (join H [.cells cs]) [] ft)) → Does P o [x, y] [xa, ya] H fun r H' t f => holds (k r H' t f) := by
    intro xa ya hxa h
    obtain ⟨cs, n, ft, h, hel⟩ := elemsK_sound good h
    obtain ⟨hroom, h⟩ := good.chk _ _ h
    rw [size_eq, join_eq] at h
    refine ⟨_, _, _, _, h, ⟨by simp, (fun b hb => by cases hb), fun b hb _ => by rw [List.getElem?_append_left hb], ?_⟩⟩
    intro ρ w a g hx hf _ hn hg
    obtain ⟨ao, hve⟩ := hxa ρ w _ hx.two.1
    have E : ∀ d, Elems P ρ { w with drawn := d } j.size (a.eval y) cs n := fun d => hel P ρ _ g _ (ext_bound (drew_ext ρ w d) hx.two.2) hf (hg.drew d)
    obtain ⟨vs, hvl, hvr, hvli, hvo⟩ := drawn_elems E
    have hcl := (E w.drawn).len
    have hN : g H.length = none := hn _ (Nat.le_refl _) (by simp)
    by_cases hn0 : n = 0
    · subst hn0
      have hcs : cs = [] := List.eq_nil_of_length_eq_zero (by omega)
      have hvs : vs = [] := List.eq_nil_of_length_eq_zero (by omega)
      subst hcs; subst hvs
      have hrun : (execOp a.eval o).run P w = .ok (.value (.slice ao 0 0)) w := by
        rw [hex, hve, run_append_in T (E w.drawn).lenOf (hvr w.drawn) (Nat.le_refl _)]
        cases ao <;> simp [storeCells]
      obtain ⟨R, E2⟩ := hg.nothing hN
      refine OpDo.value hrun ⟨_, ?_, ?_, E2⟩
      · rw [upd_one]; exact R
      · exact .slc _ _ _ _ _ _ (by simp [rho1]) ⟨ao, 0, rfl, Nat.le_refl _, Nat.le_refl _, by simp⟩ (fun _ => ⟨ao, rfl, rfl, rfl⟩) (by simp [rho1])
    · obtain ⟨N, d, hNn, hrun⟩ := run_append_new (ty := o.type) (cs := #[x, y].map fun | .const _ => true | _ => false) T (ao := ao) (len := 0) (cap := 0) (us := []) (E w.drawn).lenOf hvr
        (fun d => by cases ao <;> simp [Builtin.firstCells, loadCells, loadCellsFrom]) (by omega) hroom
      rw [Nat.zero_add] at hNn hrun
      have hsz : (([] : List Value).toArray ++ vs.toArray ++ Builtin.zeroCells z.cells (N - n)).size = N * j.size := by
        simp only [List.append_toArray, Array.size_append, List.size_toArray, List.nil_append, zeros_size, T.zs, hvl]
        rw [← Nat.add_mul]; congr 1; omega
      have hc : Lies ρ w cs 0 (([] : List Value).toArray ++ vs.toArray ++ Builtin.zeroCells z.cells (N - n)) := by
        have := lies_append (ρ := ρ) (w := w) (xs := []) (us := []) (zs := Builtin.zeroCells z.cells (N - n)) rfl (fun i a h => by simp at h) hvli
        simpa using this
      have R := (hg.alloc hN (e := e) (by rw [hsz, hcl]; exact Nat.mul_le_mul_right _ hNn) hc).drew d
      have E2 : ∀ n', Ext n' ρ w (rho1 ρ H.length (.live w.heap.size 0)) { w with heap := w.heap.push (.cells (([] : List Value).toArray ++ vs.toArray ++ Builtin.zeroCells z.cells (N - n)) e) } := alloc_ext hg hN _ _ (by intro B F h; cases h; rfl)
      refine OpDo.value (by rw [hex, hve]; exact hrun) ⟨rho1 ρ H.length (.live w.heap.size 0), ?_, ?_, fun n' => (E2 n').trans (drew_ext _ _ d n')⟩
      · rw [upd_one]; exact R
      · refine .slc _ _ _ _ _ _ (by simp [rho1]) ⟨_, N, rfl, hNn, hNn, fun _ => ⟨_, _, rfl⟩⟩ (by simp [rho1]) ?_
        intro B F hl
        simp [rho1] at hl
        obtain ⟨rfl, rfl⟩ := hl
        refine ⟨_, N, hNn, hNn, rfl, fun _ => rfl, ?_⟩
        have hrows : rows { w with heap := w.heap.push (.cells (([] : List Value).toArray ++ vs.toArray ++ Builtin.zeroCells z.cells (N - n)) e), drawn := d } w.heap.size = N * j.size := by
          rw [← hsz]; exact rows_here (by simp; exact ⟨rfl, rfl⟩)
        rw [hrows]; omega
  -- onto a literal that is full
  have lit : ∀ {fs : List AV} {off len : Nat} {ya : AV}, 0 < len →
      holds (elemsK A ops0 H j.size (.ros fs off len len true) fun us m ft1 => elemsK A ops0 H j.size ya fun cs n ft => A.br (ops0.lt 0 n)
        (A.chk (ops0.room m n j.bytes) (k (.slc (size H) 0 (ops0.add m n) (ops0.add m n) j.size) (join H [.cells (ops0.app us cs)]) [] (join ft1 ft)))
        (k (.ros fs off len len true) H [] (join ft1 ft))) → Does P o [x, y] [.ros fs off len len true, ya] H fun r H' t f => holds (k r H' t f) := by
    intro fs off len ya hlen h
    obtain ⟨es, m, ft1, h, hel1⟩ := elemsK_sound good h
    obtain ⟨cs, n, ft, h, hel⟩ := elemsK_sound good h
    rw [join_eq] at h
    have main : ∀ (ρ : Rho) (w : World) (a : Act) (g : Hp), VRels ρ w [.ros fs off len len true, ya] ([x, y].map a.eval) → agree g H (ft1 ++ ft) → HRel ρ w g →
        ∃ B X, a.eval x = .slice (some ⟨B, X, none⟩) len len ∧ m = len ∧ (∀ d, Elems P ρ { w with drawn := d } j.size (a.eval x) es m) ∧ ∀ d, Elems P ρ { w with drawn := d } j.size (a.eval y) cs n := by
      intro ρ w a g hx hf hg
      have E1 : ∀ d, Elems P ρ { w with drawn := d } j.size (a.eval x) es m := fun d => hel1 P ρ _ g _ (ext_bound (drew_ext ρ w d) hx.two.1) (fun i hi => hf i (List.mem_append_left _ hi)) (hg.drew d)
      have E2 : ∀ d, Elems P ρ { w with drawn := d } j.size (a.eval y) cs n := fun d => hel P ρ _ g _ (ext_bound (drew_ext ρ w d) hx.two.2) (fun i hi => hf i (List.mem_append_right _ hi)) (hg.drew d)
      have hxv := hx.two.1
      generalize hve : a.eval x = ve at hxv E1
      cases hxv with
      | ros _ _ _ _ _ B F ao cap' vs hlt hp hl ho' hc hr hcap hlen2 he ha =>
        have := he rfl
        subst this
        have := ha (by omega)
        subst this
        refine ⟨B, F + off, rfl, ?_, E1, E2⟩
        have h1 := (E1 w.drawn).lenOf
        simp [Builtin.lenOf] at h1
        exact h1.symm
    rcases good.br _ _ _ h with ⟨hn, h⟩ | ⟨hn, hq⟩
    · have hn : 0 < n := by simpa [ops0] using hn
      obtain ⟨hroom, h⟩ := good.chk _ _ h
      rw [size_eq, join_eq] at h
      refine ⟨_, _, _, _, h, ⟨by simp, (fun b hb => by cases hb), fun b hb _ => by rw [List.getElem?_append_left hb], ?_⟩⟩
      intro ρ w a g hx hf _ hnew hg
      obtain ⟨B, X, hve, rfl, E1, E⟩ := main ρ w a g hx hf hg
      obtain ⟨vs, hvl, hvr, hvli, hvo⟩ := drawn_elems E
      obtain ⟨us, hul, hur, huli, huo⟩ := drawn_elems E1
      have hcl := (E w.drawn).len
      have hsl := (E1 w.drawn).len
      have hN : g H.length = none := hnew _ (Nat.le_refl _) (by simp)
      rw [hve] at hur
      obtain ⟨N, d, hNn, hrun⟩ := run_append_new (ty := o.type) (cs := #[x, y].map fun | .const _ => true | _ => false) T (ao := some ⟨B, X, none⟩) (len := m) (cap := m) (E w.drawn).lenOf hvr hur (by omega) hroom
      have hsz : (us.toArray ++ vs.toArray ++ Builtin.zeroCells z.cells (N - (m + n))).size = N * j.size := by
        simp only [List.append_toArray, Array.size_append, List.size_toArray, List.length_append, zeros_size, T.zs, hvl, hul]
        rw [← Nat.add_mul, ← Nat.add_mul]; congr 1; omega
      have hc : Lies ρ w (es ++ cs) 0 (us.toArray ++ vs.toArray ++ Builtin.zeroCells z.cells (N - (m + n))) := lies_append (by omega) huli hvli
      have R := (hg.alloc hN (e := e) (by rw [hsz, List.length_append, hsl, hcl, ← Nat.add_mul]; exact Nat.mul_le_mul_right _ hNn) hc).drew d
      have E2 : ∀ n', Ext n' ρ w (rho1 ρ H.length (.live w.heap.size 0)) { w with heap := w.heap.push (.cells (us.toArray ++ vs.toArray ++ Builtin.zeroCells z.cells (N - (m + n))) e) } :=
        alloc_ext hg hN _ _ (by intro B F h; cases h; rfl)
      refine OpDo.value (by rw [hex, hve]; exact hrun) ⟨_, ?_, ?_, fun n' => (E2 n').trans (drew_ext _ _ d n')⟩
      · rw [upd_one]; exact R
      · refine .slc _ _ _ _ _ _ (by simp [rho1]) ⟨_, N, rfl, hNn, hNn, fun _ => ⟨_, _, rfl⟩⟩ (by simp [rho1]) ?_
        intro B F hl
        simp [rho1] at hl
        obtain ⟨rfl, rfl⟩ := hl
        refine ⟨_, N, hNn, hNn, rfl, fun _ => rfl, ?_⟩
        have hrows : rows { w with heap := w.heap.push (.cells (us.toArray ++ vs.toArray ++ Builtin.zeroCells z.cells (N - (m + n))) e), drawn := d } w.heap.size = N * j.size := by
          rw [← hsz]; exact rows_here (by simp; exact ⟨rfl, rfl⟩)
        rw [hrows]; omega
    · have hn : n = 0 := by
        have : ¬ 0 < n := by simpa [ops0] using hn
        omega
      subst hn
      refine ⟨_, _, _, _, hq, .quiet fun ρ w a g hx hf hg => ?_⟩
      obtain ⟨B, X, hve, rfl, E1, E⟩ := main ρ w a g hx (by rw [← join_eq]; exact hf) hg
      obtain ⟨vs, hvl, hvr, hvli, hvo⟩ := drawn_elems E
      have hvs : vs = [] := List.eq_nil_of_length_eq_zero (by omega)
      subst hvs
      refine ⟨.slice (some ⟨B, X, none⟩) m m, ?_, by rw [← hve]; exact hx.two.1⟩
      rw [hex, hve, run_append_in T (w := w) (ao := some ⟨B, X, none⟩) (len := m) (cap := m) (n := 0) (vs := []) (E w.drawn).lenOf (hvr w.drawn) (Nat.le_refl _)]
      simp [storeCells]
  rcases avs with _ | ⟨xa, _ | ⟨ya, _ | ⟨_, _⟩⟩⟩
  · exact (good.fail h).elim
  · cases xa with
    | ros cells off len cap exact => cases len <;> cases cap <;> cases exact <;> exact (good.fail h).elim
    | _ => exact (good.fail h).elim
  · cases xa with
    | nils => exact bare (fun ρ w v hv => ⟨none, inv_nils hv⟩) h
    | ros cells off len cap exact =>
      cases len with
      | succ len =>
        cases cap with
        | zero => cases exact <;> exact (good.fail h).elim
        | succ cap =>
          cases exact with
          | false => exact (good.fail h).elim
          | true =>
            simp only [ex, xApp] at h
            split at h
            case h_2 => exact (good.fail h).elim
            rename_i hb
            have hb := Nat.eq_of_beq_eq_true hb
            rw [hb] at h ⊢
            exact lit (Nat.succ_pos _) h
      | zero =>
        cases cap with
        | succ _ => cases exact <;> exact (good.fail h).elim
        | zero =>
          cases exact with
          | false => exact (good.fail h).elim
          | true =>
            refine bare (fun ρ w v hv => ?_) h
            cases hv with
            | ros _ _ _ _ _ B F ao cap' vs hlt hp hl ho' hc hr hcap hlen he ha =>
              have := he rfl
              subst this
              exact ⟨ao, rfl⟩
    | slc b of len cap sz' =>
      simp only [ex, xApp] at h
      split at h
      case h_2 => exact (good.fail h).elim
      rename_i hsz
      have hsz := Nat.eq_of_beq_eq_true hsz
      subst hsz
      obtain ⟨bs, hb, h⟩ := blkK_sound good h
      obtain ⟨hle, h⟩ := good.chk _ _ h
      have hle : of + len * j.size ≤ bs.length := by simpa [ops0] using hle
      obtain ⟨cs, n, ft, h, hel⟩ := elemsK_sound good h
      obtain ⟨hroom, h⟩ := good.chk _ _ h
      rw [size_eq, join_eq, put_eq] at h
      have hbl := (List.getElem?_eq_some_iff.1 hb).1
      refine ⟨_, _, _, _, h, ⟨by simp, (fun i hi => by simp at hi; subst hi; exact hbl), fun i hi hn => ?_, ?_⟩⟩
      · simp at hn
        rw [List.getElem?_append_left (by simpa using hi), List.getElem?_set_ne (fun h => hn h.symm)]
      intro ρ w a g hx hf _ hn hg
      have hgb : g b = some (.cells bs) := (hf b (by simp)).trans hb
      have hft : agree g H ft := fun i hi => hf i (by simp [hi])
      have hN : g H.length = none := hn _ (Nat.le_refl _) (by simp)
      have hbN : b ≠ H.length := by omega
      have E : ∀ d, Elems P ρ { w with drawn := d } j.size (a.eval y) cs n := fun d => hel P ρ _ g _ (ext_bound (drew_ext ρ w d) hx.two.2) hft (hg.drew d)
      have S : ∀ d, Elems P ρ { w with drawn := d } j.size (a.eval x) ((bs.drop of).take (len * j.size)) len := fun d => slc_elems (hg.drew d) hgb (ext_bound (drew_ext ρ w d) hx.two.1) hle
      obtain ⟨vs, hvl, hvr, hvli, hvo⟩ := drawn_elems E
      obtain ⟨us, hul, hur, huli, huo⟩ := drawn_elems S
      have hcl := (E w.drawn).len
      have hsl := (S w.drawn).len
      have hxv := hx.two.1
      generalize hve : a.eval x = ve at hxv hur
      show OpDo P o a w (fun v w' => ∃ ρ', HRel ρ' w' (upd g (H.set b .dead ++ [Blk.cells ((bs.drop of).take (len * j.size) ++ cs)]) ([b] ++ news H.length (H.set b .dead ++ [Blk.cells ((bs.drop of).take (len * j.size) ++ cs)]).length)) ∧
        VRel ρ' w' (.slc H.length 0 (len + n) (len + n) j.size) v ∧ ∀ n, Ext n ρ w ρ' w')
      rw [upd_two hbl]
      cases hxv with
      | slc _ _ _ _ _ _ h0 hs hvo2 hh =>
        obtain ⟨ao, cap', rfl, g1, g2, g3⟩ := hs
        by_cases hcap : len + n ≤ cap'
        · -- there is room
          have hrun0 := run_append_in (ty := o.type) (cs := #[x, y].map fun | .const _ => true | _ => false) T (w := w) (ao := ao) (E w.drawn).lenOf (hvr w.drawn) hcap
          by_cases hc0 : cap' = 0
          · subst hc0
            have hl0 : len = 0 := by omega
            have hn0 : n = 0 := by omega
            subst hl0; subst hn0
            have hcs : cs = [] := List.eq_nil_of_length_eq_zero (by omega)
            have hvs : vs = [] := List.eq_nil_of_length_eq_zero (by omega)
            subst hcs; subst hvs
            have hrun : (execOp a.eval o).run P w = .ok (.value (.slice ao 0 0)) w := by
              rw [hex, hve, hrun0]
              cases ao <;> simp [storeCells]
            obtain ⟨R1, E1⟩ := hg.kill hgb
            obtain ⟨R2, E2⟩ := R1.nothing (N := H.length) (by simp only [one, if_neg hbN.symm]; exact hN)
            refine OpDo.value hrun ⟨_, ?_, ?_, fun m => (E1 m).trans (E2 m)⟩
            · simpa using R2
            · exact .slc _ _ _ _ _ _ (by simp [rho1]) ⟨ao, 0, rfl, Nat.le_refl _, Nat.le_refl _, by simp⟩ (fun _ => ⟨ao, rfl, rfl, rfl⟩) (by simp [rho1])
          · rcases hg.live b bs hgb with ⟨hvd, _⟩ | ⟨B, F, c, e', lo, hi, hl, hc, hsz, hfz, hli⟩
            · obtain ⟨ao', q1, _, _⟩ := hvo2 hvd
              cases q1; exact absurd rfl hc0
            · obtain ⟨ao', cap2, q1, q2, q3, q4, q5⟩ := hh B F hl
              cases q3
              have := q4 hc0
              subst this
              rw [rows_here hc] at q5
              have hmul : (len + n) * j.size ≤ cap' * j.size := Nat.mul_le_mul_right _ hcap
              have hmul2 : (len + n) * j.size = len * j.size + n * j.size := Nat.add_mul _ _ _
              obtain ⟨w', hrs, hw⟩ := run_storeCells' (P := P) (X := F + of + len * j.size) vs 0 c w hc (by omega) (fun i h1 h2 => hfz i (by omega) h2) hvo
              have hrun : (execOp a.eval o).run P w = .ok (.value (.slice (some ⟨B, F + of, none⟩) (len + n) cap')) w' := by
                rw [hex, hve, hrun0]
                simp only [add_at, hrs, Result.andThen_ok]
              have hcs : (spliceL c.toList (F + of + len * j.size + 0) vs).toArray.size = c.size := by
                have := splice_length c.toList (F + of + len * j.size + 0) vs (by simp; omega)
                simpa using this
              have hlies : Lies ρ w ((bs.drop of).take (len * j.size) ++ cs) (F + of) (spliceL c.toList (F + of + len * j.size + 0) vs).toArray := by
                intro i b' hi
                have hg2 := splice_get c.toList (F + of + len * j.size + 0) vs (by simp; omega) (F + of + i)
                simp only [List.getElem?_toArray]
                rw [hg2]
                by_cases hil : i < len * j.size
                · rw [List.getElem?_append_left (by omega)] at hi
                  rw [if_pos (by omega)]
                  obtain ⟨v, p, q, r⟩ := (Lies.sub (show Lies ρ w bs F c from hli) of (len * j.size)) i b' hi
                  exact ⟨v, by simpa using p, q, r⟩
                · rw [List.getElem?_append_right (by omega), hsl] at hi
                  have hin : i - len * j.size < cs.length := (List.getElem?_eq_some_iff.1 hi).1
                  rw [if_neg (by omega), if_pos (by omega)]
                  obtain ⟨v, p, q, r⟩ := hvli _ b' hi
                  refine ⟨v, ?_, q, r⟩
                  rw [show F + of + i - (F + of + len * j.size + 0) = 0 + (i - len * j.size) by omega]
                  simpa using p
              obtain ⟨R2, E2⟩ := hg.move (X := F + of) hgb hN hl hc (fun i h1 h2 => hfz i (by omega) h2) hw hcs (by simp only [List.length_append]; omega) hlies
              refine OpDo.value hrun ⟨_, R2, ?_, E2⟩
              refine .slc _ _ _ _ _ _ (by simp [rho1]) ⟨_, cap', rfl, hcap, hcap, fun _ => ⟨_, _, rfl⟩⟩ (by simp [rho1]) ?_
              intro B2 F2 hl2
              simp [rho1] at hl2
              obtain ⟨rfl, rfl⟩ := hl2
              refine ⟨_, cap', hcap, hcap, rfl, fun _ => rfl, ?_⟩
              rw [rows_here hw.here, hcs]
              omega
        · -- it grows
          obtain ⟨N, d, hNn, hrun⟩ := run_append_new (ty := o.type) (cs := #[x, y].map fun | .const _ => true | _ => false) T (ao := ao) (len := len) (cap := cap') (E w.drawn).lenOf hvr hur hcap hroom
          have hsz : (us.toArray ++ vs.toArray ++ Builtin.zeroCells z.cells (N - (len + n))).size = N * j.size := by
            simp only [List.append_toArray, Array.size_append, List.size_toArray, List.length_append, zeros_size, T.zs, hvl, hul]
            rw [← Nat.add_mul, ← Nat.add_mul]; congr 1; omega
          obtain ⟨R1, E1⟩ := hg.kill hgb
          have hc : Lies (rho1 ρ b .dead) w ((bs.drop of).take (len * j.size) ++ cs) 0 (us.toArray ++ vs.toArray ++ Builtin.zeroCells z.cells (N - (len + n))) := lies_bound E1 (lies_append (by omega) huli hvli)
          have hN1 : one g b .dead H.length = none := by simp only [one, if_neg hbN.symm]; exact hN
          have R := (R1.alloc hN1 (e := e) (by rw [hsz, List.length_append, hsl, hcl, ← Nat.add_mul]; exact Nat.mul_le_mul_right _ hNn) hc).drew d
          have E2 : ∀ n', Ext n' (rho1 ρ b .dead) w (rho1 (rho1 ρ b .dead) H.length (.live w.heap.size 0)) { w with heap := w.heap.push (.cells (us.toArray ++ vs.toArray ++ Builtin.zeroCells z.cells (N - (len + n))) e) } :=
            alloc_ext R1 hN1 _ _ (by intro B F h; cases h; rfl)
          refine OpDo.value (by rw [hex, hve]; exact hrun) ⟨_, R, ?_, fun n' => ((E1 n').trans (E2 n')).trans (drew_ext _ _ d n')⟩
          refine .slc _ _ _ _ _ _ (by simp [rho1]) ⟨_, N, rfl, hNn, hNn, fun _ => ⟨_, _, rfl⟩⟩ (by simp [rho1]) ?_
          intro B F hl
          simp [rho1] at hl
          obtain ⟨rfl, rfl⟩ := hl
          refine ⟨_, N, hNn, hNn, rfl, fun _ => rfl, ?_⟩
          have hrows : rows { w with heap := w.heap.push (.cells (us.toArray ++ vs.toArray ++ Builtin.zeroCells z.cells (N - (len + n))) e), drawn := d } w.heap.size = N * j.size := by
            rw [← hsz]; exact rows_here (by simp; exact ⟨rfl, rfl⟩)
          rw [hrows]; omega
    | _ => exact (good.fail h).elim
  · cases xa with
    | ros cells off len cap exact => cases len <;> cases cap <;> cases exact <;> exact (good.fail h).elim
    | _ => exact (good.fail h).elim

omit good in
theorem run_copy {t u e : TypeId} {j : TypeInfo} (ht : P.underlying t = some (.slice e)) (hj : P.info? e = some j) {ty : TypeId} {cs : Array Bool} {w : World} {ao : Option Addr} {len cap n : Nat} {x : Value} {vs : List Value}
    (hn : (Builtin.lenOf x).run P w = .ok n w) (hf : (Builtin.firstCells j.size (Nat.min n len) x).run P w = .ok vs.toArray w) :
    (builtin .copy #[t, u] ty cs #[.slice ao len cap, x]).run P w =
      (match ao with | some a => (storeCells a vs).run P w | none => .ok () w).andThen fun _ w' => .ok (.value (.int .i64 ((Nat.min n len : Nat) : Int))) w' := by
  simp only [builtin, Builtin.copy_, List.getElem?_toArray, List.getElem?_cons_zero, List.getElem?_cons_succ, Sem.run_bind, run_underlying ht, Result.andThen_ok, run_size hj, Sem.run_pure, hn, hf]
  cases ao with
  | none => simp [goInt]
  | some a => simp only [Sem.run_bind, Sem.run_pure, goInt]; cases (storeCells a vs).run P w <;> rfl

theorem s_cpy {x y : Operand} {t u e : TypeId} {j : TypeInfo} (ho : o.op = .call { callee := .builtin .copy, args := #[x, y], argTypes := #[t, u] }) (ht : P.underlying t = some (.slice e)) (hj : P.info? e = some j)
    (h : holds (ex A ops0 cf H (.cpy j.size) avs k)) : Does P o [x, y] avs H fun r H' t f => holds (k r H' t f) := by
  have hex : ∀ (a : Act) (w : World), (execOp a.eval o).run P w = (builtin .copy #[t, u] o.type (#[x, y].map fun | .const _ => true | _ => false) #[a.eval x, a.eval y]).run P w := by
    intro a w
    rw [run_builtin ho]
    simp
    rfl
  rcases avs with _ | ⟨xa, _ | ⟨ya, _ | ⟨_, _⟩⟩⟩
  · exact (good.fail h).elim
  · cases xa <;> exact (good.fail h).elim
  · cases xa with
    | slc b of len cap sz' =>
      simp only [ex, xCpy] at h
      split at h
      case h_2 => exact (good.fail h).elim
      rename_i hsz
      have hsz := Nat.eq_of_beq_eq_true hsz
      subst hsz
      obtain ⟨bs, hb, h⟩ := blkK_sound good h
      obtain ⟨hle, h⟩ := good.chk _ _ h
      have hle : of + len * j.size ≤ bs.length := by simpa [ops0] using hle
      obtain ⟨cs, n, ft, h, hel⟩ := elemsK_sound good h
      have hmin : ops0.min n len = Nat.min n len := by simp only [ops0]; rfl
      have hspl : ∀ (m : Nat), m ≤ n → m ≤ len → cs.length = n * j.size → (spliceL bs of (cs.take (m * j.size))).length = bs.length := by
        intro m h1 h2 h3
        have : m * j.size ≤ n * j.size := Nat.mul_le_mul_right _ h1
        have : m * j.size ≤ len * j.size := Nat.mul_le_mul_right _ h2
        exact splice_length _ _ _ (by simp; omega)
      rw [put_eq, hmin] at h
      have hbl := (List.getElem?_eq_some_iff.1 hb).1
      refine ⟨_, _, _, _, h, ⟨by simp, (fun i hi => by simp at hi; subst hi; exact hbl), fun i hi hn => ?_, ?_⟩⟩
      · simp at hn
        rw [List.getElem?_set_ne (fun h => hn h.symm)]
      intro ρ w a g hx hf _ _ hg
      have hgb : g b = some (.cells bs) := (hf b (by simp)).trans hb
      have hft : agree g H ft := fun i hi => hf i (by simp [hi])
      have E := hel P ρ w g _ hx.two.2 hft hg
      have hm1 : Nat.min n len ≤ n := Nat.min_le_left _ _
      have hm2 : Nat.min n len ≤ len := Nat.min_le_right _ _
      obtain ⟨vs, hvl, hvr, hvli, hvo⟩ := E.first (Nat.min n len) hm1
      have hcl := E.len
      have hml : Nat.min n len * j.size ≤ len * j.size := Nat.mul_le_mul_right _ hm2
      have hmn : Nat.min n len * j.size ≤ n * j.size := Nat.mul_le_mul_right _ hm1
      rw [show ops0.spl bs of (ops0.ext cs 0 (ops0.mul (Nat.min n len) j.size)) = spliceL bs of (cs.take (Nat.min n len * j.size)) from rfl, upd_self hbl]
      have hxv := hx.two.1
      generalize hve : a.eval x = ve at hxv
      cases hxv with
      | slc _ _ _ _ _ _ h0 hs hvo2 hh =>
        obtain ⟨ao, cap', rfl, g1, g2, g3⟩ := hs
        have hrun0 := run_copy (ty := o.type) (cs := #[x, y].map fun | .const _ => true | _ => false) (u := u) ht hj (w := w) (ao := ao) (len := len) (cap := cap') E.lenOf hvr
        rcases hg.live b bs hgb with ⟨hvd, hbs⟩ | ⟨B, F, c, e', lo, hi, hl, hc, hsz, hfz, hli⟩
        · obtain ⟨ao', q1, q2, q3⟩ := hvo2 hvd
          cases q1
          subst hbs
          have hvs : vs = [] := List.eq_nil_of_length_eq_zero (by rw [hvl]; omega)
          subst hvs
          have hrun : (execOp a.eval o).run P w = .ok (.value (.int .i64 ((Nat.min n 0 : Nat) : Int))) w := by
            rw [hex, hve, hrun0]
            cases ao <;> simp [storeCells]
          refine OpDo.value hrun ⟨ρ, ?_, .int _ _, fun n => Ext.refl n ρ w⟩
          have e1 : spliceL ([] : List AV) of (cs.take (Nat.min n 0 * j.size)) = [] := by
            have : Nat.min n 0 = 0 := Nat.min_zero n
            simp [spliceL, this]
          rw [e1]
          have e2 : one g b (.cells []) = g := by
            funext i
            unfold one
            split
            · rename_i h; subst h; exact hgb.symm
            · rfl
          rw [e2]
          exact hg
        · obtain ⟨ao', cap2, q1, q2, q3, q4, q5⟩ := hh B F hl
          cases q3
          by_cases hc0 : cap' = 0
          · -- an empty destination
            subst hc0
            have hl0 : len = 0 := by omega
            subst hl0
            have hvs : vs = [] := List.eq_nil_of_length_eq_zero (by rw [hvl]; omega)
            subst hvs
            have hrun : (execOp a.eval o).run P w = .ok (.value (.int .i64 ((Nat.min n 0 : Nat) : Int))) w := by
              rw [hex, hve, hrun0]
              cases ao <;> simp [storeCells]
            refine OpDo.value hrun ⟨ρ, ?_, .int _ _, fun n => Ext.refl n ρ w⟩
            have e1 : spliceL bs of (cs.take (Nat.min n 0 * j.size)) = bs := by
              have : Nat.min n 0 = 0 := Nat.min_zero n
              simp [spliceL, this]
            rw [e1]
            have e2 : one g b (.cells bs) = g := by
              funext i
              unfold one
              split
              · rename_i h; subst h; exact hgb.symm
              · rfl
            rw [e2]
            exact hg
          · have := q4 hc0
            subst this
            obtain ⟨w', hrs, hw⟩ := run_storeCells' (P := P) (X := F + of) vs 0 c w hc (by omega) (fun i h1 h2 => hfz i (by omega) h2) hvo
            have hrun : (execOp a.eval o).run P w = .ok (.value (.int .i64 ((Nat.min n len : Nat) : Int))) w' := by
              rw [hex, hve, hrun0]
              simp only [hrs, Result.andThen_ok]
            have hcs : (spliceL c.toList (F + of + 0) vs).toArray.size = c.size := by
              have := splice_length c.toList (F + of + 0) vs (by simp; omega)
              simpa using this
            have htl : (cs.take (Nat.min n len * j.size)).length = Nat.min n len * j.size := by rw [List.length_take]; omega
            have hlies : Lies ρ w (spliceL bs of (cs.take (Nat.min n len * j.size))) F (spliceL c.toList (F + of + 0) vs).toArray := by
              intro i b' hi
              have hg1 := splice_get bs of (cs.take (Nat.min n len * j.size)) (by omega) i
              have hg2 := splice_get c.toList (F + of + 0) vs (by simp; omega) (F + i)
              rw [hg1] at hi
              simp only [List.getElem?_toArray]
              rw [hg2]
              by_cases h1 : i < of
              · rw [if_pos h1] at hi
                rw [if_pos (by omega)]
                obtain ⟨v, p, q, r⟩ := hli i b' hi
                exact ⟨v, by simpa using p, q, r⟩
              · rw [if_neg h1] at hi
                rw [if_neg (by omega)]
                by_cases h2 : i < of + (cs.take (Nat.min n len * j.size)).length
                · rw [if_pos h2] at hi
                  rw [if_pos (by omega)]
                  obtain ⟨v, p, q, r⟩ := hvli _ b' hi
                  refine ⟨v, ?_, q, r⟩
                  rw [show F + i - (F + of + 0) = 0 + (i - of) by omega]
                  simpa using p
                · rw [if_neg h2] at hi
                  rw [if_neg (by omega)]
                  obtain ⟨v, p, q, r⟩ := hli i b' hi
                  exact ⟨v, by simpa using p, q, r⟩
            have R := hg.wrote hgb hl hc hfz hw hcs (by rw [hspl _ hm1 hm2 hcl]; exact hsz) hlies
            exact OpDo.value hrun ⟨ρ, R, .int _ _, fun m => hw.ext hl hc hcs m⟩
    | _ => exact (good.fail h).elim
  · cases xa <;> exact (good.fail h).elim
end

end Go.Vm

namespace Go.Vm

/-- What an operation comes to, a call or none. (Of a call: nothing else may lie in the memory.) -/
structure StepX (P : Program) (o : Oper) (call : Bool) (xs : List Operand) (avs : List AV) (H : Hl) (r : AV) (H' : Hl) (tch ft : List Nat) : Prop where
  grow : H.length ≤ H'.length
  old : ∀ b, b ∈ tch → b < H.length
  keep : ∀ b, b < H.length → b ∉ tch → H'[b]? = H[b]?
  does : ∀ (ρ : Rho) (w : World) (a : Act) (g : Hp), VRels ρ w avs (xs.map a.eval) → agree g H ft → agree g H tch →
    (∀ b, H.length ≤ b → (call = true ∨ b < H'.length) → g b = none) → HRel ρ w g →
    OpDo P o a w (fun v w' => ∃ ρ', HRel ρ' w' (upd g H' (tch ++ news H.length H'.length)) ∧ VRel ρ' w' r v ∧ ∀ n, Ext n ρ w ρ' w')

theorem StepOK.x {P : Program} {o : Oper} {c : Bool} {xs : List Operand} {avs : List AV} {H : Hl} {r : AV} {H' : Hl} {tch ft : List Nat} (h : StepOK P o xs avs H r H' tch ft) : StepX P o c xs avs H r H' tch ft :=
  ⟨h.grow, h.old, h.keep, fun ρ w a g h1 h2 h3 h4 h5 => h.does ρ w a g h1 h2 h3 (fun b hb hb' => h4 b hb (.inr hb')) h5⟩

def allT : List Bool → Bool
  | [] => true
  | b :: bs => match b with
    | true => allT bs
    | false => false
theorem allT_iff {l : List Bool} : allT l = true ↔ ∀ b, b ∈ l → b = true := by
  induction l with
  | nil => simp [allT]
  | cons x xs ih =>
    cases x with
    | true => simp [allT, ih]
    | false => simp [allT]

/-- And what it comes to where other blocks may lie in the memory, if all these hold. -/
def DoesX (P : Program) (o : Oper) (c : Bool) (xs : List Operand) (avs : List AV) (H : Hl) (Q : AV → Hl → List Nat → List Nat → Prop) : Prop :=
  ∃ r H' tch ft, Q r H' tch ft ∧ StepX P o c xs avs H r H' tch ft ∧ (allT (scL avs H r H') = true → StepX P o false xs avs H r H' tch ft)

theorem Does.x {P : Program} {o : Oper} {c : Bool} {xs : List Operand} {avs : List AV} {H : Hl} {Q : AV → Hl → List Nat → List Nat → Prop} (h : Does P o xs avs H Q) : DoesX P o c xs avs H Q :=
  let ⟨r, H', t, f, q, s⟩ := h; ⟨r, H', t, f, q, s.x, fun _ => s.x⟩

/-- The word for calls is good. -/
def CallOK {R : Type} (P : Program) (holds : R → Prop) (cf : CallF R) : Prop :=
  ∀ f vals H k, holds (cf f vals H k) → ∃ r H' lg, CallTo P f vals H r H' lg ∧ holds (k r H' lg)

theorem Ext.born {m : Nat} {ρ ρ' : Rho} {w w' : World} (h : Ext m ρ w ρ' w') (hb : ∀ b, m ≤ b → ρ b = .unborn) (n : Nat) : Ext n ρ w ρ' w' :=
  ⟨h.size, h.os, h.tape, h.output, h.keep, fun b _ hn => h.slot b (by
    rcases Nat.lt_or_ge b m with h' | h'
    · exact h'
    · exact absurd (hb b h') hn) hn, h.fresh, h.rows⟩

/-- A call. -/
theorem call_step {P : Program} {o : Oper} {xs : List Operand} {avs vals : List AV} {H H' : Hl} {f : Nat} {r : AV} {lg : List Nat} (hc : CallTo P f vals H r H' lg)
    (he : ∀ (ρ : Rho) (w : World) (a : Act), VRels ρ w avs (xs.map a.eval) → ∃ us : List Value, VRels ρ w vals us ∧ (execOp a.eval o).run P w = (callFunc f us.toArray).run P w) :
    StepX P o true xs avs H r H' (under (size H) lg) (upto (size H)) where
  grow := hc.grow
  old b hb := by rw [mem_under, size_eq] at hb; exact hb.2
  keep b hb hn := by
    rw [mem_under, size_eq] at hn
    exact hc.keep b hb fun h => hn ⟨h, hb⟩
  does ρ w a g hx hf _ hn hg := by
    have e : g = fun b => H[b]? := by
      funext b
      rcases Nat.lt_or_ge b H.length with h | h
      · exact hf b (by rw [mem_upto, size_eq]; exact h)
      · rw [hn b h (.inl rfl), List.getElem?_eq_none h]
    subst e
    obtain ⟨us, hus, hrun⟩ := he ρ w a hx
    intro next Q hnext
    unfold Oper.wp
    rw [hrun, hc.real, Oper.upon_enter]
    refine Calls.mono (hc.does ρ w us hg hus) ?_
    rintro e w' ⟨v, ρ', rfl, h1, h2, h3⟩
    refine hnext v w' ⟨ρ', ?_, h2, h3.born (fun b hb => hg.unborn b (List.getElem?_eq_none hb))⟩
    have : upd (fun b => H[b]?) H' (under (size H) lg ++ news H.length H'.length) = fun b => H'[b]? := by
      funext b
      unfold upd
      split
      · rfl
      · rename_i hb
        rw [List.mem_append, mem_under, mem_news, size_eq] at hb
        rcases Nat.lt_or_ge b H.length with h | h
        · exact (hc.keep b h fun hl => hb (.inl ⟨hl, h⟩)).symm
        · have h2 : H'.length ≤ b := by
            rcases Nat.lt_or_ge b H'.length with h' | h'
            · exact absurd (.inr ⟨h, h'⟩) hb
            · exact h'
          show H[b]? = H'[b]?
          rw [List.getElem?_eq_none h, List.getElem?_eq_none h2]
    rw [this]
    exact h1

/-! ### A call, where other blocks lie in the memory -/
theorem nmL_mem {n : Nat} {cs : List AV} (h : nmL n cs = true) : ∀ a, a ∈ cs → nm n a = true := by
  induction cs with
  | nil => intro a ha; cases ha
  | cons x xs ih =>
    unfold nmL at h
    split at h
    · rename_i hx
      intro a ha
      rcases List.mem_cons.1 ha with rfl | ha
      · exact hx
      · exact ih h a ha
    · cases h
theorem nmL_get {n : Nat} {cs : List AV} (h : nmL n cs = true) {i : Nat} {a : AV} (ha : cs[i]? = some a) : nm n a = true := nmL_mem h a (List.mem_of_getElem? ha)
theorem ownL_mem {cs : List AV} (h : ownL cs = true) : ∀ a, a ∈ cs → own a = true := by
  induction cs with
  | nil => intro a ha; cases ha
  | cons x xs ih =>
    unfold ownL at h
    split at h
    · rename_i hx
      intro a ha
      rcases List.mem_cons.1 ha with rfl | ha
      · exact hx
      · exact ih h a ha
    · cases h
theorem ownL_get {cs : List AV} (h : ownL cs = true) {i : Nat} {a : AV} (ha : cs[i]? = some a) : own a = true := ownL_mem h a (List.mem_of_getElem? ha)

/-- Blocks from n on are not known. -/
def lowR (n : Nat) (ρ : Rho) : Rho := fun b => if b < n then ρ b else .unborn
theorem lowR_lt {n b : Nat} {ρ : Rho} (h : b < n) : lowR n ρ b = ρ b := if_pos h
theorem lowR_ge {n b : Nat} {ρ : Rho} (h : n ≤ b) : lowR n ρ b = .unborn := if_neg (by omega)
theorem lowR_live {n b B F : Nat} {ρ : Rho} (h : lowR n ρ b = .live B F) : b < n ∧ ρ b = .live B F := by
  rcases Nat.lt_or_ge b n with h' | h'
  · rw [lowR_lt h'] at h; exact ⟨h', h⟩
  · rw [lowR_ge h'] at h; cases h

theorem VRel.low {n : Nat} {ρ : Rho} {w : World} {a : AV} {v : Value} (h : VRel ρ w a v) (hn : nm n a = true) : VRel (lowR n ρ) w a v := by
  induction h with
  | top v => exact .top v
  | bool b => exact .bool b
  | int k n => exact .int k n
  | flt k n => exact .flt k n
  | str s => exact .str s
  | nilp => exact .nilp
  | ptr b o v h0 h1 hs h =>
    have hb : b < n := (blt_iff _ _).1 (by simpa only [nm] using hn)
    refine .ptr b o v ?_ ?_ hs ?_ <;> rw [lowR_lt hb]
    · exact h0
    · exact h1
    · exact h
  | nils => exact .nils
  | slc b o len cap sz v h0 hs hv h =>
    have hb : b < n := (blt_iff _ _).1 (by simpa only [nm] using hn)
    refine .slc b o len cap sz v ?_ hs ?_ ?_ <;> rw [lowR_lt hb]
    · exact h0
    · exact hv
    · exact h
  | ros cells off len cap exact_ B F ao cap' vs hlt hp hl ho hc hr hcap hlen he ha ih =>
    have hn : nmL n cells = true := by simpa only [nm] using hn
    exact .ros cells off len cap exact_ B F ao cap' vs hlt (fun h b F' hl => hp h b F' (lowR_live hl).2) hl ho hc (fun i a v ha hv => ih i a v ha hv (nmL_get hn ha)) hcap hlen he ha
  | rop cells off B F vs hlt hp hl ho hc hr ih =>
    have hn : nmL n cells = true := by simpa only [nm] using hn
    exact .rop cells off B F vs hlt (fun h b F' hl => hp h b F' (lowR_live hl).2) hl ho hc (fun i a v ha hv => ih i a v ha hv (nmL_get hn ha))
  | agg cs vs hl ho hr ih =>
    have hn : nmL n cs = true := by simpa only [nm] using hn
    exact .agg cs vs hl ho (fun i a v ha hv => ih i a v ha hv (nmL_get hn ha))
  | tup cs vs hl hr ih =>
    have hn : nmL n cs = true := by simpa only [nm] using hn
    exact .tup cs vs hl (fun i a v ha hv => ih i a v ha hv (nmL_get hn ha))
  | fn f xs ys us vs hl hl' hr hr' ih ih' =>
    have hn : nmL n xs = true ∧ nmL n ys = true := by
      simp only [nm] at hn
      split at hn
      · rename_i h1; exact ⟨h1, hn⟩
      · cases hn
    exact .fn f xs ys us vs hl hl' (fun i a v ha hv => ih i a v ha hv (nmL_get hn.1 ha)) (fun i a v ha hv => ih' i a v ha hv (nmL_get hn.2 ha))
  | nilf => exact .nilf
  | ifc t a v h ih => exact .ifc t a v (ih (by simpa only [nm] using hn))
  | nili => exact .nili

theorem VRel.wide {ρ ρ' : Rho} {w : World} (hρ : ∀ b, ρ b ≠ .unborn → ρ' b = ρ b) {a : AV} {v : Value} (h : VRel ρ w a v) (hn : own a = true) : VRel ρ' w a v := by
  induction h with
  | top v => exact .top v
  | bool b => exact .bool b
  | int k n => exact .int k n
  | flt k n => exact .flt k n
  | str s => exact .str s
  | nilp => exact .nilp
  | ptr b o v h0 h1 hs h =>
    refine .ptr b o v ?_ ?_ hs ?_ <;> rw [hρ b h0]
    · exact h0
    · exact h1
    · exact h
  | nils => exact .nils
  | slc b o len cap sz v h0 hs hv h =>
    refine .slc b o len cap sz v ?_ hs ?_ ?_ <;> rw [hρ b h0]
    · exact h0
    · exact hv
    · exact h
  | ros cells off len cap exact_ B F ao cap' vs hlt hp hl ho hc hr hcap hlen he ha ih =>
    cases cells with
    | nil => exact .ros [] off len cap exact_ B F ao cap' vs (fun h => absurd rfl h) (fun h => absurd rfl h) hl ho hc (fun i a v ha _ => by simp at ha) hcap hlen he ha
    | cons x xs => simp [own] at hn
  | rop cells off B F vs hlt hp hl ho hc hr ih =>
    cases cells with
    | nil => exact .rop [] off B F vs (fun h => absurd rfl h) (fun h => absurd rfl h) hl ho hc (fun i a v ha _ => by simp at ha)
    | cons x xs => simp [own] at hn
  | agg cs vs hl ho hr ih =>
    have hn : ownL cs = true := by simpa only [own] using hn
    exact .agg cs vs hl ho (fun i a v ha hv => ih i a v ha hv (ownL_get hn ha))
  | tup cs vs hl hr ih =>
    have hn : ownL cs = true := by simpa only [own] using hn
    exact .tup cs vs hl (fun i a v ha hv => ih i a v ha hv (ownL_get hn ha))
  | fn f xs ys us vs hl hl' hr hr' ih ih' =>
    have hn : ownL xs = true ∧ ownL ys = true := by
      simp only [own] at hn
      split at hn
      · rename_i h1; exact ⟨h1, hn⟩
      · cases hn
    exact .fn f xs ys us vs hl hl' (fun i a v ha hv => ih i a v ha hv (ownL_get hn.1 ha)) (fun i a v ha hv => ih' i a v ha hv (ownL_get hn.2 ha))
  | nilf => exact .nilf
  | ifc t a v h ih => exact .ifc t a v (ih (by simpa only [own] using hn))
  | nili => exact .nili

theorem scL_out {vals : List AV} {H : Hl} {r : AV} {H' : Hl} (h : allT (scL vals H r H') = true) :
    own r = true ∧ (∀ a, a ∈ vals → nm H.length a = true) ∧ (∀ (b : Nat) cs, H[b]? = some (.cells cs) → nmL H.length cs = true) ∧ (∀ (b : Nat) cs, H'[b]? = some (.cells cs) → ownL cs = true) := by
  rw [allT_iff] at h
  simp only [scL, join_eq, size_eq, List.mem_cons, List.mem_append, List.mem_map] at h
  refine ⟨h _ (.inl rfl), fun a ha => h _ (.inr (.inl ⟨a, ha, rfl⟩)), fun b cs hb => ?_, fun b cs hc => ?_⟩
  · have := h _ (.inr (.inr (.inl ⟨_, List.mem_of_getElem? hb, rfl⟩)))
    exact this
  · have := h _ (.inr (.inr (.inr ⟨_, List.mem_of_getElem? hc, rfl⟩)))
    exact this

/-- A call where blocks may lie that the text makes behind it. -/
theorem call_loose {P : Program} {o : Oper} {xs : List Operand} {avs vals : List AV} {H H' : Hl} {f : Nat} {r : AV} {lg : List Nat} (hc : CallTo P f vals H r H' lg)
    (he : ∀ (ρ : Rho) (w : World) (a : Act), VRels ρ w avs (xs.map a.eval) → ∃ us : List Value, VRels ρ w vals us ∧ (execOp a.eval o).run P w = (callFunc f us.toArray).run P w)
    (hs : allT (scL avs H r H') = true) :
    StepX P o false xs avs H r H' (under (size H) lg) (upto (size H)) where
  grow := hc.grow
  old b hb := by rw [mem_under, size_eq] at hb; exact hb.2
  keep b hb hn := by
    rw [mem_under, size_eq] at hn
    exact hc.keep b hb fun h => hn ⟨h, hb⟩
  does ρ w a g hx hf _ hn hg := by
    obtain ⟨o1, o2, o3, o4⟩ := scL_out hs
    have hlow : ∀ b, b < H.length → g b = H[b]? := fun b h => hf b (by rw [mem_upto, size_eq]; exact h)
    have hmid : ∀ b, H.length ≤ b → b < H'.length → g b = none := fun b h h' => hn b h (.inr h')
    have hg1 : HRel (lowR H.length ρ) w (fun b => H[b]?) := by
      refine ⟨fun b hb => ?_, fun b hb => ?_, fun b b' B F F' h1 h2 => hg.inj b b' B F F' (lowR_live h1).2 (lowR_live h2).2, fun b cs hb => ?_, fun b B F c el lo hi h1 h2 => hg.marks b B F c el lo hi (lowR_live h1).2 h2⟩
      · exact lowR_ge (List.getElem?_eq_none_iff.1 hb)
      · have hlt : b < H.length := (List.getElem?_eq_some_iff.1 hb).1
        rw [lowR_lt hlt]
        exact hg.dead b ((hlow b hlt).trans hb)
      · have hlt : b < H.length := (List.getElem?_eq_some_iff.1 hb).1
        rw [lowR_lt hlt]
        rcases hg.live b cs ((hlow b hlt).trans hb) with h | ⟨B, F, c, el, lo, hi, h1, h2, h3, h4, h5⟩
        · exact .inl h
        · refine .inr ⟨B, F, c, el, lo, hi, h1, h2, h3, h4, fun i a ha => ?_⟩
          obtain ⟨v, k1, k2, k3⟩ := h5 i a ha
          exact ⟨v, k1, k2, k3.low (nmL_get (o3 b cs hb) ha)⟩
    have hx1 : VRels (lowR H.length ρ) w avs (xs.map a.eval) := ⟨hx.len, fun i x v hi hv => (hx.at_ i x v hi hv).low (o2 x (List.mem_of_getElem? hi))⟩
    obtain ⟨us, hus, hrun⟩ := he (lowR H.length ρ) w a hx1
    intro next Q hnext
    unfold Oper.wp
    rw [hrun, hc.real, Oper.upon_enter]
    refine Calls.mono (hc.does (lowR H.length ρ) w us hg1 hus) ?_
    rintro e w' ⟨v, ρ', rfl, h1, h2, h3⟩
    -- the names behind: the call's, and those that lie there besides
    have hρ : ∀ b, H'.length ≤ b → ρ' b = .unborn := fun b hb => h1.unborn b (List.getElem?_eq_none hb)
    have hge : ∀ b, H'.length ≤ b → H.length ≤ b := fun b hb => Nat.le_trans hc.grow hb
    obtain ⟨ρ2, hρ2⟩ : ∃ ρ2 : Rho, ρ2 = fun b => if b < H'.length then ρ' b else ρ b := ⟨_, rfl⟩
    have r_lt : ∀ b, b < H'.length → ρ2 b = ρ' b := fun b hb => by rw [hρ2]; exact if_pos hb
    have r_ge : ∀ b, H'.length ≤ b → ρ2 b = ρ b := fun b hb => by rw [hρ2]; exact if_neg (by omega)
    have hwide : ∀ b, ρ' b ≠ .unborn → ρ2 b = ρ' b := fun b hb => r_lt b (by
      rcases Nat.lt_or_ge b H'.length with h' | h'
      · exact h'
      · exact absurd (hρ b h') hb)
    have hext : ∀ n, Ext n ρ w ρ2 w' := by
      intro n
      refine ⟨h3.size, h3.os, h3.tape, h3.output, fun B hB hu => h3.keep B hB (fun b F hl => hu b F (lowR_live hl).2), fun b _ hb => ?_, fun b B F hl => ?_, h3.rows⟩
      · rcases Nat.lt_or_ge b H.length with h' | h'
        · rw [r_lt b (Nat.lt_of_lt_of_le h' hc.grow)]
          have := h3.slot b h' (by rw [lowR_lt h']; exact hb)
          rwa [lowR_lt h'] at this
        · rcases Nat.lt_or_ge b H'.length with h2' | h2'
          · exact absurd (hg.unborn b (hmid b h' h2')) hb
          · exact .inl (r_ge b h2')
      · rcases Nat.lt_or_ge b H'.length with h' | h'
        · rw [r_lt b h'] at hl
          rcases h3.fresh b B F hl with hf' | ⟨b', F', hl'⟩
          · exact .inl hf'
          · exact .inr ⟨b', F', (lowR_live hl').2⟩
        · rw [r_ge b h'] at hl
          exact .inr ⟨b, F, hl⟩
    -- a block that lies there besides is as it was
    have hbes : ∀ b B F, H'.length ≤ b → ρ b = .live B F → w'.heap[B]? = w.heap[B]? := by
      intro b B F hb hl
      refine h3.keep B (hg.lt hl) fun b' F' hl' => ?_
      obtain ⟨h4, h5⟩ := lowR_live hl'
      have := hg.inj b b' B F F' hl h5
      have := hge b hb
      omega
    have hupd : ∀ b, upd g H' (under (size H) lg ++ news H.length H'.length) b = if b < H'.length then H'[b]? else g b := by
      intro b
      unfold upd
      by_cases hb : b < H'.length
      · rw [if_pos hb]
        split
        · rfl
        · rename_i hnot
          rw [List.mem_append, mem_under, mem_news, size_eq] at hnot
          rcases Nat.lt_or_ge b H.length with h | h
          · rw [hlow b h]; exact (hc.keep b h fun hl => hnot (.inl ⟨hl, h⟩)).symm
          · exact absurd (.inr ⟨h, hb⟩) hnot
      · rw [if_neg hb, if_neg]
        rw [List.mem_append, mem_under, mem_news, size_eq]
        have := hge b (by omega)
        omega
    refine hnext v w' ⟨ρ2, ?_, h2.wide hwide o1, hext⟩
    refine ⟨fun b hb => ?_, fun b hb => ?_, fun b b' B F F' hl hl' => ?_, fun b cs hb => ?_, fun b B F c el lo hi hl hh => ?_⟩
    · rw [hupd] at hb
      split at hb
      · rename_i h'; rw [r_lt b h']; exact h1.unborn b hb
      · rename_i h'; rw [r_ge b (by omega)]; exact hg.unborn b hb
    · rw [hupd] at hb
      split at hb
      · rename_i h'; rw [r_lt b h']; exact h1.dead b hb
      · rename_i h'; rw [r_ge b (by omega)]; exact hg.dead b hb
    · have aux : ∀ b b' B F F', b < H'.length → H'.length ≤ b' → ρ' b = .live B F → ρ b' = .live B F' → b = b' := by
        intro b b' B F F' hb hb' hl hl'
        have hBlt := hg.lt hl'
        rcases h3.fresh b B F hl with hf' | ⟨b2, F2, hl2⟩
        · omega
        · obtain ⟨h4, h5⟩ := lowR_live hl2
          have := hg.inj b2 b' B F2 F' h5 hl'
          have := hge b' hb'
          omega
      rcases Nat.lt_or_ge b H'.length with hb | hb <;> rcases Nat.lt_or_ge b' H'.length with hb' | hb'
      · rw [r_lt b hb] at hl; rw [r_lt b' hb'] at hl'
        exact h1.inj b b' B F F' hl hl'
      · rw [r_lt b hb] at hl; rw [r_ge b' hb'] at hl'
        exact aux b b' B F F' hb hb' hl hl'
      · rw [r_ge b hb] at hl; rw [r_lt b' hb'] at hl'
        exact (aux b' b B F' F hb' hb hl' hl).symm
      · rw [r_ge b hb] at hl; rw [r_ge b' hb'] at hl'
        exact hg.inj b b' B F F' hl hl'
    · rw [hupd] at hb
      split at hb
      · rename_i h'
        rw [r_lt b h']
        rcases h1.live b cs hb with h | ⟨B, F, c, el, lo, hi, k1, k2, k3, k4, k5⟩
        · exact .inl h
        · refine .inr ⟨B, F, c, el, lo, hi, k1, k2, k3, k4, fun i x hx' => ?_⟩
          obtain ⟨u, q1, q2, q3⟩ := k5 i x hx'
          exact ⟨u, q1, q2, q3.wide hwide (ownL_get (o4 b cs hb) hx')⟩
      · rename_i h'
        rw [r_ge b (by omega)]
        rcases hg.live b cs hb with h | ⟨B, F, c, el, lo, hi, k1, k2, k3, k4, k5⟩
        · exact .inl h
        · refine .inr ⟨B, F, c, el, lo, hi, k1, by rw [hbes b B F (by omega) k1]; exact k2, k3, k4, fun i x hx' => ?_⟩
          obtain ⟨u, q1, q2, q3⟩ := k5 i x hx'
          exact ⟨u, q1, q2, ext_bound hext q3⟩
    · rcases Nat.lt_or_ge b H'.length with hb | hb
      · rw [r_lt b hb] at hl; exact h1.marks b B F c el lo hi hl hh
      · rw [r_ge b hb] at hl
        rw [hbes b B F hb hl] at hh
        exact hg.marks b B F c el lo hi hl hh

section
variable {R : Type} {A : Alg R} {holds : R → Prop} (good : A.Good holds) {P : Program} {o : Oper} {avs : List AV} {H : Hl} {cf : CallF R} {k : ExK R} (hcf : CallOK P holds cf)
include hcf

theorem s_call {f : Nat} {xs : Array Operand} {ts : Array TypeId} (ho : o.op = .call { callee := .value (.func f), args := xs, argTypes := ts })
    (h : holds (ex A ops0 cf H (.call f) avs k)) : DoesX P o true xs.toList avs H fun r H' t ft => holds (k r H' t ft) := by
  have h : holds (cf f avs H fun r H' lg => k r H' (under (size H) lg) (upto (size H))) := by
    rcases avs with _ | ⟨x, _⟩ <;> exact h
  obtain ⟨r, H', lg, hc, h⟩ := hcf _ _ _ _ h
  have he : ∀ (ρ : Rho) (w : World) (a : Act), VRels ρ w avs (xs.toList.map a.eval) → ∃ us : List Value, VRels ρ w avs us ∧ (execOp a.eval o).run P w = (callFunc f us.toArray).run P w := by
    intro ρ w a hx
    refine ⟨xs.toList.map a.eval, hx, ?_⟩
    have hfe : a.eval (.func f) = .func (.func f) #[] #[] := rfl
    unfold execOp
    rw [ho]
    simp only [resolve, hfe, Deferred.ofValue, Sem.run_bind, Sem.run_pure, Result.andThen_ok, invoke]
    congr 2
    simp only [Array.empty_append, Array.append_empty]
    rw [← Array.toList_map, Array.toArray_toList]
  exact ⟨_, _, _, _, h, call_step hc he, call_loose hc he⟩

include good
theorem s_callv {x : Operand} {xs : Array Operand} {ts : Array TypeId} (ho : o.op = .call { callee := .value x, args := xs, argTypes := ts })
    (h : holds (ex A ops0 cf H .callv avs k)) : DoesX P o true (x :: xs.toList) avs H fun r H' t ft => holds (k r H' t ft) := by
  rcases avs with _ | ⟨xa, ys⟩
  · exact (good.fail h).elim
  cases xa with
  | fn f us vs =>
    have h : holds (cf f (join us (join ys vs)) H fun r H' lg => k r H' (under (size H) lg) (upto (size H))) := h
    obtain ⟨r, H', lg, hc, h⟩ := hcf _ _ _ _ h
    have he : ∀ (ρ : Rho) (w : World) (a : Act), VRels ρ w (.fn f us vs :: ys) ((x :: xs.toList).map a.eval) → ∃ us' : List Value, VRels ρ w (join us (join ys vs)) us' ∧ (execOp a.eval o).run P w = (callFunc f us'.toArray).run P w := by
      intro ρ w a hx
      have h1 := hx.head
      have h2 := hx.tail
      generalize hv : a.eval x = v at h1
      cases h1 with
      | fn _ _ _ us' vs' hl hl' hr hr' =>
        refine ⟨us' ++ (xs.toList.map a.eval ++ vs'), ?_, ?_⟩
        · rw [join_eq, join_eq]
          exact VRels.append ⟨hl, hr⟩ (VRels.append h2 ⟨hl', hr'⟩)
        · unfold execOp
          rw [ho]
          simp only [resolve, hv, Deferred.ofValue, Sem.run_bind, Sem.run_pure, Result.andThen_ok, invoke]
          congr 2
          simp
    exact ⟨_, _, _, _, h, call_step hc he, call_loose hc he⟩
  | _ => exact (good.fail h).elim
end

end Go.Vm

namespace Go.Vm

def onesOf (k : IntKind) : Int := if k.signed then -1 else k.max

section
variable {R : Type} {A : Alg R} {holds : R → Prop} (good : A.Good holds) {P : Program} {o : Oper} {avs : List AV} {H : Hl} {cf : CallF R} {k : ExK R}
include good

theorem s_neg {t : TypeId} {x : Operand} {kd : IntKind} (ho : o.op = .unOp .neg t x) (h : holds (ex A ops0 cf H (.bin .sub kd) avs k)) :
    Does P o [.const (.int kd 0), x] avs H fun r H' t f => holds (k r H' t f) := by
  rcases avs with _ | ⟨xa, _ | ⟨ya, _ | ⟨_, _⟩⟩⟩
  · exact (good.fail h).elim
  · cases xa <;> exact (good.fail h).elim
  · cases xa with
    | int k1 m =>
      cases ya with
      | int k2 n =>
        simp only [ex, xBin] at h
        split at h
        · rename_i e1 e2
          have e1 := sameK_eq e1
          have e2 := sameK_eq e2
          subst e1; have e2 := e2.symm; subst e2
          refine ⟨_, _, _, _, h, quiet2 fun ρ w a g hv hu _ _ => ⟨_, ?_, .int _ _⟩⟩
          have hm : (.int _ 0 : Value) = .int _ m := inv_int hv
          cases hm
          simp [execOp, ho, inv_int hu, Op.unary, Op.intArith, ops0, bin0]
        · exact (good.fail h).elim
      | _ => exact (good.fail h).elim
    | _ => exact (good.fail h).elim
  · cases xa <;> first | exact (good.fail h).elim | (cases ya <;> exact (good.fail h).elim)

theorem s_com {t : TypeId} {x : Operand} {kd : IntKind} (ho : o.op = .unOp .xor t x) (h : holds (ex A ops0 cf H (.bin .xor kd) avs k)) :
    Does P o [.const (.int kd (onesOf kd)), x] avs H fun r H' t f => holds (k r H' t f) := by
  rcases avs with _ | ⟨xa, _ | ⟨ya, _ | ⟨_, _⟩⟩⟩
  · exact (good.fail h).elim
  · cases xa <;> exact (good.fail h).elim
  · cases xa with
    | int k1 m =>
      cases ya with
      | int k2 n =>
        simp only [ex, xBin] at h
        split at h
        · rename_i e1 e2
          have e1 := sameK_eq e1
          have e2 := sameK_eq e2
          subst e1; have e2 := e2.symm; subst e2
          refine ⟨_, _, _, _, h, quiet2 fun ρ w a g hv hu _ _ => ⟨_, ?_, .int _ _⟩⟩
          have hm : (.int _ (onesOf _) : Value) = .int _ m := inv_int hv
          cases hm
          simp [execOp, ho, inv_int hu, Op.unary, Op.intBits, ops0, bin0, onesOf]
        · exact (good.fail h).elim
      | _ => exact (good.fail h).elim
    | _ => exact (good.fail h).elim
  · cases xa <;> first | exact (good.fail h).elim | (cases ya <;> exact (good.fail h).elim)

theorem s_ixV {t : TypeId} {x y : Operand} {n : Nat} {e : TypeId} {i : TypeInfo} {d : TypeDesc} {kk : Kd} (ho : o.op = .index t x y) (ht : P.underlying t = some (.array n e)) (hd : P.underlying e = some d) (ha : isAggD d = false)
    (hi : P.info? e = some i) (h1 : i.size = 1) (h : holds (ex A ops0 cf H (.ixV n kk) avs k)) : Does P o [x, y] avs H fun r H' t f => holds (k r H' t f) := by
  rcases avs with _ | ⟨xa, _ | ⟨ya, _ | ⟨_, _⟩⟩⟩
  · exact (good.fail h).elim
  · cases xa <;> exact (good.fail h).elim
  · cases xa with
    | agg cs =>
      cases ya with
      | int kd j =>
        have h : holds (A.chk (ops0.inr j n) (A.get kk cs (ops0.nat j) fun v => k v H [] [])) := h
        obtain ⟨hj, h⟩ := good.chk _ _ h
        have hj := inr0 hj
        obtain ⟨r, hr, h⟩ := good.get _ _ _ _ h
        have hr : cs[j.toNat]? = some r := hr
        refine ⟨_, _, _, _, h, quiet2 fun ρ w a g hv hu _ _ => ?_⟩
        obtain ⟨vs, hve, hl, _, hli⟩ := lies_agg hv
        obtain ⟨v, q1, q2, q3⟩ := hli _ r hr
        refine ⟨v, ?_, q3⟩
        simp only [Nat.zero_add] at q1
        simp only [execOp, ho, hve, inv_int hu, Instr.index, asIntOf, Sem.run_bind, Sem.run_pure, Result.andThen_ok, run_underlying ht]
        rw [if_pos (by omega)]
        simp only [Sem.run_bind, run_size hi, Result.andThen_ok, h1, Nat.mul_one, run_part1 hd ha _ _ w q1, Sem.run_pure]
      | _ => exact (good.fail h).elim
    | _ => exact (good.fail h).elim
  · cases xa <;> first | exact (good.fail h).elim | (cases ya <;> exact (good.fail h).elim)
end

end Go.Vm

namespace Go.Vm

section
variable {R : Type} {A : Alg R} {holds : R → Prop} (good : A.Good holds) {P : Program} {o : Oper} {avs : List AV} {H : Hl} {cf : CallF R} {k : ExK R}
include good

omit good in
theorem run_binOp_flt {op : BinOp} {t : TypeId} {x y : Operand} {yt : TypeId} {a : Act} {w : World} {k1 k2 : FloatKind} {m n : Nat} (ho : o.op = .binOp op t x y yt) (hx : a.eval x = .float k1 m) (hy : a.eval y = .float k2 n) {v : Value}
    (h : (binOp op t (.float k1 m) (.float k2 n)).run P w = .ok v w) : (execOp a.eval o).run P w = .ok (.value v) w := by
  simp only [execOp, ho, hx, hy, Sem.run_bind]
  have hg : (eqGuard op t x y (.float k1 m) (.float k2 n)).run P w = .ok () w := by
    unfold eqGuard
    split <;> rfl
  rw [hg]
  simp only [Result.andThen_ok, h]
  rfl

theorem s_fbin {op : BinOp} {t : TypeId} {x y : Operand} {yt : TypeId} {kd : FloatKind} (ho : o.op = .binOp op t x y yt)
    (h : holds (ex A ops0 cf H (.fbin op kd) avs k)) : Does P o [x, y] avs H fun r H' t f => holds (k r H' t f) := by
  rcases avs with _ | ⟨xa, _ | ⟨ya, _ | ⟨_, _⟩⟩⟩
  · exact (good.fail h).elim
  · cases xa <;> exact (good.fail h).elim
  · cases xa with
    | flt k1 m =>
      cases ya with
      | flt k2 n =>
        simp only [ex, xFbin] at h
        split at h
        · rename_i e1 e2
          have e1 := sameF_eq e1
          have e2 := sameF_eq e2
          subst e1; subst e2
          obtain ⟨r, hr, h⟩ := good.flo _ _ h
          refine ⟨_, _, _, _, h, quiet2 fun ρ w a g hv hu _ _ => ⟨_, run_binOp_flt ho (inv_flt hv) (inv_flt hu) (run_float_arith w op t _ m n r hr), .flt _ _⟩⟩
        · exact (good.fail h).elim
      | _ => exact (good.fail h).elim
    | _ => exact (good.fail h).elim
  · cases xa <;> first | exact (good.fail h).elim | (cases ya <;> exact (good.fail h).elim)

theorem s_fcmp {op : BinOp} {t : TypeId} {x y : Operand} {yt : TypeId} {kd : FloatKind} (ho : o.op = .binOp op t x y yt) (hop : op = .eql ∨ op = .neq ∨ op = .lss ∨ op = .leq ∨ op = .gtr ∨ op = .geq)
    (h : holds (ex A ops0 cf H (.fcmp op kd) avs k)) : Does P o [x, y] avs H fun r H' t f => holds (k r H' t f) := by
  rcases avs with _ | ⟨xa, _ | ⟨ya, _ | ⟨_, _⟩⟩⟩
  · exact (good.fail h).elim
  · cases xa <;> exact (good.fail h).elim
  · cases xa with
    | flt k1 m =>
      cases ya with
      | flt k2 n =>
        simp only [ex, xFcmp] at h
        split at h
        · rename_i e1 e2
          have e1 := sameF_eq e1
          have e2 := sameF_eq e2
          subst e1; subst e2
          have h := brB_sound good h
          refine ⟨_, _, _, _, h, quiet2 fun ρ w a g hv hu _ _ => ⟨_, run_binOp_flt ho (inv_flt hv) (inv_flt hu) ?_, .bool _⟩⟩
          rcases hop with rfl | rfl | rfl | rfl | rfl | rfl <;> simp [binOp, Op.floatCmp, ops0, fcmp0]
        · exact (good.fail h).elim
      | _ => exact (good.fail h).elim
    | _ => exact (good.fail h).elim
  · cases xa <;> first | exact (good.fail h).elim | (cases ya <;> exact (good.fail h).elim)

theorem s_i2f {s t : TypeId} {x : Operand} {k1 : IntKind} {kd : FloatKind} (ho : o.op = .convert s t x) (hs : P.underlying s = some (.int k1)) (ht : P.underlying t = some (.float kd))
    (h : holds (ex A ops0 cf H (.i2f kd) avs k)) : Does P o [x] avs H fun r H' t f => holds (k r H' t f) := by
  rcases avs with _ | ⟨xa, _ | ⟨_, _⟩⟩
  · exact (good.fail h).elim
  · cases xa with
    | int k2 m =>
      refine ⟨_, _, _, _, h, quiet1 fun ρ w a g hv _ _ => ⟨.float kd (floatOfInt kd m), ?_, .flt _ _⟩⟩
      simp only [execOp, ho, inv_int hv, Sem.run_bind, run_convert_int_float w s t k2 kd m (by rw [hs]; rfl) ht, Result.andThen_ok]
      rfl
    | _ => exact (good.fail h).elim
  · cases xa <;> exact (good.fail h).elim

theorem s_fmov {s t : TypeId} {x : Operand} {kd : FloatKind} (ho : o.op = .convert s t x) (hs : P.underlying s = some (.float kd)) (ht : P.underlying t = some (.float kd))
    (h : holds (ex A ops0 cf H (.fmov kd) avs k)) : Does P o [x] avs H fun r H' t f => holds (k r H' t f) := by
  rcases avs with _ | ⟨xa, _ | ⟨_, _⟩⟩
  · exact (good.fail h).elim
  · cases xa with
    | flt k1 m =>
      simp only [ex, xFmov] at h
      split at h
      · rename_i e1
        have e1 := sameF_eq e1
        subst e1
        refine ⟨_, _, _, _, h, quiet1 fun ρ w a g hv _ _ => ⟨.float k1 m, ?_, .flt _ _⟩⟩
        simp only [execOp, ho, inv_flt hv, Sem.run_bind, run_convert_float_float w s t k1 k1 m m (by rw [hs]; rfl) ht (by simp [floatToFloatBits]), Result.andThen_ok]
        rfl
      · exact (good.fail h).elim
    | _ => exact (good.fail h).elim
  · cases xa <;> exact (good.fail h).elim

theorem s_mnx {mx : Bool} {x y : Operand} {ts : Array TypeId} (ho : o.op = .call { callee := .builtin (if mx then .max else .min), args := #[x, y], argTypes := ts })
    (h : holds (ex A ops0 cf H (.mnx mx) avs k)) : Does P o [x, y] avs H fun r H' t f => holds (k r H' t f) := by
  rcases avs with _ | ⟨xa, _ | ⟨ya, _ | ⟨_, _⟩⟩⟩
  · exact (good.fail h).elim
  · cases xa <;> exact (good.fail h).elim
  · cases xa with
    | int k1 m =>
      cases ya with
      | int k2 n =>
        simp only [ex, xMnx] at h
        split at h
        · rename_i e1
          have e1 := sameK_eq e1
          subst e1
          refine ⟨_, _, _, _, h, quiet2 fun ρ w a g hv hu _ _ => ?_⟩
          refine ⟨.int k1 (ops0.mnx mx m n), ?_, .int _ _⟩
          rw [run_builtin ho]
          cases mx <;> simp [inv_int hv, inv_int hu, builtin, Builtin.min_, Builtin.max_, Builtin.min2, Builtin.max2, ops0]
        · exact (good.fail h).elim
      | _ => exact (good.fail h).elim
    | _ => exact (good.fail h).elim
  · cases xa <;> first | exact (good.fail h).elim | (cases ya <;> exact (good.fail h).elim)

omit good in
/-- A new block, its row frozen behind its end. -/
theorem HRel.freeze {ρ : Rho} {w : World} {g : Hp} {N : Nat} {c : Array Value} {e : TypeId} {cs : List AV} (hr : HRel (rho1 ρ N (.live w.heap.size 0)) { w with heap := w.heap.push (.cells c e) } (one g N (.cells cs))) :
    HRel (rho1 ρ N (.live w.heap.size 0)) { w with heap := w.heap.push (.cells c e (c.size, c.size + 1)) } (one g N (.cells cs)) := by
  have cell : ∀ (B o : Nat), ({ w with heap := w.heap.push (.cells c e (c.size, c.size + 1)) } : World).cell? ⟨B, o, none⟩ = ({ w with heap := w.heap.push (.cells c e) } : World).cell? ⟨B, o, none⟩ := by
    intro B o
    simp only [World.cell?, Array.getElem?_push]
    by_cases hB : B = w.heap.size
    · simp [hB]
    · simp [hB]
  have size : ({ w with heap := w.heap.push (.cells c e (c.size, c.size + 1)) } : World).heap.size = ({ w with heap := w.heap.push (.cells c e) } : World).heap.size := by simp
  have rw_ : ∀ B, rows { w with heap := w.heap.push (.cells c e (c.size, c.size + 1)) } B = rows { w with heap := w.heap.push (.cells c e) } B := by
    intro B
    simp only [rows, Array.getElem?_push]
    by_cases hB : B = w.heap.size
    · simp [hB]
    · simp [hB]
  have V : ∀ {a : AV} {v : Value}, VRel (rho1 ρ N (.live w.heap.size 0)) { w with heap := w.heap.push (.cells c e) } a v → VRel (rho1 ρ N (.live w.heap.size 0)) { w with heap := w.heap.push (.cells c e (c.size, c.size + 1)) } a v := by
    intro a v h
    induction h with
    | slc b o len cap sz v h0 hs hv h =>
      refine .slc b o len cap sz v h0 hs hv fun B F hl => ?_
      obtain ⟨ao, cap', h1, h2, h3, h4, h5⟩ := h B F hl
      exact ⟨ao, cap', h1, h2, h3, h4, by rw [rw_]; exact h5⟩
    | ros cells off len cap exact B F ao cap' vs hlt hp hl ho hc hr hcap hlen he ha ih =>
      exact .ros cells off len cap exact B F ao cap' vs (by rw [size]; exact hlt) hp hl ho (fun i v hv => by rw [cell]; exact hc i v hv) ih hcap hlen he ha
    | rop cells off B F vs hlt hp hl ho hc hr ih =>
      exact .rop cells off B F vs (by rw [size]; exact hlt) hp hl ho (fun i v hv => by rw [cell]; exact hc i v hv) ih
    | top v => exact .top v
    | bool b => exact .bool b
    | int k n => exact .int k n
    | flt k n => exact .flt k n
    | str s => exact .str s
    | nilp => exact .nilp
    | ptr b o v h0 h1 hs h => exact .ptr b o v h0 h1 hs h
    | nils => exact .nils
    | agg cs vs hl ho hr ih => exact .agg cs vs hl ho ih
    | tup cs vs hl hr ih => exact .tup cs vs hl ih
    | fn f xs ys us vs hl hl' hr hr' ih ih' => exact .fn f xs ys us vs hl hl' ih ih'
    | nilf => exact .nilf
    | ifc t a v h ih => exact .ifc t a v ih
    | nili => exact .nili
  refine ⟨hr.unborn, hr.dead, hr.inj, fun b ds h => ?_, fun b B F c2 e2 lo hi h1 h2 => ?_⟩
  case refine_2 =>
    simp only [Array.getElem?_push] at h2
    split at h2
    · cases h2
      exact .inr (Nat.le_refl _)
    · rename_i hB
      exact hr.marks b B F c2 e2 lo hi h1 (by simp only [Array.getElem?_push]; rw [if_neg hB]; exact h2)
  rcases hr.live b ds h with h' | ⟨B, F, c2, e2, lo, hi, hl, hh, hs, hf, hc⟩
  · exact .inl h'
  · simp only [Array.getElem?_push] at hh
    split at hh
    · rename_i hB
      cases hh
      refine .inr ⟨B, F, c, e, c.size, c.size + 1, hl, by simp only [Array.getElem?_push]; rw [if_pos hB], hs, fun j _ hj => by omega, fun i a ha => ?_⟩
      obtain ⟨v, q1, q2, q3⟩ := hc i a ha
      exact ⟨v, q1, q2, V q3⟩
    · rename_i hB
      refine .inr ⟨B, F, c2, e2, lo, hi, hl, by simp only [Array.getElem?_push]; rw [if_neg hB]; exact hh, hs, hf, fun i a ha => ?_⟩
      obtain ⟨v, q1, q2, q3⟩ := hc i a ha
      exact ⟨v, q1, q2, V q3⟩

theorem s_s2b {s t e : TypeId} {x : Operand} (ho : o.op = .convert s t x) (hs : P.underlying s = some .string) (ht : P.underlying t = some (.slice e)) (he : P.underlying e = some (.int .u8))
    (h : holds (ex A ops0 cf H .s2b avs k)) : Does P o [x] avs H fun r H' t f => holds (k r H' t f) := by
  rcases avs with _ | ⟨xa, _ | ⟨_, _⟩⟩
  · exact (good.fail h).elim
  · cases xa with
    | str l =>
      have h : holds (k (.slc (size H) 0 l.length l.length 1) (join H [.cells (l.map fun b => .int .u8 b.toNat)]) [] []) := h
      rw [size_eq, join_eq] at h
      refine ⟨_, _, _, _, h, ⟨by simp, (fun b hb => by cases hb), fun b hb _ => by rw [List.getElem?_append_left hb], ?_⟩⟩
      intro ρ w a g hx hf _ hn hg
      have hN : g H.length = none := hn _ (Nat.le_refl _) (by simp)
      have hv := inv_str hx.one
      have hrun := run_bytes_of_string (P := P) w s t e ⟨l.toArray⟩ hs ht he
      have hcap : l.length ≤ grownCap w l.length 0 e := by
        simp only [grownCap, Question.cut]
        omega
      generalize hN' : grownCap w l.length 0 e = N at *
      have hsz : (bytesRow ⟨l.toArray⟩ N).size = N := by simp [bytesRow, ByteArray.size]; omega
      have hlies : Lies ρ w (l.map fun b => AV.int .u8 b.toNat) 0 (bytesRow ⟨l.toArray⟩ N) := by
        intro i b hb
        rw [List.getElem?_map] at hb
        obtain ⟨c, hc, rfl⟩ := Option.map_eq_some_iff.1 hb
        refine ⟨.int .u8 c.toNat, ?_, rfl, .int _ _⟩
        have hi := (List.getElem?_eq_some_iff.1 hc).1
        simp only [bytesRow, Nat.zero_add]
        rw [Array.getElem?_append_left (by simpa using hi)]
        simp [hc]
      have R := ((hg.drew (w.drawn + 1)).alloc hN (c := bytesRow ⟨l.toArray⟩ N) (e := e) (by simp [hsz]; exact hcap) (lies_bound (drew_ext ρ w _) hlies))
      have R2 := HRel.freeze R
      refine OpDo.value (v := .slice (some ⟨w.heap.size, 0, none⟩) l.length N) (w' := { w with heap := w.heap.push (.cells (bytesRow ⟨l.toArray⟩ N) e ((bytesRow ⟨l.toArray⟩ N).size, (bytesRow ⟨l.toArray⟩ N).size + 1)), drawn := w.drawn + 1 }) ?_ ⟨rho1 ρ H.length (.live w.heap.size 0), ?_, ?_, fun n' => (drew_ext ρ w (w.drawn + 1) n').trans (alloc_ext (hg.drew (w.drawn + 1)) hN _ _ (by intro B F h; cases h; rfl) n')⟩
      · have hsize : (⟨l.toArray⟩ : ByteArray).size = l.length := by simp [ByteArray.size]
        rw [hsize] at hrun
        simp only [execOp, ho, hv, Sem.run_bind]
        rw [hN'] at hrun
        rw [hrun]
        rfl
      · rw [upd_one]; exact R2
      · refine .slc _ _ _ _ _ _ (by simp [rho1]) ⟨_, N, rfl, hcap, hcap, fun _ => ⟨_, _, rfl⟩⟩ (by simp [rho1]) ?_
        intro B F hl
        simp [rho1] at hl
        obtain ⟨rfl, rfl⟩ := hl
        refine ⟨_, N, hcap, hcap, rfl, fun _ => rfl, ?_⟩
        have hrows : rows { w with heap := w.heap.push (.cells (bytesRow ⟨l.toArray⟩ N) e ((bytesRow ⟨l.toArray⟩ N).size, (bytesRow ⟨l.toArray⟩ N).size + 1)), drawn := w.drawn + 1 } w.heap.size = N := by
          simp [rows, hsz]
        rw [hrows]; omega
    | _ => exact (good.fail h).elim
  · cases xa <;> exact (good.fail h).elim
end

end Go.Vm

namespace Go.Vm

section
variable {R : Type} {A : Alg R} {holds : R → Prop} (good : A.Good holds) {P : Program} {o : Oper} {avs : List AV} {H : Hl} {cf : CallF R} {k : ExK R}
include good

theorem s_mko {t e : TypeId} {len : Nat} {parts : Array (Nat × Operand)} {j : TypeInfo} {z : Value} {zs : List AV} {pl : List (Nat × Nat)} (ho : o.op = .buildSlice t len parts) (ht : P.underlying t = some (.slice e))
    (hj : P.info? e = some j) (hsmall : len * j.size ≤ 2 ^ 24) (hz : j.zero = some z) (zc : Array Value) (hzc : zc = if len * j.size = 0 then #[] else z.cells)
    (hs : toAVs ((Array.range (len * j.size)).map (zc[· % zc.size]!)).toList = some zs) (hp : placesOf (fun i => some (i * j.size, j.size)) (parts.toList.map (·.1)) = some pl)
    (h : holds (ex A ops0 cf H (.mko zs len j.size pl) avs k)) : Does P o (parts.toList.map (·.2)) avs H fun r H' t f => holds (k r H' t f) := by
  have h : holds (fillK A ops0 zs pl avs fun cs => k (.slc (size H) 0 len len j.size) (join H [.cells cs]) [] []) := h
  obtain ⟨cs, h, hcl, hcs⟩ := fillK_sound good h
  rw [size_eq, join_eq] at h
  have hzl := (toAVs_rel hs).1.symm
  have hzn : zs.length = len * j.size := by rw [← hzl]; simp
  refine ⟨_, _, _, _, h, .alloc fun ρ w a g hx _ hg => ?_⟩
  obtain ⟨c', h1, h2, h3⟩ := hcs ρ w ((parts.toList.map (·.2)).map a.eval) _ _ (parts.toList.map (·.1)) hx hzl (toAVs_lies hs ρ w) hp
  have e1 : (parts.map fun x => (match x with | (i, x) => (i, a.eval x))).toList = (parts.toList.map (·.1)).zip ((parts.toList.map (·.2)).map a.eval) := by
    rw [Array.toList_map]
    induction parts.toList with
    | nil => rfl
    | cons p l ih => simp [ih]
  refine ⟨.slice (some ⟨w.heap.size, 0, none⟩) len len, w.drawn, c'.toArray, e, ?_, ?_, ?_, ?_⟩
  · rw [Array.toArray_toList] at h1
    simp only [execOp, ho, Instr.buildSlice, Sem.run_bind, run_underlying ht, run_size hj, Result.andThen_ok]
    rw [if_neg (by omega), e1]
    by_cases h0 : len * j.size = 0
    · rw [if_pos h0] at hzc
      subst hzc
      rw [if_pos h0]
      simp only [Sem.run_bind, Sem.run_pure, Result.andThen_ok]
      rw [h1]
      simp [newRow]
    · rw [if_neg h0] at hzc
      subst hzc
      rw [if_neg h0]
      simp only [Sem.run_bind, Sem.run_pure, Result.andThen_ok, run_zero hj hz]
      rw [h1]
      simp [newRow]
  · simp; omega
  · exact h3
  · intro ρ' w' hl hr
    refine .slc _ _ _ _ _ _ (by rw [hl]; simp) ⟨_, _, rfl, Nat.le_refl _, Nat.le_refl _, fun _ => ⟨_, _, rfl⟩⟩ (by rw [hl]; simp) ?_
    intro B F hlb
    rw [hl] at hlb
    cases hlb
    refine ⟨_, _, Nat.le_refl _, Nat.le_refl _, rfl, fun _ => rfl, ?_⟩
    rw [hr]
    simp
    omega

end

/-- A value is the same where cells, rows and the heap's size are. -/
theorem VRel.same {ρ : Rho} {w w' : World} (size : w'.heap.size = w.heap.size) (cell : ∀ (B o : Nat), w'.cell? ⟨B, o, none⟩ = w.cell? ⟨B, o, none⟩) (rw_ : ∀ B, rows w' B = rows w B) {a : AV} {v : Value} (h : VRel ρ w a v) : VRel ρ w' a v := by
  induction h with
  | slc b o len cap sz v h0 hs hv h =>
    refine .slc b o len cap sz v h0 hs hv fun B F hl => ?_
    obtain ⟨ao, cap', h1, h2, h3, h4, h5⟩ := h B F hl
    exact ⟨ao, cap', h1, h2, h3, h4, by rw [rw_]; exact h5⟩
  | ros cells off len cap exact B F ao cap' vs hlt hp hl ho hc hr hcap hlen he ha ih =>
    exact .ros cells off len cap exact B F ao cap' vs (by rw [size]; exact hlt) hp hl ho (fun i v hv => by rw [cell]; exact hc i v hv) ih hcap hlen he ha
  | rop cells off B F vs hlt hp hl ho hc hr ih =>
    exact .rop cells off B F vs (by rw [size]; exact hlt) hp hl ho (fun i v hv => by rw [cell]; exact hc i v hv) ih
  | top v => exact .top v
  | bool b => exact .bool b
  | int k n => exact .int k n
  | flt k n => exact .flt k n
  | str s => exact .str s
  | nilp => exact .nilp
  | ptr b o v h0 h1 hs h => exact .ptr b o v h0 h1 hs h
  | nils => exact .nils
  | agg cs vs hl ho hr ih => exact .agg cs vs hl ho ih
  | tup cs vs hl hr ih => exact .tup cs vs hl ih
  | fn f xs ys us vs hl hl' hr hr' ih ih' => exact .fn f xs ys us vs hl hl' ih ih'
  | nilf => exact .nilf
  | ifc t a v h ih => exact .ifc t a v ih
  | nili => exact .nili

/-- A row marked behind its end. -/
structure Marked (w : World) (B : Nat) (c : Array Value) (e : TypeId) (w' : World) : Prop where
  here : ∃ hi, w'.heap[B]? = some (.cells c e (c.size, hi))
  other : ∀ B', B' ≠ B → w'.heap[B']? = w.heap[B']?
  size : w'.heap.size = w.heap.size
  os : w'.os = w.os
  tape : w'.tape = w.tape
  output : w'.output = w.output

theorem marked {w : World} {B : Nat} {c : Array Value} {e : TypeId} {lo hi : Nat} (h : w.heap[B]? = some (.cells c e (lo, hi))) (hm : lo = hi ∨ c.size ≤ lo) : Marked w B c e (w.freeze ⟨B, c.size, none⟩ 1) where
  here := by
    have e1 : (w.freeze ⟨B, c.size, none⟩ 1).heap[B]? = some (.cells c e (if lo == hi then (c.size, c.size + 1) else (min lo c.size, max hi (c.size + 1)))) := by
      unfold World.freeze
      rw [if_neg (by decide)]
      simp [Array.getElem?_modify, h]
    rw [e1]
    by_cases hlh : lo = hi
    · subst hlh
      exact ⟨c.size + 1, by simp⟩
    · have : (lo == hi) = false := by simpa using hlh
      rw [this]
      refine ⟨max hi (c.size + 1), ?_⟩
      have : min lo c.size = c.size := Nat.min_eq_right (by omega)
      simp [this]
  other B' hB := by
    unfold World.freeze
    rw [if_neg (by decide)]
    simp [Array.getElem?_modify, Ne.symm hB]
  size := by unfold World.freeze; rw [if_neg (by decide)]; simp
  os := by unfold World.freeze; rw [if_neg (by decide)]
  tape := by unfold World.freeze; rw [if_neg (by decide)]
  output := by unfold World.freeze; rw [if_neg (by decide)]

theorem Marked.rel {w w' : World} {B : Nat} {c : Array Value} {e : TypeId} {lo hi : Nat} (hm : Marked w B c e w') (h : w.heap[B]? = some (.cells c e (lo, hi))) {ρ : Rho} {g : Hp} {b F : Nat} (hg : HRel ρ w g) (hl : ρ b = .live B F) :
    HRel ρ w' g ∧ (∀ n, Ext n ρ w ρ w') ∧ ∀ {a : AV} {v : Value}, VRel ρ w a v → VRel ρ w' a v := by
  obtain ⟨hi', hh⟩ := hm.here
  have cell : ∀ (B' o : Nat), w'.cell? ⟨B', o, none⟩ = w.cell? ⟨B', o, none⟩ := by
    intro B' o
    simp only [World.cell?]
    by_cases hB : B' = B
    · subst hB; rw [hh, h]
    · rw [hm.other B' hB]
  have rw_ : ∀ B', rows w' B' = rows w B' := by
    intro B'
    by_cases hB : B' = B
    · subst hB; simp only [rows, hh, h]
    · simp only [rows, hm.other B' hB]
  have V : ∀ {a : AV} {v : Value}, VRel ρ w a v → VRel ρ w' a v := fun q => q.same hm.size cell rw_
  refine ⟨⟨hg.unborn, hg.dead, hg.inj, fun i ds hi2 => ?_, fun i B' F' c2 e2 lo2 hi2 h1 h2 => ?_⟩, fun n => ⟨by rw [hm.size]; exact Nat.le_refl _, hm.os, hm.tape, hm.output, fun B' hB hu => ?_, fun _ _ _ => .inl rfl, fun i B' F' q => .inr ⟨i, F', q⟩, fun B' _ => rw_ B'⟩, V⟩
  · rcases hg.live i ds hi2 with h' | ⟨B', F', c2, e2, lo2, hi3, hl2, hh2, hs2, hf2, hc2⟩
    · exact .inl h'
    · by_cases hB : B' = B
      · subst hB
        rw [h] at hh2
        cases hh2
        exact .inr ⟨B', F', c, e, c.size, hi', hl2, hh, hs2, fun j _ hj => by omega, fun i a ha => let ⟨v, q1, q2, q3⟩ := hc2 i a ha; ⟨v, q1, q2, V q3⟩⟩
      · exact .inr ⟨B', F', c2, e2, lo2, hi3, hl2, (hm.other B' hB).trans hh2, hs2, hf2, fun i a ha => let ⟨v, q1, q2, q3⟩ := hc2 i a ha; ⟨v, q1, q2, V q3⟩⟩
  · by_cases hB : B' = B
    · subst hB
      rw [hh] at h2
      cases h2
      exact .inr (Nat.le_refl _)
    · rw [hm.other B' hB] at h2
      exact hg.marks i B' F' c2 e2 lo2 hi2 h1 h2
  · exact hm.other B' fun hB => hu b F (by rw [hB]; exact hl)

section
variable {R : Type} {A : Alg R} {holds : R → Prop} (good : A.Good holds) {P : Program} {o : Oper} {avs : List AV} {H : Hl} {cf : CallF R} {k : ExK R}
include good

theorem s_frz {t e : TypeId} {x : Operand} (ho : o.op = .convert t t x) (ht : P.underlying t = some (.slice e)) (he : P.underlying e = some (.int .u8))
    (h : holds (ex A ops0 cf H .frz avs k)) : Does P o [x] avs H fun r H' t f => holds (k r H' t f) := by
  rcases avs with _ | ⟨xa, _ | ⟨_, _⟩⟩
  · exact (good.fail h).elim
  · cases xa with
    | slc b of len cap sz =>
      have h : holds (blkK A H b fun cs => A.chk (ops0.lt 0 (ops0.len cs)) (A.chk (ops0.lt 0 len) (k (.slc b of len cap sz) H [] [b]))) := h
      obtain ⟨cs, hb, h⟩ := blkK_sound good h
      obtain ⟨hc0, h⟩ := good.chk _ _ h
      obtain ⟨hl0, h⟩ := good.chk _ _ h
      have hc0 : 0 < cs.length := by simpa [ops0] using hc0
      have hl0 : 0 < len := by simpa [ops0] using hl0
      refine ⟨_, _, _, _, h, ⟨Nat.le_refl _, (fun b hb => by cases hb), fun _ _ _ => rfl, ?_⟩⟩
      intro ρ w a g hx hf _ _ hg
      have hgb : g b = some (.cells cs) := agree_one hf hb
      rcases hg.live b cs hgb with ⟨_, hcs⟩ | ⟨B, F, c, e2, lo, hi, hl, hc, hsz, hf2, hli⟩
      · subst hcs; cases hc0
      · have hv := hx.one
        cases hv with
        | slc _ _ _ _ _ v h0 hs hv hh =>
          obtain ⟨ao, cap', h1, h2, h3, h4, h5⟩ := hh B F hl
          have hao := h4 (by omega)
          subst hao
          have hM := marked hc (hg.marks b B F c e2 lo hi hl hc)
          obtain ⟨R1, R2, R3⟩ := hM.rel hc hg hl
          refine OpDo.value (v := .slice (some ⟨B, F + of, none⟩) len cap') (w' := w.freeze ⟨B, c.size, none⟩ 1) ?_ ⟨ρ, ?_, ?_, R2⟩
          · have hsh : w.shape? B = some (e2, c.size) := by
              unfold World.shape?
              rw [hc]
            simp [execOp, ho, h3, convert, run_underlying ht, run_underlying he, markStringish, hsh]
          · rw [news_self, List.append_nil, upd_nil]
            exact R1
          · rw [← h3]
            exact R3 hx.one
    | _ => exact (good.fail h).elim
  · cases xa <;> exact (good.fail h).elim

end
end Go.Vm

namespace Go.Vm

def kdOf : TypeDesc → Kd
  | .int k => .int k
  | .bool => .bool
  | .string => .str
  | .slice _ => .slc
  | .float k => .flt k
  | _ => .any

/-- An array of whole numbers: their kind, how many. -/
def intsOf (P : Program) (t : TypeId) : Option (IntKind × Nat) :=
  match P.underlying t with
  | some (.array n e) => match P.underlying e, P.info? e with
    | some (.int kd), some i => if i.size = 1 then some (kd, n) else none
    | _, _ => none
  | _ => none

/-- A part of a struct: a whole number, or an array of them. -/
def partOf (P : Program) (t : TypeId) : Option (IntKind × Nat) :=
  match P.underlying t with
  | some (.int kd) => some (kd, 1)
  | _ => match intsOf P t, P.info? t with
    | some (kd, n), some j => if j.size = n then some (kd, n) else none
    | _, _ => none

def segsOf (P : Program) : List Field → Option (List (Nat × IntKind × Nat))
  | [] => some []
  | f :: fs => match partOf P f.type, segsOf P fs with
    | some (kd, n), some segs => if f.name = "_" then none else some ((f.offset, kd, n) :: segs)
    | _, _ => none

def rowOf (P : Program) (t : TypeId) : Option (Nat × List (Nat × IntKind × Nat)) :=
  match P.underlying t, P.info? t with
  | some (.array _ _), _ => match intsOf P t with
    | some (kd, n) => some (n, [(0, kd, n)])
    | none => none
  | some (.struct fs), some i => if P.stoodInHeld t = false then match segsOf P fs.toList with
      | some segs => some (i.size, segs)
      | none => none
    else none
  | _, _ => none

theorem intsOf_ok {P : Program} {t : TypeId} {kd : IntKind} {n : Nat} (h : intsOf P t = some (kd, n)) : ∃ e i, P.underlying t = some (.array n e) ∧ P.underlying e = some (.int kd) ∧ P.info? e = some i ∧ i.size = 1 := by
  unfold intsOf at h
  split at h
  · rename_i m e he
    split at h
    · rename_i k i hk hi
      split at h
      · rename_i h1
        cases h
        exact ⟨e, i, he, hk, hi, h1⟩
      · cases h
    · cases h
  · cases h

theorem partOf_ok {P : Program} {t : TypeId} {kd : IntKind} {n : Nat} (h : partOf P t = some (kd, n)) : IntsT P t kd n := by
  unfold partOf at h
  split at h
  · rename_i k hk; cases h; exact .inl ⟨hk, rfl⟩
  · split at h
    · rename_i k m j h1 h2
      split at h
      · rename_i hs
        cases h
        obtain ⟨e, i, a, b, c, d⟩ := intsOf_ok h1
        exact .inr ⟨e, i, j, a, b, c, d, h2, hs⟩
      · cases h
    · cases h

theorem segsOf_ok {P : Program} {fs : List Field} {segs : List (Nat × IntKind × Nat)} (h : segsOf P fs = some segs) : Segs P fs segs := by
  induction fs generalizing segs with
  | nil => cases h; exact .nil
  | cons f fs ih =>
    unfold segsOf at h
    split at h
    · rename_i kd n sg h1 h2
      split at h
      · cases h
      · rename_i hn
        cases h
        exact .cons f fs kd n sg hn (partOf_ok h1) (ih h2)
    · cases h

theorem rowOf_ok {P : Program} {t : TypeId} {n : Nat} {segs : List (Nat × IntKind × Nat)} (h : rowOf P t = some (n, segs)) : RowT P t n segs := by
  unfold rowOf at h
  split at h
  · split at h
    · rename_i kd m hi
      cases h
      obtain ⟨e, i, a, b, c, d⟩ := intsOf_ok hi
      exact .arr t e kd n i a b c d
    · cases h
  · rename_i fs i ht _
    split at h
    · rename_i hp
      split at h
      · rename_i sg hs
        cases h
        exact .str t fs _ _ ht hp (segsOf_ok hs)
      · cases h
    · cases h
  · cases h

def binOf (op : BinOp) (kd : IntKind) : Option VOp :=
  match op with
  | .add | .sub | .mul | .and | .or | .xor | .andNot => some (.bin op kd)
  | .quo | .rem => some (.div op kd)
  | .shl | .shr => some (.shf op kd)
  | .eql | .neq | .lss | .leq | .gtr | .geq => some (.cmp op)

def flOf (op : BinOp) (kd : FloatKind) : Option VOp :=
  match op with
  | .add | .sub | .mul | .quo => some (.fbin op kd)
  | .eql | .neq | .lss | .leq | .gtr | .geq => some (.fcmp op kd)
  | _ => none

def negOf (op : BinOp) : Option Bool :=
  match op with
  | .eql => some false
  | .neq => some true
  | _ => none

def callOf (P : Program) (c : Call) : Option (VOp × List Operand) :=
  match c.callee, c.args.toList, c.argTypes.toList with
  | .builtin .len, [x], [t] => match P.underlying t with
    | some (.slice _) => some (.len, [x])
    | some .string => some (.lenT, [x])
    | some (.array n _) => some (.lenA n, [x])
    | _ => none
  | .builtin .append, [x, y], [t, u] => match P.underlying t, P.underlying u with
    | some (.slice e), some d => match P.info? e with
      | some j => match j.zero with
        | some z => if z.cells.size = j.size then match d with
            | .slice _ => some (.app j.size j.bytes, [x, y])
            | .string => some (.app j.size j.bytes, [x, y])
            | _ => none
          else none
        | none => none
      | none => none
    | _, _ => none
  | .builtin .copy, [x, y], [t, _] => match P.underlying t with
    | some (.slice e) => match P.info? e with
      | some j => some (.cpy j.size, [x, y])
      | none => none
    | _ => none
  | .builtin .min, [x, y], _ => some (.mnx false, [x, y])
  | .builtin .max, [x, y], _ => some (.mnx true, [x, y])
  | .value (.func f), xs, _ => some (.call f, xs)
  | .value x, xs, _ => some (.callv, x :: xs)
  | _, _, _ => none

def copOf (P : Program) : Op → Option (VOp × List Operand)
  | .move x => some (.mov, [x])
  | .assign x => some (.mov, [x])
  | .pick c x y => some (.pick, [c, x, y])
  | .alloc e => match P.info? e with
    | some i => match i.zero with
      | some z => match toAVs z.cells.toList with
        | some zs => some (.alloc zs, [])
        | none => none
      | none => none
    | none => none
  | .box _ x => some (.box, [x])
  | .load t x => match P.underlying t, P.info? t with
    | some d, some i => match isAggD d with
      | true => some (.ldn i.size, [x])
      | false => some (.ld1 (kdOf d), [x])
    | _, _ => none
  | .store t x y => match P.underlying t, P.info? t with
    | some d, some i => match isAggD d with
      | true => some (.stn i.size, [x, y])
      | false => if i.size = 1 then some (.st1, [x, y]) else none
    | _, _ => none
  | .nilCheck x => some (.nilc, [x])
  | .binOp op t x y _ => match P.underlying t with
    | some (.int kd) => match binOf op kd with
      | some v => some (v, [x, y])
      | none => none
    | some (.float kd) => match flOf op kd with
      | some v => some (v, [x, y])
      | none => none
    | some .string => match negOf op with
      | some b => some (.scmp b, [x, y])
      | none => none
    | some .bool => match negOf op with
      | some b => some (.bcmp b, [x, y])
      | none => none
    | _ => match negOf op, rowOf P t with
      | some b, some (n, segs) => if P.eqGuardType P.depth t = false then some (.acmp b n segs, [x, y]) else none
      | _, _ => none
  | .unOp u t x => match u, P.underlying t with
    | .not, _ => some (.not, [x])
    | .neg, some (.int kd) => some (.bin .sub kd, [.const (.int kd 0), x])
    | .xor, some (.int kd) => some (.bin .xor kd, [.const (.int kd (onesOf kd)), x])
    | _, _ => none
  | .index t x y => match P.underlying t with
    | some (.array n e) => match P.underlying e, P.info? e with
      | some d, some i => match isAggD d with
        | true => none
        | false => if i.size = 1 then some (.ixV n (kdOf d), [x, y]) else none
      | _, _ => none
    | _ => none
  | .convert s t x => match P.underlying s, P.underlying t with
    | some _, some (.int kd) => some (.cvt kd, [x])
    | some (.int _), some (.float kd) => some (.i2f kd, [x])
    | some (.float k1), some (.float k2) => if k1 = k2 then some (.fmov k2, [x]) else none
    | some .string, some (.slice e) => match P.underlying e with
      | some (.int .u8) => some (.s2b, [x])
      | _ => none
    | some (.slice e), some .string => match P.underlying e with
      | some (.int .u8) => some (.b2s, [x])
      | _ => none
    | some (.slice _), some (.slice e) => if s = t then match P.underlying e with
        | some (.int .u8) => some (.frz, [x])
        | _ => none
      else none
    | _, _ => none
  | .sliceToArrayPointer t x => match P.underlying t with
    | some (.array n _) => if n ≠ 0 then some (.s2a n, [x]) else none
    | _ => none
  | .makeInterface t x => match P.underlying t with
    | some (.interface _) => none
    | some _ => some (.mkif t, [x])
    | none => none
  | .makeFunc (.func f) xs ys => some (.mkfn f xs.size, xs.toList ++ ys.toList)
  | .makeSlice t x y => match P.underlying t with
    | some (.slice e) => match P.info? e with
      | some j => match j.zero with
        | some z => match toAVs z.cells.toList with
          | some zs => if z.cells.size = j.size then some (.mksl zs j.bytes, [x, y]) else none
          | none => none
        | none => none
      | none => none
    | _ => none
  | .slice t x lo hi mx => match P.underlying t with
    | some (.slice e) => match P.info? e with
      | some i => some (.slS i.size lo.isSome hi.isSome mx.isSome, slOps x lo hi mx)
      | none => none
    | some (.array n e) => match P.info? e, mx with
      | some i, none => some (.slA n i.size lo.isSome hi.isSome, slOps x lo hi none)
      | _, _ => none
    | _ => none
  | .fieldAddr s x f => match P.underlying s with
    | some (.struct fs) => match fs[f]? with
      | some fd => match P.info? fd.type with
        | some i => if i.size ≠ 0 then some (.fld fd.offset, [x]) else none
        | none => none
      | none => none
    | _ => none
  | .field s x f => match P.underlying s with
    | some (.struct fs) => match fs[f]? with
      | some fd => match P.underlying fd.type, P.info? fd.type with
        | some d, some i => match isAggD d with
          | true => some (.fldn fd.offset i.size, [x])
          | false => some (.fldv fd.offset (kdOf d), [x])
        | _, _ => none
      | none => none
    | _ => none
  | .indexAddr t x y => match P.underlying t with
    | some (.array n e) => match P.info? e with
      | some i => some (.ixA n i.size, [x, y])
      | none => none
    | some (.slice e) => match P.info? e with
      | some i => some (.ixS i.size, [x, y])
      | none => none
    | _ => none
  | .build t parts => match P.underlying t, P.info? t with
    | some (.struct fs), some i => match i.zero with
      | some z => match toAVs z.cells.toList, placesOf (fieldPl P fs) (parts.toList.map (·.1)) with
        | some zs, some pl => if (fs.toList.all fun f => (P.info? f.type).isSome) = true then some (.mk zs pl, parts.toList.map (·.2)) else none
        | _, _ => none
      | none => none
    | some (.array _ e), some i => match i.zero, P.info? e with
      | some z, some j => match toAVs z.cells.toList, placesOf (fun i => some (i * j.size, j.size)) (parts.toList.map (·.1)) with
        | some zs, some pl => some (.mk zs pl, parts.toList.map (·.2))
        | _, _ => none
      | _, _ => none
    | _, _ => none
  | .buildSlice t len parts => match P.underlying t with
    | some (.slice e) => match P.info? e with
      | some j => if len * j.size ≤ 2 ^ 24 then match j.zero with
          | some z => match toAVs ((Array.range (len * j.size)).map ((if len * j.size = 0 then #[] else z.cells)[· % (if len * j.size = 0 then (#[] : Array Value) else z.cells).size]!)).toList, placesOf (fun i => some (i * j.size, j.size)) (parts.toList.map (·.1)) with
            | some zs, some pl => match P.underlying e, Nat.ble 2 parts.size with
              | some (.int .u8), true => some (.mko zs len j.size pl, parts.toList.map (·.2))
              | _, _ => some (.mks zs len pl, parts.toList.map (·.2))
            | _, _ => none
          | none => none
        else none
      | none => none
    | _ => none
  | .extract x i => some (.ext i, [x])
  | .call c => callOf P c
  | _ => none

section
variable {R : Type} {A : Alg R} {holds : R → Prop} (good : A.Good holds) {P : Program} {o : Oper} {avs : List AV} {H : Hl} {cf : CallF R} {k : ExK R} (hcf : CallOK P holds cf)
include good hcf

theorem call_sound {c : Call} (ho : o.op = .call c) {vo : VOp} {xs : List Operand} (hc : callOf P c = some (vo, xs)) (h : holds (ex A ops0 cf H vo avs k)) :
    DoesX P o (isCall vo) xs avs H fun r H' t f => holds (k r H' t f) := by
  obtain ⟨ca, args, types⟩ := c
  obtain ⟨args⟩ := args
  obtain ⟨types⟩ := types
  simp only [callOf] at hc
  split at hc
  · rename_i x t
    split at hc <;> first | cases hc | skip
    · rename_i e he; exact (s_len good ho he h).x
    · rename_i he; exact (s_lenT good ho he h).x
    · rename_i n e he; exact (s_lenA ho he h good).x
  · rename_i x y t u
    split at hc <;> first | cases hc | skip
    rename_i e d he hd
    split at hc <;> first | cases hc | skip
    rename_i j hj
    split at hc <;> first | cases hc | skip
    rename_i z hz
    split at hc <;> first | cases hc | skip
    rename_i hs
    split at hc <;> first | cases hc | skip
    · rename_i e'; exact (s_app good ho ⟨he, hj, hz, hs, .inl ⟨e', hd⟩⟩ h).x
    · exact (s_app good ho ⟨he, hj, hz, hs, .inr hd⟩ h).x
  · rename_i x y t u
    split at hc <;> first | cases hc | skip
    rename_i e he
    split at hc <;> first | cases hc | skip
    rename_i j hj
    exact (s_cpy good ho he hj h).x
  · cases hc; exact (s_mnx good (mx := false) ho h).x
  · cases hc; exact (s_mnx good (mx := true) ho h).x
  · cases hc; exact s_call hcf ho h
  · cases hc; exact s_callv good hcf ho h
  · cases hc

theorem ex_sound {vo : VOp} {xs : List Operand} (hc : copOf P o.op = some (vo, xs)) (h : holds (ex A ops0 cf H vo avs k)) :
    DoesX P o (isCall vo) xs avs H fun r H' t f => holds (k r H' t f) := by
  generalize hop : o.op = op at hc
  cases op with
  | move x => cases hc; exact (s_mov good (.inl hop) h).x
  | assign x => cases hc; exact (s_mov good (.inr hop) h).x
  | pick c x y => cases hc; exact (s_pick good hop h).x
  | alloc e =>
    simp only [copOf] at hc
    split at hc <;> first | cases hc | skip
    rename_i i hi
    split at hc <;> first | cases hc | skip
    rename_i z hz
    split at hc <;> first | cases hc | skip
    rename_i zs hs
    exact (s_alloc good hop hi hz hs h).x
  | box e x => cases hc; exact (s_box good hop h).x
  | load t x =>
    simp only [copOf] at hc
    split at hc <;> first | cases hc | skip
    rename_i d i hd hi
    split at hc <;> first | cases hc | skip
    · rename_i ha; exact (s_ldn good hop hd ha hi h).x
    · rename_i ha; exact (s_ld1 good hop hd ha h).x
  | store t x y =>
    simp only [copOf] at hc
    split at hc <;> first | cases hc | skip
    rename_i d i hd hi
    split at hc <;> first | cases hc | skip
    · exact (s_stn good hop hi h).x
    · split at hc <;> first | cases hc | skip
      rename_i h1
      exact (s_st1 good hop hi h1 h).x
  | nilCheck x => cases hc; exact (s_nilc good hop h).x
  | binOp op t x y yt =>
    simp only [copOf] at hc
    split at hc
    · rename_i kd ht
      split at hc <;> first | cases hc | skip
      rename_i v hv
      unfold binOf at hv
      split at hv <;> cases hv <;> first
        | exact (s_bin good hop (by simp) h).x
        | exact (s_div good hop (by simp) h).x
        | exact (s_shf good hop (by simp) h).x
        | exact (s_cmp good hop (by simp) h).x
    · rename_i kd ht
      split at hc <;> first | cases hc | skip
      rename_i v hv
      unfold flOf at hv
      split at hv <;> cases hv <;> first
        | exact (s_fbin good hop h).x
        | exact (s_fcmp good hop (by simp) h).x
    · rename_i ht
      split at hc <;> first | cases hc | skip
      rename_i b hb
      unfold negOf at hb
      split at hb <;> cases hb
      · exact (s_scmp good (neg := false) hop h).x
      · exact (s_scmp good (neg := true) hop h).x
    · rename_i ht
      split at hc <;> first | cases hc | skip
      rename_i b hb
      unfold negOf at hb
      split at hb <;> cases hb
      · exact (s_bcmp good (neg := false) hop ht h).x
      · exact (s_bcmp good (neg := true) hop ht h).x
    · split at hc <;> first | cases hc | skip
      rename_i b n segs hb hr
      split at hc <;> first | cases hc | skip
      rename_i hg
      unfold negOf at hb
      split at hb <;> cases hb
      · exact (s_acmp good (neg := false) hop (rowOf_ok hr) hg h).x
      · exact (s_acmp good (neg := true) hop (rowOf_ok hr) hg h).x
  | unOp u t x =>
    simp only [copOf] at hc
    split at hc <;> first | cases hc | skip
    · exact (s_not good hop h).x
    · exact (s_neg good hop h).x
    · exact (s_com good hop h).x
  | index t x y =>
    simp only [copOf] at hc
    split at hc <;> first | cases hc | skip
    rename_i n e ht
    split at hc <;> first | cases hc | skip
    rename_i d i hd hi
    split at hc <;> first | cases hc | skip
    rename_i ha
    split at hc <;> first | cases hc | skip
    rename_i h1
    exact (s_ixV good hop ht hd ha hi h1 h).x
  | convert s t x =>
    simp only [copOf] at hc
    split at hc
    · rename_i d kd hs ht; cases hc; exact (s_cvt good hop hs ht h).x
    · rename_i k1 kd hs ht; cases hc; exact (s_i2f good hop hs ht h).x
    · rename_i k1 k2 hs ht
      split at hc <;> first | cases hc | skip
      rename_i e
      subst e
      exact (s_fmov good hop hs ht h).x
    · rename_i e hs ht
      split at hc <;> first | cases hc | skip
      rename_i he
      exact (s_s2b good hop hs ht he h).x
    · rename_i e hs ht
      split at hc <;> first | cases hc | skip
      rename_i he
      exact (s_b2s good hop hs he ht h).x
    · rename_i e1 e hs ht
      split at hc <;> first | cases hc | skip
      rename_i e2
      subst e2
      split at hc <;> first | cases hc | skip
      rename_i he
      exact (s_frz good hop ht he h).x
    · cases hc
  | sliceToArrayPointer t x =>
    simp only [copOf] at hc
    split at hc <;> first | cases hc | skip
    rename_i n e ht
    split at hc <;> first | cases hc | skip
    rename_i hn
    exact (s_s2a good hop ht hn h).x
  | makeInterface t x =>
    simp only [copOf] at hc
    split at hc <;> first | cases hc | skip
    rename_i d hd ht
    exact (s_mkif good hop ht (fun ms e => hd ms e) h).x
  | makeFunc f xs ys =>
    cases f <;> first | cases hc | skip
    exact (s_mkfn hop h).x
  | makeSlice t x y =>
    simp only [copOf] at hc
    split at hc <;> first | cases hc | skip
    rename_i e he
    split at hc <;> first | cases hc | skip
    rename_i j hj
    split at hc <;> first | cases hc | skip
    rename_i z hz
    split at hc <;> first | cases hc | skip
    rename_i zs hs
    split at hc <;> first | cases hc | skip
    rename_i hsz
    exact (s_mksl good hop he hj hz hs hsz h).x
  | slice t x lo hi mx =>
    simp only [copOf] at hc
    split at hc
    · rename_i e he
      split at hc <;> first | cases hc | skip
      rename_i i hi'
      exact (s_slS good hop he hi' h).x
    · rename_i n e he
      split at hc <;> first | cases hc | skip
      rename_i i hi'
      exact (s_slA good hop he hi' h).x
    · cases hc
  | fieldAddr s x f =>
    simp only [copOf] at hc
    split at hc <;> first | cases hc | skip
    rename_i fs hs
    split at hc <;> first | cases hc | skip
    rename_i fd hf
    split at hc <;> first | cases hc | skip
    rename_i i hi
    split at hc <;> first | cases hc | skip
    rename_i h0
    exact (s_fld good hop hs hf hi h0 h).x
  | field s x f =>
    simp only [copOf] at hc
    split at hc <;> first | cases hc | skip
    rename_i fs hs
    split at hc <;> first | cases hc | skip
    rename_i fd hf
    split at hc <;> first | cases hc | skip
    rename_i d i hd hi
    split at hc <;> first | cases hc | skip
    · rename_i ha; exact (s_fldn good hop hs hf hd ha hi h).x
    · rename_i ha; exact (s_fldv good hop hs hf hd ha h).x
  | indexAddr t x y =>
    simp only [copOf] at hc
    split at hc
    · rename_i n e he
      split at hc <;> first | cases hc | skip
      rename_i i hi
      exact (s_ixA good hop he hi h).x
    · rename_i e he
      split at hc <;> first | cases hc | skip
      rename_i i hi
      exact (s_ixS good hop he hi h).x
    · cases hc
  | build t parts =>
    simp only [copOf] at hc
    split at hc
    · rename_i fs i ht hi
      split at hc <;> first | cases hc | skip
      rename_i z hz
      split at hc <;> first | cases hc | skip
      rename_i zs pl hs hp
      split at hc <;> first | cases hc | skip
      rename_i hall
      exact (s_mkS good hop ht hi hz hs (fun f hf => Option.isSome_iff_exists.1 (List.all_eq_true.1 hall f hf)) hp h).x
    · rename_i n e i ht hi
      split at hc <;> first | cases hc | skip
      rename_i z j hz hj
      split at hc <;> first | cases hc | skip
      rename_i zs pl hs hp
      exact (s_mkA good hop ht hi hz hs hj hp h).x
    · cases hc
  | buildSlice t len parts =>
    simp only [copOf] at hc
    split at hc <;> first | cases hc | skip
    rename_i e he
    split at hc <;> first | cases hc | skip
    rename_i j hj
    split at hc <;> first | cases hc | skip
    rename_i hsm
    split at hc <;> first | cases hc | skip
    rename_i z hz
    split at hc <;> first | cases hc | skip
    rename_i zs pl hs hp
    split at hc <;> cases hc
    · exact (s_mko good hop he hj hsm hz _ rfl hs hp h).x
    · exact (s_mks good hop he hj hsm hz _ rfl hs hp h).x
  | extract x i => cases hc; exact (s_ext good hop h).x
  | call c => exact call_sound good hcf hop hc h
  | _ => cases hc
end

end Go.Vm

namespace Go.Vm

/-! ### The code of a region -/

def badO : VO := ⟨none, none, .bad, []⟩

def voOf (P : Program) (all : Array Oper) (o : Oper) : VO :=
  match copOf P o.op with
  | some (vo, xs) => match argsOf xs with
    | some as => match o.guard with
      | none => ⟨o.dst, none, vo, as⟩
      | some (g, want) => match (all[g]?).bind (·.dst) with
        | some d => ⟨o.dst, some (d, want), vo, as⟩
        | none => badO
    | none => badO
  | none => badO

def vosOf (P : Program) (all : Array Oper) : List VO := all.toList.map (voOf P all)

/-- The slot that it fills and its guard are the operation's. -/
structure GuardOK (all : Array Oper) (o : Oper) (v : VO) : Prop where
  dst : v.dst = o.dst
  guard : (o.guard = none ∧ v.guard = none) ∨ ∃ g want d, o.guard = some (g, want) ∧ (all[g]?).bind (·.dst) = some d ∧ v.guard = some (d, want)

theorem voOf_ok (P : Program) (all : Array Oper) (o : Oper) : voOf P all o = badO ∨ (GuardOK all o (voOf P all o) ∧ ∃ xs, copOf P o.op = some ((voOf P all o).op, xs) ∧ argsOf xs = some (voOf P all o).args) := by
  unfold voOf
  split
  · rename_i vo xs hc
    split
    · rename_i as ha
      split
      · rename_i hg
        exact .inr ⟨⟨rfl, .inl ⟨hg, rfl⟩⟩, xs, hc, ha⟩
      · rename_i g want hg
        split
        · rename_i d hd
          exact .inr ⟨⟨rfl, .inr ⟨g, want, d, hg, hd, rfl⟩⟩, xs, hc, ha⟩
        · exact .inl rfl
    · exact .inl rfl
  · exact .inl rfl

/-- The slots that an operation of the machine looks at. -/
def readsA : List Arg → List Nat
  | [] => []
  | .t n :: as => n :: readsA as
  | .c _ :: as => readsA as
def readsOf (v : VO) : List Nat :=
  match v.guard with
  | some (d, _) => d :: readsA v.args
  | none => readsA v.args
def hasO : Option Nat → List Nat → Bool
  | some d, l => has d l
  | none, _ => false
def sameO : Option Nat → Option Nat → Bool
  | some d, some e => Nat.beq d e
  | _, _ => false
def slotClash (u v : VO) : Bool := hasO u.dst (readsOf v) || sameO u.dst v.dst || hasO v.dst (readsOf u)

/-- Do all pairs that share a slot stand in order? (The list from place i on.) -/
def slotsOne (bef : List Nat) (i : Nat) (u : VO) : Nat → List VO → Bool
  | _, [] => true
  | j, v :: vs => match slotClash u v with
    | true => match (slotN bef j).testBit i with
      | true => slotsOne bef i u (j + 1) vs
      | false => false
    | false => slotsOne bef i u (j + 1) vs
def slotsOK (bef : List Nat) : Nat → List VO → Bool
  | _, [] => true
  | i, u :: vs => match slotsOne bef i u (i + 1) vs with
    | true => slotsOK bef (i + 1) vs
    | false => false

/-! ### Small lists -/
theorem has_iff (n : Nat) (l : List Nat) : has n l = true ↔ n ∈ l := by
  induction l with
  | nil => simp [has]
  | cons x l ih =>
    unfold has
    cases h : Nat.beq x n
    · have hx : x ≠ n := by intro e; subst e; simp [Nat.beq_refl] at h
      simp only [ih, List.mem_cons]
      exact ⟨.inr, fun h => h.resolve_left (fun e => hx e.symm)⟩
    · have hx := Nat.eq_of_beq_eq_true h
      subst hx; simp
theorem meet_iff (l m : List Nat) : meet l m = true ↔ ∃ x, x ∈ l ∧ x ∈ m := by
  induction l with
  | nil => simp [meet]
  | cons x l ih =>
    unfold meet
    cases h : has x m
    · have hx : x ∉ m := fun hm => by have := (has_iff x m).2 hm; simp [h] at this
      simp only [ih, List.mem_cons]
      constructor
      · rintro ⟨y, a, b⟩; exact ⟨y, .inr a, b⟩
      · rintro ⟨y, a | a, b⟩
        · subst a; exact absurd b hx
        · exact ⟨y, a, b⟩
    · have := (has_iff x m).1 h
      simp only [true_iff]
      exact ⟨x, by simp, this⟩
theorem over_iff (n : Nat) (l : List Nat) : over n l = true ↔ ∃ x, x ∈ l ∧ n ≤ x := by
  induction l with
  | nil => simp [over]
  | cons x l ih =>
    unfold over
    cases h : Nat.blt x n
    · have hx : n ≤ x := by
        rcases Nat.lt_or_ge x n with h' | h'
        · have := (blt_iff _ _).2 h'; simp [h] at this
        · exact h'
      simp only [true_iff]
      exact ⟨x, by simp, hx⟩
    · have hx : x < n := (blt_iff _ _).1 h
      simp only [ih, List.mem_cons]
      constructor
      · rintro ⟨y, a, b⟩; exact ⟨y, .inr a, b⟩
      · rintro ⟨y, a | a, b⟩
        · subst a; omega
        · exact ⟨y, a, b⟩

theorem slotN_eq (l : List Nat) (i : Nat) : slotN l i = l[i]?.getD 0 := by
  induction l generalizing i with
  | nil => simp [slotN]
  | cons x l ih => cases i <;> simp [slotN, ih]

theorem slotsOne_ok {bef : List Nat} {i : Nat} {u : VO} : ∀ {vs : List VO} {j : Nat}, slotsOne bef i u j vs = true → ∀ k v, vs[k]? = some v → slotClash u v = true → (slotN bef (j + k)).testBit i = true
  | [], _, _, k, v, hv, _ => by simp at hv
  | x :: vs, j, h, k, v, hv, hc => by
    unfold slotsOne at h
    cases k with
    | zero =>
      simp at hv; subst hv
      rw [hc] at h
      simp only at h
      split at h
      · assumption
      · cases h
    | succ k =>
      have : slotsOne bef i u (j + 1) vs = true := by
        split at h
        · split at h
          · exact h
          · cases h
        · exact h
      have := slotsOne_ok this k v (by simpa using hv) hc
      rw [show j + (k + 1) = j + 1 + k by omega]; exact this

theorem slotsOK_ok {bef : List Nat} : ∀ {vs : List VO} {i : Nat}, slotsOK bef i vs = true → ∀ j k u v, vs[j]? = some u → vs[k]? = some v → j < k → slotClash u v = true → (slotN bef (i + k)).testBit (i + j) = true
  | [], _, _, j, k, u, v, hu, _, _, _ => by simp at hu
  | x :: vs, i, h, j, k, u, v, hu, hv, hjk, hc => by
    unfold slotsOK at h
    split at h
    · rename_i h1
      cases k with
      | zero => omega
      | succ k =>
        cases j with
        | zero =>
          simp at hu; subst hu
          have := slotsOne_ok h1 k v (by simpa using hv) hc
          rw [show i + (k + 1) = i + 1 + k by omega]; exact this
        | succ j =>
          have := slotsOK_ok h j k u v (by simpa using hu) (by simpa using hv) (by omega) hc
          rw [show i + (k + 1) = i + 1 + k by omega, show i + (j + 1) = i + 1 + j by omega]; exact this
    · cases h

/-! ### A run in the text's order -/

structure Tr where
  fr : Nat → Fr
  H : Nat → Hl
  r : Nat → AV
  T : Nat → List Nat
  F : Nat → List Nat
  run : Nat → Bool

structure StepAt (P : Program) (all : Array Oper) (o : Oper) (v : VO) (t : Tr) (j : Nat) : Prop where
  gd : GuardOK all o v
  fr : t.fr (j + 1) = setD (t.fr j) v.dst (t.r j)
  grow : (t.H j).length ≤ (t.H (j + 1)).length
  keep : ∀ b, b ∉ t.T j → (t.H (j + 1))[b]? = (t.H j)[b]?
  in_ : ∀ b, b ∈ t.T j → b < (t.H (j + 1)).length
  ran : t.run j = true → guardOf (t.fr j) v.guard = .run ∧ ∃ tch xs, t.T j = tch ++ news (t.H j).length (t.H (j + 1)).length ∧ copOf P o.op = some (v.op, xs) ∧ argsOf xs = some v.args ∧
    StepX P o (isCall v.op) xs (evs (t.fr j) v.args) (t.H j) (t.r j) (t.H (j + 1)) tch (t.F j) ∧
    (allT (scL (evs (t.fr j) v.args) (t.H j) (t.r j) (t.H (j + 1))) = true → StepX P o false xs (evs (t.fr j) v.args) (t.H j) (t.r j) (t.H (j + 1)) tch (t.F j))
  passed : t.run j = false → guardOf (t.fr j) v.guard = .pass ∧ t.r j = .tup [] ∧ t.T j = [] ∧ t.H (j + 1) = t.H j

/-- What must be so of a call. -/
noncomputable def oksOf (v : VO) (t : Tr) (j : Nat) : List Bool := scL (evs (t.fr j) v.args) (t.H j) (t.r j) (t.H (j + 1))

/-- What the machine noted down of it, the last operation first. -/
noncomputable def recs (vs : Nat → VO) (t : Tr) : Nat → List Rec
  | 0 => []
  | n + 1 => if t.run n = true then note n (t.T n) (t.F n) (limOf (vs n).op (t.H n).length (oksOf (vs n) t n)) (recs vs t n) else recs vs t n

theorem recs_congr {vs : Nat → VO} {t u : Tr} {n : Nat} (h : ∀ j, j < n → t.run j = u.run j ∧ t.T j = u.T j ∧ t.F j = u.F j ∧ t.H j = u.H j ∧ t.fr j = u.fr j ∧ t.r j = u.r j ∧ t.H (j + 1) = u.H (j + 1)) : recs vs t n = recs vs u n := by
  induction n with
  | zero => rfl
  | succ n ih =>
    obtain ⟨a, b, c, d, e, f, g⟩ := h n (by omega)
    simp only [recs, oksOf, a, b, c, d, e, f, g, ih (fun j hj => h j (by omega))]

theorem StepAt.congr {P : Program} {all : Array Oper} {o : Oper} {v : VO} {t u : Tr} {j : Nat} (h : StepAt P all o v t j) (h1 : u.fr j = t.fr j) (h2 : u.fr (j + 1) = t.fr (j + 1)) (h3 : u.H j = t.H j) (h4 : u.H (j + 1) = t.H (j + 1))
    (h5 : u.r j = t.r j) (h6 : u.T j = t.T j) (h7 : u.F j = t.F j) (h8 : u.run j = t.run j) : StepAt P all o v u j := by
  obtain ⟨a0, a, b, c, d, e, f⟩ := h
  rw [← h1, ← h2, ← h5] at a
  rw [← h3, ← h4] at b
  rw [← h3, ← h4, ← h6] at c
  rw [← h4, ← h6] at d
  rw [← h1, ← h3, ← h4, ← h5, ← h6, ← h7, ← h8] at e
  rw [← h1, ← h3, ← h4, ← h5, ← h6, ← h8] at f
  exact ⟨a0, a, b, c, d, e, f⟩

def Tr.ext (t : Tr) (i : Nat) (fr : Fr) (H : Hl) (r : AV) (T F : List Nat) (run : Bool) : Tr where
  fr k := if k = i + 1 then fr else t.fr k
  H k := if k = i + 1 then H else t.H k
  r k := if k = i then r else t.r k
  T k := if k = i then T else t.T k
  F k := if k = i then F else t.F k
  run k := if k = i then run else t.run k

theorem Tr.ext_old {P : Program} {all : Array Oper} {o : Oper} {v : VO} {t : Tr} {i j : Nat} {fr : Fr} {H : Hl} {r : AV} {T F : List Nat} {run : Bool} (hj : j < i) (h : StepAt P all o v t j) : StepAt P all o v (t.ext i fr H r T F run) j :=
  h.congr (by simp [Tr.ext]; omega) (by simp [Tr.ext]; omega) (by simp [Tr.ext]; omega) (by simp [Tr.ext]; omega) (by simp [Tr.ext]; omega) (by simp [Tr.ext]; omega) (by simp [Tr.ext]; omega) (by simp [Tr.ext]; omega)

section
variable {R : Type} {A : Alg R} {holds : R → Prop} (good : A.Good holds) {P : Program} {cf : CallF R} (hcf : CallOK P holds cf)
include good hcf

theorem vops_sound {k : Fr → Hl → List Nat → List Rec → R} (all : Array Oper) (vf : Nat → VO) (hvf : ∀ j o, all[j]? = some o → vf j = voOf P all o) (H0 : Hl) (lg0 : List Nat) :
    ∀ (os : List Oper) (i : Nat) (t : Tr) (lg : List Nat), (∀ j, os[j]? = all[i + j]?) → (∀ j o, j < i → all[j]? = some o → StepAt P all o (vf j) t j) →
      (∀ b, b ∈ lg0 → b ∈ lg) → (∀ b, b < H0.length → b ∉ lg → (t.H i)[b]? = H0[b]?) → H0.length ≤ (t.H i).length →
      holds (vops A ops0 cf i (os.map (voOf P all)) (t.fr i) (t.H i) lg (recs vf t i) k) →
      ∃ t' lg', t'.fr 0 = t.fr 0 ∧ t'.H 0 = t.H 0 ∧ (∀ j o, j < i + os.length → all[j]? = some o → StepAt P all o (vf j) t' j) ∧ (∀ b, b ∈ lg0 → b ∈ lg') ∧
        (∀ b, b < H0.length → b ∉ lg' → (t'.H (i + os.length))[b]? = H0[b]?) ∧ H0.length ≤ (t'.H (i + os.length)).length ∧
        holds (k (t'.fr (i + os.length)) (t'.H (i + os.length)) lg' (recs vf t' (i + os.length)))
  | [], i, t, lg, _, hold, hlg, hkeep, hgrow, h => ⟨t, lg, rfl, rfl, by simpa using hold, hlg, by simpa using hkeep, by simpa using hgrow, h⟩
  | o :: os, i, t, lg, hos, hold, hlg, hkeep, hgrow, h => by
    have ho : all[i]? = some o := by have := hos 0; simpa using this.symm
    have hv : vf i = voOf P all o := hvf i o ho
    have hos' : ∀ j, os[j]? = all[i + 1 + j]? := fun j => by
      have := hos (j + 1)
      rw [show i + (j + 1) = i + 1 + j by omega] at this
      simpa using this
    simp only [List.map_cons] at h
    rw [← hv] at h
    have hlen : i + (o :: os).length = i + 1 + os.length := by simp; omega
    rw [hlen]
    generalize hgd : guardOf (t.fr i) (vf i).guard = gd at *
    -- what comes of it: one step, and the rest
    have fin : ∀ (fr' : Fr) (H' : Hl) (r : AV) (T F : List Nat) (run : Bool) (lg' : List Nat), StepAt P all o (vf i) (t.ext i fr' H' r T F run) i → (∀ b, b ∈ lg → b ∈ lg') → (∀ b, b < H0.length → b ∉ lg' → H'[b]? = H0[b]?) → H0.length ≤ H'.length →
        holds (vops A ops0 cf (i + 1) (os.map (voOf P all)) fr' H' lg' (recs vf (t.ext i fr' H' r T F run) (i + 1)) k) →
        ∃ t' lg', t'.fr 0 = t.fr 0 ∧ t'.H 0 = t.H 0 ∧ (∀ j o, j < i + 1 + os.length → all[j]? = some o → StepAt P all o (vf j) t' j) ∧ (∀ b, b ∈ lg0 → b ∈ lg') ∧
          (∀ b, b < H0.length → b ∉ lg' → (t'.H (i + 1 + os.length))[b]? = H0[b]?) ∧ H0.length ≤ (t'.H (i + 1 + os.length)).length ∧
          holds (k (t'.fr (i + 1 + os.length)) (t'.H (i + 1 + os.length)) lg' (recs vf t' (i + 1 + os.length))) := by
      intro fr' H' r T F run lg' hst hsub hk hg h
      have e1 : (t.ext i fr' H' r T F run).fr (i + 1) = fr' := by simp [Tr.ext]
      have e2 : (t.ext i fr' H' r T F run).H (i + 1) = H' := by simp [Tr.ext]
      obtain ⟨t', lg2, a, b, c, d, e, f, g⟩ := vops_sound all vf hvf H0 lg0 os (i + 1) (t.ext i fr' H' r T F run) lg' hos' (fun j o' hj ho' => by
          rcases Nat.lt_or_ge j i with h' | h'
          · exact Tr.ext_old h' (hold j o' h' ho')
          · have : j = i := by omega
            subst this
            rw [ho] at ho'; cases ho'
            exact hst) (fun b hb => hsub b (hlg b hb)) (by rw [e2]; exact hk) (by rw [e2]; exact hg) (by rw [e1, e2]; exact h)
      refine ⟨t', lg2, a.trans (by simp [Tr.ext]), b.trans (by simp [Tr.ext]), c, d, e, f, g⟩
    unfold vops at h
    rw [hgd] at h
    cases gd with
    | bad => exact (good.fail h).elim
    | pass =>
      have hgk : GuardOK all o (vf i) := by
        rcases voOf_ok P all o with hb | hb
        · rw [hv, hb] at hgd; cases hgd
        · rw [hv]; exact hb.1
      refine fin (setD (t.fr i) (vf i).dst (.tup [])) (t.H i) (.tup []) [] [] false lg ⟨hgk, ?_, ?_, ?_, ?_, ?_, ?_⟩ (fun b hb => hb) hkeep hgrow ?_
      · simp [Tr.ext]
      · simp [Tr.ext]
      · intro b _; simp [Tr.ext]
      · intro b hb; simp [Tr.ext] at hb
      · intro hr; simp [Tr.ext] at hr
      · intro _; refine ⟨?_, ?_, ?_, ?_⟩ <;> simp [Tr.ext, hgd]
      · have e : recs vf (t.ext i (setD (t.fr i) (vf i).dst (.tup [])) (t.H i) (.tup []) [] [] false) (i + 1) = recs vf t i := by
          have : recs vf (t.ext i (setD (t.fr i) (vf i).dst (.tup [])) (t.H i) (.tup []) [] [] false) i = recs vf t i := recs_congr (fun j hj => by refine ⟨?_, ?_, ?_, ?_, ?_, ?_, ?_⟩ <;> simp [Tr.ext] <;> omega)
          simp only [recs, this]
          simp [Tr.ext]
        rw [e]; exact h
    | run =>
      obtain ⟨hgk, xs, hc, ha⟩ : GuardOK all o (vf i) ∧ ∃ xs, copOf P o.op = some ((vf i).op, xs) ∧ argsOf xs = some (vf i).args := by
        rcases voOf_ok P all o with hb | hb
        · rw [hv, hb] at h
          exact (good.fail h).elim
        · rw [hv]; exact hb
      obtain ⟨r, H', tch, ft, h, hs, hs2⟩ := ex_sound good hcf hc h
      rw [size_eq, size_eq, join_eq, join_eq] at h
      refine fin (setD (t.fr i) (vf i).dst r) H' r (tch ++ news (t.H i).length H'.length) ft true (tch ++ lg) ⟨hgk, ?_, ?_, ?_, ?_, ?_, ?_⟩ (fun b hb => List.mem_append_right _ hb) ?_ (Nat.le_trans hgrow hs.grow) ?_
      · simp [Tr.ext]
      · simpa [Tr.ext] using hs.grow
      · intro b hb
        simp only [Tr.ext, if_true, List.mem_append, mem_news] at hb ⊢
        rw [if_neg (by omega)]
        rcases Nat.lt_or_ge b (t.H i).length with h' | h'
        · exact hs.keep b h' fun hb' => hb (.inl hb')
        · have : H'.length ≤ b := by
            rcases Nat.lt_or_ge b H'.length with h2 | h2
            · exact absurd (.inr ⟨h', h2⟩) hb
            · exact h2
          rw [List.getElem?_eq_none h', List.getElem?_eq_none this]
      · intro b hb
        simp only [Tr.ext, if_true, List.mem_append, mem_news] at hb ⊢
        rcases hb with hb | hb
        · exact Nat.lt_of_lt_of_le (hs.old b hb) hs.grow
        · exact hb.2
      · intro _
        refine ⟨by simpa [Tr.ext] using hgd, tch, xs, ?_, hc, ha, ?_, ?_⟩
        · simp [Tr.ext]
        · simpa [Tr.ext] using hs
        · simpa [Tr.ext] using hs2
      · intro hr; simp [Tr.ext] at hr
      · intro b hb hn
        rw [List.mem_append] at hn
        rw [hs.keep b (Nat.lt_of_lt_of_le hb hgrow) (fun h' => hn (.inl h'))]
        exact hkeep b hb fun h' => hn (.inr h')
      · have e : recs vf (t.ext i (setD (t.fr i) (vf i).dst r) H' r (tch ++ news (t.H i).length H'.length) ft true) (i + 1) =
            note i (tch ++ news (t.H i).length H'.length) ft (limOf (vf i).op (t.H i).length (scL (evs (t.fr i) (vf i).args) (t.H i) r H')) (recs vf t i) := by
          have : recs vf (t.ext i (setD (t.fr i) (vf i).dst r) H' r (tch ++ news (t.H i).length H'.length) ft true) i = recs vf t i := recs_congr (fun j hj => by refine ⟨?_, ?_, ?_, ?_, ?_, ?_, ?_⟩ <;> simp [Tr.ext] <;> omega)
          simp only [recs, this, oksOf]
          simp [Tr.ext]
        rw [e]; exact h
end

end Go.Vm
