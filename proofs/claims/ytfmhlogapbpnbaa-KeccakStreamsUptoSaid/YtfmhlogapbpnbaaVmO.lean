/-
  A VERIFIED SYMBOLIC MACHINE, PART O: append and copy do what the model's do.
-/
import Derived.Test.YtfmhlogapbpnbaaVmN
namespace Go.Vm

theorem lies_append {ρ : Rho} {w : World} {xs ys : List AV} {us vs : List Value} {zs : Array Value} (hl : us.length = xs.length) (h1 : Lies ρ w xs 0 us.toArray) (h2 : Lies ρ w ys 0 vs.toArray) :
    Lies ρ w (xs ++ ys) 0 (us.toArray ++ vs.toArray ++ zs) := by
  intro i a hi
  have hys : ∀ i a, ys[i]? = some a → i < vs.length := by
    intro i a h
    obtain ⟨v, hv, _⟩ := h2 i a h
    simp at hv
    exact (List.getElem?_eq_some_iff.1 hv).1
  by_cases h : i < xs.length
  · rw [List.getElem?_append_left h] at hi
    obtain ⟨v, p, q, r⟩ := h1 i a hi
    refine ⟨v, ?_, q, r⟩
    rw [Array.getElem?_append_left (by simp; omega), Array.getElem?_append_left (by simp; omega)]
    exact p
  · rw [List.getElem?_append_right (by omega)] at hi
    obtain ⟨v, p, q, r⟩ := h2 _ a hi
    have := hys _ a hi
    refine ⟨v, ?_, q, r⟩
    rw [Array.getElem?_append_left (by simp; omega), Array.getElem?_append_right (by simp; omega)]
    simp only [List.size_toArray]
    rw [hl, show 0 + i - xs.length = 0 + (i - xs.length) by omega]
    exact p

theorem take_all {α : Type} {l : List α} {n : Nat} (h : l.length = n) : l.take n = l := List.take_of_length_le (by omega)

theorem drawn_elems {P : Program} {ρ : Rho} {w : World} {sz n : Nat} {v : Value} {cs : List AV} (h : ∀ d, Elems P ρ { w with drawn := d } sz v cs n) :
    ∃ vs : List Value, vs.length = n * sz ∧ (∀ d, (Builtin.firstCells sz n v).run P { w with drawn := d } = .ok vs.toArray { w with drawn := d }) ∧ Lies ρ w cs 0 vs.toArray ∧ ∀ v ∈ vs, vone v = true := by
  obtain ⟨vs, h1, h2, h3, h4⟩ := (h w.drawn).first n (Nat.le_refl _)
  have hcl := (h w.drawn).len
  refine ⟨vs, h1, fun d => ?_, ?_, h4⟩
  · obtain ⟨us, g1, g2, _, _⟩ := (h d).first n (Nat.le_refl _)
    have : ∀ (d d' : Nat) r, (Builtin.firstCells sz n v).run P { w with drawn := d } = .ok r { w with drawn := d } → (Builtin.firstCells sz n v).run P { w with drawn := d' } = .ok r { w with drawn := d' } := by
      intro d d' r hr
      cases v with
      | slice ao l c =>
        cases ao with
        | none => simpa [Builtin.firstCells] using hr
        | some a =>
          simp only [Builtin.firstCells] at hr ⊢
          unfold loadCells at hr ⊢
          have gen : ∀ (m i : Nat) (acc : Array Value) r, (loadCellsFrom a i m acc).run P { w with drawn := d } = .ok r { w with drawn := d } → (loadCellsFrom a i m acc).run P { w with drawn := d' } = .ok r { w with drawn := d' } := by
            intro m
            induction m with
            | zero => intro i acc r h; simpa [loadCellsFrom] using h
            | succ m ih =>
              intro i acc r h
              simp only [loadCellsFrom, Sem.run_bind, run_load] at h ⊢
              have hc : ({ w with drawn := d } : World).cell? (a.add i) = ({ w with drawn := d' } : World).cell? (a.add i) := rfl
              have hfar : ({ w with drawn := d } : World).farLoad P (a.add i) (Mode.plain == Mode.atomic) = ({ w with drawn := d' } : World).farLoad P (a.add i) (Mode.plain == Mode.atomic) := rfl
              rw [hc] at h
              cases hcc : ({ w with drawn := d' } : World).cell? (a.add i) with
              | some v =>
                rw [hcc] at h
                simp only [Result.andThen_ok] at h ⊢
                exact ih _ _ _ h
              | none =>
                rw [hcc] at h
                simp only [] at h ⊢
                rw [hfar] at h
                cases hff : ({ w with drawn := d' } : World).farLoad P (a.add i) (Mode.plain == Mode.atomic) with
                | ok x =>
                  rw [hff] at h
                  obtain ⟨v, _⟩ := x
                  simp only [Result.andThen_ok] at h ⊢
                  exact ih _ _ _ h
                | error e =>
                  rw [hff] at h
                  simp at h
          exact gen _ _ _ _ hr
      | string s => simpa [Builtin.firstCells] using hr
      | _ => simp [Builtin.firstCells] at hr
    exact this w.drawn d _ h2
  · rw [take_all hcl] at h3
    exact h3

section
variable {P : Program} {t u e : TypeId} {j : TypeInfo} {z : Value}

theorem zeros_size (n : Nat) (zc : Array Value) : (Builtin.zeroCells zc n).size = n * zc.size := by simp [Builtin.zeroCells]

theorem upd_two {g : Hp} {H : Hl} {b : Nat} {k k' : Blk} (hb : b < H.length) : upd g (H.set b k ++ [k']) ([b] ++ news H.length (H.set b k ++ [k']).length) = one (one g b k) H.length k' := by
  funext i
  simp only [upd, one, List.length_append, List.length_set, List.length_cons, List.length_nil, Nat.zero_add, news_succ, List.mem_append, List.mem_singleton]
  by_cases h : i = H.length
  · subst h
    simp
  · by_cases h2 : i = b
    · subst h2
      rw [if_pos (.inl rfl), if_neg h, if_pos rfl, List.getElem?_append_left (by simpa using hb)]
      simp [hb]
    · rw [if_neg (by simp [h, h2]), if_neg h, if_neg h2]
end

section
variable {R : Type} {A : Alg R} {holds : R → Prop} (good : A.Good holds) {P : Program} {o : Oper} {avs : List AV} {H : Hl} {cf : CallF R} {k : ExK R}
include good

theorem s_app {x y : Operand} {t u e : TypeId} {j : TypeInfo} {z : Value} (ho : o.op = .call { callee := .builtin .append, args := #[x, y], argTypes := #[t, u] }) (T : AppT P t u e j z)
    (h : holds (ex A ops0 cf H (.app j.size j.bytes) avs k)) : Does P o [x, y] avs H fun r H' t f => holds (k r H' t f) := by
  have hex : ∀ (a : Act) (w : World), (execOp a.eval o).run P w = (builtin .append #[t, u] o.type (#[x, y].map fun | .const _ => true | _ => false) #[a.eval x, a.eval y]).run P w := by
    intro a w
    rw [run_builtin ho]
    simp
    rfl
  -- onto nothing
  have bare : ∀ {xa ya : AV}, (∀ ρ w v, VRel ρ w xa v → ∃ ao, v = .slice ao 0 0) →
      holds (elemsK A ops0 H j.size ya fun cs n ft => A.chk (ops0.room 0 n j.bytes) (k (.slc (size H) 0 n n j.size) (join H [.cells cs]) [] ft)) → Does P o [x, y] [xa, ya] H fun r H' t f => holds (k r H' t f) := by
    intro xa ya hxa h
    obtain ⟨cs, n, ft, h, hel⟩ := elemsK_sound good h
    obtain ⟨hroom, h⟩ := good.chk _ _ h
    rw [size_eq, join_eq] at h
    refine ⟨_, _, _, _, h, ⟨by simp, (fun b hb => by cases hb), fun b hb _ => by rw [List.getElem?_append_left hb], ?_⟩⟩
    intro ρ w a g hx hf _ hn hg
    obtain ⟨ao, hve⟩ := hxa ρ w _ hx.two.1
    have E : ∀ d, Elems P ρ { w with drawn := d } j.size (a.eval y) cs n := fun d => hel P ρ _ g _ (ext_bound (drew_ext ρ w d) hx.two.2) hf (hg.drew d)
    obtain ⟨vs, hvl, hvr, hvli, hvo⟩ := drawn_elems E
    have hcl := (E w.drawn).len
    have hN : g H.length = none := hn _ (Nat.le_refl _) (by simp)
    by_cases hn0 : n = 0
    · subst hn0
      have hcs : cs = [] := List.eq_nil_of_length_eq_zero (by omega)
      have hvs : vs = [] := List.eq_nil_of_length_eq_zero (by omega)
      subst hcs; subst hvs
      have hrun : (execOp a.eval o).run P w = .ok (.value (.slice ao 0 0)) w := by
        rw [hex, hve, run_append_in T (E w.drawn).lenOf (hvr w.drawn) (Nat.le_refl _)]
        cases ao <;> simp [storeCells]
      obtain ⟨R, E2⟩ := hg.nothing hN
      refine OpDo.value hrun ⟨_, ?_, ?_, E2⟩
      · rw [upd_one]; exact R
      · exact .slc _ _ _ _ _ _ (by simp [rho1]) ⟨ao, 0, rfl, Nat.le_refl _, Nat.le_refl _, by simp⟩ (fun _ => ⟨ao, rfl, rfl, rfl⟩) (by simp [rho1])
    · obtain ⟨N, d, hNn, hrun⟩ := run_append_new (ty := o.type) (cs := #[x, y].map fun | .const _ => true | _ => false) T (ao := ao) (len := 0) (cap := 0) (us := []) (E w.drawn).lenOf hvr
        (fun d => by cases ao <;> simp [Builtin.firstCells, loadCells, loadCellsFrom]) (by omega) hroom
      rw [Nat.zero_add] at hNn hrun
      have hsz : (([] : List Value).toArray ++ vs.toArray ++ Builtin.zeroCells z.cells (N - n)).size = N * j.size := by
        simp only [List.append_toArray, Array.size_append, List.size_toArray, List.nil_append, zeros_size, T.zs, hvl]
        rw [← Nat.add_mul]; congr 1; omega
      have hc : Lies ρ w cs 0 (([] : List Value).toArray ++ vs.toArray ++ Builtin.zeroCells z.cells (N - n)) := by
        have := lies_append (ρ := ρ) (w := w) (xs := []) (us := []) (zs := Builtin.zeroCells z.cells (N - n)) rfl (fun i a h => by simp at h) hvli
        simpa using this
      have R := (hg.alloc hN (e := e) (by rw [hsz, hcl]; exact Nat.mul_le_mul_right _ hNn) hc).drew d
      have E2 : ∀ n', Ext n' ρ w (rho1 ρ H.length (.live w.heap.size 0)) { w with heap := w.heap.push (.cells (([] : List Value).toArray ++ vs.toArray ++ Builtin.zeroCells z.cells (N - n)) e) } := alloc_ext hg hN _ _ (by intro B F h; cases h; rfl)
      refine OpDo.value (by rw [hex, hve]; exact hrun) ⟨rho1 ρ H.length (.live w.heap.size 0), ?_, ?_, fun n' => (E2 n').trans (drew_ext _ _ d n')⟩
      · rw [upd_one]; exact R
      · refine .slc _ _ _ _ _ _ (by simp [rho1]) ⟨_, N, rfl, hNn, hNn, fun _ => ⟨_, _, rfl⟩⟩ (by simp [rho1]) ?_
        intro B F hl
        simp [rho1] at hl
        obtain ⟨rfl, rfl⟩ := hl
        refine ⟨_, N, hNn, hNn, rfl, fun _ => rfl, ?_⟩
        have hrows : rows { w with heap := w.heap.push (.cells (([] : List Value).toArray ++ vs.toArray ++ Builtin.zeroCells z.cells (N - n)) e), drawn := d } w.heap.size = N * j.size := by
          rw [← hsz]; exact rows_here (by simp; exact ⟨rfl, rfl⟩)
        rw [hrows]; omega
  rcases avs with _ | ⟨xa, _ | ⟨ya, _ | ⟨_, _⟩⟩⟩
  · exact (good.fail h).elim
  · cases xa with
    | ros cells off len cap exact => cases len <;> first | exact (good.fail h).elim | (cases cap <;> first | exact (good.fail h).elim | (cases exact <;> exact (good.fail h).elim))
    | _ => exact (good.fail h).elim
  · cases xa with
    | nils => exact bare (fun ρ w v hv => ⟨none, inv_nils hv⟩) h
    | ros cells off len cap exact =>
      cases len with
      | succ _ => exact (good.fail h).elim
      | zero =>
        cases cap with
        | succ _ => exact (good.fail h).elim
        | zero =>
          cases exact with
          | false => exact (good.fail h).elim
          | true =>
            refine bare (fun ρ w v hv => ?_) h
            cases hv with
            | ros _ _ _ _ _ B F ao cap' vs hlt hp hl ho' hc hr hcap hlen he ha =>
              have := he rfl
              subst this
              exact ⟨ao, rfl⟩
    | slc b of len cap sz' =>
      simp only [ex, xApp] at h
      split at h
      case h_2 => exact (good.fail h).elim
      rename_i hsz
      have hsz := Nat.eq_of_beq_eq_true hsz
      subst hsz
      obtain ⟨bs, hb, h⟩ := blkK_sound good h
      obtain ⟨hle, h⟩ := good.chk _ _ h
      have hle : of + len * j.size ≤ bs.length := by simpa [ops0] using hle
      obtain ⟨cs, n, ft, h, hel⟩ := elemsK_sound good h
      obtain ⟨hroom, h⟩ := good.chk _ _ h
      rw [size_eq, join_eq, put_eq] at h
      have hbl := (List.getElem?_eq_some_iff.1 hb).1
      refine ⟨_, _, _, _, h, ⟨by simp, (fun i hi => by simp at hi; subst hi; exact hbl), fun i hi hn => ?_, ?_⟩⟩
      · simp at hn
        rw [List.getElem?_append_left (by simpa using hi), List.getElem?_set_ne (fun h => hn h.symm)]
      intro ρ w a g hx hf _ hn hg
      have hgb : g b = some (.cells bs) := (hf b (by simp)).trans hb
      have hft : agree g H ft := fun i hi => hf i (by simp [hi])
      have hN : g H.length = none := hn _ (Nat.le_refl _) (by simp)
      have hbN : b ≠ H.length := by omega
      have E : ∀ d, Elems P ρ { w with drawn := d } j.size (a.eval y) cs n := fun d => hel P ρ _ g _ (ext_bound (drew_ext ρ w d) hx.two.2) hft (hg.drew d)
      have S : ∀ d, Elems P ρ { w with drawn := d } j.size (a.eval x) ((bs.drop of).take (len * j.size)) len := fun d => slc_elems (hg.drew d) hgb (ext_bound (drew_ext ρ w d) hx.two.1) hle
      obtain ⟨vs, hvl, hvr, hvli, hvo⟩ := drawn_elems E
      obtain ⟨us, hul, hur, huli, huo⟩ := drawn_elems S
      have hcl := (E w.drawn).len
      have hsl := (S w.drawn).len
      have hxv := hx.two.1
      generalize hve : a.eval x = ve at hxv hur
      show OpDo P o a w (fun v w' => ∃ ρ', HRel ρ' w' (upd g (H.set b .dead ++ [Blk.cells ((bs.drop of).take (len * j.size) ++ cs)]) ([b] ++ news H.length (H.set b .dead ++ [Blk.cells ((bs.drop of).take (len * j.size) ++ cs)]).length)) ∧
        VRel ρ' w' (.slc H.length 0 (len + n) (len + n) j.size) v ∧ ∀ n, Ext n ρ w ρ' w')
      rw [upd_two hbl]
      cases hxv with
      | slc _ _ _ _ _ _ h0 hs hvo2 hh =>
        obtain ⟨ao, cap', rfl, g1, g2, g3⟩ := hs
        by_cases hcap : len + n ≤ cap'
        · -- there is room
          have hrun0 := run_append_in (ty := o.type) (cs := #[x, y].map fun | .const _ => true | _ => false) T (w := w) (ao := ao) (E w.drawn).lenOf (hvr w.drawn) hcap
          by_cases hc0 : cap' = 0
          · subst hc0
            have hl0 : len = 0 := by omega
            have hn0 : n = 0 := by omega
            subst hl0; subst hn0
            have hcs : cs = [] := List.eq_nil_of_length_eq_zero (by omega)
            have hvs : vs = [] := List.eq_nil_of_length_eq_zero (by omega)
            subst hcs; subst hvs
            have hrun : (execOp a.eval o).run P w = .ok (.value (.slice ao 0 0)) w := by
              rw [hex, hve, hrun0]
              cases ao <;> simp [storeCells]
            obtain ⟨R1, E1⟩ := hg.kill hgb
            obtain ⟨R2, E2⟩ := R1.nothing (N := H.length) (by simp only [one, if_neg hbN.symm]; exact hN)
            refine OpDo.value hrun ⟨_, ?_, ?_, fun m => (E1 m).trans (E2 m)⟩
            · simpa using R2
            · exact .slc _ _ _ _ _ _ (by simp [rho1]) ⟨ao, 0, rfl, Nat.le_refl _, Nat.le_refl _, by simp⟩ (fun _ => ⟨ao, rfl, rfl, rfl⟩) (by simp [rho1])
          · rcases hg.live b bs hgb with ⟨hvd, _⟩ | ⟨B, F, c, e', lo, hi, hl, hc, hsz, hfz, hli⟩
            · obtain ⟨ao', q1, _, _⟩ := hvo2 hvd
              cases q1; exact absurd rfl hc0
            · obtain ⟨ao', cap2, q1, q2, q3, q4, q5⟩ := hh B F hl
              cases q3
              have := q4 hc0
              subst this
              rw [rows_here hc] at q5
              have hmul : (len + n) * j.size ≤ cap' * j.size := Nat.mul_le_mul_right _ hcap
              have hmul2 : (len + n) * j.size = len * j.size + n * j.size := Nat.add_mul _ _ _
              obtain ⟨w', hrs, hw⟩ := run_storeCells' (P := P) (X := F + of + len * j.size) vs 0 c w hc (by omega) (fun i h1 h2 => hfz i (by omega) h2) hvo
              have hrun : (execOp a.eval o).run P w = .ok (.value (.slice (some ⟨B, F + of, none⟩) (len + n) cap')) w' := by
                rw [hex, hve, hrun0]
                simp only [add_at, hrs, Result.andThen_ok]
              have hcs : (spliceL c.toList (F + of + len * j.size + 0) vs).toArray.size = c.size := by
                have := splice_length c.toList (F + of + len * j.size + 0) vs (by simp; omega)
                simpa using this
              have hlies : Lies ρ w ((bs.drop of).take (len * j.size) ++ cs) (F + of) (spliceL c.toList (F + of + len * j.size + 0) vs).toArray := by
                intro i b' hi
                have hg2 := splice_get c.toList (F + of + len * j.size + 0) vs (by simp; omega) (F + of + i)
                simp only [List.getElem?_toArray]
                rw [hg2]
                by_cases hil : i < len * j.size
                · rw [List.getElem?_append_left (by omega)] at hi
                  rw [if_pos (by omega)]
                  obtain ⟨v, p, q, r⟩ := (Lies.sub (show Lies ρ w bs F c from hli) of (len * j.size)) i b' hi
                  exact ⟨v, by simpa using p, q, r⟩
                · rw [List.getElem?_append_right (by omega), hsl] at hi
                  have hin : i - len * j.size < cs.length := (List.getElem?_eq_some_iff.1 hi).1
                  rw [if_neg (by omega), if_pos (by omega)]
                  obtain ⟨v, p, q, r⟩ := hvli _ b' hi
                  refine ⟨v, ?_, q, r⟩
                  rw [show F + of + i - (F + of + len * j.size + 0) = 0 + (i - len * j.size) by omega]
                  simpa using p
              obtain ⟨R2, E2⟩ := hg.move (X := F + of) hgb hN hl hc (fun i h1 h2 => hfz i (by omega) h2) hw hcs (by simp only [List.length_append]; omega) hlies
              refine OpDo.value hrun ⟨_, R2, ?_, E2⟩
              refine .slc _ _ _ _ _ _ (by simp [rho1]) ⟨_, cap', rfl, hcap, hcap, fun _ => ⟨_, _, rfl⟩⟩ (by simp [rho1]) ?_
              intro B2 F2 hl2
              simp [rho1] at hl2
              obtain ⟨rfl, rfl⟩ := hl2
              refine ⟨_, cap', hcap, hcap, rfl, fun _ => rfl, ?_⟩
              rw [rows_here hw.here, hcs]
              omega
        · -- it grows
          obtain ⟨N, d, hNn, hrun⟩ := run_append_new (ty := o.type) (cs := #[x, y].map fun | .const _ => true | _ => false) T (ao := ao) (len := len) (cap := cap') (E w.drawn).lenOf hvr hur hcap hroom
          have hsz : (us.toArray ++ vs.toArray ++ Builtin.zeroCells z.cells (N - (len + n))).size = N * j.size := by
            simp only [List.append_toArray, Array.size_append, List.size_toArray, List.length_append, zeros_size, T.zs, hvl, hul]
            rw [← Nat.add_mul, ← Nat.add_mul]; congr 1; omega
          obtain ⟨R1, E1⟩ := hg.kill hgb
          have hc : Lies (rho1 ρ b .dead) w ((bs.drop of).take (len * j.size) ++ cs) 0 (us.toArray ++ vs.toArray ++ Builtin.zeroCells z.cells (N - (len + n))) := lies_bound E1 (lies_append (by omega) huli hvli)
          have hN1 : one g b .dead H.length = none := by simp only [one, if_neg hbN.symm]; exact hN
          have R := (R1.alloc hN1 (e := e) (by rw [hsz, List.length_append, hsl, hcl, ← Nat.add_mul]; exact Nat.mul_le_mul_right _ hNn) hc).drew d
          have E2 : ∀ n', Ext n' (rho1 ρ b .dead) w (rho1 (rho1 ρ b .dead) H.length (.live w.heap.size 0)) { w with heap := w.heap.push (.cells (us.toArray ++ vs.toArray ++ Builtin.zeroCells z.cells (N - (len + n))) e) } :=
            alloc_ext R1 hN1 _ _ (by intro B F h; cases h; rfl)
          refine OpDo.value (by rw [hex, hve]; exact hrun) ⟨_, R, ?_, fun n' => ((E1 n').trans (E2 n')).trans (drew_ext _ _ d n')⟩
          refine .slc _ _ _ _ _ _ (by simp [rho1]) ⟨_, N, rfl, hNn, hNn, fun _ => ⟨_, _, rfl⟩⟩ (by simp [rho1]) ?_
          intro B F hl
          simp [rho1] at hl
          obtain ⟨rfl, rfl⟩ := hl
          refine ⟨_, N, hNn, hNn, rfl, fun _ => rfl, ?_⟩
          have hrows : rows { w with heap := w.heap.push (.cells (us.toArray ++ vs.toArray ++ Builtin.zeroCells z.cells (N - (len + n))) e), drawn := d } w.heap.size = N * j.size := by
            rw [← hsz]; exact rows_here (by simp; exact ⟨rfl, rfl⟩)
          rw [hrows]; omega
    | _ => exact (good.fail h).elim
  · cases xa with
    | ros cells off len cap exact => cases len <;> first | exact (good.fail h).elim | (cases cap <;> first | exact (good.fail h).elim | (cases exact <;> exact (good.fail h).elim))
    | _ => exact (good.fail h).elim

omit good in
theorem run_copy {t u e : TypeId} {j : TypeInfo} (ht : P.underlying t = some (.slice e)) (hj : P.info? e = some j) {ty : TypeId} {cs : Array Bool} {w : World} {ao : Option Addr} {len cap n : Nat} {x : Value} {vs : List Value}
    (hn : (Builtin.lenOf x).run P w = .ok n w) (hf : (Builtin.firstCells j.size (Nat.min n len) x).run P w = .ok vs.toArray w) :
    (builtin .copy #[t, u] ty cs #[.slice ao len cap, x]).run P w =
      (match ao with | some a => (storeCells a vs).run P w | none => .ok () w).andThen fun _ w' => .ok (.value (.int .i64 ((Nat.min n len : Nat) : Int))) w' := by
  simp only [builtin, Builtin.copy_, List.getElem?_toArray, List.getElem?_cons_zero, List.getElem?_cons_succ, Sem.run_bind, run_underlying ht, Result.andThen_ok, run_size hj, Sem.run_pure, hn, hf]
  cases ao with
  | none => simp [goInt]
  | some a => simp only [Sem.run_bind, Sem.run_pure, goInt]; cases (storeCells a vs).run P w <;> rfl

theorem s_cpy {x y : Operand} {t u e : TypeId} {j : TypeInfo} (ho : o.op = .call { callee := .builtin .copy, args := #[x, y], argTypes := #[t, u] }) (ht : P.underlying t = some (.slice e)) (hj : P.info? e = some j)
    (h : holds (ex A ops0 cf H (.cpy j.size) avs k)) : Does P o [x, y] avs H fun r H' t f => holds (k r H' t f) := by
  have hex : ∀ (a : Act) (w : World), (execOp a.eval o).run P w = (builtin .copy #[t, u] o.type (#[x, y].map fun | .const _ => true | _ => false) #[a.eval x, a.eval y]).run P w := by
    intro a w
    rw [run_builtin ho]
    simp
    rfl
  rcases avs with _ | ⟨xa, _ | ⟨ya, _ | ⟨_, _⟩⟩⟩
  · exact (good.fail h).elim
  · cases xa <;> exact (good.fail h).elim
  · cases xa with
    | slc b of len cap sz' =>
      simp only [ex, xCpy] at h
      split at h
      case h_2 => exact (good.fail h).elim
      rename_i hsz
      have hsz := Nat.eq_of_beq_eq_true hsz
      subst hsz
      obtain ⟨bs, hb, h⟩ := blkK_sound good h
      obtain ⟨hle, h⟩ := good.chk _ _ h
      have hle : of + len * j.size ≤ bs.length := by simpa [ops0] using hle
      obtain ⟨cs, n, ft, h, hel⟩ := elemsK_sound good h
      have hmin : ops0.min n len = Nat.min n len := by simp only [ops0]; rfl
      have hspl : ∀ (m : Nat), m ≤ n → m ≤ len → cs.length = n * j.size → (spliceL bs of (cs.take (m * j.size))).length = bs.length := by
        intro m h1 h2 h3
        have : m * j.size ≤ n * j.size := Nat.mul_le_mul_right _ h1
        have : m * j.size ≤ len * j.size := Nat.mul_le_mul_right _ h2
        exact splice_length _ _ _ (by simp; omega)
      rw [put_eq, hmin] at h
      have hbl := (List.getElem?_eq_some_iff.1 hb).1
      refine ⟨_, _, _, _, h, ⟨by simp, (fun i hi => by simp at hi; subst hi; exact hbl), fun i hi hn => ?_, ?_⟩⟩
      · simp at hn
        rw [List.getElem?_set_ne (fun h => hn h.symm)]
      intro ρ w a g hx hf _ _ hg
      have hgb : g b = some (.cells bs) := (hf b (by simp)).trans hb
      have hft : agree g H ft := fun i hi => hf i (by simp [hi])
      have E := hel P ρ w g _ hx.two.2 hft hg
      have hm1 : Nat.min n len ≤ n := Nat.min_le_left _ _
      have hm2 : Nat.min n len ≤ len := Nat.min_le_right _ _
      obtain ⟨vs, hvl, hvr, hvli, hvo⟩ := E.first (Nat.min n len) hm1
      have hcl := E.len
      have hml : Nat.min n len * j.size ≤ len * j.size := Nat.mul_le_mul_right _ hm2
      have hmn : Nat.min n len * j.size ≤ n * j.size := Nat.mul_le_mul_right _ hm1
      rw [show ops0.spl bs of (ops0.ext cs 0 (ops0.mul (Nat.min n len) j.size)) = spliceL bs of (cs.take (Nat.min n len * j.size)) from rfl, upd_self hbl]
      have hxv := hx.two.1
      generalize hve : a.eval x = ve at hxv
      cases hxv with
      | slc _ _ _ _ _ _ h0 hs hvo2 hh =>
        obtain ⟨ao, cap', rfl, g1, g2, g3⟩ := hs
        have hrun0 := run_copy (ty := o.type) (cs := #[x, y].map fun | .const _ => true | _ => false) (u := u) ht hj (w := w) (ao := ao) (len := len) (cap := cap') E.lenOf hvr
        rcases hg.live b bs hgb with ⟨hvd, hbs⟩ | ⟨B, F, c, e', lo, hi, hl, hc, hsz, hfz, hli⟩
        · obtain ⟨ao', q1, q2, q3⟩ := hvo2 hvd
          cases q1
          subst hbs
          have hvs : vs = [] := List.eq_nil_of_length_eq_zero (by rw [hvl]; omega)
          subst hvs
          have hrun : (execOp a.eval o).run P w = .ok (.value (.int .i64 ((Nat.min n 0 : Nat) : Int))) w := by
            rw [hex, hve, hrun0]
            cases ao <;> simp [storeCells]
          refine OpDo.value hrun ⟨ρ, ?_, .int _ _, fun n => Ext.refl n ρ w⟩
          have e1 : spliceL ([] : List AV) of (cs.take (Nat.min n 0 * j.size)) = [] := by
            have : Nat.min n 0 = 0 := Nat.min_zero n
            simp [spliceL, this]
          rw [e1]
          have e2 : one g b (.cells []) = g := by
            funext i
            unfold one
            split
            · rename_i h; subst h; exact hgb.symm
            · rfl
          rw [e2]
          exact hg
        · obtain ⟨ao', cap2, q1, q2, q3, q4, q5⟩ := hh B F hl
          cases q3
          by_cases hc0 : cap' = 0
          · -- an empty destination
            subst hc0
            have hl0 : len = 0 := by omega
            subst hl0
            have hvs : vs = [] := List.eq_nil_of_length_eq_zero (by rw [hvl]; omega)
            subst hvs
            have hrun : (execOp a.eval o).run P w = .ok (.value (.int .i64 ((Nat.min n 0 : Nat) : Int))) w := by
              rw [hex, hve, hrun0]
              cases ao <;> simp [storeCells]
            refine OpDo.value hrun ⟨ρ, ?_, .int _ _, fun n => Ext.refl n ρ w⟩
            have e1 : spliceL bs of (cs.take (Nat.min n 0 * j.size)) = bs := by
              have : Nat.min n 0 = 0 := Nat.min_zero n
              simp [spliceL, this]
            rw [e1]
            have e2 : one g b (.cells bs) = g := by
              funext i
              unfold one
              split
              · rename_i h; subst h; exact hgb.symm
              · rfl
            rw [e2]
            exact hg
          · have := q4 hc0
            subst this
            obtain ⟨w', hrs, hw⟩ := run_storeCells' (P := P) (X := F + of) vs 0 c w hc (by omega) (fun i h1 h2 => hfz i (by omega) h2) hvo
            have hrun : (execOp a.eval o).run P w = .ok (.value (.int .i64 ((Nat.min n len : Nat) : Int))) w' := by
              rw [hex, hve, hrun0]
              simp only [hrs, Result.andThen_ok]
            have hcs : (spliceL c.toList (F + of + 0) vs).toArray.size = c.size := by
              have := splice_length c.toList (F + of + 0) vs (by simp; omega)
              simpa using this
            have htl : (cs.take (Nat.min n len * j.size)).length = Nat.min n len * j.size := by rw [List.length_take]; omega
            have hlies : Lies ρ w (spliceL bs of (cs.take (Nat.min n len * j.size))) F (spliceL c.toList (F + of + 0) vs).toArray := by
              intro i b' hi
              have hg1 := splice_get bs of (cs.take (Nat.min n len * j.size)) (by omega) i
              have hg2 := splice_get c.toList (F + of + 0) vs (by simp; omega) (F + i)
              rw [hg1] at hi
              simp only [List.getElem?_toArray]
              rw [hg2]
              by_cases h1 : i < of
              · rw [if_pos h1] at hi
                rw [if_pos (by omega)]
                obtain ⟨v, p, q, r⟩ := hli i b' hi
                exact ⟨v, by simpa using p, q, r⟩
              · rw [if_neg h1] at hi
                rw [if_neg (by omega)]
                by_cases h2 : i < of + (cs.take (Nat.min n len * j.size)).length
                · rw [if_pos h2] at hi
                  rw [if_pos (by omega)]
                  obtain ⟨v, p, q, r⟩ := hvli _ b' hi
                  refine ⟨v, ?_, q, r⟩
                  rw [show F + i - (F + of + 0) = 0 + (i - of) by omega]
                  simpa using p
                · rw [if_neg h2] at hi
                  rw [if_neg (by omega)]
                  obtain ⟨v, p, q, r⟩ := hli i b' hi
                  exact ⟨v, by simpa using p, q, r⟩
            have R := hg.wrote hgb hl hc hfz hw hcs (by rw [hspl _ hm1 hm2 hcl]; exact hsz) hlies
            exact OpDo.value hrun ⟨ρ, R, .int _ _, fun m => hw.ext hl hc hcs m⟩
    | _ => exact (good.fail h).elim
  · cases xa <;> exact (good.fail h).elim
end

end Go.Vm
