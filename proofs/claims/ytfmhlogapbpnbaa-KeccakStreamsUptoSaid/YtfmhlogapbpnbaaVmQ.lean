/-
  A VERIFIED SYMBOLIC MACHINE, PART Q: the machine's code for an operation, and that it is sound.
-/
import Derived.Test.YtfmhlogapbpnbaaVmPb
namespace Go.Vm

def kdOf : TypeDesc → Kd
  | .int k => .int k
  | .bool => .bool
  | .string => .str
  | .slice _ => .slc
  | .float k => .flt k
  | _ => .any

/-- An array of whole numbers: their kind, how many. -/
def intsOf (P : Program) (t : TypeId) : Option (IntKind × Nat) :=
  match P.underlying t with
  | some (.array n e) => match P.underlying e, P.info? e with
    | some (.int kd), some i => if i.size = 1 then some (kd, n) else none
    | _, _ => none
  | _ => none

/-- A part of a struct: a whole number, or an array of them. -/
def partOf (P : Program) (t : TypeId) : Option (IntKind × Nat) :=
  match P.underlying t with
  | some (.int kd) => some (kd, 1)
  | _ => match intsOf P t, P.info? t with
    | some (kd, n), some j => if j.size = n then some (kd, n) else none
    | _, _ => none

def segsOf (P : Program) : List Field → Option (List (Nat × IntKind × Nat))
  | [] => some []
  | f :: fs => match partOf P f.type, segsOf P fs with
    | some (kd, n), some segs => if f.name = "_" then none else some ((f.offset, kd, n) :: segs)
    | _, _ => none

def rowOf (P : Program) (t : TypeId) : Option (Nat × List (Nat × IntKind × Nat)) :=
  match P.underlying t, P.info? t with
  | some (.array _ _), _ => match intsOf P t with
    | some (kd, n) => some (n, [(0, kd, n)])
    | none => none
  | some (.struct fs), some i => if P.stoodInHeld t = false then match segsOf P fs.toList with
      | some segs => some (i.size, segs)
      | none => none
    else none
  | _, _ => none

theorem intsOf_ok {P : Program} {t : TypeId} {kd : IntKind} {n : Nat} (h : intsOf P t = some (kd, n)) : ∃ e i, P.underlying t = some (.array n e) ∧ P.underlying e = some (.int kd) ∧ P.info? e = some i ∧ i.size = 1 := by
  unfold intsOf at h
  split at h
  · rename_i m e he
    split at h
    · rename_i k i hk hi
      split at h
      · rename_i h1
        cases h
        exact ⟨e, i, he, hk, hi, h1⟩
      · cases h
    · cases h
  · cases h

theorem partOf_ok {P : Program} {t : TypeId} {kd : IntKind} {n : Nat} (h : partOf P t = some (kd, n)) : IntsT P t kd n := by
  unfold partOf at h
  split at h
  · rename_i k hk; cases h; exact .inl ⟨hk, rfl⟩
  · split at h
    · rename_i k m j h1 h2
      split at h
      · rename_i hs
        cases h
        obtain ⟨e, i, a, b, c, d⟩ := intsOf_ok h1
        exact .inr ⟨e, i, j, a, b, c, d, h2, hs⟩
      · cases h
    · cases h

theorem segsOf_ok {P : Program} {fs : List Field} {segs : List (Nat × IntKind × Nat)} (h : segsOf P fs = some segs) : Segs P fs segs := by
  induction fs generalizing segs with
  | nil => cases h; exact .nil
  | cons f fs ih =>
    unfold segsOf at h
    split at h
    · rename_i kd n sg h1 h2
      split at h
      · cases h
      · rename_i hn
        cases h
        exact .cons f fs kd n sg hn (partOf_ok h1) (ih h2)
    · cases h

theorem rowOf_ok {P : Program} {t : TypeId} {n : Nat} {segs : List (Nat × IntKind × Nat)} (h : rowOf P t = some (n, segs)) : RowT P t n segs := by
  unfold rowOf at h
  split at h
  · split at h
    · rename_i kd m hi
      cases h
      obtain ⟨e, i, a, b, c, d⟩ := intsOf_ok hi
      exact .arr t e kd n i a b c d
    · cases h
  · rename_i fs i ht _
    split at h
    · rename_i hp
      split at h
      · rename_i sg hs
        cases h
        exact .str t fs _ _ ht hp (segsOf_ok hs)
      · cases h
    · cases h
  · cases h

def binOf (op : BinOp) (kd : IntKind) : Option VOp :=
  match op with
  | .add | .sub | .mul | .and | .or | .xor | .andNot => some (.bin op kd)
  | .quo | .rem => some (.div op kd)
  | .shl | .shr => some (.shf op kd)
  | .eql | .neq | .lss | .leq | .gtr | .geq => some (.cmp op)

def flOf (op : BinOp) (kd : FloatKind) : Option VOp :=
  match op with
  | .add | .sub | .mul | .quo => some (.fbin op kd)
  | .eql | .neq | .lss | .leq | .gtr | .geq => some (.fcmp op kd)
  | _ => none

def negOf (op : BinOp) : Option Bool :=
  match op with
  | .eql => some false
  | .neq => some true
  | _ => none

def callOf (P : Program) (c : Call) : Option (VOp × List Operand) :=
  match c.callee, c.args.toList, c.argTypes.toList with
  | .builtin .len, [x], [t] => match P.underlying t with
    | some (.slice _) => some (.len, [x])
    | some .string => some (.lenT, [x])
    | some (.array n _) => some (.lenA n, [x])
    | _ => none
  | .builtin .append, [x, y], [t, u] => match P.underlying t, P.underlying u with
    | some (.slice e), some d => match P.info? e with
      | some j => match j.zero with
        | some z => if z.cells.size = j.size then match d with
            | .slice _ => some (.app j.size j.bytes, [x, y])
            | .string => some (.app j.size j.bytes, [x, y])
            | _ => none
          else none
        | none => none
      | none => none
    | _, _ => none
  | .builtin .copy, [x, y], [t, _] => match P.underlying t with
    | some (.slice e) => match P.info? e with
      | some j => some (.cpy j.size, [x, y])
      | none => none
    | _ => none
  | .builtin .min, [x, y], _ => some (.mnx false, [x, y])
  | .builtin .max, [x, y], _ => some (.mnx true, [x, y])
  | .value (.func f), xs, _ => some (.call f, xs)
  | .value x, xs, _ => some (.callv, x :: xs)
  | _, _, _ => none

def copOf (P : Program) : Op → Option (VOp × List Operand)
  | .move x => some (.mov, [x])
  | .assign x => some (.mov, [x])
  | .pick c x y => some (.pick, [c, x, y])
  | .alloc e => match P.info? e with
    | some i => match i.zero with
      | some z => match toAVs z.cells.toList with
        | some zs => some (.alloc zs, [])
        | none => none
      | none => none
    | none => none
  | .box _ x => some (.box, [x])
  | .load t x => match P.underlying t, P.info? t with
    | some d, some i => match isAggD d with
      | true => some (.ldn i.size, [x])
      | false => some (.ld1 (kdOf d), [x])
    | _, _ => none
  | .store t x y => match P.underlying t, P.info? t with
    | some d, some i => match isAggD d with
      | true => some (.stn i.size, [x, y])
      | false => if i.size = 1 then some (.st1, [x, y]) else none
    | _, _ => none
  | .nilCheck x => some (.nilc, [x])
  | .binOp op t x y _ => match P.underlying t with
    | some (.int kd) => match binOf op kd with
      | some v => some (v, [x, y])
      | none => none
    | some (.float kd) => match flOf op kd with
      | some v => some (v, [x, y])
      | none => none
    | some .string => match negOf op with
      | some b => some (.scmp b, [x, y])
      | none => none
    | some .bool => match negOf op with
      | some b => some (.bcmp b, [x, y])
      | none => none
    | _ => match negOf op, rowOf P t with
      | some b, some (n, segs) => if P.eqGuardType P.depth t = false then some (.acmp b n segs, [x, y]) else none
      | _, _ => none
  | .unOp u t x => match u, P.underlying t with
    | .not, _ => some (.not, [x])
    | .neg, some (.int kd) => some (.bin .sub kd, [.const (.int kd 0), x])
    | .xor, some (.int kd) => some (.bin .xor kd, [.const (.int kd (onesOf kd)), x])
    | _, _ => none
  | .index t x y => match P.underlying t with
    | some (.array n e) => match P.underlying e, P.info? e with
      | some d, some i => match isAggD d with
        | true => none
        | false => if i.size = 1 then some (.ixV n (kdOf d), [x, y]) else none
      | _, _ => none
    | _ => none
  | .convert s t x => match P.underlying s, P.underlying t with
    | some _, some (.int kd) => some (.cvt kd, [x])
    | some (.int _), some (.float kd) => some (.i2f kd, [x])
    | some (.float k1), some (.float k2) => if k1 = k2 then some (.fmov k2, [x]) else none
    | some .string, some (.slice e) => match P.underlying e with
      | some (.int .u8) => some (.s2b, [x])
      | _ => none
    | some (.slice e), some .string => match P.underlying e with
      | some (.int .u8) => some (.b2s, [x])
      | _ => none
    | _, _ => none
  | .sliceToArrayPointer t x => match P.underlying t with
    | some (.array n _) => if n ≠ 0 then some (.s2a n, [x]) else none
    | _ => none
  | .makeInterface t x => match P.underlying t with
    | some (.interface _) => none
    | some _ => some (.mkif t, [x])
    | none => none
  | .makeFunc (.func f) xs ys => some (.mkfn f xs.size, xs.toList ++ ys.toList)
  | .makeSlice t x y => match P.underlying t with
    | some (.slice e) => match P.info? e with
      | some j => match j.zero with
        | some z => match toAVs z.cells.toList with
          | some zs => if z.cells.size = j.size then some (.mksl zs j.bytes, [x, y]) else none
          | none => none
        | none => none
      | none => none
    | _ => none
  | .slice t x lo hi mx => match P.underlying t with
    | some (.slice e) => match P.info? e with
      | some i => some (.slS i.size lo.isSome hi.isSome mx.isSome, slOps x lo hi mx)
      | none => none
    | some (.array n e) => match P.info? e, mx with
      | some i, none => some (.slA n i.size lo.isSome hi.isSome, slOps x lo hi none)
      | _, _ => none
    | _ => none
  | .fieldAddr s x f => match P.underlying s with
    | some (.struct fs) => match fs[f]? with
      | some fd => match P.info? fd.type with
        | some i => if i.size ≠ 0 then some (.fld fd.offset, [x]) else none
        | none => none
      | none => none
    | _ => none
  | .field s x f => match P.underlying s with
    | some (.struct fs) => match fs[f]? with
      | some fd => match P.underlying fd.type, P.info? fd.type with
        | some d, some i => match isAggD d with
          | true => some (.fldn fd.offset i.size, [x])
          | false => some (.fldv fd.offset (kdOf d), [x])
        | _, _ => none
      | none => none
    | _ => none
  | .indexAddr t x y => match P.underlying t with
    | some (.array n e) => match P.info? e with
      | some i => some (.ixA n i.size, [x, y])
      | none => none
    | some (.slice e) => match P.info? e with
      | some i => some (.ixS i.size, [x, y])
      | none => none
    | _ => none
  | .build t parts => match P.underlying t, P.info? t with
    | some (.struct fs), some i => match i.zero with
      | some z => match toAVs z.cells.toList, placesOf (fieldPl P fs) (parts.toList.map (·.1)) with
        | some zs, some pl => if (fs.toList.all fun f => (P.info? f.type).isSome) = true then some (.mk zs pl, parts.toList.map (·.2)) else none
        | _, _ => none
      | none => none
    | some (.array _ e), some i => match i.zero, P.info? e with
      | some z, some j => match toAVs z.cells.toList, placesOf (fun i => some (i * j.size, j.size)) (parts.toList.map (·.1)) with
        | some zs, some pl => some (.mk zs pl, parts.toList.map (·.2))
        | _, _ => none
      | _, _ => none
    | _, _ => none
  | .buildSlice t len parts => match P.underlying t with
    | some (.slice e) => match P.info? e with
      | some j => if len * j.size ≤ 2 ^ 24 then match j.zero with
          | some z => match toAVs ((Array.range (len * j.size)).map ((if len * j.size = 0 then #[] else z.cells)[· % (if len * j.size = 0 then (#[] : Array Value) else z.cells).size]!)).toList, placesOf (fun i => some (i * j.size, j.size)) (parts.toList.map (·.1)) with
            | some zs, some pl => some (.mks zs len pl, parts.toList.map (·.2))
            | _, _ => none
          | none => none
        else none
      | none => none
    | _ => none
  | .extract x i => some (.ext i, [x])
  | .call c => callOf P c
  | _ => none

section
variable {R : Type} {A : Alg R} {holds : R → Prop} (good : A.Good holds) {P : Program} {o : Oper} {avs : List AV} {H : Hl} {cf : CallF R} {k : ExK R} (hcf : CallOK P holds cf)
include good hcf

theorem call_sound {c : Call} (ho : o.op = .call c) {vo : VOp} {xs : List Operand} (hc : callOf P c = some (vo, xs)) (h : holds (ex A ops0 cf H vo avs k)) :
    DoesX P o (isCall vo) xs avs H fun r H' t f => holds (k r H' t f) := by
  obtain ⟨ca, args, types⟩ := c
  obtain ⟨args⟩ := args
  obtain ⟨types⟩ := types
  simp only [callOf] at hc
  split at hc
  · rename_i x t
    split at hc <;> first | cases hc | skip
    · rename_i e he; exact (s_len good ho he h).x
    · rename_i he; exact (s_lenT good ho he h).x
    · rename_i n e he; exact (s_lenA ho he h good).x
  · rename_i x y t u
    split at hc <;> first | cases hc | skip
    rename_i e d he hd
    split at hc <;> first | cases hc | skip
    rename_i j hj
    split at hc <;> first | cases hc | skip
    rename_i z hz
    split at hc <;> first | cases hc | skip
    rename_i hs
    split at hc <;> first | cases hc | skip
    · rename_i e'; exact (s_app good ho ⟨he, hj, hz, hs, .inl ⟨e', hd⟩⟩ h).x
    · exact (s_app good ho ⟨he, hj, hz, hs, .inr hd⟩ h).x
  · rename_i x y t u
    split at hc <;> first | cases hc | skip
    rename_i e he
    split at hc <;> first | cases hc | skip
    rename_i j hj
    exact (s_cpy good ho he hj h).x
  · cases hc; exact (s_mnx good (mx := false) ho h).x
  · cases hc; exact (s_mnx good (mx := true) ho h).x
  · cases hc; exact s_call hcf ho h
  · cases hc; exact s_callv good hcf ho h
  · cases hc

theorem ex_sound {vo : VOp} {xs : List Operand} (hc : copOf P o.op = some (vo, xs)) (h : holds (ex A ops0 cf H vo avs k)) :
    DoesX P o (isCall vo) xs avs H fun r H' t f => holds (k r H' t f) := by
  generalize hop : o.op = op at hc
  cases op with
  | move x => cases hc; exact (s_mov good (.inl hop) h).x
  | assign x => cases hc; exact (s_mov good (.inr hop) h).x
  | pick c x y => cases hc; exact (s_pick good hop h).x
  | alloc e =>
    simp only [copOf] at hc
    split at hc <;> first | cases hc | skip
    rename_i i hi
    split at hc <;> first | cases hc | skip
    rename_i z hz
    split at hc <;> first | cases hc | skip
    rename_i zs hs
    exact (s_alloc good hop hi hz hs h).x
  | box e x => cases hc; exact (s_box good hop h).x
  | load t x =>
    simp only [copOf] at hc
    split at hc <;> first | cases hc | skip
    rename_i d i hd hi
    split at hc <;> first | cases hc | skip
    · rename_i ha; exact (s_ldn good hop hd ha hi h).x
    · rename_i ha; exact (s_ld1 good hop hd ha h).x
  | store t x y =>
    simp only [copOf] at hc
    split at hc <;> first | cases hc | skip
    rename_i d i hd hi
    split at hc <;> first | cases hc | skip
    · exact (s_stn good hop hi h).x
    · split at hc <;> first | cases hc | skip
      rename_i h1
      exact (s_st1 good hop hi h1 h).x
  | nilCheck x => cases hc; exact (s_nilc good hop h).x
  | binOp op t x y yt =>
    simp only [copOf] at hc
    split at hc
    · rename_i kd ht
      split at hc <;> first | cases hc | skip
      rename_i v hv
      unfold binOf at hv
      split at hv <;> cases hv <;> first
        | exact (s_bin good hop (by simp) h).x
        | exact (s_div good hop (by simp) h).x
        | exact (s_shf good hop (by simp) h).x
        | exact (s_cmp good hop (by simp) h).x
    · rename_i kd ht
      split at hc <;> first | cases hc | skip
      rename_i v hv
      unfold flOf at hv
      split at hv <;> cases hv <;> first
        | exact (s_fbin good hop h).x
        | exact (s_fcmp good hop (by simp) h).x
    · rename_i ht
      split at hc <;> first | cases hc | skip
      rename_i b hb
      unfold negOf at hb
      split at hb <;> cases hb
      · exact (s_scmp good (neg := false) hop h).x
      · exact (s_scmp good (neg := true) hop h).x
    · rename_i ht
      split at hc <;> first | cases hc | skip
      rename_i b hb
      unfold negOf at hb
      split at hb <;> cases hb
      · exact (s_bcmp good (neg := false) hop ht h).x
      · exact (s_bcmp good (neg := true) hop ht h).x
    · split at hc <;> first | cases hc | skip
      rename_i b n segs hb hr
      split at hc <;> first | cases hc | skip
      rename_i hg
      unfold negOf at hb
      split at hb <;> cases hb
      · exact (s_acmp good (neg := false) hop (rowOf_ok hr) hg h).x
      · exact (s_acmp good (neg := true) hop (rowOf_ok hr) hg h).x
  | unOp u t x =>
    simp only [copOf] at hc
    split at hc <;> first | cases hc | skip
    · exact (s_not good hop h).x
    · exact (s_neg good hop h).x
    · exact (s_com good hop h).x
  | index t x y =>
    simp only [copOf] at hc
    split at hc <;> first | cases hc | skip
    rename_i n e ht
    split at hc <;> first | cases hc | skip
    rename_i d i hd hi
    split at hc <;> first | cases hc | skip
    rename_i ha
    split at hc <;> first | cases hc | skip
    rename_i h1
    exact (s_ixV good hop ht hd ha hi h1 h).x
  | convert s t x =>
    simp only [copOf] at hc
    split at hc
    · rename_i d kd hs ht; cases hc; exact (s_cvt good hop hs ht h).x
    · rename_i k1 kd hs ht; cases hc; exact (s_i2f good hop hs ht h).x
    · rename_i k1 k2 hs ht
      split at hc <;> first | cases hc | skip
      rename_i e
      subst e
      exact (s_fmov good hop hs ht h).x
    · rename_i e hs ht
      split at hc <;> first | cases hc | skip
      rename_i he
      exact (s_s2b good hop hs ht he h).x
    · rename_i e hs ht
      split at hc <;> first | cases hc | skip
      rename_i he
      exact (s_b2s good hop hs he ht h).x
    · cases hc
  | sliceToArrayPointer t x =>
    simp only [copOf] at hc
    split at hc <;> first | cases hc | skip
    rename_i n e ht
    split at hc <;> first | cases hc | skip
    rename_i hn
    exact (s_s2a good hop ht hn h).x
  | makeInterface t x =>
    simp only [copOf] at hc
    split at hc <;> first | cases hc | skip
    rename_i d hd ht
    exact (s_mkif good hop ht (fun ms e => hd ms e) h).x
  | makeFunc f xs ys =>
    cases f <;> first | cases hc | skip
    exact (s_mkfn hop h).x
  | makeSlice t x y =>
    simp only [copOf] at hc
    split at hc <;> first | cases hc | skip
    rename_i e he
    split at hc <;> first | cases hc | skip
    rename_i j hj
    split at hc <;> first | cases hc | skip
    rename_i z hz
    split at hc <;> first | cases hc | skip
    rename_i zs hs
    split at hc <;> first | cases hc | skip
    rename_i hsz
    exact (s_mksl good hop he hj hz hs hsz h).x
  | slice t x lo hi mx =>
    simp only [copOf] at hc
    split at hc
    · rename_i e he
      split at hc <;> first | cases hc | skip
      rename_i i hi'
      exact (s_slS good hop he hi' h).x
    · rename_i n e he
      split at hc <;> first | cases hc | skip
      rename_i i hi'
      exact (s_slA good hop he hi' h).x
    · cases hc
  | fieldAddr s x f =>
    simp only [copOf] at hc
    split at hc <;> first | cases hc | skip
    rename_i fs hs
    split at hc <;> first | cases hc | skip
    rename_i fd hf
    split at hc <;> first | cases hc | skip
    rename_i i hi
    split at hc <;> first | cases hc | skip
    rename_i h0
    exact (s_fld good hop hs hf hi h0 h).x
  | field s x f =>
    simp only [copOf] at hc
    split at hc <;> first | cases hc | skip
    rename_i fs hs
    split at hc <;> first | cases hc | skip
    rename_i fd hf
    split at hc <;> first | cases hc | skip
    rename_i d i hd hi
    split at hc <;> first | cases hc | skip
    · rename_i ha; exact (s_fldn good hop hs hf hd ha hi h).x
    · rename_i ha; exact (s_fldv good hop hs hf hd ha h).x
  | indexAddr t x y =>
    simp only [copOf] at hc
    split at hc
    · rename_i n e he
      split at hc <;> first | cases hc | skip
      rename_i i hi
      exact (s_ixA good hop he hi h).x
    · rename_i e he
      split at hc <;> first | cases hc | skip
      rename_i i hi
      exact (s_ixS good hop he hi h).x
    · cases hc
  | build t parts =>
    simp only [copOf] at hc
    split at hc
    · rename_i fs i ht hi
      split at hc <;> first | cases hc | skip
      rename_i z hz
      split at hc <;> first | cases hc | skip
      rename_i zs pl hs hp
      split at hc <;> first | cases hc | skip
      rename_i hall
      exact (s_mkS good hop ht hi hz hs (fun f hf => Option.isSome_iff_exists.1 (List.all_eq_true.1 hall f hf)) hp h).x
    · rename_i n e i ht hi
      split at hc <;> first | cases hc | skip
      rename_i z j hz hj
      split at hc <;> first | cases hc | skip
      rename_i zs pl hs hp
      exact (s_mkA good hop ht hi hz hs hj hp h).x
    · cases hc
  | buildSlice t len parts =>
    simp only [copOf] at hc
    split at hc <;> first | cases hc | skip
    rename_i e he
    split at hc <;> first | cases hc | skip
    rename_i j hj
    split at hc <;> first | cases hc | skip
    rename_i hsm
    split at hc <;> first | cases hc | skip
    rename_i z hz
    split at hc <;> first | cases hc | skip
    rename_i zs pl hs hp
    exact (s_mks good hop he hj hsm hz _ rfl hs hp h).x
  | extract x i => cases hc; exact (s_ext good hop h).x
  | call c => exact call_sound good hcf hop hc h
  | _ => cases hc
end

end Go.Vm
