/-
  A VERIFIED SYMBOLIC MACHINE, PART B: its code, and how it runs (definitions alone).
-/
import Derived.Test.YtfmhlogapbpnbaaVmA
import Derived.Laws.FloatArith
namespace Go.Vm
noncomputable section

/-- What is reckoned with numbers and lists: kept apart, so that it can be left unreckoned. -/
structure Ops where
  bin : BinOp → IntKind → Int → Int → Int
  shf : BinOp → IntKind → Int → Int → Int
  cmp : BinOp → Int → Int → Bool
  cvt : IntKind → Int → Int
  nz : Int → Bool
  nn : Int → Bool
  inr : Int → Nat → Bool
  inb : Int → Nat → Bool
  adr : Nat → Int → Nat → Nat
  nat : Int → Nat
  ofn : Nat → Int
  add : Nat → Nat → Nat
  sub : Nat → Nat → Nat
  mul : Nat → Nat → Nat
  min : Nat → Nat → Nat
  le : Nat → Nat → Bool
  lt : Nat → Nat → Bool
  eq : Nat → Nat → Bool
  room : Nat → Nat → Nat → Bool
  mkr : Int → Int → Nat → Bool
  len : List AV → Nat
  ext : List AV → Nat → Nat → List AV
  set : List AV → Nat → AV → List AV
  spl : List AV → Nat → List AV → List AV
  app : List AV → List AV → List AV
  rep : Nat → List AV → List AV
  eqs : List UInt8 → List UInt8 → Bool
  eqi : List Int → List Int → Bool
  slen : List UInt8 → Nat
  sget : List UInt8 → Int → Int
  scells : List UInt8 → List AV
  ssub : List UInt8 → Nat → Nat → List UInt8
  fbin : BinOp → FloatKind → Nat → Nat → Option Nat
  fcmp : BinOp → FloatKind → Nat → Nat → Bool
  i2f : FloatKind → Int → Nat
  mnx : Bool → Int → Int → Int

def spliceL {α : Type} (cs : List α) (o : Nat) (xs : List α) : List α := cs.take o ++ (xs ++ cs.drop (o + xs.length))

def bin0 (op : BinOp) (k : IntKind) (x y : Int) : Int :=
  match op with
  | .add => k.wrap (x + y)
  | .sub => k.wrap (x - y)
  | .mul => k.wrap (x * y)
  | .quo => k.wrap (x.tdiv y)
  | .rem => x.tmod y
  | .and => k.wrap ((BitVec.ofInt k.bits x &&& BitVec.ofInt k.bits y).toNat)
  | .or => k.wrap ((BitVec.ofInt k.bits x ||| BitVec.ofInt k.bits y).toNat)
  | .xor => k.wrap ((BitVec.ofInt k.bits x ^^^ BitVec.ofInt k.bits y).toNat)
  | .andNot => k.wrap ((BitVec.ofInt k.bits x &&& ~~~BitVec.ofInt k.bits y).toNat)
  | _ => 0

def shf0 (op : BinOp) (k : IntKind) (x y : Int) : Int :=
  match op with
  | .shl => k.wrap (x * 2 ^ (Nat.min y.toNat k.bits))
  | _ => x.fdiv (2 ^ (Nat.min y.toNat k.bits))

def cmp0 (op : BinOp) (x y : Int) : Bool :=
  match op with
  | .eql => x == y
  | .neq => x != y
  | .lss => decide (x < y)
  | .leq => decide (x ≤ y)
  | .gtr => decide (x > y)
  | _ => decide (x ≥ y)

/-- Floats, held against each other. -/
def fcmp0 (op : BinOp) (k : FloatKind) (x y : Nat) : Bool :=
  match op with
  | .eql => k.format.order x y == some .eq
  | .neq => k.format.order x y != some .eq
  | .lss => k.format.order x y == some .lt
  | .leq => k.format.order x y == some .lt || k.format.order x y == some .eq
  | .gtr => k.format.order x y == some .gt
  | _ => k.format.order x y == some .gt || k.format.order x y == some .eq

/-- As Go reckons. -/
def ops0 : Ops where
  bin := bin0
  shf := shf0
  cmp := cmp0
  cvt k n := k.wrap n
  nz y := y != 0
  nn y := decide (0 ≤ y)
  inr i n := decide (0 ≤ i) && decide (i < n)
  inb i n := decide (0 ≤ i) && decide (i ≤ n)
  adr o i s := o + i.toNat * s
  nat i := i.toNat
  ofn n := (n : Int)
  add a b := a + b
  sub a b := a - b
  mul a b := a * b
  min a b := if a ≤ b then a else b
  le a b := decide (a ≤ b)
  lt a b := decide (a < b)
  eq a b := a == b
  room l n bytes := decide ((l + n + 1) * (bytes + 1) ≤ 1099511627776)
  mkr l c bytes := decide (0 ≤ l) && decide (l ≤ c) && decide ((c + 1) * (bytes + 1) ≤ 1099511627776)
  len cs := cs.length
  ext cs o n := (cs.drop o).take n
  set cs i v := cs.set i v
  spl := spliceL
  app xs ys := xs ++ ys
  rep n z := (List.replicate n z).flatten
  eqs a b := a == b
  eqi a b := a == b
  slen s := s.length
  sget s i := ((s.getD i.toNat 0).toNat : Int)
  scells s := s.map fun b => .int .u8 b.toNat
  ssub s l h := (s.take h).drop l
  fbin := floatBits
  fcmp := fcmp0
  i2f := floatOfInt
  mnx mx x y := if mx then (if y > x then y else x) else if y < x then y else x

inductive Arg where
  | t (n : Nat)
  | c (v : AV)

/-- What kind of value is looked for (a hint alone: it may be wrong). -/
inductive Kd where
  | any | int (k : IntKind) | bool | str | slc
  | flt (k : FloatKind)

inductive VOp where
  | mov | pick | bad
  | alloc (z : List AV) | box
  | mk (z : List AV) (pl : List (Nat × Nat))
  | mks (z : List AV) (len : Nat) (pl : List (Nat × Nat))
  | ld1 (kd : Kd) | ldn (n : Nat) | st1 | stn (n : Nat)
  | nilc
  | bin (op : BinOp) (k : IntKind) | div (op : BinOp) (k : IntKind) | shf (op : BinOp) (k : IntKind) | cmp (op : BinOp)
  | scmp (neg : Bool) | bcmp (neg : Bool) | acmp (neg : Bool) (n : Nat) (segs : List (Nat × IntKind × Nat))
  | not | cvt (k : IntKind) | b2s | s2a (n : Nat)
  | fbin (op : BinOp) (k : FloatKind) | fcmp (op : BinOp) (k : FloatKind) | i2f (k : FloatKind) | fmov (k : FloatKind) | mnx (mx : Bool) | s2b
  | mksl (z : List AV) (bytes : Nat)
  | slS (sz : Nat) (lo hi mx : Bool) | slA (n sz : Nat) (lo hi : Bool)
  | fld (off : Nat) | fldv (off : Nat) (kd : Kd) | fldn (off n : Nat)
  | ixA (len sz : Nat) | ixS (sz : Nat) | ixV (len : Nat) (kd : Kd) | ixN (len n : Nat) | ixT
  | len | lenT | lenA (n : Nat)
  | app (sz bytes : Nat) | cpy (sz : Nat)
  | call (f : Nat) | callv | ext (i : Nat)
  | mkfn (f nf : Nat) | mkif (t : Nat)

structure VO where
  dst : Option Nat
  guard : Option (Nat × Bool)
  op : VOp
  args : List Arg

inductive VC where
  | skip | ret
  | exit (id : Nat)
  | reg (draw : Bool) (bef : List Nat) (ops : List VO)
  | seq (a b : VC)
  | cond (c : Arg) (t e : VC)
  | block (id : Nat) (b : VC)
  | loop (b : VC)

inductive RV where
  | tmp (t : Nat) | cell (t n : Nat) | cell1 (t : Nat) (kd : Kd)

structure VF where
  ntmps : Nat
  results : List RV
  body : VC

inductive Ex where
  | norm | ret
  | exit (id : Nat)

abbrev Fr := List AV
abbrev Hl := List Blk

/-- What the machine's run comes to: an algebra. -/
structure Alg (R : Type) where
  fail : R
  chk : Bool → R → R
  br : Bool → R → R → R
  get : Kd → List AV → Nat → (AV → R) → R
  flo : Option Nat → (Nat → R) → R
  ints : IntKind → List AV → (List Int → R) → R
  byts : List AV → (List UInt8 → R) → R
  call : Nat → List AV → Hl → (AV → Hl → List Nat → R) → R
  loop : Nat → VC → Fr → Hl → List Nat → (Ex → Fr → Hl → List Nat → R) → (Unit → R) → R

def nth {α : Type} (l : List α) : Nat → Option α :=
  List.rec (fun _ => none) (fun x _ ih n => Nat.rec (some x) (fun n _ => ih n) n) l
def put {α : Type} (l : List α) : Nat → α → List α :=
  List.rec (fun _ _ => []) (fun x xs ih n v => Nat.rec (v :: xs) (fun n _ => x :: ih n v) n) l
def slot (l : Fr) : Nat → AV :=
  List.rec (fun _ => .tup []) (fun x _ ih n => Nat.rec x (fun n _ => ih n) n) l
theorem nth_nil {α : Type} (n : Nat) : nth ([] : List α) n = none := rfl
theorem nth_zero {α : Type} (x : α) (xs : List α) : nth (x :: xs) 0 = some x := rfl
theorem nth_succ {α : Type} (x : α) (xs : List α) (n : Nat) : nth (x :: xs) (n + 1) = nth xs n := rfl
theorem put_nil {α : Type} (n : Nat) (v : α) : put ([] : List α) n v = [] := rfl
theorem put_zero {α : Type} (x : α) (xs : List α) (v : α) : put (x :: xs) 0 v = v :: xs := rfl
theorem put_succ {α : Type} (x : α) (xs : List α) (n : Nat) (v : α) : put (x :: xs) (n + 1) v = x :: put xs n v := rfl
theorem slot_nil (n : Nat) : slot [] n = .tup [] := rfl
theorem slot_zero (x : AV) (xs : Fr) : slot (x :: xs) 0 = x := rfl
theorem slot_succ (x : AV) (xs : Fr) (n : Nat) : slot (x :: xs) (n + 1) = slot xs n := rfl
def ev (fr : Fr) : Arg → AV
  | .t n => slot fr n
  | .c v => v
def evs (fr : Fr) : List Arg → List AV
  | [] => []
  | x :: xs => ev fr x :: evs fr xs
def setD (fr : Fr) (d : Option Nat) (v : AV) : Fr :=
  match d with
  | some d => put fr d v
  | none => fr
def size {α : Type} (l : List α) : Nat := List.rec 0 (fun _ _ n => n + 1) l
theorem size_nil {α : Type} : size ([] : List α) = 0 := rfl
theorem size_cons {α : Type} (x : α) (xs : List α) : size (x :: xs) = size xs + 1 := rfl
def upto : Nat → List Nat
  | 0 => []
  | n + 1 => n :: upto n
def join {α : Type} (xs ys : List α) : List α := List.rec ys (fun x _ zs => x :: zs) xs
theorem join_nil {α : Type} (ys : List α) : join [] ys = ys := rfl
theorem join_cons {α : Type} (x : α) (xs ys : List α) : join (x :: xs) ys = x :: join xs ys := rfl
def under (n : Nat) : List Nat → List Nat
  | [] => []
  | x :: xs => match Nat.blt x n with
    | true => x :: under n xs
    | false => under n xs
def has (n : Nat) : List Nat → Bool
  | [] => false
  | x :: xs => match Nat.beq x n with
    | true => true
    | false => has n xs
def meet : List Nat → List Nat → Bool
  | [], _ => false
  | x :: xs, ys => match has x ys with
    | true => true
    | false => meet xs ys
def sameK : IntKind → IntKind → Bool
  | .i8, .i8 | .i16, .i16 | .i32, .i32 | .i64, .i64 | .u8, .u8 | .u16, .u16 | .u32, .u32 | .u64, .u64 => true
  | _, _ => false

def sameF : FloatKind → FloatKind → Bool
  | .f32, .f32 | .f64, .f64 => true
  | _, _ => false

section
variable {R : Type} (A : Alg R) (Ω : Ops)

/-- The cells of a value. -/
def cellsK (x : AV) (k : List AV → R) : R :=
  match x with
  | .agg cs => k cs
  | .top | .tup _ => A.fail
  | x => k [x]

/-- A value that one cell can hold. -/
def oneK (x : AV) (r : R) : R :=
  match x with
  | .agg _ | .top | .tup _ => A.fail
  | _ => r

def cells1K (x : AV) (n : Nat) (k : List AV → R) : R :=
  match x with
  | .agg cs => A.chk (Ω.eq (Ω.len cs) n) (k cs)
  | .top | .tup _ => A.fail
  | x => match Nat.beq n 1 with
    | true => k [x]
    | false => A.fail

def fillK (z : List AV) : List (Nat × Nat) → List AV → (List AV → R) → R
  | [], [], k => k z
  | (o, n) :: pl, x :: xs, k => cells1K A Ω x n fun cs => A.chk (Ω.le (o + n) (Ω.len z)) (fillK (Ω.spl z o cs) pl xs k)
  | _, _, _ => A.fail

/-- The block b. -/
def blkK (H : Hl) (b : Nat) (k : List AV → R) : R :=
  match nth H b with
  | some (.cells cs) => k cs
  | _ => A.fail

/-- The first n elements of a slice (its cells), and where they are read. -/
def elemsK (H : Hl) (sz : Nat) (x : AV) (k : List AV → Nat → List Nat → R) : R :=
  match x with
  | .nils => k [] 0 []
  | .slc b o len _ _ => blkK A H b fun cs => A.chk (Ω.le (Ω.add o (Ω.mul len sz)) (Ω.len cs)) (k (Ω.ext cs o (Ω.mul len sz)) len [b])
  | .ros cs off len _ _ => A.chk (Ω.le (Ω.add off (Ω.mul len sz)) (Ω.len cs)) (k (Ω.ext cs off (Ω.mul len sz)) len [])
  | .str s => match Nat.beq sz 1 with
    | true => k (Ω.scells s) (Ω.slen s) []
    | false => A.fail
  | _ => A.fail

def lowK (lo : Bool) (xs : List AV) (h : Nat) (k : Nat → List AV → R) : R :=
  match lo, xs with
  | false, xs => k 0 xs
  | true, .int _ l :: xs => A.chk (Ω.inb l h) (k (Ω.nat l) xs)
  | _, _ => A.fail

def highK (hi : Bool) (xs : List AV) (len cap : Nat) (k : Nat → R) : R :=
  match hi, xs with
  | false, _ => k len
  | true, [.int _ h] => A.chk (Ω.inb h cap) (k (Ω.nat h))
  | _, _ => A.fail

/-- The bounds of a slice expression: low, high (the arguments: low, then high, then max). -/
def boundsK (lo hi mx : Bool) (xs : List AV) (len cap : Nat) (k : Nat → Nat → Nat → R) : R :=
  match lo, hi, mx, xs with
  | false, false, false, [] => k 0 len cap
  | true, false, false, [.int _ l] => A.chk (Ω.inb l len) (k (Ω.nat l) len cap)
  | false, true, false, [.int _ h] => A.chk (Ω.inb h cap) (k 0 (Ω.nat h) cap)
  | true, true, false, [.int _ l, .int _ h] => A.chk (Ω.inb h cap) (A.chk (Ω.inb l (Ω.nat h)) (k (Ω.nat l) (Ω.nat h) cap))
  | false, true, true, [.int _ h, .int _ m] => A.chk (Ω.inb m cap) (A.chk (Ω.inb h (Ω.nat m)) (k 0 (Ω.nat h) (Ω.nat m)))
  | true, true, true, [.int _ l, .int _ h, .int _ m] =>
    A.chk (Ω.inb m cap) (A.chk (Ω.inb h (Ω.nat m)) (A.chk (Ω.inb l (Ω.nat h)) (k (Ω.nat l) (Ω.nat h) (Ω.nat m))))
  | _, _, _, _ => A.fail

abbrev CallF (R : Type) := Nat → List AV → Hl → (AV → Hl → List Nat → R) → R
abbrev ExK (R : Type) := AV → Hl → List Nat → List Nat → R

def brB (b : Bool) (neg : Bool) (k : AV → R) : R :=
  match neg with
  | false => A.br b (k (.bool true)) (k (.bool false))
  | true => A.br b (k (.bool false)) (k (.bool true))

/-- Are two rows the same, part by part (each n whole numbers of one kind)? -/
def segsK : List (Nat × IntKind × Nat) → List AV → List AV → (Bool → R) → R
  | [], _, _, k => k true
  | (o, kd, n) :: segs, x, y, k => A.chk (Ω.le (o + n) (Ω.len x)) (A.chk (Ω.le (o + n) (Ω.len y))
      (A.ints kd (Ω.ext x o n) fun u => A.ints kd (Ω.ext y o n) fun v => A.br (Ω.eqi u v) (segsK segs x y k) (k false)))

/-! ### The operations: each its result, the memory behind it, the old blocks that it turned, the blocks that it looked at -/

def xMov (H : Hl) (xs : List AV) (k : ExK R) : R :=
  match xs with
  | [x] => k x H [] []
  | _ => A.fail

def xPick (H : Hl) (xs : List AV) (k : ExK R) : R :=
  match xs with
  | [.bool true, x, _] => k x H [] []
  | [.bool false, _, y] => k y H [] []
  | _ => A.fail

def xAlloc (z : List AV) (H : Hl) (xs : List AV) (k : ExK R) : R :=
  match xs with
  | [] => k (.ptr (size H) 0) (join H [.cells z]) [] []
  | _ => A.fail

def xBox (H : Hl) (xs : List AV) (k : ExK R) : R :=
  match xs with
  | [x] => cellsK A x fun cs => k (.ptr (size H) 0) (join H [.cells cs]) [] []
  | _ => A.fail

def xMk (z : List AV) (pl : List (Nat × Nat)) (H : Hl) (xs : List AV) (k : ExK R) : R :=
  match xs with
  | xs => fillK A Ω z pl xs fun cs => k (.agg cs) H [] []

def xMks (z : List AV) (len : Nat) (pl : List (Nat × Nat)) (H : Hl) (xs : List AV) (k : ExK R) : R :=
  match xs with
  | xs => fillK A Ω z pl xs fun cs => k (.ros cs 0 len len true) H [] []

def xLd1 (kd : Kd) (H : Hl) (xs : List AV) (k : ExK R) : R :=
  match xs with
  | [.ptr b o] => blkK A H b fun cs => A.get kd cs o fun v => k v H [] [b]
  | [.rop cs o] => A.get kd cs o fun v => k v H [] []
  | _ => A.fail

def xLdn (n : Nat) (H : Hl) (xs : List AV) (k : ExK R) : R :=
  match xs with
  | [.ptr b o] => blkK A H b fun cs => A.chk (Ω.le (Ω.add o n) (Ω.len cs)) (k (.agg (Ω.ext cs o n)) H [] [b])
  | [.rop cs o] => A.chk (Ω.le (Ω.add o n) (Ω.len cs)) (k (.agg (Ω.ext cs o n)) H [] [])
  | _ => A.fail

def xSt1 (H : Hl) (xs : List AV) (k : ExK R) : R :=
  match xs with
  | [.ptr b o, x] => oneK A x (blkK A H b fun cs => A.chk (Ω.lt o (Ω.len cs)) (k (.tup []) (put H b (.cells (Ω.set cs o x))) [b] [b]))
  | _ => A.fail

def xStn (n : Nat) (H : Hl) (xs : List AV) (k : ExK R) : R :=
  match xs with
  | [.ptr b o, .agg ys] => blkK A H b fun cs => A.chk (Ω.eq (Ω.len ys) n) (A.chk (Ω.le (Ω.add o n) (Ω.len cs)) (k (.tup []) (put H b (.cells (Ω.spl cs o ys))) [b] [b]))
  | _ => A.fail

def xNilc (H : Hl) (xs : List AV) (k : ExK R) : R :=
  match xs with
  | [.ptr b o] => k (.ptr b o) H [] []
  | [.rop cs o] => k (.rop cs o) H [] []
  | [.fn f a b] => k (.fn f a b) H [] []
  | _ => A.fail

def xBin (op : BinOp) (kd : IntKind) (H : Hl) (xs : List AV) (k : ExK R) : R :=
  match xs with
  | [.int k1 x, .int k2 y] => match sameK k1 kd, sameK k2 kd with
    | true, true => k (.int kd (Ω.bin op kd x y)) H [] []
    | _, _ => A.fail
  | _ => A.fail

def xDiv (op : BinOp) (kd : IntKind) (H : Hl) (xs : List AV) (k : ExK R) : R :=
  match xs with
  | [.int k1 x, .int k2 y] => match sameK k1 kd, sameK k2 kd with
    | true, true => A.chk (Ω.nz y) (k (.int kd (Ω.bin op kd x y)) H [] [])
    | _, _ => A.fail
  | _ => A.fail

def xShf (op : BinOp) (kd : IntKind) (H : Hl) (xs : List AV) (k : ExK R) : R :=
  match xs with
  | [.int k1 x, .int _ y] => match sameK k1 kd with
    | true => A.chk (Ω.nn y) (k (.int kd (Ω.shf op kd x y)) H [] [])
    | _ => A.fail
  | _ => A.fail

def xCmp (op : BinOp) (H : Hl) (xs : List AV) (k : ExK R) : R :=
  match xs with
  | [.int k1 x, .int k2 y] => match sameK k1 k2 with
    | true => brB A (Ω.cmp op x y) false fun b => k b H [] []
    | _ => A.fail
  | _ => A.fail

def xScmp (neg : Bool) (H : Hl) (xs : List AV) (k : ExK R) : R :=
  match xs with
  | [.str x, .str y] => brB A (Ω.eqs x y) neg fun b => k b H [] []
  | _ => A.fail

def xBcmp (neg : Bool) (H : Hl) (xs : List AV) (k : ExK R) : R :=
  match xs with
  | [.bool x, .bool y] => k (.bool (Bool.xor neg (x == y))) H [] []
  | _ => A.fail

def xAcmp (neg : Bool) (n : Nat) (segs : List (Nat × IntKind × Nat)) (H : Hl) (xs : List AV) (k : ExK R) : R :=
  match xs with
  | [.agg x, .agg y] => A.chk (Ω.eq (Ω.len x) n) (A.chk (Ω.eq (Ω.len y) n) (segsK A Ω segs x y fun b => k (.bool (Bool.xor neg b)) H [] []))
  | _ => A.fail

def xNot (H : Hl) (xs : List AV) (k : ExK R) : R :=
  match xs with
  | [.bool true] => k (.bool false) H [] []
  | [.bool false] => k (.bool true) H [] []
  | _ => A.fail

def xCvt (kd : IntKind) (H : Hl) (xs : List AV) (k : ExK R) : R :=
  match xs with
  | [.int _ x] => k (.int kd (Ω.cvt kd x)) H [] []
  | _ => A.fail

def xB2s (H : Hl) (xs : List AV) (k : ExK R) : R :=
  match xs with
  | [.str _] => A.fail
  | [x] => elemsK A Ω H 1 x fun cs _ ft => A.byts cs fun s => k (.str s) H [] ft
  | _ => A.fail

def xS2a (n : Nat) (H : Hl) (xs : List AV) (k : ExK R) : R :=
  match xs with
  | [.slc b o len _ _] => A.chk (Ω.le n len) (k (.ptr b o) H [] [])
  | [.ros cs off len _ _] => A.chk (Ω.le n len) (k (.rop cs off) H [] [])
  | _ => A.fail

def xFbin (op : BinOp) (kd : FloatKind) (H : Hl) (xs : List AV) (k : ExK R) : R :=
  match xs with
  | [.flt k1 x, .flt k2 y] => match sameF k1 kd, sameF k2 kd with
    | true, true => A.flo (Ω.fbin op kd x y) fun r => k (.flt kd r) H [] []
    | _, _ => A.fail
  | _ => A.fail

def xFcmp (op : BinOp) (kd : FloatKind) (H : Hl) (xs : List AV) (k : ExK R) : R :=
  match xs with
  | [.flt k1 x, .flt k2 y] => match sameF k1 kd, sameF k2 kd with
    | true, true => brB A (Ω.fcmp op kd x y) false fun b => k b H [] []
    | _, _ => A.fail
  | _ => A.fail

def xI2f (kd : FloatKind) (H : Hl) (xs : List AV) (k : ExK R) : R :=
  match xs with
  | [.int _ x] => k (.flt kd (Ω.i2f kd x)) H [] []
  | _ => A.fail

def xFmov (kd : FloatKind) (H : Hl) (xs : List AV) (k : ExK R) : R :=
  match xs with
  | [.flt k1 x] => match sameF k1 kd with
    | true => k (.flt k1 x) H [] []
    | false => A.fail
  | _ => A.fail

def xMnx (mx : Bool) (H : Hl) (xs : List AV) (k : ExK R) : R :=
  match xs with
  | [.int k1 x, .int k2 y] => match sameK k1 k2 with
    | true => k (.int k1 (Ω.mnx mx x y)) H [] []
    | _ => A.fail
  | _ => A.fail

/-- A string's bytes, in a block of their own. -/
def xS2b (H : Hl) (xs : List AV) (k : ExK R) : R :=
  match xs with
  | [.str s] => k (.slc (size H) 0 (Ω.slen s) (Ω.slen s) 1) (join H [.cells (Ω.scells s)]) [] []
  | _ => A.fail

def xMksl (z : List AV) (bytes : Nat) (H : Hl) (xs : List AV) (k : ExK R) : R :=
  match xs with
  | [.int _ l, .int _ c] => A.chk (Ω.mkr l c bytes) (k (.slc (size H) 0 (Ω.nat l) (Ω.nat c) (size z)) (join H [.cells (Ω.rep (Ω.nat c) z)]) [] [])
  | _ => A.fail

def xSlS (sz : Nat) (lo hi mx : Bool) (H : Hl) (xs : List AV) (k : ExK R) : R :=
  match xs with
  | .slc b o len cap sz' :: ys => match Nat.beq sz sz' with
    | true => boundsK A Ω lo hi mx ys len cap fun l h m => k (.slc b (Ω.add o (Ω.mul l sz)) (Ω.sub h l) (Ω.sub m l) sz) H [] []
    | false => A.fail
  | .ros cs off len cap ex :: ys =>
    boundsK A Ω lo hi mx ys len cap fun l h m => k (.ros cs (Ω.add off (Ω.mul l sz)) (Ω.sub h l) (Ω.sub m l) (ex || mx)) H [] []
  | .nils :: ys => boundsK A Ω lo hi mx ys 0 0 fun _ _ _ => k .nils H [] []
  | _ => A.fail

def xSlA (n sz : Nat) (lo hi : Bool) (H : Hl) (xs : List AV) (k : ExK R) : R :=
  match xs with
  | .ptr b o :: ys => blkK A H b fun cs => A.chk (Ω.le (Ω.add o (Ω.mul n sz)) (Ω.len cs))
      (boundsK A Ω lo hi false ys n n fun l h m => k (.slc b (Ω.add o (Ω.mul l sz)) (Ω.sub h l) (Ω.sub m l) sz) H [] [b])
  | .rop cs o :: ys => boundsK A Ω lo hi false ys n n fun l h m => k (.ros cs (Ω.add o (Ω.mul l sz)) (Ω.sub h l) (Ω.sub m l) true) H [] []
  | _ => A.fail

def xFld (off : Nat) (H : Hl) (xs : List AV) (k : ExK R) : R :=
  match xs with
  | [.ptr b o] => k (.ptr b (Ω.add o off)) H [] []
  | [.rop cs o] => k (.rop cs (Ω.add o off)) H [] []
  | _ => A.fail

def xFldv (off : Nat) (kd : Kd) (H : Hl) (xs : List AV) (k : ExK R) : R :=
  match xs with
  | [.agg cs] => A.get kd cs off fun v => k v H [] []
  | _ => A.fail

def xFldn (off n : Nat) (H : Hl) (xs : List AV) (k : ExK R) : R :=
  match xs with
  | [.agg cs] => A.chk (Ω.le (off + n) (Ω.len cs)) (k (.agg (Ω.ext cs off n)) H [] [])
  | _ => A.fail

def xIxA (len sz : Nat) (H : Hl) (xs : List AV) (k : ExK R) : R :=
  match xs with
  | [.ptr b o, .int _ i] => A.chk (Ω.inr i len) (k (.ptr b (Ω.adr o i sz)) H [] [])
  | [.rop cs o, .int _ i] => A.chk (Ω.inr i len) (k (.rop cs (Ω.adr o i sz)) H [] [])
  | _ => A.fail

def xIxS (sz : Nat) (H : Hl) (xs : List AV) (k : ExK R) : R :=
  match xs with
  | [.slc b o len _ _, .int _ i] => A.chk (Ω.inr i len) (k (.ptr b (Ω.adr o i sz)) H [] [])
  | [.ros cs off len _ _, .int _ i] => A.chk (Ω.inr i len) (k (.rop cs (Ω.adr off i sz)) H [] [])
  | _ => A.fail

def xIxV (len : Nat) (kd : Kd) (H : Hl) (xs : List AV) (k : ExK R) : R :=
  match xs with
  | [.agg cs, .int _ i] => A.chk (Ω.inr i len) (A.get kd cs (Ω.nat i) fun v => k v H [] [])
  | _ => A.fail

def xIxN (len n : Nat) (H : Hl) (xs : List AV) (k : ExK R) : R :=
  match xs with
  | [.agg cs, .int _ i] => A.chk (Ω.inr i len) (A.chk (Ω.le (Ω.add (Ω.adr 0 i n) n) (Ω.len cs)) (k (.agg (Ω.ext cs (Ω.adr 0 i n) n)) H [] []))
  | _ => A.fail

def xIxT (H : Hl) (xs : List AV) (k : ExK R) : R :=
  match xs with
  | [.str s, .int _ i] => A.chk (Ω.inr i (Ω.slen s)) (k (.int .u8 (Ω.sget s i)) H [] [])
  | _ => A.fail

def xLen (H : Hl) (xs : List AV) (k : ExK R) : R :=
  match xs with
  | [.nils] => k (.int .i64 0) H [] []
  | [.slc _ _ len _ _] => k (.int .i64 (Ω.ofn len)) H [] []
  | [.ros _ _ len _ _] => k (.int .i64 (Ω.ofn len)) H [] []
  | _ => A.fail

def xLenT (H : Hl) (xs : List AV) (k : ExK R) : R :=
  match xs with
  | [.str s] => k (.int .i64 (Ω.ofn (Ω.slen s))) H [] []
  | _ => A.fail

def xLenA (n : Nat) (H : Hl) (xs : List AV) (k : ExK R) : R :=
  match xs with
  | [_] => k (.int .i64 n) H [] []
  | _ => A.fail

def xApp (sz bytes : Nat) (H : Hl) (xs : List AV) (k : ExK R) : R :=
  match xs with
  | [.nils, y] => elemsK A Ω H sz y fun cs n ft => A.chk (Ω.room 0 n bytes) (k (.slc (size H) 0 n n sz) (join H [.cells cs]) [] ft)
  | [.ros _ _ 0 0 true, y] => elemsK A Ω H sz y fun cs n ft => A.chk (Ω.room 0 n bytes) (k (.slc (size H) 0 n n sz) (join H [.cells cs]) [] ft)
  | [.slc b o len cap sz', y] => match Nat.beq sz sz' with
    | true => blkK A H b fun bs => A.chk (Ω.le (Ω.add o (Ω.mul len sz)) (Ω.len bs)) (elemsK A Ω H sz y fun cs n ft => A.chk (Ω.room len n bytes)
        (k (.slc (size H) 0 (Ω.add len n) (Ω.add len n) sz) (join (put H b .dead) [.cells (Ω.app (Ω.ext bs o (Ω.mul len sz)) cs)]) [b] (b :: ft)))
    | false => A.fail
  | _ => A.fail

def xCpy (sz : Nat) (H : Hl) (xs : List AV) (k : ExK R) : R :=
  match xs with
  | [.slc b o len _ sz', y] => match Nat.beq sz sz' with
    | true => blkK A H b fun bs => A.chk (Ω.le (Ω.add o (Ω.mul len sz)) (Ω.len bs)) (elemsK A Ω H sz y fun cs n ft =>
        k (.int .i64 (Ω.ofn (Ω.min n len))) (put H b (.cells (Ω.spl bs o (Ω.ext cs 0 (Ω.mul (Ω.min n len) sz))))) [b] (b :: ft))
    | false => A.fail
  | _ => A.fail

def xCall (cf : CallF R) (f : Nat) (H : Hl) (xs : List AV) (k : ExK R) : R :=
  match xs with
  | xs => cf f xs H fun r H' lg => k r H' (under (size H) lg) (upto (size H))

def xCallv (cf : CallF R) (H : Hl) (xs : List AV) (k : ExK R) : R :=
  match xs with
  | .fn f a b :: xs => cf f (join a (join xs b)) H fun r H' lg => k r H' (under (size H) lg) (upto (size H))
  | _ => A.fail

def xExt (i : Nat) (H : Hl) (xs : List AV) (k : ExK R) : R :=
  match xs with
  | [.tup vs] => match nth vs i with
    | some v => k v H [] []
    | none => A.fail
  | _ => A.fail

def xMkfn (f nf : Nat) (H : Hl) (xs : List AV) (k : ExK R) : R :=
  match xs with
  | xs => k (.fn f (xs.take nf) (xs.drop nf)) H [] []

def xMkif (t : Nat) (H : Hl) (xs : List AV) (k : ExK R) : R :=
  match xs with
  | [x] => oneK A x (k (.ifc t x) H [] [])
  | _ => A.fail

/-- ONE OPERATION. -/
def ex (cf : CallF R) (H : Hl) (vo : VOp) (xs : List AV) (k : ExK R) : R :=
  match vo with
  | .mov => xMov A H xs k
  | .pick => xPick A H xs k
  | .alloc z => xAlloc A z H xs k
  | .box => xBox A H xs k
  | .mk z pl => xMk A Ω z pl H xs k
  | .mks z len pl => xMks A Ω z len pl H xs k
  | .ld1 kd => xLd1 A kd H xs k
  | .ldn n => xLdn A Ω n H xs k
  | .st1 => xSt1 A Ω H xs k
  | .stn n => xStn A Ω n H xs k
  | .nilc => xNilc A H xs k
  | .bin op kd => xBin A Ω op kd H xs k
  | .div op kd => xDiv A Ω op kd H xs k
  | .shf op kd => xShf A Ω op kd H xs k
  | .cmp op => xCmp A Ω op H xs k
  | .scmp neg => xScmp A Ω neg H xs k
  | .bcmp neg => xBcmp A neg H xs k
  | .acmp neg n segs => xAcmp A Ω neg n segs H xs k
  | .not => xNot A H xs k
  | .cvt kd => xCvt A Ω kd H xs k
  | .b2s => xB2s A Ω H xs k
  | .s2a n => xS2a A Ω n H xs k
  | .fbin op kd => xFbin A Ω op kd H xs k
  | .fcmp op kd => xFcmp A Ω op kd H xs k
  | .i2f kd => xI2f A Ω kd H xs k
  | .fmov kd => xFmov A kd H xs k
  | .mnx mx => xMnx A Ω mx H xs k
  | .s2b => xS2b A Ω H xs k
  | .mksl z bytes => xMksl A Ω z bytes H xs k
  | .slS sz lo hi mx => xSlS A Ω sz lo hi mx H xs k
  | .slA n sz lo hi => xSlA A Ω n sz lo hi H xs k
  | .fld off => xFld A Ω off H xs k
  | .fldv off kd => xFldv A off kd H xs k
  | .fldn off n => xFldn A Ω off n H xs k
  | .ixA len sz => xIxA A Ω len sz H xs k
  | .ixS sz => xIxS A Ω sz H xs k
  | .ixV len kd => xIxV A Ω len kd H xs k
  | .ixN len n => xIxN A Ω len n H xs k
  | .ixT => xIxT A Ω H xs k
  | .len => xLen A Ω H xs k
  | .lenT => xLenT A Ω H xs k
  | .lenA n => xLenA A n H xs k
  | .app sz bytes => xApp A Ω sz bytes H xs k
  | .cpy sz => xCpy A Ω sz H xs k
  | .call f => xCall cf f H xs k
  | .callv => xCallv A cf H xs k
  | .ext i => xExt A i H xs k
  | .mkfn f nf => xMkfn f nf H xs k
  | .mkif t => xMkif A t H xs k
  | .bad => A.fail

/-- The new blocks: from n up to m. -/
def news (n m : Nat) : List Nat := (upto m).filter fun i => !(Nat.blt i n)

/-- Of an operation behind us: its place, the blocks that it turned or made, the blocks that it looked at, and (of a call) how many blocks stood then. -/
abbrev Rec := Nat × List Nat × List Nat × Option Nat

def isCall : VOp → Bool
  | .call _ | .callv => true
  | _ => false
def limOf (op : VOp) (n : Nat) : Option Nat :=
  match isCall op with
  | true => some n
  | false => none
def over (n : Nat) : List Nat → Bool
  | [] => false
  | x :: xs => match Nat.blt x n with
    | true => over n xs
    | false => true
def overO : Option Nat → List Nat → Bool
  | none, _ => false
  | some n, l => over n l

/-- May the operation j (of which these lie ahead for sure: a bit each) and those ahead of it be taken in whatever order the edges let? -/
def raceOne (bef : Nat) (tch ft : List Nat) : List Rec → Bool
  | [] => true
  | (i, t, f, l) :: rest => match meet t tch || meet t ft || meet f tch || overO l tch with
    | true => match bef.testBit i with
      | true => raceOne bef tch ft rest
      | false => false
    | false => raceOne bef tch ft rest

def slotN : List Nat → Nat → Nat
  | [], _ => 0
  | x :: _, 0 => x
  | _ :: xs, n + 1 => slotN xs n

/-- Of all pairs. (The list: the last operation first.) -/
def races (bef : List Nat) : List Rec → Bool
  | [] => true
  | (i, t, f, _) :: rest => match raceOne (slotN bef i) t f rest with
    | true => races bef rest
    | false => false

/-- Only an operation that turned or looked at something is noted down. -/
def note (i : Nat) (t f : List Nat) (l : Option Nat) (rs : List Rec) : List Rec :=
  match t, f, l with
  | [], [], none => rs
  | t, f, l => (i, t, f, l) :: rs

inductive Gd where
  | run | pass | bad
def guardOf (fr : Fr) : Option (Nat × Bool) → Gd
  | none => .run
  | some (s, want) => match slot fr s, want with
    | .bool true, true => .run
    | .bool false, false => .run
    | .bool _, _ => .pass
    | .tup [], _ => .pass
    | _, _ => .bad

/-- The operations of a region, in the text's order. -/
def vops (cf : CallF R) : Nat → List VO → Fr → Hl → List Nat → List Rec → (Fr → Hl → List Nat → List Rec → R) → R
  | _, [], fr, H, lg, rs, k => k fr H lg rs
  | i, o :: os, fr, H, lg, rs, k =>
    match guardOf fr o.guard with
    | .run => ex A Ω cf H o.op (evs fr o.args) fun r H' tch ft =>
        vops cf (i + 1) os (setD fr o.dst r) H' (join tch lg) (note i (join tch (news (size H) (size H'))) ft (limOf o.op (size H)) rs) k
    | .pass => vops cf (i + 1) os (setD fr o.dst (.tup [])) H lg rs k
    | .bad => A.fail

def results (rv : List RV) (fr : Fr) (H : Hl) (k : List AV → R) : R :=
  match rv with
  | [] => k []
  | .tmp t :: rv => results rv fr H fun vs => k (slot fr t :: vs)
  | .cell1 t kd :: rv => match slot fr t with
    | .ptr b o => blkK A H b fun cs => A.get kd cs o fun v => results rv fr H fun vs => k (v :: vs)
    | _ => A.fail
  | .cell t n :: rv => match slot fr t with
    | .ptr b o => blkK A H b fun cs => A.chk (Ω.le (Ω.add o n) (Ω.len cs)) (results rv fr H fun vs => k (.agg (Ω.ext cs o n) :: vs))
    | _ => A.fail

def pack : List AV → AV
  | [v] => v
  | vs => .tup vs

def pad : Nat → List AV
  | 0 => []
  | n + 1 => .tup [] :: pad n

/-- CODE. n0: how many blocks stood when the function was entered. -/
def vm (T : Nat → Option VF) : Nat → Nat → VC → Fr → Hl → List Nat → (Ex → Fr → Hl → List Nat → R) → R
  | 0, _, _, _, _, _, _ => A.fail
  | n + 1, n0, c, fr, H, lg, k =>
    match c with
    | .skip => k .norm fr H lg
    | .ret => k .ret fr H lg
    | .exit id => k (.exit id) fr H lg
    | .reg draw bef ops =>
      vops A Ω (fun f vals H k => match T f with
        | none => A.call f vals H k
        | some vf => vm T n (size H) vf.body (join vals (pad (vf.ntmps - size vals))) H [] fun ex fr H' lg => match ex with
          | .exit _ => A.fail
          | _ => results A Ω vf.results fr H' fun vs => k (pack vs) H' lg)
        0 ops fr H lg [] fun fr H lg rs => match draw with
          | false => k .norm fr H lg
          | true => A.chk (races bef rs) (k .norm fr H lg)
    | .seq a b => vm T n n0 a fr H lg fun ex fr H lg => match ex with
      | .norm => vm T n n0 b fr H lg k
      | ex => k ex fr H lg
    | .cond c t e => match ev fr c with
      | .bool true => vm T n n0 t fr H lg k
      | .bool false => vm T n n0 e fr H lg k
      | _ => A.fail
    | .block id b => vm T n n0 b fr H lg fun ex fr H lg => match ex with
      | .exit j => match Nat.beq j id with
        | true => k .norm fr H lg
        | false => k (.exit j) fr H lg
      | ex => k ex fr H lg
    | .loop b => A.loop n0 b fr H lg k fun _ => vm T n n0 b fr H lg fun ex fr H lg => match ex with
      | .norm => vm T n n0 (.loop b) fr H lg k
      | ex => k ex fr H lg

/-- A CALL. -/
def vcall (T : Nat → Option VF) (n : Nat) (vf : VF) (vals : List AV) (H : Hl) (k : AV → Hl → List Nat → R) : R :=
  vm A Ω T n (size H) vf.body (join vals (pad (vf.ntmps - size vals))) H [] fun ex fr H' lg => match ex with
    | .exit _ => A.fail
    | _ => results A Ω vf.results fr H' fun vs => k (pack vs) H' lg
end

end
end Go.Vm
