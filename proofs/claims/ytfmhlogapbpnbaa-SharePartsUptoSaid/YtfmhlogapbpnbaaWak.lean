/-
  MAC, PART 3: what is derived of a number; masks; equal bytes; the hash of a secret.
-/
import Derived.Test.YtfmhlogapbpnbaaWaj
import Derived.Test.YtfmhlogapbpnbaaWac
import Derived.Test.YtfmhlogapbpnbaaProg
import Derived.KernelRfl

namespace Go.Proofs.Vm
open Go.Vm
noncomputable section
structure GF where
  tag : List AV → List UInt8 → List (List UInt8) → List AV
def gf0 : GF := ⟨fun ks l pl => (tagL (bytesA ks) l pl).map by8⟩
def cnT (S : GF) : CnF := fun f vals H => match f, vals with
  | 41, [.agg ks, .str l, x] => match vw2 H x with
    | .ros ps o n _ _ => some (PKey ks ∧ PTag ps o n, .ok (.agg (S.tag ks l (partsL ps o n))) H [])
    | _ => none
  | 40, [.agg ks, .str l, x] => match vw2 H x with
    | .ros ps o n _ _ => some (PKey ks ∧ PTag ps o n, .ok (.agg (S.tag ks l (partsL ps o n))) H [])
    | _ => none
  | _, _ => none
structure NG extends NF where
  toGF : GF
def ng0 : NG := { nf0 with toGF := gf0 }
def cnN2 (S : NG) : CnF := cnOr (cnT S.toGF) (cnN1 S.toNF)
/-- What the loops come to (kept apart). -/
structure WF where
  msk : List AV → List AV → Nat → Nat → List AV
  acc : Nat → List AV → Nat → List AV → Nat → Nat → Nat
def xorL (a b : List UInt8) : List UInt8 := List.zipWith (fun x y => x ^^^ y) a b
def accN (z : Nat) (a b : List UInt8) : Nat → Nat
  | 0 => z
  | i + 1 => accN z a b i ||| ((a.getD i 0).toNat ^^^ (b.getD i 0).toNat)
def wf0 : WF := ⟨fun ms pc off len => (xorL (bytesA ms) (rdB pc off len)).map by8, fun z pa oa pb ob m => accN z (rdB pa oa m) (rdB pb ob m) m⟩
def P37 (ms pc : List AV) (off len m : Nat) : Prop := flatL pc ∧ m = len ∧ len < 1099511627776 ∧ (∃ lb, BytesAt pc off len lb) ∧ ∃ mb : List UInt8, mb.length = len ∧ ms = mb.map by8
def lp37 : VC := (.seq (.reg .false [] [⟨(.some 28), .none, (.cmp .lss), [(.t 27), (.t 26)]⟩]) (.seq (.cond (.t 28) .skip (.exit 0)) (.seq (.block 1 (.seq (.reg .false [] [⟨(.some 29), .none, .mov, [(.t 27)]⟩, ⟨(.some 30), .none, (.ixS 1), [(.t 25), (.t 27)]⟩, ⟨(.some 31), .none, (.ld1 (.int .u8)), [(.t 30)]⟩, ⟨(.some 8), .none, .mov, [(.t 29)]⟩, ⟨(.some 9), .none, .mov, [(.t 31)]⟩]) (.reg .false [] [⟨(.some 32), .none, .mov, [(.t 7)]⟩, ⟨(.some 33), .none, .mov, [(.t 8)]⟩, ⟨(.some 34), .none, (.ixS 1), [(.t 32), (.t 33)]⟩, ⟨(.some 35), .none, (.ld1 (.int .u8)), [(.t 34)]⟩, ⟨(.some 36), .none, .mov, [(.t 9)]⟩, ⟨(.some 37), .none, (.bin .xor .u8), [(.t 35), (.t 36)]⟩, ⟨(.some 38), .none, (.ixS 1), [(.t 32), (.t 33)]⟩, ⟨.none, .none, .st1, [(.t 38), (.t 37)]⟩]))) (.reg .false [] [⟨(.some 39), .none, (.bin .add .i64), [(.t 27), (.c (.int .i64 (.ofNat 1)))]⟩, ⟨(.some 27), .none, .mov, [(.t 39)]⟩]))))
def fr37 (x7 : AV) (pc : List AV) (off len cap : Nat) (ex : Bool) (i : Nat) : Fr := [.top, .top, .top, .top, .top, .top, .top, x7, .top, .top, .top, .top, .top, .top, .top, .top, .top, .top, .top, .top, .top, .top, .top, .top, .top, .ros pc off len cap ex, .int .i64 (Int.ofNat len), .int .i64 (Int.ofNat i), .top, .top, .top, .top, .top, .top, .top, .top, .top, .top, .top, .top, .top]
def mk37 : List Bool := [true, true, true, true, true, true, true, false, true, true, true, true, true, true, true, true, true, true, true, true, true, true, true, true, true, false, false, false, true, true, true, true, true, true, true, true, true, true, true, true, true]
def ln37 (F : WF) : LnF := fun n0 b fr H => match slot fr 7, slot fr 25, H with
  | .slc 2 0 m c 1, .ros pc off len cap ex, [.cells ks, .cells hd, .cells ms] => some (n0 = 0 ∧ VCis b lp37 ∧ forget mk37 fr = fr37 (.slc 2 0 m c 1) pc off len cap ex 0 ∧ P37 ms pc off len m,
      .ok (.exit 0) (fr37 (.slc 2 0 m c 1) pc off len cap ex len) [.cells ks, .cells hd, .cells (F.msk ms pc off len)])
  | .nils, .ros pc off len cap ex, [.cells ks, .cells hd] => some (n0 = 0 ∧ VCis b lp37 ∧ forget mk37 fr = fr37 .nils pc off len cap ex 0 ∧ len = 0,
      .ok (.exit 0) (fr37 .nils pc off len cap ex 0) [.cells ks, .cells hd])
  | _, _, _ => none
def P39 (ks hd ms pc : List AV) (off len m : Nat) : Prop := flatL ks ∧ flatL hd ∧ flatL pc ∧ m = len ∧ len ≤ 65536 ∧ (∃ lb, BytesAt pc off len lb) ∧ ∃ mb : List UInt8, mb.length = len ∧ ms = mb.map by8
def lp39 : VC := (.seq (.seq (.reg .false [] [⟨(.some 24), .none, .mov, [(.t 9)]⟩, ⟨(.some 25), .none, .mov, [(.t 2)]⟩, ⟨(.some 26), .none, .len, [(.t 25)]⟩, ⟨(.some 27), .none, (.cmp .lss), [(.t 24), (.t 26)]⟩]) (.cond (.t 27) .skip (.exit 0))) (.seq (.block 1 (.reg .true [0, 0, 0, 6, 14, 0, 0, 96, 224, 510, 1022, 2047, 4095] [⟨(.some 30), .none, .mov, [(.t 8)]⟩, ⟨(.some 31), .none, .mov, [(.t 2)]⟩, ⟨(.some 32), .none, .mov, [(.t 9)]⟩, ⟨(.some 33), .none, (.ixS 1), [(.t 31), (.t 32)]⟩, ⟨(.some 34), .none, (.ld1 (.int .u8)), [(.t 33)]⟩, ⟨(.some 35), .none, .mov, [(.t 7)]⟩, ⟨(.some 36), .none, .mov, [(.t 9)]⟩, ⟨(.some 37), .none, (.ixS 1), [(.t 35), (.t 36)]⟩, ⟨(.some 38), .none, (.ld1 (.int .u8)), [(.t 37)]⟩, ⟨(.some 39), .none, (.bin .xor .u8), [(.t 34), (.t 38)]⟩, ⟨(.some 40), .none, (.mks [(.int .u8 (.ofNat 0))] 1 [⟨0, 1⟩]), [(.t 39)]⟩, ⟨(.some 41), .none, (.app 1 1), [(.t 30), (.t 40)]⟩, ⟨(.some 8), .none, .mov, [(.t 41)]⟩])) (.reg .false [] [⟨(.some 28), .none, .mov, [(.t 9)]⟩, ⟨(.some 29), .none, (.bin .add .i64), [(.t 28), (.c (.int .i64 (.ofNat 1)))]⟩, ⟨(.some 9), .none, .mov, [(.t 29)]⟩])))
def fr39 (x7 : AV) (x8 : AV) (pc : List AV) (off len cap : Nat) (ex : Bool) (i : Nat) : Fr := [.top, .top, .ros pc off len cap ex, .top, .top, .top, .top, x7, x8, .int .i64 (Int.ofNat i), .top, .top, .top, .top, .top, .top, .top, .top, .top, .top, .top, .top, .top, .top, .top, .top, .top, .top, .top, .top, .top, .top, .top, .top, .top, .top, .top, .top, .top, .top, .top, .top, .top]
def mk39 : List Bool := [true, true, false, true, true, true, true, false, false, false, true, true, true, true, true, true, true, true, true, true, true, true, true, true, true, true, true, true, true, true, true, true, true, true, true, true, true, true, true, true, true, true, true]
def ln39 (F : WF) : LnF := fun n0 b fr H => match slot fr 7, slot fr 2, H with
  | .slc 2 0 m c 1, .ros pc off len cap ex, [.cells ks, .cells hd, .cells ms] => some (n0 = 0 ∧ VCis b lp39 ∧ forget mk39 fr = fr39 (.slc 2 0 m c 1) .nils pc off len cap ex 0 ∧ P39 ks hd ms pc off len m,
      .ok (.exit 0) (fr39 (.slc 2 0 m c 1) (.slc 3 0 len len 1) pc off len cap ex len) [.cells ks, .cells hd, .cells ms, .cells (F.msk ms pc off len)])
  | .nils, .ros pc off len cap ex, [.cells ks, .cells hd] => some (n0 = 0 ∧ VCis b lp39 ∧ forget mk39 fr = fr39 .nils .nils pc off len cap ex 0 ∧ len = 0,
      .ok (.exit 0) (fr39 .nils .nils pc off len cap ex 0) [.cells ks, .cells hd])
  | _, _, _ => none
def P46 (pa : List AV) (oa la : Nat) (pb : List AV) (ob lb m z : Nat) : Prop := m ≤ la ∧ m ≤ lb ∧ la < 137438953472 ∧ z < 9223372036854775808 ∧ (∃ al, BytesAt pa oa la al) ∧ ∃ bl, BytesAt pb ob lb bl
def lp46 : VC := (.seq (.reg .false [] [⟨(.some 18), .none, (.cmp .lss), [(.t 17), (.t 16)]⟩]) (.seq (.cond (.t 18) .skip (.exit 0)) (.seq (.block 1 (.seq (.reg .false [] [⟨(.some 19), .none, .mov, [(.t 17)]⟩, ⟨(.some 6), .none, .mov, [(.t 19)]⟩]) (.reg .true [0, 0, 0, 6, 14, 30, 0, 0, 192, 448, 960, 2046, 4095, 8191] [⟨(.some 20), .none, .mov, [(.t 5)]⟩, ⟨(.some 21), .none, .mov, [(.t 0)]⟩, ⟨(.some 22), .none, .mov, [(.t 6)]⟩, ⟨(.some 23), .none, (.ixS 1), [(.t 21), (.t 22)]⟩, ⟨(.some 24), .none, (.ld1 (.int .u8)), [(.t 23)]⟩, ⟨(.some 25), .none, (.cvt .i64), [(.t 24)]⟩, ⟨(.some 26), .none, .mov, [(.t 1)]⟩, ⟨(.some 27), .none, .mov, [(.t 6)]⟩, ⟨(.some 28), .none, (.ixS 1), [(.t 26), (.t 27)]⟩, ⟨(.some 29), .none, (.ld1 (.int .u8)), [(.t 28)]⟩, ⟨(.some 30), .none, (.cvt .i64), [(.t 29)]⟩, ⟨(.some 31), .none, (.bin .xor .i64), [(.t 25), (.t 30)]⟩, ⟨(.some 32), .none, (.bin .or .i64), [(.t 20), (.t 31)]⟩, ⟨(.some 5), .none, .mov, [(.t 32)]⟩]))) (.reg .false [] [⟨(.some 33), .none, (.bin .add .i64), [(.t 17), (.c (.int .i64 (.ofNat 1)))]⟩, ⟨(.some 17), .none, .mov, [(.t 33)]⟩]))))
def fr46 (pa : List AV) (oa la ca : Nat) (ea : Bool) (pb : List AV) (ob lb cb : Nat) (eb : Bool) (z m i : Nat) : Fr := [.ros pa oa la ca ea, .ros pb ob lb cb eb, .top, .top, .top, .int .i64 (Int.ofNat z), .top, .top, .top, .top, .top, .top, .top, .top, .top, .top, .int .i64 (Int.ofNat m), .int .i64 (Int.ofNat i), .top, .top, .top, .top, .top, .top, .top, .top, .top, .top, .top, .top, .top, .top, .top, .top, .top, .top]
def mk46 : List Bool := [false, false, true, true, true, false, true, true, true, true, true, true, true, true, true, true, false, false, true, true, true, true, true, true, true, true, true, true, true, true, true, true, true, true, true, true]
def ln46 (F : WF) : LnF := fun n0 b fr H => match slot fr 0, slot fr 1, slot fr 5, slot fr 16, H with
  | .ros pa oa la ca ea, .ros pb ob lb cb eb, .int .i64 z, .int .i64 m, [] => some (n0 = 0 ∧ VCis b lp46 ∧ forget mk46 fr = fr46 pa oa la ca ea pb ob lb cb eb (ops0.nat z) (ops0.nat m) 0 ∧ P46 pa oa la pb ob lb (ops0.nat m) (ops0.nat z),
      .ok (.exit 0) (fr46 pa oa la ca ea pb ob lb cb eb (F.acc (ops0.nat z) pa oa pb ob (ops0.nat m)) (ops0.nat m) (ops0.nat m)) [])
  | _, _, _, _, _ => none

theorem vc42 (S : NG) (ks : List AV) (l : List UInt8) (n : Int) (Q : AV → Hl → Prop) :
  (vcall (vcA kdYes (cnN2 S) noLn) ops0 (tabOne 42 vf42) 200 vf42 [.agg ks, .str l, .int .u64 n] [] (endN (fun _ => 0) Q)) =
 ((Chk (ops0.le 32 (ops0.len ks))
 (((Int.ofNat 0) ≤ n) ∧
 (((PKey (ops0.ext ks 0 32)) ∧
 (PTag [(AV.ros (MF.bytes (NF.toMF (NG.toNF S)) n) 0 8 8 Bool.false)] 0 1)) ∧
 (Chk (ops0.eq (ops0.len (GF.tag (NG.toGF S) (ops0.ext ks 0 32) l [(partA (AV.ros (MF.bytes (NF.toMF (NG.toNF S)) n) 0 8 8 Bool.false))])) 32)
 (Chk (ops0.le 32 (ops0.len (ops0.spl (z8 32) 0 (GF.tag (NG.toGF S) (ops0.ext ks 0 32) l [(partA (AV.ros (MF.bytes (NF.toMF (NG.toNF S)) n) 0 8 8 Bool.false))]))))
 (Q (AV.agg (ops0.ext (ops0.spl (z8 32) 0 (GF.tag (NG.toGF S) (ops0.ext ks 0 32) l [(partA (AV.ros (MF.bytes (NF.toMF (NG.toNF S)) n) 0 8 8 Bool.false))])) 0 32)) []))))))) := by kernel_rfl

theorem vc43 (S : NG) (ks : List AV) (l : List UInt8) (n : Int) (Q : AV → Hl → Prop) :
  (vcall (vcA kdYes (cnN2 S) noLn) ops0 (tabOne 43 vf43) 200 vf43 [.agg ks, .str l, .int .u64 n] [] (endN (fun _ => 0) Q)) =
 ((Chk (ops0.le 32 (ops0.len ks))
 (((Int.ofNat 0) ≤ n) ∧
 (((PKey (ops0.ext ks 0 32)) ∧
 (PTag [(AV.ros (MF.bytes (NF.toMF (NG.toNF S)) n) 0 8 8 Bool.false)] 0 1)) ∧
 (Chk (ops0.eq (ops0.len (GF.tag (NG.toGF S) (ops0.ext ks 0 32) l [(partA (AV.ros (MF.bytes (NF.toMF (NG.toNF S)) n) 0 8 8 Bool.false))])) 32)
 (Chk (ops0.le 32 (ops0.len (ops0.spl (z8 32) 0 (GF.tag (NG.toGF S) (ops0.ext ks 0 32) l [(partA (AV.ros (MF.bytes (NF.toMF (NG.toNF S)) n) 0 8 8 Bool.false))]))))
 (Q (AV.agg (ops0.ext (ops0.spl (z8 32) 0 (GF.tag (NG.toGF S) (ops0.ext ks 0 32) l [(partA (AV.ros (MF.bytes (NF.toMF (NG.toNF S)) n) 0 8 8 Bool.false))])) 0 32)) []))))))) := by kernel_rfl

theorem vc47 (S : NG) (ks : List AV) (Q : AV → Hl → Prop) :
  (vcall (vcA kdYes (cnN2 S) noLn) ops0 (tabOne 47 vf47) 200 vf47 [.agg ks] [] (endN (fun _ => 0) Q)) =
 ((Chk (ops0.le 32 (ops0.len ks))
 ((PPs [(AV.ros ks 0 32 32 Bool.false)] 0 1) ∧
 (Chk (ops0.eq (ops0.len (KF.sum (AF.toKF (NF.toAF (NG.toNF S))) (rdP [(AV.ros ks 0 32 32 Bool.false)] 0 1))) 32)
 (Chk (ops0.le 32 (ops0.len (ops0.spl (z8 32) 0 (KF.sum (AF.toKF (NF.toAF (NG.toNF S))) (rdP [(AV.ros ks 0 32 32 Bool.false)] 0 1)))))
 (Q (AV.agg (ops0.ext (ops0.spl (z8 32) 0 (KF.sum (AF.toKF (NF.toAF (NG.toNF S))) (rdP [(AV.ros ks 0 32 32 Bool.false)] 0 1))) 0 32)) [])))))) := by kernel_rfl

theorem vcl37 (ks hd ms pc : List AV) (m c off len cap : Nat) (ex : Bool) (i : Nat) (Q : Ex → Fr → Hl → Prop) :
  (vm (vcA kdYes noCn noLn) ops0 noTab 100 0 lp37 (fr37 (.slc 2 0 m c 1) pc off len cap ex i) [.cells ks, .cells hd, .cells ms] [] (bodyX mk37 Q)) =
 ((Br (ops0.cmp BinOp.lss (Int.ofNat i) (Int.ofNat len))
 (Chk (ops0.inr (Int.ofNat i) len)
 (∃ n : Int, ((Nth pc (ops0.adr off (Int.ofNat i) 1) (AV.int IntKind.u8 n)) ∧
 (Chk (ops0.inr (Int.ofNat i) m)
 (∃ n1 : Int, ((Nth ms (ops0.adr 0 (Int.ofNat i) 1) (AV.int IntKind.u8 n1)) ∧
 (Chk (ops0.inr (Int.ofNat i) m)
 (Chk (ops0.lt (ops0.adr 0 (Int.ofNat i) 1) (ops0.len ms))
 (Q Ex.norm [AV.top, AV.top, AV.top, AV.top, AV.top, AV.top, AV.top, (AV.slc 2 0 m c 1), AV.top, AV.top, AV.top, AV.top, AV.top, AV.top, AV.top, AV.top, AV.top, AV.top, AV.top, AV.top, AV.top, AV.top, AV.top, AV.top, AV.top, (AV.ros pc off len cap ex), (AV.int IntKind.i64 (Int.ofNat len)), (AV.int IntKind.i64 (ops0.bin BinOp.add IntKind.i64 (Int.ofNat i) (Int.ofNat 1))), AV.top, AV.top, AV.top, AV.top, AV.top, AV.top, AV.top, AV.top, AV.top, AV.top, AV.top, AV.top, AV.top] [(Blk.cells ks), (Blk.cells hd), (Blk.cells (ops0.set ms (ops0.adr 0 (Int.ofNat i) 1) (AV.int IntKind.u8 (ops0.bin BinOp.xor IntKind.u8 n1 n))))])))))))))
 (Q (Ex.exit 0) [AV.top, AV.top, AV.top, AV.top, AV.top, AV.top, AV.top, (AV.slc 2 0 m c 1), AV.top, AV.top, AV.top, AV.top, AV.top, AV.top, AV.top, AV.top, AV.top, AV.top, AV.top, AV.top, AV.top, AV.top, AV.top, AV.top, AV.top, (AV.ros pc off len cap ex), (AV.int IntKind.i64 (Int.ofNat len)), (AV.int IntKind.i64 (Int.ofNat i)), AV.top, AV.top, AV.top, AV.top, AV.top, AV.top, AV.top, AV.top, AV.top, AV.top, AV.top, AV.top, AV.top] [(Blk.cells ks), (Blk.cells hd), (Blk.cells ms)]))) := by kernel_rfl

theorem vcl37n (ks hd pc : List AV) (off cap : Nat) (ex : Bool) (Q : Ex → Fr → Hl → Prop) :
  (vm (vcA kdYes noCn noLn) ops0 noTab 100 0 lp37 (fr37 .nils pc off 0 cap ex 0) [.cells ks, .cells hd] [] (bodyX mk37 Q)) =
 ((Q (Ex.exit 0) [AV.top, AV.top, AV.top, AV.top, AV.top, AV.top, AV.top, AV.nils, AV.top, AV.top, AV.top, AV.top, AV.top, AV.top, AV.top, AV.top, AV.top, AV.top, AV.top, AV.top, AV.top, AV.top, AV.top, AV.top, AV.top, (AV.ros pc off 0 cap ex), (AV.int IntKind.i64 (Int.ofNat 0)), (AV.int IntKind.i64 (Int.ofNat 0)), AV.top, AV.top, AV.top, AV.top, AV.top, AV.top, AV.top, AV.top, AV.top, AV.top, AV.top, AV.top, AV.top] [(Blk.cells ks), (Blk.cells hd)])) := by kernel_rfl

theorem vcl39 (ks hd ms xs pc : List AV) (m c L off len cap : Nat) (ex : Bool) (i : Nat) (Q : Ex → Fr → Hl → Prop) :
  (vm (vcA kdYes noCn noLn) ops0 noTab 100 0 lp39 (fr39 (.slc 2 0 m c 1) (.slc 3 0 L L 1) pc off len cap ex i) [.cells ks, .cells hd, .cells ms, .cells xs] [] (bodyX mk39 Q)) =
 ((Br (ops0.cmp BinOp.lss (Int.ofNat i) (ops0.ofn len))
 (Chk (ops0.inr (Int.ofNat i) len)
 (∃ n : Int, ((Nth pc (ops0.adr off (Int.ofNat i) 1) (AV.int IntKind.u8 n)) ∧
 (Chk (ops0.inr (Int.ofNat i) m)
 (∃ n1 : Int, ((Nth ms (ops0.adr 0 (Int.ofNat i) 1) (AV.int IntKind.u8 n1)) ∧
 (Chk (ops0.le (ops0.add 0 (ops0.mul L 1)) (ops0.len xs))
 (Chk (ops0.room L 1 1)
 (Q Ex.norm [AV.top, AV.top, (AV.ros pc off len cap ex), AV.top, AV.top, AV.top, AV.top, (AV.slc 2 0 m c 1), (AV.slc 4 0 (ops0.add L 1) (ops0.add L 1) 1), (AV.int IntKind.i64 (ops0.bin BinOp.add IntKind.i64 (Int.ofNat i) (Int.ofNat 1))), AV.top, AV.top, AV.top, AV.top, AV.top, AV.top, AV.top, AV.top, AV.top, AV.top, AV.top, AV.top, AV.top, AV.top, AV.top, AV.top, AV.top, AV.top, AV.top, AV.top, AV.top, AV.top, AV.top, AV.top, AV.top, AV.top, AV.top, AV.top, AV.top, AV.top, AV.top, AV.top, AV.top] [(Blk.cells ks), (Blk.cells hd), (Blk.cells ms), Blk.dead, (Blk.cells (ops0.app (ops0.ext xs 0 (ops0.mul L 1)) [(AV.int IntKind.u8 (ops0.bin BinOp.xor IntKind.u8 n n1))]))])))))))))
 (Q (Ex.exit 0) [AV.top, AV.top, (AV.ros pc off len cap ex), AV.top, AV.top, AV.top, AV.top, (AV.slc 2 0 m c 1), (AV.slc 3 0 L L 1), (AV.int IntKind.i64 (Int.ofNat i)), AV.top, AV.top, AV.top, AV.top, AV.top, AV.top, AV.top, AV.top, AV.top, AV.top, AV.top, AV.top, AV.top, AV.top, AV.top, AV.top, AV.top, AV.top, AV.top, AV.top, AV.top, AV.top, AV.top, AV.top, AV.top, AV.top, AV.top, AV.top, AV.top, AV.top, AV.top, AV.top, AV.top] [(Blk.cells ks), (Blk.cells hd), (Blk.cells ms), (Blk.cells xs)]))) := by kernel_rfl

theorem vcl39n (ks hd pc : List AV) (off cap : Nat) (ex : Bool) (Q : Ex → Fr → Hl → Prop) :
  (vm (vcA kdYes noCn noLn) ops0 noTab 100 0 lp39 (fr39 .nils .nils pc off 0 cap ex 0) [.cells ks, .cells hd] [] (bodyX mk39 Q)) =
 ((Q (Ex.exit 0) [AV.top, AV.top, (AV.ros pc off 0 cap ex), AV.top, AV.top, AV.top, AV.top, AV.nils, AV.nils, (AV.int IntKind.i64 (Int.ofNat 0)), AV.top, AV.top, AV.top, AV.top, AV.top, AV.top, AV.top, AV.top, AV.top, AV.top, AV.top, AV.top, AV.top, AV.top, AV.top, AV.top, AV.top, AV.top, AV.top, AV.top, AV.top, AV.top, AV.top, AV.top, AV.top, AV.top, AV.top, AV.top, AV.top, AV.top, AV.top, AV.top, AV.top] [(Blk.cells ks), (Blk.cells hd)])) := by kernel_rfl

theorem vcl46 (pa : List AV) (oa la ca : Nat) (ea : Bool) (pb : List AV) (ob lb cb : Nat) (eb : Bool) (z m i : Nat) (Q : Ex → Fr → Hl → Prop) :
  (vm (vcA kdYes noCn noLn) ops0 noTab 100 0 lp46 (fr46 pa oa la ca ea pb ob lb cb eb z m i) [] [] (bodyX mk46 Q)) =
 ((Br (ops0.cmp BinOp.lss (Int.ofNat i) (Int.ofNat m))
 (Chk (ops0.inr (Int.ofNat i) la)
 (∃ n : Int, ((Nth pa (ops0.adr oa (Int.ofNat i) 1) (AV.int IntKind.u8 n)) ∧
 (Chk (ops0.inr (Int.ofNat i) lb)
 (∃ n1 : Int, ((Nth pb (ops0.adr ob (Int.ofNat i) 1) (AV.int IntKind.u8 n1)) ∧
 (Q Ex.norm [(AV.ros pa oa la ca ea), (AV.ros pb ob lb cb eb), AV.top, AV.top, AV.top, (AV.int IntKind.i64 (ops0.bin BinOp.or IntKind.i64 (Int.ofNat z) (ops0.bin BinOp.xor IntKind.i64 (ops0.cvt IntKind.i64 n) (ops0.cvt IntKind.i64 n1)))), AV.top, AV.top, AV.top, AV.top, AV.top, AV.top, AV.top, AV.top, AV.top, AV.top, (AV.int IntKind.i64 (Int.ofNat m)), (AV.int IntKind.i64 (ops0.bin BinOp.add IntKind.i64 (Int.ofNat i) (Int.ofNat 1))), AV.top, AV.top, AV.top, AV.top, AV.top, AV.top, AV.top, AV.top, AV.top, AV.top, AV.top, AV.top, AV.top, AV.top, AV.top, AV.top, AV.top, AV.top] [])))))))
 (Q (Ex.exit 0) [(AV.ros pa oa la ca ea), (AV.ros pb ob lb cb eb), AV.top, AV.top, AV.top, (AV.int IntKind.i64 (Int.ofNat z)), AV.top, AV.top, AV.top, AV.top, AV.top, AV.top, AV.top, AV.top, AV.top, AV.top, (AV.int IntKind.i64 (Int.ofNat m)), (AV.int IntKind.i64 (Int.ofNat i)), AV.top, AV.top, AV.top, AV.top, AV.top, AV.top, AV.top, AV.top, AV.top, AV.top, AV.top, AV.top, AV.top, AV.top, AV.top, AV.top, AV.top, AV.top] []))) := by kernel_rfl

theorem vc37 (S : NG) (F : WF) (ks pc : List AV) (l : List UInt8) (off len cap : Nat) (ex : Bool) (Q : Nat → Nat → Nat → Nat → List AV → Prop) :
  (vcall (vcA kdYes (cnN2 S) (ln37 F)) ops0 (tabOne 37 vf37) 200 vf37 [.agg ks, .str l, .ros pc off len cap ex] [] (endB Q)) =
 ((Br (ops0.cmp BinOp.gtr (ops0.ofn (ops0.slen l)) (Int.ofNat 64))
 False
 (Br (ops0.cmp BinOp.gtr (ops0.ofn len) (Int.ofNat 65536))
 False
 (Chk (ops0.le 32 (ops0.len ks))
 (((PKey (ops0.ext ks 0 32)) ∧
 ((List.length l) ≤ 64)) ∧
 ((PPs [(AV.ros (MF.head (NF.toMF (NG.toNF S)) (ops0.ext ks 0 32) l) 0 (ops0.add (ops0.slen l) 33) (ops0.add (ops0.slen l) 33) Bool.false)] 0 1) ∧
 (Br (inK (ops0.ofn len))
 ((((0 : Nat) = 0) ∧
 ((VCis lp37 lp37) ∧
 ((([AV.top, AV.top, AV.top, AV.top, AV.top, AV.top, AV.top, (AV.slc 2 0 len len 1), AV.top, AV.top, AV.top, AV.top, AV.top, AV.top, AV.top, AV.top, AV.top, AV.top, AV.top, AV.top, AV.top, AV.top, AV.top, AV.top, AV.top, (AV.ros pc off len cap ex), (AV.int IntKind.i64 (ops0.ofn len)), (AV.int IntKind.i64 (Int.ofNat 0)), AV.top, AV.top, AV.top, AV.top, AV.top, AV.top, AV.top, AV.top, AV.top, AV.top, AV.top, AV.top, AV.top] : Fr) = [AV.top, AV.top, AV.top, AV.top, AV.top, AV.top, AV.top, (AV.slc 2 0 len len 1), AV.top, AV.top, AV.top, AV.top, AV.top, AV.top, AV.top, AV.top, AV.top, AV.top, AV.top, AV.top, AV.top, AV.top, AV.top, AV.top, AV.top, (AV.ros pc off len cap ex), (AV.int IntKind.i64 (Int.ofNat len)), (AV.int IntKind.i64 (Int.ofNat 0)), AV.top, AV.top, AV.top, AV.top, AV.top, AV.top, AV.top, AV.top, AV.top, AV.top, AV.top, AV.top, AV.top]) ∧
 (P37 (KF.str (AF.toKF (NF.toAF (NG.toNF S))) (rdP [(AV.ros (MF.head (NF.toMF (NG.toNF S)) (ops0.ext ks 0 32) l) 0 (ops0.add (ops0.slen l) 33) (ops0.add (ops0.slen l) 33) Bool.false)] 0 1) len) pc off len len)))) ∧
 ((flatL (WF.msk F (KF.str (AF.toKF (NF.toAF (NG.toNF S))) (rdP [(AV.ros (MF.head (NF.toMF (NG.toNF S)) (ops0.ext ks 0 32) l) 0 (ops0.add (ops0.slen l) 33) (ops0.add (ops0.slen l) 33) Bool.false)] 0 1) len) pc off len)) ∧
 (Q 0 len len 1 (WF.msk F (KF.str (AF.toKF (NF.toAF (NG.toNF S))) (rdP [(AV.ros (MF.head (NF.toMF (NG.toNF S)) (ops0.ext ks 0 32) l) 0 (ops0.add (ops0.slen l) 33) (ops0.add (ops0.slen l) 33) Bool.false)] 0 1) len) pc off len))))
 ((((0 : Nat) = 0) ∧
 ((VCis lp37 lp37) ∧
 ((([AV.top, AV.top, AV.top, AV.top, AV.top, AV.top, AV.top, AV.nils, AV.top, AV.top, AV.top, AV.top, AV.top, AV.top, AV.top, AV.top, AV.top, AV.top, AV.top, AV.top, AV.top, AV.top, AV.top, AV.top, AV.top, (AV.ros pc off len cap ex), (AV.int IntKind.i64 (ops0.ofn len)), (AV.int IntKind.i64 (Int.ofNat 0)), AV.top, AV.top, AV.top, AV.top, AV.top, AV.top, AV.top, AV.top, AV.top, AV.top, AV.top, AV.top, AV.top] : Fr) = [AV.top, AV.top, AV.top, AV.top, AV.top, AV.top, AV.top, AV.nils, AV.top, AV.top, AV.top, AV.top, AV.top, AV.top, AV.top, AV.top, AV.top, AV.top, AV.top, AV.top, AV.top, AV.top, AV.top, AV.top, AV.top, (AV.ros pc off len cap ex), (AV.int IntKind.i64 (Int.ofNat len)), (AV.int IntKind.i64 (Int.ofNat 0)), AV.top, AV.top, AV.top, AV.top, AV.top, AV.top, AV.top, AV.top, AV.top, AV.top, AV.top, AV.top, AV.top]) ∧
 ((len : Nat) = 0)))) ∧
 False)))))))) := by kernel_rfl

theorem vc37n (S : NG) (F : WF) (ks pc : List AV) (l : List UInt8) (off len cap : Nat) (ex : Bool) (Q : AV → Hl → Prop) :
  (vcall (vcA kdYes (cnN2 S) (ln37 F)) ops0 (tabOne 37 vf37) 200 vf37 [.agg ks, .str l, .ros pc off len cap ex] [] (endN (fun _ => 0) Q)) =
 ((Br (ops0.cmp BinOp.gtr (ops0.ofn (ops0.slen l)) (Int.ofNat 64))
 (Q AV.nils [])
 (Br (ops0.cmp BinOp.gtr (ops0.ofn len) (Int.ofNat 65536))
 (Q AV.nils [])
 (Chk (ops0.le 32 (ops0.len ks))
 (((PKey (ops0.ext ks 0 32)) ∧
 ((List.length l) ≤ 64)) ∧
 ((PPs [(AV.ros (MF.head (NF.toMF (NG.toNF S)) (ops0.ext ks 0 32) l) 0 (ops0.add (ops0.slen l) 33) (ops0.add (ops0.slen l) 33) Bool.false)] 0 1) ∧
 (Br (inK (ops0.ofn len))
 ((((0 : Nat) = 0) ∧
 ((VCis lp37 lp37) ∧
 ((([AV.top, AV.top, AV.top, AV.top, AV.top, AV.top, AV.top, (AV.slc 2 0 len len 1), AV.top, AV.top, AV.top, AV.top, AV.top, AV.top, AV.top, AV.top, AV.top, AV.top, AV.top, AV.top, AV.top, AV.top, AV.top, AV.top, AV.top, (AV.ros pc off len cap ex), (AV.int IntKind.i64 (ops0.ofn len)), (AV.int IntKind.i64 (Int.ofNat 0)), AV.top, AV.top, AV.top, AV.top, AV.top, AV.top, AV.top, AV.top, AV.top, AV.top, AV.top, AV.top, AV.top] : Fr) = [AV.top, AV.top, AV.top, AV.top, AV.top, AV.top, AV.top, (AV.slc 2 0 len len 1), AV.top, AV.top, AV.top, AV.top, AV.top, AV.top, AV.top, AV.top, AV.top, AV.top, AV.top, AV.top, AV.top, AV.top, AV.top, AV.top, AV.top, (AV.ros pc off len cap ex), (AV.int IntKind.i64 (Int.ofNat len)), (AV.int IntKind.i64 (Int.ofNat 0)), AV.top, AV.top, AV.top, AV.top, AV.top, AV.top, AV.top, AV.top, AV.top, AV.top, AV.top, AV.top, AV.top]) ∧
 (P37 (KF.str (AF.toKF (NF.toAF (NG.toNF S))) (rdP [(AV.ros (MF.head (NF.toMF (NG.toNF S)) (ops0.ext ks 0 32) l) 0 (ops0.add (ops0.slen l) 33) (ops0.add (ops0.slen l) 33) Bool.false)] 0 1) len) pc off len len)))) ∧
 (Q (AV.slc 2 0 len len 1) []))
 ((((0 : Nat) = 0) ∧
 ((VCis lp37 lp37) ∧
 ((([AV.top, AV.top, AV.top, AV.top, AV.top, AV.top, AV.top, AV.nils, AV.top, AV.top, AV.top, AV.top, AV.top, AV.top, AV.top, AV.top, AV.top, AV.top, AV.top, AV.top, AV.top, AV.top, AV.top, AV.top, AV.top, (AV.ros pc off len cap ex), (AV.int IntKind.i64 (ops0.ofn len)), (AV.int IntKind.i64 (Int.ofNat 0)), AV.top, AV.top, AV.top, AV.top, AV.top, AV.top, AV.top, AV.top, AV.top, AV.top, AV.top, AV.top, AV.top] : Fr) = [AV.top, AV.top, AV.top, AV.top, AV.top, AV.top, AV.top, AV.nils, AV.top, AV.top, AV.top, AV.top, AV.top, AV.top, AV.top, AV.top, AV.top, AV.top, AV.top, AV.top, AV.top, AV.top, AV.top, AV.top, AV.top, (AV.ros pc off len cap ex), (AV.int IntKind.i64 (Int.ofNat len)), (AV.int IntKind.i64 (Int.ofNat 0)), AV.top, AV.top, AV.top, AV.top, AV.top, AV.top, AV.top, AV.top, AV.top, AV.top, AV.top, AV.top, AV.top]) ∧
 ((len : Nat) = 0)))) ∧
 (Q AV.nils []))))))))) := by kernel_rfl

theorem vc39 (S : NG) (F : WF) (ks pc : List AV) (l : List UInt8) (off len cap : Nat) (ex : Bool) (Q : Nat → Nat → Nat → Nat → List AV → Prop) :
  (vcall (vcA kdYes (cnN2 S) (ln39 F)) ops0 (tabOne 39 vf39) 200 vf39 [.agg ks, .str l, .ros pc off len cap ex] [] (endB Q)) =
 ((Br (ops0.cmp BinOp.gtr (ops0.ofn (ops0.slen l)) (Int.ofNat 64))
 False
 (Br (ops0.cmp BinOp.gtr (ops0.ofn len) (Int.ofNat 65536))
 False
 (Chk (ops0.le 32 (ops0.len ks))
 (((PKey (ops0.ext ks 0 32)) ∧
 ((List.length l) ≤ 64)) ∧
 ((PB (MF.head (NF.toMF (NG.toNF S)) (ops0.ext ks 0 32) l) 0 (ops0.add (ops0.slen l) 33)) ∧
 (Br (inK (ops0.ofn len))
 ((((0 : Nat) = 0) ∧
 ((VCis lp39 lp39) ∧
 ((([AV.top, AV.top, (AV.ros pc off len cap ex), AV.top, AV.top, AV.top, AV.top, (AV.slc 2 0 len len 1), AV.nils, (AV.int IntKind.i64 (Int.ofNat 0)), AV.top, AV.top, AV.top, AV.top, AV.top, AV.top, AV.top, AV.top, AV.top, AV.top, AV.top, AV.top, AV.top, AV.top, AV.top, AV.top, AV.top, AV.top, AV.top, AV.top, AV.top, AV.top, AV.top, AV.top, AV.top, AV.top, AV.top, AV.top, AV.top, AV.top, AV.top, AV.top, AV.top] : Fr) = [AV.top, AV.top, (AV.ros pc off len cap ex), AV.top, AV.top, AV.top, AV.top, (AV.slc 2 0 len len 1), AV.nils, (AV.int IntKind.i64 (Int.ofNat 0)), AV.top, AV.top, AV.top, AV.top, AV.top, AV.top, AV.top, AV.top, AV.top, AV.top, AV.top, AV.top, AV.top, AV.top, AV.top, AV.top, AV.top, AV.top, AV.top, AV.top, AV.top, AV.top, AV.top, AV.top, AV.top, AV.top, AV.top, AV.top, AV.top, AV.top, AV.top, AV.top, AV.top]) ∧
 (P39 ks (MF.head (NF.toMF (NG.toNF S)) (ops0.ext ks 0 32) l) (KF.str (AF.toKF (NF.toAF (NG.toNF S))) (rdB (MF.head (NF.toMF (NG.toNF S)) (ops0.ext ks 0 32) l) 0 (ops0.add (ops0.slen l) 33)) len) pc off len len)))) ∧
 ((flatL (WF.msk F (KF.str (AF.toKF (NF.toAF (NG.toNF S))) (rdB (MF.head (NF.toMF (NG.toNF S)) (ops0.ext ks 0 32) l) 0 (ops0.add (ops0.slen l) 33)) len) pc off len)) ∧
 (Q 0 len len 1 (WF.msk F (KF.str (AF.toKF (NF.toAF (NG.toNF S))) (rdB (MF.head (NF.toMF (NG.toNF S)) (ops0.ext ks 0 32) l) 0 (ops0.add (ops0.slen l) 33)) len) pc off len))))
 ((((0 : Nat) = 0) ∧
 ((VCis lp39 lp39) ∧
 ((([AV.top, AV.top, (AV.ros pc off len cap ex), AV.top, AV.top, AV.top, AV.top, AV.nils, AV.nils, (AV.int IntKind.i64 (Int.ofNat 0)), AV.top, AV.top, AV.top, AV.top, AV.top, AV.top, AV.top, AV.top, AV.top, AV.top, AV.top, AV.top, AV.top, AV.top, AV.top, AV.top, AV.top, AV.top, AV.top, AV.top, AV.top, AV.top, AV.top, AV.top, AV.top, AV.top, AV.top, AV.top, AV.top, AV.top, AV.top, AV.top, AV.top] : Fr) = [AV.top, AV.top, (AV.ros pc off len cap ex), AV.top, AV.top, AV.top, AV.top, AV.nils, AV.nils, (AV.int IntKind.i64 (Int.ofNat 0)), AV.top, AV.top, AV.top, AV.top, AV.top, AV.top, AV.top, AV.top, AV.top, AV.top, AV.top, AV.top, AV.top, AV.top, AV.top, AV.top, AV.top, AV.top, AV.top, AV.top, AV.top, AV.top, AV.top, AV.top, AV.top, AV.top, AV.top, AV.top, AV.top, AV.top, AV.top, AV.top, AV.top]) ∧
 ((len : Nat) = 0)))) ∧
 False)))))))) := by kernel_rfl

theorem vc39n (S : NG) (F : WF) (ks pc : List AV) (l : List UInt8) (off len cap : Nat) (ex : Bool) (Q : AV → Hl → Prop) :
  (vcall (vcA kdYes (cnN2 S) (ln39 F)) ops0 (tabOne 39 vf39) 200 vf39 [.agg ks, .str l, .ros pc off len cap ex] [] (endN (fun _ => 0) Q)) =
 ((Br (ops0.cmp BinOp.gtr (ops0.ofn (ops0.slen l)) (Int.ofNat 64))
 (Q AV.nils [])
 (Br (ops0.cmp BinOp.gtr (ops0.ofn len) (Int.ofNat 65536))
 (Q AV.nils [])
 (Chk (ops0.le 32 (ops0.len ks))
 (((PKey (ops0.ext ks 0 32)) ∧
 ((List.length l) ≤ 64)) ∧
 ((PB (MF.head (NF.toMF (NG.toNF S)) (ops0.ext ks 0 32) l) 0 (ops0.add (ops0.slen l) 33)) ∧
 (Br (inK (ops0.ofn len))
 ((((0 : Nat) = 0) ∧
 ((VCis lp39 lp39) ∧
 ((([AV.top, AV.top, (AV.ros pc off len cap ex), AV.top, AV.top, AV.top, AV.top, (AV.slc 2 0 len len 1), AV.nils, (AV.int IntKind.i64 (Int.ofNat 0)), AV.top, AV.top, AV.top, AV.top, AV.top, AV.top, AV.top, AV.top, AV.top, AV.top, AV.top, AV.top, AV.top, AV.top, AV.top, AV.top, AV.top, AV.top, AV.top, AV.top, AV.top, AV.top, AV.top, AV.top, AV.top, AV.top, AV.top, AV.top, AV.top, AV.top, AV.top, AV.top, AV.top] : Fr) = [AV.top, AV.top, (AV.ros pc off len cap ex), AV.top, AV.top, AV.top, AV.top, (AV.slc 2 0 len len 1), AV.nils, (AV.int IntKind.i64 (Int.ofNat 0)), AV.top, AV.top, AV.top, AV.top, AV.top, AV.top, AV.top, AV.top, AV.top, AV.top, AV.top, AV.top, AV.top, AV.top, AV.top, AV.top, AV.top, AV.top, AV.top, AV.top, AV.top, AV.top, AV.top, AV.top, AV.top, AV.top, AV.top, AV.top, AV.top, AV.top, AV.top, AV.top, AV.top]) ∧
 (P39 ks (MF.head (NF.toMF (NG.toNF S)) (ops0.ext ks 0 32) l) (KF.str (AF.toKF (NF.toAF (NG.toNF S))) (rdB (MF.head (NF.toMF (NG.toNF S)) (ops0.ext ks 0 32) l) 0 (ops0.add (ops0.slen l) 33)) len) pc off len len)))) ∧
 (Q (AV.slc 3 0 len len 1) []))
 ((((0 : Nat) = 0) ∧
 ((VCis lp39 lp39) ∧
 ((([AV.top, AV.top, (AV.ros pc off len cap ex), AV.top, AV.top, AV.top, AV.top, AV.nils, AV.nils, (AV.int IntKind.i64 (Int.ofNat 0)), AV.top, AV.top, AV.top, AV.top, AV.top, AV.top, AV.top, AV.top, AV.top, AV.top, AV.top, AV.top, AV.top, AV.top, AV.top, AV.top, AV.top, AV.top, AV.top, AV.top, AV.top, AV.top, AV.top, AV.top, AV.top, AV.top, AV.top, AV.top, AV.top, AV.top, AV.top, AV.top, AV.top] : Fr) = [AV.top, AV.top, (AV.ros pc off len cap ex), AV.top, AV.top, AV.top, AV.top, AV.nils, AV.nils, (AV.int IntKind.i64 (Int.ofNat 0)), AV.top, AV.top, AV.top, AV.top, AV.top, AV.top, AV.top, AV.top, AV.top, AV.top, AV.top, AV.top, AV.top, AV.top, AV.top, AV.top, AV.top, AV.top, AV.top, AV.top, AV.top, AV.top, AV.top, AV.top, AV.top, AV.top, AV.top, AV.top, AV.top, AV.top, AV.top, AV.top, AV.top]) ∧
 ((len : Nat) = 0)))) ∧
 (Q AV.nils []))))))))) := by kernel_rfl

theorem vc46 (F : WF) (pa : List AV) (oa la ca : Nat) (ea : Bool) (pb : List AV) (ob lb cb : Nat) (eb : Bool) (Q : AV → Hl → List Nat → Prop) :
  (vcall (vcA kdYes noCn (ln46 F)) ops0 (tabOne 46 vf46) 200 vf46 [.ros pa oa la ca ea, .ros pb ob lb cb eb] [] Q) =
 (((((0 : Nat) = 0) ∧
 ((VCis lp46 lp46) ∧
 ((([(AV.ros pa oa la ca ea), (AV.ros pb ob lb cb eb), AV.top, AV.top, AV.top, (AV.int IntKind.i64 (ops0.bin BinOp.xor IntKind.i64 (ops0.ofn la) (ops0.ofn lb))), AV.top, AV.top, AV.top, AV.top, AV.top, AV.top, AV.top, AV.top, AV.top, AV.top, (AV.int IntKind.i64 (ops0.mnx Bool.false (ops0.ofn la) (ops0.ofn lb))), (AV.int IntKind.i64 (Int.ofNat 0)), AV.top, AV.top, AV.top, AV.top, AV.top, AV.top, AV.top, AV.top, AV.top, AV.top, AV.top, AV.top, AV.top, AV.top, AV.top, AV.top, AV.top, AV.top] : Fr) = [(AV.ros pa oa la ca ea), (AV.ros pb ob lb cb eb), AV.top, AV.top, AV.top, (AV.int IntKind.i64 (Int.ofNat (ops0.nat (ops0.bin BinOp.xor IntKind.i64 (ops0.ofn la) (ops0.ofn lb))))), AV.top, AV.top, AV.top, AV.top, AV.top, AV.top, AV.top, AV.top, AV.top, AV.top, (AV.int IntKind.i64 (Int.ofNat (ops0.nat (ops0.mnx Bool.false (ops0.ofn la) (ops0.ofn lb))))), (AV.int IntKind.i64 (Int.ofNat 0)), AV.top, AV.top, AV.top, AV.top, AV.top, AV.top, AV.top, AV.top, AV.top, AV.top, AV.top, AV.top, AV.top, AV.top, AV.top, AV.top, AV.top, AV.top]) ∧
 (P46 pa oa la pb ob lb (ops0.nat (ops0.mnx Bool.false (ops0.ofn la) (ops0.ofn lb))) (ops0.nat (ops0.bin BinOp.xor IntKind.i64 (ops0.ofn la) (ops0.ofn lb))))))) ∧
 (Br (ops0.cmp BinOp.eql (Int.ofNat (WF.acc F (ops0.nat (ops0.bin BinOp.xor IntKind.i64 (ops0.ofn la) (ops0.ofn lb))) pa oa pb ob (ops0.nat (ops0.mnx Bool.false (ops0.ofn la) (ops0.ofn lb))))) (Int.ofNat 0))
 (Q (AV.bool Bool.true) [] [])
 (Q (AV.bool Bool.false) [] [])))) := by kernel_rfl

theorem cnT_ok : CnOK Try.prog (cnT gf0) := by
  intro f vals H p x e hp
  unfold cnT at e
  split at e
  · rename_i ks l y
    split at e <;> cases e
    rename_i ps o n c ex hv
    obtain ⟨⟨key, hk, rfl⟩, ht⟩ := hp
    have h := CallTo.lookV (H := H) (tag41 (l := l) hk c ex ht) (.cons (Vw.agg H (Still.flat (flat_by8 key))) (.cons (Vw.str H l) (.cons (Vw.two hv ht.1.1) .nil)))
    rw [backV_flat (flat_by8 _)] at h
    show CallTo _ _ _ _ (.agg ((tagL (bytesA (key.map by8)) l (partsL ps o n)).map by8)) _ _
    rw [bytesA_by8]
    exact h
  · rename_i ks l y
    split at e <;> cases e
    rename_i ps o n c ex hv
    obtain ⟨⟨key, hk, rfl⟩, ht⟩ := hp
    have h := CallTo.lookV (H := H) (tag40 (l := l) hk c ex ht) (.cons (Vw.agg H (Still.flat (flat_by8 key))) (.cons (Vw.str H l) (.cons (Vw.two hv ht.1.1) .nil)))
    rw [backV_flat (flat_by8 _)] at h
    show CallTo _ _ _ _ (.agg ((tagL (bytesA (key.map by8)) l (partsL ps o n)).map by8)) _ _
    rw [bytesA_by8]
    exact h
  · cases e
theorem cnN2_ok : CnOK Try.prog (cnN2 ng0) := cnOr_ok cnT_ok cnN1_ok

/-! ### Of a number -/
theorem partA_whole (lb : List UInt8) (n c : Nat) (h : n = lb.length) (e : Bool) : partA (.ros (lb.map by8) 0 n c e) = lb := by
  subst h
  exact partA_ros (bytesAt_whole lb)
theorem pps_whole (lb : List UInt8) (n c : Nat) (h : n = lb.length) (hl : lb.length < 137438953472) (e : Bool) : PPs [.ros (lb.map by8) 0 n c e] 0 1 := by
  subst h
  refine ⟨fun p hp => ?_, [lb], rfl, by omega, fun j x hx => ?_⟩
  · obtain rfl : p = _ := List.mem_singleton.1 hp
    exact ⟨_, 0, _, c, e, rfl, flat_by8 _⟩
  · cases j with
    | zero =>
      obtain rfl : lb = x := Option.some.inj hx
      exact ⟨by omega, _, 0, _, c, e, rfl, bytesAt_whole lb⟩
    | succ j => cases hx
theorem partsL_one (p : AV) : partsL [p] 0 1 = [partA p] := rfl
theorem ptag_whole (lb : List UInt8) (n c : Nat) (h : n = lb.length) (hl : lb.length < 68719476000) (e : Bool) : PTag [.ros (lb.map by8) 0 n c e] 0 1 := by
  refine ⟨pps_whole lb n c h (by omega) e, fun j hj pc off len cap ex hp => ?_, ?_⟩
  · obtain rfl : j = 0 := by omega
    cases hp
    simp [h]
  · rw [partsL_one, partA_whole lb n c h]
    unfold textL
    simp [bytesN_length]
    omega
theorem key_ext {key : List UInt8} (h : key.length = 32) : ops0.ext (key.map by8) 0 32 = key.map by8 := by
  rw [nExt, List.drop_zero, List.take_of_length_le (by rw [List.length_map]; omega)]
theorem key_len {key : List UInt8} (h : key.length = 32) : ops0.le 32 (ops0.len (key.map by8)) = true := by
  rw [nLe, nLen]; exact decide_eq_true (by rw [List.length_map]; omega)
theorem gtag_eq (key l : List UInt8) (pl : List (List UInt8)) : GF.tag (NG.toGF ng0) (key.map by8) l pl = (tagL key l pl).map by8 := by
  show (tagL (bytesA (key.map by8)) l pl).map by8 = _
  rw [bytesA_by8]
theorem res32 {xs : List AV} (h : xs.length = 32) {Q : AV → Hl → Prop} (hq : Q (.agg xs) []) : Chk (ops0.eq (ops0.len xs) 32) (Chk (ops0.le 32 (ops0.len (ops0.spl (z8 32) 0 xs))) (Q (.agg (ops0.ext (ops0.spl (z8 32) 0 xs) 0 32)) [])) := by
  rw [keep32 h]
  exact Chk.mk (by rw [nEq, nLen]; exact decide_eq_true h) (Chk.mk (by rw [nLe, nLen, spl_all (by rw [z8_length, h])]; exact decide_eq_true (by omega)) hq)
theorem tag_len32 (key l : List UInt8) (pl : List (List UInt8)) : ((tagL key l pl).map by8).length = 32 := by rw [List.length_map, tagL_length]

theorem derive42 {key : List UInt8} (hk : key.length = 32) (l : List UInt8) (n : Nat) : CallTo Try.prog 42 [.agg (key.map by8), .str l, .int .u64 (Int.ofNat n)] [] (.agg ((tagL key l [bytesN n]).map by8)) [] [] := by
  refine call_n cnN2_ok (noLn_ok _) (tabOne_ok ok42) (tabOne_self 42 vf42) (n := 200) (g := kdYes) (m := fun _ => 0) [] ?_ (by simp) (by show AV.agg _ = _; rw [renL_flat (flat_by8 _)]) (by simp)
  rw [vc42]
  have e1 : MF.bytes (NF.toMF (NG.toNF ng0)) (Int.ofNat n) = (bytesN n).map by8 := rfl
  rw [key_ext hk, e1, partA_whole (bytesN n) 8 8 rfl, gtag_eq]
  exact Chk.mk (key_len hk) ⟨Int.natCast_nonneg _, ⟨⟨key, hk, rfl⟩, ptag_whole (bytesN n) 8 8 rfl (by rw [bytesN_length]; omega) false⟩, res32 (Q := fun r H' => r = AV.agg ((tagL key l [bytesN n]).map by8) ∧ H' = []) (tag_len32 _ _ _) ⟨rfl, rfl⟩⟩
theorem derive43 {key : List UInt8} (hk : key.length = 32) (l : List UInt8) (n : Nat) : CallTo Try.prog 43 [.agg (key.map by8), .str l, .int .u64 (Int.ofNat n)] [] (.agg ((tagL key l [bytesN n]).map by8)) [] [] := by
  refine call_n cnN2_ok (noLn_ok _) (tabOne_ok ok43) (tabOne_self 43 vf43) (n := 200) (g := kdYes) (m := fun _ => 0) [] ?_ (by simp) (by show AV.agg _ = _; rw [renL_flat (flat_by8 _)]) (by simp)
  rw [vc43]
  have e1 : MF.bytes (NF.toMF (NG.toNF ng0)) (Int.ofNat n) = (bytesN n).map by8 := rfl
  rw [key_ext hk, e1, partA_whole (bytesN n) 8 8 rfl, gtag_eq]
  exact Chk.mk (key_len hk) ⟨Int.natCast_nonneg _, ⟨⟨key, hk, rfl⟩, ptag_whole (bytesN n) 8 8 rfl (by rw [bytesN_length]; omega) false⟩, res32 (Q := fun r H' => r = AV.agg ((tagL key l [bytesN n]).map by8) ∧ H' = []) (tag_len32 _ _ _) ⟨rfl, rfl⟩⟩

/-- The digest of bytes. -/
def sumL (l : List UInt8) : List UInt8 := streamF 136 6 32 l
theorem sumL_length (l : List UInt8) : (sumL l).length = 32 := streamF_length _ _ _ _
theorem hash47 {key : List UInt8} (hk : key.length = 32) : CallTo Try.prog 47 [.agg (key.map by8)] [] (.agg ((sumL key).map by8)) [] [] := by
  refine call_n cnN2_ok (noLn_ok _) (tabOne_ok ok47) (tabOne_self 47 vf47) (n := 200) (g := kdYes) (m := fun _ => 0) [] ?_ (by simp) (by show AV.agg _ = _; rw [renL_flat (flat_by8 _)]) (by simp)
  rw [vc47]
  have e1 : KF.sum (AF.toKF (NF.toAF (NG.toNF ng0))) (rdP [.ros (key.map by8) 0 32 32 false] 0 1) = (sumL key).map by8 := by
    show (streamF 136 6 32 (rdP _ 0 1)).map by8 = _
    have : rdP [.ros (key.map by8) 0 32 32 false] 0 1 = key := by
      show List.flatten [partA (.ros (key.map by8) 0 32 32 false)] = _
      rw [partA_whole key 32 32 hk.symm]
      simp
    rw [this]; rfl
  rw [e1]
  exact Chk.mk (key_len hk) ⟨pps_whole key 32 32 hk.symm (by omega) false, res32 (Q := fun r H' => r = AV.agg ((sumL key).map by8) ∧ H' = []) (by rw [List.length_map, sumL_length]) ⟨rfl, rfl⟩⟩

/-! ### Masks -/
theorem xorL_length (a b : List UInt8) : (xorL a b).length = min a.length b.length := List.length_zipWith
theorem xorL_snoc {a b : List UInt8} {i : Nat} (ha : i < a.length) (hb : i < b.length) : xorL (a.take (i + 1)) (b.take (i + 1)) = xorL (a.take i) (b.take i) ++ [a[i] ^^^ b[i]] := by
  unfold xorL
  rw [List.take_succ_eq_append_getElem ha, List.take_succ_eq_append_getElem hb, List.zipWith_append (by rw [List.length_take, List.length_take]; omega)]
  rfl

theorem loop37 {ks hd : List AV} {pc : List AV} {off len : Nat} (c cap : Nat) (ex : Bool) (hlen : len < 1099511627776) {lb mb : List UInt8} (hb : BytesAt pc off len lb) (hm : mb.length = len) :
    ∀ lg, LoopTo Try.prog 0 lp37 (fr37 (.slc 2 0 len c 1) pc off len cap ex 0) [.cells ks, .cells hd, .cells (mb.map by8)] lg (.exit 0) (fr37 (.slc 2 0 len c 1) pc off len cap ex len) [.cells ks, .cells hd, .cells ((xorL mb lb).map by8)] (List.range 0 ++ lg) := by
  have hl := hb.1
  have h := loop_chain (P := Try.prog) (n0 := 0) (b := lp37) (ex := .exit 0) (fr' := fr37 (.slc 2 0 len c 1) pc off len cap ex len) (H' := [.cells ks, .cells hd, .cells ((xorL mb lb).map by8)]) (by intro h; cases h)
    (fun i => (fr37 (.slc 2 0 len c 1) pc off len cap ex i, [.cells ks, .cells hd, .cells ((xorL (mb.take i) (lb.take i)).map by8 ++ (mb.map by8).drop i)])) len 0 (fun i _ hi => ?_) ?_
  · simpa [xorL] using h
  · have hi' : i < len := by omega
    have hxl : (xorL (mb.take i) (lb.take i)).length = i := by rw [xorL_length, List.length_take, List.length_take]; omega
    have key : ∀ Q : Ex → Fr → Hl → Prop, Q .norm (fr37 (.slc 2 0 len c 1) pc off len cap ex (i + 1)) [.cells ks, .cells hd, .cells ((xorL (mb.take (i + 1)) (lb.take (i + 1))).map by8 ++ (mb.map by8).drop (i + 1))] →
        vm (vcA kdYes noCn noLn) ops0 noTab 100 0 lp37 (fr37 (.slc 2 0 len c 1) pc off len cap ex i) [.cells ks, .cells hd, .cells ((xorL (mb.take i) (lb.take i)).map by8 ++ (mb.map by8).drop i)] [] (bodyX mk37 Q) := by
      intro Q hQ
      rw [vcl37, nAdd (by omega)]
      simp only [nLss, nInr, nAdr, nLt, nLen, nSet, Nat.zero_add, Nat.mul_one]
      have hms : ((xorL (mb.take i) (lb.take i)).map by8 ++ (mb.map by8).drop i)[i]? = some (by8 (mb[i]'(by omega))) := by
        rw [List.getElem?_append_right (by simp [hxl]), List.length_map, hxl, Nat.sub_self, List.getElem?_drop, Nat.add_zero, List.getElem?_map, List.getElem?_eq_getElem (by omega)]
        rfl
      refine Br.t (decide_eq_true hi') (Chk.mk (decide_eq_true hi') ⟨_, Nth.mk (hb.get hi'), Chk.mk (decide_eq_true hi') ⟨_, Nth.mk hms, Chk.mk (decide_eq_true hi') (Chk.mk (decide_eq_true (by simp [hxl, hm]; omega)) ?_)⟩⟩)
      rw [xor_u8]
      have e1 : AV.int .u8 (Int.ofNat (mb[i] ^^^ lb[i]).toNat) = by8 (mb[i] ^^^ lb[i]) := rfl
      rw [e1, set_mid _ (mb.map by8) hxl (by rw [List.length_map]; omega)]
      rw [xorL_snoc (by omega) (by omega), List.map_append, List.append_assoc] at hQ
      exact hQ
    exact body_x (noCn_ok _) (noLn_ok _) (noTab_ok _) (n := 100) (g := kdYes) (bs := mk37) (key _ ⟨rfl, rfl, rfl⟩) (by simp)
  · rw [Nat.zero_add]
    show BodyTo _ _ _ (fr37 (.slc 2 0 len c 1) pc off len cap ex len) [.cells ks, .cells hd, .cells ((xorL (mb.take len) (lb.take len)).map by8 ++ (mb.map by8).drop len)] _ _ _
    rw [List.take_of_length_le (by omega), List.take_of_length_le (by omega), List.drop_of_length_le (by rw [List.length_map]; omega), List.append_nil]
    refine body_x (noCn_ok _) (noLn_ok _) (noTab_ok _) (n := 100) (g := kdYes) (bs := mk37) ?_ (by simp)
    rw [vcl37]
    exact Br.f (by rw [nLss]; exact decide_eq_false (by omega)) ⟨rfl, rfl, rfl⟩

theorem loop37n (ks hd pc : List AV) (off cap : Nat) (ex : Bool) : ∀ lg, LoopTo Try.prog 0 lp37 (fr37 .nils pc off 0 cap ex 0) [.cells ks, .cells hd] lg (.exit 0) (fr37 .nils pc off 0 cap ex 0) [.cells ks, .cells hd] (List.range 0 ++ lg) := by
  refine loop_chain (P := Try.prog) (n0 := 0) (b := lp37) (ex := .exit 0) (by intro h; cases h) (fun _ => (fr37 .nils pc off 0 cap ex 0, [.cells ks, .cells hd])) 0 0 (fun i _ hi => by omega) ?_
  refine body_x (noCn_ok _) (noLn_ok _) (noTab_ok _) (n := 100) (g := kdYes) (bs := mk37) ?_ (by simp)
  show vm _ _ _ _ _ _ (fr37 .nils pc off 0 cap ex 0) [.cells ks, .cells hd] _ _
  rw [vcl37n]
  exact ⟨rfl, rfl, rfl⟩

theorem ln37_ok : LnOK Try.prog (ln37 wf0) := by
  intro n0 b fr H p x e hn hp lg
  unfold ln37 at e
  split at e <;> cases e
  · rename_i m c pc off len cap ex ks hd ms h1 h2
    obtain ⟨rfl, hb, hf, hpc, rfl, hlen, ⟨lb, hlb⟩, mb, hm, rfl⟩ := hp
    have hb : b = lp37 := hb
    subst hb
    refine LoopTo.pre (Weak.forget (by simp) mk37) ?_ lg
    rw [hf]
    show ∀ lg, LoopTo _ _ _ _ _ _ _ _ [.cells ks, .cells hd, .cells ((xorL (bytesA (mb.map by8)) (rdB pc off m)).map by8)] _
    rw [bytesA_by8, rdB_eq hlb]
    exact loop37 c cap ex hlen hlb hm
  · rename_i pc off len cap ex ks hd h1 h2
    obtain ⟨rfl, hb, hf, rfl⟩ := hp
    have hb : b = lp37 := hb
    subst hb
    refine LoopTo.pre (Weak.forget (by simp) mk37) ?_ lg
    rw [hf]
    exact loop37n ks hd pc off cap ex

theorem fr39_ren {σ : Nat → Option Nat} {φ : Nat → Option (List AV)} (h2 : σ 2 = some 2) (h4 : σ 4 = some 3) {pc : List AV} (hpc : flatL pc) (m c L off len cap : Nat) (ex : Bool) (i : Nat) :
    forget mk39 (renL σ φ true (fr39 (.slc 2 0 m c 1) (.slc 4 0 L L 1) pc off len cap ex i)) = fr39 (.slc 2 0 m c 1) (.slc 3 0 L L 1) pc off len cap ex i := by
  unfold fr39 mk39
  simp only [renL, ren, h2, h4, forget, renL_flat hpc]

theorem loop39 {ks hd : List AV} (hks : flatL ks) (hhd : flatL hd) {pc : List AV} (hpc : flatL pc) {off len : Nat} (c cap : Nat) (ex : Bool) (hlen : len ≤ 65536) {lb mb : List UInt8} (hb : BytesAt pc off len lb) (hm : mb.length = len) :
    ∀ lg, LoopTo Try.prog 0 lp39 (fr39 (.slc 2 0 len c 1) (.slc 3 0 0 0 1) pc off len cap ex 0) [.cells ks, .cells hd, .cells (mb.map by8), .cells []] lg (.exit 0) (fr39 (.slc 2 0 len c 1) (.slc 3 0 len len 1) pc off len cap ex len)
      [.cells ks, .cells hd, .cells (mb.map by8), .cells ((xorL mb lb).map by8)] (List.range 0 ++ lg) := by
  have hl := hb.1
  have h := loop_chain (P := Try.prog) (n0 := 0) (b := lp39) (ex := .exit 0) (fr' := fr39 (.slc 2 0 len c 1) (.slc 3 0 len len 1) pc off len cap ex len) (H' := [.cells ks, .cells hd, .cells (mb.map by8), .cells ((xorL mb lb).map by8)]) (by intro h; cases h)
    (fun i => (fr39 (.slc 2 0 len c 1) (.slc 3 0 i i 1) pc off len cap ex i, [.cells ks, .cells hd, .cells (mb.map by8), .cells ((xorL (mb.take i) (lb.take i)).map by8)])) len 0 (fun i _ hi => ?_) ?_
  · simpa [xorL] using h
  · have hi' : i < len := by omega
    have hxl : (xorL (mb.take i) (lb.take i)).length = i := by rw [xorL_length, List.length_take, List.length_take]; omega
    have h1 : BodyTo Try.prog 0 lp39 (fr39 (.slc 2 0 len c 1) (.slc 3 0 i i 1) pc off len cap ex i) [.cells ks, .cells hd, .cells (mb.map by8), .cells ((xorL (mb.take i) (lb.take i)).map by8)] .norm
        (fr39 (.slc 2 0 len c 1) (.slc 4 0 (i + 1) (i + 1) 1) pc off len cap ex (i + 1)) [.cells ks, .cells hd, .cells (mb.map by8), .dead, .cells ((xorL (mb.take (i + 1)) (lb.take (i + 1))).map by8)] := by
      have key : ∀ Q : Ex → Fr → Hl → Prop, Q .norm (fr39 (.slc 2 0 len c 1) (.slc 4 0 (i + 1) (i + 1) 1) pc off len cap ex (i + 1)) [.cells ks, .cells hd, .cells (mb.map by8), .dead, .cells ((xorL (mb.take (i + 1)) (lb.take (i + 1))).map by8)] →
          vm (vcA kdYes noCn noLn) ops0 noTab 100 0 lp39 (fr39 (.slc 2 0 len c 1) (.slc 3 0 i i 1) pc off len cap ex i) [.cells ks, .cells hd, .cells (mb.map by8), .cells ((xorL (mb.take i) (lb.take i)).map by8)] [] (bodyX mk39 Q) := by
        intro Q hQ
        rw [vcl39, nAdd (by omega)]
        simp only [nOfn, nLss, nInr, nAdr, nLe, nLen, nRoom, nPlus, nTimes, Nat.zero_add, Nat.mul_one]
        have hms : (mb.map by8)[i]? = some (by8 (mb[i]'(by omega))) := by
          rw [List.getElem?_map, List.getElem?_eq_getElem (by omega)]; rfl
        refine Br.t (decide_eq_true hi') (Chk.mk (decide_eq_true hi') ⟨_, Nth.mk (hb.get hi'), Chk.mk (decide_eq_true hi') ⟨_, Nth.mk hms, Chk.mk (decide_eq_true (by simp [hxl])) (Chk.mk (decide_eq_true (by omega)) ?_)⟩⟩)
        have e0 : ops0.ext ((xorL (mb.take i) (lb.take i)).map by8) 0 i = (xorL (mb.take i) (lb.take i)).map by8 := by rw [nExt, List.drop_zero, List.take_of_length_le (by rw [List.length_map, hxl]; omega)]
        rw [xor_u8, e0, nApp]
        have e1 : [AV.int .u8 (Int.ofNat (lb[i] ^^^ mb[i]).toNat)] = [mb[i] ^^^ lb[i]].map by8 := by rw [UInt8.xor_comm]; rfl
        rw [e1, ← List.map_append, ← xorL_snoc (by omega) (by omega)]
        exact hQ
      exact body_x (noCn_ok _) (noLn_ok _) (noTab_ok _) (n := 100) (g := kdYes) (bs := mk39) (key _ ⟨rfl, rfl, rfl⟩) (by simp)
    have h2 := h1.post (Weak.pick [0, 1, 2, 4] mk39 (by simp) (by simp) (by simp))
    have e5 : wkF [0, 1, 2, 4] mk39 (fr39 (.slc 2 0 len c 1) (.slc 4 0 (i + 1) (i + 1) 1) pc off len cap ex (i + 1)) = fr39 (.slc 2 0 len c 1) (.slc 3 0 (i + 1) (i + 1) 1) pc off len cap ex (i + 1) :=
      fr39_ren (show pickN [0, 1, 2, 4] 2 = some 2 from rfl) (show pickN [0, 1, 2, 4] 4 = some 3 from rfl) hpc _ _ _ _ _ _ _ _
    have e6 : wkH [0, 1, 2, 4] [.cells ks, .cells hd, .cells (mb.map by8), .dead, .cells ((xorL (mb.take (i + 1)) (lb.take (i + 1))).map by8)] = [.cells ks, .cells hd, .cells (mb.map by8), .cells ((xorL (mb.take (i + 1)) (lb.take (i + 1))).map by8)] := by
      show [renB _ _ true (.cells ks), renB _ _ true (.cells hd), renB _ _ true (.cells _), renB _ _ true (.cells _)] = _
      simp only [renB, renL_flat hks, renL_flat hhd, renL_flat (flat_by8 _)]
    rw [e5, e6] at h2
    exact h2
  · rw [Nat.zero_add]
    show BodyTo _ _ _ (fr39 (.slc 2 0 len c 1) (.slc 3 0 len len 1) pc off len cap ex len) [.cells ks, .cells hd, .cells (mb.map by8), .cells ((xorL (mb.take len) (lb.take len)).map by8)] _ _ _
    rw [List.take_of_length_le (by omega), List.take_of_length_le (by omega)]
    refine body_x (noCn_ok _) (noLn_ok _) (noTab_ok _) (n := 100) (g := kdYes) (bs := mk39) ?_ (by simp)
    rw [vcl39]
    exact Br.f (by rw [nOfn, nLss]; exact decide_eq_false (by omega)) ⟨rfl, rfl, rfl⟩

theorem loop39n (ks hd pc : List AV) (off cap : Nat) (ex : Bool) : ∀ lg, LoopTo Try.prog 0 lp39 (fr39 .nils .nils pc off 0 cap ex 0) [.cells ks, .cells hd] lg (.exit 0) (fr39 .nils .nils pc off 0 cap ex 0) [.cells ks, .cells hd] (List.range 0 ++ lg) := by
  refine loop_chain (P := Try.prog) (n0 := 0) (b := lp39) (ex := .exit 0) (by intro h; cases h) (fun _ => (fr39 .nils .nils pc off 0 cap ex 0, [.cells ks, .cells hd])) 0 0 (fun i _ hi => by omega) ?_
  refine body_x (noCn_ok _) (noLn_ok _) (noTab_ok _) (n := 100) (g := kdYes) (bs := mk39) ?_ (by simp)
  show vm _ _ _ _ _ _ (fr39 .nils .nils pc off 0 cap ex 0) [.cells ks, .cells hd] _ _
  rw [vcl39n]
  exact ⟨rfl, rfl, rfl⟩

theorem ln39_ok : LnOK Try.prog (ln39 wf0) := by
  intro n0 b fr H p x e hn hp lg
  unfold ln39 at e
  split at e <;> cases e
  · rename_i m c pc off len cap ex ks hd ms h1 h2
    obtain ⟨rfl, hb, hf, hks, hhd, hpc, rfl, hlen, ⟨lb, hlb⟩, mb, hm, rfl⟩ := hp
    have hb : b = lp39 := hb
    subst hb
    have hw := (Weak.forget (n0 := 0) (fr := fr) (H := [.cells ks, .cells hd, .cells (mb.map by8)]) (by simp) mk39)
    rw [hf] at hw
    have hw2 := hw.trans (Weak.void (k := 8) (by simp) 1 rfl)
    show LoopTo _ _ _ _ _ _ _ _ [.cells ks, .cells hd, .cells (mb.map by8), .cells ((xorL (bytesA (mb.map by8)) (rdB pc off m)).map by8)] _
    rw [bytesA_by8, rdB_eq hlb]
    exact LoopTo.pre hw2 (loop39 hks hhd hpc c cap ex hlen hlb hm) lg
  · rename_i pc off len cap ex ks hd h1 h2
    obtain ⟨rfl, hb, hf, rfl⟩ := hp
    have hb : b = lp39 := hb
    subst hb
    refine LoopTo.pre (Weak.forget (by simp) mk39) ?_ lg
    rw [hf]
    exact loop39n ks hd pc off cap ex

/-- Bytes, masked. -/
def maskL (key l b : List UInt8) : List UInt8 := xorL (streamF 168 31 b.length (headL key l)) b
theorem inK_nat {n : Nat} : inK (ops0.ofn n) = (decide (1 ≤ n) && decide (n ≤ 65536)) := by
  unfold inK
  rw [nOfn]
  congr 1
  · by_cases h : 1 ≤ n
    · rw [decide_eq_true h, decide_eq_true (by simp; omega)]
    · rw [decide_eq_false h, decide_eq_false (by simp; omega)]
  · by_cases h : n ≤ 65536
    · rw [decide_eq_true h, decide_eq_true (by simp; omega)]
    · rw [decide_eq_false h, decide_eq_false (by simp; omega)]
theorem ghead_eq (key l : List UInt8) : MF.head (NF.toMF (NG.toNF ng0)) (key.map by8) l = (headL key l).map by8 := by
  show (headL (bytesA (key.map by8)) l).map by8 = _
  rw [bytesA_by8]
theorem hadd {key l : List UInt8} (hk : key.length = 32) : ops0.add (ops0.slen l) 33 = (headL key l).length := by rw [nPlus, nSlen, headL_length, hk]

theorem mask37 {key l : List UInt8} (hk : key.length = 32) (hl : l.length ≤ 64) {pc : List AV} {off len : Nat} (cap : Nat) (ex : Bool) {lb : List UInt8} (hf : flatL pc) (hb : BytesAt pc off len lb) (h1 : 1 ≤ len) (h2 : len ≤ 65536) :
    CallTo Try.prog 37 [.agg (key.map by8), .str l, .ros pc off len cap ex] [] (.slc 0 0 len len 1) [.cells ((maskL key l lb).map by8)] [] := by
  refine call_b cnN2_ok ln37_ok (tabOne_ok ok37) (tabOne_self 37 vf37) (n := 200) (g := kdYes) ?_
  rw [vc37]
  have hll := headL_length key l
  have hbl := hb.1
  rw [key_ext hk, ghead_eq, hadd hk]
  have e1 : rdP [.ros ((headL key l).map by8) 0 (headL key l).length (headL key l).length false] 0 1 = headL key l := by
    show List.flatten [partA _] = _
    rw [partA_whole _ _ _ rfl]; simp
  have e2 : KF.str (AF.toKF (NF.toAF (NG.toNF ng0))) (headL key l) len = (streamF 168 31 len (headL key l)).map by8 := rfl
  rw [e1, e2]
  have e3 : WF.msk wf0 ((streamF 168 31 len (headL key l)).map by8) pc off len = (maskL key l lb).map by8 := by
    show (xorL (bytesA ((streamF 168 31 len (headL key l)).map by8)) (rdB pc off len)).map by8 = _
    rw [bytesA_by8, rdB_eq hb]
    unfold maskL
    rw [hbl]
  rw [e3]
  refine Br.f (by rw [nOfn, nSlen, nGtr]; exact decide_eq_false (by omega)) (Br.f (by rw [nOfn, nGtr]; exact decide_eq_false (by omega)) (Chk.mk (key_len hk) ⟨⟨⟨key, hk, rfl⟩, hl⟩, pps_whole _ _ _ rfl (by omega) false, Br.t ?_ ?_⟩))
  · rw [inK_nat, decide_eq_true h1, decide_eq_true h2]; rfl
  · exact ⟨⟨rfl, rfl, rfl, hf, rfl, by omega, ⟨lb, hb⟩, _, streamF_length _ _ _ _, rfl⟩, flat_by8 _, rfl, rfl, rfl, rfl, rfl⟩

theorem mask37n {key l : List UInt8} (hk : key.length = 32) {pc : List AV} {off len : Nat} (cap : Nat) (ex : Bool) (h : 64 < l.length ∨ len = 0 ∨ 65536 < len) :
    CallTo Try.prog 37 [.agg (key.map by8), .str l, .ros pc off len cap ex] [] .nils [] [] := by
  refine call_n cnN2_ok ln37_ok (tabOne_ok ok37) (tabOne_self 37 vf37) (n := 200) (g := kdYes) (m := fun _ => 0) [] ?_ (by simp) rfl (by simp)
  rw [vc37n]
  refine Br.mk (fun _ => ⟨rfl, rfl⟩) (fun h1 => Br.mk (fun _ => ⟨rfl, rfl⟩) (fun h2 => ?_))
  have h1 := lab_le h1
  have h2 : ¬ 65536 < len := by rw [nOfn, nGtr] at h2; exact of_decide_eq_false h2
  have hz : len = 0 := by omega
  have hll := headL_length key l
  rw [key_ext hk, ghead_eq, hadd hk]
  refine Chk.mk (key_len hk) ⟨⟨⟨key, hk, rfl⟩, by omega⟩, pps_whole _ _ _ rfl (by omega) false, Br.f ?_ ?_⟩
  · rw [inK_nat, hz]; rfl
  · exact ⟨⟨rfl, rfl, rfl, hz⟩, rfl, rfl⟩

theorem mask39 {key l : List UInt8} (hk : key.length = 32) (hl : l.length ≤ 64) {pc : List AV} {off len : Nat} (cap : Nat) (ex : Bool) {lb : List UInt8} (hf : flatL pc) (hb : BytesAt pc off len lb) (h1 : 1 ≤ len) (h2 : len ≤ 65536) :
    CallTo Try.prog 39 [.agg (key.map by8), .str l, .ros pc off len cap ex] [] (.slc 0 0 len len 1) [.cells ((maskL key l lb).map by8)] [] := by
  refine call_b cnN2_ok ln39_ok (tabOne_ok ok39) (tabOne_self 39 vf39) (n := 200) (g := kdYes) ?_
  rw [vc39]
  have hll := headL_length key l
  have hbl := hb.1
  rw [key_ext hk, ghead_eq, hadd hk]
  have e2 : KF.str (AF.toKF (NF.toAF (NG.toNF ng0))) (headL key l) len = (streamF 168 31 len (headL key l)).map by8 := rfl
  rw [rdB_eq (bytesAt_whole (headL key l)), e2]
  have e3 : WF.msk wf0 ((streamF 168 31 len (headL key l)).map by8) pc off len = (maskL key l lb).map by8 := by
    show (xorL (bytesA ((streamF 168 31 len (headL key l)).map by8)) (rdB pc off len)).map by8 = _
    rw [bytesA_by8, rdB_eq hb]
    unfold maskL
    rw [hbl]
  rw [e3]
  refine Br.f (by rw [nOfn, nSlen, nGtr]; exact decide_eq_false (by omega)) (Br.f (by rw [nOfn, nGtr]; exact decide_eq_false (by omega)) (Chk.mk (key_len hk) ⟨⟨⟨key, hk, rfl⟩, hl⟩, ⟨flat_by8 _, by simp, by omega, _, bytesAt_whole _⟩, Br.t ?_ ?_⟩))
  · rw [inK_nat, decide_eq_true h1, decide_eq_true h2]; rfl
  · exact ⟨⟨rfl, rfl, rfl, flat_by8 _, flat_by8 _, hf, rfl, h2, ⟨lb, hb⟩, _, streamF_length _ _ _ _, rfl⟩, flat_by8 _, rfl, rfl, rfl, rfl, rfl⟩

theorem mask39n {key l : List UInt8} (hk : key.length = 32) {pc : List AV} {off len : Nat} (cap : Nat) (ex : Bool) (h : 64 < l.length ∨ len = 0 ∨ 65536 < len) :
    CallTo Try.prog 39 [.agg (key.map by8), .str l, .ros pc off len cap ex] [] .nils [] [] := by
  refine call_n cnN2_ok ln39_ok (tabOne_ok ok39) (tabOne_self 39 vf39) (n := 200) (g := kdYes) (m := fun _ => 0) [] ?_ (by simp) rfl (by simp)
  rw [vc39n]
  refine Br.mk (fun _ => ⟨rfl, rfl⟩) (fun h1 => Br.mk (fun _ => ⟨rfl, rfl⟩) (fun h2 => ?_))
  have h1 := lab_le h1
  have h2 : ¬ 65536 < len := by rw [nOfn, nGtr] at h2; exact of_decide_eq_false h2
  have hz : len = 0 := by omega
  have hll := headL_length key l
  rw [key_ext hk, ghead_eq, hadd hk]
  refine Chk.mk (key_len hk) ⟨⟨⟨key, hk, rfl⟩, by omega⟩, ⟨flat_by8 _, by simp, by omega, _, bytesAt_whole _⟩, Br.f ?_ ?_⟩
  · rw [inK_nat, hz]; rfl
  · exact ⟨⟨rfl, rfl, rfl, hz⟩, rfl, rfl⟩

end
end Go.Proofs.Vm

namespace Go.Proofs.Vm
open Go.Vm
noncomputable section
def key1 : List UInt8 := 1 :: List.replicate 31 0
def abcL : List UInt8 := [97, 98, 99]
/-- All that the laws of layer 4 call (kept apart). -/
structure HF extends NG where
  mask : List AV → List UInt8 → List UInt8 → List AV
  eq : List UInt8 → List UInt8 → Bool
  drv : List AV → List UInt8 → Int → List AV
  hash : List AV → List AV
def hf0 : HF := { ng0 with mask := fun ks l b => (maskL (bytesA ks) l b).map by8, eq := fun a b => decide (a = b), drv := fun ks l n => (tagL (bytesA ks) l [bytesN n.toNat]).map by8, hash := fun ks => (sumL (bytesA ks)).map by8 }
def inM (l : List UInt8) (n : Nat) : Bool := decide (l.length ≤ 64) && (decide (1 ≤ n) && decide (n ≤ 65536))
def cnM (S : HF) : CnF := fun f vals H => match f, vals with
  | 37, [.agg ks, .str l, x] => match vw1 H x with
    | .ros pc off len _ _ => some (PKey ks ∧ PB pc off len, .cond (inM l len) (.ok (.slc (size H) 0 len len 1) (join H [.cells (S.mask ks l (rdB pc off len))]) []) (.ok .nils H []))
    | _ => none
  | 39, [.agg ks, .str l, x] => match vw1 H x with
    | .ros pc off len _ _ => some (PKey ks ∧ PB pc off len, .cond (inM l len) (.ok (.slc (size H) 0 len len 1) (join H [.cells (S.mask ks l (rdB pc off len))]) []) (.ok .nils H []))
    | _ => none
  | 46, [x, y] => match vw1 H x, vw1 H y with
    | .ros pa oa la _ _, .ros pb ob lb _ _ => some (PB pa oa la ∧ PB pb ob lb, .cond (S.eq (rdB pa oa la) (rdB pb ob lb)) (.ok (.bool true) H []) (.ok (.bool false) H []))
    | _, _ => none
  | 42, [.agg ks, .str l, .int .u64 n] => some (PKey ks ∧ 0 ≤ n, .ok (.agg (S.drv ks l n)) H [])
  | 43, [.agg ks, .str l, .int .u64 n] => some (PKey ks ∧ 0 ≤ n, .ok (.agg (S.drv ks l n)) H [])
  | 47, [.agg ks] => some (PKey ks, .ok (.agg (S.hash ks)) H [])
  | f, vals => cnN2 S.toNG f vals H

theorem nXor {a b : Nat} (ha : a < 2 ^ 63) (hb : b < 2 ^ 63) : ops0.bin .xor .i64 (Int.ofNat a) (Int.ofNat b) = Int.ofNat (a ^^^ b) := by
  have h := Nat.xor_lt_two_pow ha hb
  have e : ∀ c : Nat, c < 2 ^ 63 → (BitVec.ofInt 64 (Int.ofNat c)).toNat = c := by
    intro c hc
    simp only [BitVec.toNat_ofInt, Int.ofNat_eq_natCast]
    omega
  show IntKind.i64.wrap ((BitVec.ofInt 64 (Int.ofNat a) ^^^ BitVec.ofInt 64 (Int.ofNat b)).toNat : Int) = _
  rw [BitVec.toNat_xor, e a ha, e b hb, i64_wrap (by omega) (by omega)]
  rfl
theorem nOr {a b : Nat} (ha : a < 2 ^ 63) (hb : b < 2 ^ 63) : ops0.bin .or .i64 (Int.ofNat a) (Int.ofNat b) = Int.ofNat (a ||| b) := by
  have h := Nat.or_lt_two_pow ha hb
  have e : ∀ c : Nat, c < 2 ^ 63 → (BitVec.ofInt 64 (Int.ofNat c)).toNat = c := by
    intro c hc
    simp only [BitVec.toNat_ofInt, Int.ofNat_eq_natCast]
    omega
  show IntKind.i64.wrap ((BitVec.ofInt 64 (Int.ofNat a) ||| BitVec.ofInt 64 (Int.ofNat b)).toNat : Int) = _
  rw [BitVec.toNat_or, e a ha, e b hb, i64_wrap (by omega) (by omega)]
  rfl

theorem accN_lt {z : Nat} (hz : z < 2 ^ 63) (a b : List UInt8) : ∀ i, accN z a b i < 2 ^ 63
  | 0 => hz
  | i + 1 => by
    unfold accN
    refine Nat.or_lt_two_pow (accN_lt hz a b i) (Nat.xor_lt_two_pow ?_ ?_)
    · have := (a.getD i 0).toNat_lt; omega
    · have := (b.getD i 0).toNat_lt; omega
theorem or_zero {a b : Nat} : a ||| b = 0 ↔ a = 0 ∧ b = 0 := by
  constructor
  · intro h
    have h1 : a ≤ a ||| b := Nat.left_le_or
    have h2 : b ≤ a ||| b := Nat.right_le_or
    omega
  · rintro ⟨rfl, rfl⟩; rfl
theorem nxor_zero {a b : Nat} : a ^^^ b = 0 ↔ a = b := by
  constructor
  · intro h
    have : a ^^^ b ^^^ b = b := by rw [h, Nat.zero_xor]
    rwa [Nat.xor_assoc, Nat.xor_self, Nat.xor_zero] at this
  · rintro rfl; exact Nat.xor_self _
theorem accN_zero (z : Nat) (a b : List UInt8) : ∀ i, accN z a b i = 0 ↔ z = 0 ∧ ∀ j, j < i → a.getD j 0 = b.getD j 0
  | 0 => by simp [accN]
  | i + 1 => by
    unfold accN
    rw [or_zero, accN_zero z a b i, nxor_zero]
    constructor
    · rintro ⟨⟨h1, h2⟩, h3⟩
      refine ⟨h1, fun j hj => ?_⟩
      rcases Nat.lt_or_eq_of_le (Nat.le_of_lt_succ hj) with h | h
      · exact h2 j h
      · subst h; exact UInt8.toNat_inj.1 h3
    · rintro ⟨h1, h2⟩
      exact ⟨⟨h1, fun j hj => h2 j (by omega)⟩, by rw [h2 i (by omega)]⟩

theorem loop46 {pa : List AV} {oa la : Nat} (ca : Nat) (ea : Bool) {pb : List AV} {ob lb : Nat} (cb : Nat) (eb : Bool) {m z : Nat} (h1 : m ≤ la) (h2 : m ≤ lb) (h3 : la < 137438953472) (hz : z < 2 ^ 63) {al bl : List UInt8} (ha : BytesAt pa oa la al) (hb : BytesAt pb ob lb bl) :
    ∀ lg, LoopTo Try.prog 0 lp46 (fr46 pa oa la ca ea pb ob lb cb eb z m 0) [] lg (.exit 0) (fr46 pa oa la ca ea pb ob lb cb eb (accN z al bl m) m m) [] (List.range 0 ++ lg) := by
  refine loop_chain (P := Try.prog) (n0 := 0) (b := lp46) (ex := .exit 0) (by intro h; cases h) (fun i => (fr46 pa oa la ca ea pb ob lb cb eb (accN z al bl i) m i, [])) m 0 (fun i _ hi => ?_) ?_
  · have hi' : i < m := by omega
    have hla := ha.1
    have hlb := hb.1
    have key : ∀ Q : Ex → Fr → Hl → Prop, Q .norm (fr46 pa oa la ca ea pb ob lb cb eb (accN z al bl (i + 1)) m (i + 1)) [] →
        vm (vcA kdYes noCn noLn) ops0 noTab 100 0 lp46 (fr46 pa oa la ca ea pb ob lb cb eb (accN z al bl i) m i) [] [] (bodyX mk46 Q) := by
      intro Q hQ
      rw [vcl46, nAdd (by omega)]
      simp only [nLss, nInr, nAdr, Nat.mul_one]
      refine Br.t (decide_eq_true hi') (Chk.mk (decide_eq_true (by omega)) ⟨_, Nth.mk (ha.get (by omega)), Chk.mk (decide_eq_true (by omega)) ⟨_, Nth.mk (hb.get (by omega)), ?_⟩⟩)
      have c1 : ∀ c : UInt8, ops0.cvt .i64 (Int.ofNat c.toNat) = Int.ofNat c.toNat := fun c => nCi (by have := c.toNat_lt; omega)
      have c2 : ∀ c : UInt8, c.toNat < 2 ^ 63 := fun c => by have := c.toNat_lt; omega
      rw [c1, c1, nXor (c2 _) (c2 _), nOr (accN_lt hz _ _ _) (Nat.xor_lt_two_pow (c2 _) (c2 _))]
      have e1 : al.getD i 0 = al[i]'(by omega) := by rw [List.getD_eq_getElem?_getD, List.getElem?_eq_getElem (by omega)]; rfl
      have e2 : bl.getD i 0 = bl[i]'(by omega) := by rw [List.getD_eq_getElem?_getD, List.getElem?_eq_getElem (by omega)]; rfl
      have e3 : accN z al bl (i + 1) = accN z al bl i ||| ((al[i]'(by omega)).toNat ^^^ (bl[i]'(by omega)).toNat) := by rw [← e1, ← e2]; rfl
      rw [e3] at hQ
      exact hQ
    exact body_x (noCn_ok _) (noLn_ok _) (noTab_ok _) (n := 100) (g := kdYes) (bs := mk46) (key _ ⟨rfl, rfl, rfl⟩) (by simp)
  · rw [Nat.zero_add]
    refine body_x (noCn_ok _) (noLn_ok _) (noTab_ok _) (n := 100) (g := kdYes) (bs := mk46) ?_ (by simp)
    show vm _ _ _ _ _ _ (fr46 pa oa la ca ea pb ob lb cb eb (accN z al bl m) m m) [] _ _
    rw [vcl46]
    exact Br.f (by rw [nLss]; exact decide_eq_false (by omega)) ⟨rfl, rfl, rfl⟩

theorem BytesAt.le {pc : List AV} {off len : Nat} {lb : List UInt8} (h : BytesAt pc off len lb) {m : Nat} (hm : m ≤ len) : BytesAt pc off m (lb.take m) := by
  refine ⟨by rw [List.length_take, h.1]; omega, ?_⟩
  have := congrArg (List.take m) h.2
  rw [List.take_take, Nat.min_eq_left hm, ← List.map_take] at this
  exact this
theorem accN_take (z : Nat) (a b : List UInt8) (m : Nat) : ∀ i, i ≤ m → accN z (a.take m) (b.take m) i = accN z a b i
  | 0, _ => rfl
  | i + 1, h => by
    unfold accN
    rw [accN_take z a b m i (by omega)]
    have e : ∀ c : List UInt8, (c.take m).getD i 0 = c.getD i 0 := by
      intro c
      rw [List.getD_eq_getElem?_getD, List.getD_eq_getElem?_getD, List.getElem?_take, if_pos (by omega)]
    rw [e, e]

theorem ln46_ok : LnOK Try.prog (ln46 wf0) := by
  intro n0 b fr H p x e hn hp lg
  unfold ln46 at e
  split at e <;> cases e
  rename_i pa oa la ca ea pb ob lb cb eb z m h1 h2 h3 h4
  obtain ⟨rfl, hb, hf, g1, g2, g3, g4, ⟨al, hal⟩, bl, hbl⟩ := hp
  have hb : b = lp46 := hb
  subst hb
  refine LoopTo.pre (Weak.forget (by simp) mk46) ?_ lg
  rw [hf]
  have := loop46 ca ea cb eb g1 g2 g3 g4 hal hbl
  have e : WF.acc wf0 (ops0.nat z) pa oa pb ob (ops0.nat m) = accN (ops0.nat z) al bl (ops0.nat m) := by
    show accN _ (rdB pa oa _) (rdB pb ob _) _ = _
    rw [rdB_eq (hal.le g1), rdB_eq (hbl.le g2), accN_take _ _ _ _ _ (Nat.le_refl _)]
  show ∀ lg, LoopTo _ _ _ _ _ _ _ (fr46 pa oa la ca ea pb ob lb cb eb (WF.acc wf0 (ops0.nat z) pa oa pb ob (ops0.nat m)) (ops0.nat m) (ops0.nat m)) _ _
  rw [e]
  exact this

theorem equal46 {pa : List AV} {oa la : Nat} (ca : Nat) (ea : Bool) {pb : List AV} {ob lb : Nat} (cb : Nat) (eb : Bool) {al bl : List UInt8} (ha : BytesAt pa oa la al) (hb : BytesAt pb ob lb bl) (hla : la < 137438953472) (hlb : lb < 137438953472) :
    CallTo Try.prog 46 [.ros pa oa la ca ea, .ros pb ob lb cb eb] [] (.bool (decide (al = bl))) [] [] := by
  refine call_x (noCn_ok _) ln46_ok (tabOne_ok ok46) (tabOne_self 46 vf46) (n := 200) (g := kdYes) ?_
  rw [vc46]
  have hx : ops0.bin .xor .i64 (ops0.ofn la) (ops0.ofn lb) = Int.ofNat (la ^^^ lb) := by rw [nOfn, nOfn, nXor (by omega) (by omega)]
  have hm : ops0.mnx false (ops0.ofn la) (ops0.ofn lb) = Int.ofNat (min la lb) := by
    show (if Int.ofNat lb < Int.ofNat la then Int.ofNat lb else Int.ofNat la) = _
    rcases Nat.lt_or_ge lb la with h | h
    · rw [if_pos (by simp; omega), Nat.min_eq_right (by omega)]
    · rw [if_neg (by simp; omega), Nat.min_eq_left h]
  rw [hx, hm, nNat, nNat]
  have hz : la ^^^ lb < 2 ^ 63 := Nat.xor_lt_two_pow (by omega) (by omega)
  have e : WF.acc wf0 (la ^^^ lb) pa oa pb ob (min la lb) = accN (la ^^^ lb) al bl (min la lb) := by
    show accN _ (rdB pa oa _) (rdB pb ob _) _ = _
    rw [rdB_eq (ha.le (by omega)), rdB_eq (hb.le (by omega)), accN_take _ _ _ _ _ (Nat.le_refl _)]
  rw [e]
  refine ⟨⟨rfl, rfl, rfl, by omega, by omega, hla, hz, ⟨al, ha⟩, bl, hb⟩, ?_⟩
  have key : accN (la ^^^ lb) al bl (min la lb) = 0 ↔ al = bl := by
    rw [accN_zero, nxor_zero]
    have h1 := ha.1
    have h2 := hb.1
    constructor
    · rintro ⟨g1, g2⟩
      apply List.ext_getElem (by omega)
      intro i hi hj
      have := g2 i (by omega)
      rw [List.getD_eq_getElem?_getD, List.getD_eq_getElem?_getD, List.getElem?_eq_getElem hi, List.getElem?_eq_getElem hj] at this
      exact this
    · rintro rfl
      exact ⟨by omega, fun _ _ => rfl⟩
  refine Br.mk (fun h => ?_) (fun h => ?_)
  · have h : accN (la ^^^ lb) al bl (min la lb) = 0 := by
      have := nEql (a := accN (la ^^^ lb) al bl (min la lb)) (b := 0)
      rw [this] at h
      exact of_decide_eq_true h
    exact ⟨by rw [decide_eq_true (key.1 h)], rfl, rfl⟩
  · have h : ¬ accN (la ^^^ lb) al bl (min la lb) = 0 := by
      have := nEql (a := accN (la ^^^ lb) al bl (min la lb)) (b := 0)
      rw [this] at h
      exact of_decide_eq_false h
    exact ⟨by rw [decide_eq_false (fun k => h (key.2 k))], rfl, rfl⟩

/-! ### All contracts -/
theorem inM_true {l : List UInt8} {n : Nat} (h : inM l n = true) : l.length ≤ 64 ∧ 1 ≤ n ∧ n ≤ 65536 := by
  simpa only [inM, Bool.and_eq_true, decide_eq_true_eq] using h
theorem inM_false {l : List UInt8} {n : Nat} (h : inM l n = false) : 64 < l.length ∨ n = 0 ∨ 65536 < n := by
  have : ¬ (l.length ≤ 64 ∧ 1 ≤ n ∧ n ≤ 65536) := by
    intro hk
    have : inM l n = true := by simpa only [inM, Bool.and_eq_true, decide_eq_true_eq] using hk
    rw [this] at h; cases h
  omega

theorem cnM_ok : CnOK Try.prog (cnM hf0) := by
  intro f vals H p x e hp
  unfold cnM at e
  split at e
  · rename_i ks l y
    split at e <;> cases e
    rename_i pc off len cap ex hv
    obtain ⟨⟨key, hk, rfl⟩, hf, ho, hl, lb, hb⟩ := hp
    have hws : Vws H [.agg (key.map by8), .str l, y] [.agg (key.map by8), .str l, .ros pc off len cap ex] := .cons (Vw.agg H (Still.flat (flat_by8 key))) (.cons (Vw.str H l) (.cons (Vw.one hv hf) .nil))
    cases hm : inM l len with
    | true =>
      obtain ⟨m1, m2, m3⟩ := inM_true hm
      simp only [CRes.fin, hm]
      have h := CallTo.lookS (mask37 hk m1 cap ex hf hb m2 m3) (flat_by8 _) hws
      show CallTo _ _ _ _ _ (join H [.cells ((maskL (bytesA (key.map by8)) l (rdB pc off len)).map by8)]) _
      rw [bytesA_by8, rdB_eq hb]
      exact h
    | false =>
      simp only [CRes.fin, hm]
      exact CallTo.lookV (mask37n hk cap ex (inM_false hm)) hws
  · rename_i ks l y
    split at e <;> cases e
    rename_i pc off len cap ex hv
    obtain ⟨⟨key, hk, rfl⟩, hf, ho, hl, lb, hb⟩ := hp
    have hws : Vws H [.agg (key.map by8), .str l, y] [.agg (key.map by8), .str l, .ros pc off len cap ex] := .cons (Vw.agg H (Still.flat (flat_by8 key))) (.cons (Vw.str H l) (.cons (Vw.one hv hf) .nil))
    cases hm : inM l len with
    | true =>
      obtain ⟨m1, m2, m3⟩ := inM_true hm
      simp only [CRes.fin, hm]
      have h := CallTo.lookS (mask39 hk m1 cap ex hf hb m2 m3) (flat_by8 _) hws
      show CallTo _ _ _ _ _ (join H [.cells ((maskL (bytesA (key.map by8)) l (rdB pc off len)).map by8)]) _
      rw [bytesA_by8, rdB_eq hb]
      exact h
    | false =>
      simp only [CRes.fin, hm]
      exact CallTo.lookV (mask39n hk cap ex (inM_false hm)) hws
  · rename_i y z
    split at e <;> cases e
    rename_i pa oa la ca ea pb ob lb cb eb h1 h2
    obtain ⟨⟨hf, ho, hl, al, hal⟩, hf', ho', hl', bl, hbl⟩ := hp
    have h := CallTo.lookV (H := H) (equal46 ca ea cb eb hal hbl hl hl') (.cons (Vw.one h1 hf) (.cons (Vw.one h2 hf') .nil))
    have e1 : HF.eq hf0 (rdB pa oa la) (rdB pb ob lb) = decide (al = bl) := by
      show decide (rdB pa oa la = rdB pb ob lb) = _
      rw [rdB_eq hal, rdB_eq hbl]
    cases hd : decide (al = bl) with
    | true =>
      rw [hd] at h
      rw [hd] at e1
      simp only [CRes.fin, e1]
      exact h
    | false =>
      rw [hd] at h
      rw [hd] at e1
      simp only [CRes.fin, e1]
      exact h
  · rename_i ks l n
    cases e
    obtain ⟨⟨key, hk, rfl⟩, hn⟩ := hp
    obtain ⟨m, rfl⟩ : ∃ m : Nat, n = Int.ofNat m := ⟨n.toNat, (Int.toNat_of_nonneg hn).symm⟩
    have h := CallTo.lookV (H := H) (derive42 hk l m) (.cons (Vw.agg H (Still.flat (flat_by8 key))) (.cons (Vw.str H l) (.cons (Vw.int H _ _) .nil)))
    rw [backV_flat (flat_by8 _)] at h
    show CallTo _ _ _ _ (.agg ((tagL (bytesA (key.map by8)) l [bytesN m]).map by8)) _ _
    rw [bytesA_by8]
    exact h
  · rename_i ks l n
    cases e
    obtain ⟨⟨key, hk, rfl⟩, hn⟩ := hp
    obtain ⟨m, rfl⟩ : ∃ m : Nat, n = Int.ofNat m := ⟨n.toNat, (Int.toNat_of_nonneg hn).symm⟩
    have h := CallTo.lookV (H := H) (derive43 hk l m) (.cons (Vw.agg H (Still.flat (flat_by8 key))) (.cons (Vw.str H l) (.cons (Vw.int H _ _) .nil)))
    rw [backV_flat (flat_by8 _)] at h
    show CallTo _ _ _ _ (.agg ((tagL (bytesA (key.map by8)) l [bytesN m]).map by8)) _ _
    rw [bytesA_by8]
    exact h
  · rename_i ks
    cases e
    obtain ⟨key, hk, rfl⟩ := hp
    have h := CallTo.lookV (H := H) (hash47 hk) (.cons (Vw.agg H (Still.flat (flat_by8 key))) .nil)
    rw [backV_flat (flat_by8 _)] at h
    show CallTo _ _ _ _ (.agg ((sumL (bytesA (key.map by8))).map by8)) _ _
    rw [bytesA_by8]
    exact h
  · exact cnN2_ok _ _ _ _ _ e hp

theorem pkey (key : List UInt8) (h : key.length = 32) : PKey (key.map by8) := ⟨key, h, rfl⟩
theorem pb_whole (lb : List UInt8) (n : Nat) (h : n = lb.length) (hl : lb.length < 137438953472) : PB (lb.map by8) 0 n := by
  subst h
  exact ⟨flat_by8 _, by simp, hl, lb, bytesAt_whole lb⟩
theorem by8_ints (l : List UInt8) : l.map by8 = (l.map fun b => Int.ofNat b.toNat).map (AV.int .u8) := by
  rw [List.map_map]; rfl
theorem ints_inj {l m : List UInt8} (h : (l.map fun b => Int.ofNat b.toNat) = m.map fun b => Int.ofNat b.toNat) : l = m := by
  apply List.ext_getElem?
  intro i
  have := congrArg (fun x => x[i]?) h
  simp only [List.getElem?_map] at this
  cases h1 : l[i]? <;> cases h2 : m[i]? <;> simp_all
  exact UInt8.toNat_inj.1 (by omega)

theorem ext32 {xs : List AV} (h : xs.length = 32) : ops0.ext xs 0 32 = xs := by rw [nExt, List.drop_zero, List.take_of_length_le (by omega)]
theorem eq32 {xs : List AV} (h : xs.length = 32) : ops0.eq (ops0.len xs) 32 = true := by rw [nEq, nLen]; exact decide_eq_true h

end
end Go.Proofs.Vm

namespace Go.Proofs.Vm
open Go.Vm
noncomputable section

theorem rdW {l : List UInt8} {n : Nat} (h : l.length = n) : rdB (l.map by8) 0 n = l := by subst h; exact rdB_eq (bytesAt_whole l)
theorem hhash_eq (key : List UInt8) : HF.hash hf0 (key.map by8) = (sumL key).map by8 := by
  show (sumL (bytesA (key.map by8))).map by8 = _
  rw [bytesA_by8]
theorem hsum_eq (l : List UInt8) : KF.sum (AF.toKF (NF.toAF (NG.toNF (HF.toNG hf0)))) l = (sumL l).map by8 := rfl
theorem sum32 (l : List UInt8) : ((sumL l).map by8).length = 32 := by rw [List.length_map, sumL_length]

end
end Go.Proofs.Vm

namespace Go.Proofs.Vm
open Go.Vm
noncomputable section
/-- What the loops come to (kept apart). -/
structure XF where
  rows : List AV → Nat → Nat → List AV
def P12 (pa : List AV) (oa la N : Nat) (xs os zs : List AV) : Prop := la ≤ N ∧ la < 1099511627776 ∧ ∃ (al xl tl : List UInt8), BytesAt pa oa la al ∧ xl.length = la ∧ os = (xorL xl al).map by8 ∧ xs = (xorL xl al ++ tl).map by8 ∧ zs = xl.map by8
def P13a (ps : List AV) (o n : Nat) : Prop := PTag ps o n
def P13b (rs ps : List AV) (o n : Nat) : Prop := n < 1099511627776 ∧ ∀ j, j < n → ∃ lb pc off len cap ex qc off' cap' ex', rs[0 + j]? = some (.ros qc off' len cap' ex') ∧ BytesAt qc off' len lb ∧ off' + len ≤ qc.length ∧ ps[o + j]? = some (.ros pc off len cap ex) ∧ BytesAt pc off len lb ∧ off + len ≤ pc.length
/-! ### Cut another way -/
theorem ptag_two {pa : List AV} {oa la : Nat} (ca : Nat) (ea : Bool) {pb : List AV} {ob lb : Nat} (cb : Nat) (eb : Bool) {al bl : List UInt8} (hfa : flatL pa) (ha : BytesAt pa oa la al) (hoa : oa + la ≤ pa.length) (hla : la ≤ 1048576)
    (hfb : flatL pb) (hb : BytesAt pb ob lb bl) (hob : ob + lb ≤ pb.length) (hlb : lb ≤ 1048576) : PTag [.ros pa oa la ca ea, .ros pb ob lb cb eb] 0 2 := by
  have h1 := ha.1
  have h2 := hb.1
  refine ⟨⟨fun p hp => ?_, [al, bl], rfl, by omega, fun j x hx => ?_⟩, fun j hj pc off len cap ex hp => ?_, ?_⟩
  · simp only [List.mem_cons, List.not_mem_nil, or_false] at hp
    rcases hp with rfl | rfl
    · exact ⟨_, _, _, _, _, rfl, hfa⟩
    · exact ⟨_, _, _, _, _, rfl, hfb⟩
  · cases j with
    | zero =>
      obtain rfl : al = x := Option.some.inj hx
      exact ⟨by omega, _, _, _, _, _, rfl, ha⟩
    | succ j =>
      cases j with
      | zero =>
        obtain rfl : bl = x := Option.some.inj hx
        exact ⟨by omega, _, _, _, _, _, rfl, hb⟩
      | succ j => cases hx
  · cases j with
    | zero => cases hp; exact hoa
    | succ j =>
      cases j with
      | zero => cases hp; exact hob
      | succ j => omega
  · have e : partsL [.ros pa oa la ca ea, .ros pb ob lb cb eb] 0 2 = [al, bl] := by
      show [partA (.ros pa oa la ca ea), partA (.ros pb ob lb cb eb)] = _
      rw [partA_ros ha, partA_ros hb]
    rw [e]
    unfold textL
    simp [bytesN_length]
    omega

/-! ### The bytes of a number -/
/-! ### Byte by byte -/
/-! ### Any parts -/
end
end Go.Proofs.Vm

namespace Go.Proofs.Vm
open Go.Vm
noncomputable section

def vf18 : VF := ⟨57, [(.tmp 8)], (.seq (.reg .false [] [⟨(.some 4), .none, .box, [(.t 0)]⟩, ⟨(.some 5), .none, .box, [(.t 1)]⟩, ⟨(.some 8), .none, .mov, [(.c (.bool .false))]⟩]) (.seq (.reg .false [] [⟨(.some 10), .none, (.ldn 32), [(.t 4)]⟩, ⟨(.some 11), .none, (.ldn 32), [(.t 5)]⟩, ⟨(.some 12), .none, .mov, [(.t 2)]⟩, ⟨(.some 13), .none, (.call 53), [(.t 10), (.t 11), (.t 12)]⟩, ⟨(.some 9), .none, (.alloc [(.int .u8 (.ofNat 0)), (.int .u8 (.ofNat 0)), (.int .u8 (.ofNat 0)), (.int .u8 (.ofNat 0)), (.int .u8 (.ofNat 0)), (.int .u8 (.ofNat 0)), (.int .u8 (.ofNat 0)), (.int .u8 (.ofNat 0)), (.int .u8 (.ofNat 0)), (.int .u8 (.ofNat 0)), (.int .u8 (.ofNat 0)), (.int .u8 (.ofNat 0)), (.int .u8 (.ofNat 0)), (.int .u8 (.ofNat 0)), (.int .u8 (.ofNat 0)), (.int .u8 (.ofNat 0)), (.int .u8 (.ofNat 0)), (.int .u8 (.ofNat 0)), (.int .u8 (.ofNat 0)), (.int .u8 (.ofNat 0)), (.int .u8 (.ofNat 0)), (.int .u8 (.ofNat 0)), (.int .u8 (.ofNat 0)), (.int .u8 (.ofNat 0)), (.int .u8 (.ofNat 0)), (.int .u8 (.ofNat 0)), (.int .u8 (.ofNat 0)), (.int .u8 (.ofNat 0)), (.int .u8 (.ofNat 0)), (.int .u8 (.ofNat 0)), (.int .u8 (.ofNat 0)), (.int .u8 (.ofNat 0))]), []⟩, ⟨.none, .none, (.stn 32), [(.t 9), (.t 13)]⟩]) (.seq (.seq (.reg .true [0, 1, 3, 7, 7, 7, 7, 119, 255, 511, 1023, 2047, 2047, 2047, 16383, 2047, 2047, 2047, 262143, 524287, 1048575, 2097151, 4194303, 8388607, 4194303, 33554431, 67108863, 134217727] [⟨(.some 14), .none, (.call 50), []⟩, ⟨(.some 15), .none, .not, [(.t 14)]⟩, ⟨(.some 16), .none, .mov, [(.t 15)]⟩, ⟨(.some 17), (.some ⟨16, .false⟩), (.ldn 32), [(.t 9)]⟩, ⟨(.some 18), (.some ⟨16, .false⟩), (.ldn 32), [(.t 4)]⟩, ⟨(.some 19), (.some ⟨16, .false⟩), (.ldn 32), [(.t 5)]⟩, ⟨(.some 20), (.some ⟨16, .false⟩), .mov, [(.t 2)]⟩, ⟨(.some 21), (.some ⟨16, .false⟩), (.call 54), [(.t 18), (.t 19), (.t 20)]⟩, ⟨(.some 22), (.some ⟨16, .false⟩), (.acmp .true 32 [⟨0, ⟨.u8, 32⟩⟩]), [(.t 17), (.t 21)]⟩, ⟨(.some 23), .none, .pick, [(.t 16), (.c (.bool .true)), (.t 22)]⟩, ⟨(.some 24), .none, .mov, [(.t 23)]⟩, ⟨(.some 25), (.some ⟨24, .false⟩), (.ldn 32), [(.t 4)]⟩, ⟨(.some 26), (.some ⟨24, .false⟩), (.ldn 32), [(.t 5)]⟩, ⟨(.some 27), (.some ⟨24, .false⟩), .mov, [(.t 2)]⟩, ⟨(.some 28), (.some ⟨24, .false⟩), (.call 55), [(.t 25), (.t 26), (.t 27)]⟩, ⟨(.some 29), (.some ⟨24, .false⟩), (.ldn 32), [(.t 4)]⟩, ⟨(.some 30), (.some ⟨24, .false⟩), (.ldn 32), [(.t 5)]⟩, ⟨(.some 31), (.some ⟨24, .false⟩), .mov, [(.t 2)]⟩, ⟨(.some 32), (.some ⟨24, .false⟩), (.call 56), [(.t 29), (.t 30), (.t 31)]⟩, ⟨(.some 33), (.some ⟨24, .false⟩), (.acmp .true 32 [⟨0, ⟨.u8, 32⟩⟩]), [(.t 28), (.t 32)]⟩, ⟨(.some 34), .none, .pick, [(.t 24), (.c (.bool .true)), (.t 33)]⟩, ⟨(.some 35), .none, .mov, [(.t 34)]⟩, ⟨(.some 36), (.some ⟨35, .false⟩), .mov, [(.t 3)]⟩, ⟨(.some 37), (.some ⟨35, .false⟩), (.call 52), [(.t 36)]⟩, ⟨(.some 38), (.some ⟨35, .false⟩), .mov, [(.t 3)]⟩, ⟨(.some 39), (.some ⟨35, .false⟩), (.call 57), [(.t 38)]⟩, ⟨(.some 40), (.some ⟨35, .false⟩), (.acmp .true 32 [⟨0, ⟨.u8, 32⟩⟩]), [(.t 37), (.t 39)]⟩, ⟨(.some 41), .none, .pick, [(.t 35), (.c (.bool .true)), (.t 40)]⟩]) (.cond (.t 41) (.seq (.reg .false [] [⟨(.some 8), .none, .mov, [(.c (.bool .false))]⟩]) .ret) .skip)) (.seq (.reg .true [0, 1, 3, 7, 15, 31, 63, 127, 127, 127, 1023, 127, 4095, 8191, 16383, 32767] [⟨(.some 42), .none, .mov, [(.t 2)]⟩, ⟨(.some 43), .none, (.cmp .lss), [(.t 42), (.c (.int .i64 (.ofNat 0)))]⟩, ⟨(.some 44), .none, .mov, [(.t 43)]⟩, ⟨(.some 45), (.some ⟨44, .false⟩), .mov, [(.t 2)]⟩, ⟨(.some 46), (.some ⟨44, .false⟩), (.cmp .gtr), [(.t 45), (.c (.int .i64 (.ofNat 2147483647)))]⟩, ⟨(.some 47), .none, .pick, [(.t 44), (.c (.bool .true)), (.t 46)]⟩, ⟨(.some 48), .none, .mov, [(.t 47)]⟩, ⟨(.some 49), (.some ⟨48, .false⟩), (.ldn 32), [(.t 4)]⟩, ⟨(.some 50), (.some ⟨48, .false⟩), (.ldn 32), [(.t 5)]⟩, ⟨(.some 51), (.some ⟨48, .false⟩), .mov, [(.t 2)]⟩, ⟨(.some 52), (.some ⟨48, .false⟩), (.call 55), [(.t 49), (.t 50), (.t 51)]⟩, ⟨(.some 53), (.some ⟨48, .false⟩), (.ldn 32), [(.t 9)]⟩, ⟨(.some 54), (.some ⟨48, .false⟩), (.call 47), [(.t 53)]⟩, ⟨(.some 55), (.some ⟨48, .false⟩), (.acmp .false 32 [⟨0, ⟨.u8, 32⟩⟩]), [(.t 52), (.t 54)]⟩, ⟨(.some 56), .none, .pick, [(.t 48), (.c (.bool .true)), (.t 55)]⟩, ⟨(.some 8), .none, .mov, [(.t 56)]⟩]) .ret))))⟩
theorem ok18 : FnOK Try.prog 18 vf18 := .of Try.func18 (by kernel_rfl) (by kernel_rfl)
def vf48 : VF := ⟨46, [(.tmp 6), (.tmp 7)], (.seq (.reg .false [] [⟨(.some 3), .none, .box, [(.t 0)]⟩, ⟨(.some 4), .none, .box, [(.t 1)]⟩, ⟨(.some 6), .none, .mov, [(.c .nils)]⟩, ⟨(.some 7), .none, .mov, [(.c (.int .i64 (.ofNat 0)))]⟩]) (.seq (.seq (.reg .false [] [⟨(.some 11), .none, .mov, [(.t 2)]⟩, ⟨(.some 12), .none, (.cmp .lss), [(.t 11), (.c (.int .i64 (.ofNat 1)))]⟩, ⟨(.some 13), .none, .mov, [(.t 12)]⟩, ⟨(.some 14), (.some ⟨13, .false⟩), .mov, [(.t 2)]⟩, ⟨(.some 15), (.some ⟨13, .false⟩), (.cmp .gtr), [(.t 14), (.c (.int .i64 (.ofNat 16)))]⟩, ⟨(.some 16), .none, .pick, [(.t 13), (.c (.bool .true)), (.t 15)]⟩]) (.cond (.t 16) (.seq (.reg .false [] [⟨(.some 6), .none, .mov, [(.c .nils)]⟩, ⟨(.some 7), .none, .mov, [(.c (.int .i64 (.ofNat 1)))]⟩]) .ret) .skip)) (.seq (.reg .false [] [⟨(.some 17), .none, .mov, [(.t 2)]⟩, ⟨(.some 18), .none, (.mksl [(.int .u8 (.ofNat 0)), (.int .u8 (.ofNat 0)), (.int .u8 (.ofNat 0)), (.int .u8 (.ofNat 0)), (.int .u8 (.ofNat 0)), (.int .u8 (.ofNat 0)), (.int .u8 (.ofNat 0)), (.int .u8 (.ofNat 0)), (.int .u8 (.ofNat 0)), (.int .u8 (.ofNat 0)), (.int .u8 (.ofNat 0)), (.int .u8 (.ofNat 0)), (.int .u8 (.ofNat 0)), (.int .u8 (.ofNat 0)), (.int .u8 (.ofNat 0)), (.int .u8 (.ofNat 0)), (.int .u8 (.ofNat 0)), (.int .u8 (.ofNat 0)), (.int .u8 (.ofNat 0)), (.int .u8 (.ofNat 0)), (.int .u8 (.ofNat 0)), (.int .u8 (.ofNat 0)), (.int .u8 (.ofNat 0)), (.int .u8 (.ofNat 0)), (.int .u8 (.ofNat 0)), (.int .u8 (.ofNat 0)), (.int .u8 (.ofNat 0)), (.int .u8 (.ofNat 0)), (.int .u8 (.ofNat 0)), (.int .u8 (.ofNat 0)), (.int .u8 (.ofNat 0)), (.int .u8 (.ofNat 0))] 32), [(.t 17), (.t 17)]⟩, ⟨(.some 8), .none, .mov, [(.t 18)]⟩]) (.seq (.reg .false [] [⟨(.some 19), .none, (.ldn 32), [(.t 3)]⟩, ⟨(.some 9), .none, (.alloc [(.int .u8 (.ofNat 0)), (.int .u8 (.ofNat 0)), (.int .u8 (.ofNat 0)), (.int .u8 (.ofNat 0)), (.int .u8 (.ofNat 0)), (.int .u8 (.ofNat 0)), (.int .u8 (.ofNat 0)), (.int .u8 (.ofNat 0)), (.int .u8 (.ofNat 0)), (.int .u8 (.ofNat 0)), (.int .u8 (.ofNat 0)), (.int .u8 (.ofNat 0)), (.int .u8 (.ofNat 0)), (.int .u8 (.ofNat 0)), (.int .u8 (.ofNat 0)), (.int .u8 (.ofNat 0)), (.int .u8 (.ofNat 0)), (.int .u8 (.ofNat 0)), (.int .u8 (.ofNat 0)), (.int .u8 (.ofNat 0)), (.int .u8 (.ofNat 0)), (.int .u8 (.ofNat 0)), (.int .u8 (.ofNat 0)), (.int .u8 (.ofNat 0)), (.int .u8 (.ofNat 0)), (.int .u8 (.ofNat 0)), (.int .u8 (.ofNat 0)), (.int .u8 (.ofNat 0)), (.int .u8 (.ofNat 0)), (.int .u8 (.ofNat 0)), (.int .u8 (.ofNat 0)), (.int .u8 (.ofNat 0))]), []⟩, ⟨.none, .none, (.stn 32), [(.t 9), (.t 19)]⟩]) (.seq (.seq (.reg .false [] [⟨(.some 20), .none, .mov, [(.t 2)]⟩, ⟨(.some 21), .none, (.bin .sub .i64), [(.t 20), (.c (.int .i64 (.ofNat 1)))]⟩, ⟨(.some 22), .none, .mov, [(.c (.int .i64 (.ofNat 0)))]⟩]) (.block 0 (.loop (.seq (.reg .false [] [⟨(.some 23), .none, (.cmp .lss), [(.t 22), (.t 21)]⟩]) (.seq (.cond (.t 23) .skip (.exit 0)) (.seq (.block 1 (.seq (.reg .false [] [⟨(.some 24), .none, .mov, [(.t 22)]⟩, ⟨(.some 10), .none, .mov, [(.t 24)]⟩]) (.seq (.reg .false [] [⟨(.some 25), .none, .mov, [(.t 8)]⟩, ⟨(.some 26), .none, .mov, [(.t 10)]⟩, ⟨(.some 27), .none, (.ldn 32), [(.t 4)]⟩, ⟨(.some 28), .none, .mov, [(.t 10)]⟩, ⟨(.some 29), .none, (.cvt .u64), [(.t 28)]⟩, ⟨(.some 30), .none, (.call 42), [(.t 27), (.c (.str [115, 104, 97, 114, 101])), (.t 29)]⟩, ⟨(.some 31), .none, (.ixS 32), [(.t 25), (.t 26)]⟩, ⟨.none, .none, (.stn 32), [(.t 31), (.t 30)]⟩]) (.reg .true [0, 0, 0, 6, 14, 31, 63, 127] [⟨(.some 32), .none, (.ldn 32), [(.t 9)]⟩, ⟨(.some 33), .none, .mov, [(.t 8)]⟩, ⟨(.some 34), .none, .mov, [(.t 10)]⟩, ⟨(.some 35), .none, (.ixS 32), [(.t 33), (.t 34)]⟩, ⟨(.some 36), .none, (.ldn 32), [(.t 35)]⟩, ⟨(.some 37), .none, (.mks [(.int .u8 (.ofNat 0)), (.int .u8 (.ofNat 0)), (.int .u8 (.ofNat 0)), (.int .u8 (.ofNat 0)), (.int .u8 (.ofNat 0)), (.int .u8 (.ofNat 0)), (.int .u8 (.ofNat 0)), (.int .u8 (.ofNat 0)), (.int .u8 (.ofNat 0)), (.int .u8 (.ofNat 0)), (.int .u8 (.ofNat 0)), (.int .u8 (.ofNat 0)), (.int .u8 (.ofNat 0)), (.int .u8 (.ofNat 0)), (.int .u8 (.ofNat 0)), (.int .u8 (.ofNat 0)), (.int .u8 (.ofNat 0)), (.int .u8 (.ofNat 0)), (.int .u8 (.ofNat 0)), (.int .u8 (.ofNat 0)), (.int .u8 (.ofNat 0)), (.int .u8 (.ofNat 0)), (.int .u8 (.ofNat 0)), (.int .u8 (.ofNat 0)), (.int .u8 (.ofNat 0)), (.int .u8 (.ofNat 0)), (.int .u8 (.ofNat 0)), (.int .u8 (.ofNat 0)), (.int .u8 (.ofNat 0)), (.int .u8 (.ofNat 0)), (.int .u8 (.ofNat 0)), (.int .u8 (.ofNat 0)), (.int .u8 (.ofNat 0)), (.int .u8 (.ofNat 0)), (.int .u8 (.ofNat 0)), (.int .u8 (.ofNat 0)), (.int .u8 (.ofNat 0)), (.int .u8 (.ofNat 0)), (.int .u8 (.ofNat 0)), (.int .u8 (.ofNat 0)), (.int .u8 (.ofNat 0)), (.int .u8 (.ofNat 0)), (.int .u8 (.ofNat 0)), (.int .u8 (.ofNat 0)), (.int .u8 (.ofNat 0)), (.int .u8 (.ofNat 0)), (.int .u8 (.ofNat 0)), (.int .u8 (.ofNat 0)), (.int .u8 (.ofNat 0)), (.int .u8 (.ofNat 0)), (.int .u8 (.ofNat 0)), (.int .u8 (.ofNat 0)), (.int .u8 (.ofNat 0)), (.int .u8 (.ofNat 0)), (.int .u8 (.ofNat 0)), (.int .u8 (.ofNat 0)), (.int .u8 (.ofNat 0)), (.int .u8 (.ofNat 0)), (.int .u8 (.ofNat 0)), (.int .u8 (.ofNat 0)), (.int .u8 (.ofNat 0)), (.int .u8 (.ofNat 0)), (.int .u8 (.ofNat 0)), (.int .u8 (.ofNat 0))] 2 [⟨0, 32⟩, ⟨32, 32⟩]), [(.t 32), (.t 36)]⟩, ⟨(.some 38), .none, (.call 52), [(.t 37)]⟩, ⟨.none, .none, (.stn 32), [(.t 9), (.t 38)]⟩])))) (.reg .false [] [⟨(.some 39), .none, (.bin .add .i64), [(.t 22), (.c (.int .i64 (.ofNat 1)))]⟩, ⟨(.some 22), .none, .mov, [(.t 39)]⟩]))))))) (.seq (.reg .false [] [⟨(.some 40), .none, .mov, [(.t 8)]⟩, ⟨(.some 41), .none, .mov, [(.t 2)]⟩, ⟨(.some 42), .none, (.bin .sub .i64), [(.t 41), (.c (.int .i64 (.ofNat 1)))]⟩, ⟨(.some 43), .none, (.ldn 32), [(.t 9)]⟩, ⟨(.some 44), .none, (.ixS 32), [(.t 40), (.t 42)]⟩, ⟨.none, .none, (.stn 32), [(.t 44), (.t 43)]⟩]) (.seq (.reg .false [] [⟨(.some 45), .none, .mov, [(.t 8)]⟩, ⟨(.some 6), .none, .mov, [(.t 45)]⟩, ⟨(.some 7), .none, .mov, [(.c (.int .i64 (.ofNat 0)))]⟩]) .ret)))))))⟩
theorem ok48 : FnOK Try.prog 48 vf48 := .of Try.func48 (by kernel_rfl) (by kernel_rfl)
def vf49 : VF := ⟨39, [(.tmp 6), (.tmp 7)], (.seq (.reg .false [] [⟨(.some 3), .none, .box, [(.t 0)]⟩, ⟨(.some 4), .none, .box, [(.t 1)]⟩, ⟨(.some 6), .none, .mov, [(.c .nils)]⟩, ⟨(.some 7), .none, .mov, [(.c (.int .i64 (.ofNat 0)))]⟩]) (.seq (.seq (.reg .false [] [⟨(.some 10), .none, .mov, [(.t 2)]⟩, ⟨(.some 11), .none, (.cmp .lss), [(.t 10), (.c (.int .i64 (.ofNat 1)))]⟩, ⟨(.some 12), .none, .mov, [(.t 11)]⟩, ⟨(.some 13), (.some ⟨12, .false⟩), .mov, [(.t 2)]⟩, ⟨(.some 14), (.some ⟨12, .false⟩), (.cmp .gtr), [(.t 13), (.c (.int .i64 (.ofNat 16)))]⟩, ⟨(.some 15), .none, .pick, [(.t 12), (.c (.bool .true)), (.t 14)]⟩]) (.cond (.t 15) (.seq (.reg .false [] [⟨(.some 6), .none, .mov, [(.c .nils)]⟩, ⟨(.some 7), .none, .mov, [(.c (.int .i64 (.ofNat 1)))]⟩]) .ret) .skip)) (.seq (.reg .false [] [⟨(.some 8), .none, .mov, [(.c .nils)]⟩]) (.seq (.seq (.reg .false [] [⟨(.some 9), .none, .mov, [(.c (.int .i64 (.ofNat 0)))]⟩]) (.block 0 (.loop (.seq (.seq (.reg .false [] [⟨(.some 16), .none, .mov, [(.t 9)]⟩, ⟨(.some 17), .none, .mov, [(.t 2)]⟩, ⟨(.some 18), .none, (.bin .sub .i64), [(.t 17), (.c (.int .i64 (.ofNat 1)))]⟩, ⟨(.some 19), .none, (.cmp .lss), [(.t 16), (.t 18)]⟩]) (.cond (.t 19) .skip (.exit 0))) (.seq (.block 1 (.reg .false [] [⟨(.some 22), .none, .mov, [(.t 8)]⟩, ⟨(.some 23), .none, (.ldn 32), [(.t 4)]⟩, ⟨(.some 24), .none, .mov, [(.t 9)]⟩, ⟨(.some 25), .none, (.cvt .u64), [(.t 24)]⟩, ⟨(.some 26), .none, (.call 43), [(.t 23), (.c (.str [115, 104, 97, 114, 101])), (.t 25)]⟩, ⟨(.some 27), .none, (.mks [(.int .u8 (.ofNat 0)), (.int .u8 (.ofNat 0)), (.int .u8 (.ofNat 0)), (.int .u8 (.ofNat 0)), (.int .u8 (.ofNat 0)), (.int .u8 (.ofNat 0)), (.int .u8 (.ofNat 0)), (.int .u8 (.ofNat 0)), (.int .u8 (.ofNat 0)), (.int .u8 (.ofNat 0)), (.int .u8 (.ofNat 0)), (.int .u8 (.ofNat 0)), (.int .u8 (.ofNat 0)), (.int .u8 (.ofNat 0)), (.int .u8 (.ofNat 0)), (.int .u8 (.ofNat 0)), (.int .u8 (.ofNat 0)), (.int .u8 (.ofNat 0)), (.int .u8 (.ofNat 0)), (.int .u8 (.ofNat 0)), (.int .u8 (.ofNat 0)), (.int .u8 (.ofNat 0)), (.int .u8 (.ofNat 0)), (.int .u8 (.ofNat 0)), (.int .u8 (.ofNat 0)), (.int .u8 (.ofNat 0)), (.int .u8 (.ofNat 0)), (.int .u8 (.ofNat 0)), (.int .u8 (.ofNat 0)), (.int .u8 (.ofNat 0)), (.int .u8 (.ofNat 0)), (.int .u8 (.ofNat 0))] 1 [⟨0, 32⟩]), [(.t 26)]⟩, ⟨(.some 28), .none, (.app 32 32), [(.t 22), (.t 27)]⟩, ⟨(.some 8), .none, .mov, [(.t 28)]⟩])) (.reg .false [] [⟨(.some 20), .none, .mov, [(.t 9)]⟩, ⟨(.some 21), .none, (.bin .add .i64), [(.t 20), (.c (.int .i64 (.ofNat 1)))]⟩, ⟨(.some 9), .none, .mov, [(.t 21)]⟩])))))) (.seq (.reg .true [0, 0, 0, 6, 0, 16, 62, 126, 254, 511, 1023, 2047] [⟨(.some 29), .none, .mov, [(.t 8)]⟩, ⟨(.some 30), .none, (.mks [] 0 []), []⟩, ⟨(.some 31), .none, .mov, [(.t 8)]⟩, ⟨(.some 32), .none, (.app 32 32), [(.t 30), (.t 31)]⟩, ⟨(.some 33), .none, (.ldn 32), [(.t 3)]⟩, ⟨(.some 34), .none, (.mks [(.int .u8 (.ofNat 0)), (.int .u8 (.ofNat 0)), (.int .u8 (.ofNat 0)), (.int .u8 (.ofNat 0)), (.int .u8 (.ofNat 0)), (.int .u8 (.ofNat 0)), (.int .u8 (.ofNat 0)), (.int .u8 (.ofNat 0)), (.int .u8 (.ofNat 0)), (.int .u8 (.ofNat 0)), (.int .u8 (.ofNat 0)), (.int .u8 (.ofNat 0)), (.int .u8 (.ofNat 0)), (.int .u8 (.ofNat 0)), (.int .u8 (.ofNat 0)), (.int .u8 (.ofNat 0)), (.int .u8 (.ofNat 0)), (.int .u8 (.ofNat 0)), (.int .u8 (.ofNat 0)), (.int .u8 (.ofNat 0)), (.int .u8 (.ofNat 0)), (.int .u8 (.ofNat 0)), (.int .u8 (.ofNat 0)), (.int .u8 (.ofNat 0)), (.int .u8 (.ofNat 0)), (.int .u8 (.ofNat 0)), (.int .u8 (.ofNat 0)), (.int .u8 (.ofNat 0)), (.int .u8 (.ofNat 0)), (.int .u8 (.ofNat 0)), (.int .u8 (.ofNat 0)), (.int .u8 (.ofNat 0))] 1 [⟨0, 32⟩]), [(.t 33)]⟩, ⟨(.some 35), .none, (.app 32 32), [(.t 32), (.t 34)]⟩, ⟨(.some 36), .none, (.call 57), [(.t 35)]⟩, ⟨(.some 37), .none, (.mks [(.int .u8 (.ofNat 0)), (.int .u8 (.ofNat 0)), (.int .u8 (.ofNat 0)), (.int .u8 (.ofNat 0)), (.int .u8 (.ofNat 0)), (.int .u8 (.ofNat 0)), (.int .u8 (.ofNat 0)), (.int .u8 (.ofNat 0)), (.int .u8 (.ofNat 0)), (.int .u8 (.ofNat 0)), (.int .u8 (.ofNat 0)), (.int .u8 (.ofNat 0)), (.int .u8 (.ofNat 0)), (.int .u8 (.ofNat 0)), (.int .u8 (.ofNat 0)), (.int .u8 (.ofNat 0)), (.int .u8 (.ofNat 0)), (.int .u8 (.ofNat 0)), (.int .u8 (.ofNat 0)), (.int .u8 (.ofNat 0)), (.int .u8 (.ofNat 0)), (.int .u8 (.ofNat 0)), (.int .u8 (.ofNat 0)), (.int .u8 (.ofNat 0)), (.int .u8 (.ofNat 0)), (.int .u8 (.ofNat 0)), (.int .u8 (.ofNat 0)), (.int .u8 (.ofNat 0)), (.int .u8 (.ofNat 0)), (.int .u8 (.ofNat 0)), (.int .u8 (.ofNat 0)), (.int .u8 (.ofNat 0))] 1 [⟨0, 32⟩]), [(.t 36)]⟩, ⟨(.some 38), .none, (.app 32 32), [(.t 29), (.t 37)]⟩, ⟨(.some 6), .none, .mov, [(.t 38)]⟩, ⟨(.some 7), .none, .mov, [(.c (.int .i64 (.ofNat 0)))]⟩]) .ret)))))⟩
theorem ok49 : FnOK Try.prog 49 vf49 := .of Try.func49 (by kernel_rfl) (by kernel_rfl)
def vf50 : VF := ⟨41, [(.tmp 0)], (.seq (.reg .false [] [⟨(.some 0), .none, .mov, [(.c (.bool .false))]⟩]) (.seq (.reg .false [] [⟨(.some 6), .none, (.mk [(.int .u8 (.ofNat 0)), (.int .u8 (.ofNat 0)), (.int .u8 (.ofNat 0)), (.int .u8 (.ofNat 0)), (.int .u8 (.ofNat 0)), (.int .u8 (.ofNat 0)), (.int .u8 (.ofNat 0)), (.int .u8 (.ofNat 0)), (.int .u8 (.ofNat 0)), (.int .u8 (.ofNat 0)), (.int .u8 (.ofNat 0)), (.int .u8 (.ofNat 0)), (.int .u8 (.ofNat 0)), (.int .u8 (.ofNat 0)), (.int .u8 (.ofNat 0)), (.int .u8 (.ofNat 0)), (.int .u8 (.ofNat 0)), (.int .u8 (.ofNat 0)), (.int .u8 (.ofNat 0)), (.int .u8 (.ofNat 0)), (.int .u8 (.ofNat 0)), (.int .u8 (.ofNat 0)), (.int .u8 (.ofNat 0)), (.int .u8 (.ofNat 0)), (.int .u8 (.ofNat 0)), (.int .u8 (.ofNat 0)), (.int .u8 (.ofNat 0)), (.int .u8 (.ofNat 0)), (.int .u8 (.ofNat 0)), (.int .u8 (.ofNat 0)), (.int .u8 (.ofNat 0)), (.int .u8 (.ofNat 0))] [⟨0, 1⟩]), [(.c (.int .u8 (.ofNat 1)))]⟩, ⟨(.some 7), .none, (.mk [(.int .u8 (.ofNat 0)), (.int .u8 (.ofNat 0)), (.int .u8 (.ofNat 0)), (.int .u8 (.ofNat 0)), (.int .u8 (.ofNat 0)), (.int .u8 (.ofNat 0)), (.int .u8 (.ofNat 0)), (.int .u8 (.ofNat 0)), (.int .u8 (.ofNat 0)), (.int .u8 (.ofNat 0)), (.int .u8 (.ofNat 0)), (.int .u8 (.ofNat 0)), (.int .u8 (.ofNat 0)), (.int .u8 (.ofNat 0)), (.int .u8 (.ofNat 0)), (.int .u8 (.ofNat 0)), (.int .u8 (.ofNat 0)), (.int .u8 (.ofNat 0)), (.int .u8 (.ofNat 0)), (.int .u8 (.ofNat 0)), (.int .u8 (.ofNat 0)), (.int .u8 (.ofNat 0)), (.int .u8 (.ofNat 0)), (.int .u8 (.ofNat 0)), (.int .u8 (.ofNat 0)), (.int .u8 (.ofNat 0)), (.int .u8 (.ofNat 0)), (.int .u8 (.ofNat 0)), (.int .u8 (.ofNat 0)), (.int .u8 (.ofNat 0)), (.int .u8 (.ofNat 0)), (.int .u8 (.ofNat 0))] [⟨0, 1⟩]), [(.c (.int .u8 (.ofNat 2)))]⟩, ⟨(.some 8), .none, (.call 48), [(.t 6), (.t 7), (.c (.int .i64 (.ofNat 3)))]⟩, ⟨(.some 5), .none, .mov, [(.t 8)]⟩, ⟨(.some 9), .none, (.ext 0), [(.t 5)]⟩, ⟨(.some 10), .none, (.ext 1), [(.t 5)]⟩, ⟨(.some 1), .none, .mov, [(.t 9)]⟩, ⟨(.some 2), .none, .mov, [(.t 10)]⟩]) (.seq (.reg .false [] [⟨(.some 12), .none, (.mk [(.int .u8 (.ofNat 0)), (.int .u8 (.ofNat 0)), (.int .u8 (.ofNat 0)), (.int .u8 (.ofNat 0)), (.int .u8 (.ofNat 0)), (.int .u8 (.ofNat 0)), (.int .u8 (.ofNat 0)), (.int .u8 (.ofNat 0)), (.int .u8 (.ofNat 0)), (.int .u8 (.ofNat 0)), (.int .u8 (.ofNat 0)), (.int .u8 (.ofNat 0)), (.int .u8 (.ofNat 0)), (.int .u8 (.ofNat 0)), (.int .u8 (.ofNat 0)), (.int .u8 (.ofNat 0)), (.int .u8 (.ofNat 0)), (.int .u8 (.ofNat 0)), (.int .u8 (.ofNat 0)), (.int .u8 (.ofNat 0)), (.int .u8 (.ofNat 0)), (.int .u8 (.ofNat 0)), (.int .u8 (.ofNat 0)), (.int .u8 (.ofNat 0)), (.int .u8 (.ofNat 0)), (.int .u8 (.ofNat 0)), (.int .u8 (.ofNat 0)), (.int .u8 (.ofNat 0)), (.int .u8 (.ofNat 0)), (.int .u8 (.ofNat 0)), (.int .u8 (.ofNat 0)), (.int .u8 (.ofNat 0))] [⟨0, 1⟩]), [(.c (.int .u8 (.ofNat 1)))]⟩, ⟨(.some 13), .none, (.mk [(.int .u8 (.ofNat 0)), (.int .u8 (.ofNat 0)), (.int .u8 (.ofNat 0)), (.int .u8 (.ofNat 0)), (.int .u8 (.ofNat 0)), (.int .u8 (.ofNat 0)), (.int .u8 (.ofNat 0)), (.int .u8 (.ofNat 0)), (.int .u8 (.ofNat 0)), (.int .u8 (.ofNat 0)), (.int .u8 (.ofNat 0)), (.int .u8 (.ofNat 0)), (.int .u8 (.ofNat 0)), (.int .u8 (.ofNat 0)), (.int .u8 (.ofNat 0)), (.int .u8 (.ofNat 0)), (.int .u8 (.ofNat 0)), (.int .u8 (.ofNat 0)), (.int .u8 (.ofNat 0)), (.int .u8 (.ofNat 0)), (.int .u8 (.ofNat 0)), (.int .u8 (.ofNat 0)), (.int .u8 (.ofNat 0)), (.int .u8 (.ofNat 0)), (.int .u8 (.ofNat 0)), (.int .u8 (.ofNat 0)), (.int .u8 (.ofNat 0)), (.int .u8 (.ofNat 0)), (.int .u8 (.ofNat 0)), (.int .u8 (.ofNat 0)), (.int .u8 (.ofNat 0)), (.int .u8 (.ofNat 0))] [⟨0, 1⟩]), [(.c (.int .u8 (.ofNat 2)))]⟩, ⟨(.some 14), .none, (.call 48), [(.t 12), (.t 13), (.c (.int .i64 (.ofNat 17)))]⟩, ⟨(.some 11), .none, .mov, [(.t 14)]⟩, ⟨(.some 15), .none, (.ext 0), [(.t 11)]⟩, ⟨(.some 16), .none, (.ext 1), [(.t 11)]⟩, ⟨(.some 3), .none, .mov, [(.t 15)]⟩, ⟨(.some 4), .none, .mov, [(.t 16)]⟩]) (.seq (.reg .false [] [⟨(.some 17), .none, .mov, [(.t 2)]⟩, ⟨(.some 18), .none, (.cmp .eql), [(.t 17), (.c (.int .i64 (.ofNat 0)))]⟩, ⟨(.some 19), .none, .mov, [(.t 18)]⟩, ⟨(.some 20), (.some ⟨19, .true⟩), .mov, [(.t 4)]⟩, ⟨(.some 21), (.some ⟨19, .true⟩), (.cmp .eql), [(.t 20), (.c (.int .i64 (.ofNat 1)))]⟩, ⟨(.some 22), .none, .pick, [(.t 19), (.t 21), (.c (.bool .false))]⟩, ⟨(.some 23), .none, .mov, [(.t 22)]⟩, ⟨(.some 24), (.some ⟨23, .true⟩), .mov, [(.t 1)]⟩, ⟨(.some 25), (.some ⟨23, .true⟩), .len, [(.t 24)]⟩, ⟨(.some 26), (.some ⟨23, .true⟩), (.cmp .eql), [(.t 25), (.c (.int .i64 (.ofNat 3)))]⟩, ⟨(.some 27), .none, .pick, [(.t 23), (.t 26), (.c (.bool .false))]⟩, ⟨(.some 28), .none, .mov, [(.t 27)]⟩, ⟨(.some 29), (.some ⟨28, .true⟩), .mov, [(.t 1)]⟩, ⟨(.some 30), (.some ⟨28, .true⟩), (.call 52), [(.t 29)]⟩, ⟨(.some 31), (.some ⟨28, .true⟩), (.mk [(.int .u8 (.ofNat 0)), (.int .u8 (.ofNat 0)), (.int .u8 (.ofNat 0)), (.int .u8 (.ofNat 0)), (.int .u8 (.ofNat 0)), (.int .u8 (.ofNat 0)), (.int .u8 (.ofNat 0)), (.int .u8 (.ofNat 0)), (.int .u8 (.ofNat 0)), (.int .u8 (.ofNat 0)), (.int .u8 (.ofNat 0)), (.int .u8 (.ofNat 0)), (.int .u8 (.ofNat 0)), (.int .u8 (.ofNat 0)), (.int .u8 (.ofNat 0)), (.int .u8 (.ofNat 0)), (.int .u8 (.ofNat 0)), (.int .u8 (.ofNat 0)), (.int .u8 (.ofNat 0)), (.int .u8 (.ofNat 0)), (.int .u8 (.ofNat 0)), (.int .u8 (.ofNat 0)), (.int .u8 (.ofNat 0)), (.int .u8 (.ofNat 0)), (.int .u8 (.ofNat 0)), (.int .u8 (.ofNat 0)), (.int .u8 (.ofNat 0)), (.int .u8 (.ofNat 0)), (.int .u8 (.ofNat 0)), (.int .u8 (.ofNat 0)), (.int .u8 (.ofNat 0)), (.int .u8 (.ofNat 0))] [⟨0, 1⟩]), [(.c (.int .u8 (.ofNat 1)))]⟩, ⟨(.some 32), (.some ⟨28, .true⟩), (.acmp .false 32 [⟨0, ⟨.u8, 32⟩⟩]), [(.t 30), (.t 31)]⟩, ⟨(.some 33), .none, .pick, [(.t 28), (.t 32), (.c (.bool .false))]⟩, ⟨(.some 34), .none, .mov, [(.t 33)]⟩, ⟨(.some 35), (.some ⟨34, .true⟩), (.mk [(.int .u8 (.ofNat 0)), (.int .u8 (.ofNat 0)), (.int .u8 (.ofNat 0)), (.int .u8 (.ofNat 0)), (.int .u8 (.ofNat 0)), (.int .u8 (.ofNat 0)), (.int .u8 (.ofNat 0)), (.int .u8 (.ofNat 0)), (.int .u8 (.ofNat 0)), (.int .u8 (.ofNat 0)), (.int .u8 (.ofNat 0)), (.int .u8 (.ofNat 0)), (.int .u8 (.ofNat 0)), (.int .u8 (.ofNat 0)), (.int .u8 (.ofNat 0)), (.int .u8 (.ofNat 0)), (.int .u8 (.ofNat 0)), (.int .u8 (.ofNat 0)), (.int .u8 (.ofNat 0)), (.int .u8 (.ofNat 0)), (.int .u8 (.ofNat 0)), (.int .u8 (.ofNat 0)), (.int .u8 (.ofNat 0)), (.int .u8 (.ofNat 0)), (.int .u8 (.ofNat 0)), (.int .u8 (.ofNat 0)), (.int .u8 (.ofNat 0)), (.int .u8 (.ofNat 0)), (.int .u8 (.ofNat 0)), (.int .u8 (.ofNat 0)), (.int .u8 (.ofNat 0)), (.int .u8 (.ofNat 0))] [⟨0, 1⟩]), [(.c (.int .u8 (.ofNat 1)))]⟩, ⟨(.some 36), (.some ⟨34, .true⟩), (.mk [(.int .u8 (.ofNat 0)), (.int .u8 (.ofNat 0)), (.int .u8 (.ofNat 0)), (.int .u8 (.ofNat 0)), (.int .u8 (.ofNat 0)), (.int .u8 (.ofNat 0)), (.int .u8 (.ofNat 0)), (.int .u8 (.ofNat 0)), (.int .u8 (.ofNat 0)), (.int .u8 (.ofNat 0)), (.int .u8 (.ofNat 0)), (.int .u8 (.ofNat 0)), (.int .u8 (.ofNat 0)), (.int .u8 (.ofNat 0)), (.int .u8 (.ofNat 0)), (.int .u8 (.ofNat 0)), (.int .u8 (.ofNat 0)), (.int .u8 (.ofNat 0)), (.int .u8 (.ofNat 0)), (.int .u8 (.ofNat 0)), (.int .u8 (.ofNat 0)), (.int .u8 (.ofNat 0)), (.int .u8 (.ofNat 0)), (.int .u8 (.ofNat 0)), (.int .u8 (.ofNat 0)), (.int .u8 (.ofNat 0)), (.int .u8 (.ofNat 0)), (.int .u8 (.ofNat 0)), (.int .u8 (.ofNat 0)), (.int .u8 (.ofNat 0)), (.int .u8 (.ofNat 0)), (.int .u8 (.ofNat 0))] [⟨0, 1⟩]), [(.c (.int .u8 (.ofNat 2)))]⟩, ⟨(.some 37), (.some ⟨34, .true⟩), (.call 53), [(.t 35), (.t 36), (.c (.int .i64 (.ofNat 0)))]⟩, ⟨(.some 38), (.some ⟨34, .true⟩), (.mk [(.int .u8 (.ofNat 0)), (.int .u8 (.ofNat 0)), (.int .u8 (.ofNat 0)), (.int .u8 (.ofNat 0)), (.int .u8 (.ofNat 0)), (.int .u8 (.ofNat 0)), (.int .u8 (.ofNat 0)), (.int .u8 (.ofNat 0)), (.int .u8 (.ofNat 0)), (.int .u8 (.ofNat 0)), (.int .u8 (.ofNat 0)), (.int .u8 (.ofNat 0)), (.int .u8 (.ofNat 0)), (.int .u8 (.ofNat 0)), (.int .u8 (.ofNat 0)), (.int .u8 (.ofNat 0)), (.int .u8 (.ofNat 0)), (.int .u8 (.ofNat 0)), (.int .u8 (.ofNat 0)), (.int .u8 (.ofNat 0)), (.int .u8 (.ofNat 0)), (.int .u8 (.ofNat 0)), (.int .u8 (.ofNat 0)), (.int .u8 (.ofNat 0)), (.int .u8 (.ofNat 0)), (.int .u8 (.ofNat 0)), (.int .u8 (.ofNat 0)), (.int .u8 (.ofNat 0)), (.int .u8 (.ofNat 0)), (.int .u8 (.ofNat 0)), (.int .u8 (.ofNat 0)), (.int .u8 (.ofNat 0))] []), []⟩, ⟨(.some 39), (.some ⟨34, .true⟩), (.acmp .true 32 [⟨0, ⟨.u8, 32⟩⟩]), [(.t 37), (.t 38)]⟩, ⟨(.some 40), .none, .pick, [(.t 34), (.t 39), (.c (.bool .false))]⟩, ⟨(.some 0), .none, .mov, [(.t 40)]⟩]) .ret))))⟩
theorem ok50 : FnOK Try.prog 50 vf50 := .of Try.func50 (by kernel_rfl) (by kernel_rfl)
def vf51 : VF := ⟨26, [(.tmp 4)], (.seq (.reg .false [] [⟨(.some 4), .none, .mov, [(.c (.bool .false))]⟩]) (.seq (.seq (.reg .false [] [⟨(.some 6), .none, .mov, [(.t 0)]⟩, ⟨(.some 7), .none, .len, [(.t 6)]⟩, ⟨(.some 8), .none, .mov, [(.t 1)]⟩, ⟨(.some 9), .none, .len, [(.t 8)]⟩, ⟨(.some 10), .none, (.cmp .neq), [(.t 7), (.t 9)]⟩]) (.cond (.t 10) (.seq (.reg .false [] [⟨(.some 4), .none, .mov, [(.c (.bool .false))]⟩]) .ret) .skip)) (.seq (.seq (.reg .false [] [⟨(.some 5), .none, .mov, [(.c (.int .i64 (.ofNat 0)))]⟩]) (.block 0 (.loop (.seq (.seq (.reg .false [] [⟨(.some 11), .none, .mov, [(.t 5)]⟩, ⟨(.some 12), .none, .mov, [(.t 0)]⟩, ⟨(.some 13), .none, .len, [(.t 12)]⟩, ⟨(.some 14), .none, (.cmp .lss), [(.t 11), (.t 13)]⟩]) (.cond (.t 14) .skip (.exit 0))) (.seq (.block 1 (.seq (.reg .true [0, 0, 3, 7, 0, 0, 48, 112, 255] [⟨(.some 17), .none, .mov, [(.t 0)]⟩, ⟨(.some 18), .none, .mov, [(.t 5)]⟩, ⟨(.some 19), .none, (.ixS 32), [(.t 17), (.t 18)]⟩, ⟨(.some 20), .none, (.ldn 32), [(.t 19)]⟩, ⟨(.some 21), .none, .mov, [(.t 1)]⟩, ⟨(.some 22), .none, .mov, [(.t 5)]⟩, ⟨(.some 23), .none, (.ixS 32), [(.t 21), (.t 22)]⟩, ⟨(.some 24), .none, (.ldn 32), [(.t 23)]⟩, ⟨(.some 25), .none, (.acmp .true 32 [⟨0, ⟨.u8, 32⟩⟩]), [(.t 20), (.t 24)]⟩]) (.cond (.t 25) (.seq (.reg .false [] [⟨(.some 4), .none, .mov, [(.c (.bool .false))]⟩]) .ret) .skip))) (.reg .false [] [⟨(.some 15), .none, .mov, [(.t 5)]⟩, ⟨(.some 16), .none, (.bin .add .i64), [(.t 15), (.c (.int .i64 (.ofNat 1)))]⟩, ⟨(.some 5), .none, .mov, [(.t 16)]⟩])))))) (.seq (.reg .false [] [⟨(.some 4), .none, .mov, [(.c (.bool .true))]⟩]) .ret))))⟩
theorem ok51 : FnOK Try.prog 51 vf51 := .of Try.func51 (by kernel_rfl) (by kernel_rfl)
def vf52 : VF := ⟨28, [(.cell 2 32)], (.seq (.reg .false [] [⟨(.some 2), .none, (.alloc [(.int .u8 (.ofNat 0)), (.int .u8 (.ofNat 0)), (.int .u8 (.ofNat 0)), (.int .u8 (.ofNat 0)), (.int .u8 (.ofNat 0)), (.int .u8 (.ofNat 0)), (.int .u8 (.ofNat 0)), (.int .u8 (.ofNat 0)), (.int .u8 (.ofNat 0)), (.int .u8 (.ofNat 0)), (.int .u8 (.ofNat 0)), (.int .u8 (.ofNat 0)), (.int .u8 (.ofNat 0)), (.int .u8 (.ofNat 0)), (.int .u8 (.ofNat 0)), (.int .u8 (.ofNat 0)), (.int .u8 (.ofNat 0)), (.int .u8 (.ofNat 0)), (.int .u8 (.ofNat 0)), (.int .u8 (.ofNat 0)), (.int .u8 (.ofNat 0)), (.int .u8 (.ofNat 0)), (.int .u8 (.ofNat 0)), (.int .u8 (.ofNat 0)), (.int .u8 (.ofNat 0)), (.int .u8 (.ofNat 0)), (.int .u8 (.ofNat 0)), (.int .u8 (.ofNat 0)), (.int .u8 (.ofNat 0)), (.int .u8 (.ofNat 0)), (.int .u8 (.ofNat 0)), (.int .u8 (.ofNat 0))]), []⟩]) (.seq (.reg .false [] [⟨(.some 3), .none, (.alloc [(.int .u8 (.ofNat 0)), (.int .u8 (.ofNat 0)), (.int .u8 (.ofNat 0)), (.int .u8 (.ofNat 0)), (.int .u8 (.ofNat 0)), (.int .u8 (.ofNat 0)), (.int .u8 (.ofNat 0)), (.int .u8 (.ofNat 0)), (.int .u8 (.ofNat 0)), (.int .u8 (.ofNat 0)), (.int .u8 (.ofNat 0)), (.int .u8 (.ofNat 0)), (.int .u8 (.ofNat 0)), (.int .u8 (.ofNat 0)), (.int .u8 (.ofNat 0)), (.int .u8 (.ofNat 0)), (.int .u8 (.ofNat 0)), (.int .u8 (.ofNat 0)), (.int .u8 (.ofNat 0)), (.int .u8 (.ofNat 0)), (.int .u8 (.ofNat 0)), (.int .u8 (.ofNat 0)), (.int .u8 (.ofNat 0)), (.int .u8 (.ofNat 0)), (.int .u8 (.ofNat 0)), (.int .u8 (.ofNat 0)), (.int .u8 (.ofNat 0)), (.int .u8 (.ofNat 0)), (.int .u8 (.ofNat 0)), (.int .u8 (.ofNat 0)), (.int .u8 (.ofNat 0)), (.int .u8 (.ofNat 0))]), []⟩]) (.seq (.seq (.reg .false [] [⟨(.some 8), .none, .mov, [(.t 0)]⟩, ⟨(.some 9), .none, .len, [(.t 8)]⟩, ⟨(.some 10), .none, .mov, [(.c (.int .i64 (.ofNat 0)))]⟩]) (.block 0 (.loop (.seq (.reg .false [] [⟨(.some 11), .none, (.cmp .lss), [(.t 10), (.t 9)]⟩]) (.seq (.cond (.t 11) .skip (.exit 0)) (.seq (.block 1 (.seq (.reg .false [] [⟨(.some 12), .none, (.ixS 32), [(.t 8), (.t 10)]⟩, ⟨(.some 13), .none, (.ldn 32), [(.t 12)]⟩, ⟨(.some 5), .none, (.alloc [(.int .u8 (.ofNat 0)), (.int .u8 (.ofNat 0)), (.int .u8 (.ofNat 0)), (.int .u8 (.ofNat 0)), (.int .u8 (.ofNat 0)), (.int .u8 (.ofNat 0)), (.int .u8 (.ofNat 0)), (.int .u8 (.ofNat 0)), (.int .u8 (.ofNat 0)), (.int .u8 (.ofNat 0)), (.int .u8 (.ofNat 0)), (.int .u8 (.ofNat 0)), (.int .u8 (.ofNat 0)), (.int .u8 (.ofNat 0)), (.int .u8 (.ofNat 0)), (.int .u8 (.ofNat 0)), (.int .u8 (.ofNat 0)), (.int .u8 (.ofNat 0)), (.int .u8 (.ofNat 0)), (.int .u8 (.ofNat 0)), (.int .u8 (.ofNat 0)), (.int .u8 (.ofNat 0)), (.int .u8 (.ofNat 0)), (.int .u8 (.ofNat 0)), (.int .u8 (.ofNat 0)), (.int .u8 (.ofNat 0)), (.int .u8 (.ofNat 0)), (.int .u8 (.ofNat 0)), (.int .u8 (.ofNat 0)), (.int .u8 (.ofNat 0)), (.int .u8 (.ofNat 0)), (.int .u8 (.ofNat 0))]), []⟩, ⟨.none, .none, (.stn 32), [(.t 5), (.t 13)]⟩]) (.seq (.reg .false [] [⟨(.some 14), .none, (.ldn 32), [(.t 5)]⟩, ⟨(.some 15), .none, .mov, [(.c (.int .i64 (.ofNat 0)))]⟩]) (.block 2 (.loop (.seq (.reg .false [] [⟨(.some 16), .none, (.cmp .lss), [(.t 15), (.c (.int .i64 (.ofNat 32)))]⟩]) (.seq (.cond (.t 16) .skip (.exit 2)) (.seq (.block 3 (.seq (.reg .false [] [⟨(.some 17), .none, .mov, [(.t 15)]⟩, ⟨(.some 18), .none, (.ixV 32 (.int .u8)), [(.t 14), (.t 15)]⟩, ⟨(.some 6), .none, .mov, [(.t 17)]⟩, ⟨(.some 7), .none, .mov, [(.t 18)]⟩]) (.reg .false [] [⟨(.some 19), .none, .mov, [(.t 6)]⟩, ⟨(.some 20), .none, (.ixA 32 1), [(.t 3), (.t 19)]⟩, ⟨(.some 21), .none, (.ld1 (.int .u8)), [(.t 20)]⟩, ⟨(.some 22), .none, .mov, [(.t 7)]⟩, ⟨(.some 23), .none, (.bin .xor .u8), [(.t 21), (.t 22)]⟩, ⟨(.some 24), .none, (.ixA 32 1), [(.t 3), (.t 19)]⟩, ⟨.none, .none, .st1, [(.t 24), (.t 23)]⟩]))) (.reg .false [] [⟨(.some 25), .none, (.bin .add .i64), [(.t 15), (.c (.int .i64 (.ofNat 1)))]⟩, ⟨(.some 15), .none, .mov, [(.t 25)]⟩]))))))))) (.reg .false [] [⟨(.some 26), .none, (.bin .add .i64), [(.t 10), (.c (.int .i64 (.ofNat 1)))]⟩, ⟨(.some 10), .none, .mov, [(.t 26)]⟩]))))))) (.seq (.reg .false [] [⟨(.some 27), .none, (.ldn 32), [(.t 3)]⟩, ⟨.none, .none, (.stn 32), [(.t 2), (.t 27)]⟩]) .ret))))⟩
theorem ok52 : FnOK Try.prog 52 vf52 := .of Try.func52 (by kernel_rfl) (by kernel_rfl)
def vf53 : VF := ⟨18, [(.cell 6 32)], (.seq (.reg .false [] [⟨(.some 3), .none, .box, [(.t 0)]⟩, ⟨(.some 4), .none, .box, [(.t 1)]⟩, ⟨(.some 6), .none, (.alloc [(.int .u8 (.ofNat 0)), (.int .u8 (.ofNat 0)), (.int .u8 (.ofNat 0)), (.int .u8 (.ofNat 0)), (.int .u8 (.ofNat 0)), (.int .u8 (.ofNat 0)), (.int .u8 (.ofNat 0)), (.int .u8 (.ofNat 0)), (.int .u8 (.ofNat 0)), (.int .u8 (.ofNat 0)), (.int .u8 (.ofNat 0)), (.int .u8 (.ofNat 0)), (.int .u8 (.ofNat 0)), (.int .u8 (.ofNat 0)), (.int .u8 (.ofNat 0)), (.int .u8 (.ofNat 0)), (.int .u8 (.ofNat 0)), (.int .u8 (.ofNat 0)), (.int .u8 (.ofNat 0)), (.int .u8 (.ofNat 0)), (.int .u8 (.ofNat 0)), (.int .u8 (.ofNat 0)), (.int .u8 (.ofNat 0)), (.int .u8 (.ofNat 0)), (.int .u8 (.ofNat 0)), (.int .u8 (.ofNat 0)), (.int .u8 (.ofNat 0)), (.int .u8 (.ofNat 0)), (.int .u8 (.ofNat 0)), (.int .u8 (.ofNat 0)), (.int .u8 (.ofNat 0)), (.int .u8 (.ofNat 0))]), []⟩]) (.seq (.seq (.reg .false [] [⟨(.some 7), .none, .mov, [(.t 2)]⟩, ⟨(.some 8), .none, (.call 81), [(.t 7)]⟩, ⟨(.some 9), .none, .not, [(.t 8)]⟩]) (.cond (.t 9) (.seq (.reg .false [] [⟨(.some 10), .none, (.mk [(.int .u8 (.ofNat 0)), (.int .u8 (.ofNat 0)), (.int .u8 (.ofNat 0)), (.int .u8 (.ofNat 0)), (.int .u8 (.ofNat 0)), (.int .u8 (.ofNat 0)), (.int .u8 (.ofNat 0)), (.int .u8 (.ofNat 0)), (.int .u8 (.ofNat 0)), (.int .u8 (.ofNat 0)), (.int .u8 (.ofNat 0)), (.int .u8 (.ofNat 0)), (.int .u8 (.ofNat 0)), (.int .u8 (.ofNat 0)), (.int .u8 (.ofNat 0)), (.int .u8 (.ofNat 0)), (.int .u8 (.ofNat 0)), (.int .u8 (.ofNat 0)), (.int .u8 (.ofNat 0)), (.int .u8 (.ofNat 0)), (.int .u8 (.ofNat 0)), (.int .u8 (.ofNat 0)), (.int .u8 (.ofNat 0)), (.int .u8 (.ofNat 0)), (.int .u8 (.ofNat 0)), (.int .u8 (.ofNat 0)), (.int .u8 (.ofNat 0)), (.int .u8 (.ofNat 0)), (.int .u8 (.ofNat 0)), (.int .u8 (.ofNat 0)), (.int .u8 (.ofNat 0)), (.int .u8 (.ofNat 0))] []), []⟩, ⟨.none, .none, (.stn 32), [(.t 6), (.t 10)]⟩]) .ret) .skip)) (.seq (.reg .true [0, 0, 0, 4, 12, 30, 63, 127] [⟨(.some 11), .none, (.ldn 32), [(.t 3)]⟩, ⟨(.some 12), .none, (.slA 32 1 .false .false), [(.t 4)]⟩, ⟨(.some 13), .none, .mov, [(.t 2)]⟩, ⟨(.some 14), .none, (.cvt .u64), [(.t 13)]⟩, ⟨(.some 15), .none, (.call 44), [(.t 14)]⟩, ⟨(.some 16), .none, (.mks [.nils, .nils] 2 [⟨0, 1⟩, ⟨1, 1⟩]), [(.t 12), (.t 15)]⟩, ⟨(.some 17), .none, (.call 41), [(.t 11), (.c (.str [112, 97, 114, 116])), (.t 16)]⟩, ⟨.none, .none, (.stn 32), [(.t 6), (.t 17)]⟩]) .ret)))⟩
theorem ok53 : FnOK Try.prog 53 vf53 := .of Try.func53 (by kernel_rfl) (by kernel_rfl)
def vf54 : VF := ⟨21, [(.cell 6 32)], (.seq (.reg .false [] [⟨(.some 3), .none, .box, [(.t 0)]⟩, ⟨(.some 4), .none, .box, [(.t 1)]⟩, ⟨(.some 6), .none, (.alloc [(.int .u8 (.ofNat 0)), (.int .u8 (.ofNat 0)), (.int .u8 (.ofNat 0)), (.int .u8 (.ofNat 0)), (.int .u8 (.ofNat 0)), (.int .u8 (.ofNat 0)), (.int .u8 (.ofNat 0)), (.int .u8 (.ofNat 0)), (.int .u8 (.ofNat 0)), (.int .u8 (.ofNat 0)), (.int .u8 (.ofNat 0)), (.int .u8 (.ofNat 0)), (.int .u8 (.ofNat 0)), (.int .u8 (.ofNat 0)), (.int .u8 (.ofNat 0)), (.int .u8 (.ofNat 0)), (.int .u8 (.ofNat 0)), (.int .u8 (.ofNat 0)), (.int .u8 (.ofNat 0)), (.int .u8 (.ofNat 0)), (.int .u8 (.ofNat 0)), (.int .u8 (.ofNat 0)), (.int .u8 (.ofNat 0)), (.int .u8 (.ofNat 0)), (.int .u8 (.ofNat 0)), (.int .u8 (.ofNat 0)), (.int .u8 (.ofNat 0)), (.int .u8 (.ofNat 0)), (.int .u8 (.ofNat 0)), (.int .u8 (.ofNat 0)), (.int .u8 (.ofNat 0)), (.int .u8 (.ofNat 0))]), []⟩]) (.seq (.seq (.reg .false [] [⟨(.some 7), .none, .mov, [(.t 2)]⟩, ⟨(.some 8), .none, (.cmp .lss), [(.t 7), (.c (.int .i64 (.ofNat 0)))]⟩, ⟨(.some 9), .none, .mov, [(.t 8)]⟩, ⟨(.some 10), (.some ⟨9, .false⟩), .mov, [(.t 2)]⟩, ⟨(.some 11), (.some ⟨9, .false⟩), (.cmp .gtr), [(.t 10), (.c (.int .i64 (.ofNat 2147483647)))]⟩, ⟨(.some 12), .none, .pick, [(.t 9), (.c (.bool .true)), (.t 11)]⟩]) (.cond (.t 12) (.seq (.reg .false [] [⟨(.some 13), .none, (.mk [(.int .u8 (.ofNat 0)), (.int .u8 (.ofNat 0)), (.int .u8 (.ofNat 0)), (.int .u8 (.ofNat 0)), (.int .u8 (.ofNat 0)), (.int .u8 (.ofNat 0)), (.int .u8 (.ofNat 0)), (.int .u8 (.ofNat 0)), (.int .u8 (.ofNat 0)), (.int .u8 (.ofNat 0)), (.int .u8 (.ofNat 0)), (.int .u8 (.ofNat 0)), (.int .u8 (.ofNat 0)), (.int .u8 (.ofNat 0)), (.int .u8 (.ofNat 0)), (.int .u8 (.ofNat 0)), (.int .u8 (.ofNat 0)), (.int .u8 (.ofNat 0)), (.int .u8 (.ofNat 0)), (.int .u8 (.ofNat 0)), (.int .u8 (.ofNat 0)), (.int .u8 (.ofNat 0)), (.int .u8 (.ofNat 0)), (.int .u8 (.ofNat 0)), (.int .u8 (.ofNat 0)), (.int .u8 (.ofNat 0)), (.int .u8 (.ofNat 0)), (.int .u8 (.ofNat 0)), (.int .u8 (.ofNat 0)), (.int .u8 (.ofNat 0)), (.int .u8 (.ofNat 0)), (.int .u8 (.ofNat 0))] []), []⟩, ⟨.none, .none, (.stn 32), [(.t 6), (.t 13)]⟩]) .ret) .skip)) (.seq (.reg .true [0, 0, 0, 4, 12, 30, 63, 127] [⟨(.some 14), .none, (.ldn 32), [(.t 3)]⟩, ⟨(.some 15), .none, (.slA 32 1 .false .false), [(.t 4)]⟩, ⟨(.some 16), .none, .mov, [(.t 2)]⟩, ⟨(.some 17), .none, (.cvt .u64), [(.t 16)]⟩, ⟨(.some 18), .none, (.call 45), [(.t 17)]⟩, ⟨(.some 19), .none, (.mks [.nils, .nils] 2 [⟨0, 1⟩, ⟨1, 1⟩]), [(.t 15), (.t 18)]⟩, ⟨(.some 20), .none, (.call 40), [(.t 14), (.c (.str [112, 97, 114, 116])), (.t 19)]⟩, ⟨.none, .none, (.stn 32), [(.t 6), (.t 20)]⟩]) .ret)))⟩
theorem ok54 : FnOK Try.prog 54 vf54 := .of Try.func54 (by kernel_rfl) (by kernel_rfl)
def vf55 : VF := ⟨16, [(.cell 6 32)], (.seq (.reg .false [] [⟨(.some 3), .none, .box, [(.t 0)]⟩, ⟨(.some 4), .none, .box, [(.t 1)]⟩, ⟨(.some 6), .none, (.alloc [(.int .u8 (.ofNat 0)), (.int .u8 (.ofNat 0)), (.int .u8 (.ofNat 0)), (.int .u8 (.ofNat 0)), (.int .u8 (.ofNat 0)), (.int .u8 (.ofNat 0)), (.int .u8 (.ofNat 0)), (.int .u8 (.ofNat 0)), (.int .u8 (.ofNat 0)), (.int .u8 (.ofNat 0)), (.int .u8 (.ofNat 0)), (.int .u8 (.ofNat 0)), (.int .u8 (.ofNat 0)), (.int .u8 (.ofNat 0)), (.int .u8 (.ofNat 0)), (.int .u8 (.ofNat 0)), (.int .u8 (.ofNat 0)), (.int .u8 (.ofNat 0)), (.int .u8 (.ofNat 0)), (.int .u8 (.ofNat 0)), (.int .u8 (.ofNat 0)), (.int .u8 (.ofNat 0)), (.int .u8 (.ofNat 0)), (.int .u8 (.ofNat 0)), (.int .u8 (.ofNat 0)), (.int .u8 (.ofNat 0)), (.int .u8 (.ofNat 0)), (.int .u8 (.ofNat 0)), (.int .u8 (.ofNat 0)), (.int .u8 (.ofNat 0)), (.int .u8 (.ofNat 0)), (.int .u8 (.ofNat 0))]), []⟩]) (.seq (.seq (.reg .false [] [⟨(.some 7), .none, .mov, [(.t 2)]⟩, ⟨(.some 8), .none, (.call 81), [(.t 7)]⟩, ⟨(.some 9), .none, .not, [(.t 8)]⟩]) (.cond (.t 9) (.seq (.reg .false [] [⟨(.some 10), .none, (.mk [(.int .u8 (.ofNat 0)), (.int .u8 (.ofNat 0)), (.int .u8 (.ofNat 0)), (.int .u8 (.ofNat 0)), (.int .u8 (.ofNat 0)), (.int .u8 (.ofNat 0)), (.int .u8 (.ofNat 0)), (.int .u8 (.ofNat 0)), (.int .u8 (.ofNat 0)), (.int .u8 (.ofNat 0)), (.int .u8 (.ofNat 0)), (.int .u8 (.ofNat 0)), (.int .u8 (.ofNat 0)), (.int .u8 (.ofNat 0)), (.int .u8 (.ofNat 0)), (.int .u8 (.ofNat 0)), (.int .u8 (.ofNat 0)), (.int .u8 (.ofNat 0)), (.int .u8 (.ofNat 0)), (.int .u8 (.ofNat 0)), (.int .u8 (.ofNat 0)), (.int .u8 (.ofNat 0)), (.int .u8 (.ofNat 0)), (.int .u8 (.ofNat 0)), (.int .u8 (.ofNat 0)), (.int .u8 (.ofNat 0)), (.int .u8 (.ofNat 0)), (.int .u8 (.ofNat 0)), (.int .u8 (.ofNat 0)), (.int .u8 (.ofNat 0)), (.int .u8 (.ofNat 0)), (.int .u8 (.ofNat 0))] []), []⟩, ⟨.none, .none, (.stn 32), [(.t 6), (.t 10)]⟩]) .ret) .skip)) (.seq (.reg .false [] [⟨(.some 11), .none, (.ldn 32), [(.t 3)]⟩, ⟨(.some 12), .none, (.ldn 32), [(.t 4)]⟩, ⟨(.some 13), .none, .mov, [(.t 2)]⟩, ⟨(.some 14), .none, (.call 53), [(.t 11), (.t 12), (.t 13)]⟩, ⟨(.some 15), .none, (.call 47), [(.t 14)]⟩, ⟨.none, .none, (.stn 32), [(.t 6), (.t 15)]⟩]) .ret)))⟩
theorem ok55 : FnOK Try.prog 55 vf55 := .of Try.func55 (by kernel_rfl) (by kernel_rfl)
def vf56 : VF := ⟨21, [(.cell 6 32)], (.seq (.reg .false [] [⟨(.some 3), .none, .box, [(.t 0)]⟩, ⟨(.some 4), .none, .box, [(.t 1)]⟩, ⟨(.some 6), .none, (.alloc [(.int .u8 (.ofNat 0)), (.int .u8 (.ofNat 0)), (.int .u8 (.ofNat 0)), (.int .u8 (.ofNat 0)), (.int .u8 (.ofNat 0)), (.int .u8 (.ofNat 0)), (.int .u8 (.ofNat 0)), (.int .u8 (.ofNat 0)), (.int .u8 (.ofNat 0)), (.int .u8 (.ofNat 0)), (.int .u8 (.ofNat 0)), (.int .u8 (.ofNat 0)), (.int .u8 (.ofNat 0)), (.int .u8 (.ofNat 0)), (.int .u8 (.ofNat 0)), (.int .u8 (.ofNat 0)), (.int .u8 (.ofNat 0)), (.int .u8 (.ofNat 0)), (.int .u8 (.ofNat 0)), (.int .u8 (.ofNat 0)), (.int .u8 (.ofNat 0)), (.int .u8 (.ofNat 0)), (.int .u8 (.ofNat 0)), (.int .u8 (.ofNat 0)), (.int .u8 (.ofNat 0)), (.int .u8 (.ofNat 0)), (.int .u8 (.ofNat 0)), (.int .u8 (.ofNat 0)), (.int .u8 (.ofNat 0)), (.int .u8 (.ofNat 0)), (.int .u8 (.ofNat 0)), (.int .u8 (.ofNat 0))]), []⟩]) (.seq (.seq (.reg .false [] [⟨(.some 8), .none, .mov, [(.t 2)]⟩, ⟨(.some 9), .none, (.cmp .lss), [(.t 8), (.c (.int .i64 (.ofNat 0)))]⟩, ⟨(.some 10), .none, .mov, [(.t 9)]⟩, ⟨(.some 11), (.some ⟨10, .false⟩), .mov, [(.t 2)]⟩, ⟨(.some 12), (.some ⟨10, .false⟩), (.cmp .gtr), [(.t 11), (.c (.int .i64 (.ofNat 2147483647)))]⟩, ⟨(.some 13), .none, .pick, [(.t 10), (.c (.bool .true)), (.t 12)]⟩]) (.cond (.t 13) (.seq (.reg .false [] [⟨(.some 14), .none, (.mk [(.int .u8 (.ofNat 0)), (.int .u8 (.ofNat 0)), (.int .u8 (.ofNat 0)), (.int .u8 (.ofNat 0)), (.int .u8 (.ofNat 0)), (.int .u8 (.ofNat 0)), (.int .u8 (.ofNat 0)), (.int .u8 (.ofNat 0)), (.int .u8 (.ofNat 0)), (.int .u8 (.ofNat 0)), (.int .u8 (.ofNat 0)), (.int .u8 (.ofNat 0)), (.int .u8 (.ofNat 0)), (.int .u8 (.ofNat 0)), (.int .u8 (.ofNat 0)), (.int .u8 (.ofNat 0)), (.int .u8 (.ofNat 0)), (.int .u8 (.ofNat 0)), (.int .u8 (.ofNat 0)), (.int .u8 (.ofNat 0)), (.int .u8 (.ofNat 0)), (.int .u8 (.ofNat 0)), (.int .u8 (.ofNat 0)), (.int .u8 (.ofNat 0)), (.int .u8 (.ofNat 0)), (.int .u8 (.ofNat 0)), (.int .u8 (.ofNat 0)), (.int .u8 (.ofNat 0)), (.int .u8 (.ofNat 0)), (.int .u8 (.ofNat 0)), (.int .u8 (.ofNat 0)), (.int .u8 (.ofNat 0))] []), []⟩, ⟨.none, .none, (.stn 32), [(.t 6), (.t 14)]⟩]) .ret) .skip)) (.seq (.reg .false [] [⟨(.some 15), .none, (.ldn 32), [(.t 3)]⟩, ⟨(.some 16), .none, (.ldn 32), [(.t 4)]⟩, ⟨(.some 17), .none, .mov, [(.t 2)]⟩, ⟨(.some 18), .none, (.call 54), [(.t 15), (.t 16), (.t 17)]⟩, ⟨(.some 7), .none, (.alloc [(.int .u8 (.ofNat 0)), (.int .u8 (.ofNat 0)), (.int .u8 (.ofNat 0)), (.int .u8 (.ofNat 0)), (.int .u8 (.ofNat 0)), (.int .u8 (.ofNat 0)), (.int .u8 (.ofNat 0)), (.int .u8 (.ofNat 0)), (.int .u8 (.ofNat 0)), (.int .u8 (.ofNat 0)), (.int .u8 (.ofNat 0)), (.int .u8 (.ofNat 0)), (.int .u8 (.ofNat 0)), (.int .u8 (.ofNat 0)), (.int .u8 (.ofNat 0)), (.int .u8 (.ofNat 0)), (.int .u8 (.ofNat 0)), (.int .u8 (.ofNat 0)), (.int .u8 (.ofNat 0)), (.int .u8 (.ofNat 0)), (.int .u8 (.ofNat 0)), (.int .u8 (.ofNat 0)), (.int .u8 (.ofNat 0)), (.int .u8 (.ofNat 0)), (.int .u8 (.ofNat 0)), (.int .u8 (.ofNat 0)), (.int .u8 (.ofNat 0)), (.int .u8 (.ofNat 0)), (.int .u8 (.ofNat 0)), (.int .u8 (.ofNat 0)), (.int .u8 (.ofNat 0)), (.int .u8 (.ofNat 0))]), []⟩, ⟨.none, .none, (.stn 32), [(.t 7), (.t 18)]⟩]) (.seq (.reg .false [] [⟨(.some 19), .none, (.slA 32 1 .false .false), [(.t 7)]⟩, ⟨(.some 20), .none, (.call 24), [(.t 19)]⟩, ⟨.none, .none, (.stn 32), [(.t 6), (.t 20)]⟩]) .ret))))⟩
theorem ok56 : FnOK Try.prog 56 vf56 := .of Try.func56 (by kernel_rfl) (by kernel_rfl)
def vf57 : VF := ⟨29, [(.cell 2 32)], (.seq (.reg .false [] [⟨(.some 2), .none, (.alloc [(.int .u8 (.ofNat 0)), (.int .u8 (.ofNat 0)), (.int .u8 (.ofNat 0)), (.int .u8 (.ofNat 0)), (.int .u8 (.ofNat 0)), (.int .u8 (.ofNat 0)), (.int .u8 (.ofNat 0)), (.int .u8 (.ofNat 0)), (.int .u8 (.ofNat 0)), (.int .u8 (.ofNat 0)), (.int .u8 (.ofNat 0)), (.int .u8 (.ofNat 0)), (.int .u8 (.ofNat 0)), (.int .u8 (.ofNat 0)), (.int .u8 (.ofNat 0)), (.int .u8 (.ofNat 0)), (.int .u8 (.ofNat 0)), (.int .u8 (.ofNat 0)), (.int .u8 (.ofNat 0)), (.int .u8 (.ofNat 0)), (.int .u8 (.ofNat 0)), (.int .u8 (.ofNat 0)), (.int .u8 (.ofNat 0)), (.int .u8 (.ofNat 0)), (.int .u8 (.ofNat 0)), (.int .u8 (.ofNat 0)), (.int .u8 (.ofNat 0)), (.int .u8 (.ofNat 0)), (.int .u8 (.ofNat 0)), (.int .u8 (.ofNat 0)), (.int .u8 (.ofNat 0)), (.int .u8 (.ofNat 0))]), []⟩]) (.seq (.reg .false [] [⟨(.some 3), .none, (.alloc [(.int .u8 (.ofNat 0)), (.int .u8 (.ofNat 0)), (.int .u8 (.ofNat 0)), (.int .u8 (.ofNat 0)), (.int .u8 (.ofNat 0)), (.int .u8 (.ofNat 0)), (.int .u8 (.ofNat 0)), (.int .u8 (.ofNat 0)), (.int .u8 (.ofNat 0)), (.int .u8 (.ofNat 0)), (.int .u8 (.ofNat 0)), (.int .u8 (.ofNat 0)), (.int .u8 (.ofNat 0)), (.int .u8 (.ofNat 0)), (.int .u8 (.ofNat 0)), (.int .u8 (.ofNat 0)), (.int .u8 (.ofNat 0)), (.int .u8 (.ofNat 0)), (.int .u8 (.ofNat 0)), (.int .u8 (.ofNat 0)), (.int .u8 (.ofNat 0)), (.int .u8 (.ofNat 0)), (.int .u8 (.ofNat 0)), (.int .u8 (.ofNat 0)), (.int .u8 (.ofNat 0)), (.int .u8 (.ofNat 0)), (.int .u8 (.ofNat 0)), (.int .u8 (.ofNat 0)), (.int .u8 (.ofNat 0)), (.int .u8 (.ofNat 0)), (.int .u8 (.ofNat 0)), (.int .u8 (.ofNat 0))]), []⟩]) (.seq (.seq (.reg .false [] [⟨(.some 4), .none, .mov, [(.c (.int .i64 (.ofNat 0)))]⟩]) (.block 0 (.loop (.seq (.seq (.reg .false [] [⟨(.some 6), .none, .mov, [(.t 4)]⟩, ⟨(.some 7), .none, .mov, [(.t 0)]⟩, ⟨(.some 8), .none, .len, [(.t 7)]⟩, ⟨(.some 9), .none, (.cmp .lss), [(.t 6), (.t 8)]⟩]) (.cond (.t 9) .skip (.exit 0))) (.seq (.block 1 (.seq (.reg .false [] [⟨(.some 5), .none, .mov, [(.c (.int .i64 (.ofNat 0)))]⟩]) (.block 2 (.loop (.seq (.seq (.reg .false [] [⟨(.some 12), .none, .mov, [(.t 5)]⟩, ⟨(.some 13), .none, (.cmp .lss), [(.t 12), (.c (.int .i64 (.ofNat 32)))]⟩]) (.cond (.t 13) .skip (.exit 2))) (.seq (.block 3 (.reg .true [0, 0, 2, 6, 0, 0, 0, 48, 240, 496, 1022, 2047, 4095] [⟨(.some 16), .none, .mov, [(.t 5)]⟩, ⟨(.some 17), .none, .mov, [(.t 5)]⟩, ⟨(.some 18), .none, (.ixA 32 1), [(.t 3), (.t 17)]⟩, ⟨(.some 19), .none, (.ld1 (.int .u8)), [(.t 18)]⟩, ⟨(.some 20), .none, .mov, [(.t 0)]⟩, ⟨(.some 21), .none, .mov, [(.t 4)]⟩, ⟨(.some 22), .none, .mov, [(.t 5)]⟩, ⟨(.some 23), .none, (.ixS 32), [(.t 20), (.t 21)]⟩, ⟨(.some 24), .none, (.ixA 32 1), [(.t 23), (.t 22)]⟩, ⟨(.some 25), .none, (.ld1 (.int .u8)), [(.t 24)]⟩, ⟨(.some 26), .none, (.bin .xor .u8), [(.t 19), (.t 25)]⟩, ⟨(.some 27), .none, (.ixA 32 1), [(.t 3), (.t 16)]⟩, ⟨.none, .none, .st1, [(.t 27), (.t 26)]⟩])) (.reg .false [] [⟨(.some 14), .none, .mov, [(.t 5)]⟩, ⟨(.some 15), .none, (.bin .add .i64), [(.t 14), (.c (.int .i64 (.ofNat 1)))]⟩, ⟨(.some 5), .none, .mov, [(.t 15)]⟩]))))))) (.reg .false [] [⟨(.some 10), .none, .mov, [(.t 4)]⟩, ⟨(.some 11), .none, (.bin .add .i64), [(.t 10), (.c (.int .i64 (.ofNat 1)))]⟩, ⟨(.some 4), .none, .mov, [(.t 11)]⟩])))))) (.seq (.reg .false [] [⟨(.some 28), .none, (.ldn 32), [(.t 3)]⟩, ⟨.none, .none, (.stn 32), [(.t 2), (.t 28)]⟩]) .ret))))⟩
theorem ok57 : FnOK Try.prog 57 vf57 := .of Try.func57 (by kernel_rfl) (by kernel_rfl)
def vf81 : VF := ⟨9, [(.tmp 2)], (.seq (.reg .false [] [⟨(.some 2), .none, .mov, [(.c (.bool .false))]⟩]) (.seq (.reg .false [] [⟨(.some 3), .none, .mov, [(.t 0)]⟩, ⟨(.some 4), .none, (.cmp .geq), [(.t 3), (.c (.int .i64 (.ofNat 0)))]⟩, ⟨(.some 5), .none, .mov, [(.t 4)]⟩, ⟨(.some 6), (.some ⟨5, .true⟩), .mov, [(.t 0)]⟩, ⟨(.some 7), (.some ⟨5, .true⟩), (.cmp .leq), [(.t 6), (.c (.int .i64 (.ofNat 2147483647)))]⟩, ⟨(.some 8), .none, .pick, [(.t 5), (.t 7), (.c (.bool .false))]⟩, ⟨(.some 2), .none, .mov, [(.t 8)]⟩]) .ret))⟩
theorem ok81 : FnOK Try.prog 81 vf81 := .of Try.func81 (by kernel_rfl) (by kernel_rfl)

end
end Go.Proofs.Vm
