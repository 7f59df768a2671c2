/-
  MAC, PART 3: what is derived of a number; masks; equal bytes; the hash of a secret.
-/
import Derived.Test.YtfmhlogapbpnbaaYan
import Derived.Test.YtfmhlogapbpnbaaYam
import Derived.Test.YtfmhlogapbpnbaaRows
import Derived.ProofKit
import Derived.OpenShut
import Derived.JoinedCond
import Derived.Test.YtfmhlogapbpnbaaYag

namespace Go.Proofs.Vm
open Go.Vm
noncomputable section
structure GF where
  tag : List AV → List UInt8 → List (List UInt8) → List AV
def gf0 : GF := ⟨fun ks l pl => (tagL (bytesA ks) l pl).map by8⟩
def cnT (S : GF) : CnF := fun f vals H => match f, vals with
  | 41, [.agg ks, .str l, x] => match vw2 H x with
    | .ros ps o n _ _ => some (PKey ks ∧ PTag ps o n, .ok (.agg (S.tag ks l (partsL ps o n))) H [])
    | _ => none
  | 40, [.agg ks, .str l, x] => match vw2 H x with
    | .ros ps o n _ _ => some (PKey ks ∧ PTag ps o n, .ok (.agg (S.tag ks l (partsL ps o n))) H [])
    | _ => none
  | _, _ => none
structure NG extends NF where
  toGF : GF
def ng0 : NG := { nf0 with toGF := gf0 }
def cnN2 (S : NG) : CnF := cnOr (cnT S.toGF) (cnN1 S.toNF)
/-- What the loops come to (kept apart). -/
structure WF where
  msk : List AV → List AV → Nat → Nat → List AV
  acc : Nat → List AV → Nat → List AV → Nat → Nat → Nat
def xorL (a b : List UInt8) : List UInt8 := List.zipWith (fun x y => x ^^^ y) a b
def accN (z : Nat) (a b : List UInt8) : Nat → Nat
  | 0 => z
  | i + 1 => accN z a b i ||| ((a.getD i 0).toNat ^^^ (b.getD i 0).toNat)
def wf0 : WF := ⟨fun ms pc off len => (xorL (bytesA ms) (rdB pc off len)).map by8, fun z pa oa pb ob m => accN z (rdB pa oa m) (rdB pb ob m) m⟩
def P37 (ms pc : List AV) (off len m : Nat) : Prop := flatL pc ∧ m = len ∧ len < 1099511627776 ∧ (∃ lb, BytesAt pc off len lb) ∧ ∃ mb : List UInt8, mb.length = len ∧ ms = mb.map by8
def lp37 : VC := (.seq (.reg .false [] [⟨(.some 28), .none, (.cmp .lss), [(.t 27), (.t 26)]⟩]) (.seq (.cond (.t 28) .skip (.exit 0)) (.seq (.block 1 (.seq (.reg .false [] [⟨(.some 29), .none, .mov, [(.t 27)]⟩, ⟨(.some 30), .none, (.ixS 1), [(.t 25), (.t 27)]⟩, ⟨(.some 31), .none, (.ld1 (.int .u8)), [(.t 30)]⟩, ⟨(.some 8), .none, .mov, [(.t 29)]⟩, ⟨(.some 9), .none, .mov, [(.t 31)]⟩]) (.reg .false [] [⟨(.some 32), .none, .mov, [(.t 7)]⟩, ⟨(.some 33), .none, .mov, [(.t 8)]⟩, ⟨(.some 34), .none, (.ixS 1), [(.t 32), (.t 33)]⟩, ⟨(.some 35), .none, (.ld1 (.int .u8)), [(.t 34)]⟩, ⟨(.some 36), .none, .mov, [(.t 9)]⟩, ⟨(.some 37), .none, (.bin .xor .u8), [(.t 35), (.t 36)]⟩, ⟨(.some 38), .none, (.ixS 1), [(.t 32), (.t 33)]⟩, ⟨.none, .none, .st1, [(.t 38), (.t 37)]⟩]))) (.reg .false [] [⟨(.some 39), .none, (.bin .add .i64), [(.t 27), (.c (.int .i64 (.ofNat 1)))]⟩, ⟨(.some 27), .none, .mov, [(.t 39)]⟩]))))
def fr37 (x7 : AV) (pc : List AV) (off len cap : Nat) (ex : Bool) (i : Nat) : Fr := [.top, .top, .top, .top, .top, .top, .top, x7, .top, .top, .top, .top, .top, .top, .top, .top, .top, .top, .top, .top, .top, .top, .top, .top, .top, .ros pc off len cap ex, .int .i64 (Int.ofNat len), .int .i64 (Int.ofNat i), .top, .top, .top, .top, .top, .top, .top, .top, .top, .top, .top, .top, .top]
def mk37 : List Bool := [true, true, true, true, true, true, true, false, true, true, true, true, true, true, true, true, true, true, true, true, true, true, true, true, true, false, false, false, true, true, true, true, true, true, true, true, true, true, true, true, true]
def ln37 (F : WF) : LnF := fun n0 b fr H => match slot fr 7, slot fr 25, H with
  | .slc 2 0 m c 1, .ros pc off len cap ex, [.cells ks, .cells hd, .cells ms] => some (n0 = 0 ∧ VCis b lp37 ∧ forget mk37 fr = fr37 (.slc 2 0 m c 1) pc off len cap ex 0 ∧ P37 ms pc off len m,
      .ok (.exit 0) (fr37 (.slc 2 0 m c 1) pc off len cap ex len) [.cells ks, .cells hd, .cells (F.msk ms pc off len)])
  | .nils, .ros pc off len cap ex, [.cells ks, .cells hd] => some (n0 = 0 ∧ VCis b lp37 ∧ forget mk37 fr = fr37 .nils pc off len cap ex 0 ∧ len = 0,
      .ok (.exit 0) (fr37 .nils pc off len cap ex 0) [.cells ks, .cells hd])
  | _, _, _ => none
def P39 (ks hd ms pc : List AV) (off len m : Nat) : Prop := flatL ks ∧ flatL hd ∧ flatL pc ∧ m = len ∧ len ≤ 65536 ∧ (∃ lb, BytesAt pc off len lb) ∧ ∃ mb : List UInt8, mb.length = len ∧ ms = mb.map by8
def lp39 : VC := (.seq (.seq (.reg .false [] [⟨(.some 24), .none, .mov, [(.t 9)]⟩, ⟨(.some 25), .none, .mov, [(.t 2)]⟩, ⟨(.some 26), .none, .len, [(.t 25)]⟩, ⟨(.some 27), .none, (.cmp .lss), [(.t 24), (.t 26)]⟩]) (.cond (.t 27) .skip (.exit 0))) (.seq (.block 1 (.reg .true [0, 0, 0, 6, 14, 0, 0, 96, 224, 510, 1022, 2047, 4095] [⟨(.some 30), .none, .mov, [(.t 8)]⟩, ⟨(.some 31), .none, .mov, [(.t 2)]⟩, ⟨(.some 32), .none, .mov, [(.t 9)]⟩, ⟨(.some 33), .none, (.ixS 1), [(.t 31), (.t 32)]⟩, ⟨(.some 34), .none, (.ld1 (.int .u8)), [(.t 33)]⟩, ⟨(.some 35), .none, .mov, [(.t 7)]⟩, ⟨(.some 36), .none, .mov, [(.t 9)]⟩, ⟨(.some 37), .none, (.ixS 1), [(.t 35), (.t 36)]⟩, ⟨(.some 38), .none, (.ld1 (.int .u8)), [(.t 37)]⟩, ⟨(.some 39), .none, (.bin .xor .u8), [(.t 34), (.t 38)]⟩, ⟨(.some 40), .none, (.mks [(.int .u8 (.ofNat 0))] 1 [⟨0, 1⟩]), [(.t 39)]⟩, ⟨(.some 41), .none, (.app 1 1), [(.t 30), (.t 40)]⟩, ⟨(.some 8), .none, .mov, [(.t 41)]⟩])) (.reg .false [] [⟨(.some 28), .none, .mov, [(.t 9)]⟩, ⟨(.some 29), .none, (.bin .add .i64), [(.t 28), (.c (.int .i64 (.ofNat 1)))]⟩, ⟨(.some 9), .none, .mov, [(.t 29)]⟩])))
def fr39 (x7 : AV) (x8 : AV) (pc : List AV) (off len cap : Nat) (ex : Bool) (i : Nat) : Fr := [.top, .top, .ros pc off len cap ex, .top, .top, .top, .top, x7, x8, .int .i64 (Int.ofNat i), .top, .top, .top, .top, .top, .top, .top, .top, .top, .top, .top, .top, .top, .top, .top, .top, .top, .top, .top, .top, .top, .top, .top, .top, .top, .top, .top, .top, .top, .top, .top, .top, .top]
def mk39 : List Bool := [true, true, false, true, true, true, true, false, false, false, true, true, true, true, true, true, true, true, true, true, true, true, true, true, true, true, true, true, true, true, true, true, true, true, true, true, true, true, true, true, true, true, true]
def ln39 (F : WF) : LnF := fun n0 b fr H => match slot fr 7, slot fr 2, H with
  | .slc 2 0 m c 1, .ros pc off len cap ex, [.cells ks, .cells hd, .cells ms] => some (n0 = 0 ∧ VCis b lp39 ∧ forget mk39 fr = fr39 (.slc 2 0 m c 1) .nils pc off len cap ex 0 ∧ P39 ks hd ms pc off len m,
      .ok (.exit 0) (fr39 (.slc 2 0 m c 1) (.slc 3 0 len len 1) pc off len cap ex len) [.cells ks, .cells hd, .cells ms, .cells (F.msk ms pc off len)])
  | .nils, .ros pc off len cap ex, [.cells ks, .cells hd] => some (n0 = 0 ∧ VCis b lp39 ∧ forget mk39 fr = fr39 .nils .nils pc off len cap ex 0 ∧ len = 0,
      .ok (.exit 0) (fr39 .nils .nils pc off len cap ex 0) [.cells ks, .cells hd])
  | _, _, _ => none
def P46 (pa : List AV) (oa la : Nat) (pb : List AV) (ob lb m z : Nat) : Prop := m ≤ la ∧ m ≤ lb ∧ la < 137438953472 ∧ z < 9223372036854775808 ∧ (∃ al, BytesAt pa oa la al) ∧ ∃ bl, BytesAt pb ob lb bl
def lp46 : VC := (.seq (.reg .false [] [⟨(.some 18), .none, (.cmp .lss), [(.t 17), (.t 16)]⟩]) (.seq (.cond (.t 18) .skip (.exit 0)) (.seq (.block 1 (.seq (.reg .false [] [⟨(.some 19), .none, .mov, [(.t 17)]⟩, ⟨(.some 6), .none, .mov, [(.t 19)]⟩]) (.reg .true [0, 0, 0, 6, 14, 30, 0, 0, 192, 448, 960, 2046, 4095, 8191] [⟨(.some 20), .none, .mov, [(.t 5)]⟩, ⟨(.some 21), .none, .mov, [(.t 0)]⟩, ⟨(.some 22), .none, .mov, [(.t 6)]⟩, ⟨(.some 23), .none, (.ixS 1), [(.t 21), (.t 22)]⟩, ⟨(.some 24), .none, (.ld1 (.int .u8)), [(.t 23)]⟩, ⟨(.some 25), .none, (.cvt .i64), [(.t 24)]⟩, ⟨(.some 26), .none, .mov, [(.t 1)]⟩, ⟨(.some 27), .none, .mov, [(.t 6)]⟩, ⟨(.some 28), .none, (.ixS 1), [(.t 26), (.t 27)]⟩, ⟨(.some 29), .none, (.ld1 (.int .u8)), [(.t 28)]⟩, ⟨(.some 30), .none, (.cvt .i64), [(.t 29)]⟩, ⟨(.some 31), .none, (.bin .xor .i64), [(.t 25), (.t 30)]⟩, ⟨(.some 32), .none, (.bin .or .i64), [(.t 20), (.t 31)]⟩, ⟨(.some 5), .none, .mov, [(.t 32)]⟩]))) (.reg .false [] [⟨(.some 33), .none, (.bin .add .i64), [(.t 17), (.c (.int .i64 (.ofNat 1)))]⟩, ⟨(.some 17), .none, .mov, [(.t 33)]⟩]))))
def fr46 (pa : List AV) (oa la ca : Nat) (ea : Bool) (pb : List AV) (ob lb cb : Nat) (eb : Bool) (z m i : Nat) : Fr := [.ros pa oa la ca ea, .ros pb ob lb cb eb, .top, .top, .top, .int .i64 (Int.ofNat z), .top, .top, .top, .top, .top, .top, .top, .top, .top, .top, .int .i64 (Int.ofNat m), .int .i64 (Int.ofNat i), .top, .top, .top, .top, .top, .top, .top, .top, .top, .top, .top, .top, .top, .top, .top, .top, .top, .top]
def mk46 : List Bool := [false, false, true, true, true, false, true, true, true, true, true, true, true, true, true, true, false, false, true, true, true, true, true, true, true, true, true, true, true, true, true, true, true, true, true, true]
def ln46 (F : WF) : LnF := fun n0 b fr H => match slot fr 0, slot fr 1, slot fr 5, slot fr 16, H with
  | .ros pa oa la ca ea, .ros pb ob lb cb eb, .int .i64 z, .int .i64 m, [] => some (n0 = 0 ∧ VCis b lp46 ∧ forget mk46 fr = fr46 pa oa la ca ea pb ob lb cb eb (ops0.nat z) (ops0.nat m) 0 ∧ P46 pa oa la pb ob lb (ops0.nat m) (ops0.nat z),
      .ok (.exit 0) (fr46 pa oa la ca ea pb ob lb cb eb (F.acc (ops0.nat z) pa oa pb ob (ops0.nat m)) (ops0.nat m) (ops0.nat m)) [])
  | _, _, _, _, _ => none

theorem vc42 (S : NG) (ks : List AV) (l : List UInt8) (n : Int) (Q : AV → Hl → Prop) :
  (vcall (vcA kdYes (cnN2 S) noLn) ops0 (tabOne 42 vf42) 200 vf42 [.agg ks, .str l, .int .u64 n] [] (endN (fun _ => 0) Q)) =
 ((Chk (ops0.le 32 (ops0.len ks))
 (((Int.ofNat 0) ≤ n) ∧
 (((PKey (ops0.ext ks 0 32)) ∧
 (PTag [(AV.ros (MF.bytes (NF.toMF (NG.toNF S)) n) 0 8 8 Bool.false)] 0 1)) ∧
 (Chk (ops0.eq (ops0.len (GF.tag (NG.toGF S) (ops0.ext ks 0 32) l [(partA (AV.ros (MF.bytes (NF.toMF (NG.toNF S)) n) 0 8 8 Bool.false))])) 32)
 (Chk (ops0.le 32 (ops0.len (ops0.spl (z8 32) 0 (GF.tag (NG.toGF S) (ops0.ext ks 0 32) l [(partA (AV.ros (MF.bytes (NF.toMF (NG.toNF S)) n) 0 8 8 Bool.false))]))))
 (Q (AV.agg (ops0.ext (ops0.spl (z8 32) 0 (GF.tag (NG.toGF S) (ops0.ext ks 0 32) l [(partA (AV.ros (MF.bytes (NF.toMF (NG.toNF S)) n) 0 8 8 Bool.false))])) 0 32)) []))))))) := by kernel_rfl

theorem vc43 (S : NG) (ks : List AV) (l : List UInt8) (n : Int) (Q : AV → Hl → Prop) :
  (vcall (vcA kdYes (cnN2 S) noLn) ops0 (tabOne 43 vf43) 200 vf43 [.agg ks, .str l, .int .u64 n] [] (endN (fun _ => 0) Q)) =
 ((Chk (ops0.le 32 (ops0.len ks))
 (((Int.ofNat 0) ≤ n) ∧
 (((PKey (ops0.ext ks 0 32)) ∧
 (PTag [(AV.ros (MF.bytes (NF.toMF (NG.toNF S)) n) 0 8 8 Bool.false)] 0 1)) ∧
 (Chk (ops0.eq (ops0.len (GF.tag (NG.toGF S) (ops0.ext ks 0 32) l [(partA (AV.ros (MF.bytes (NF.toMF (NG.toNF S)) n) 0 8 8 Bool.false))])) 32)
 (Chk (ops0.le 32 (ops0.len (ops0.spl (z8 32) 0 (GF.tag (NG.toGF S) (ops0.ext ks 0 32) l [(partA (AV.ros (MF.bytes (NF.toMF (NG.toNF S)) n) 0 8 8 Bool.false))]))))
 (Q (AV.agg (ops0.ext (ops0.spl (z8 32) 0 (GF.tag (NG.toGF S) (ops0.ext ks 0 32) l [(partA (AV.ros (MF.bytes (NF.toMF (NG.toNF S)) n) 0 8 8 Bool.false))])) 0 32)) []))))))) := by kernel_rfl

theorem vc47 (S : NG) (ks : List AV) (Q : AV → Hl → Prop) :
  (vcall (vcA kdYes (cnN2 S) noLn) ops0 (tabOne 47 vf47) 200 vf47 [.agg ks] [] (endN (fun _ => 0) Q)) =
 ((Chk (ops0.le 32 (ops0.len ks))
 ((PPs [(AV.ros ks 0 32 32 Bool.false)] 0 1) ∧
 (Chk (ops0.eq (ops0.len (KF.sum (AF.toKF (NF.toAF (NG.toNF S))) (rdP [(AV.ros ks 0 32 32 Bool.false)] 0 1))) 32)
 (Chk (ops0.le 32 (ops0.len (ops0.spl (z8 32) 0 (KF.sum (AF.toKF (NF.toAF (NG.toNF S))) (rdP [(AV.ros ks 0 32 32 Bool.false)] 0 1)))))
 (Q (AV.agg (ops0.ext (ops0.spl (z8 32) 0 (KF.sum (AF.toKF (NF.toAF (NG.toNF S))) (rdP [(AV.ros ks 0 32 32 Bool.false)] 0 1))) 0 32)) [])))))) := by kernel_rfl

theorem vcl37 (ks hd ms pc : List AV) (m c off len cap : Nat) (ex : Bool) (i : Nat) (Q : Ex → Fr → Hl → Prop) :
  (vm (vcA kdYes noCn noLn) ops0 noTab 100 0 lp37 (fr37 (.slc 2 0 m c 1) pc off len cap ex i) [.cells ks, .cells hd, .cells ms] [] (bodyX mk37 Q)) =
 ((Br (ops0.cmp BinOp.lss (Int.ofNat i) (Int.ofNat len))
 (Chk (ops0.inr (Int.ofNat i) len)
 (∃ n : Int, ((Nth pc (ops0.adr off (Int.ofNat i) 1) (AV.int IntKind.u8 n)) ∧
 (Chk (ops0.inr (Int.ofNat i) m)
 (∃ n1 : Int, ((Nth ms (ops0.adr 0 (Int.ofNat i) 1) (AV.int IntKind.u8 n1)) ∧
 (Chk (ops0.inr (Int.ofNat i) m)
 (Chk (ops0.lt (ops0.adr 0 (Int.ofNat i) 1) (ops0.len ms))
 (Q Ex.norm [AV.top, AV.top, AV.top, AV.top, AV.top, AV.top, AV.top, (AV.slc 2 0 m c 1), AV.top, AV.top, AV.top, AV.top, AV.top, AV.top, AV.top, AV.top, AV.top, AV.top, AV.top, AV.top, AV.top, AV.top, AV.top, AV.top, AV.top, (AV.ros pc off len cap ex), (AV.int IntKind.i64 (Int.ofNat len)), (AV.int IntKind.i64 (ops0.bin BinOp.add IntKind.i64 (Int.ofNat i) (Int.ofNat 1))), AV.top, AV.top, AV.top, AV.top, AV.top, AV.top, AV.top, AV.top, AV.top, AV.top, AV.top, AV.top, AV.top] [(Blk.cells ks), (Blk.cells hd), (Blk.cells (ops0.set ms (ops0.adr 0 (Int.ofNat i) 1) (AV.int IntKind.u8 (ops0.bin BinOp.xor IntKind.u8 n1 n))))])))))))))
 (Q (Ex.exit 0) [AV.top, AV.top, AV.top, AV.top, AV.top, AV.top, AV.top, (AV.slc 2 0 m c 1), AV.top, AV.top, AV.top, AV.top, AV.top, AV.top, AV.top, AV.top, AV.top, AV.top, AV.top, AV.top, AV.top, AV.top, AV.top, AV.top, AV.top, (AV.ros pc off len cap ex), (AV.int IntKind.i64 (Int.ofNat len)), (AV.int IntKind.i64 (Int.ofNat i)), AV.top, AV.top, AV.top, AV.top, AV.top, AV.top, AV.top, AV.top, AV.top, AV.top, AV.top, AV.top, AV.top] [(Blk.cells ks), (Blk.cells hd), (Blk.cells ms)]))) := by kernel_rfl

theorem vcl37n (ks hd pc : List AV) (off cap : Nat) (ex : Bool) (Q : Ex → Fr → Hl → Prop) :
  (vm (vcA kdYes noCn noLn) ops0 noTab 100 0 lp37 (fr37 .nils pc off 0 cap ex 0) [.cells ks, .cells hd] [] (bodyX mk37 Q)) =
 ((Q (Ex.exit 0) [AV.top, AV.top, AV.top, AV.top, AV.top, AV.top, AV.top, AV.nils, AV.top, AV.top, AV.top, AV.top, AV.top, AV.top, AV.top, AV.top, AV.top, AV.top, AV.top, AV.top, AV.top, AV.top, AV.top, AV.top, AV.top, (AV.ros pc off 0 cap ex), (AV.int IntKind.i64 (Int.ofNat 0)), (AV.int IntKind.i64 (Int.ofNat 0)), AV.top, AV.top, AV.top, AV.top, AV.top, AV.top, AV.top, AV.top, AV.top, AV.top, AV.top, AV.top, AV.top] [(Blk.cells ks), (Blk.cells hd)])) := by kernel_rfl

theorem vcl39 (ks hd ms xs pc : List AV) (m c L off len cap : Nat) (ex : Bool) (i : Nat) (Q : Ex → Fr → Hl → Prop) :
  (vm (vcA kdYes noCn noLn) ops0 noTab 100 0 lp39 (fr39 (.slc 2 0 m c 1) (.slc 3 0 L L 1) pc off len cap ex i) [.cells ks, .cells hd, .cells ms, .cells xs] [] (bodyX mk39 Q)) =
 ((Br (ops0.cmp BinOp.lss (Int.ofNat i) (ops0.ofn len))
 (Chk (ops0.inr (Int.ofNat i) len)
 (∃ n : Int, ((Nth pc (ops0.adr off (Int.ofNat i) 1) (AV.int IntKind.u8 n)) ∧
 (Chk (ops0.inr (Int.ofNat i) m)
 (∃ n1 : Int, ((Nth ms (ops0.adr 0 (Int.ofNat i) 1) (AV.int IntKind.u8 n1)) ∧
 (Chk (ops0.le (ops0.add 0 (ops0.mul L 1)) (ops0.len xs))
 (Chk (ops0.room L 1 1)
 (Q Ex.norm [AV.top, AV.top, (AV.ros pc off len cap ex), AV.top, AV.top, AV.top, AV.top, (AV.slc 2 0 m c 1), (AV.slc 4 0 (ops0.add L 1) (ops0.add L 1) 1), (AV.int IntKind.i64 (ops0.bin BinOp.add IntKind.i64 (Int.ofNat i) (Int.ofNat 1))), AV.top, AV.top, AV.top, AV.top, AV.top, AV.top, AV.top, AV.top, AV.top, AV.top, AV.top, AV.top, AV.top, AV.top, AV.top, AV.top, AV.top, AV.top, AV.top, AV.top, AV.top, AV.top, AV.top, AV.top, AV.top, AV.top, AV.top, AV.top, AV.top, AV.top, AV.top, AV.top, AV.top] [(Blk.cells ks), (Blk.cells hd), (Blk.cells ms), Blk.dead, (Blk.cells (ops0.app (ops0.ext xs 0 (ops0.mul L 1)) [(AV.int IntKind.u8 (ops0.bin BinOp.xor IntKind.u8 n n1))]))])))))))))
 (Q (Ex.exit 0) [AV.top, AV.top, (AV.ros pc off len cap ex), AV.top, AV.top, AV.top, AV.top, (AV.slc 2 0 m c 1), (AV.slc 3 0 L L 1), (AV.int IntKind.i64 (Int.ofNat i)), AV.top, AV.top, AV.top, AV.top, AV.top, AV.top, AV.top, AV.top, AV.top, AV.top, AV.top, AV.top, AV.top, AV.top, AV.top, AV.top, AV.top, AV.top, AV.top, AV.top, AV.top, AV.top, AV.top, AV.top, AV.top, AV.top, AV.top, AV.top, AV.top, AV.top, AV.top, AV.top, AV.top] [(Blk.cells ks), (Blk.cells hd), (Blk.cells ms), (Blk.cells xs)]))) := by kernel_rfl

theorem vcl39n (ks hd pc : List AV) (off cap : Nat) (ex : Bool) (Q : Ex → Fr → Hl → Prop) :
  (vm (vcA kdYes noCn noLn) ops0 noTab 100 0 lp39 (fr39 .nils .nils pc off 0 cap ex 0) [.cells ks, .cells hd] [] (bodyX mk39 Q)) =
 ((Q (Ex.exit 0) [AV.top, AV.top, (AV.ros pc off 0 cap ex), AV.top, AV.top, AV.top, AV.top, AV.nils, AV.nils, (AV.int IntKind.i64 (Int.ofNat 0)), AV.top, AV.top, AV.top, AV.top, AV.top, AV.top, AV.top, AV.top, AV.top, AV.top, AV.top, AV.top, AV.top, AV.top, AV.top, AV.top, AV.top, AV.top, AV.top, AV.top, AV.top, AV.top, AV.top, AV.top, AV.top, AV.top, AV.top, AV.top, AV.top, AV.top, AV.top, AV.top, AV.top] [(Blk.cells ks), (Blk.cells hd)])) := by kernel_rfl

theorem vcl46 (pa : List AV) (oa la ca : Nat) (ea : Bool) (pb : List AV) (ob lb cb : Nat) (eb : Bool) (z m i : Nat) (Q : Ex → Fr → Hl → Prop) :
  (vm (vcA kdYes noCn noLn) ops0 noTab 100 0 lp46 (fr46 pa oa la ca ea pb ob lb cb eb z m i) [] [] (bodyX mk46 Q)) =
 ((Br (ops0.cmp BinOp.lss (Int.ofNat i) (Int.ofNat m))
 (Chk (ops0.inr (Int.ofNat i) la)
 (∃ n : Int, ((Nth pa (ops0.adr oa (Int.ofNat i) 1) (AV.int IntKind.u8 n)) ∧
 (Chk (ops0.inr (Int.ofNat i) lb)
 (∃ n1 : Int, ((Nth pb (ops0.adr ob (Int.ofNat i) 1) (AV.int IntKind.u8 n1)) ∧
 (Q Ex.norm [(AV.ros pa oa la ca ea), (AV.ros pb ob lb cb eb), AV.top, AV.top, AV.top, (AV.int IntKind.i64 (ops0.bin BinOp.or IntKind.i64 (Int.ofNat z) (ops0.bin BinOp.xor IntKind.i64 (ops0.cvt IntKind.i64 n) (ops0.cvt IntKind.i64 n1)))), AV.top, AV.top, AV.top, AV.top, AV.top, AV.top, AV.top, AV.top, AV.top, AV.top, (AV.int IntKind.i64 (Int.ofNat m)), (AV.int IntKind.i64 (ops0.bin BinOp.add IntKind.i64 (Int.ofNat i) (Int.ofNat 1))), AV.top, AV.top, AV.top, AV.top, AV.top, AV.top, AV.top, AV.top, AV.top, AV.top, AV.top, AV.top, AV.top, AV.top, AV.top, AV.top, AV.top, AV.top] [])))))))
 (Q (Ex.exit 0) [(AV.ros pa oa la ca ea), (AV.ros pb ob lb cb eb), AV.top, AV.top, AV.top, (AV.int IntKind.i64 (Int.ofNat z)), AV.top, AV.top, AV.top, AV.top, AV.top, AV.top, AV.top, AV.top, AV.top, AV.top, (AV.int IntKind.i64 (Int.ofNat m)), (AV.int IntKind.i64 (Int.ofNat i)), AV.top, AV.top, AV.top, AV.top, AV.top, AV.top, AV.top, AV.top, AV.top, AV.top, AV.top, AV.top, AV.top, AV.top, AV.top, AV.top, AV.top, AV.top] []))) := by kernel_rfl

theorem vc37 (S : NG) (F : WF) (ks pc : List AV) (l : List UInt8) (off len cap : Nat) (ex : Bool) (Q : Nat → Nat → Nat → Nat → List AV → Prop) :
  (vcall (vcA kdYes (cnN2 S) (ln37 F)) ops0 (tabOne 37 vf37) 200 vf37 [.agg ks, .str l, .ros pc off len cap ex] [] (endB Q)) =
 ((Br (ops0.cmp BinOp.gtr (ops0.ofn (ops0.slen l)) (Int.ofNat 64))
 False
 (Br (ops0.cmp BinOp.gtr (ops0.ofn len) (Int.ofNat 65536))
 False
 (Chk (ops0.le 32 (ops0.len ks))
 (((PKey (ops0.ext ks 0 32)) ∧
 ((List.length l) ≤ 64)) ∧
 ((PPs [(AV.ros (MF.head (NF.toMF (NG.toNF S)) (ops0.ext ks 0 32) l) 0 (ops0.add (ops0.slen l) 33) (ops0.add (ops0.slen l) 33) Bool.false)] 0 1) ∧
 (Br (inK (ops0.ofn len))
 ((((0 : Nat) = 0) ∧
 ((VCis lp37 lp37) ∧
 ((([AV.top, AV.top, AV.top, AV.top, AV.top, AV.top, AV.top, (AV.slc 2 0 len len 1), AV.top, AV.top, AV.top, AV.top, AV.top, AV.top, AV.top, AV.top, AV.top, AV.top, AV.top, AV.top, AV.top, AV.top, AV.top, AV.top, AV.top, (AV.ros pc off len cap ex), (AV.int IntKind.i64 (ops0.ofn len)), (AV.int IntKind.i64 (Int.ofNat 0)), AV.top, AV.top, AV.top, AV.top, AV.top, AV.top, AV.top, AV.top, AV.top, AV.top, AV.top, AV.top, AV.top] : Fr) = [AV.top, AV.top, AV.top, AV.top, AV.top, AV.top, AV.top, (AV.slc 2 0 len len 1), AV.top, AV.top, AV.top, AV.top, AV.top, AV.top, AV.top, AV.top, AV.top, AV.top, AV.top, AV.top, AV.top, AV.top, AV.top, AV.top, AV.top, (AV.ros pc off len cap ex), (AV.int IntKind.i64 (Int.ofNat len)), (AV.int IntKind.i64 (Int.ofNat 0)), AV.top, AV.top, AV.top, AV.top, AV.top, AV.top, AV.top, AV.top, AV.top, AV.top, AV.top, AV.top, AV.top]) ∧
 (P37 (KF.str (AF.toKF (NF.toAF (NG.toNF S))) (rdP [(AV.ros (MF.head (NF.toMF (NG.toNF S)) (ops0.ext ks 0 32) l) 0 (ops0.add (ops0.slen l) 33) (ops0.add (ops0.slen l) 33) Bool.false)] 0 1) len) pc off len len)))) ∧
 ((flatL (WF.msk F (KF.str (AF.toKF (NF.toAF (NG.toNF S))) (rdP [(AV.ros (MF.head (NF.toMF (NG.toNF S)) (ops0.ext ks 0 32) l) 0 (ops0.add (ops0.slen l) 33) (ops0.add (ops0.slen l) 33) Bool.false)] 0 1) len) pc off len)) ∧
 (Q 0 len len 1 (WF.msk F (KF.str (AF.toKF (NF.toAF (NG.toNF S))) (rdP [(AV.ros (MF.head (NF.toMF (NG.toNF S)) (ops0.ext ks 0 32) l) 0 (ops0.add (ops0.slen l) 33) (ops0.add (ops0.slen l) 33) Bool.false)] 0 1) len) pc off len))))
 ((((0 : Nat) = 0) ∧
 ((VCis lp37 lp37) ∧
 ((([AV.top, AV.top, AV.top, AV.top, AV.top, AV.top, AV.top, AV.nils, AV.top, AV.top, AV.top, AV.top, AV.top, AV.top, AV.top, AV.top, AV.top, AV.top, AV.top, AV.top, AV.top, AV.top, AV.top, AV.top, AV.top, (AV.ros pc off len cap ex), (AV.int IntKind.i64 (ops0.ofn len)), (AV.int IntKind.i64 (Int.ofNat 0)), AV.top, AV.top, AV.top, AV.top, AV.top, AV.top, AV.top, AV.top, AV.top, AV.top, AV.top, AV.top, AV.top] : Fr) = [AV.top, AV.top, AV.top, AV.top, AV.top, AV.top, AV.top, AV.nils, AV.top, AV.top, AV.top, AV.top, AV.top, AV.top, AV.top, AV.top, AV.top, AV.top, AV.top, AV.top, AV.top, AV.top, AV.top, AV.top, AV.top, (AV.ros pc off len cap ex), (AV.int IntKind.i64 (Int.ofNat len)), (AV.int IntKind.i64 (Int.ofNat 0)), AV.top, AV.top, AV.top, AV.top, AV.top, AV.top, AV.top, AV.top, AV.top, AV.top, AV.top, AV.top, AV.top]) ∧
 ((len : Nat) = 0)))) ∧
 False)))))))) := by kernel_rfl

theorem vc37n (S : NG) (F : WF) (ks pc : List AV) (l : List UInt8) (off len cap : Nat) (ex : Bool) (Q : AV → Hl → Prop) :
  (vcall (vcA kdYes (cnN2 S) (ln37 F)) ops0 (tabOne 37 vf37) 200 vf37 [.agg ks, .str l, .ros pc off len cap ex] [] (endN (fun _ => 0) Q)) =
 ((Br (ops0.cmp BinOp.gtr (ops0.ofn (ops0.slen l)) (Int.ofNat 64))
 (Q AV.nils [])
 (Br (ops0.cmp BinOp.gtr (ops0.ofn len) (Int.ofNat 65536))
 (Q AV.nils [])
 (Chk (ops0.le 32 (ops0.len ks))
 (((PKey (ops0.ext ks 0 32)) ∧
 ((List.length l) ≤ 64)) ∧
 ((PPs [(AV.ros (MF.head (NF.toMF (NG.toNF S)) (ops0.ext ks 0 32) l) 0 (ops0.add (ops0.slen l) 33) (ops0.add (ops0.slen l) 33) Bool.false)] 0 1) ∧
 (Br (inK (ops0.ofn len))
 ((((0 : Nat) = 0) ∧
 ((VCis lp37 lp37) ∧
 ((([AV.top, AV.top, AV.top, AV.top, AV.top, AV.top, AV.top, (AV.slc 2 0 len len 1), AV.top, AV.top, AV.top, AV.top, AV.top, AV.top, AV.top, AV.top, AV.top, AV.top, AV.top, AV.top, AV.top, AV.top, AV.top, AV.top, AV.top, (AV.ros pc off len cap ex), (AV.int IntKind.i64 (ops0.ofn len)), (AV.int IntKind.i64 (Int.ofNat 0)), AV.top, AV.top, AV.top, AV.top, AV.top, AV.top, AV.top, AV.top, AV.top, AV.top, AV.top, AV.top, AV.top] : Fr) = [AV.top, AV.top, AV.top, AV.top, AV.top, AV.top, AV.top, (AV.slc 2 0 len len 1), AV.top, AV.top, AV.top, AV.top, AV.top, AV.top, AV.top, AV.top, AV.top, AV.top, AV.top, AV.top, AV.top, AV.top, AV.top, AV.top, AV.top, (AV.ros pc off len cap ex), (AV.int IntKind.i64 (Int.ofNat len)), (AV.int IntKind.i64 (Int.ofNat 0)), AV.top, AV.top, AV.top, AV.top, AV.top, AV.top, AV.top, AV.top, AV.top, AV.top, AV.top, AV.top, AV.top]) ∧
 (P37 (KF.str (AF.toKF (NF.toAF (NG.toNF S))) (rdP [(AV.ros (MF.head (NF.toMF (NG.toNF S)) (ops0.ext ks 0 32) l) 0 (ops0.add (ops0.slen l) 33) (ops0.add (ops0.slen l) 33) Bool.false)] 0 1) len) pc off len len)))) ∧
 (Q (AV.slc 2 0 len len 1) []))
 ((((0 : Nat) = 0) ∧
 ((VCis lp37 lp37) ∧
 ((([AV.top, AV.top, AV.top, AV.top, AV.top, AV.top, AV.top, AV.nils, AV.top, AV.top, AV.top, AV.top, AV.top, AV.top, AV.top, AV.top, AV.top, AV.top, AV.top, AV.top, AV.top, AV.top, AV.top, AV.top, AV.top, (AV.ros pc off len cap ex), (AV.int IntKind.i64 (ops0.ofn len)), (AV.int IntKind.i64 (Int.ofNat 0)), AV.top, AV.top, AV.top, AV.top, AV.top, AV.top, AV.top, AV.top, AV.top, AV.top, AV.top, AV.top, AV.top] : Fr) = [AV.top, AV.top, AV.top, AV.top, AV.top, AV.top, AV.top, AV.nils, AV.top, AV.top, AV.top, AV.top, AV.top, AV.top, AV.top, AV.top, AV.top, AV.top, AV.top, AV.top, AV.top, AV.top, AV.top, AV.top, AV.top, (AV.ros pc off len cap ex), (AV.int IntKind.i64 (Int.ofNat len)), (AV.int IntKind.i64 (Int.ofNat 0)), AV.top, AV.top, AV.top, AV.top, AV.top, AV.top, AV.top, AV.top, AV.top, AV.top, AV.top, AV.top, AV.top]) ∧
 ((len : Nat) = 0)))) ∧
 (Q AV.nils []))))))))) := by kernel_rfl

theorem vc39 (S : NG) (F : WF) (ks pc : List AV) (l : List UInt8) (off len cap : Nat) (ex : Bool) (Q : Nat → Nat → Nat → Nat → List AV → Prop) :
  (vcall (vcA kdYes (cnN2 S) (ln39 F)) ops0 (tabOne 39 vf39) 200 vf39 [.agg ks, .str l, .ros pc off len cap ex] [] (endB Q)) =
 ((Br (ops0.cmp BinOp.gtr (ops0.ofn (ops0.slen l)) (Int.ofNat 64))
 False
 (Br (ops0.cmp BinOp.gtr (ops0.ofn len) (Int.ofNat 65536))
 False
 (Chk (ops0.le 32 (ops0.len ks))
 (((PKey (ops0.ext ks 0 32)) ∧
 ((List.length l) ≤ 64)) ∧
 ((PB (MF.head (NF.toMF (NG.toNF S)) (ops0.ext ks 0 32) l) 0 (ops0.add (ops0.slen l) 33)) ∧
 (Br (inK (ops0.ofn len))
 ((((0 : Nat) = 0) ∧
 ((VCis lp39 lp39) ∧
 ((([AV.top, AV.top, (AV.ros pc off len cap ex), AV.top, AV.top, AV.top, AV.top, (AV.slc 2 0 len len 1), AV.nils, (AV.int IntKind.i64 (Int.ofNat 0)), AV.top, AV.top, AV.top, AV.top, AV.top, AV.top, AV.top, AV.top, AV.top, AV.top, AV.top, AV.top, AV.top, AV.top, AV.top, AV.top, AV.top, AV.top, AV.top, AV.top, AV.top, AV.top, AV.top, AV.top, AV.top, AV.top, AV.top, AV.top, AV.top, AV.top, AV.top, AV.top, AV.top] : Fr) = [AV.top, AV.top, (AV.ros pc off len cap ex), AV.top, AV.top, AV.top, AV.top, (AV.slc 2 0 len len 1), AV.nils, (AV.int IntKind.i64 (Int.ofNat 0)), AV.top, AV.top, AV.top, AV.top, AV.top, AV.top, AV.top, AV.top, AV.top, AV.top, AV.top, AV.top, AV.top, AV.top, AV.top, AV.top, AV.top, AV.top, AV.top, AV.top, AV.top, AV.top, AV.top, AV.top, AV.top, AV.top, AV.top, AV.top, AV.top, AV.top, AV.top, AV.top, AV.top]) ∧
 (P39 ks (MF.head (NF.toMF (NG.toNF S)) (ops0.ext ks 0 32) l) (KF.str (AF.toKF (NF.toAF (NG.toNF S))) (rdB (MF.head (NF.toMF (NG.toNF S)) (ops0.ext ks 0 32) l) 0 (ops0.add (ops0.slen l) 33)) len) pc off len len)))) ∧
 ((flatL (WF.msk F (KF.str (AF.toKF (NF.toAF (NG.toNF S))) (rdB (MF.head (NF.toMF (NG.toNF S)) (ops0.ext ks 0 32) l) 0 (ops0.add (ops0.slen l) 33)) len) pc off len)) ∧
 (Q 0 len len 1 (WF.msk F (KF.str (AF.toKF (NF.toAF (NG.toNF S))) (rdB (MF.head (NF.toMF (NG.toNF S)) (ops0.ext ks 0 32) l) 0 (ops0.add (ops0.slen l) 33)) len) pc off len))))
 ((((0 : Nat) = 0) ∧
 ((VCis lp39 lp39) ∧
 ((([AV.top, AV.top, (AV.ros pc off len cap ex), AV.top, AV.top, AV.top, AV.top, AV.nils, AV.nils, (AV.int IntKind.i64 (Int.ofNat 0)), AV.top, AV.top, AV.top, AV.top, AV.top, AV.top, AV.top, AV.top, AV.top, AV.top, AV.top, AV.top, AV.top, AV.top, AV.top, AV.top, AV.top, AV.top, AV.top, AV.top, AV.top, AV.top, AV.top, AV.top, AV.top, AV.top, AV.top, AV.top, AV.top, AV.top, AV.top, AV.top, AV.top] : Fr) = [AV.top, AV.top, (AV.ros pc off len cap ex), AV.top, AV.top, AV.top, AV.top, AV.nils, AV.nils, (AV.int IntKind.i64 (Int.ofNat 0)), AV.top, AV.top, AV.top, AV.top, AV.top, AV.top, AV.top, AV.top, AV.top, AV.top, AV.top, AV.top, AV.top, AV.top, AV.top, AV.top, AV.top, AV.top, AV.top, AV.top, AV.top, AV.top, AV.top, AV.top, AV.top, AV.top, AV.top, AV.top, AV.top, AV.top, AV.top, AV.top, AV.top]) ∧
 ((len : Nat) = 0)))) ∧
 False)))))))) := by kernel_rfl

theorem vc39n (S : NG) (F : WF) (ks pc : List AV) (l : List UInt8) (off len cap : Nat) (ex : Bool) (Q : AV → Hl → Prop) :
  (vcall (vcA kdYes (cnN2 S) (ln39 F)) ops0 (tabOne 39 vf39) 200 vf39 [.agg ks, .str l, .ros pc off len cap ex] [] (endN (fun _ => 0) Q)) =
 ((Br (ops0.cmp BinOp.gtr (ops0.ofn (ops0.slen l)) (Int.ofNat 64))
 (Q AV.nils [])
 (Br (ops0.cmp BinOp.gtr (ops0.ofn len) (Int.ofNat 65536))
 (Q AV.nils [])
 (Chk (ops0.le 32 (ops0.len ks))
 (((PKey (ops0.ext ks 0 32)) ∧
 ((List.length l) ≤ 64)) ∧
 ((PB (MF.head (NF.toMF (NG.toNF S)) (ops0.ext ks 0 32) l) 0 (ops0.add (ops0.slen l) 33)) ∧
 (Br (inK (ops0.ofn len))
 ((((0 : Nat) = 0) ∧
 ((VCis lp39 lp39) ∧
 ((([AV.top, AV.top, (AV.ros pc off len cap ex), AV.top, AV.top, AV.top, AV.top, (AV.slc 2 0 len len 1), AV.nils, (AV.int IntKind.i64 (Int.ofNat 0)), AV.top, AV.top, AV.top, AV.top, AV.top, AV.top, AV.top, AV.top, AV.top, AV.top, AV.top, AV.top, AV.top, AV.top, AV.top, AV.top, AV.top, AV.top, AV.top, AV.top, AV.top, AV.top, AV.top, AV.top, AV.top, AV.top, AV.top, AV.top, AV.top, AV.top, AV.top, AV.top, AV.top] : Fr) = [AV.top, AV.top, (AV.ros pc off len cap ex), AV.top, AV.top, AV.top, AV.top, (AV.slc 2 0 len len 1), AV.nils, (AV.int IntKind.i64 (Int.ofNat 0)), AV.top, AV.top, AV.top, AV.top, AV.top, AV.top, AV.top, AV.top, AV.top, AV.top, AV.top, AV.top, AV.top, AV.top, AV.top, AV.top, AV.top, AV.top, AV.top, AV.top, AV.top, AV.top, AV.top, AV.top, AV.top, AV.top, AV.top, AV.top, AV.top, AV.top, AV.top, AV.top, AV.top]) ∧
 (P39 ks (MF.head (NF.toMF (NG.toNF S)) (ops0.ext ks 0 32) l) (KF.str (AF.toKF (NF.toAF (NG.toNF S))) (rdB (MF.head (NF.toMF (NG.toNF S)) (ops0.ext ks 0 32) l) 0 (ops0.add (ops0.slen l) 33)) len) pc off len len)))) ∧
 (Q (AV.slc 3 0 len len 1) []))
 ((((0 : Nat) = 0) ∧
 ((VCis lp39 lp39) ∧
 ((([AV.top, AV.top, (AV.ros pc off len cap ex), AV.top, AV.top, AV.top, AV.top, AV.nils, AV.nils, (AV.int IntKind.i64 (Int.ofNat 0)), AV.top, AV.top, AV.top, AV.top, AV.top, AV.top, AV.top, AV.top, AV.top, AV.top, AV.top, AV.top, AV.top, AV.top, AV.top, AV.top, AV.top, AV.top, AV.top, AV.top, AV.top, AV.top, AV.top, AV.top, AV.top, AV.top, AV.top, AV.top, AV.top, AV.top, AV.top, AV.top, AV.top] : Fr) = [AV.top, AV.top, (AV.ros pc off len cap ex), AV.top, AV.top, AV.top, AV.top, AV.nils, AV.nils, (AV.int IntKind.i64 (Int.ofNat 0)), AV.top, AV.top, AV.top, AV.top, AV.top, AV.top, AV.top, AV.top, AV.top, AV.top, AV.top, AV.top, AV.top, AV.top, AV.top, AV.top, AV.top, AV.top, AV.top, AV.top, AV.top, AV.top, AV.top, AV.top, AV.top, AV.top, AV.top, AV.top, AV.top, AV.top, AV.top, AV.top, AV.top]) ∧
 ((len : Nat) = 0)))) ∧
 (Q AV.nils []))))))))) := by kernel_rfl

theorem vc46 (F : WF) (pa : List AV) (oa la ca : Nat) (ea : Bool) (pb : List AV) (ob lb cb : Nat) (eb : Bool) (Q : AV → Hl → List Nat → Prop) :
  (vcall (vcA kdYes noCn (ln46 F)) ops0 (tabOne 46 vf46) 200 vf46 [.ros pa oa la ca ea, .ros pb ob lb cb eb] [] Q) =
 (((((0 : Nat) = 0) ∧
 ((VCis lp46 lp46) ∧
 ((([(AV.ros pa oa la ca ea), (AV.ros pb ob lb cb eb), AV.top, AV.top, AV.top, (AV.int IntKind.i64 (ops0.bin BinOp.xor IntKind.i64 (ops0.ofn la) (ops0.ofn lb))), AV.top, AV.top, AV.top, AV.top, AV.top, AV.top, AV.top, AV.top, AV.top, AV.top, (AV.int IntKind.i64 (ops0.mnx Bool.false (ops0.ofn la) (ops0.ofn lb))), (AV.int IntKind.i64 (Int.ofNat 0)), AV.top, AV.top, AV.top, AV.top, AV.top, AV.top, AV.top, AV.top, AV.top, AV.top, AV.top, AV.top, AV.top, AV.top, AV.top, AV.top, AV.top, AV.top] : Fr) = [(AV.ros pa oa la ca ea), (AV.ros pb ob lb cb eb), AV.top, AV.top, AV.top, (AV.int IntKind.i64 (Int.ofNat (ops0.nat (ops0.bin BinOp.xor IntKind.i64 (ops0.ofn la) (ops0.ofn lb))))), AV.top, AV.top, AV.top, AV.top, AV.top, AV.top, AV.top, AV.top, AV.top, AV.top, (AV.int IntKind.i64 (Int.ofNat (ops0.nat (ops0.mnx Bool.false (ops0.ofn la) (ops0.ofn lb))))), (AV.int IntKind.i64 (Int.ofNat 0)), AV.top, AV.top, AV.top, AV.top, AV.top, AV.top, AV.top, AV.top, AV.top, AV.top, AV.top, AV.top, AV.top, AV.top, AV.top, AV.top, AV.top, AV.top]) ∧
 (P46 pa oa la pb ob lb (ops0.nat (ops0.mnx Bool.false (ops0.ofn la) (ops0.ofn lb))) (ops0.nat (ops0.bin BinOp.xor IntKind.i64 (ops0.ofn la) (ops0.ofn lb))))))) ∧
 (Br (ops0.cmp BinOp.eql (Int.ofNat (WF.acc F (ops0.nat (ops0.bin BinOp.xor IntKind.i64 (ops0.ofn la) (ops0.ofn lb))) pa oa pb ob (ops0.nat (ops0.mnx Bool.false (ops0.ofn la) (ops0.ofn lb))))) (Int.ofNat 0))
 (Q (AV.bool Bool.true) [] [])
 (Q (AV.bool Bool.false) [] [])))) := by kernel_rfl

theorem cnT_ok : CnOK Try.prog (cnT gf0) := by
  intro f vals H p x e hp
  unfold cnT at e
  split at e
  · rename_i ks l y
    split at e <;> cases e
    rename_i ps o n c ex hv
    obtain ⟨⟨key, hk, rfl⟩, ht⟩ := hp
    have h := CallTo.lookV (H := H) (tag41 (l := l) hk c ex ht) (.cons (Vw.agg H (Still.flat (flat_by8 key))) (.cons (Vw.str H l) (.cons (Vw.two hv ht.1.1) .nil)))
    rw [backV_flat (flat_by8 _)] at h
    show CallTo _ _ _ _ (.agg ((tagL (bytesA (key.map by8)) l (partsL ps o n)).map by8)) _ _
    rw [bytesA_by8]
    exact h
  · rename_i ks l y
    split at e <;> cases e
    rename_i ps o n c ex hv
    obtain ⟨⟨key, hk, rfl⟩, ht⟩ := hp
    have h := CallTo.lookV (H := H) (tag40 (l := l) hk c ex ht) (.cons (Vw.agg H (Still.flat (flat_by8 key))) (.cons (Vw.str H l) (.cons (Vw.two hv ht.1.1) .nil)))
    rw [backV_flat (flat_by8 _)] at h
    show CallTo _ _ _ _ (.agg ((tagL (bytesA (key.map by8)) l (partsL ps o n)).map by8)) _ _
    rw [bytesA_by8]
    exact h
  · cases e
theorem cnN2_ok : CnOK Try.prog (cnN2 ng0) := cnOr_ok cnT_ok cnN1_ok

/-! ### Of a number -/
theorem partA_whole (lb : List UInt8) (n c : Nat) (h : n = lb.length) (e : Bool) : partA (.ros (lb.map by8) 0 n c e) = lb := by
  subst h
  exact partA_ros (bytesAt_whole lb)
theorem pps_whole (lb : List UInt8) (n c : Nat) (h : n = lb.length) (hl : lb.length < 137438953472) (e : Bool) : PPs [.ros (lb.map by8) 0 n c e] 0 1 := by
  subst h
  refine ⟨fun p hp => ?_, [lb], rfl, by omega, fun j x hx => ?_⟩
  · obtain rfl : p = _ := List.mem_singleton.1 hp
    exact ⟨_, 0, _, c, e, rfl, flat_by8 _⟩
  · cases j with
    | zero =>
      obtain rfl : lb = x := Option.some.inj hx
      exact ⟨by omega, _, 0, _, c, e, rfl, bytesAt_whole lb⟩
    | succ j => cases hx
theorem partsL_one (p : AV) : partsL [p] 0 1 = [partA p] := rfl
theorem ptag_whole (lb : List UInt8) (n c : Nat) (h : n = lb.length) (hl : lb.length < 68719476000) (e : Bool) : PTag [.ros (lb.map by8) 0 n c e] 0 1 := by
  refine ⟨pps_whole lb n c h (by omega) e, fun j hj pc off len cap ex hp => ?_, ?_⟩
  · obtain rfl : j = 0 := by omega
    cases hp
    simp [h]
  · rw [partsL_one, partA_whole lb n c h]
    unfold textL
    simp [bytesN_length]
    omega
theorem key_ext {key : List UInt8} (h : key.length = 32) : ops0.ext (key.map by8) 0 32 = key.map by8 := by
  rw [nExt, List.drop_zero, List.take_of_length_le (by rw [List.length_map]; omega)]
theorem key_len {key : List UInt8} (h : key.length = 32) : ops0.le 32 (ops0.len (key.map by8)) = true := by
  rw [nLe, nLen]; exact decide_eq_true (by rw [List.length_map]; omega)
theorem gtag_eq (key l : List UInt8) (pl : List (List UInt8)) : GF.tag (NG.toGF ng0) (key.map by8) l pl = (tagL key l pl).map by8 := by
  show (tagL (bytesA (key.map by8)) l pl).map by8 = _
  rw [bytesA_by8]
theorem res32 {xs : List AV} (h : xs.length = 32) {Q : AV → Hl → Prop} (hq : Q (.agg xs) []) : Chk (ops0.eq (ops0.len xs) 32) (Chk (ops0.le 32 (ops0.len (ops0.spl (z8 32) 0 xs))) (Q (.agg (ops0.ext (ops0.spl (z8 32) 0 xs) 0 32)) [])) := by
  rw [keep32 h]
  exact Chk.mk (by rw [nEq, nLen]; exact decide_eq_true h) (Chk.mk (by rw [nLe, nLen, spl_all (by rw [z8_length, h])]; exact decide_eq_true (by omega)) hq)
theorem tag_len32 (key l : List UInt8) (pl : List (List UInt8)) : ((tagL key l pl).map by8).length = 32 := by rw [List.length_map, tagL_length]

theorem derive42 {key : List UInt8} (hk : key.length = 32) (l : List UInt8) (n : Nat) : CallTo Try.prog 42 [.agg (key.map by8), .str l, .int .u64 (Int.ofNat n)] [] (.agg ((tagL key l [bytesN n]).map by8)) [] [] := by
  refine call_n cnN2_ok (noLn_ok _) (tabOne_ok ok42) (tabOne_self 42 vf42) (n := 200) (g := kdYes) (m := fun _ => 0) [] ?_ (by simp) (by show AV.agg _ = _; rw [renL_flat (flat_by8 _)]) (by simp)
  rw [vc42]
  have e1 : MF.bytes (NF.toMF (NG.toNF ng0)) (Int.ofNat n) = (bytesN n).map by8 := rfl
  rw [key_ext hk, e1, partA_whole (bytesN n) 8 8 rfl, gtag_eq]
  exact Chk.mk (key_len hk) ⟨Int.natCast_nonneg _, ⟨⟨key, hk, rfl⟩, ptag_whole (bytesN n) 8 8 rfl (by rw [bytesN_length]; omega) false⟩, res32 (Q := fun r H' => r = AV.agg ((tagL key l [bytesN n]).map by8) ∧ H' = []) (tag_len32 _ _ _) ⟨rfl, rfl⟩⟩
theorem derive43 {key : List UInt8} (hk : key.length = 32) (l : List UInt8) (n : Nat) : CallTo Try.prog 43 [.agg (key.map by8), .str l, .int .u64 (Int.ofNat n)] [] (.agg ((tagL key l [bytesN n]).map by8)) [] [] := by
  refine call_n cnN2_ok (noLn_ok _) (tabOne_ok ok43) (tabOne_self 43 vf43) (n := 200) (g := kdYes) (m := fun _ => 0) [] ?_ (by simp) (by show AV.agg _ = _; rw [renL_flat (flat_by8 _)]) (by simp)
  rw [vc43]
  have e1 : MF.bytes (NF.toMF (NG.toNF ng0)) (Int.ofNat n) = (bytesN n).map by8 := rfl
  rw [key_ext hk, e1, partA_whole (bytesN n) 8 8 rfl, gtag_eq]
  exact Chk.mk (key_len hk) ⟨Int.natCast_nonneg _, ⟨⟨key, hk, rfl⟩, ptag_whole (bytesN n) 8 8 rfl (by rw [bytesN_length]; omega) false⟩, res32 (Q := fun r H' => r = AV.agg ((tagL key l [bytesN n]).map by8) ∧ H' = []) (tag_len32 _ _ _) ⟨rfl, rfl⟩⟩

/-- The digest of bytes. -/
def sumL (l : List UInt8) : List UInt8 := streamF 136 6 32 l
theorem sumL_length (l : List UInt8) : (sumL l).length = 32 := streamF_length _ _ _ _
theorem hash47 {key : List UInt8} (hk : key.length = 32) : CallTo Try.prog 47 [.agg (key.map by8)] [] (.agg ((sumL key).map by8)) [] [] := by
  refine call_n cnN2_ok (noLn_ok _) (tabOne_ok ok47) (tabOne_self 47 vf47) (n := 200) (g := kdYes) (m := fun _ => 0) [] ?_ (by simp) (by show AV.agg _ = _; rw [renL_flat (flat_by8 _)]) (by simp)
  rw [vc47]
  have e1 : KF.sum (AF.toKF (NF.toAF (NG.toNF ng0))) (rdP [.ros (key.map by8) 0 32 32 false] 0 1) = (sumL key).map by8 := by
    show (streamF 136 6 32 (rdP _ 0 1)).map by8 = _
    have : rdP [.ros (key.map by8) 0 32 32 false] 0 1 = key := by
      show List.flatten [partA (.ros (key.map by8) 0 32 32 false)] = _
      rw [partA_whole key 32 32 hk.symm]
      simp
    rw [this]; rfl
  rw [e1]
  exact Chk.mk (key_len hk) ⟨pps_whole key 32 32 hk.symm (by omega) false, res32 (Q := fun r H' => r = AV.agg ((sumL key).map by8) ∧ H' = []) (by rw [List.length_map, sumL_length]) ⟨rfl, rfl⟩⟩

/-! ### Masks -/
theorem xorL_length (a b : List UInt8) : (xorL a b).length = min a.length b.length := List.length_zipWith
theorem xorL_snoc {a b : List UInt8} {i : Nat} (ha : i < a.length) (hb : i < b.length) : xorL (a.take (i + 1)) (b.take (i + 1)) = xorL (a.take i) (b.take i) ++ [a[i] ^^^ b[i]] := by
  unfold xorL
  rw [List.take_succ_eq_append_getElem ha, List.take_succ_eq_append_getElem hb, List.zipWith_append (by rw [List.length_take, List.length_take]; omega)]
  rfl

theorem loop37 {ks hd : List AV} {pc : List AV} {off len : Nat} (c cap : Nat) (ex : Bool) (hlen : len < 1099511627776) {lb mb : List UInt8} (hb : BytesAt pc off len lb) (hm : mb.length = len) :
    ∀ lg, LoopTo Try.prog 0 lp37 (fr37 (.slc 2 0 len c 1) pc off len cap ex 0) [.cells ks, .cells hd, .cells (mb.map by8)] lg (.exit 0) (fr37 (.slc 2 0 len c 1) pc off len cap ex len) [.cells ks, .cells hd, .cells ((xorL mb lb).map by8)] (List.range 0 ++ lg) := by
  have hl := hb.1
  have h := loop_chain (P := Try.prog) (n0 := 0) (b := lp37) (ex := .exit 0) (fr' := fr37 (.slc 2 0 len c 1) pc off len cap ex len) (H' := [.cells ks, .cells hd, .cells ((xorL mb lb).map by8)]) (by intro h; cases h)
    (fun i => (fr37 (.slc 2 0 len c 1) pc off len cap ex i, [.cells ks, .cells hd, .cells ((xorL (mb.take i) (lb.take i)).map by8 ++ (mb.map by8).drop i)])) len 0 (fun i _ hi => ?_) ?_
  · simpa [xorL] using h
  · have hi' : i < len := by omega
    have hxl : (xorL (mb.take i) (lb.take i)).length = i := by rw [xorL_length, List.length_take, List.length_take]; omega
    have key : ∀ Q : Ex → Fr → Hl → Prop, Q .norm (fr37 (.slc 2 0 len c 1) pc off len cap ex (i + 1)) [.cells ks, .cells hd, .cells ((xorL (mb.take (i + 1)) (lb.take (i + 1))).map by8 ++ (mb.map by8).drop (i + 1))] →
        vm (vcA kdYes noCn noLn) ops0 noTab 100 0 lp37 (fr37 (.slc 2 0 len c 1) pc off len cap ex i) [.cells ks, .cells hd, .cells ((xorL (mb.take i) (lb.take i)).map by8 ++ (mb.map by8).drop i)] [] (bodyX mk37 Q) := by
      intro Q hQ
      rw [vcl37, nAdd (by omega)]
      simp only [nLss, nInr, nAdr, nLt, nLen, nSet, Nat.zero_add, Nat.mul_one]
      have hms : ((xorL (mb.take i) (lb.take i)).map by8 ++ (mb.map by8).drop i)[i]? = some (by8 (mb[i]'(by omega))) := by
        rw [List.getElem?_append_right (by simp [hxl]), List.length_map, hxl, Nat.sub_self, List.getElem?_drop, Nat.add_zero, List.getElem?_map, List.getElem?_eq_getElem (by omega)]
        rfl
      refine Br.t (decide_eq_true hi') (Chk.mk (decide_eq_true hi') ⟨_, Nth.mk (hb.get hi'), Chk.mk (decide_eq_true hi') ⟨_, Nth.mk hms, Chk.mk (decide_eq_true hi') (Chk.mk (decide_eq_true (by simp [hxl, hm]; omega)) ?_)⟩⟩)
      rw [xor_u8]
      have e1 : AV.int .u8 (Int.ofNat (mb[i] ^^^ lb[i]).toNat) = by8 (mb[i] ^^^ lb[i]) := rfl
      rw [e1, set_mid _ (mb.map by8) hxl (by rw [List.length_map]; omega)]
      rw [xorL_snoc (by omega) (by omega), List.map_append, List.append_assoc] at hQ
      exact hQ
    exact body_x (noCn_ok _) (noLn_ok _) (noTab_ok _) (n := 100) (g := kdYes) (bs := mk37) (key _ ⟨rfl, rfl, rfl⟩) (by simp)
  · rw [Nat.zero_add]
    show BodyTo _ _ _ (fr37 (.slc 2 0 len c 1) pc off len cap ex len) [.cells ks, .cells hd, .cells ((xorL (mb.take len) (lb.take len)).map by8 ++ (mb.map by8).drop len)] _ _ _
    rw [List.take_of_length_le (by omega), List.take_of_length_le (by omega), List.drop_of_length_le (by rw [List.length_map]; omega), List.append_nil]
    refine body_x (noCn_ok _) (noLn_ok _) (noTab_ok _) (n := 100) (g := kdYes) (bs := mk37) ?_ (by simp)
    rw [vcl37]
    exact Br.f (by rw [nLss]; exact decide_eq_false (by omega)) ⟨rfl, rfl, rfl⟩

theorem loop37n (ks hd pc : List AV) (off cap : Nat) (ex : Bool) : ∀ lg, LoopTo Try.prog 0 lp37 (fr37 .nils pc off 0 cap ex 0) [.cells ks, .cells hd] lg (.exit 0) (fr37 .nils pc off 0 cap ex 0) [.cells ks, .cells hd] (List.range 0 ++ lg) := by
  refine loop_chain (P := Try.prog) (n0 := 0) (b := lp37) (ex := .exit 0) (by intro h; cases h) (fun _ => (fr37 .nils pc off 0 cap ex 0, [.cells ks, .cells hd])) 0 0 (fun i _ hi => by omega) ?_
  refine body_x (noCn_ok _) (noLn_ok _) (noTab_ok _) (n := 100) (g := kdYes) (bs := mk37) ?_ (by simp)
  show vm _ _ _ _ _ _ (fr37 .nils pc off 0 cap ex 0) [.cells ks, .cells hd] _ _
  rw [vcl37n]
  exact ⟨rfl, rfl, rfl⟩

theorem ln37_ok : LnOK Try.prog (ln37 wf0) := by
  intro n0 b fr H p x e hn hp lg
  unfold ln37 at e
  split at e <;> cases e
  · rename_i m c pc off len cap ex ks hd ms h1 h2
    obtain ⟨rfl, hb, hf, hpc, rfl, hlen, ⟨lb, hlb⟩, mb, hm, rfl⟩ := hp
    have hb : b = lp37 := hb
    subst hb
    refine LoopTo.pre (Weak.forget (by simp) mk37) ?_ lg
    rw [hf]
    show ∀ lg, LoopTo _ _ _ _ _ _ _ _ [.cells ks, .cells hd, .cells ((xorL (bytesA (mb.map by8)) (rdB pc off m)).map by8)] _
    rw [bytesA_by8, rdB_eq hlb]
    exact loop37 c cap ex hlen hlb hm
  · rename_i pc off len cap ex ks hd h1 h2
    obtain ⟨rfl, hb, hf, rfl⟩ := hp
    have hb : b = lp37 := hb
    subst hb
    refine LoopTo.pre (Weak.forget (by simp) mk37) ?_ lg
    rw [hf]
    exact loop37n ks hd pc off cap ex

theorem fr39_ren {σ : Nat → Option Nat} {φ : Nat → Option (List AV)} (h2 : σ 2 = some 2) (h4 : σ 4 = some 3) {pc : List AV} (hpc : flatL pc) (m c L off len cap : Nat) (ex : Bool) (i : Nat) :
    forget mk39 (renL σ φ true (fr39 (.slc 2 0 m c 1) (.slc 4 0 L L 1) pc off len cap ex i)) = fr39 (.slc 2 0 m c 1) (.slc 3 0 L L 1) pc off len cap ex i := by
  unfold fr39 mk39
  simp only [renL, ren, h2, h4, forget, renL_flat hpc]

theorem loop39 {ks hd : List AV} (hks : flatL ks) (hhd : flatL hd) {pc : List AV} (hpc : flatL pc) {off len : Nat} (c cap : Nat) (ex : Bool) (hlen : len ≤ 65536) {lb mb : List UInt8} (hb : BytesAt pc off len lb) (hm : mb.length = len) :
    ∀ lg, LoopTo Try.prog 0 lp39 (fr39 (.slc 2 0 len c 1) (.slc 3 0 0 0 1) pc off len cap ex 0) [.cells ks, .cells hd, .cells (mb.map by8), .cells []] lg (.exit 0) (fr39 (.slc 2 0 len c 1) (.slc 3 0 len len 1) pc off len cap ex len)
      [.cells ks, .cells hd, .cells (mb.map by8), .cells ((xorL mb lb).map by8)] (List.range 0 ++ lg) := by
  have hl := hb.1
  have h := loop_chain (P := Try.prog) (n0 := 0) (b := lp39) (ex := .exit 0) (fr' := fr39 (.slc 2 0 len c 1) (.slc 3 0 len len 1) pc off len cap ex len) (H' := [.cells ks, .cells hd, .cells (mb.map by8), .cells ((xorL mb lb).map by8)]) (by intro h; cases h)
    (fun i => (fr39 (.slc 2 0 len c 1) (.slc 3 0 i i 1) pc off len cap ex i, [.cells ks, .cells hd, .cells (mb.map by8), .cells ((xorL (mb.take i) (lb.take i)).map by8)])) len 0 (fun i _ hi => ?_) ?_
  · simpa [xorL] using h
  · have hi' : i < len := by omega
    have hxl : (xorL (mb.take i) (lb.take i)).length = i := by rw [xorL_length, List.length_take, List.length_take]; omega
    have h1 : BodyTo Try.prog 0 lp39 (fr39 (.slc 2 0 len c 1) (.slc 3 0 i i 1) pc off len cap ex i) [.cells ks, .cells hd, .cells (mb.map by8), .cells ((xorL (mb.take i) (lb.take i)).map by8)] .norm
        (fr39 (.slc 2 0 len c 1) (.slc 4 0 (i + 1) (i + 1) 1) pc off len cap ex (i + 1)) [.cells ks, .cells hd, .cells (mb.map by8), .dead, .cells ((xorL (mb.take (i + 1)) (lb.take (i + 1))).map by8)] := by
      have key : ∀ Q : Ex → Fr → Hl → Prop, Q .norm (fr39 (.slc 2 0 len c 1) (.slc 4 0 (i + 1) (i + 1) 1) pc off len cap ex (i + 1)) [.cells ks, .cells hd, .cells (mb.map by8), .dead, .cells ((xorL (mb.take (i + 1)) (lb.take (i + 1))).map by8)] →
          vm (vcA kdYes noCn noLn) ops0 noTab 100 0 lp39 (fr39 (.slc 2 0 len c 1) (.slc 3 0 i i 1) pc off len cap ex i) [.cells ks, .cells hd, .cells (mb.map by8), .cells ((xorL (mb.take i) (lb.take i)).map by8)] [] (bodyX mk39 Q) := by
        intro Q hQ
        rw [vcl39, nAdd (by omega)]
        simp only [nOfn, nLss, nInr, nAdr, nLe, nLen, nRoom, nPlus, nTimes, Nat.zero_add, Nat.mul_one]
        have hms : (mb.map by8)[i]? = some (by8 (mb[i]'(by omega))) := by
          rw [List.getElem?_map, List.getElem?_eq_getElem (by omega)]; rfl
        refine Br.t (decide_eq_true hi') (Chk.mk (decide_eq_true hi') ⟨_, Nth.mk (hb.get hi'), Chk.mk (decide_eq_true hi') ⟨_, Nth.mk hms, Chk.mk (decide_eq_true (by simp [hxl])) (Chk.mk (decide_eq_true (by omega)) ?_)⟩⟩)
        have e0 : ops0.ext ((xorL (mb.take i) (lb.take i)).map by8) 0 i = (xorL (mb.take i) (lb.take i)).map by8 := by rw [nExt, List.drop_zero, List.take_of_length_le (by rw [List.length_map, hxl]; omega)]
        rw [xor_u8, e0, nApp]
        have e1 : [AV.int .u8 (Int.ofNat (lb[i] ^^^ mb[i]).toNat)] = [mb[i] ^^^ lb[i]].map by8 := by rw [UInt8.xor_comm]; rfl
        rw [e1, ← List.map_append, ← xorL_snoc (by omega) (by omega)]
        exact hQ
      exact body_x (noCn_ok _) (noLn_ok _) (noTab_ok _) (n := 100) (g := kdYes) (bs := mk39) (key _ ⟨rfl, rfl, rfl⟩) (by simp)
    have h2 := h1.post (Weak.pick [0, 1, 2, 4] mk39 (by simp) (by simp) (by simp))
    have e5 : wkF [0, 1, 2, 4] mk39 (fr39 (.slc 2 0 len c 1) (.slc 4 0 (i + 1) (i + 1) 1) pc off len cap ex (i + 1)) = fr39 (.slc 2 0 len c 1) (.slc 3 0 (i + 1) (i + 1) 1) pc off len cap ex (i + 1) :=
      fr39_ren (show pickN [0, 1, 2, 4] 2 = some 2 from rfl) (show pickN [0, 1, 2, 4] 4 = some 3 from rfl) hpc _ _ _ _ _ _ _ _
    have e6 : wkH [0, 1, 2, 4] [.cells ks, .cells hd, .cells (mb.map by8), .dead, .cells ((xorL (mb.take (i + 1)) (lb.take (i + 1))).map by8)] = [.cells ks, .cells hd, .cells (mb.map by8), .cells ((xorL (mb.take (i + 1)) (lb.take (i + 1))).map by8)] := by
      show [renB _ _ true (.cells ks), renB _ _ true (.cells hd), renB _ _ true (.cells _), renB _ _ true (.cells _)] = _
      simp only [renB, renL_flat hks, renL_flat hhd, renL_flat (flat_by8 _)]
    rw [e5, e6] at h2
    exact h2
  · rw [Nat.zero_add]
    show BodyTo _ _ _ (fr39 (.slc 2 0 len c 1) (.slc 3 0 len len 1) pc off len cap ex len) [.cells ks, .cells hd, .cells (mb.map by8), .cells ((xorL (mb.take len) (lb.take len)).map by8)] _ _ _
    rw [List.take_of_length_le (by omega), List.take_of_length_le (by omega)]
    refine body_x (noCn_ok _) (noLn_ok _) (noTab_ok _) (n := 100) (g := kdYes) (bs := mk39) ?_ (by simp)
    rw [vcl39]
    exact Br.f (by rw [nOfn, nLss]; exact decide_eq_false (by omega)) ⟨rfl, rfl, rfl⟩

theorem loop39n (ks hd pc : List AV) (off cap : Nat) (ex : Bool) : ∀ lg, LoopTo Try.prog 0 lp39 (fr39 .nils .nils pc off 0 cap ex 0) [.cells ks, .cells hd] lg (.exit 0) (fr39 .nils .nils pc off 0 cap ex 0) [.cells ks, .cells hd] (List.range 0 ++ lg) := by
  refine loop_chain (P := Try.prog) (n0 := 0) (b := lp39) (ex := .exit 0) (by intro h; cases h) (fun _ => (fr39 .nils .nils pc off 0 cap ex 0, [.cells ks, .cells hd])) 0 0 (fun i _ hi => by omega) ?_
  refine body_x (noCn_ok _) (noLn_ok _) (noTab_ok _) (n := 100) (g := kdYes) (bs := mk39) ?_ (by simp)
  show vm _ _ _ _ _ _ (fr39 .nils .nils pc off 0 cap ex 0) [.cells ks, .cells hd] _ _
  rw [vcl39n]
  exact ⟨rfl, rfl, rfl⟩

theorem ln39_ok : LnOK Try.prog (ln39 wf0) := by
  intro n0 b fr H p x e hn hp lg
  unfold ln39 at e
  split at e <;> cases e
  · rename_i m c pc off len cap ex ks hd ms h1 h2
    obtain ⟨rfl, hb, hf, hks, hhd, hpc, rfl, hlen, ⟨lb, hlb⟩, mb, hm, rfl⟩ := hp
    have hb : b = lp39 := hb
    subst hb
    have hw := (Weak.forget (n0 := 0) (fr := fr) (H := [.cells ks, .cells hd, .cells (mb.map by8)]) (by simp) mk39)
    rw [hf] at hw
    have hw2 := hw.trans (Weak.void (k := 8) (by simp) 1 rfl)
    show LoopTo _ _ _ _ _ _ _ _ [.cells ks, .cells hd, .cells (mb.map by8), .cells ((xorL (bytesA (mb.map by8)) (rdB pc off m)).map by8)] _
    rw [bytesA_by8, rdB_eq hlb]
    exact LoopTo.pre hw2 (loop39 hks hhd hpc c cap ex hlen hlb hm) lg
  · rename_i pc off len cap ex ks hd h1 h2
    obtain ⟨rfl, hb, hf, rfl⟩ := hp
    have hb : b = lp39 := hb
    subst hb
    refine LoopTo.pre (Weak.forget (by simp) mk39) ?_ lg
    rw [hf]
    exact loop39n ks hd pc off cap ex

/-- Bytes, masked. -/
def maskL (key l b : List UInt8) : List UInt8 := xorL (streamF 168 31 b.length (headL key l)) b
theorem maskL_length (key l b : List UInt8) : (maskL key l b).length = b.length := by
  unfold maskL
  rw [xorL_length, streamF_length]
  omega
theorem inK_nat {n : Nat} : inK (ops0.ofn n) = (decide (1 ≤ n) && decide (n ≤ 65536)) := by
  unfold inK
  rw [nOfn]
  congr 1
  · by_cases h : 1 ≤ n
    · rw [decide_eq_true h, decide_eq_true (by simp; omega)]
    · rw [decide_eq_false h, decide_eq_false (by simp; omega)]
  · by_cases h : n ≤ 65536
    · rw [decide_eq_true h, decide_eq_true (by simp; omega)]
    · rw [decide_eq_false h, decide_eq_false (by simp; omega)]
theorem ghead_eq (key l : List UInt8) : MF.head (NF.toMF (NG.toNF ng0)) (key.map by8) l = (headL key l).map by8 := by
  show (headL (bytesA (key.map by8)) l).map by8 = _
  rw [bytesA_by8]
theorem hadd {key l : List UInt8} (hk : key.length = 32) : ops0.add (ops0.slen l) 33 = (headL key l).length := by rw [nPlus, nSlen, headL_length, hk]

theorem mask37 {key l : List UInt8} (hk : key.length = 32) (hl : l.length ≤ 64) {pc : List AV} {off len : Nat} (cap : Nat) (ex : Bool) {lb : List UInt8} (hf : flatL pc) (hb : BytesAt pc off len lb) (h1 : 1 ≤ len) (h2 : len ≤ 65536) :
    CallTo Try.prog 37 [.agg (key.map by8), .str l, .ros pc off len cap ex] [] (.slc 0 0 len len 1) [.cells ((maskL key l lb).map by8)] [] := by
  refine call_b cnN2_ok ln37_ok (tabOne_ok ok37) (tabOne_self 37 vf37) (n := 200) (g := kdYes) ?_
  rw [vc37]
  have hll := headL_length key l
  have hbl := hb.1
  rw [key_ext hk, ghead_eq, hadd hk]
  have e1 : rdP [.ros ((headL key l).map by8) 0 (headL key l).length (headL key l).length false] 0 1 = headL key l := by
    show List.flatten [partA _] = _
    rw [partA_whole _ _ _ rfl]; simp
  have e2 : KF.str (AF.toKF (NF.toAF (NG.toNF ng0))) (headL key l) len = (streamF 168 31 len (headL key l)).map by8 := rfl
  rw [e1, e2]
  have e3 : WF.msk wf0 ((streamF 168 31 len (headL key l)).map by8) pc off len = (maskL key l lb).map by8 := by
    show (xorL (bytesA ((streamF 168 31 len (headL key l)).map by8)) (rdB pc off len)).map by8 = _
    rw [bytesA_by8, rdB_eq hb]
    unfold maskL
    rw [hbl]
  rw [e3]
  refine Br.f (by rw [nOfn, nSlen, nGtr]; exact decide_eq_false (by omega)) (Br.f (by rw [nOfn, nGtr]; exact decide_eq_false (by omega)) (Chk.mk (key_len hk) ⟨⟨⟨key, hk, rfl⟩, hl⟩, pps_whole _ _ _ rfl (by omega) false, Br.t ?_ ?_⟩))
  · rw [inK_nat, decide_eq_true h1, decide_eq_true h2]; rfl
  · exact ⟨⟨rfl, rfl, rfl, hf, rfl, by omega, ⟨lb, hb⟩, _, streamF_length _ _ _ _, rfl⟩, flat_by8 _, rfl, rfl, rfl, rfl, rfl⟩

theorem mask37n {key l : List UInt8} (hk : key.length = 32) {pc : List AV} {off len : Nat} (cap : Nat) (ex : Bool) (h : 64 < l.length ∨ len = 0 ∨ 65536 < len) :
    CallTo Try.prog 37 [.agg (key.map by8), .str l, .ros pc off len cap ex] [] .nils [] [] := by
  refine call_n cnN2_ok ln37_ok (tabOne_ok ok37) (tabOne_self 37 vf37) (n := 200) (g := kdYes) (m := fun _ => 0) [] ?_ (by simp) rfl (by simp)
  rw [vc37n]
  refine Br.mk (fun _ => ⟨rfl, rfl⟩) (fun h1 => Br.mk (fun _ => ⟨rfl, rfl⟩) (fun h2 => ?_))
  have h1 := lab_le h1
  have h2 : ¬ 65536 < len := by rw [nOfn, nGtr] at h2; exact of_decide_eq_false h2
  have hz : len = 0 := by omega
  have hll := headL_length key l
  rw [key_ext hk, ghead_eq, hadd hk]
  refine Chk.mk (key_len hk) ⟨⟨⟨key, hk, rfl⟩, by omega⟩, pps_whole _ _ _ rfl (by omega) false, Br.f ?_ ?_⟩
  · rw [inK_nat, hz]; rfl
  · exact ⟨⟨rfl, rfl, rfl, hz⟩, rfl, rfl⟩

theorem mask39 {key l : List UInt8} (hk : key.length = 32) (hl : l.length ≤ 64) {pc : List AV} {off len : Nat} (cap : Nat) (ex : Bool) {lb : List UInt8} (hf : flatL pc) (hb : BytesAt pc off len lb) (h1 : 1 ≤ len) (h2 : len ≤ 65536) :
    CallTo Try.prog 39 [.agg (key.map by8), .str l, .ros pc off len cap ex] [] (.slc 0 0 len len 1) [.cells ((maskL key l lb).map by8)] [] := by
  refine call_b cnN2_ok ln39_ok (tabOne_ok ok39) (tabOne_self 39 vf39) (n := 200) (g := kdYes) ?_
  rw [vc39]
  have hll := headL_length key l
  have hbl := hb.1
  rw [key_ext hk, ghead_eq, hadd hk]
  have e2 : KF.str (AF.toKF (NF.toAF (NG.toNF ng0))) (headL key l) len = (streamF 168 31 len (headL key l)).map by8 := rfl
  rw [rdB_eq (bytesAt_whole (headL key l)), e2]
  have e3 : WF.msk wf0 ((streamF 168 31 len (headL key l)).map by8) pc off len = (maskL key l lb).map by8 := by
    show (xorL (bytesA ((streamF 168 31 len (headL key l)).map by8)) (rdB pc off len)).map by8 = _
    rw [bytesA_by8, rdB_eq hb]
    unfold maskL
    rw [hbl]
  rw [e3]
  refine Br.f (by rw [nOfn, nSlen, nGtr]; exact decide_eq_false (by omega)) (Br.f (by rw [nOfn, nGtr]; exact decide_eq_false (by omega)) (Chk.mk (key_len hk) ⟨⟨⟨key, hk, rfl⟩, hl⟩, ⟨flat_by8 _, by simp, by omega, _, bytesAt_whole _⟩, Br.t ?_ ?_⟩))
  · rw [inK_nat, decide_eq_true h1, decide_eq_true h2]; rfl
  · exact ⟨⟨rfl, rfl, rfl, flat_by8 _, flat_by8 _, hf, rfl, h2, ⟨lb, hb⟩, _, streamF_length _ _ _ _, rfl⟩, flat_by8 _, rfl, rfl, rfl, rfl, rfl⟩

theorem mask39n {key l : List UInt8} (hk : key.length = 32) {pc : List AV} {off len : Nat} (cap : Nat) (ex : Bool) (h : 64 < l.length ∨ len = 0 ∨ 65536 < len) :
    CallTo Try.prog 39 [.agg (key.map by8), .str l, .ros pc off len cap ex] [] .nils [] [] := by
  refine call_n cnN2_ok ln39_ok (tabOne_ok ok39) (tabOne_self 39 vf39) (n := 200) (g := kdYes) (m := fun _ => 0) [] ?_ (by simp) rfl (by simp)
  rw [vc39n]
  refine Br.mk (fun _ => ⟨rfl, rfl⟩) (fun h1 => Br.mk (fun _ => ⟨rfl, rfl⟩) (fun h2 => ?_))
  have h1 := lab_le h1
  have h2 : ¬ 65536 < len := by rw [nOfn, nGtr] at h2; exact of_decide_eq_false h2
  have hz : len = 0 := by omega
  have hll := headL_length key l
  rw [key_ext hk, ghead_eq, hadd hk]
  refine Chk.mk (key_len hk) ⟨⟨⟨key, hk, rfl⟩, by omega⟩, ⟨flat_by8 _, by simp, by omega, _, bytesAt_whole _⟩, Br.f ?_ ?_⟩
  · rw [inK_nat, hz]; rfl
  · exact ⟨⟨rfl, rfl, rfl, hz⟩, rfl, rfl⟩

end
end Go.Proofs.Vm

namespace Go.Proofs.Vm
open Go.Vm
noncomputable section
def key1 : List UInt8 := 1 :: List.replicate 31 0
def abcL : List UInt8 := [97, 98, 99]
/-- All that the laws of layer 4 call (kept apart). -/
structure HF extends NG where
  mask : List AV → List UInt8 → List UInt8 → List AV
  eq : List UInt8 → List UInt8 → Bool
  drv : List AV → List UInt8 → Int → List AV
  hash : List AV → List AV
def hf0 : HF := { ng0 with mask := fun ks l b => (maskL (bytesA ks) l b).map by8, eq := fun a b => decide (a = b), drv := fun ks l n => (tagL (bytesA ks) l [bytesN n.toNat]).map by8, hash := fun ks => (sumL (bytesA ks)).map by8 }
def inM (l : List UInt8) (n : Nat) : Bool := decide (l.length ≤ 64) && (decide (1 ≤ n) && decide (n ≤ 65536))
def cnM (S : HF) : CnF := fun f vals H => match f, vals with
  | 37, [.agg ks, .str l, x] => match vw1 H x with
    | .ros pc off len _ _ => some (PKey ks ∧ PB pc off len, .cond (inM l len) (.ok (.slc (size H) 0 len len 1) (join H [.cells (S.mask ks l (rdB pc off len))]) []) (.ok .nils H []))
    | _ => none
  | 39, [.agg ks, .str l, x] => match vw1 H x with
    | .ros pc off len _ _ => some (PKey ks ∧ PB pc off len, .cond (inM l len) (.ok (.slc (size H) 0 len len 1) (join H [.cells (S.mask ks l (rdB pc off len))]) []) (.ok .nils H []))
    | _ => none
  | 46, [x, y] => match vw1 H x, vw1 H y with
    | .ros pa oa la _ _, .ros pb ob lb _ _ => some (PB pa oa la ∧ PB pb ob lb, .cond (S.eq (rdB pa oa la) (rdB pb ob lb)) (.ok (.bool true) H []) (.ok (.bool false) H []))
    | _, _ => none
  | 42, [.agg ks, .str l, .int .u64 n] => some (PKey ks ∧ 0 ≤ n, .ok (.agg (S.drv ks l n)) H [])
  | 43, [.agg ks, .str l, .int .u64 n] => some (PKey ks ∧ 0 ≤ n, .ok (.agg (S.drv ks l n)) H [])
  | 47, [.agg ks] => some (PKey ks, .ok (.agg (S.hash ks)) H [])
  | f, vals => cnN2 S.toNG f vals H

theorem nXor {a b : Nat} (ha : a < 2 ^ 63) (hb : b < 2 ^ 63) : ops0.bin .xor .i64 (Int.ofNat a) (Int.ofNat b) = Int.ofNat (a ^^^ b) := by
  have h := Nat.xor_lt_two_pow ha hb
  have e : ∀ c : Nat, c < 2 ^ 63 → (BitVec.ofInt 64 (Int.ofNat c)).toNat = c := by
    intro c hc
    simp only [BitVec.toNat_ofInt, Int.ofNat_eq_natCast]
    omega
  show IntKind.i64.wrap ((BitVec.ofInt 64 (Int.ofNat a) ^^^ BitVec.ofInt 64 (Int.ofNat b)).toNat : Int) = _
  rw [BitVec.toNat_xor, e a ha, e b hb, i64_wrap (by omega) (by omega)]
  rfl
theorem nOr {a b : Nat} (ha : a < 2 ^ 63) (hb : b < 2 ^ 63) : ops0.bin .or .i64 (Int.ofNat a) (Int.ofNat b) = Int.ofNat (a ||| b) := by
  have h := Nat.or_lt_two_pow ha hb
  have e : ∀ c : Nat, c < 2 ^ 63 → (BitVec.ofInt 64 (Int.ofNat c)).toNat = c := by
    intro c hc
    simp only [BitVec.toNat_ofInt, Int.ofNat_eq_natCast]
    omega
  show IntKind.i64.wrap ((BitVec.ofInt 64 (Int.ofNat a) ||| BitVec.ofInt 64 (Int.ofNat b)).toNat : Int) = _
  rw [BitVec.toNat_or, e a ha, e b hb, i64_wrap (by omega) (by omega)]
  rfl

theorem accN_lt {z : Nat} (hz : z < 2 ^ 63) (a b : List UInt8) : ∀ i, accN z a b i < 2 ^ 63
  | 0 => hz
  | i + 1 => by
    unfold accN
    refine Nat.or_lt_two_pow (accN_lt hz a b i) (Nat.xor_lt_two_pow ?_ ?_)
    · have := (a.getD i 0).toNat_lt; omega
    · have := (b.getD i 0).toNat_lt; omega
theorem or_zero {a b : Nat} : a ||| b = 0 ↔ a = 0 ∧ b = 0 := by
  constructor
  · intro h
    have h1 : a ≤ a ||| b := Nat.left_le_or
    have h2 : b ≤ a ||| b := Nat.right_le_or
    omega
  · rintro ⟨rfl, rfl⟩; rfl
theorem nxor_zero {a b : Nat} : a ^^^ b = 0 ↔ a = b := by
  constructor
  · intro h
    have : a ^^^ b ^^^ b = b := by rw [h, Nat.zero_xor]
    rwa [Nat.xor_assoc, Nat.xor_self, Nat.xor_zero] at this
  · rintro rfl; exact Nat.xor_self _
theorem accN_zero (z : Nat) (a b : List UInt8) : ∀ i, accN z a b i = 0 ↔ z = 0 ∧ ∀ j, j < i → a.getD j 0 = b.getD j 0
  | 0 => by simp [accN]
  | i + 1 => by
    unfold accN
    rw [or_zero, accN_zero z a b i, nxor_zero]
    constructor
    · rintro ⟨⟨h1, h2⟩, h3⟩
      refine ⟨h1, fun j hj => ?_⟩
      rcases Nat.lt_or_eq_of_le (Nat.le_of_lt_succ hj) with h | h
      · exact h2 j h
      · subst h; exact UInt8.toNat_inj.1 h3
    · rintro ⟨h1, h2⟩
      exact ⟨⟨h1, fun j hj => h2 j (by omega)⟩, by rw [h2 i (by omega)]⟩

theorem loop46 {pa : List AV} {oa la : Nat} (ca : Nat) (ea : Bool) {pb : List AV} {ob lb : Nat} (cb : Nat) (eb : Bool) {m z : Nat} (h1 : m ≤ la) (h2 : m ≤ lb) (h3 : la < 137438953472) (hz : z < 2 ^ 63) {al bl : List UInt8} (ha : BytesAt pa oa la al) (hb : BytesAt pb ob lb bl) :
    ∀ lg, LoopTo Try.prog 0 lp46 (fr46 pa oa la ca ea pb ob lb cb eb z m 0) [] lg (.exit 0) (fr46 pa oa la ca ea pb ob lb cb eb (accN z al bl m) m m) [] (List.range 0 ++ lg) := by
  refine loop_chain (P := Try.prog) (n0 := 0) (b := lp46) (ex := .exit 0) (by intro h; cases h) (fun i => (fr46 pa oa la ca ea pb ob lb cb eb (accN z al bl i) m i, [])) m 0 (fun i _ hi => ?_) ?_
  · have hi' : i < m := by omega
    have hla := ha.1
    have hlb := hb.1
    have key : ∀ Q : Ex → Fr → Hl → Prop, Q .norm (fr46 pa oa la ca ea pb ob lb cb eb (accN z al bl (i + 1)) m (i + 1)) [] →
        vm (vcA kdYes noCn noLn) ops0 noTab 100 0 lp46 (fr46 pa oa la ca ea pb ob lb cb eb (accN z al bl i) m i) [] [] (bodyX mk46 Q) := by
      intro Q hQ
      rw [vcl46, nAdd (by omega)]
      simp only [nLss, nInr, nAdr, Nat.mul_one]
      refine Br.t (decide_eq_true hi') (Chk.mk (decide_eq_true (by omega)) ⟨_, Nth.mk (ha.get (by omega)), Chk.mk (decide_eq_true (by omega)) ⟨_, Nth.mk (hb.get (by omega)), ?_⟩⟩)
      have c1 : ∀ c : UInt8, ops0.cvt .i64 (Int.ofNat c.toNat) = Int.ofNat c.toNat := fun c => nCi (by have := c.toNat_lt; omega)
      have c2 : ∀ c : UInt8, c.toNat < 2 ^ 63 := fun c => by have := c.toNat_lt; omega
      rw [c1, c1, nXor (c2 _) (c2 _), nOr (accN_lt hz _ _ _) (Nat.xor_lt_two_pow (c2 _) (c2 _))]
      have e1 : al.getD i 0 = al[i]'(by omega) := by rw [List.getD_eq_getElem?_getD, List.getElem?_eq_getElem (by omega)]; rfl
      have e2 : bl.getD i 0 = bl[i]'(by omega) := by rw [List.getD_eq_getElem?_getD, List.getElem?_eq_getElem (by omega)]; rfl
      have e3 : accN z al bl (i + 1) = accN z al bl i ||| ((al[i]'(by omega)).toNat ^^^ (bl[i]'(by omega)).toNat) := by rw [← e1, ← e2]; rfl
      rw [e3] at hQ
      exact hQ
    exact body_x (noCn_ok _) (noLn_ok _) (noTab_ok _) (n := 100) (g := kdYes) (bs := mk46) (key _ ⟨rfl, rfl, rfl⟩) (by simp)
  · rw [Nat.zero_add]
    refine body_x (noCn_ok _) (noLn_ok _) (noTab_ok _) (n := 100) (g := kdYes) (bs := mk46) ?_ (by simp)
    show vm _ _ _ _ _ _ (fr46 pa oa la ca ea pb ob lb cb eb (accN z al bl m) m m) [] _ _
    rw [vcl46]
    exact Br.f (by rw [nLss]; exact decide_eq_false (by omega)) ⟨rfl, rfl, rfl⟩

theorem BytesAt.le {pc : List AV} {off len : Nat} {lb : List UInt8} (h : BytesAt pc off len lb) {m : Nat} (hm : m ≤ len) : BytesAt pc off m (lb.take m) := by
  refine ⟨by rw [List.length_take, h.1]; omega, ?_⟩
  have := congrArg (List.take m) h.2
  rw [List.take_take, Nat.min_eq_left hm, ← List.map_take] at this
  exact this
theorem accN_take (z : Nat) (a b : List UInt8) (m : Nat) : ∀ i, i ≤ m → accN z (a.take m) (b.take m) i = accN z a b i
  | 0, _ => rfl
  | i + 1, h => by
    unfold accN
    rw [accN_take z a b m i (by omega)]
    have e : ∀ c : List UInt8, (c.take m).getD i 0 = c.getD i 0 := by
      intro c
      rw [List.getD_eq_getElem?_getD, List.getD_eq_getElem?_getD, List.getElem?_take, if_pos (by omega)]
    rw [e, e]

theorem ln46_ok : LnOK Try.prog (ln46 wf0) := by
  intro n0 b fr H p x e hn hp lg
  unfold ln46 at e
  split at e <;> cases e
  rename_i pa oa la ca ea pb ob lb cb eb z m h1 h2 h3 h4
  obtain ⟨rfl, hb, hf, g1, g2, g3, g4, ⟨al, hal⟩, bl, hbl⟩ := hp
  have hb : b = lp46 := hb
  subst hb
  refine LoopTo.pre (Weak.forget (by simp) mk46) ?_ lg
  rw [hf]
  have := loop46 ca ea cb eb g1 g2 g3 g4 hal hbl
  have e : WF.acc wf0 (ops0.nat z) pa oa pb ob (ops0.nat m) = accN (ops0.nat z) al bl (ops0.nat m) := by
    show accN _ (rdB pa oa _) (rdB pb ob _) _ = _
    rw [rdB_eq (hal.le g1), rdB_eq (hbl.le g2), accN_take _ _ _ _ _ (Nat.le_refl _)]
  show ∀ lg, LoopTo _ _ _ _ _ _ _ (fr46 pa oa la ca ea pb ob lb cb eb (WF.acc wf0 (ops0.nat z) pa oa pb ob (ops0.nat m)) (ops0.nat m) (ops0.nat m)) _ _
  rw [e]
  exact this

theorem equal46 {pa : List AV} {oa la : Nat} (ca : Nat) (ea : Bool) {pb : List AV} {ob lb : Nat} (cb : Nat) (eb : Bool) {al bl : List UInt8} (ha : BytesAt pa oa la al) (hb : BytesAt pb ob lb bl) (hla : la < 137438953472) (hlb : lb < 137438953472) :
    CallTo Try.prog 46 [.ros pa oa la ca ea, .ros pb ob lb cb eb] [] (.bool (decide (al = bl))) [] [] := by
  refine call_x (noCn_ok _) ln46_ok (tabOne_ok ok46) (tabOne_self 46 vf46) (n := 200) (g := kdYes) ?_
  rw [vc46]
  have hx : ops0.bin .xor .i64 (ops0.ofn la) (ops0.ofn lb) = Int.ofNat (la ^^^ lb) := by rw [nOfn, nOfn, nXor (by omega) (by omega)]
  have hm : ops0.mnx false (ops0.ofn la) (ops0.ofn lb) = Int.ofNat (min la lb) := by
    show (if Int.ofNat lb < Int.ofNat la then Int.ofNat lb else Int.ofNat la) = _
    rcases Nat.lt_or_ge lb la with h | h
    · rw [if_pos (by simp; omega), Nat.min_eq_right (by omega)]
    · rw [if_neg (by simp; omega), Nat.min_eq_left h]
  rw [hx, hm, nNat, nNat]
  have hz : la ^^^ lb < 2 ^ 63 := Nat.xor_lt_two_pow (by omega) (by omega)
  have e : WF.acc wf0 (la ^^^ lb) pa oa pb ob (min la lb) = accN (la ^^^ lb) al bl (min la lb) := by
    show accN _ (rdB pa oa _) (rdB pb ob _) _ = _
    rw [rdB_eq (ha.le (by omega)), rdB_eq (hb.le (by omega)), accN_take _ _ _ _ _ (Nat.le_refl _)]
  rw [e]
  refine ⟨⟨rfl, rfl, rfl, by omega, by omega, hla, hz, ⟨al, ha⟩, bl, hb⟩, ?_⟩
  have key : accN (la ^^^ lb) al bl (min la lb) = 0 ↔ al = bl := by
    rw [accN_zero, nxor_zero]
    have h1 := ha.1
    have h2 := hb.1
    constructor
    · rintro ⟨g1, g2⟩
      apply List.ext_getElem (by omega)
      intro i hi hj
      have := g2 i (by omega)
      rw [List.getD_eq_getElem?_getD, List.getD_eq_getElem?_getD, List.getElem?_eq_getElem hi, List.getElem?_eq_getElem hj] at this
      exact this
    · rintro rfl
      exact ⟨by omega, fun _ _ => rfl⟩
  refine Br.mk (fun h => ?_) (fun h => ?_)
  · have h : accN (la ^^^ lb) al bl (min la lb) = 0 := by
      have := nEql (a := accN (la ^^^ lb) al bl (min la lb)) (b := 0)
      rw [this] at h
      exact of_decide_eq_true h
    exact ⟨by rw [decide_eq_true (key.1 h)], rfl, rfl⟩
  · have h : ¬ accN (la ^^^ lb) al bl (min la lb) = 0 := by
      have := nEql (a := accN (la ^^^ lb) al bl (min la lb)) (b := 0)
      rw [this] at h
      exact of_decide_eq_false h
    exact ⟨by rw [decide_eq_false (fun k => h (key.2 k))], rfl, rfl⟩

/-! ### All contracts -/
theorem inM_true {l : List UInt8} {n : Nat} (h : inM l n = true) : l.length ≤ 64 ∧ 1 ≤ n ∧ n ≤ 65536 := by
  simpa only [inM, Bool.and_eq_true, decide_eq_true_eq] using h
theorem inM_false {l : List UInt8} {n : Nat} (h : inM l n = false) : 64 < l.length ∨ n = 0 ∨ 65536 < n := by
  have : ¬ (l.length ≤ 64 ∧ 1 ≤ n ∧ n ≤ 65536) := by
    intro hk
    have : inM l n = true := by simpa only [inM, Bool.and_eq_true, decide_eq_true_eq] using hk
    rw [this] at h; cases h
  omega

theorem cnM_ok : CnOK Try.prog (cnM hf0) := by
  intro f vals H p x e hp
  unfold cnM at e
  split at e
  · rename_i ks l y
    split at e <;> cases e
    rename_i pc off len cap ex hv
    obtain ⟨⟨key, hk, rfl⟩, hf, ho, hl, lb, hb⟩ := hp
    have hws : Vws H [.agg (key.map by8), .str l, y] [.agg (key.map by8), .str l, .ros pc off len cap ex] := .cons (Vw.agg H (Still.flat (flat_by8 key))) (.cons (Vw.str H l) (.cons (Vw.one hv hf) .nil))
    cases hm : inM l len with
    | true =>
      obtain ⟨m1, m2, m3⟩ := inM_true hm
      simp only [CRes.fin, hm]
      have h := CallTo.lookS (mask37 hk m1 cap ex hf hb m2 m3) (flat_by8 _) hws
      show CallTo _ _ _ _ _ (join H [.cells ((maskL (bytesA (key.map by8)) l (rdB pc off len)).map by8)]) _
      rw [bytesA_by8, rdB_eq hb]
      exact h
    | false =>
      simp only [CRes.fin, hm]
      exact CallTo.lookV (mask37n hk cap ex (inM_false hm)) hws
  · rename_i ks l y
    split at e <;> cases e
    rename_i pc off len cap ex hv
    obtain ⟨⟨key, hk, rfl⟩, hf, ho, hl, lb, hb⟩ := hp
    have hws : Vws H [.agg (key.map by8), .str l, y] [.agg (key.map by8), .str l, .ros pc off len cap ex] := .cons (Vw.agg H (Still.flat (flat_by8 key))) (.cons (Vw.str H l) (.cons (Vw.one hv hf) .nil))
    cases hm : inM l len with
    | true =>
      obtain ⟨m1, m2, m3⟩ := inM_true hm
      simp only [CRes.fin, hm]
      have h := CallTo.lookS (mask39 hk m1 cap ex hf hb m2 m3) (flat_by8 _) hws
      show CallTo _ _ _ _ _ (join H [.cells ((maskL (bytesA (key.map by8)) l (rdB pc off len)).map by8)]) _
      rw [bytesA_by8, rdB_eq hb]
      exact h
    | false =>
      simp only [CRes.fin, hm]
      exact CallTo.lookV (mask39n hk cap ex (inM_false hm)) hws
  · rename_i y z
    split at e <;> cases e
    rename_i pa oa la ca ea pb ob lb cb eb h1 h2
    obtain ⟨⟨hf, ho, hl, al, hal⟩, hf', ho', hl', bl, hbl⟩ := hp
    have h := CallTo.lookV (H := H) (equal46 ca ea cb eb hal hbl hl hl') (.cons (Vw.one h1 hf) (.cons (Vw.one h2 hf') .nil))
    have e1 : HF.eq hf0 (rdB pa oa la) (rdB pb ob lb) = decide (al = bl) := by
      show decide (rdB pa oa la = rdB pb ob lb) = _
      rw [rdB_eq hal, rdB_eq hbl]
    cases hd : decide (al = bl) with
    | true =>
      rw [hd] at h
      rw [hd] at e1
      simp only [CRes.fin, e1]
      exact h
    | false =>
      rw [hd] at h
      rw [hd] at e1
      simp only [CRes.fin, e1]
      exact h
  · rename_i ks l n
    cases e
    obtain ⟨⟨key, hk, rfl⟩, hn⟩ := hp
    obtain ⟨m, rfl⟩ : ∃ m : Nat, n = Int.ofNat m := ⟨n.toNat, (Int.toNat_of_nonneg hn).symm⟩
    have h := CallTo.lookV (H := H) (derive42 hk l m) (.cons (Vw.agg H (Still.flat (flat_by8 key))) (.cons (Vw.str H l) (.cons (Vw.int H _ _) .nil)))
    rw [backV_flat (flat_by8 _)] at h
    show CallTo _ _ _ _ (.agg ((tagL (bytesA (key.map by8)) l [bytesN m]).map by8)) _ _
    rw [bytesA_by8]
    exact h
  · rename_i ks l n
    cases e
    obtain ⟨⟨key, hk, rfl⟩, hn⟩ := hp
    obtain ⟨m, rfl⟩ : ∃ m : Nat, n = Int.ofNat m := ⟨n.toNat, (Int.toNat_of_nonneg hn).symm⟩
    have h := CallTo.lookV (H := H) (derive43 hk l m) (.cons (Vw.agg H (Still.flat (flat_by8 key))) (.cons (Vw.str H l) (.cons (Vw.int H _ _) .nil)))
    rw [backV_flat (flat_by8 _)] at h
    show CallTo _ _ _ _ (.agg ((tagL (bytesA (key.map by8)) l [bytesN m]).map by8)) _ _
    rw [bytesA_by8]
    exact h
  · rename_i ks
    cases e
    obtain ⟨key, hk, rfl⟩ := hp
    have h := CallTo.lookV (H := H) (hash47 hk) (.cons (Vw.agg H (Still.flat (flat_by8 key))) .nil)
    rw [backV_flat (flat_by8 _)] at h
    show CallTo _ _ _ _ (.agg ((sumL (bytesA (key.map by8))).map by8)) _ _
    rw [bytesA_by8]
    exact h
  · exact cnN2_ok _ _ _ _ _ e hp

theorem vc38 (S : HF) (Q : AV → Hl → Prop) :
  (vcall (vcA kdYes (cnM S) noLn) ops0 (tabOne 38 vf38) 200 vf38 [] [] (endN (fun _ => 0) Q)) =
 ((((PKey (key1.map by8)) ∧
 (PB (abcL.map by8) 0 3)) ∧
 (((PKey (key1.map by8)) ∧
 (PTag [] 0 0)) ∧
 (((PKey (key1.map by8)) ∧
 (PTag [] 0 0)) ∧
 (Chk (ops0.eq (ops0.len (GF.tag (NG.toGF (HF.toNG S)) (key1.map by8) [120] [])) 32)
 (Chk (ops0.eq (ops0.len (GF.tag (NG.toGF (HF.toNG S)) (key1.map by8) [121] [])) 32)
 (Chk (ops0.le 32 (ops0.len (GF.tag (NG.toGF (HF.toNG S)) (key1.map by8) [120] [])))
 (Chk (ops0.le 32 (ops0.len (GF.tag (NG.toGF (HF.toNG S)) (key1.map by8) [121] [])))
 (∃ l : (List Int), ((((ops0.ext (GF.tag (NG.toGF (HF.toNG S)) (key1.map by8) [120] []) 0 32) : (List AV)) = (List.map (AV.int IntKind.u8) l)) ∧
 (∃ l1 : (List Int), ((((ops0.ext (GF.tag (NG.toGF (HF.toNG S)) (key1.map by8) [121] []) 0 32) : (List AV)) = (List.map (AV.int IntKind.u8) l1)) ∧
 (Br (ops0.eqi l l1)
 (Q (AV.bool Bool.false) [])
 (Chk (ops0.le 3 (ops0.len (HF.mask S (key1.map by8) [120] abcL)))
 (∃ l2 : (List UInt8), ((((ops0.ext (HF.mask S (key1.map by8) [120] abcL) 0 3) : (List AV)) = (List.map (fun b => (AV.int IntKind.u8 (((UInt8.toNat b) : Nat) : Int))) l2)) ∧
 (Br (ops0.eqs l2 abcL)
 (Q (AV.bool Bool.false) [])
 (((PB [] 0 0) ∧
 (PB [] 0 0)) ∧
 (Br (HF.eq S [] [])
 (((PB [(AV.int IntKind.u8 (Int.ofNat 1))] 0 1) ∧
 (PB [(AV.int IntKind.u8 (Int.ofNat 2))] 0 1)) ∧
 (Br (HF.eq S [1] [2])
 (Q (AV.bool Bool.false) [])
 (((Int.ofNat 0) ≤ (Int.ofNat 3)) ∧
 (Q (AV.bool Bool.true) []))))
 (Q (AV.bool Bool.false) [])))))))))))))))))))) := by kernel_rfl

theorem key1_length : key1.length = 32 := by kernel_rfl
theorem tags_ne : decide (tagL key1 [120] [] = tagL key1 [121] []) = false := by kernel_rfl
theorem mask_ne : decide (maskL key1 [120] abcL = abcL) = false := by kernel_rfl

theorem hmask_eq (key l b : List UInt8) : HF.mask hf0 (key.map by8) l b = (maskL key l b).map by8 := by
  show (maskL (bytesA (key.map by8)) l b).map by8 = _
  rw [bytesA_by8]
theorem htag_eq (key l : List UInt8) (pl : List (List UInt8)) : GF.tag (NG.toGF (HF.toNG hf0)) (key.map by8) l pl = (tagL key l pl).map by8 := gtag_eq key l pl
theorem pkey (key : List UInt8) (h : key.length = 32) : PKey (key.map by8) := ⟨key, h, rfl⟩
theorem pb_whole (lb : List UInt8) (n : Nat) (h : n = lb.length) (hl : lb.length < 137438953472) : PB (lb.map by8) 0 n := by
  subst h
  exact ⟨flat_by8 _, by simp, hl, lb, bytesAt_whole lb⟩
theorem ptag_nil : PTag [] 0 0 := ⟨pps_nil, fun j hj => by omega, by rw [partsL_zero, textL_nil]; simp⟩
theorem by8_ints (l : List UInt8) : l.map by8 = (l.map fun b => Int.ofNat b.toNat).map (AV.int .u8) := by
  rw [List.map_map]; rfl
theorem ints_inj {l m : List UInt8} (h : (l.map fun b => Int.ofNat b.toNat) = m.map fun b => Int.ofNat b.toNat) : l = m := by
  apply List.ext_getElem?
  intro i
  have := congrArg (fun x => x[i]?) h
  simp only [List.getElem?_map] at this
  cases h1 : l[i]? <;> cases h2 : m[i]? <;> simp_all
  exact UInt8.toNat_inj.1 (by omega)

theorem ext32 {xs : List AV} (h : xs.length = 32) : ops0.ext xs 0 32 = xs := by rw [nExt, List.drop_zero, List.take_of_length_le (by omega)]
theorem le32 {xs : List AV} (h : xs.length = 32) : ops0.le 32 (ops0.len xs) = true := by rw [nLe, nLen]; exact decide_eq_true (by omega)
theorem eq32 {xs : List AV} (h : xs.length = 32) : ops0.eq (ops0.len xs) 32 = true := by rw [nEq, nLen]; exact decide_eq_true h

theorem lives38 (H : Hl) : CallTo Try.prog 38 [] H (.bool true) H [] := by
  have hc : CallTo Try.prog 38 [] [] (.bool true) [] [] := by
    refine call_n cnM_ok (noLn_ok _) (tabOne_ok ok38) (tabOne_self 38 vf38) (n := 200) (g := kdYes) (m := fun _ => 0) [] ?_ (by simp) rfl (by simp)
    rw [vc38, htag_eq, htag_eq, hmask_eq]
    have hne : tagL key1 [120] [] ≠ tagL key1 [121] [] := of_decide_eq_false tags_ne
    have hme : maskL key1 [120] abcL ≠ abcL := of_decide_eq_false mask_ne
    have hl1 := tagL_length key1 [120] []
    have hl2 := tagL_length key1 [121] []
    have hl3 : (maskL key1 [120] abcL).length = 3 := by rw [maskL_length]; rfl
    generalize tagL key1 [120] [] = t1 at hne hl1 ⊢
    generalize tagL key1 [121] [] = t2 at hne hl2 ⊢
    generalize maskL key1 [120] abcL = mm at hme hl3 ⊢
    have k1 : (t1.map by8).length = 32 := by rw [List.length_map, hl1]
    have k2 : (t2.map by8).length = 32 := by rw [List.length_map, hl2]
    have e1 : ops0.ext (mm.map by8) 0 3 = mm.map by8 := by rw [nExt, List.drop_zero, List.take_of_length_le (by rw [List.length_map]; omega)]
    rw [ext32 k1, ext32 k2, e1]
    refine ⟨⟨pkey key1 key1_length, pb_whole abcL 3 rfl (by show 3 < _; omega)⟩, ⟨pkey key1 key1_length, ptag_nil⟩, ⟨pkey key1 key1_length, ptag_nil⟩, Chk.mk (eq32 k1) (Chk.mk (eq32 k2) (Chk.mk (le32 k1) (Chk.mk (le32 k2) ?_)))⟩
    refine ⟨_, by8_ints t1, _, by8_ints t2, Br.f ?_ (Chk.mk (by rw [nLe, nLen, List.length_map]; exact decide_eq_true (by omega)) ⟨mm, List.map_congr_left (fun b _ => rfl), Br.f ?_ ?_⟩)⟩
    · rw [nEqi]
      exact decide_eq_false (fun h => hne (ints_inj h))
    · rw [nEqs]
      exact decide_eq_false hme
    · refine ⟨⟨pb_whole [] 0 rfl (by show 0 < _; omega), pb_whole [] 0 rfl (by show 0 < _; omega)⟩, ?_⟩
      refine Br.t rfl ?_
      refine ⟨⟨pb_whole [1] 1 rfl (by show 1 < _; omega), pb_whole [2] 1 rfl (by show 1 < _; omega)⟩, ?_⟩
      exact Br.f rfl ⟨by decide, rfl, rfl⟩
  exact CallTo.lookV (H := H) hc .nil

/-- With what lives. -/
def cnL4 (S : HF) : CnF := fun f vals H => match f, vals with
  | 38, [] => some (True, .ok (.bool true) H [])
  | f, vals => cnM S f vals H
theorem cnL4_ok : CnOK Try.prog (cnL4 hf0) := by
  intro f vals H p x e hp
  unfold cnL4 at e
  split at e
  · cases e; exact lives38 H
  · exact cnM_ok _ _ _ _ _ e hp

end
end Go.Proofs.Vm

namespace Go.Proofs.Vm
open Go.Vm
noncomputable section

theorem ckle {a b : Nat} {r : Prop} (h : a ≤ b) (k : r) : Chk (ops0.le a b) r := Chk.mk (by rw [nLe]; exact decide_eq_true h) k
theorem cklt {a b : Nat} {r : Prop} (h : a < b) (k : r) : Chk (ops0.lt a b) r := Chk.mk (by rw [nLt]; exact decide_eq_true h) k
theorem ckeq {a b : Nat} {r : Prop} (h : a = b) (k : r) : Chk (ops0.eq a b) r := Chk.mk (by rw [nEq]; exact decide_eq_true h) k
theorem ckroom {a b c : Nat} {r : Prop} (h : (a + b + 1) * (c + 1) ≤ 1099511627776) (k : r) : Chk (ops0.room a b c) r := Chk.mk (by rw [nRoom]; exact decide_eq_true h) k
theorem ckinr {a n : Nat} {r : Prop} (h : a < n) (k : r) : Chk (ops0.inr (Int.ofNat a) n) r := Chk.mk (by rw [nInr]; exact decide_eq_true h) k
theorem by8_str (l : List UInt8) : l.map by8 = List.map (fun b => AV.int .u8 ((b.toNat : Nat) : Int)) l := List.map_congr_left (fun b _ => rfl)
theorem strEx {l : List UInt8} {R : List UInt8 → Prop} (h : R l) : ∃ l1, (l.map by8 = List.map (fun b => AV.int .u8 ((b.toNat : Nat) : Int)) l1) ∧ R l1 := ⟨l, by8_str l, h⟩
theorem nilEx {R : List UInt8 → Prop} (h : R []) : ∃ l1 : List UInt8, ([] : List AV) = List.map (fun b => AV.int .u8 ((b.toNat : Nat) : Int)) l1 ∧ R l1 := ⟨[], rfl, h⟩
theorem intEx {l : List UInt8} {R : List Int → Prop} (h : R (l.map fun b => Int.ofNat b.toNat)) : ∃ l1, l.map by8 = List.map (AV.int .u8) l1 ∧ R l1 := ⟨_, by8_ints l, h⟩
theorem brEqs_t {l m : List UInt8} {r t : Prop} (h : l = m) (q : r) : Br (ops0.eqs l m) r t := Br.t (by rw [nEqs]; exact decide_eq_true h) q
theorem brEqi_t {l m : List Int} {r t : Prop} (h : l = m) (q : r) : Br (ops0.eqi l m) r t := Br.t (by rw [nEqi]; exact decide_eq_true h) q
theorem extW {l : List UInt8} {n : Nat} (h : l.length = n) : ops0.ext (l.map by8) 0 (ops0.mul n 1) = l.map by8 := by rw [nExt, nTimes, Nat.mul_one, List.drop_zero, List.take_of_length_le (by rw [List.length_map]; omega)]
theorem extB {pc : List AV} {off len : Nat} {lb : List UInt8} (h : BytesAt pc off len lb) : ops0.ext pc off (ops0.mul len 1) = lb.map by8 := by rw [nExt, nTimes, Nat.mul_one]; exact h.2
theorem rdW {l : List UInt8} {n : Nat} (h : l.length = n) : rdB (l.map by8) 0 n = l := by subst h; exact rdB_eq (bytesAt_whole l)
theorem lenW {l : List UInt8} {n : Nat} (h : l.length = n) : ops0.le (ops0.add 0 (ops0.mul n 1)) (ops0.len (l.map by8)) = true := by rw [nLe, nPlus, nTimes, nLen]; exact decide_eq_true (by rw [List.length_map]; omega)
theorem lenB {pc : List AV} {off len : Nat} (h : off + len ≤ pc.length) : ops0.le (ops0.add off (ops0.mul len 1)) (ops0.len pc) = true := by rw [nLe, nPlus, nTimes, nLen]; exact decide_eq_true (by omega)

theorem vc10 (S : HF) (ks pc : List AV) (l : List UInt8) (off len cap : Nat) (ex : Bool) (Q : AV → Prop) :
  (vcall (vcA kdYes (cnL4 S) noLn) ops0 (tabOne 10 vf10) 200 vf10 [.agg ks, .str l, .ros pc off len cap ex] [] (fun r _ _ => Q r)) =
 ((Chk (ops0.le (ops0.add off (ops0.mul len 1)) (ops0.len pc))
 (Chk (ops0.room 0 len 1)
 (Chk (ops0.le 32 (ops0.len ks))
 (((PKey (ops0.ext ks 0 32)) ∧
 (PB (ops0.ext pc off (ops0.mul len 1)) 0 len)) ∧
 (Br (inM l len)
 (True ∧
 (Chk (ops0.le (ops0.add 0 (ops0.mul len 1)) (ops0.len (HF.mask S (ops0.ext ks 0 32) l (rdB (ops0.ext pc off (ops0.mul len 1)) 0 len))))
 (∃ l1 : (List UInt8), ((((ops0.ext (HF.mask S (ops0.ext ks 0 32) l (rdB (ops0.ext pc off (ops0.mul len 1)) 0 len)) 0 (ops0.mul len 1)) : (List AV)) = (List.map (fun b => (AV.int IntKind.u8 (((UInt8.toNat b) : Nat) : Int))) l1)) ∧
 (Chk (ops0.le 32 (ops0.len ks))
 (((PKey (ops0.ext ks 0 32)) ∧
 (PB pc off len)) ∧
 (Br (inM l len)
 (Chk (ops0.le (ops0.add 0 (ops0.mul len 1)) (ops0.len (HF.mask S (ops0.ext ks 0 32) l (rdB pc off len))))
 (∃ l2 : (List UInt8), ((((ops0.ext (HF.mask S (ops0.ext ks 0 32) l (rdB pc off len)) 0 (ops0.mul len 1)) : (List AV)) = (List.map (fun b => (AV.int IntKind.u8 (((UInt8.toNat b) : Nat) : Int))) l2)) ∧
 (Br (ops0.eqs l1 l2)
 (Chk (ops0.le (ops0.add 0 (ops0.mul len 1)) (ops0.len (ops0.ext pc off (ops0.mul len 1))))
 (∃ l3 : (List UInt8), ((((ops0.ext (ops0.ext pc off (ops0.mul len 1)) 0 (ops0.mul len 1)) : (List AV)) = (List.map (fun b => (AV.int IntKind.u8 (((UInt8.toNat b) : Nat) : Int))) l3)) ∧
 (Chk (ops0.le (ops0.add off (ops0.mul len 1)) (ops0.len pc))
 (∃ l4 : (List UInt8), ((((ops0.ext pc off (ops0.mul len 1)) : (List AV)) = (List.map (fun b => (AV.int IntKind.u8 (((UInt8.toNat b) : Nat) : Int))) l4)) ∧
 (Br (ops0.eqs l3 l4)
 (Br (ops0.cmp BinOp.gtr (ops0.ofn (ops0.slen l)) (Int.ofNat 64))
 (Q (AV.bool Bool.true))
 (Br (ops0.cmp BinOp.gtr (ops0.ofn len) (Int.ofNat 65536))
 (Q (AV.bool Bool.true))
 (Chk (ops0.le 32 (ops0.len ks))
 (((PKey (ops0.ext ks 0 32)) ∧
 (PB (HF.mask S (ops0.ext ks 0 32) l (rdB (ops0.ext pc off (ops0.mul len 1)) 0 len)) 0 len)) ∧
 (Br (inM l len)
 (Chk (ops0.le (ops0.add 0 (ops0.mul len 1)) (ops0.len (HF.mask S (ops0.ext ks 0 32) l (rdB (HF.mask S (ops0.ext ks 0 32) l (rdB (ops0.ext pc off (ops0.mul len 1)) 0 len)) 0 len))))
 (∃ l5 : (List UInt8), ((((ops0.ext (HF.mask S (ops0.ext ks 0 32) l (rdB (HF.mask S (ops0.ext ks 0 32) l (rdB (ops0.ext pc off (ops0.mul len 1)) 0 len)) 0 len)) 0 (ops0.mul len 1)) : (List AV)) = (List.map (fun b => (AV.int IntKind.u8 (((UInt8.toNat b) : Nat) : Int))) l5)) ∧
 (Chk (ops0.le (ops0.add off (ops0.mul len 1)) (ops0.len pc))
 (∃ l6 : (List UInt8), ((((ops0.ext pc off (ops0.mul len 1)) : (List AV)) = (List.map (fun b => (AV.int IntKind.u8 (((UInt8.toNat b) : Nat) : Int))) l6)) ∧
 (Br (ops0.eqs l5 l6)
 (Q (AV.bool Bool.true))
 (Q (AV.bool Bool.false)))))))))
 (∃ l5 : (List UInt8), ((([] : (List AV)) = (List.map (fun b => (AV.int IntKind.u8 (((UInt8.toNat b) : Nat) : Int))) l5)) ∧
 (Chk (ops0.le (ops0.add off (ops0.mul len 1)) (ops0.len pc))
 (∃ l6 : (List UInt8), ((((ops0.ext pc off (ops0.mul len 1)) : (List AV)) = (List.map (fun b => (AV.int IntKind.u8 (((UInt8.toNat b) : Nat) : Int))) l6)) ∧
 (Br (ops0.eqs l5 l6)
 (Q (AV.bool Bool.true))
 (Q (AV.bool Bool.false)))))))))))))
 (Q (AV.bool Bool.false)))))))))
 (Q (AV.bool Bool.false))))))
 (∃ l2 : (List UInt8), ((([] : (List AV)) = (List.map (fun b => (AV.int IntKind.u8 (((UInt8.toNat b) : Nat) : Int))) l2)) ∧
 (Br (ops0.eqs l1 l2)
 (Chk (ops0.le (ops0.add 0 (ops0.mul len 1)) (ops0.len (ops0.ext pc off (ops0.mul len 1))))
 (∃ l3 : (List UInt8), ((((ops0.ext (ops0.ext pc off (ops0.mul len 1)) 0 (ops0.mul len 1)) : (List AV)) = (List.map (fun b => (AV.int IntKind.u8 (((UInt8.toNat b) : Nat) : Int))) l3)) ∧
 (Chk (ops0.le (ops0.add off (ops0.mul len 1)) (ops0.len pc))
 (∃ l4 : (List UInt8), ((((ops0.ext pc off (ops0.mul len 1)) : (List AV)) = (List.map (fun b => (AV.int IntKind.u8 (((UInt8.toNat b) : Nat) : Int))) l4)) ∧
 (Br (ops0.eqs l3 l4)
 (Br (ops0.cmp BinOp.gtr (ops0.ofn (ops0.slen l)) (Int.ofNat 64))
 (Q (AV.bool Bool.true))
 (Br (ops0.cmp BinOp.gtr (ops0.ofn len) (Int.ofNat 65536))
 (Q (AV.bool Bool.true))
 (Chk (ops0.le 32 (ops0.len ks))
 (((PKey (ops0.ext ks 0 32)) ∧
 (PB (HF.mask S (ops0.ext ks 0 32) l (rdB (ops0.ext pc off (ops0.mul len 1)) 0 len)) 0 len)) ∧
 (Br (inM l len)
 (Chk (ops0.le (ops0.add 0 (ops0.mul len 1)) (ops0.len (HF.mask S (ops0.ext ks 0 32) l (rdB (HF.mask S (ops0.ext ks 0 32) l (rdB (ops0.ext pc off (ops0.mul len 1)) 0 len)) 0 len))))
 (∃ l5 : (List UInt8), ((((ops0.ext (HF.mask S (ops0.ext ks 0 32) l (rdB (HF.mask S (ops0.ext ks 0 32) l (rdB (ops0.ext pc off (ops0.mul len 1)) 0 len)) 0 len)) 0 (ops0.mul len 1)) : (List AV)) = (List.map (fun b => (AV.int IntKind.u8 (((UInt8.toNat b) : Nat) : Int))) l5)) ∧
 (Chk (ops0.le (ops0.add off (ops0.mul len 1)) (ops0.len pc))
 (∃ l6 : (List UInt8), ((((ops0.ext pc off (ops0.mul len 1)) : (List AV)) = (List.map (fun b => (AV.int IntKind.u8 (((UInt8.toNat b) : Nat) : Int))) l6)) ∧
 (Br (ops0.eqs l5 l6)
 (Q (AV.bool Bool.true))
 (Q (AV.bool Bool.false)))))))))
 (∃ l5 : (List UInt8), ((([] : (List AV)) = (List.map (fun b => (AV.int IntKind.u8 (((UInt8.toNat b) : Nat) : Int))) l5)) ∧
 (Chk (ops0.le (ops0.add off (ops0.mul len 1)) (ops0.len pc))
 (∃ l6 : (List UInt8), ((((ops0.ext pc off (ops0.mul len 1)) : (List AV)) = (List.map (fun b => (AV.int IntKind.u8 (((UInt8.toNat b) : Nat) : Int))) l6)) ∧
 (Br (ops0.eqs l5 l6)
 (Q (AV.bool Bool.true))
 (Q (AV.bool Bool.false)))))))))))))
 (Q (AV.bool Bool.false)))))))))
 (Q (AV.bool Bool.false))))))))))))
 (True ∧
 (∃ l1 : (List UInt8), ((([] : (List AV)) = (List.map (fun b => (AV.int IntKind.u8 (((UInt8.toNat b) : Nat) : Int))) l1)) ∧
 (Chk (ops0.le 32 (ops0.len ks))
 (((PKey (ops0.ext ks 0 32)) ∧
 (PB pc off len)) ∧
 (Br (inM l len)
 (Chk (ops0.le (ops0.add 0 (ops0.mul len 1)) (ops0.len (HF.mask S (ops0.ext ks 0 32) l (rdB pc off len))))
 (∃ l2 : (List UInt8), ((((ops0.ext (HF.mask S (ops0.ext ks 0 32) l (rdB pc off len)) 0 (ops0.mul len 1)) : (List AV)) = (List.map (fun b => (AV.int IntKind.u8 (((UInt8.toNat b) : Nat) : Int))) l2)) ∧
 (Br (ops0.eqs l1 l2)
 (Chk (ops0.le (ops0.add 0 (ops0.mul len 1)) (ops0.len (ops0.ext pc off (ops0.mul len 1))))
 (∃ l3 : (List UInt8), ((((ops0.ext (ops0.ext pc off (ops0.mul len 1)) 0 (ops0.mul len 1)) : (List AV)) = (List.map (fun b => (AV.int IntKind.u8 (((UInt8.toNat b) : Nat) : Int))) l3)) ∧
 (Chk (ops0.le (ops0.add off (ops0.mul len 1)) (ops0.len pc))
 (∃ l4 : (List UInt8), ((((ops0.ext pc off (ops0.mul len 1)) : (List AV)) = (List.map (fun b => (AV.int IntKind.u8 (((UInt8.toNat b) : Nat) : Int))) l4)) ∧
 (Br (ops0.eqs l3 l4)
 (Br (ops0.cmp BinOp.gtr (ops0.ofn (ops0.slen l)) (Int.ofNat 64))
 (Q (AV.bool Bool.true))
 (Br (ops0.cmp BinOp.gtr (ops0.ofn len) (Int.ofNat 65536))
 (Q (AV.bool Bool.true))
 (Chk (ops0.le 32 (ops0.len ks))
 (((PKey (ops0.ext ks 0 32)) ∧
 (PB [] 0 0)) ∧
 (Br (inM l 0)
 (∃ l5 : (List UInt8), ((([] : (List AV)) = (List.map (fun b => (AV.int IntKind.u8 (((UInt8.toNat b) : Nat) : Int))) l5)) ∧
 (Chk (ops0.le (ops0.add off (ops0.mul len 1)) (ops0.len pc))
 (∃ l6 : (List UInt8), ((((ops0.ext pc off (ops0.mul len 1)) : (List AV)) = (List.map (fun b => (AV.int IntKind.u8 (((UInt8.toNat b) : Nat) : Int))) l6)) ∧
 (Br (ops0.eqs l5 l6)
 (Q (AV.bool Bool.true))
 (Q (AV.bool Bool.false))))))))
 (∃ l5 : (List UInt8), ((([] : (List AV)) = (List.map (fun b => (AV.int IntKind.u8 (((UInt8.toNat b) : Nat) : Int))) l5)) ∧
 (Chk (ops0.le (ops0.add off (ops0.mul len 1)) (ops0.len pc))
 (∃ l6 : (List UInt8), ((((ops0.ext pc off (ops0.mul len 1)) : (List AV)) = (List.map (fun b => (AV.int IntKind.u8 (((UInt8.toNat b) : Nat) : Int))) l6)) ∧
 (Br (ops0.eqs l5 l6)
 (Q (AV.bool Bool.true))
 (Q (AV.bool Bool.false)))))))))))))
 (Q (AV.bool Bool.false)))))))))
 (Q (AV.bool Bool.false))))))
 (∃ l2 : (List UInt8), ((([] : (List AV)) = (List.map (fun b => (AV.int IntKind.u8 (((UInt8.toNat b) : Nat) : Int))) l2)) ∧
 (Br (ops0.eqs l1 l2)
 (Chk (ops0.le (ops0.add 0 (ops0.mul len 1)) (ops0.len (ops0.ext pc off (ops0.mul len 1))))
 (∃ l3 : (List UInt8), ((((ops0.ext (ops0.ext pc off (ops0.mul len 1)) 0 (ops0.mul len 1)) : (List AV)) = (List.map (fun b => (AV.int IntKind.u8 (((UInt8.toNat b) : Nat) : Int))) l3)) ∧
 (Chk (ops0.le (ops0.add off (ops0.mul len 1)) (ops0.len pc))
 (∃ l4 : (List UInt8), ((((ops0.ext pc off (ops0.mul len 1)) : (List AV)) = (List.map (fun b => (AV.int IntKind.u8 (((UInt8.toNat b) : Nat) : Int))) l4)) ∧
 (Br (ops0.eqs l3 l4)
 (Br (ops0.cmp BinOp.gtr (ops0.ofn (ops0.slen l)) (Int.ofNat 64))
 (Q (AV.bool Bool.true))
 (Br (ops0.cmp BinOp.gtr (ops0.ofn len) (Int.ofNat 65536))
 (Q (AV.bool Bool.true))
 (Chk (ops0.le 32 (ops0.len ks))
 (((PKey (ops0.ext ks 0 32)) ∧
 (PB [] 0 0)) ∧
 (Br (inM l 0)
 (∃ l5 : (List UInt8), ((([] : (List AV)) = (List.map (fun b => (AV.int IntKind.u8 (((UInt8.toNat b) : Nat) : Int))) l5)) ∧
 (Chk (ops0.le (ops0.add off (ops0.mul len 1)) (ops0.len pc))
 (∃ l6 : (List UInt8), ((((ops0.ext pc off (ops0.mul len 1)) : (List AV)) = (List.map (fun b => (AV.int IntKind.u8 (((UInt8.toNat b) : Nat) : Int))) l6)) ∧
 (Br (ops0.eqs l5 l6)
 (Q (AV.bool Bool.true))
 (Q (AV.bool Bool.false))))))))
 (∃ l5 : (List UInt8), ((([] : (List AV)) = (List.map (fun b => (AV.int IntKind.u8 (((UInt8.toNat b) : Nat) : Int))) l5)) ∧
 (Chk (ops0.le (ops0.add off (ops0.mul len 1)) (ops0.len pc))
 (∃ l6 : (List UInt8), ((((ops0.ext pc off (ops0.mul len 1)) : (List AV)) = (List.map (fun b => (AV.int IntKind.u8 (((UInt8.toNat b) : Nat) : Int))) l6)) ∧
 (Br (ops0.eqs l5 l6)
 (Q (AV.bool Bool.true))
 (Q (AV.bool Bool.false)))))))))))))
 (Q (AV.bool Bool.false)))))))))
 (Q (AV.bool Bool.false))))))))))))))))) := by kernel_rfl

theorem vc11 (S : HF) (ks pa : List AV) (oa la ca : Nat) (ea : Bool) (pb : List AV) (ob lb cb : Nat) (eb : Bool) (Q : AV → Prop) :
  (vcall (vcA kdYes (cnL4 S) noLn) ops0 (tabOne 11 vf11) 200 vf11 [.agg ks, .ros pa oa la ca ea, .ros pb ob lb cb eb] [] (fun r _ _ => Q r)) =
 ((Chk (ops0.le 32 (ops0.len ks))
 (Chk (ops0.le (ops0.add oa (ops0.mul la 1)) (ops0.len pa))
 (Chk (ops0.room 0 la 1)
 (Chk (ops0.le (ops0.add 0 (ops0.mul la 1)) (ops0.len (ops0.ext pa oa (ops0.mul la 1))))
 (Chk (ops0.le (ops0.add ob (ops0.mul lb 1)) (ops0.len pb))
 (Chk (ops0.room la lb 1)
 (((PKey (ops0.ext ks 0 32)) ∧
 (PTag [(AV.ros (ops0.app (ops0.ext (ops0.ext pa oa (ops0.mul la 1)) 0 (ops0.mul la 1)) (ops0.ext pb ob (ops0.mul lb 1))) 0 (ops0.add la lb) (ops0.add la lb) Bool.false)] 0 1)) ∧
 (Chk (ops0.eq (ops0.len (GF.tag (NG.toGF (HF.toNG S)) (ops0.ext ks 0 32) [120] [(partA (AV.ros (ops0.app (ops0.ext (ops0.ext pa oa (ops0.mul la 1)) 0 (ops0.mul la 1)) (ops0.ext pb ob (ops0.mul lb 1))) 0 (ops0.add la lb) (ops0.add la lb) Bool.false))])) 32)
 (Chk (own (AV.agg (GF.tag (NG.toGF (HF.toNG S)) (ops0.ext ks 0 32) [120] [(partA (AV.ros (ops0.app (ops0.ext (ops0.ext pa oa (ops0.mul la 1)) 0 (ops0.mul la 1)) (ops0.ext pb ob (ops0.mul lb 1))) 0 (ops0.add la lb) (ops0.add la lb) Bool.false))])))
 (Chk (nm 3 (AV.agg (ops0.ext ks 0 32)))
 (Chk (nmB 3 (Blk.cells ks))
 (Chk (nmB 3 (Blk.cells (ops0.app (ops0.ext (ops0.ext pa oa (ops0.mul la 1)) 0 (ops0.mul la 1)) (ops0.ext pb ob (ops0.mul lb 1)))))
 (Chk (ownB (Blk.cells ks))
 (Chk (ownB (Blk.cells (ops0.app (ops0.ext (ops0.ext pa oa (ops0.mul la 1)) 0 (ops0.mul la 1)) (ops0.ext pb ob (ops0.mul lb 1)))))
 (Chk (ops0.le 32 (ops0.len ks))
 (((PKey (ops0.ext ks 0 32)) ∧
 (PTag [(AV.ros pa oa la ca ea), (AV.ros pb ob lb cb eb)] 0 2)) ∧
 (Chk (ops0.eq (ops0.len (GF.tag (NG.toGF (HF.toNG S)) (ops0.ext ks 0 32) [120] [(partA (AV.ros pa oa la ca ea)), (partA (AV.ros pb ob lb cb eb))])) 32)
 (True ∧
 (Chk (ops0.le 32 (ops0.len ks))
 (Chk (ops0.le (ops0.add oa (ops0.mul la 1)) (ops0.len pa))
 (Chk (ops0.room 0 la 1)
 (Chk (ops0.le (ops0.add 0 (ops0.mul la 1)) (ops0.len (ops0.ext pa oa (ops0.mul la 1))))
 (Chk (ops0.le (ops0.add ob (ops0.mul lb 1)) (ops0.len pb))
 (Chk (ops0.room la lb 1)
 (((PKey (ops0.ext ks 0 32)) ∧
 (PTag [(AV.ros (ops0.app (ops0.ext (ops0.ext pa oa (ops0.mul la 1)) 0 (ops0.mul la 1)) (ops0.ext pb ob (ops0.mul lb 1))) 0 (ops0.add la lb) (ops0.add la lb) Bool.false)] 0 1)) ∧
 (Chk (ops0.le 32 (ops0.len (ops0.spl (z8 32) 0 (GF.tag (NG.toGF (HF.toNG S)) (ops0.ext ks 0 32) [120] [(partA (AV.ros (ops0.app (ops0.ext (ops0.ext pa oa (ops0.mul la 1)) 0 (ops0.mul la 1)) (ops0.ext pb ob (ops0.mul lb 1))) 0 (ops0.add la lb) (ops0.add la lb) Bool.false))]))))
 (Chk (ops0.eq (ops0.len (GF.tag (NG.toGF (HF.toNG S)) (ops0.ext ks 0 32) [120] [(partA (AV.ros (ops0.app (ops0.ext (ops0.ext pa oa (ops0.mul la 1)) 0 (ops0.mul la 1)) (ops0.ext pb ob (ops0.mul lb 1))) 0 (ops0.add la lb) (ops0.add la lb) Bool.false))])) 32)
 (Chk (ops0.eq (ops0.len (ops0.ext (ops0.spl (z8 32) 0 (GF.tag (NG.toGF (HF.toNG S)) (ops0.ext ks 0 32) [120] [(partA (AV.ros (ops0.app (ops0.ext (ops0.ext pa oa (ops0.mul la 1)) 0 (ops0.mul la 1)) (ops0.ext pb ob (ops0.mul lb 1))) 0 (ops0.add la lb) (ops0.add la lb) Bool.false))])) 0 32)) 32)
 (Chk (ops0.le 32 (ops0.len (GF.tag (NG.toGF (HF.toNG S)) (ops0.ext ks 0 32) [120] [(partA (AV.ros (ops0.app (ops0.ext (ops0.ext pa oa (ops0.mul la 1)) 0 (ops0.mul la 1)) (ops0.ext pb ob (ops0.mul lb 1))) 0 (ops0.add la lb) (ops0.add la lb) Bool.false))])))
 (Chk (ops0.le 32 (ops0.len (ops0.ext (ops0.spl (z8 32) 0 (GF.tag (NG.toGF (HF.toNG S)) (ops0.ext ks 0 32) [120] [(partA (AV.ros (ops0.app (ops0.ext (ops0.ext pa oa (ops0.mul la 1)) 0 (ops0.mul la 1)) (ops0.ext pb ob (ops0.mul lb 1))) 0 (ops0.add la lb) (ops0.add la lb) Bool.false))])) 0 32)))
 (∃ l : (List Int), ((((ops0.ext (GF.tag (NG.toGF (HF.toNG S)) (ops0.ext ks 0 32) [120] [(partA (AV.ros (ops0.app (ops0.ext (ops0.ext pa oa (ops0.mul la 1)) 0 (ops0.mul la 1)) (ops0.ext pb ob (ops0.mul lb 1))) 0 (ops0.add la lb) (ops0.add la lb) Bool.false))]) 0 32) : (List AV)) = (List.map (AV.int IntKind.u8) l)) ∧
 (∃ l1 : (List Int), ((((ops0.ext (ops0.ext (ops0.spl (z8 32) 0 (GF.tag (NG.toGF (HF.toNG S)) (ops0.ext ks 0 32) [120] [(partA (AV.ros (ops0.app (ops0.ext (ops0.ext pa oa (ops0.mul la 1)) 0 (ops0.mul la 1)) (ops0.ext pb ob (ops0.mul lb 1))) 0 (ops0.add la lb) (ops0.add la lb) Bool.false))])) 0 32) 0 32) : (List AV)) = (List.map (AV.int IntKind.u8) l1)) ∧
 (Br (ops0.eqi l l1)
 (Chk (ops0.le 32 (ops0.len ks))
 (((PKey (ops0.ext ks 0 32)) ∧
 (PTag [(AV.ros pa oa la ca ea), (AV.ros pb ob lb cb eb)] 0 2)) ∧
 (Chk (ops0.le 32 (ops0.len (ops0.spl (z8 32) 0 (GF.tag (NG.toGF (HF.toNG S)) (ops0.ext ks 0 32) [120] [(partA (AV.ros pa oa la ca ea)), (partA (AV.ros pb ob lb cb eb))]))))
 (Chk (ops0.eq (ops0.len (GF.tag (NG.toGF (HF.toNG S)) (ops0.ext ks 0 32) [120] [(partA (AV.ros pa oa la ca ea)), (partA (AV.ros pb ob lb cb eb))])) 32)
 (Chk (ops0.eq (ops0.len (ops0.ext (ops0.spl (z8 32) 0 (GF.tag (NG.toGF (HF.toNG S)) (ops0.ext ks 0 32) [120] [(partA (AV.ros pa oa la ca ea)), (partA (AV.ros pb ob lb cb eb))])) 0 32)) 32)
 (Chk (ops0.le 32 (ops0.len (GF.tag (NG.toGF (HF.toNG S)) (ops0.ext ks 0 32) [120] [(partA (AV.ros pa oa la ca ea)), (partA (AV.ros pb ob lb cb eb))])))
 (Chk (ops0.le 32 (ops0.len (ops0.ext (ops0.spl (z8 32) 0 (GF.tag (NG.toGF (HF.toNG S)) (ops0.ext ks 0 32) [120] [(partA (AV.ros pa oa la ca ea)), (partA (AV.ros pb ob lb cb eb))])) 0 32)))
 (∃ l2 : (List Int), ((((ops0.ext (GF.tag (NG.toGF (HF.toNG S)) (ops0.ext ks 0 32) [120] [(partA (AV.ros pa oa la ca ea)), (partA (AV.ros pb ob lb cb eb))]) 0 32) : (List AV)) = (List.map (AV.int IntKind.u8) l2)) ∧
 (∃ l3 : (List Int), ((((ops0.ext (ops0.ext (ops0.spl (z8 32) 0 (GF.tag (NG.toGF (HF.toNG S)) (ops0.ext ks 0 32) [120] [(partA (AV.ros pa oa la ca ea)), (partA (AV.ros pb ob lb cb eb))])) 0 32) 0 32) : (List AV)) = (List.map (AV.int IntKind.u8) l3)) ∧
 (Br (ops0.eqi l2 l3)
 (Chk (ops0.le 32 (ops0.len ks))
 (((PKey (ops0.ext ks 0 32)) ∧
 (PTag [(AV.ros pb ob lb cb eb), (AV.ros pa oa la ca ea)] 0 2)) ∧
 (Chk (ops0.le 32 (ops0.len ks))
 (((PKey (ops0.ext ks 0 32)) ∧
 (PTag [(AV.ros pb ob lb cb eb), (AV.ros pa oa la ca ea)] 0 2)) ∧
 (Chk (ops0.eq (ops0.len (GF.tag (NG.toGF (HF.toNG S)) (ops0.ext ks 0 32) [120] [(partA (AV.ros pb ob lb cb eb)), (partA (AV.ros pa oa la ca ea))])) 32)
 (Chk (ops0.eq (ops0.len (GF.tag (NG.toGF (HF.toNG S)) (ops0.ext ks 0 32) [120] [(partA (AV.ros pb ob lb cb eb)), (partA (AV.ros pa oa la ca ea))])) 32)
 (Chk (ops0.le 32 (ops0.len (GF.tag (NG.toGF (HF.toNG S)) (ops0.ext ks 0 32) [120] [(partA (AV.ros pb ob lb cb eb)), (partA (AV.ros pa oa la ca ea))])))
 (Chk (ops0.le 32 (ops0.len (GF.tag (NG.toGF (HF.toNG S)) (ops0.ext ks 0 32) [120] [(partA (AV.ros pb ob lb cb eb)), (partA (AV.ros pa oa la ca ea))])))
 (∃ l4 : (List Int), ((((ops0.ext (GF.tag (NG.toGF (HF.toNG S)) (ops0.ext ks 0 32) [120] [(partA (AV.ros pb ob lb cb eb)), (partA (AV.ros pa oa la ca ea))]) 0 32) : (List AV)) = (List.map (AV.int IntKind.u8) l4)) ∧
 (∃ l5 : (List Int), ((((ops0.ext (GF.tag (NG.toGF (HF.toNG S)) (ops0.ext ks 0 32) [120] [(partA (AV.ros pb ob lb cb eb)), (partA (AV.ros pa oa la ca ea))]) 0 32) : (List AV)) = (List.map (AV.int IntKind.u8) l5)) ∧
 (Br (ops0.eqi l4 l5)
 (Q (AV.bool Bool.true))
 (Q (AV.bool Bool.false)))))))))))))))
 (Q (AV.bool Bool.false))))))))))))))
 (Q (AV.bool Bool.false)))))))))))))))))))))))))))))))))))))) := by kernel_rfl

theorem vc14 (S : HF) (ks pa : List AV) (oa la ca : Nat) (ea : Bool) (pb : List AV) (ob lb cb : Nat) (eb : Bool) (Q : AV → Prop) :
  (vcall (vcA kdYes (cnL4 S) noLn) ops0 (tabOne 14 vf14) 200 vf14 [.ros pa oa la ca ea, .ros pb ob lb cb eb, .agg ks] [] (fun r _ _ => Q r)) =
 ((True ∧
 (((PB pa oa la) ∧
 (PB pb ob lb)) ∧
 (Br (HF.eq S (rdB pa oa la) (rdB pb ob lb))
 (Chk (ops0.le (ops0.add oa (ops0.mul la 1)) (ops0.len pa))
 (∃ l : (List UInt8), ((((ops0.ext pa oa (ops0.mul la 1)) : (List AV)) = (List.map (fun b => (AV.int IntKind.u8 (((UInt8.toNat b) : Nat) : Int))) l)) ∧
 (Chk (ops0.le (ops0.add ob (ops0.mul lb 1)) (ops0.len pb))
 (∃ l1 : (List UInt8), ((((ops0.ext pb ob (ops0.mul lb 1)) : (List AV)) = (List.map (fun b => (AV.int IntKind.u8 (((UInt8.toNat b) : Nat) : Int))) l1)) ∧
 (Br (ops0.eqs l l1)
 (Chk (ops0.le (ops0.add oa (ops0.mul la 1)) (ops0.len pa))
 (Chk (ops0.room 0 la 1)
 (((PB pa oa la) ∧
 (PB (ops0.ext pa oa (ops0.mul la 1)) 0 la)) ∧
 (Br (HF.eq S (rdB pa oa la) (rdB (ops0.ext pa oa (ops0.mul la 1)) 0 la))
 (Chk (ops0.le 32 (ops0.len ks))
 ((PKey (ops0.ext ks 0 32)) ∧
 (Chk (ops0.le 32 (ops0.len ks))
 ((PB ks 0 32) ∧
 (Chk (ops0.eq (ops0.len (HF.hash S (ops0.ext ks 0 32))) 32)
 (Chk (ops0.eq (ops0.len (KF.sum (AF.toKF (NF.toAF (NG.toNF (HF.toNG S)))) (rdB ks 0 32))) 32)
 (Chk (ops0.le 32 (ops0.len (HF.hash S (ops0.ext ks 0 32))))
 (Chk (ops0.le 32 (ops0.len (KF.sum (AF.toKF (NF.toAF (NG.toNF (HF.toNG S)))) (rdB ks 0 32))))
 (∃ l2 : (List Int), ((((ops0.ext (HF.hash S (ops0.ext ks 0 32)) 0 32) : (List AV)) = (List.map (AV.int IntKind.u8) l2)) ∧
 (∃ l3 : (List Int), ((((ops0.ext (KF.sum (AF.toKF (NF.toAF (NG.toNF (HF.toNG S)))) (rdB ks 0 32)) 0 32) : (List AV)) = (List.map (AV.int IntKind.u8) l3)) ∧
 (Br (ops0.eqi l2 l3)
 (Q (AV.bool Bool.true))
 (Q (AV.bool Bool.false)))))))))))))))
 (Q (AV.bool Bool.false))))))
 (Q (AV.bool Bool.false)))))))))
 (Chk (ops0.le (ops0.add oa (ops0.mul la 1)) (ops0.len pa))
 (∃ l : (List UInt8), ((((ops0.ext pa oa (ops0.mul la 1)) : (List AV)) = (List.map (fun b => (AV.int IntKind.u8 (((UInt8.toNat b) : Nat) : Int))) l)) ∧
 (Chk (ops0.le (ops0.add ob (ops0.mul lb 1)) (ops0.len pb))
 (∃ l1 : (List UInt8), ((((ops0.ext pb ob (ops0.mul lb 1)) : (List AV)) = (List.map (fun b => (AV.int IntKind.u8 (((UInt8.toNat b) : Nat) : Int))) l1)) ∧
 (Br (ops0.eqs l l1)
 (Q (AV.bool Bool.false))
 (Chk (ops0.le (ops0.add oa (ops0.mul la 1)) (ops0.len pa))
 (Chk (ops0.room 0 la 1)
 (((PB pa oa la) ∧
 (PB (ops0.ext pa oa (ops0.mul la 1)) 0 la)) ∧
 (Br (HF.eq S (rdB pa oa la) (rdB (ops0.ext pa oa (ops0.mul la 1)) 0 la))
 (Chk (ops0.le 32 (ops0.len ks))
 ((PKey (ops0.ext ks 0 32)) ∧
 (Chk (ops0.le 32 (ops0.len ks))
 ((PB ks 0 32) ∧
 (Chk (ops0.eq (ops0.len (HF.hash S (ops0.ext ks 0 32))) 32)
 (Chk (ops0.eq (ops0.len (KF.sum (AF.toKF (NF.toAF (NG.toNF (HF.toNG S)))) (rdB ks 0 32))) 32)
 (Chk (ops0.le 32 (ops0.len (HF.hash S (ops0.ext ks 0 32))))
 (Chk (ops0.le 32 (ops0.len (KF.sum (AF.toKF (NF.toAF (NG.toNF (HF.toNG S)))) (rdB ks 0 32))))
 (∃ l2 : (List Int), ((((ops0.ext (HF.hash S (ops0.ext ks 0 32)) 0 32) : (List AV)) = (List.map (AV.int IntKind.u8) l2)) ∧
 (∃ l3 : (List Int), ((((ops0.ext (KF.sum (AF.toKF (NF.toAF (NG.toNF (HF.toNG S)))) (rdB ks 0 32)) 0 32) : (List AV)) = (List.map (AV.int IntKind.u8) l3)) ∧
 (Br (ops0.eqi l2 l3)
 (Q (AV.bool Bool.true))
 (Q (AV.bool Bool.false)))))))))))))))
 (Q (AV.bool Bool.false))))))))))))))))) := by kernel_rfl

theorem xor_twice {a b : List UInt8} (h : a.length = b.length) : xorL a (xorL a b) = b := by
  unfold xorL
  apply List.ext_getElem
  · simp [h]
  · intro i h1 h2
    simp only [List.getElem_zipWith]
    rw [← UInt8.xor_assoc, UInt8.xor_self, UInt8.zero_xor]
theorem mask_twice (key l b : List UInt8) : maskL key l (maskL key l b) = b := by
  have h : (maskL key l b).length = b.length := maskL_length _ _ _
  show xorL (streamF 168 31 (maskL key l b).length (headL key l)) (xorL (streamF 168 31 b.length (headL key l)) b) = b
  rw [h]
  exact xor_twice (streamF_length _ _ _ _)
theorem gtr64 {l : List UInt8} : ops0.cmp .gtr (ops0.ofn (ops0.slen l)) (Int.ofNat 64) = decide (64 < l.length) := by rw [nOfn, nSlen, nGtr]
theorem gtr16 {n : Nat} : ops0.cmp .gtr (ops0.ofn n) (Int.ofNat 65536) = decide (65536 < n) := by rw [nOfn, nGtr]

theorem law10 {key l : List UInt8} (hk : key.length = 32) {pc : List AV} {off len : Nat} (cap : Nat) (ex : Bool) {lb : List UInt8} (hf : flatL pc) (hb : BytesAt pc off len lb) (ho : off + len ≤ pc.length) (hlen : len ≤ 1048576) :
    ∃ H' lg, CallTo Try.prog 10 [.agg (key.map by8), .str l, .ros pc off len cap ex] [] (.bool true) H' lg := by
  have hl := hb.1
  have hml := maskL_length key l lb
  have hm2 := maskL_length key l (maskL key l lb)
  have hp1 : PB pc off len := ⟨hf, ho, by omega, lb, hb⟩
  have hp2 : PB (lb.map by8) 0 len := pb_whole lb len hl.symm (by omega)
  have hp3 : PB ((maskL key l lb).map by8) 0 len := pb_whole _ len (by omega) (by omega)
  have hv : vcall (vcA kdYes (cnL4 hf0) noLn) ops0 (tabOne 10 vf10) 200 vf10 [.agg (key.map by8), .str l, .ros pc off len cap ex] [] (fun r _ _ => r = .bool true) := by
    rw [vc10, key_ext hk, extB hb, rdW hl, rdB_eq hb, hmask_eq, rdW (show (maskL key l lb).length = len by omega), hmask_eq, mask_twice, extW hl, extW (show (maskL key l lb).length = len by omega), gtr64, gtr16]
    refine Chk.mk (lenB ho) (ckroom (by omega) (Chk.mk (key_len hk) ⟨⟨pkey key hk, hp2⟩, ?_⟩))
    cases hm : inM l len with
    | true =>
      obtain ⟨m1, m2, m3⟩ := inM_true hm
      refine Br.t rfl ⟨trivial, Chk.mk (lenW (by omega)) (strEx (Chk.mk (key_len hk) ⟨⟨pkey key hk, hp1⟩, Br.t rfl (Chk.mk (lenW (by omega)) (strEx (brEqs_t rfl (Chk.mk (lenW hl) (strEx (Chk.mk (lenB ho) (strEx (brEqs_t rfl ?_))))))))⟩))⟩
      refine Br.f (decide_eq_false (by omega)) (Br.f (decide_eq_false (by omega)) (Chk.mk (key_len hk) ⟨⟨pkey key hk, hp3⟩, Br.t rfl (Chk.mk (lenW hl) (strEx (Chk.mk (lenB ho) (strEx (brEqs_t rfl rfl)))))⟩))
    | false =>
      have m := inM_false hm
      refine Br.f rfl ⟨trivial, nilEx (Chk.mk (key_len hk) ⟨⟨pkey key hk, hp1⟩, Br.f rfl (nilEx (brEqs_t rfl (Chk.mk (lenW hl) (strEx (Chk.mk (lenB ho) (strEx (brEqs_t rfl ?_)))))))⟩)⟩
      refine Br.mk (fun _ => rfl) (fun h1 => Br.mk (fun _ => rfl) (fun h2 => ?_))
      have h1 : ¬ 64 < l.length := of_decide_eq_false h1
      have h2 : ¬ 65536 < len := of_decide_eq_false h2
      have hz : len = 0 := by omega
      have hln : lb = [] := List.eq_nil_of_length_eq_zero (by omega)
      refine Chk.mk (key_len hk) ⟨⟨pkey key hk, pb_whole [] 0 rfl (by show 0 < _; omega)⟩, Br.f (by unfold inM; simp) (nilEx (Chk.mk (lenB ho) ?_))⟩
      rw [hln]
      exact nilEx (brEqs_t rfl rfl)
  obtain ⟨r, H', lg, hc, rfl⟩ := call_vcx cnL4_ok (noLn_ok _) (tabOne_ok ok10) (tabOne_self 10 vf10) hv
  exact ⟨H', lg, hc⟩

theorem heq_eq (a b : List UInt8) : HF.eq hf0 a b = decide (a = b) := rfl
theorem hhash_eq (key : List UInt8) : HF.hash hf0 (key.map by8) = (sumL key).map by8 := by
  show (sumL (bytesA (key.map by8))).map by8 = _
  rw [bytesA_by8]
theorem hsum_eq (l : List UInt8) : KF.sum (AF.toKF (NF.toAF (NG.toNF (HF.toNG hf0)))) l = (sumL l).map by8 := rfl
theorem sum32 (l : List UInt8) : ((sumL l).map by8).length = 32 := by rw [List.length_map, sumL_length]

theorem law14 {key : List UInt8} (hk : key.length = 32) {pa : List AV} {oa la : Nat} (ca : Nat) (ea : Bool) {pb : List AV} {ob lb : Nat} (cb : Nat) (eb : Bool) {al bl : List UInt8} (hfa : flatL pa) (ha : BytesAt pa oa la al) (hoa : oa + la ≤ pa.length) (hla : la ≤ 1048576)
    (hfb : flatL pb) (hb : BytesAt pb ob lb bl) (hob : ob + lb ≤ pb.length) (hlb : lb ≤ 1048576) :
    ∃ H' lg, CallTo Try.prog 14 [.ros pa oa la ca ea, .ros pb ob lb cb eb, .agg (key.map by8)] [] (.bool true) H' lg := by
  have h1 := ha.1
  have h2 := hb.1
  have pa1 : PB pa oa la := ⟨hfa, hoa, by omega, al, ha⟩
  have pb1 : PB pb ob lb := ⟨hfb, hob, by omega, bl, hb⟩
  have pa2 : PB (al.map by8) 0 la := pb_whole al la h1.symm (by omega)
  have hv : vcall (vcA kdYes (cnL4 hf0) noLn) ops0 (tabOne 14 vf14) 200 vf14 [.ros pa oa la ca ea, .ros pb ob lb cb eb, .agg (key.map by8)] [] (fun r _ _ => r = .bool true) := by
    rw [vc14, key_ext hk, extB ha, extB hb, rdW h1, rdB_eq ha, rdB_eq hb, heq_eq, heq_eq, hhash_eq, rdW hk, hsum_eq, ext32 (sum32 key)]
    have rest : ∀ (l l1 : List UInt8), (Chk (ops0.le (ops0.add oa (ops0.mul la 1)) (ops0.len pa))
        (Chk (ops0.room 0 la 1) ((PB pa oa la ∧ PB (al.map by8) 0 la) ∧ Br (decide (al = al)) (Chk (ops0.le 32 (ops0.len (key.map by8))) (PKey (key.map by8) ∧ Chk (ops0.le 32 (ops0.len (key.map by8))) (PB (key.map by8) 0 32 ∧
          Chk (ops0.eq (ops0.len ((sumL key).map by8)) 32) (Chk (ops0.eq (ops0.len ((sumL key).map by8)) 32) (Chk (ops0.le 32 (ops0.len ((sumL key).map by8))) (Chk (ops0.le 32 (ops0.len ((sumL key).map by8)))
          (∃ l2 : List Int, (sumL key).map by8 = List.map (AV.int IntKind.u8) l2 ∧ ∃ l3 : List Int, (sumL key).map by8 = List.map (AV.int IntKind.u8) l3 ∧ Br (ops0.eqi l2 l3) (AV.bool true = AV.bool true) (AV.bool false = AV.bool true)))))))) (AV.bool false = AV.bool true)))) := by
      intro l l1
      exact Chk.mk (lenB hoa) (ckroom (by omega) ⟨⟨pa1, pa2⟩, Br.t (decide_eq_true rfl) (Chk.mk (key_len hk) ⟨pkey key hk, Chk.mk (key_len hk) ⟨pb_whole key 32 hk.symm (by omega), Chk.mk (eq32 (sum32 key)) (Chk.mk (eq32 (sum32 key)) (Chk.mk (le32 (sum32 key)) (Chk.mk (le32 (sum32 key)) (intEx (intEx (brEqi_t rfl rfl))))))⟩⟩)⟩)
    refine ⟨trivial, ⟨pa1, pb1⟩, Br.mk (fun h => ?_) (fun h => ?_)⟩
    · have h : al = bl := of_decide_eq_true h
      exact Chk.mk (lenB hoa) (strEx (Chk.mk (lenB hob) (strEx (brEqs_t h (rest al bl)))))
    · have h : ¬ al = bl := of_decide_eq_false h
      exact Chk.mk (lenB hoa) (strEx (Chk.mk (lenB hob) (strEx (Br.f (by rw [nEqs]; exact decide_eq_false h) (rest al bl)))))
  obtain ⟨r, H', lg, hc, rfl⟩ := call_vcx cnL4_ok (noLn_ok _) (tabOne_ok ok14) (tabOne_self 14 vf14) hv
  exact ⟨H', lg, hc⟩

end
end Go.Proofs.Vm

namespace Go.Proofs.Vm
open Go.Vm Go.ChangeShapes Go.WideShapes Go.ChangeAt Go.RowKit

theorem Try.own : ownKnob Try.prog.godebug = none := by kernel_rfl
theorem Try.laidOut : laidOutB Try.prog = true := by kernel_rfl

theorem trodAll_below {H : Type} {enc : TypeId × Value → H} {P : Program} (hl : laidOutB P = true) {W W' : World} (hb : Below W.heap.size W W') : ∀ {ts : List TypeId} {vs : List Value} {ds : List (DataW H)} {ps : List MemPlace},
    (∀ t ∈ ts, P.readableRec t = true ∧ t < P.types.size) → DataW.TrodAll enc P W 0 (fun _ => true) true ts vs ds ps → (∀ x ∈ ps, x.block < W.heap.size) → DataW.TrodAll enc P W' 0 (fun b => decide (b < W.heap.size)) true ts vs ds ps
  | [], vs, ds, ps, _, h, _ => by
    obtain ⟨rfl, rfl, rfl⟩ := trodAll_nil h
    exact trodAll_mk0
  | t :: ts, vs, ds, ps, ht, h, hlt => by
    obtain ⟨v, vs1, d, ds1, a, b, rfl, rfl, rfl, h1, h2⟩ := trodAll_cons h
    refine trodAll_cons_mk (Below.trod hl (ht t (by simp)).1 (ht t (by simp)).2 h1 hb (fun x hx => hlt x (by simp [hx]))) (trodAll_below hl hb (fun t h => ht t (by simp [h])) h2 (fun x hx => hlt x (by simp [hx])))

/-- THE LAW's STEP: the call returns true, and below the heap's old size nothing has turned. -/
theorem law_step {H : Type} {enc : TypeId × Value → H} {f : Func} {s : ChangeSpec} {n : Nat} {W : World} {args : Array Value} {ds gs : List (DataW H)} {before : List MemPlace} (hres : f.resultTypes.toList = [4])
    (hts : ∀ t ∈ f.params.toList, Try.prog.readableRec t = true ∧ t < Try.prog.types.size) (hvars : s.vars = []) (hW : DataW.Whole enc Try.prog f.params.toList s.vars false W args.toList ds gs before)
    (hfn : s.fn H (ds ++ []) = { results := [.lit (.bool true)], args := ds }) (hcall : Calls Try.prog n args W fun e W' => e = .returned (.bool true) ∧ Below W.heap.size W W') :
    Calls Try.prog n args W fun e W' => ∃ v, e = .returned v ∧ s.post enc Try.prog f false true false false W args v W' := by
  have hW' := hW
  obtain ⟨p, q, hA, hV, rfl, hfz, hnd⟩ := hW
  rw [hvars] at hV
  obtain ⟨rfl, rfl⟩ := trodVars_none hV
  have hlt : ∀ x ∈ p, x.block < W.heap.size := fun x hx => by
    have := hW'.lt x (by simp [hx])
    simpa using this
  refine hcall.mono fun e W' ⟨he, hb⟩ => ?_
  subst he
  have h2 : f.resultTypes.size = 1 := by rw [← Array.length_toList, hres]; rfl
  refine ⟨_, rfl, ds, [], p ++ [], [], p, [], hW', ?_, ?_, ?_, hb.frame _, fun h => by cases h⟩
  · rw [hfn, hres, h2]
    exact trodAll_cons_mk (shut_bool Try.underlying4 _) trodAll_mk0
  · rw [hfn]
    exact trodAll_below Try.laidOut hb hts hA hlt
  · rw [hfn, hvars]
    exact rfl

theorem enter_law {n : Nat} {vals : List AV} {H' : Hl} {lg : List Nat} (hc : CallTo Try.prog n vals [] (.bool true) H' lg) {w : World} {us : List Value} (hv : VRels noRho w vals us) :
    Calls Try.prog n us.toArray w fun e w' => e = .returned (.bool true) ∧ Below w.heap.size w w' :=
  (hc.enter hv).mono fun e w' ⟨v, ρ', he, h2, h3⟩ => by
    have := inv_bool h2
    subst this
    exact ⟨he, h3⟩

end Go.Proofs.Vm

namespace Go.Proofs.Vm
open Go.Vm Go.ChangeShapes Go.WideShapes Go.ChangeAt Go.RowKit

theorem bulk_one {H : Type} (d : DataW H) : 1 ≤ Ytfmhlogapbpnbaa.Rows.uptoBulk d := by
  cases d with
  | lit l => cases l <;> simp [Ytfmhlogapbpnbaa.Rows.uptoBulk]
  | nil => simp [Ytfmhlogapbpnbaa.Rows.uptoBulk]
  | ptr d => simp [Ytfmhlogapbpnbaa.Rows.uptoBulk]
  | slice elems spare => simp [Ytfmhlogapbpnbaa.Rows.uptoBulk]
  | agg parts => simp [Ytfmhlogapbpnbaa.Rows.uptoBulk]
  | iface t d => simp [Ytfmhlogapbpnbaa.Rows.uptoBulk]
  | map entries => simp [Ytfmhlogapbpnbaa.Rows.uptoBulk]
  | held h => simp [Ytfmhlogapbpnbaa.Rows.uptoBulk]
theorem bulk_part {H : Type} {d : DataW H} {l : List (DataW H)} (h : d ∈ l) : Ytfmhlogapbpnbaa.Rows.uptoBulk d ≤ Ytfmhlogapbpnbaa.Rows.uptoBulkAll l := by
  induction l with
  | nil => cases h
  | cons x r ih =>
    simp only [Ytfmhlogapbpnbaa.Rows.uptoBulkAll]
    cases List.mem_cons.1 h with
    | inl e => subst e; omega
    | inr e => have := ih e; omega
theorem bulk_length {H : Type} (l : List (DataW H)) : l.length ≤ Ytfmhlogapbpnbaa.Rows.uptoBulkAll l := by
  induction l with
  | nil => simp [Ytfmhlogapbpnbaa.Rows.uptoBulkAll]
  | cons x r ih => have := bulk_one x; simp only [Ytfmhlogapbpnbaa.Rows.uptoBulkAll, List.length_cons]; omega
theorem bulk_slice {H : Type} (elems spare : List (DataW H)) : elems.length ≤ Ytfmhlogapbpnbaa.Rows.uptoBulk (.slice elems spare) := by
  have h1 := bulk_length elems
  simp only [Ytfmhlogapbpnbaa.Rows.uptoBulk]
  omega

theorem by8_int {n : Int} (h : (Lit.int .u8 n).wf = true) : by8 (UInt8.ofNat n.toNat) = .int .u8 n := by
  have hx : 0 ≤ n ∧ n ≤ 255 := by simpa [Lit.wf, IntKind.min, IntKind.max, IntKind.signed, IntKind.bits] using h
  unfold by8
  congr 1
  rw [UInt8.toNat_ofNat_of_lt' (by show _ < 256; omega)]
  simp only [Int.ofNat_eq_natCast]
  omega

/-- The number in a value. -/
def intA' : Value → Int
  | .int _ n => n
  | _ => 0

set_option maxRecDepth 100000

/-- A slice of bytes that came in. -/
theorem open_bytes {H : Type} {enc : TypeId × Value → H} {W : World} {base : Nat} {t e : TypeId} {v : Value} {d : DataW H} {p : List MemPlace} (ht : Try.prog.underlying t = some (.slice e)) (he : Try.prog.underlying e = some (.int .u8)) (hc : Try.prog.cellsOf e = 1)
    (hval : Value.okWide Try.prog W .any base t v) (h : DataW.Trod enc Try.prog W 0 (fun _ => true) true t v d p) :
    ∃ (pc : List AV) (off len cap : Nat) (ex : Bool) (lb : List UInt8), VRel noRho W (.ros pc off len cap ex) v ∧ flatL pc ∧ off + len ≤ pc.length ∧ BytesAt pc off len lb ∧ len ≤ Ytfmhlogapbpnbaa.Rows.uptoBulk d ∧ len ≤ cap := by
  obtain ⟨a0, len, cap, rfl⟩ := okWide_slice ht hval
  obtain ⟨fuel, hf⟩ := h
  rcases open_ints ht he hc hf with ⟨hcs, hx⟩ | ⟨a, len', cap', zs, hcs, _, hl, hm, hz, hx, hcell, hwz⟩
  · simp [Value.cells] at hcs
    obtain ⟨rfl, rfl, rfl⟩ := hcs
    exact ⟨[], 0, 0, 0, true, [], .ros [] 0 0 0 true 0 0 none 0 [] (fun h => absurd rfl h) (fun h => absurd rfl h) rfl (by simp) (by simp) (by simp) (Nat.le_refl _) (Nat.le_refl _) (fun _ => rfl) (fun h => absurd rfl h), fun a ha => (by cases ha), by simp, ⟨rfl, rfl⟩, Nat.zero_le _, Nat.le_refl _⟩
  · simp [Value.cells] at hcs
    obtain ⟨rfl, rfl, rfl⟩ := hcs
    simp only [if_true] at hz
    simp only [Prod.mk.injEq] at hx
    obtain ⟨rfl, _⟩ := hx
    have hspot : zs ≠ [] → a = ⟨a.block, a.off, none⟩ := by
      intro hn
      have h0 : 0 < zs.length := List.length_pos_iff.2 hn
      have := hcell 0 h0
      simp only [Addr.add, if_true, World.cell?] at this
      obtain ⟨b, o, s⟩ := a
      cases s with
      | none => rfl
      | some k =>
        exfalso
        split at this <;> simp at this
    have hlt : zs ≠ [] → a.block < W.heap.size := by
      intro hn
      have h0 : 0 < zs.length := List.length_pos_iff.2 hn
      have := hcell 0 h0
      simp only [Addr.add, if_true, World.cell?] at this
      rcases Nat.lt_or_ge a.block W.heap.size with h' | h'
      · exact h'
      · simp [Array.getElem?_eq_none h'] at this
    refine ⟨zs.map (AV.int .u8), 0, len, zs.length, true, (zs.take len).map fun n => UInt8.ofNat n.toNat, ?_, ?_, ?_, ⟨by simp; omega, ?_⟩, ?_, by omega⟩
    · subst hz
      refine .ros (zs.map (AV.int .u8)) 0 len zs.length true a.block a.off (some a) zs.length (zs.map (Value.int .u8)) (fun hn => hlt (by intro e; subst e; exact hn rfl)) (fun _ b F' h => by cases h) (by simp) ?_ ?_ ?_ (Nat.le_refl _) hl (fun _ => rfl) ?_
      · intro v hv
        obtain ⟨n, _, rfl⟩ := List.mem_map.1 hv
        rfl
      · intro i v hv
        have hi : i < zs.length := by
          have := (List.getElem?_eq_some_iff.1 hv).1
          simpa using this
        have hne : zs ≠ [] := by intro e; subst e; simp at hi
        have := hcell i hi
        rw [hspot hne] at this
        have e2 : (Addr.add ⟨a.block, a.off, none⟩ i) = ⟨a.block, a.off + i, none⟩ := by
          unfold Addr.add
          by_cases h0 : i = 0
          · subst h0; simp
          · rw [if_neg h0]
        rw [e2] at this
        rw [this]
        rw [List.getElem?_map, List.getElem?_eq_getElem hi] at hv
        have e3 : zs.getD i 0 = zs[i] := by simp [hi]
        rw [e3]
        exact hv
      · intro i a v ha hv
        rw [List.getElem?_map] at ha hv
        obtain ⟨n, hn, rfl⟩ := Option.map_eq_some_iff.1 ha
        rw [hn] at hv
        cases hv
        exact .int _ _
      · intro hn
        have hne : zs ≠ [] := by intro e; subst e; exact hn rfl
        exact congrArg some (hspot hne)
    · intro a ha
      obtain ⟨n, _, rfl⟩ := List.mem_map.1 ha
      rfl
    · simp; omega
    · rw [List.drop_zero, ← List.map_take, List.map_map]
      apply List.map_congr_left
      intro n hn
      exact (by8_int (hwz n (List.mem_of_mem_take hn))).symm
    · refine Nat.le_trans ?_ (bulk_slice _ _)
      simp [lits]
      omega

/-- An array of whole numbers that came in. -/
theorem open_arr_ints {W : World} {base : Nat} {t e n : Nat} {k : IntKind} {v : Value} (ht : Try.prog.underlying t = some (.array n e)) (he : Try.prog.underlying e = some (.int k)) (hc : Try.prog.cellsOf t = n) (hts : Try.prog.cellTypes Try.prog.depth t = some (List.replicate n e))
    (hval : Value.okWide Try.prog W .any base t v) : ∃ zs : List Int, v = .agg (zs.map (Value.int k)).toArray ∧ zs.length = n ∧ ∀ z ∈ zs, k.has z := by
  simp only [Value.okWide, ht] at hval
  obtain ⟨cs, rfl, hsz, ts, h1, _, h3⟩ := hval
  rw [hts] at h1
  cases h1
  rw [hc] at hsz
  have each : ∀ (i : Nat) (v : Value), cs[i]? = some v → ∃ z, v = Value.int k z ∧ k.has z := by
    intro i v hv
    obtain ⟨u, hu, hx⟩ := h3 i v hv
    have hue : u = e := by
      rw [List.getElem?_replicate] at hu
      split at hu <;> cases hu
      rfl
    subst hue
    simp only [Cell.okWide, he, Cell.ok] at hx
    cases v <;> simp_all
  refine ⟨cs.toList.map intA', ?_, by simp [hsz], ?_⟩
  · congr 1
    apply Array.ext
    · simp
    · intro i h1 h2
      have hi : cs[i]? = some cs[i] := by simp [h1]
      obtain ⟨z, hz, _⟩ := each i _ hi
      simp [intA', hz]
  · intro z hz
    obtain ⟨v, hv, rfl⟩ := List.mem_map.1 hz
    obtain ⟨i, hi, e⟩ := List.mem_iff_getElem.1 hv
    have hi' : cs[i]? = some v := by
      rw [← e]
      have : i < cs.size := by simpa using hi
      simp [this]
    obtain ⟨z, hz, hh⟩ := each i v hi'
    rw [hz]
    exact hh

theorem arr_rel (w : World) (k : IntKind) (zs : List Int) : VRel noRho w (.agg (zs.map (AV.int k))) (.agg (zs.map (Value.int k)).toArray) := by
  refine .agg _ _ (by simp) (fun v hv => ?_) (fun i a v ha hv => ?_)
  · obtain ⟨n, _, rfl⟩ := List.mem_map.1 hv
    rfl
  · rw [List.getElem?_map] at ha hv
    obtain ⟨n, hn, rfl⟩ := Option.map_eq_some_iff.1 ha
    rw [hn] at hv
    cases hv
    exact .int _ _

end Go.Proofs.Vm
