/-
  ONION, LAW: OnionTurned.
-/
import Derived.Test.YtfmhlogapbpnbaaYnan
set_option linter.unusedVariables false
set_option linter.unusedSimpArgs false
set_option linter.unusedSectionVars false

namespace Go.Proofs.Vm
set_option maxRecDepth 100000
open Go.Vm
noncomputable section
def idA(a:Int):Int:=ops0.bin .rem .i64 a (Int.ofNat 16896)
def idB(a:Int):Int:=ops0.bin .add .i64 (idA a) (Int.ofNat 16896)
def blP(B:BZ)(ks hc:List AV)(n:Nat)(ns hs:List AV):List AV:=B.bl ks 0 hc n (ops0.ext ns 0 32) (ops0.ext hs 0 32)
def mutP(P:List AV)(i n1:Int):List AV:=ops0.set P (ops0.adr 0 (ops0.bin .quo .i64 i (Int.ofNat 8)) 1) (.int .u8 (ops0.bin .xor .u8 n1 (ops0.shf .shl .u8 (Int.ofNat 1) (ops0.bin .rem .i64 i (Int.ofNat 8)))))
def goP(B:BZ)(ks hs M:List AV):Bool:=B.go (ops0.ext ks 0 32) (rdB M 0 2112) (ops0.ext hs 0 32)
def hpP(B:BZ)(ks hs M:List AV):List AV:=B.hp (ops0.ext ks 0 32) (rdB M 0 2112) (ops0.ext hs 0 32)
def nxP(B:BZ)(ks hs M:List AV):List AV:=B.nx (ops0.ext ks 0 32) (rdB M 0 2112) (ops0.ext hs 0 32)
def erP(B:BZ)(ks hs M:List AV):Int:=B.er (ops0.ext ks 0 32) (rdB M 0 2112) (ops0.ext hs 0 32)
theorem vc21(B:BZ)(Z:OZ)(O:OY)(F:HF)(ks hc ns hs:List AV)(n c:Nat)(e:Bool)(kn kc:Nat)(ke:Bool)(at_:Int)(Q:AV->Prop) :
  (vcall (vcA kdS (cnO5 B Z O F) noLn) ops0 (qah 21 vf21) 200 vf21 [.ros ks 0 kn kc ke,.ros hc 0 n c e,.agg ns,.agg hs,.int .i64 at_] [] (fun r _ _=>Q r)) =
 ((Chk (ops0.le 32 (ops0.len ns))
 (Chk (ops0.le 32 (ops0.len hs))
 ((P60 ks 0 kn hc n (ops0.ext ns 0 32) (ops0.ext hs 0 32)) /\
 (Br (BZ.gd B hc n kn)
 (((0:Nat)=0) /\
 (Br (ops0.cmp BinOp.lss (idA at_) (Int.ofNat 0))
 (Chk (ops0.inr (ops0.bin BinOp.quo IntKind.i64 (idB at_) (Int.ofNat 8)) 2112)
 (∃ n1:Int,((Nth (blP B ks hc n ns hs) (ops0.adr 0 (ops0.bin BinOp.quo IntKind.i64 (idB at_) (Int.ofNat 8)) 1) (AV.int IntKind.u8 n1)) /\
 (Chk (ops0.nn (ops0.bin BinOp.rem IntKind.i64 (idB at_) (Int.ofNat 8)))
 (Chk (ops0.inr (ops0.bin BinOp.quo IntKind.i64 (idB at_) (Int.ofNat 8)) 2112)
 (Chk (ops0.lt (ops0.adr 0 (ops0.bin BinOp.quo IntKind.i64 (idB at_) (Int.ofNat 8)) 1) (ops0.len (blP B ks hc n ns hs)))
 (Chk (ops0.inr (Int.ofNat 0) kn)
 (Chk (ops0.le 32 (ops0.len ks))
 (Chk (ops0.le 32 (ops0.len hs))
 (((P63 (ops0.ext ks 0 32) (mutP (blP B ks hc n ns hs) (idB at_) n1) 0 2112 (ops0.ext hs 0 32)) /\
 (2112<=2112)) /\
 (Br (goP B ks hs (mutP (blP B ks hc n ns hs) (idB at_) n1))
 (Chk (ops0.eq (ops0.len (hpP B ks hs (mutP (blP B ks hc n ns hs) (idB at_) n1))) 101)
 (Chk (own (AV.tup [(AV.agg (hpP B ks hs (mutP (blP B ks hc n ns hs) (idB at_) n1))),(AV.slc 3 0 2112 2112 1),(AV.int IntKind.i64 (Int.ofNat 0))]))
 (Chk (nm 3 (AV.agg (ops0.ext ks 0 32)))
 (Chk (nm 3 (AV.agg (ops0.ext hs 0 32)))
 (Chk (nmB 3 (Blk.cells ns))
 (Chk (nmB 3 (Blk.cells hs))
 (Chk (nmB 3 (Blk.cells (mutP (blP B ks hc n ns hs) (idB at_) n1)))
 (Chk (ownB (Blk.cells ns))
 (Chk (ownB (Blk.cells hs))
 (Chk (ownB (Blk.cells (mutP (blP B ks hc n ns hs) (idB at_) n1)))
 (Chk (ownB (Blk.cells (nxP B ks hs (mutP (blP B ks hc n ns hs) (idB at_) n1))))
 (Chk (ops0.inr (Int.ofNat 0) kn)
 (Chk (ops0.le 32 (ops0.len ks))
 (Chk (ops0.le 32 (ops0.len hs))
 (((P63 (ops0.ext ks 0 32) (mutP (blP B ks hc n ns hs) (idB at_) n1) 0 2112 (ops0.ext hs 0 32)) /\
 (2112<=2112)) /\
 (Br (goP B ks hs (mutP (blP B ks hc n ns hs) (idB at_) n1))
 (Chk (ops0.eq (ops0.len (hpP B ks hs (mutP (blP B ks hc n ns hs) (idB at_) n1))) 101)
 (Chk (own (AV.tup [(AV.agg (hpP B ks hs (mutP (blP B ks hc n ns hs) (idB at_) n1))),(AV.slc 5 0 2112 2112 1),(AV.int IntKind.i64 (Int.ofNat 0))]))
 (Chk (nm 5 (AV.agg (ops0.ext ks 0 32)))
 (Chk (nm 5 (AV.agg (ops0.ext hs 0 32)))
 (Chk (nmB 5 (Blk.cells ns))
 (Chk (nmB 5 (Blk.cells hs))
 (Chk (nmB 5 (Blk.cells (mutP (blP B ks hc n ns hs) (idB at_) n1)))
 (Chk (nmB 5 (Blk.cells (nxP B ks hs (mutP (blP B ks hc n ns hs) (idB at_) n1))))
 (Chk (nmB 5 (Blk.cells (ops0.spl hopZ 0 (hpP B ks hs (mutP (blP B ks hc n ns hs) (idB at_) n1)))))
 (Chk (ownB (Blk.cells ns))
 (Chk (ownB (Blk.cells hs))
 (Chk (ownB (Blk.cells (mutP (blP B ks hc n ns hs) (idB at_) n1)))
 (Chk (ownB (Blk.cells (nxP B ks hs (mutP (blP B ks hc n ns hs) (idB at_) n1))))
 (Chk (ownB (Blk.cells (ops0.spl hopZ 0 (hpP B ks hs (mutP (blP B ks hc n ns hs) (idB at_) n1)))))
 (Chk (ownB (Blk.cells (nxP B ks hs (mutP (blP B ks hc n ns hs) (idB at_) n1))))
 (Chk (ops0.le 101 (ops0.len (ops0.spl hopZ 0 (hpP B ks hs (mutP (blP B ks hc n ns hs) (idB at_) n1)))))
 (Chk (ops0.le 101 (ops0.len (ops0.spl hopZ 0 (hpP B ks hs (mutP (blP B ks hc n ns hs) (idB at_) n1)))))
 (Chk (ops0.eq (ops0.len (ops0.ext (ops0.spl hopZ 0 (hpP B ks hs (mutP (blP B ks hc n ns hs) (idB at_) n1))) 0 101)) 101)
 (Chk (ops0.eq (ops0.len (ops0.ext (ops0.spl hopZ 0 (hpP B ks hs (mutP (blP B ks hc n ns hs) (idB at_) n1))) 0 101)) 101)
 (Chk (ops0.le 1 (ops0.len (ops0.ext (ops0.spl hopZ 0 (hpP B ks hs (mutP (blP B ks hc n ns hs) (idB at_) n1))) 0 101)))
 (Chk (ops0.le 1 (ops0.len (ops0.ext (ops0.spl hopZ 0 (hpP B ks hs (mutP (blP B ks hc n ns hs) (idB at_) n1))) 0 101)))
 (∃ l:(List Int),((((ops0.ext (ops0.ext (ops0.spl hopZ 0 (hpP B ks hs (mutP (blP B ks hc n ns hs) (idB at_) n1))) 0 101) 0 1):(List AV))=(List.map (AV.int IntKind.i64) l)) /\
 (∃ l1:(List Int),((((ops0.ext (ops0.ext (ops0.spl hopZ 0 (hpP B ks hs (mutP (blP B ks hc n ns hs) (idB at_) n1))) 0 101) 0 1):(List AV))=(List.map (AV.int IntKind.i64) l1)) /\
 (Br (ops0.eqi l l1)
 (Chk (ops0.le 2 (ops0.len (ops0.ext (ops0.spl hopZ 0 (hpP B ks hs (mutP (blP B ks hc n ns hs) (idB at_) n1))) 0 101)))
 (Chk (ops0.le 2 (ops0.len (ops0.ext (ops0.spl hopZ 0 (hpP B ks hs (mutP (blP B ks hc n ns hs) (idB at_) n1))) 0 101)))
 (∃ l2:(List Int),((((ops0.ext (ops0.ext (ops0.spl hopZ 0 (hpP B ks hs (mutP (blP B ks hc n ns hs) (idB at_) n1))) 0 101) 1 1):(List AV))=(List.map (AV.int IntKind.i64) l2)) /\
 (∃ l3:(List Int),((((ops0.ext (ops0.ext (ops0.spl hopZ 0 (hpP B ks hs (mutP (blP B ks hc n ns hs) (idB at_) n1))) 0 101) 1 1):(List AV))=(List.map (AV.int IntKind.i64) l3)) /\
 (Br (ops0.eqi l2 l3)
 (Chk (ops0.le 3 (ops0.len (ops0.ext (ops0.spl hopZ 0 (hpP B ks hs (mutP (blP B ks hc n ns hs) (idB at_) n1))) 0 101)))
 (Chk (ops0.le 3 (ops0.len (ops0.ext (ops0.spl hopZ 0 (hpP B ks hs (mutP (blP B ks hc n ns hs) (idB at_) n1))) 0 101)))
 (∃ l4:(List Int),((((ops0.ext (ops0.ext (ops0.spl hopZ 0 (hpP B ks hs (mutP (blP B ks hc n ns hs) (idB at_) n1))) 0 101) 2 1):(List AV))=(List.map (AV.int IntKind.i64) l4)) /\
 (∃ l5:(List Int),((((ops0.ext (ops0.ext (ops0.spl hopZ 0 (hpP B ks hs (mutP (blP B ks hc n ns hs) (idB at_) n1))) 0 101) 2 1):(List AV))=(List.map (AV.int IntKind.i64) l5)) /\
 (Br (ops0.eqi l4 l5)
 (Chk (ops0.le 35 (ops0.len (ops0.ext (ops0.spl hopZ 0 (hpP B ks hs (mutP (blP B ks hc n ns hs) (idB at_) n1))) 0 101)))
 (Chk (ops0.le 35 (ops0.len (ops0.ext (ops0.spl hopZ 0 (hpP B ks hs (mutP (blP B ks hc n ns hs) (idB at_) n1))) 0 101)))
 (∃ l6:(List Int),((((ops0.ext (ops0.ext (ops0.spl hopZ 0 (hpP B ks hs (mutP (blP B ks hc n ns hs) (idB at_) n1))) 0 101) 3 32):(List AV))=(List.map (AV.int IntKind.u8) l6)) /\
 (∃ l7:(List Int),((((ops0.ext (ops0.ext (ops0.spl hopZ 0 (hpP B ks hs (mutP (blP B ks hc n ns hs) (idB at_) n1))) 0 101) 3 32):(List AV))=(List.map (AV.int IntKind.u8) l7)) /\
 (Br (ops0.eqi l6 l7)
 (Chk (ops0.le 36 (ops0.len (ops0.ext (ops0.spl hopZ 0 (hpP B ks hs (mutP (blP B ks hc n ns hs) (idB at_) n1))) 0 101)))
 (Chk (ops0.le 36 (ops0.len (ops0.ext (ops0.spl hopZ 0 (hpP B ks hs (mutP (blP B ks hc n ns hs) (idB at_) n1))) 0 101)))
 (∃ l8:(List Int),((((ops0.ext (ops0.ext (ops0.spl hopZ 0 (hpP B ks hs (mutP (blP B ks hc n ns hs) (idB at_) n1))) 0 101) 35 1):(List AV))=(List.map (AV.int IntKind.i64) l8)) /\
 (∃ l9:(List Int),((((ops0.ext (ops0.ext (ops0.spl hopZ 0 (hpP B ks hs (mutP (blP B ks hc n ns hs) (idB at_) n1))) 0 101) 35 1):(List AV))=(List.map (AV.int IntKind.i64) l9)) /\
 (Br (ops0.eqi l8 l9)
 (Chk (ops0.le 68 (ops0.len (ops0.ext (ops0.spl hopZ 0 (hpP B ks hs (mutP (blP B ks hc n ns hs) (idB at_) n1))) 0 101)))
 (Chk (ops0.le 68 (ops0.len (ops0.ext (ops0.spl hopZ 0 (hpP B ks hs (mutP (blP B ks hc n ns hs) (idB at_) n1))) 0 101)))
 (∃ l10:(List Int),((((ops0.ext (ops0.ext (ops0.spl hopZ 0 (hpP B ks hs (mutP (blP B ks hc n ns hs) (idB at_) n1))) 0 101) 36 32):(List AV))=(List.map (AV.int IntKind.u8) l10)) /\
 (∃ l11:(List Int),((((ops0.ext (ops0.ext (ops0.spl hopZ 0 (hpP B ks hs (mutP (blP B ks hc n ns hs) (idB at_) n1))) 0 101) 36 32):(List AV))=(List.map (AV.int IntKind.u8) l11)) /\
 (Br (ops0.eqi l10 l11)
 (Chk (ops0.le 69 (ops0.len (ops0.ext (ops0.spl hopZ 0 (hpP B ks hs (mutP (blP B ks hc n ns hs) (idB at_) n1))) 0 101)))
 (Chk (ops0.le 69 (ops0.len (ops0.ext (ops0.spl hopZ 0 (hpP B ks hs (mutP (blP B ks hc n ns hs) (idB at_) n1))) 0 101)))
 (∃ l12:(List Int),((((ops0.ext (ops0.ext (ops0.spl hopZ 0 (hpP B ks hs (mutP (blP B ks hc n ns hs) (idB at_) n1))) 0 101) 68 1):(List AV))=(List.map (AV.int IntKind.i64) l12)) /\
 (∃ l13:(List Int),((((ops0.ext (ops0.ext (ops0.spl hopZ 0 (hpP B ks hs (mutP (blP B ks hc n ns hs) (idB at_) n1))) 0 101) 68 1):(List AV))=(List.map (AV.int IntKind.i64) l13)) /\
 (Br (ops0.eqi l12 l13)
 (Chk (ops0.le 101 (ops0.len (ops0.ext (ops0.spl hopZ 0 (hpP B ks hs (mutP (blP B ks hc n ns hs) (idB at_) n1))) 0 101)))
 (Chk (ops0.le 101 (ops0.len (ops0.ext (ops0.spl hopZ 0 (hpP B ks hs (mutP (blP B ks hc n ns hs) (idB at_) n1))) 0 101)))
 (∃ l14:(List Int),((((ops0.ext (ops0.ext (ops0.spl hopZ 0 (hpP B ks hs (mutP (blP B ks hc n ns hs) (idB at_) n1))) 0 101) 69 32):(List AV))=(List.map (AV.int IntKind.u8) l14)) /\
 (∃ l15:(List Int),((((ops0.ext (ops0.ext (ops0.spl hopZ 0 (hpP B ks hs (mutP (blP B ks hc n ns hs) (idB at_) n1))) 0 101) 69 32):(List AV))=(List.map (AV.int IntKind.u8) l15)) /\
 (Br (ops0.eqi l14 l15)
 (Chk (ops0.le 2112 (ops0.len (nxP B ks hs (mutP (blP B ks hc n ns hs) (idB at_) n1))))
 (∃ l16:(List UInt8),((((ops0.ext (nxP B ks hs (mutP (blP B ks hc n ns hs) (idB at_) n1)) 0 2112):(List AV))=(List.map (fun b=>(AV.int IntKind.u8 (((UInt8.toNat b):Nat):Int))) l16)) /\
 (Chk (ops0.le 2112 (ops0.len (nxP B ks hs (mutP (blP B ks hc n ns hs) (idB at_) n1))))
 (∃ l17:(List UInt8),((((ops0.ext (nxP B ks hs (mutP (blP B ks hc n ns hs) (idB at_) n1)) 0 2112):(List AV))=(List.map (fun b=>(AV.int IntKind.u8 (((UInt8.toNat b):Nat):Int))) l17)) /\
 (Br (ops0.eqs l16 l17)
 (Q (AV.bool Bool.true))
 (Q (AV.bool Bool.false)))))))))
 (Q (AV.bool Bool.false)))))))))
 (Q (AV.bool Bool.false)))))))))
 (Q (AV.bool Bool.false)))))))))
 (Q (AV.bool Bool.false)))))))))
 (Q (AV.bool Bool.false)))))))))
 (Q (AV.bool Bool.false)))))))))
 (Q (AV.bool Bool.false)))))))))
 (Q (AV.bool Bool.false))))))))))))))))))))))))))))
 (Chk (ops0.eq (ops0.len (hpP B ks hs (mutP (blP B ks hc n ns hs) (idB at_) n1))) 101)
 (Chk (own (AV.tup [(AV.agg (hpP B ks hs (mutP (blP B ks hc n ns hs) (idB at_) n1))),AV.nils,(AV.int IntKind.i64 (erP B ks hs (mutP (blP B ks hc n ns hs) (idB at_) n1)))]))
 (Chk (nm 5 (AV.agg (ops0.ext ks 0 32)))
 (Chk (nm 5 (AV.agg (ops0.ext hs 0 32)))
 (Chk (nmB 5 (Blk.cells ns))
 (Chk (nmB 5 (Blk.cells hs))
 (Chk (nmB 5 (Blk.cells (mutP (blP B ks hc n ns hs) (idB at_) n1)))
 (Chk (nmB 5 (Blk.cells (nxP B ks hs (mutP (blP B ks hc n ns hs) (idB at_) n1))))
 (Chk (nmB 5 (Blk.cells (ops0.spl hopZ 0 (hpP B ks hs (mutP (blP B ks hc n ns hs) (idB at_) n1)))))
 (Chk (ownB (Blk.cells ns))
 (Chk (ownB (Blk.cells hs))
 (Chk (ownB (Blk.cells (mutP (blP B ks hc n ns hs) (idB at_) n1)))
 (Chk (ownB (Blk.cells (nxP B ks hs (mutP (blP B ks hc n ns hs) (idB at_) n1))))
 (Chk (ownB (Blk.cells (ops0.spl hopZ 0 (hpP B ks hs (mutP (blP B ks hc n ns hs) (idB at_) n1)))))
 (Chk (ops0.le 101 (ops0.len (ops0.spl hopZ 0 (hpP B ks hs (mutP (blP B ks hc n ns hs) (idB at_) n1)))))
 (Chk (ops0.le 101 (ops0.len (ops0.spl hopZ 0 (hpP B ks hs (mutP (blP B ks hc n ns hs) (idB at_) n1)))))
 (Chk (ops0.eq (ops0.len (ops0.ext (ops0.spl hopZ 0 (hpP B ks hs (mutP (blP B ks hc n ns hs) (idB at_) n1))) 0 101)) 101)
 (Chk (ops0.eq (ops0.len (ops0.ext (ops0.spl hopZ 0 (hpP B ks hs (mutP (blP B ks hc n ns hs) (idB at_) n1))) 0 101)) 101)
 (Chk (ops0.le 1 (ops0.len (ops0.ext (ops0.spl hopZ 0 (hpP B ks hs (mutP (blP B ks hc n ns hs) (idB at_) n1))) 0 101)))
 (Chk (ops0.le 1 (ops0.len (ops0.ext (ops0.spl hopZ 0 (hpP B ks hs (mutP (blP B ks hc n ns hs) (idB at_) n1))) 0 101)))
 (∃ l:(List Int),((((ops0.ext (ops0.ext (ops0.spl hopZ 0 (hpP B ks hs (mutP (blP B ks hc n ns hs) (idB at_) n1))) 0 101) 0 1):(List AV))=(List.map (AV.int IntKind.i64) l)) /\
 (∃ l1:(List Int),((((ops0.ext (ops0.ext (ops0.spl hopZ 0 (hpP B ks hs (mutP (blP B ks hc n ns hs) (idB at_) n1))) 0 101) 0 1):(List AV))=(List.map (AV.int IntKind.i64) l1)) /\
 (Br (ops0.eqi l l1)
 (Chk (ops0.le 2 (ops0.len (ops0.ext (ops0.spl hopZ 0 (hpP B ks hs (mutP (blP B ks hc n ns hs) (idB at_) n1))) 0 101)))
 (Chk (ops0.le 2 (ops0.len (ops0.ext (ops0.spl hopZ 0 (hpP B ks hs (mutP (blP B ks hc n ns hs) (idB at_) n1))) 0 101)))
 (∃ l2:(List Int),((((ops0.ext (ops0.ext (ops0.spl hopZ 0 (hpP B ks hs (mutP (blP B ks hc n ns hs) (idB at_) n1))) 0 101) 1 1):(List AV))=(List.map (AV.int IntKind.i64) l2)) /\
 (∃ l3:(List Int),((((ops0.ext (ops0.ext (ops0.spl hopZ 0 (hpP B ks hs (mutP (blP B ks hc n ns hs) (idB at_) n1))) 0 101) 1 1):(List AV))=(List.map (AV.int IntKind.i64) l3)) /\
 (Br (ops0.eqi l2 l3)
 (Chk (ops0.le 3 (ops0.len (ops0.ext (ops0.spl hopZ 0 (hpP B ks hs (mutP (blP B ks hc n ns hs) (idB at_) n1))) 0 101)))
 (Chk (ops0.le 3 (ops0.len (ops0.ext (ops0.spl hopZ 0 (hpP B ks hs (mutP (blP B ks hc n ns hs) (idB at_) n1))) 0 101)))
 (∃ l4:(List Int),((((ops0.ext (ops0.ext (ops0.spl hopZ 0 (hpP B ks hs (mutP (blP B ks hc n ns hs) (idB at_) n1))) 0 101) 2 1):(List AV))=(List.map (AV.int IntKind.i64) l4)) /\
 (∃ l5:(List Int),((((ops0.ext (ops0.ext (ops0.spl hopZ 0 (hpP B ks hs (mutP (blP B ks hc n ns hs) (idB at_) n1))) 0 101) 2 1):(List AV))=(List.map (AV.int IntKind.i64) l5)) /\
 (Br (ops0.eqi l4 l5)
 (Chk (ops0.le 35 (ops0.len (ops0.ext (ops0.spl hopZ 0 (hpP B ks hs (mutP (blP B ks hc n ns hs) (idB at_) n1))) 0 101)))
 (Chk (ops0.le 35 (ops0.len (ops0.ext (ops0.spl hopZ 0 (hpP B ks hs (mutP (blP B ks hc n ns hs) (idB at_) n1))) 0 101)))
 (∃ l6:(List Int),((((ops0.ext (ops0.ext (ops0.spl hopZ 0 (hpP B ks hs (mutP (blP B ks hc n ns hs) (idB at_) n1))) 0 101) 3 32):(List AV))=(List.map (AV.int IntKind.u8) l6)) /\
 (∃ l7:(List Int),((((ops0.ext (ops0.ext (ops0.spl hopZ 0 (hpP B ks hs (mutP (blP B ks hc n ns hs) (idB at_) n1))) 0 101) 3 32):(List AV))=(List.map (AV.int IntKind.u8) l7)) /\
 (Br (ops0.eqi l6 l7)
 (Chk (ops0.le 36 (ops0.len (ops0.ext (ops0.spl hopZ 0 (hpP B ks hs (mutP (blP B ks hc n ns hs) (idB at_) n1))) 0 101)))
 (Chk (ops0.le 36 (ops0.len (ops0.ext (ops0.spl hopZ 0 (hpP B ks hs (mutP (blP B ks hc n ns hs) (idB at_) n1))) 0 101)))
 (∃ l8:(List Int),((((ops0.ext (ops0.ext (ops0.spl hopZ 0 (hpP B ks hs (mutP (blP B ks hc n ns hs) (idB at_) n1))) 0 101) 35 1):(List AV))=(List.map (AV.int IntKind.i64) l8)) /\
 (∃ l9:(List Int),((((ops0.ext (ops0.ext (ops0.spl hopZ 0 (hpP B ks hs (mutP (blP B ks hc n ns hs) (idB at_) n1))) 0 101) 35 1):(List AV))=(List.map (AV.int IntKind.i64) l9)) /\
 (Br (ops0.eqi l8 l9)
 (Chk (ops0.le 68 (ops0.len (ops0.ext (ops0.spl hopZ 0 (hpP B ks hs (mutP (blP B ks hc n ns hs) (idB at_) n1))) 0 101)))
 (Chk (ops0.le 68 (ops0.len (ops0.ext (ops0.spl hopZ 0 (hpP B ks hs (mutP (blP B ks hc n ns hs) (idB at_) n1))) 0 101)))
 (∃ l10:(List Int),((((ops0.ext (ops0.ext (ops0.spl hopZ 0 (hpP B ks hs (mutP (blP B ks hc n ns hs) (idB at_) n1))) 0 101) 36 32):(List AV))=(List.map (AV.int IntKind.u8) l10)) /\
 (∃ l11:(List Int),((((ops0.ext (ops0.ext (ops0.spl hopZ 0 (hpP B ks hs (mutP (blP B ks hc n ns hs) (idB at_) n1))) 0 101) 36 32):(List AV))=(List.map (AV.int IntKind.u8) l11)) /\
 (Br (ops0.eqi l10 l11)
 (Chk (ops0.le 69 (ops0.len (ops0.ext (ops0.spl hopZ 0 (hpP B ks hs (mutP (blP B ks hc n ns hs) (idB at_) n1))) 0 101)))
 (Chk (ops0.le 69 (ops0.len (ops0.ext (ops0.spl hopZ 0 (hpP B ks hs (mutP (blP B ks hc n ns hs) (idB at_) n1))) 0 101)))
 (∃ l12:(List Int),((((ops0.ext (ops0.ext (ops0.spl hopZ 0 (hpP B ks hs (mutP (blP B ks hc n ns hs) (idB at_) n1))) 0 101) 68 1):(List AV))=(List.map (AV.int IntKind.i64) l12)) /\
 (∃ l13:(List Int),((((ops0.ext (ops0.ext (ops0.spl hopZ 0 (hpP B ks hs (mutP (blP B ks hc n ns hs) (idB at_) n1))) 0 101) 68 1):(List AV))=(List.map (AV.int IntKind.i64) l13)) /\
 (Br (ops0.eqi l12 l13)
 (Chk (ops0.le 101 (ops0.len (ops0.ext (ops0.spl hopZ 0 (hpP B ks hs (mutP (blP B ks hc n ns hs) (idB at_) n1))) 0 101)))
 (Chk (ops0.le 101 (ops0.len (ops0.ext (ops0.spl hopZ 0 (hpP B ks hs (mutP (blP B ks hc n ns hs) (idB at_) n1))) 0 101)))
 (∃ l14:(List Int),((((ops0.ext (ops0.ext (ops0.spl hopZ 0 (hpP B ks hs (mutP (blP B ks hc n ns hs) (idB at_) n1))) 0 101) 69 32):(List AV))=(List.map (AV.int IntKind.u8) l14)) /\
 (∃ l15:(List Int),((((ops0.ext (ops0.ext (ops0.spl hopZ 0 (hpP B ks hs (mutP (blP B ks hc n ns hs) (idB at_) n1))) 0 101) 69 32):(List AV))=(List.map (AV.int IntKind.u8) l15)) /\
 (Br (ops0.eqi l14 l15)
 (Chk (ops0.le 2112 (ops0.len (nxP B ks hs (mutP (blP B ks hc n ns hs) (idB at_) n1))))
 (∃ l16:(List UInt8),((((ops0.ext (nxP B ks hs (mutP (blP B ks hc n ns hs) (idB at_) n1)) 0 2112):(List AV))=(List.map (fun b=>(AV.int IntKind.u8 (((UInt8.toNat b):Nat):Int))) l16)) /\
 (∃ l17:(List UInt8),((([]:(List AV))=(List.map (fun b=>(AV.int IntKind.u8 (((UInt8.toNat b):Nat):Int))) l17)) /\
 (Br (ops0.eqs l16 l17)
 (Br (ops0.cmp BinOp.eql (Int.ofNat 0) (erP B ks hs (mutP (blP B ks hc n ns hs) (idB at_) n1)))
 (Q (AV.bool Bool.true))
 (Q (AV.bool Bool.false)))
 (Q (AV.bool Bool.false))))))))
 (Q (AV.bool Bool.false)))))))))
 (Q (AV.bool Bool.false)))))))))
 (Q (AV.bool Bool.false)))))))))
 (Q (AV.bool Bool.false)))))))))
 (Q (AV.bool Bool.false)))))))))
 (Q (AV.bool Bool.false)))))))))
 (Q (AV.bool Bool.false)))))))))
 (Q (AV.bool Bool.false)))))))))))))))))))))))))))))))))))))))))))
 (Chk (ops0.eq (ops0.len (hpP B ks hs (mutP (blP B ks hc n ns hs) (idB at_) n1))) 101)
 (Chk (own (AV.tup [(AV.agg (hpP B ks hs (mutP (blP B ks hc n ns hs) (idB at_) n1))),AV.nils,(AV.int IntKind.i64 (erP B ks hs (mutP (blP B ks hc n ns hs) (idB at_) n1)))]))
 (Chk (nm 3 (AV.agg (ops0.ext ks 0 32)))
 (Chk (nm 3 (AV.agg (ops0.ext hs 0 32)))
 (Chk (nmB 3 (Blk.cells ns))
 (Chk (nmB 3 (Blk.cells hs))
 (Chk (nmB 3 (Blk.cells (mutP (blP B ks hc n ns hs) (idB at_) n1)))
 (Chk (ownB (Blk.cells ns))
 (Chk (ownB (Blk.cells hs))
 (Chk (ownB (Blk.cells (mutP (blP B ks hc n ns hs) (idB at_) n1)))
 (Chk (ops0.inr (Int.ofNat 0) kn)
 (Chk (ops0.le 32 (ops0.len ks))
 (Chk (ops0.le 32 (ops0.len hs))
 (((P63 (ops0.ext ks 0 32) (mutP (blP B ks hc n ns hs) (idB at_) n1) 0 2112 (ops0.ext hs 0 32)) /\
 (2112<=2112)) /\
 (Br (goP B ks hs (mutP (blP B ks hc n ns hs) (idB at_) n1))
 (Chk (ops0.eq (ops0.len (hpP B ks hs (mutP (blP B ks hc n ns hs) (idB at_) n1))) 101)
 (Chk (own (AV.tup [(AV.agg (hpP B ks hs (mutP (blP B ks hc n ns hs) (idB at_) n1))),(AV.slc 4 0 2112 2112 1),(AV.int IntKind.i64 (Int.ofNat 0))]))
 (Chk (nm 4 (AV.agg (ops0.ext ks 0 32)))
 (Chk (nm 4 (AV.agg (ops0.ext hs 0 32)))
 (Chk (nmB 4 (Blk.cells ns))
 (Chk (nmB 4 (Blk.cells hs))
 (Chk (nmB 4 (Blk.cells (mutP (blP B ks hc n ns hs) (idB at_) n1)))
 (Chk (nmB 4 (Blk.cells (ops0.spl hopZ 0 (hpP B ks hs (mutP (blP B ks hc n ns hs) (idB at_) n1)))))
 (Chk (ownB (Blk.cells ns))
 (Chk (ownB (Blk.cells hs))
 (Chk (ownB (Blk.cells (mutP (blP B ks hc n ns hs) (idB at_) n1)))
 (Chk (ownB (Blk.cells (ops0.spl hopZ 0 (hpP B ks hs (mutP (blP B ks hc n ns hs) (idB at_) n1)))))
 (Chk (ownB (Blk.cells (nxP B ks hs (mutP (blP B ks hc n ns hs) (idB at_) n1))))
 (Chk (ops0.le 101 (ops0.len (ops0.spl hopZ 0 (hpP B ks hs (mutP (blP B ks hc n ns hs) (idB at_) n1)))))
 (Chk (ops0.le 101 (ops0.len (ops0.spl hopZ 0 (hpP B ks hs (mutP (blP B ks hc n ns hs) (idB at_) n1)))))
 (Chk (ops0.eq (ops0.len (ops0.ext (ops0.spl hopZ 0 (hpP B ks hs (mutP (blP B ks hc n ns hs) (idB at_) n1))) 0 101)) 101)
 (Chk (ops0.eq (ops0.len (ops0.ext (ops0.spl hopZ 0 (hpP B ks hs (mutP (blP B ks hc n ns hs) (idB at_) n1))) 0 101)) 101)
 (Chk (ops0.le 1 (ops0.len (ops0.ext (ops0.spl hopZ 0 (hpP B ks hs (mutP (blP B ks hc n ns hs) (idB at_) n1))) 0 101)))
 (Chk (ops0.le 1 (ops0.len (ops0.ext (ops0.spl hopZ 0 (hpP B ks hs (mutP (blP B ks hc n ns hs) (idB at_) n1))) 0 101)))
 (∃ l:(List Int),((((ops0.ext (ops0.ext (ops0.spl hopZ 0 (hpP B ks hs (mutP (blP B ks hc n ns hs) (idB at_) n1))) 0 101) 0 1):(List AV))=(List.map (AV.int IntKind.i64) l)) /\
 (∃ l1:(List Int),((((ops0.ext (ops0.ext (ops0.spl hopZ 0 (hpP B ks hs (mutP (blP B ks hc n ns hs) (idB at_) n1))) 0 101) 0 1):(List AV))=(List.map (AV.int IntKind.i64) l1)) /\
 (Br (ops0.eqi l l1)
 (Chk (ops0.le 2 (ops0.len (ops0.ext (ops0.spl hopZ 0 (hpP B ks hs (mutP (blP B ks hc n ns hs) (idB at_) n1))) 0 101)))
 (Chk (ops0.le 2 (ops0.len (ops0.ext (ops0.spl hopZ 0 (hpP B ks hs (mutP (blP B ks hc n ns hs) (idB at_) n1))) 0 101)))
 (∃ l2:(List Int),((((ops0.ext (ops0.ext (ops0.spl hopZ 0 (hpP B ks hs (mutP (blP B ks hc n ns hs) (idB at_) n1))) 0 101) 1 1):(List AV))=(List.map (AV.int IntKind.i64) l2)) /\
 (∃ l3:(List Int),((((ops0.ext (ops0.ext (ops0.spl hopZ 0 (hpP B ks hs (mutP (blP B ks hc n ns hs) (idB at_) n1))) 0 101) 1 1):(List AV))=(List.map (AV.int IntKind.i64) l3)) /\
 (Br (ops0.eqi l2 l3)
 (Chk (ops0.le 3 (ops0.len (ops0.ext (ops0.spl hopZ 0 (hpP B ks hs (mutP (blP B ks hc n ns hs) (idB at_) n1))) 0 101)))
 (Chk (ops0.le 3 (ops0.len (ops0.ext (ops0.spl hopZ 0 (hpP B ks hs (mutP (blP B ks hc n ns hs) (idB at_) n1))) 0 101)))
 (∃ l4:(List Int),((((ops0.ext (ops0.ext (ops0.spl hopZ 0 (hpP B ks hs (mutP (blP B ks hc n ns hs) (idB at_) n1))) 0 101) 2 1):(List AV))=(List.map (AV.int IntKind.i64) l4)) /\
 (∃ l5:(List Int),((((ops0.ext (ops0.ext (ops0.spl hopZ 0 (hpP B ks hs (mutP (blP B ks hc n ns hs) (idB at_) n1))) 0 101) 2 1):(List AV))=(List.map (AV.int IntKind.i64) l5)) /\
 (Br (ops0.eqi l4 l5)
 (Chk (ops0.le 35 (ops0.len (ops0.ext (ops0.spl hopZ 0 (hpP B ks hs (mutP (blP B ks hc n ns hs) (idB at_) n1))) 0 101)))
 (Chk (ops0.le 35 (ops0.len (ops0.ext (ops0.spl hopZ 0 (hpP B ks hs (mutP (blP B ks hc n ns hs) (idB at_) n1))) 0 101)))
 (∃ l6:(List Int),((((ops0.ext (ops0.ext (ops0.spl hopZ 0 (hpP B ks hs (mutP (blP B ks hc n ns hs) (idB at_) n1))) 0 101) 3 32):(List AV))=(List.map (AV.int IntKind.u8) l6)) /\
 (∃ l7:(List Int),((((ops0.ext (ops0.ext (ops0.spl hopZ 0 (hpP B ks hs (mutP (blP B ks hc n ns hs) (idB at_) n1))) 0 101) 3 32):(List AV))=(List.map (AV.int IntKind.u8) l7)) /\
 (Br (ops0.eqi l6 l7)
 (Chk (ops0.le 36 (ops0.len (ops0.ext (ops0.spl hopZ 0 (hpP B ks hs (mutP (blP B ks hc n ns hs) (idB at_) n1))) 0 101)))
 (Chk (ops0.le 36 (ops0.len (ops0.ext (ops0.spl hopZ 0 (hpP B ks hs (mutP (blP B ks hc n ns hs) (idB at_) n1))) 0 101)))
 (∃ l8:(List Int),((((ops0.ext (ops0.ext (ops0.spl hopZ 0 (hpP B ks hs (mutP (blP B ks hc n ns hs) (idB at_) n1))) 0 101) 35 1):(List AV))=(List.map (AV.int IntKind.i64) l8)) /\
 (∃ l9:(List Int),((((ops0.ext (ops0.ext (ops0.spl hopZ 0 (hpP B ks hs (mutP (blP B ks hc n ns hs) (idB at_) n1))) 0 101) 35 1):(List AV))=(List.map (AV.int IntKind.i64) l9)) /\
 (Br (ops0.eqi l8 l9)
 (Chk (ops0.le 68 (ops0.len (ops0.ext (ops0.spl hopZ 0 (hpP B ks hs (mutP (blP B ks hc n ns hs) (idB at_) n1))) 0 101)))
 (Chk (ops0.le 68 (ops0.len (ops0.ext (ops0.spl hopZ 0 (hpP B ks hs (mutP (blP B ks hc n ns hs) (idB at_) n1))) 0 101)))
 (∃ l10:(List Int),((((ops0.ext (ops0.ext (ops0.spl hopZ 0 (hpP B ks hs (mutP (blP B ks hc n ns hs) (idB at_) n1))) 0 101) 36 32):(List AV))=(List.map (AV.int IntKind.u8) l10)) /\
 (∃ l11:(List Int),((((ops0.ext (ops0.ext (ops0.spl hopZ 0 (hpP B ks hs (mutP (blP B ks hc n ns hs) (idB at_) n1))) 0 101) 36 32):(List AV))=(List.map (AV.int IntKind.u8) l11)) /\
 (Br (ops0.eqi l10 l11)
 (Chk (ops0.le 69 (ops0.len (ops0.ext (ops0.spl hopZ 0 (hpP B ks hs (mutP (blP B ks hc n ns hs) (idB at_) n1))) 0 101)))
 (Chk (ops0.le 69 (ops0.len (ops0.ext (ops0.spl hopZ 0 (hpP B ks hs (mutP (blP B ks hc n ns hs) (idB at_) n1))) 0 101)))
 (∃ l12:(List Int),((((ops0.ext (ops0.ext (ops0.spl hopZ 0 (hpP B ks hs (mutP (blP B ks hc n ns hs) (idB at_) n1))) 0 101) 68 1):(List AV))=(List.map (AV.int IntKind.i64) l12)) /\
 (∃ l13:(List Int),((((ops0.ext (ops0.ext (ops0.spl hopZ 0 (hpP B ks hs (mutP (blP B ks hc n ns hs) (idB at_) n1))) 0 101) 68 1):(List AV))=(List.map (AV.int IntKind.i64) l13)) /\
 (Br (ops0.eqi l12 l13)
 (Chk (ops0.le 101 (ops0.len (ops0.ext (ops0.spl hopZ 0 (hpP B ks hs (mutP (blP B ks hc n ns hs) (idB at_) n1))) 0 101)))
 (Chk (ops0.le 101 (ops0.len (ops0.ext (ops0.spl hopZ 0 (hpP B ks hs (mutP (blP B ks hc n ns hs) (idB at_) n1))) 0 101)))
 (∃ l14:(List Int),((((ops0.ext (ops0.ext (ops0.spl hopZ 0 (hpP B ks hs (mutP (blP B ks hc n ns hs) (idB at_) n1))) 0 101) 69 32):(List AV))=(List.map (AV.int IntKind.u8) l14)) /\
 (∃ l15:(List Int),((((ops0.ext (ops0.ext (ops0.spl hopZ 0 (hpP B ks hs (mutP (blP B ks hc n ns hs) (idB at_) n1))) 0 101) 69 32):(List AV))=(List.map (AV.int IntKind.u8) l15)) /\
 (Br (ops0.eqi l14 l15)
 (∃ l16:(List UInt8),((([]:(List AV))=(List.map (fun b=>(AV.int IntKind.u8 (((UInt8.toNat b):Nat):Int))) l16)) /\
 (Chk (ops0.le 2112 (ops0.len (nxP B ks hs (mutP (blP B ks hc n ns hs) (idB at_) n1))))
 (∃ l17:(List UInt8),((((ops0.ext (nxP B ks hs (mutP (blP B ks hc n ns hs) (idB at_) n1)) 0 2112):(List AV))=(List.map (fun b=>(AV.int IntKind.u8 (((UInt8.toNat b):Nat):Int))) l17)) /\
 (Br (ops0.eqs l16 l17)
 (Br (ops0.cmp BinOp.eql (erP B ks hs (mutP (blP B ks hc n ns hs) (idB at_) n1)) (Int.ofNat 0))
 (Q (AV.bool Bool.true))
 (Q (AV.bool Bool.false)))
 (Q (AV.bool Bool.false))))))))
 (Q (AV.bool Bool.false)))))))))
 (Q (AV.bool Bool.false)))))))))
 (Q (AV.bool Bool.false)))))))))
 (Q (AV.bool Bool.false)))))))))
 (Q (AV.bool Bool.false)))))))))
 (Q (AV.bool Bool.false)))))))))
 (Q (AV.bool Bool.false)))))))))
 (Q (AV.bool Bool.false))))))))))))))))))))))))))
 (Chk (ops0.eq (ops0.len (hpP B ks hs (mutP (blP B ks hc n ns hs) (idB at_) n1))) 101)
 (Chk (own (AV.tup [(AV.agg (hpP B ks hs (mutP (blP B ks hc n ns hs) (idB at_) n1))),AV.nils,(AV.int IntKind.i64 (erP B ks hs (mutP (blP B ks hc n ns hs) (idB at_) n1)))]))
 (Chk (nm 4 (AV.agg (ops0.ext ks 0 32)))
 (Chk (nm 4 (AV.agg (ops0.ext hs 0 32)))
 (Chk (nmB 4 (Blk.cells ns))
 (Chk (nmB 4 (Blk.cells hs))
 (Chk (nmB 4 (Blk.cells (mutP (blP B ks hc n ns hs) (idB at_) n1)))
 (Chk (nmB 4 (Blk.cells (ops0.spl hopZ 0 (hpP B ks hs (mutP (blP B ks hc n ns hs) (idB at_) n1)))))
 (Chk (ownB (Blk.cells ns))
 (Chk (ownB (Blk.cells hs))
 (Chk (ownB (Blk.cells (mutP (blP B ks hc n ns hs) (idB at_) n1)))
 (Chk (ownB (Blk.cells (ops0.spl hopZ 0 (hpP B ks hs (mutP (blP B ks hc n ns hs) (idB at_) n1)))))
 (Chk (ops0.le 101 (ops0.len (ops0.spl hopZ 0 (hpP B ks hs (mutP (blP B ks hc n ns hs) (idB at_) n1)))))
 (Chk (ops0.le 101 (ops0.len (ops0.spl hopZ 0 (hpP B ks hs (mutP (blP B ks hc n ns hs) (idB at_) n1)))))
 (Chk (ops0.eq (ops0.len (ops0.ext (ops0.spl hopZ 0 (hpP B ks hs (mutP (blP B ks hc n ns hs) (idB at_) n1))) 0 101)) 101)
 (Chk (ops0.eq (ops0.len (ops0.ext (ops0.spl hopZ 0 (hpP B ks hs (mutP (blP B ks hc n ns hs) (idB at_) n1))) 0 101)) 101)
 (Chk (ops0.le 1 (ops0.len (ops0.ext (ops0.spl hopZ 0 (hpP B ks hs (mutP (blP B ks hc n ns hs) (idB at_) n1))) 0 101)))
 (Chk (ops0.le 1 (ops0.len (ops0.ext (ops0.spl hopZ 0 (hpP B ks hs (mutP (blP B ks hc n ns hs) (idB at_) n1))) 0 101)))
 (∃ l:(List Int),((((ops0.ext (ops0.ext (ops0.spl hopZ 0 (hpP B ks hs (mutP (blP B ks hc n ns hs) (idB at_) n1))) 0 101) 0 1):(List AV))=(List.map (AV.int IntKind.i64) l)) /\
 (∃ l1:(List Int),((((ops0.ext (ops0.ext (ops0.spl hopZ 0 (hpP B ks hs (mutP (blP B ks hc n ns hs) (idB at_) n1))) 0 101) 0 1):(List AV))=(List.map (AV.int IntKind.i64) l1)) /\
 (Br (ops0.eqi l l1)
 (Chk (ops0.le 2 (ops0.len (ops0.ext (ops0.spl hopZ 0 (hpP B ks hs (mutP (blP B ks hc n ns hs) (idB at_) n1))) 0 101)))
 (Chk (ops0.le 2 (ops0.len (ops0.ext (ops0.spl hopZ 0 (hpP B ks hs (mutP (blP B ks hc n ns hs) (idB at_) n1))) 0 101)))
 (∃ l2:(List Int),((((ops0.ext (ops0.ext (ops0.spl hopZ 0 (hpP B ks hs (mutP (blP B ks hc n ns hs) (idB at_) n1))) 0 101) 1 1):(List AV))=(List.map (AV.int IntKind.i64) l2)) /\
 (∃ l3:(List Int),((((ops0.ext (ops0.ext (ops0.spl hopZ 0 (hpP B ks hs (mutP (blP B ks hc n ns hs) (idB at_) n1))) 0 101) 1 1):(List AV))=(List.map (AV.int IntKind.i64) l3)) /\
 (Br (ops0.eqi l2 l3)
 (Chk (ops0.le 3 (ops0.len (ops0.ext (ops0.spl hopZ 0 (hpP B ks hs (mutP (blP B ks hc n ns hs) (idB at_) n1))) 0 101)))
 (Chk (ops0.le 3 (ops0.len (ops0.ext (ops0.spl hopZ 0 (hpP B ks hs (mutP (blP B ks hc n ns hs) (idB at_) n1))) 0 101)))
 (∃ l4:(List Int),((((ops0.ext (ops0.ext (ops0.spl hopZ 0 (hpP B ks hs (mutP (blP B ks hc n ns hs) (idB at_) n1))) 0 101) 2 1):(List AV))=(List.map (AV.int IntKind.i64) l4)) /\
 (∃ l5:(List Int),((((ops0.ext (ops0.ext (ops0.spl hopZ 0 (hpP B ks hs (mutP (blP B ks hc n ns hs) (idB at_) n1))) 0 101) 2 1):(List AV))=(List.map (AV.int IntKind.i64) l5)) /\
 (Br (ops0.eqi l4 l5)
 (Chk (ops0.le 35 (ops0.len (ops0.ext (ops0.spl hopZ 0 (hpP B ks hs (mutP (blP B ks hc n ns hs) (idB at_) n1))) 0 101)))
 (Chk (ops0.le 35 (ops0.len (ops0.ext (ops0.spl hopZ 0 (hpP B ks hs (mutP (blP B ks hc n ns hs) (idB at_) n1))) 0 101)))
 (∃ l6:(List Int),((((ops0.ext (ops0.ext (ops0.spl hopZ 0 (hpP B ks hs (mutP (blP B ks hc n ns hs) (idB at_) n1))) 0 101) 3 32):(List AV))=(List.map (AV.int IntKind.u8) l6)) /\
 (∃ l7:(List Int),((((ops0.ext (ops0.ext (ops0.spl hopZ 0 (hpP B ks hs (mutP (blP B ks hc n ns hs) (idB at_) n1))) 0 101) 3 32):(List AV))=(List.map (AV.int IntKind.u8) l7)) /\
 (Br (ops0.eqi l6 l7)
 (Chk (ops0.le 36 (ops0.len (ops0.ext (ops0.spl hopZ 0 (hpP B ks hs (mutP (blP B ks hc n ns hs) (idB at_) n1))) 0 101)))
 (Chk (ops0.le 36 (ops0.len (ops0.ext (ops0.spl hopZ 0 (hpP B ks hs (mutP (blP B ks hc n ns hs) (idB at_) n1))) 0 101)))
 (∃ l8:(List Int),((((ops0.ext (ops0.ext (ops0.spl hopZ 0 (hpP B ks hs (mutP (blP B ks hc n ns hs) (idB at_) n1))) 0 101) 35 1):(List AV))=(List.map (AV.int IntKind.i64) l8)) /\
 (∃ l9:(List Int),((((ops0.ext (ops0.ext (ops0.spl hopZ 0 (hpP B ks hs (mutP (blP B ks hc n ns hs) (idB at_) n1))) 0 101) 35 1):(List AV))=(List.map (AV.int IntKind.i64) l9)) /\
 (Br (ops0.eqi l8 l9)
 (Chk (ops0.le 68 (ops0.len (ops0.ext (ops0.spl hopZ 0 (hpP B ks hs (mutP (blP B ks hc n ns hs) (idB at_) n1))) 0 101)))
 (Chk (ops0.le 68 (ops0.len (ops0.ext (ops0.spl hopZ 0 (hpP B ks hs (mutP (blP B ks hc n ns hs) (idB at_) n1))) 0 101)))
 (∃ l10:(List Int),((((ops0.ext (ops0.ext (ops0.spl hopZ 0 (hpP B ks hs (mutP (blP B ks hc n ns hs) (idB at_) n1))) 0 101) 36 32):(List AV))=(List.map (AV.int IntKind.u8) l10)) /\
 (∃ l11:(List Int),((((ops0.ext (ops0.ext (ops0.spl hopZ 0 (hpP B ks hs (mutP (blP B ks hc n ns hs) (idB at_) n1))) 0 101) 36 32):(List AV))=(List.map (AV.int IntKind.u8) l11)) /\
 (Br (ops0.eqi l10 l11)
 (Chk (ops0.le 69 (ops0.len (ops0.ext (ops0.spl hopZ 0 (hpP B ks hs (mutP (blP B ks hc n ns hs) (idB at_) n1))) 0 101)))
 (Chk (ops0.le 69 (ops0.len (ops0.ext (ops0.spl hopZ 0 (hpP B ks hs (mutP (blP B ks hc n ns hs) (idB at_) n1))) 0 101)))
 (∃ l12:(List Int),((((ops0.ext (ops0.ext (ops0.spl hopZ 0 (hpP B ks hs (mutP (blP B ks hc n ns hs) (idB at_) n1))) 0 101) 68 1):(List AV))=(List.map (AV.int IntKind.i64) l12)) /\
 (∃ l13:(List Int),((((ops0.ext (ops0.ext (ops0.spl hopZ 0 (hpP B ks hs (mutP (blP B ks hc n ns hs) (idB at_) n1))) 0 101) 68 1):(List AV))=(List.map (AV.int IntKind.i64) l13)) /\
 (Br (ops0.eqi l12 l13)
 (Chk (ops0.le 101 (ops0.len (ops0.ext (ops0.spl hopZ 0 (hpP B ks hs (mutP (blP B ks hc n ns hs) (idB at_) n1))) 0 101)))
 (Chk (ops0.le 101 (ops0.len (ops0.ext (ops0.spl hopZ 0 (hpP B ks hs (mutP (blP B ks hc n ns hs) (idB at_) n1))) 0 101)))
 (∃ l14:(List Int),((((ops0.ext (ops0.ext (ops0.spl hopZ 0 (hpP B ks hs (mutP (blP B ks hc n ns hs) (idB at_) n1))) 0 101) 69 32):(List AV))=(List.map (AV.int IntKind.u8) l14)) /\
 (∃ l15:(List Int),((((ops0.ext (ops0.ext (ops0.spl hopZ 0 (hpP B ks hs (mutP (blP B ks hc n ns hs) (idB at_) n1))) 0 101) 69 32):(List AV))=(List.map (AV.int IntKind.u8) l15)) /\
 (Br (ops0.eqi l14 l15)
 (∃ l16:(List UInt8),((([]:(List AV))=(List.map (fun b=>(AV.int IntKind.u8 (((UInt8.toNat b):Nat):Int))) l16)) /\
 (∃ l17:(List UInt8),((([]:(List AV))=(List.map (fun b=>(AV.int IntKind.u8 (((UInt8.toNat b):Nat):Int))) l17)) /\
 (Br (ops0.eqs l16 l17)
 (Br (ops0.cmp BinOp.eql (erP B ks hs (mutP (blP B ks hc n ns hs) (idB at_) n1)) (erP B ks hs (mutP (blP B ks hc n ns hs) (idB at_) n1)))
 (Q (AV.bool Bool.true))
 (Q (AV.bool Bool.false)))
 (Q (AV.bool Bool.false)))))))
 (Q (AV.bool Bool.false)))))))))
 (Q (AV.bool Bool.false)))))))))
 (Q (AV.bool Bool.false)))))))))
 (Q (AV.bool Bool.false)))))))))
 (Q (AV.bool Bool.false)))))))))
 (Q (AV.bool Bool.false)))))))))
 (Q (AV.bool Bool.false)))))))))
 (Q (AV.bool Bool.false)))))))))))))))))))))))))))))))))))))))))))))))))))
 (Chk (ops0.inr (ops0.bin BinOp.quo IntKind.i64 (idA at_) (Int.ofNat 8)) 2112)
 (∃ n1:Int,((Nth (blP B ks hc n ns hs) (ops0.adr 0 (ops0.bin BinOp.quo IntKind.i64 (idA at_) (Int.ofNat 8)) 1) (AV.int IntKind.u8 n1)) /\
 (Chk (ops0.nn (ops0.bin BinOp.rem IntKind.i64 (idA at_) (Int.ofNat 8)))
 (Chk (ops0.inr (ops0.bin BinOp.quo IntKind.i64 (idA at_) (Int.ofNat 8)) 2112)
 (Chk (ops0.lt (ops0.adr 0 (ops0.bin BinOp.quo IntKind.i64 (idA at_) (Int.ofNat 8)) 1) (ops0.len (blP B ks hc n ns hs)))
 (Chk (ops0.inr (Int.ofNat 0) kn)
 (Chk (ops0.le 32 (ops0.len ks))
 (Chk (ops0.le 32 (ops0.len hs))
 (((P63 (ops0.ext ks 0 32) (mutP (blP B ks hc n ns hs) (idA at_) n1) 0 2112 (ops0.ext hs 0 32)) /\
 (2112<=2112)) /\
 (Br (goP B ks hs (mutP (blP B ks hc n ns hs) (idA at_) n1))
 (Chk (ops0.eq (ops0.len (hpP B ks hs (mutP (blP B ks hc n ns hs) (idA at_) n1))) 101)
 (Chk (own (AV.tup [(AV.agg (hpP B ks hs (mutP (blP B ks hc n ns hs) (idA at_) n1))),(AV.slc 3 0 2112 2112 1),(AV.int IntKind.i64 (Int.ofNat 0))]))
 (Chk (nm 3 (AV.agg (ops0.ext ks 0 32)))
 (Chk (nm 3 (AV.agg (ops0.ext hs 0 32)))
 (Chk (nmB 3 (Blk.cells ns))
 (Chk (nmB 3 (Blk.cells hs))
 (Chk (nmB 3 (Blk.cells (mutP (blP B ks hc n ns hs) (idA at_) n1)))
 (Chk (ownB (Blk.cells ns))
 (Chk (ownB (Blk.cells hs))
 (Chk (ownB (Blk.cells (mutP (blP B ks hc n ns hs) (idA at_) n1)))
 (Chk (ownB (Blk.cells (nxP B ks hs (mutP (blP B ks hc n ns hs) (idA at_) n1))))
 (Chk (ops0.inr (Int.ofNat 0) kn)
 (Chk (ops0.le 32 (ops0.len ks))
 (Chk (ops0.le 32 (ops0.len hs))
 (((P63 (ops0.ext ks 0 32) (mutP (blP B ks hc n ns hs) (idA at_) n1) 0 2112 (ops0.ext hs 0 32)) /\
 (2112<=2112)) /\
 (Br (goP B ks hs (mutP (blP B ks hc n ns hs) (idA at_) n1))
 (Chk (ops0.eq (ops0.len (hpP B ks hs (mutP (blP B ks hc n ns hs) (idA at_) n1))) 101)
 (Chk (own (AV.tup [(AV.agg (hpP B ks hs (mutP (blP B ks hc n ns hs) (idA at_) n1))),(AV.slc 5 0 2112 2112 1),(AV.int IntKind.i64 (Int.ofNat 0))]))
 (Chk (nm 5 (AV.agg (ops0.ext ks 0 32)))
 (Chk (nm 5 (AV.agg (ops0.ext hs 0 32)))
 (Chk (nmB 5 (Blk.cells ns))
 (Chk (nmB 5 (Blk.cells hs))
 (Chk (nmB 5 (Blk.cells (mutP (blP B ks hc n ns hs) (idA at_) n1)))
 (Chk (nmB 5 (Blk.cells (nxP B ks hs (mutP (blP B ks hc n ns hs) (idA at_) n1))))
 (Chk (nmB 5 (Blk.cells (ops0.spl hopZ 0 (hpP B ks hs (mutP (blP B ks hc n ns hs) (idA at_) n1)))))
 (Chk (ownB (Blk.cells ns))
 (Chk (ownB (Blk.cells hs))
 (Chk (ownB (Blk.cells (mutP (blP B ks hc n ns hs) (idA at_) n1)))
 (Chk (ownB (Blk.cells (nxP B ks hs (mutP (blP B ks hc n ns hs) (idA at_) n1))))
 (Chk (ownB (Blk.cells (ops0.spl hopZ 0 (hpP B ks hs (mutP (blP B ks hc n ns hs) (idA at_) n1)))))
 (Chk (ownB (Blk.cells (nxP B ks hs (mutP (blP B ks hc n ns hs) (idA at_) n1))))
 (Chk (ops0.le 101 (ops0.len (ops0.spl hopZ 0 (hpP B ks hs (mutP (blP B ks hc n ns hs) (idA at_) n1)))))
 (Chk (ops0.le 101 (ops0.len (ops0.spl hopZ 0 (hpP B ks hs (mutP (blP B ks hc n ns hs) (idA at_) n1)))))
 (Chk (ops0.eq (ops0.len (ops0.ext (ops0.spl hopZ 0 (hpP B ks hs (mutP (blP B ks hc n ns hs) (idA at_) n1))) 0 101)) 101)
 (Chk (ops0.eq (ops0.len (ops0.ext (ops0.spl hopZ 0 (hpP B ks hs (mutP (blP B ks hc n ns hs) (idA at_) n1))) 0 101)) 101)
 (Chk (ops0.le 1 (ops0.len (ops0.ext (ops0.spl hopZ 0 (hpP B ks hs (mutP (blP B ks hc n ns hs) (idA at_) n1))) 0 101)))
 (Chk (ops0.le 1 (ops0.len (ops0.ext (ops0.spl hopZ 0 (hpP B ks hs (mutP (blP B ks hc n ns hs) (idA at_) n1))) 0 101)))
 (∃ l:(List Int),((((ops0.ext (ops0.ext (ops0.spl hopZ 0 (hpP B ks hs (mutP (blP B ks hc n ns hs) (idA at_) n1))) 0 101) 0 1):(List AV))=(List.map (AV.int IntKind.i64) l)) /\
 (∃ l1:(List Int),((((ops0.ext (ops0.ext (ops0.spl hopZ 0 (hpP B ks hs (mutP (blP B ks hc n ns hs) (idA at_) n1))) 0 101) 0 1):(List AV))=(List.map (AV.int IntKind.i64) l1)) /\
 (Br (ops0.eqi l l1)
 (Chk (ops0.le 2 (ops0.len (ops0.ext (ops0.spl hopZ 0 (hpP B ks hs (mutP (blP B ks hc n ns hs) (idA at_) n1))) 0 101)))
 (Chk (ops0.le 2 (ops0.len (ops0.ext (ops0.spl hopZ 0 (hpP B ks hs (mutP (blP B ks hc n ns hs) (idA at_) n1))) 0 101)))
 (∃ l2:(List Int),((((ops0.ext (ops0.ext (ops0.spl hopZ 0 (hpP B ks hs (mutP (blP B ks hc n ns hs) (idA at_) n1))) 0 101) 1 1):(List AV))=(List.map (AV.int IntKind.i64) l2)) /\
 (∃ l3:(List Int),((((ops0.ext (ops0.ext (ops0.spl hopZ 0 (hpP B ks hs (mutP (blP B ks hc n ns hs) (idA at_) n1))) 0 101) 1 1):(List AV))=(List.map (AV.int IntKind.i64) l3)) /\
 (Br (ops0.eqi l2 l3)
 (Chk (ops0.le 3 (ops0.len (ops0.ext (ops0.spl hopZ 0 (hpP B ks hs (mutP (blP B ks hc n ns hs) (idA at_) n1))) 0 101)))
 (Chk (ops0.le 3 (ops0.len (ops0.ext (ops0.spl hopZ 0 (hpP B ks hs (mutP (blP B ks hc n ns hs) (idA at_) n1))) 0 101)))
 (∃ l4:(List Int),((((ops0.ext (ops0.ext (ops0.spl hopZ 0 (hpP B ks hs (mutP (blP B ks hc n ns hs) (idA at_) n1))) 0 101) 2 1):(List AV))=(List.map (AV.int IntKind.i64) l4)) /\
 (∃ l5:(List Int),((((ops0.ext (ops0.ext (ops0.spl hopZ 0 (hpP B ks hs (mutP (blP B ks hc n ns hs) (idA at_) n1))) 0 101) 2 1):(List AV))=(List.map (AV.int IntKind.i64) l5)) /\
 (Br (ops0.eqi l4 l5)
 (Chk (ops0.le 35 (ops0.len (ops0.ext (ops0.spl hopZ 0 (hpP B ks hs (mutP (blP B ks hc n ns hs) (idA at_) n1))) 0 101)))
 (Chk (ops0.le 35 (ops0.len (ops0.ext (ops0.spl hopZ 0 (hpP B ks hs (mutP (blP B ks hc n ns hs) (idA at_) n1))) 0 101)))
 (∃ l6:(List Int),((((ops0.ext (ops0.ext (ops0.spl hopZ 0 (hpP B ks hs (mutP (blP B ks hc n ns hs) (idA at_) n1))) 0 101) 3 32):(List AV))=(List.map (AV.int IntKind.u8) l6)) /\
 (∃ l7:(List Int),((((ops0.ext (ops0.ext (ops0.spl hopZ 0 (hpP B ks hs (mutP (blP B ks hc n ns hs) (idA at_) n1))) 0 101) 3 32):(List AV))=(List.map (AV.int IntKind.u8) l7)) /\
 (Br (ops0.eqi l6 l7)
 (Chk (ops0.le 36 (ops0.len (ops0.ext (ops0.spl hopZ 0 (hpP B ks hs (mutP (blP B ks hc n ns hs) (idA at_) n1))) 0 101)))
 (Chk (ops0.le 36 (ops0.len (ops0.ext (ops0.spl hopZ 0 (hpP B ks hs (mutP (blP B ks hc n ns hs) (idA at_) n1))) 0 101)))
 (∃ l8:(List Int),((((ops0.ext (ops0.ext (ops0.spl hopZ 0 (hpP B ks hs (mutP (blP B ks hc n ns hs) (idA at_) n1))) 0 101) 35 1):(List AV))=(List.map (AV.int IntKind.i64) l8)) /\
 (∃ l9:(List Int),((((ops0.ext (ops0.ext (ops0.spl hopZ 0 (hpP B ks hs (mutP (blP B ks hc n ns hs) (idA at_) n1))) 0 101) 35 1):(List AV))=(List.map (AV.int IntKind.i64) l9)) /\
 (Br (ops0.eqi l8 l9)
 (Chk (ops0.le 68 (ops0.len (ops0.ext (ops0.spl hopZ 0 (hpP B ks hs (mutP (blP B ks hc n ns hs) (idA at_) n1))) 0 101)))
 (Chk (ops0.le 68 (ops0.len (ops0.ext (ops0.spl hopZ 0 (hpP B ks hs (mutP (blP B ks hc n ns hs) (idA at_) n1))) 0 101)))
 (∃ l10:(List Int),((((ops0.ext (ops0.ext (ops0.spl hopZ 0 (hpP B ks hs (mutP (blP B ks hc n ns hs) (idA at_) n1))) 0 101) 36 32):(List AV))=(List.map (AV.int IntKind.u8) l10)) /\
 (∃ l11:(List Int),((((ops0.ext (ops0.ext (ops0.spl hopZ 0 (hpP B ks hs (mutP (blP B ks hc n ns hs) (idA at_) n1))) 0 101) 36 32):(List AV))=(List.map (AV.int IntKind.u8) l11)) /\
 (Br (ops0.eqi l10 l11)
 (Chk (ops0.le 69 (ops0.len (ops0.ext (ops0.spl hopZ 0 (hpP B ks hs (mutP (blP B ks hc n ns hs) (idA at_) n1))) 0 101)))
 (Chk (ops0.le 69 (ops0.len (ops0.ext (ops0.spl hopZ 0 (hpP B ks hs (mutP (blP B ks hc n ns hs) (idA at_) n1))) 0 101)))
 (∃ l12:(List Int),((((ops0.ext (ops0.ext (ops0.spl hopZ 0 (hpP B ks hs (mutP (blP B ks hc n ns hs) (idA at_) n1))) 0 101) 68 1):(List AV))=(List.map (AV.int IntKind.i64) l12)) /\
 (∃ l13:(List Int),((((ops0.ext (ops0.ext (ops0.spl hopZ 0 (hpP B ks hs (mutP (blP B ks hc n ns hs) (idA at_) n1))) 0 101) 68 1):(List AV))=(List.map (AV.int IntKind.i64) l13)) /\
 (Br (ops0.eqi l12 l13)
 (Chk (ops0.le 101 (ops0.len (ops0.ext (ops0.spl hopZ 0 (hpP B ks hs (mutP (blP B ks hc n ns hs) (idA at_) n1))) 0 101)))
 (Chk (ops0.le 101 (ops0.len (ops0.ext (ops0.spl hopZ 0 (hpP B ks hs (mutP (blP B ks hc n ns hs) (idA at_) n1))) 0 101)))
 (∃ l14:(List Int),((((ops0.ext (ops0.ext (ops0.spl hopZ 0 (hpP B ks hs (mutP (blP B ks hc n ns hs) (idA at_) n1))) 0 101) 69 32):(List AV))=(List.map (AV.int IntKind.u8) l14)) /\
 (∃ l15:(List Int),((((ops0.ext (ops0.ext (ops0.spl hopZ 0 (hpP B ks hs (mutP (blP B ks hc n ns hs) (idA at_) n1))) 0 101) 69 32):(List AV))=(List.map (AV.int IntKind.u8) l15)) /\
 (Br (ops0.eqi l14 l15)
 (Chk (ops0.le 2112 (ops0.len (nxP B ks hs (mutP (blP B ks hc n ns hs) (idA at_) n1))))
 (∃ l16:(List UInt8),((((ops0.ext (nxP B ks hs (mutP (blP B ks hc n ns hs) (idA at_) n1)) 0 2112):(List AV))=(List.map (fun b=>(AV.int IntKind.u8 (((UInt8.toNat b):Nat):Int))) l16)) /\
 (Chk (ops0.le 2112 (ops0.len (nxP B ks hs (mutP (blP B ks hc n ns hs) (idA at_) n1))))
 (∃ l17:(List UInt8),((((ops0.ext (nxP B ks hs (mutP (blP B ks hc n ns hs) (idA at_) n1)) 0 2112):(List AV))=(List.map (fun b=>(AV.int IntKind.u8 (((UInt8.toNat b):Nat):Int))) l17)) /\
 (Br (ops0.eqs l16 l17)
 (Q (AV.bool Bool.true))
 (Q (AV.bool Bool.false)))))))))
 (Q (AV.bool Bool.false)))))))))
 (Q (AV.bool Bool.false)))))))))
 (Q (AV.bool Bool.false)))))))))
 (Q (AV.bool Bool.false)))))))))
 (Q (AV.bool Bool.false)))))))))
 (Q (AV.bool Bool.false)))))))))
 (Q (AV.bool Bool.false)))))))))
 (Q (AV.bool Bool.false))))))))))))))))))))))))))))
 (Chk (ops0.eq (ops0.len (hpP B ks hs (mutP (blP B ks hc n ns hs) (idA at_) n1))) 101)
 (Chk (own (AV.tup [(AV.agg (hpP B ks hs (mutP (blP B ks hc n ns hs) (idA at_) n1))),AV.nils,(AV.int IntKind.i64 (erP B ks hs (mutP (blP B ks hc n ns hs) (idA at_) n1)))]))
 (Chk (nm 5 (AV.agg (ops0.ext ks 0 32)))
 (Chk (nm 5 (AV.agg (ops0.ext hs 0 32)))
 (Chk (nmB 5 (Blk.cells ns))
 (Chk (nmB 5 (Blk.cells hs))
 (Chk (nmB 5 (Blk.cells (mutP (blP B ks hc n ns hs) (idA at_) n1)))
 (Chk (nmB 5 (Blk.cells (nxP B ks hs (mutP (blP B ks hc n ns hs) (idA at_) n1))))
 (Chk (nmB 5 (Blk.cells (ops0.spl hopZ 0 (hpP B ks hs (mutP (blP B ks hc n ns hs) (idA at_) n1)))))
 (Chk (ownB (Blk.cells ns))
 (Chk (ownB (Blk.cells hs))
 (Chk (ownB (Blk.cells (mutP (blP B ks hc n ns hs) (idA at_) n1)))
 (Chk (ownB (Blk.cells (nxP B ks hs (mutP (blP B ks hc n ns hs) (idA at_) n1))))
 (Chk (ownB (Blk.cells (ops0.spl hopZ 0 (hpP B ks hs (mutP (blP B ks hc n ns hs) (idA at_) n1)))))
 (Chk (ops0.le 101 (ops0.len (ops0.spl hopZ 0 (hpP B ks hs (mutP (blP B ks hc n ns hs) (idA at_) n1)))))
 (Chk (ops0.le 101 (ops0.len (ops0.spl hopZ 0 (hpP B ks hs (mutP (blP B ks hc n ns hs) (idA at_) n1)))))
 (Chk (ops0.eq (ops0.len (ops0.ext (ops0.spl hopZ 0 (hpP B ks hs (mutP (blP B ks hc n ns hs) (idA at_) n1))) 0 101)) 101)
 (Chk (ops0.eq (ops0.len (ops0.ext (ops0.spl hopZ 0 (hpP B ks hs (mutP (blP B ks hc n ns hs) (idA at_) n1))) 0 101)) 101)
 (Chk (ops0.le 1 (ops0.len (ops0.ext (ops0.spl hopZ 0 (hpP B ks hs (mutP (blP B ks hc n ns hs) (idA at_) n1))) 0 101)))
 (Chk (ops0.le 1 (ops0.len (ops0.ext (ops0.spl hopZ 0 (hpP B ks hs (mutP (blP B ks hc n ns hs) (idA at_) n1))) 0 101)))
 (∃ l:(List Int),((((ops0.ext (ops0.ext (ops0.spl hopZ 0 (hpP B ks hs (mutP (blP B ks hc n ns hs) (idA at_) n1))) 0 101) 0 1):(List AV))=(List.map (AV.int IntKind.i64) l)) /\
 (∃ l1:(List Int),((((ops0.ext (ops0.ext (ops0.spl hopZ 0 (hpP B ks hs (mutP (blP B ks hc n ns hs) (idA at_) n1))) 0 101) 0 1):(List AV))=(List.map (AV.int IntKind.i64) l1)) /\
 (Br (ops0.eqi l l1)
 (Chk (ops0.le 2 (ops0.len (ops0.ext (ops0.spl hopZ 0 (hpP B ks hs (mutP (blP B ks hc n ns hs) (idA at_) n1))) 0 101)))
 (Chk (ops0.le 2 (ops0.len (ops0.ext (ops0.spl hopZ 0 (hpP B ks hs (mutP (blP B ks hc n ns hs) (idA at_) n1))) 0 101)))
 (∃ l2:(List Int),((((ops0.ext (ops0.ext (ops0.spl hopZ 0 (hpP B ks hs (mutP (blP B ks hc n ns hs) (idA at_) n1))) 0 101) 1 1):(List AV))=(List.map (AV.int IntKind.i64) l2)) /\
 (∃ l3:(List Int),((((ops0.ext (ops0.ext (ops0.spl hopZ 0 (hpP B ks hs (mutP (blP B ks hc n ns hs) (idA at_) n1))) 0 101) 1 1):(List AV))=(List.map (AV.int IntKind.i64) l3)) /\
 (Br (ops0.eqi l2 l3)
 (Chk (ops0.le 3 (ops0.len (ops0.ext (ops0.spl hopZ 0 (hpP B ks hs (mutP (blP B ks hc n ns hs) (idA at_) n1))) 0 101)))
 (Chk (ops0.le 3 (ops0.len (ops0.ext (ops0.spl hopZ 0 (hpP B ks hs (mutP (blP B ks hc n ns hs) (idA at_) n1))) 0 101)))
 (∃ l4:(List Int),((((ops0.ext (ops0.ext (ops0.spl hopZ 0 (hpP B ks hs (mutP (blP B ks hc n ns hs) (idA at_) n1))) 0 101) 2 1):(List AV))=(List.map (AV.int IntKind.i64) l4)) /\
 (∃ l5:(List Int),((((ops0.ext (ops0.ext (ops0.spl hopZ 0 (hpP B ks hs (mutP (blP B ks hc n ns hs) (idA at_) n1))) 0 101) 2 1):(List AV))=(List.map (AV.int IntKind.i64) l5)) /\
 (Br (ops0.eqi l4 l5)
 (Chk (ops0.le 35 (ops0.len (ops0.ext (ops0.spl hopZ 0 (hpP B ks hs (mutP (blP B ks hc n ns hs) (idA at_) n1))) 0 101)))
 (Chk (ops0.le 35 (ops0.len (ops0.ext (ops0.spl hopZ 0 (hpP B ks hs (mutP (blP B ks hc n ns hs) (idA at_) n1))) 0 101)))
 (∃ l6:(List Int),((((ops0.ext (ops0.ext (ops0.spl hopZ 0 (hpP B ks hs (mutP (blP B ks hc n ns hs) (idA at_) n1))) 0 101) 3 32):(List AV))=(List.map (AV.int IntKind.u8) l6)) /\
 (∃ l7:(List Int),((((ops0.ext (ops0.ext (ops0.spl hopZ 0 (hpP B ks hs (mutP (blP B ks hc n ns hs) (idA at_) n1))) 0 101) 3 32):(List AV))=(List.map (AV.int IntKind.u8) l7)) /\
 (Br (ops0.eqi l6 l7)
 (Chk (ops0.le 36 (ops0.len (ops0.ext (ops0.spl hopZ 0 (hpP B ks hs (mutP (blP B ks hc n ns hs) (idA at_) n1))) 0 101)))
 (Chk (ops0.le 36 (ops0.len (ops0.ext (ops0.spl hopZ 0 (hpP B ks hs (mutP (blP B ks hc n ns hs) (idA at_) n1))) 0 101)))
 (∃ l8:(List Int),((((ops0.ext (ops0.ext (ops0.spl hopZ 0 (hpP B ks hs (mutP (blP B ks hc n ns hs) (idA at_) n1))) 0 101) 35 1):(List AV))=(List.map (AV.int IntKind.i64) l8)) /\
 (∃ l9:(List Int),((((ops0.ext (ops0.ext (ops0.spl hopZ 0 (hpP B ks hs (mutP (blP B ks hc n ns hs) (idA at_) n1))) 0 101) 35 1):(List AV))=(List.map (AV.int IntKind.i64) l9)) /\
 (Br (ops0.eqi l8 l9)
 (Chk (ops0.le 68 (ops0.len (ops0.ext (ops0.spl hopZ 0 (hpP B ks hs (mutP (blP B ks hc n ns hs) (idA at_) n1))) 0 101)))
 (Chk (ops0.le 68 (ops0.len (ops0.ext (ops0.spl hopZ 0 (hpP B ks hs (mutP (blP B ks hc n ns hs) (idA at_) n1))) 0 101)))
 (∃ l10:(List Int),((((ops0.ext (ops0.ext (ops0.spl hopZ 0 (hpP B ks hs (mutP (blP B ks hc n ns hs) (idA at_) n1))) 0 101) 36 32):(List AV))=(List.map (AV.int IntKind.u8) l10)) /\
 (∃ l11:(List Int),((((ops0.ext (ops0.ext (ops0.spl hopZ 0 (hpP B ks hs (mutP (blP B ks hc n ns hs) (idA at_) n1))) 0 101) 36 32):(List AV))=(List.map (AV.int IntKind.u8) l11)) /\
 (Br (ops0.eqi l10 l11)
 (Chk (ops0.le 69 (ops0.len (ops0.ext (ops0.spl hopZ 0 (hpP B ks hs (mutP (blP B ks hc n ns hs) (idA at_) n1))) 0 101)))
 (Chk (ops0.le 69 (ops0.len (ops0.ext (ops0.spl hopZ 0 (hpP B ks hs (mutP (blP B ks hc n ns hs) (idA at_) n1))) 0 101)))
 (∃ l12:(List Int),((((ops0.ext (ops0.ext (ops0.spl hopZ 0 (hpP B ks hs (mutP (blP B ks hc n ns hs) (idA at_) n1))) 0 101) 68 1):(List AV))=(List.map (AV.int IntKind.i64) l12)) /\
 (∃ l13:(List Int),((((ops0.ext (ops0.ext (ops0.spl hopZ 0 (hpP B ks hs (mutP (blP B ks hc n ns hs) (idA at_) n1))) 0 101) 68 1):(List AV))=(List.map (AV.int IntKind.i64) l13)) /\
 (Br (ops0.eqi l12 l13)
 (Chk (ops0.le 101 (ops0.len (ops0.ext (ops0.spl hopZ 0 (hpP B ks hs (mutP (blP B ks hc n ns hs) (idA at_) n1))) 0 101)))
 (Chk (ops0.le 101 (ops0.len (ops0.ext (ops0.spl hopZ 0 (hpP B ks hs (mutP (blP B ks hc n ns hs) (idA at_) n1))) 0 101)))
 (∃ l14:(List Int),((((ops0.ext (ops0.ext (ops0.spl hopZ 0 (hpP B ks hs (mutP (blP B ks hc n ns hs) (idA at_) n1))) 0 101) 69 32):(List AV))=(List.map (AV.int IntKind.u8) l14)) /\
 (∃ l15:(List Int),((((ops0.ext (ops0.ext (ops0.spl hopZ 0 (hpP B ks hs (mutP (blP B ks hc n ns hs) (idA at_) n1))) 0 101) 69 32):(List AV))=(List.map (AV.int IntKind.u8) l15)) /\
 (Br (ops0.eqi l14 l15)
 (Chk (ops0.le 2112 (ops0.len (nxP B ks hs (mutP (blP B ks hc n ns hs) (idA at_) n1))))
 (∃ l16:(List UInt8),((((ops0.ext (nxP B ks hs (mutP (blP B ks hc n ns hs) (idA at_) n1)) 0 2112):(List AV))=(List.map (fun b=>(AV.int IntKind.u8 (((UInt8.toNat b):Nat):Int))) l16)) /\
 (∃ l17:(List UInt8),((([]:(List AV))=(List.map (fun b=>(AV.int IntKind.u8 (((UInt8.toNat b):Nat):Int))) l17)) /\
 (Br (ops0.eqs l16 l17)
 (Br (ops0.cmp BinOp.eql (Int.ofNat 0) (erP B ks hs (mutP (blP B ks hc n ns hs) (idA at_) n1)))
 (Q (AV.bool Bool.true))
 (Q (AV.bool Bool.false)))
 (Q (AV.bool Bool.false))))))))
 (Q (AV.bool Bool.false)))))))))
 (Q (AV.bool Bool.false)))))))))
 (Q (AV.bool Bool.false)))))))))
 (Q (AV.bool Bool.false)))))))))
 (Q (AV.bool Bool.false)))))))))
 (Q (AV.bool Bool.false)))))))))
 (Q (AV.bool Bool.false)))))))))
 (Q (AV.bool Bool.false)))))))))))))))))))))))))))))))))))))))))))
 (Chk (ops0.eq (ops0.len (hpP B ks hs (mutP (blP B ks hc n ns hs) (idA at_) n1))) 101)
 (Chk (own (AV.tup [(AV.agg (hpP B ks hs (mutP (blP B ks hc n ns hs) (idA at_) n1))),AV.nils,(AV.int IntKind.i64 (erP B ks hs (mutP (blP B ks hc n ns hs) (idA at_) n1)))]))
 (Chk (nm 3 (AV.agg (ops0.ext ks 0 32)))
 (Chk (nm 3 (AV.agg (ops0.ext hs 0 32)))
 (Chk (nmB 3 (Blk.cells ns))
 (Chk (nmB 3 (Blk.cells hs))
 (Chk (nmB 3 (Blk.cells (mutP (blP B ks hc n ns hs) (idA at_) n1)))
 (Chk (ownB (Blk.cells ns))
 (Chk (ownB (Blk.cells hs))
 (Chk (ownB (Blk.cells (mutP (blP B ks hc n ns hs) (idA at_) n1)))
 (Chk (ops0.inr (Int.ofNat 0) kn)
 (Chk (ops0.le 32 (ops0.len ks))
 (Chk (ops0.le 32 (ops0.len hs))
 (((P63 (ops0.ext ks 0 32) (mutP (blP B ks hc n ns hs) (idA at_) n1) 0 2112 (ops0.ext hs 0 32)) /\
 (2112<=2112)) /\
 (Br (goP B ks hs (mutP (blP B ks hc n ns hs) (idA at_) n1))
 (Chk (ops0.eq (ops0.len (hpP B ks hs (mutP (blP B ks hc n ns hs) (idA at_) n1))) 101)
 (Chk (own (AV.tup [(AV.agg (hpP B ks hs (mutP (blP B ks hc n ns hs) (idA at_) n1))),(AV.slc 4 0 2112 2112 1),(AV.int IntKind.i64 (Int.ofNat 0))]))
 (Chk (nm 4 (AV.agg (ops0.ext ks 0 32)))
 (Chk (nm 4 (AV.agg (ops0.ext hs 0 32)))
 (Chk (nmB 4 (Blk.cells ns))
 (Chk (nmB 4 (Blk.cells hs))
 (Chk (nmB 4 (Blk.cells (mutP (blP B ks hc n ns hs) (idA at_) n1)))
 (Chk (nmB 4 (Blk.cells (ops0.spl hopZ 0 (hpP B ks hs (mutP (blP B ks hc n ns hs) (idA at_) n1)))))
 (Chk (ownB (Blk.cells ns))
 (Chk (ownB (Blk.cells hs))
 (Chk (ownB (Blk.cells (mutP (blP B ks hc n ns hs) (idA at_) n1)))
 (Chk (ownB (Blk.cells (ops0.spl hopZ 0 (hpP B ks hs (mutP (blP B ks hc n ns hs) (idA at_) n1)))))
 (Chk (ownB (Blk.cells (nxP B ks hs (mutP (blP B ks hc n ns hs) (idA at_) n1))))
 (Chk (ops0.le 101 (ops0.len (ops0.spl hopZ 0 (hpP B ks hs (mutP (blP B ks hc n ns hs) (idA at_) n1)))))
 (Chk (ops0.le 101 (ops0.len (ops0.spl hopZ 0 (hpP B ks hs (mutP (blP B ks hc n ns hs) (idA at_) n1)))))
 (Chk (ops0.eq (ops0.len (ops0.ext (ops0.spl hopZ 0 (hpP B ks hs (mutP (blP B ks hc n ns hs) (idA at_) n1))) 0 101)) 101)
 (Chk (ops0.eq (ops0.len (ops0.ext (ops0.spl hopZ 0 (hpP B ks hs (mutP (blP B ks hc n ns hs) (idA at_) n1))) 0 101)) 101)
 (Chk (ops0.le 1 (ops0.len (ops0.ext (ops0.spl hopZ 0 (hpP B ks hs (mutP (blP B ks hc n ns hs) (idA at_) n1))) 0 101)))
 (Chk (ops0.le 1 (ops0.len (ops0.ext (ops0.spl hopZ 0 (hpP B ks hs (mutP (blP B ks hc n ns hs) (idA at_) n1))) 0 101)))
 (∃ l:(List Int),((((ops0.ext (ops0.ext (ops0.spl hopZ 0 (hpP B ks hs (mutP (blP B ks hc n ns hs) (idA at_) n1))) 0 101) 0 1):(List AV))=(List.map (AV.int IntKind.i64) l)) /\
 (∃ l1:(List Int),((((ops0.ext (ops0.ext (ops0.spl hopZ 0 (hpP B ks hs (mutP (blP B ks hc n ns hs) (idA at_) n1))) 0 101) 0 1):(List AV))=(List.map (AV.int IntKind.i64) l1)) /\
 (Br (ops0.eqi l l1)
 (Chk (ops0.le 2 (ops0.len (ops0.ext (ops0.spl hopZ 0 (hpP B ks hs (mutP (blP B ks hc n ns hs) (idA at_) n1))) 0 101)))
 (Chk (ops0.le 2 (ops0.len (ops0.ext (ops0.spl hopZ 0 (hpP B ks hs (mutP (blP B ks hc n ns hs) (idA at_) n1))) 0 101)))
 (∃ l2:(List Int),((((ops0.ext (ops0.ext (ops0.spl hopZ 0 (hpP B ks hs (mutP (blP B ks hc n ns hs) (idA at_) n1))) 0 101) 1 1):(List AV))=(List.map (AV.int IntKind.i64) l2)) /\
 (∃ l3:(List Int),((((ops0.ext (ops0.ext (ops0.spl hopZ 0 (hpP B ks hs (mutP (blP B ks hc n ns hs) (idA at_) n1))) 0 101) 1 1):(List AV))=(List.map (AV.int IntKind.i64) l3)) /\
 (Br (ops0.eqi l2 l3)
 (Chk (ops0.le 3 (ops0.len (ops0.ext (ops0.spl hopZ 0 (hpP B ks hs (mutP (blP B ks hc n ns hs) (idA at_) n1))) 0 101)))
 (Chk (ops0.le 3 (ops0.len (ops0.ext (ops0.spl hopZ 0 (hpP B ks hs (mutP (blP B ks hc n ns hs) (idA at_) n1))) 0 101)))
 (∃ l4:(List Int),((((ops0.ext (ops0.ext (ops0.spl hopZ 0 (hpP B ks hs (mutP (blP B ks hc n ns hs) (idA at_) n1))) 0 101) 2 1):(List AV))=(List.map (AV.int IntKind.i64) l4)) /\
 (∃ l5:(List Int),((((ops0.ext (ops0.ext (ops0.spl hopZ 0 (hpP B ks hs (mutP (blP B ks hc n ns hs) (idA at_) n1))) 0 101) 2 1):(List AV))=(List.map (AV.int IntKind.i64) l5)) /\
 (Br (ops0.eqi l4 l5)
 (Chk (ops0.le 35 (ops0.len (ops0.ext (ops0.spl hopZ 0 (hpP B ks hs (mutP (blP B ks hc n ns hs) (idA at_) n1))) 0 101)))
 (Chk (ops0.le 35 (ops0.len (ops0.ext (ops0.spl hopZ 0 (hpP B ks hs (mutP (blP B ks hc n ns hs) (idA at_) n1))) 0 101)))
 (∃ l6:(List Int),((((ops0.ext (ops0.ext (ops0.spl hopZ 0 (hpP B ks hs (mutP (blP B ks hc n ns hs) (idA at_) n1))) 0 101) 3 32):(List AV))=(List.map (AV.int IntKind.u8) l6)) /\
 (∃ l7:(List Int),((((ops0.ext (ops0.ext (ops0.spl hopZ 0 (hpP B ks hs (mutP (blP B ks hc n ns hs) (idA at_) n1))) 0 101) 3 32):(List AV))=(List.map (AV.int IntKind.u8) l7)) /\
 (Br (ops0.eqi l6 l7)
 (Chk (ops0.le 36 (ops0.len (ops0.ext (ops0.spl hopZ 0 (hpP B ks hs (mutP (blP B ks hc n ns hs) (idA at_) n1))) 0 101)))
 (Chk (ops0.le 36 (ops0.len (ops0.ext (ops0.spl hopZ 0 (hpP B ks hs (mutP (blP B ks hc n ns hs) (idA at_) n1))) 0 101)))
 (∃ l8:(List Int),((((ops0.ext (ops0.ext (ops0.spl hopZ 0 (hpP B ks hs (mutP (blP B ks hc n ns hs) (idA at_) n1))) 0 101) 35 1):(List AV))=(List.map (AV.int IntKind.i64) l8)) /\
 (∃ l9:(List Int),((((ops0.ext (ops0.ext (ops0.spl hopZ 0 (hpP B ks hs (mutP (blP B ks hc n ns hs) (idA at_) n1))) 0 101) 35 1):(List AV))=(List.map (AV.int IntKind.i64) l9)) /\
 (Br (ops0.eqi l8 l9)
 (Chk (ops0.le 68 (ops0.len (ops0.ext (ops0.spl hopZ 0 (hpP B ks hs (mutP (blP B ks hc n ns hs) (idA at_) n1))) 0 101)))
 (Chk (ops0.le 68 (ops0.len (ops0.ext (ops0.spl hopZ 0 (hpP B ks hs (mutP (blP B ks hc n ns hs) (idA at_) n1))) 0 101)))
 (∃ l10:(List Int),((((ops0.ext (ops0.ext (ops0.spl hopZ 0 (hpP B ks hs (mutP (blP B ks hc n ns hs) (idA at_) n1))) 0 101) 36 32):(List AV))=(List.map (AV.int IntKind.u8) l10)) /\
 (∃ l11:(List Int),((((ops0.ext (ops0.ext (ops0.spl hopZ 0 (hpP B ks hs (mutP (blP B ks hc n ns hs) (idA at_) n1))) 0 101) 36 32):(List AV))=(List.map (AV.int IntKind.u8) l11)) /\
 (Br (ops0.eqi l10 l11)
 (Chk (ops0.le 69 (ops0.len (ops0.ext (ops0.spl hopZ 0 (hpP B ks hs (mutP (blP B ks hc n ns hs) (idA at_) n1))) 0 101)))
 (Chk (ops0.le 69 (ops0.len (ops0.ext (ops0.spl hopZ 0 (hpP B ks hs (mutP (blP B ks hc n ns hs) (idA at_) n1))) 0 101)))
 (∃ l12:(List Int),((((ops0.ext (ops0.ext (ops0.spl hopZ 0 (hpP B ks hs (mutP (blP B ks hc n ns hs) (idA at_) n1))) 0 101) 68 1):(List AV))=(List.map (AV.int IntKind.i64) l12)) /\
 (∃ l13:(List Int),((((ops0.ext (ops0.ext (ops0.spl hopZ 0 (hpP B ks hs (mutP (blP B ks hc n ns hs) (idA at_) n1))) 0 101) 68 1):(List AV))=(List.map (AV.int IntKind.i64) l13)) /\
 (Br (ops0.eqi l12 l13)
 (Chk (ops0.le 101 (ops0.len (ops0.ext (ops0.spl hopZ 0 (hpP B ks hs (mutP (blP B ks hc n ns hs) (idA at_) n1))) 0 101)))
 (Chk (ops0.le 101 (ops0.len (ops0.ext (ops0.spl hopZ 0 (hpP B ks hs (mutP (blP B ks hc n ns hs) (idA at_) n1))) 0 101)))
 (∃ l14:(List Int),((((ops0.ext (ops0.ext (ops0.spl hopZ 0 (hpP B ks hs (mutP (blP B ks hc n ns hs) (idA at_) n1))) 0 101) 69 32):(List AV))=(List.map (AV.int IntKind.u8) l14)) /\
 (∃ l15:(List Int),((((ops0.ext (ops0.ext (ops0.spl hopZ 0 (hpP B ks hs (mutP (blP B ks hc n ns hs) (idA at_) n1))) 0 101) 69 32):(List AV))=(List.map (AV.int IntKind.u8) l15)) /\
 (Br (ops0.eqi l14 l15)
 (∃ l16:(List UInt8),((([]:(List AV))=(List.map (fun b=>(AV.int IntKind.u8 (((UInt8.toNat b):Nat):Int))) l16)) /\
 (Chk (ops0.le 2112 (ops0.len (nxP B ks hs (mutP (blP B ks hc n ns hs) (idA at_) n1))))
 (∃ l17:(List UInt8),((((ops0.ext (nxP B ks hs (mutP (blP B ks hc n ns hs) (idA at_) n1)) 0 2112):(List AV))=(List.map (fun b=>(AV.int IntKind.u8 (((UInt8.toNat b):Nat):Int))) l17)) /\
 (Br (ops0.eqs l16 l17)
 (Br (ops0.cmp BinOp.eql (erP B ks hs (mutP (blP B ks hc n ns hs) (idA at_) n1)) (Int.ofNat 0))
 (Q (AV.bool Bool.true))
 (Q (AV.bool Bool.false)))
 (Q (AV.bool Bool.false))))))))
 (Q (AV.bool Bool.false)))))))))
 (Q (AV.bool Bool.false)))))))))
 (Q (AV.bool Bool.false)))))))))
 (Q (AV.bool Bool.false)))))))))
 (Q (AV.bool Bool.false)))))))))
 (Q (AV.bool Bool.false)))))))))
 (Q (AV.bool Bool.false)))))))))
 (Q (AV.bool Bool.false))))))))))))))))))))))))))
 (Chk (ops0.eq (ops0.len (hpP B ks hs (mutP (blP B ks hc n ns hs) (idA at_) n1))) 101)
 (Chk (own (AV.tup [(AV.agg (hpP B ks hs (mutP (blP B ks hc n ns hs) (idA at_) n1))),AV.nils,(AV.int IntKind.i64 (erP B ks hs (mutP (blP B ks hc n ns hs) (idA at_) n1)))]))
 (Chk (nm 4 (AV.agg (ops0.ext ks 0 32)))
 (Chk (nm 4 (AV.agg (ops0.ext hs 0 32)))
 (Chk (nmB 4 (Blk.cells ns))
 (Chk (nmB 4 (Blk.cells hs))
 (Chk (nmB 4 (Blk.cells (mutP (blP B ks hc n ns hs) (idA at_) n1)))
 (Chk (nmB 4 (Blk.cells (ops0.spl hopZ 0 (hpP B ks hs (mutP (blP B ks hc n ns hs) (idA at_) n1)))))
 (Chk (ownB (Blk.cells ns))
 (Chk (ownB (Blk.cells hs))
 (Chk (ownB (Blk.cells (mutP (blP B ks hc n ns hs) (idA at_) n1)))
 (Chk (ownB (Blk.cells (ops0.spl hopZ 0 (hpP B ks hs (mutP (blP B ks hc n ns hs) (idA at_) n1)))))
 (Chk (ops0.le 101 (ops0.len (ops0.spl hopZ 0 (hpP B ks hs (mutP (blP B ks hc n ns hs) (idA at_) n1)))))
 (Chk (ops0.le 101 (ops0.len (ops0.spl hopZ 0 (hpP B ks hs (mutP (blP B ks hc n ns hs) (idA at_) n1)))))
 (Chk (ops0.eq (ops0.len (ops0.ext (ops0.spl hopZ 0 (hpP B ks hs (mutP (blP B ks hc n ns hs) (idA at_) n1))) 0 101)) 101)
 (Chk (ops0.eq (ops0.len (ops0.ext (ops0.spl hopZ 0 (hpP B ks hs (mutP (blP B ks hc n ns hs) (idA at_) n1))) 0 101)) 101)
 (Chk (ops0.le 1 (ops0.len (ops0.ext (ops0.spl hopZ 0 (hpP B ks hs (mutP (blP B ks hc n ns hs) (idA at_) n1))) 0 101)))
 (Chk (ops0.le 1 (ops0.len (ops0.ext (ops0.spl hopZ 0 (hpP B ks hs (mutP (blP B ks hc n ns hs) (idA at_) n1))) 0 101)))
 (∃ l:(List Int),((((ops0.ext (ops0.ext (ops0.spl hopZ 0 (hpP B ks hs (mutP (blP B ks hc n ns hs) (idA at_) n1))) 0 101) 0 1):(List AV))=(List.map (AV.int IntKind.i64) l)) /\
 (∃ l1:(List Int),((((ops0.ext (ops0.ext (ops0.spl hopZ 0 (hpP B ks hs (mutP (blP B ks hc n ns hs) (idA at_) n1))) 0 101) 0 1):(List AV))=(List.map (AV.int IntKind.i64) l1)) /\
 (Br (ops0.eqi l l1)
 (Chk (ops0.le 2 (ops0.len (ops0.ext (ops0.spl hopZ 0 (hpP B ks hs (mutP (blP B ks hc n ns hs) (idA at_) n1))) 0 101)))
 (Chk (ops0.le 2 (ops0.len (ops0.ext (ops0.spl hopZ 0 (hpP B ks hs (mutP (blP B ks hc n ns hs) (idA at_) n1))) 0 101)))
 (∃ l2:(List Int),((((ops0.ext (ops0.ext (ops0.spl hopZ 0 (hpP B ks hs (mutP (blP B ks hc n ns hs) (idA at_) n1))) 0 101) 1 1):(List AV))=(List.map (AV.int IntKind.i64) l2)) /\
 (∃ l3:(List Int),((((ops0.ext (ops0.ext (ops0.spl hopZ 0 (hpP B ks hs (mutP (blP B ks hc n ns hs) (idA at_) n1))) 0 101) 1 1):(List AV))=(List.map (AV.int IntKind.i64) l3)) /\
 (Br (ops0.eqi l2 l3)
 (Chk (ops0.le 3 (ops0.len (ops0.ext (ops0.spl hopZ 0 (hpP B ks hs (mutP (blP B ks hc n ns hs) (idA at_) n1))) 0 101)))
 (Chk (ops0.le 3 (ops0.len (ops0.ext (ops0.spl hopZ 0 (hpP B ks hs (mutP (blP B ks hc n ns hs) (idA at_) n1))) 0 101)))
 (∃ l4:(List Int),((((ops0.ext (ops0.ext (ops0.spl hopZ 0 (hpP B ks hs (mutP (blP B ks hc n ns hs) (idA at_) n1))) 0 101) 2 1):(List AV))=(List.map (AV.int IntKind.i64) l4)) /\
 (∃ l5:(List Int),((((ops0.ext (ops0.ext (ops0.spl hopZ 0 (hpP B ks hs (mutP (blP B ks hc n ns hs) (idA at_) n1))) 0 101) 2 1):(List AV))=(List.map (AV.int IntKind.i64) l5)) /\
 (Br (ops0.eqi l4 l5)
 (Chk (ops0.le 35 (ops0.len (ops0.ext (ops0.spl hopZ 0 (hpP B ks hs (mutP (blP B ks hc n ns hs) (idA at_) n1))) 0 101)))
 (Chk (ops0.le 35 (ops0.len (ops0.ext (ops0.spl hopZ 0 (hpP B ks hs (mutP (blP B ks hc n ns hs) (idA at_) n1))) 0 101)))
 (∃ l6:(List Int),((((ops0.ext (ops0.ext (ops0.spl hopZ 0 (hpP B ks hs (mutP (blP B ks hc n ns hs) (idA at_) n1))) 0 101) 3 32):(List AV))=(List.map (AV.int IntKind.u8) l6)) /\
 (∃ l7:(List Int),((((ops0.ext (ops0.ext (ops0.spl hopZ 0 (hpP B ks hs (mutP (blP B ks hc n ns hs) (idA at_) n1))) 0 101) 3 32):(List AV))=(List.map (AV.int IntKind.u8) l7)) /\
 (Br (ops0.eqi l6 l7)
 (Chk (ops0.le 36 (ops0.len (ops0.ext (ops0.spl hopZ 0 (hpP B ks hs (mutP (blP B ks hc n ns hs) (idA at_) n1))) 0 101)))
 (Chk (ops0.le 36 (ops0.len (ops0.ext (ops0.spl hopZ 0 (hpP B ks hs (mutP (blP B ks hc n ns hs) (idA at_) n1))) 0 101)))
 (∃ l8:(List Int),((((ops0.ext (ops0.ext (ops0.spl hopZ 0 (hpP B ks hs (mutP (blP B ks hc n ns hs) (idA at_) n1))) 0 101) 35 1):(List AV))=(List.map (AV.int IntKind.i64) l8)) /\
 (∃ l9:(List Int),((((ops0.ext (ops0.ext (ops0.spl hopZ 0 (hpP B ks hs (mutP (blP B ks hc n ns hs) (idA at_) n1))) 0 101) 35 1):(List AV))=(List.map (AV.int IntKind.i64) l9)) /\
 (Br (ops0.eqi l8 l9)
 (Chk (ops0.le 68 (ops0.len (ops0.ext (ops0.spl hopZ 0 (hpP B ks hs (mutP (blP B ks hc n ns hs) (idA at_) n1))) 0 101)))
 (Chk (ops0.le 68 (ops0.len (ops0.ext (ops0.spl hopZ 0 (hpP B ks hs (mutP (blP B ks hc n ns hs) (idA at_) n1))) 0 101)))
 (∃ l10:(List Int),((((ops0.ext (ops0.ext (ops0.spl hopZ 0 (hpP B ks hs (mutP (blP B ks hc n ns hs) (idA at_) n1))) 0 101) 36 32):(List AV))=(List.map (AV.int IntKind.u8) l10)) /\
 (∃ l11:(List Int),((((ops0.ext (ops0.ext (ops0.spl hopZ 0 (hpP B ks hs (mutP (blP B ks hc n ns hs) (idA at_) n1))) 0 101) 36 32):(List AV))=(List.map (AV.int IntKind.u8) l11)) /\
 (Br (ops0.eqi l10 l11)
 (Chk (ops0.le 69 (ops0.len (ops0.ext (ops0.spl hopZ 0 (hpP B ks hs (mutP (blP B ks hc n ns hs) (idA at_) n1))) 0 101)))
 (Chk (ops0.le 69 (ops0.len (ops0.ext (ops0.spl hopZ 0 (hpP B ks hs (mutP (blP B ks hc n ns hs) (idA at_) n1))) 0 101)))
 (∃ l12:(List Int),((((ops0.ext (ops0.ext (ops0.spl hopZ 0 (hpP B ks hs (mutP (blP B ks hc n ns hs) (idA at_) n1))) 0 101) 68 1):(List AV))=(List.map (AV.int IntKind.i64) l12)) /\
 (∃ l13:(List Int),((((ops0.ext (ops0.ext (ops0.spl hopZ 0 (hpP B ks hs (mutP (blP B ks hc n ns hs) (idA at_) n1))) 0 101) 68 1):(List AV))=(List.map (AV.int IntKind.i64) l13)) /\
 (Br (ops0.eqi l12 l13)
 (Chk (ops0.le 101 (ops0.len (ops0.ext (ops0.spl hopZ 0 (hpP B ks hs (mutP (blP B ks hc n ns hs) (idA at_) n1))) 0 101)))
 (Chk (ops0.le 101 (ops0.len (ops0.ext (ops0.spl hopZ 0 (hpP B ks hs (mutP (blP B ks hc n ns hs) (idA at_) n1))) 0 101)))
 (∃ l14:(List Int),((((ops0.ext (ops0.ext (ops0.spl hopZ 0 (hpP B ks hs (mutP (blP B ks hc n ns hs) (idA at_) n1))) 0 101) 69 32):(List AV))=(List.map (AV.int IntKind.u8) l14)) /\
 (∃ l15:(List Int),((((ops0.ext (ops0.ext (ops0.spl hopZ 0 (hpP B ks hs (mutP (blP B ks hc n ns hs) (idA at_) n1))) 0 101) 69 32):(List AV))=(List.map (AV.int IntKind.u8) l15)) /\
 (Br (ops0.eqi l14 l15)
 (∃ l16:(List UInt8),((([]:(List AV))=(List.map (fun b=>(AV.int IntKind.u8 (((UInt8.toNat b):Nat):Int))) l16)) /\
 (∃ l17:(List UInt8),((([]:(List AV))=(List.map (fun b=>(AV.int IntKind.u8 (((UInt8.toNat b):Nat):Int))) l17)) /\
 (Br (ops0.eqs l16 l17)
 (Br (ops0.cmp BinOp.eql (erP B ks hs (mutP (blP B ks hc n ns hs) (idA at_) n1)) (erP B ks hs (mutP (blP B ks hc n ns hs) (idA at_) n1)))
 (Q (AV.bool Bool.true))
 (Q (AV.bool Bool.false)))
 (Q (AV.bool Bool.false)))))))
 (Q (AV.bool Bool.false)))))))))
 (Q (AV.bool Bool.false)))))))))
 (Q (AV.bool Bool.false)))))))))
 (Q (AV.bool Bool.false)))))))))
 (Q (AV.bool Bool.false)))))))))
 (Q (AV.bool Bool.false)))))))))
 (Q (AV.bool Bool.false)))))))))
 (Q (AV.bool Bool.false)))))))))))))))))))))))))))))))))))))))))))))))))))))
 (((0:Nat)=0) /\
 (((0:Nat)=0) /\
 (Q (AV.bool Bool.true))))))))):=by kernel_rfl
theorem qoi(n:Nat):∀ (a b:List AV),nmL n a=true->nmL n b=true->nmL n (a++b)=true
 | [],b,_,h=>h
 | x::a,b,h,k=>by
  rw[List.cons_append]
  simp only[nmL] at h ⊢
  cases hx:nm n x with
  | true=>rw[hx] at h;exact qoi n a b h k
  | false=>rw[hx] at h;cases h
theorem qln:∀ (a b:List AV),ownL a=true->ownL b=true->ownL (a++b)=true
 | [],b,_,h=>h
 | x::a,b,h,k=>by
  rw[List.cons_append]
  simp only[ownL] at h ⊢
  cases hx:own x with
  | true=>rw[hx] at h;exact qln a b h k
  | false=>rw[hx] at h;cases h
theorem qn1(n:Nat)(h:Hop):nmL n (hopC h)=true:=by
 have h3:nmL n (h.sec.map by8++(AV.int .i64 h.tot::(h.set.map by8++(.int .i64 h.idx::h.shr.map by8))))=true :=
  qoi n _ _ (qi0 n _) (show nmL n (h.set.map by8++(.int .i64 h.idx::h.shr.map by8))=true from qoi n _ _ (qi0 n _) (qi0 n _))
 exact h3
theorem qig(h:Hop):ownL (hopC h)=true:=by
 have h3:ownL (h.sec.map by8++(AV.int .i64 h.tot::(h.set.map by8++(.int .i64 h.idx::h.shr.map by8))))=true :=
  qln _ _ (qhd _) (show ownL (h.set.map by8++(.int .i64 h.idx::h.shr.map by8))=true from qln _ _ (qhd _) (qhd _))
 exact h3
theorem qeg(h:Hop)(y:AV)(z:Int)(hy:own y=true):own (.tup [.agg (hopC h),y,.int .i64 z])=true:=by
 simp only[own,ownL,qig,hy]
theorem qin{h:Hop}(hl:h.L32):ops0.ext (hopC h) 3 32=List.map (AV.int .u8) (h.sec.map fun b=>Int.ofNat b.toNat)/\ops0.ext (hopC h) 35 1=List.map (AV.int .i64) [h.tot]/\ops0.ext (hopC h) 36 32=List.map (AV.int .u8) (h.set.map fun b=>Int.ofNat b.toNat) /\
  ops0.ext (hopC h) 68 1=List.map (AV.int .i64) [h.idx]/\ops0.ext (hopC h) 69 32=List.map (AV.int .u8) (h.shr.map fun b=>Int.ofNat b.toNat):=by
 obtain⟨ch,am,ex,sec,tot,set,idx,shr⟩:=h
 obtain⟨h1,h2,h3⟩:=hl
 dsimp only at h1 h2 h3 ⊢
 have l1:(sec.map by8).length=32:=by rw[List.length_map,h1]
 have l2:(set.map by8).length=32:=by rw[List.length_map,h2]
 have l3:(shr.map by8).length=32:=by rw[List.length_map,h3]
 have d3:(hopC ⟨ch,am,ex,sec,tot,set,idx,shr⟩).drop 3=sec.map by8++(.int .i64 tot::(set.map by8++(.int .i64 idx::shr.map by8))):=rfl
 have d35:(hopC ⟨ch,am,ex,sec,tot,set,idx,shr⟩).drop 35 = .int .i64 tot::(set.map by8++(.int .i64 idx::shr.map by8)):=by
  rw[show 35=3+32 from rfl,<-List.drop_drop,d3,qgm l1]
 have d36:(hopC ⟨ch,am,ex,sec,tot,set,idx,shr⟩).drop 36=set.map by8++(.int .i64 idx::shr.map by8):=by
  rw[show 36=35+1 from rfl,<-List.drop_drop,d35]; rfl
 have d68:(hopC ⟨ch,am,ex,sec,tot,set,idx,shr⟩).drop 68 = .int .i64 idx::shr.map by8:=by
  rw[show 68=36+32 from rfl,<-List.drop_drop,d36,qgm l2]
 have d69:(hopC ⟨ch,am,ex,sec,tot,set,idx,shr⟩).drop 69=shr.map by8:=by
  rw[show 69=68+1 from rfl,<-List.drop_drop,d68]; rfl
 refine⟨?_,?_,?_,?_,?_⟩
 ·rw[nExt,d3,qe7 l1,qfw]
 ·rw[nExt,d35]; rfl
 ·rw[nExt,d36,qe7 l2,qfw]
 ·rw[nExt,d68]; rfl
 ·rw[nExt,d69,List.take_of_length_le (by omega),qfw]
def mutB(P:List UInt8)(k:Nat):List UInt8:=P.set (k / 8) (P.getD (k / 8) 0 ^^^ UInt8.ofNat (2 ^ (k % 8)))
theorem quo8(k:Nat)(h:k<16896):ops0.bin .quo .i64 (Int.ofNat k) (Int.ofNat 8)=Int.ofNat (k / 8):=nQuo (by omega)
theorem rem8(k:Nat):ops0.bin .rem .i64 (Int.ofNat k) (Int.ofNat 8)=Int.ofNat (k % 8):=nRem
theorem q0r{m:Nat}(h:m<8):ops0.shf .shl .u8 (Int.ofNat 1) (Int.ofNat m)=Int.ofNat (UInt8.ofNat (2 ^ m)).toNat:=by
 match m,h with
 | 0,_=>rfl
 | 1,_=>rfl
 | 2,_=>rfl
 | 3,_=>rfl
 | 4,_=>rfl
 | 5,_=>rfl
 | 6,_=>rfl
 | 7,_=>rfl
theorem qx5{P:List UInt8}(hl:P.length=2112){k:Nat}(hk:k<16896):mutP (P.map by8) (Int.ofNat k) (Int.ofNat (P[k / 8]'(by omega)).toNat)=(mutB P k).map by8:=by
 unfold mutP mutB
 have hg:P.getD (k / 8) 0=P[k / 8]'(by omega):=by rw[List.getD_eq_getElem?_getD,List.getElem?_eq_getElem (by omega)]; rfl
 rw[quo8 k hk,rem8,q0r (Nat.mod_lt _ (by omega)),qm3,nAdr,Nat.zero_add,Nat.mul_one,nSet,hg]
 exact qoz _ _ _
theorem qv8(a:Int) : -16896<idA a/\idA a<16896:=by
 have h:idA a=a.tmod 16896:=rfl
 rw[h]
 have h1:=Int.tmod_lt_of_pos a (show(0:Int)<16896 by omega)
 have h2:=Int.tmod_lt_of_pos (-a) (show(0:Int)<16896 by omega)
 rw[Int.neg_tmod] at h2
 omega
theorem qqn(key M hash:List UInt8)(hM:M.length=2112):(peelX key M hash).2.1.L32:=by
 unfold peelX
 rw[if_pos hM]
 unfold peelL
 split
 ·exact qil
 ·split
  ·exact qil
  ·split<;>exact qdl (qf0 hM)
theorem qmz{key M hash:List UInt8}(hM:M.length=2112):(peelX key M hash).2.2 ≠ []->(peelX key M hash).2.2.length=2112:=by
 unfold peelX
 rw[if_pos hM]
 unfold peelL
 split
 ·exact fun h=>absurd rfl h
 ·split
  ·exact fun h=>absurd rfl h
  ·split
   ·exact fun h=>absurd rfl h
   ·exact fun _=>qfp hM
theorem qka{key M hash:List UInt8}{ks:List AV}(hk:key.length=32)(hh:hash.length=32)(hks:ops0.ext ks 0 32=key.map by8)(hM:M.length=2112) :
  goP bz0 ks (hash.map by8) (M.map by8)=decide ((peelX key M hash).2.2 ≠ [])/\hpP bz0 ks (hash.map by8) (M.map by8)=hopC (peelX key M hash).2.1/\nxP bz0 ks (hash.map by8) (M.map by8)=(peelX key M hash).2.2.map by8/\erP bz0 ks (hash.map by8) (M.map by8)=(peelX key M hash).1:=by
 unfold goP hpP nxP erP
 rw[hks,qa5 hh,rdW hM]
 refine⟨?_,?_,?_,?_⟩
 ·show decide ((peelX (qag _) M (qag _)).2.2 ≠ [])=_
  rw[qab,qab]
 ·show hopC (peelX (qag _) M (qag _)).2.1=_
  rw[qab,qab]
 ·show(peelX (qag _) M (qag _)).2.2.map by8=_
  rw[qab,qab]
 ·show(peelX (qag _) M (qag _)).1=_
  rw[qab,qab]
set_option maxRecDepth 100000 in
theorem law21{ks hc:List AV}{n kn:Nat}(c:Nat)(e:Bool)(kc:Nat)(ke:Bool){hs:List Hop}{nn hash:List UInt8}(at_:Int)(hk:PSh ks 0 kn)(hkl:ks.length=kn*32)(hP:PHs hc n)(hp:HpAt hc n hs)(hnn:nn.length=32)(hh:hash.length=32) :
  ∃ H' lg,CallTo Try.prog 21 [.ros ks 0 kn kc ke,.ros hc 0 n c e,.agg (nn.map by8),.agg (hash.map by8),.int .i64 at_] [] (.bool true) H' lg:=by
 have hv:=vc21 bz0 oz0 of1 hf0 ks hc (nn.map by8) (hash.map by8) n c e kn kc ke at_ (fun r=>r = .bool true)
 have h60:P60 ks 0 kn hc n (nn.map by8) (hash.map by8):=⟨hk,hP,pkey _ hnn,pkey _ hh⟩
 have eb:blP bz0 ks hc n (nn.map by8) (hash.map by8)=bz0.bl ks 0 hc n (nn.map by8) (hash.map by8):=by unfold blP;rw[qa5 hnn,qa5 hh]
 rw[qa5 hnn,qa5 hh,eb] at hv
 have hq:=hv.mpr (by
  refine Chk.mk (by rw[nLe,nLen,List.length_map,hnn]; rfl) (Chk.mk (by rw[nLe,nLen,List.length_map,hh]; rfl) ⟨h60,?_⟩)
  cases hg:goodB (hsOf hc n) n kn with
  | false =>
   have hz:bz0.gd hc n kn=false:=hg
   rw[hz]
   exact⟨rfl,rfl,rfl⟩
  | true =>
  have hz:bz0.gd hc n kn=true:=hg
  obtain⟨g1,g8,rfl,gok⟩:=qft.1 hg
  obtain⟨L,hL⟩:=hk.2.2.2
  have hlP:=qhy (L:=L) (hash:=hash) (by rw[hp.1]; exact g8) (hp_32 hp) hnn
  have hl0:0<L.length:=by rw[hL.1]; omega
  obtain⟨hk32,hks0⟩:=hL.2 0 L[0] (List.getElem?_eq_getElem hl0)
  have hks:ops0.ext ks 0 32=L[0].map by8:=by rw[nExt]; exact hks0
  generalize L[0]=key at hk32 hks
  rw[hz,bl_eq (kn:=kn) hp hL]
  generalize qcy hs L nn hash=P at hlP
  obtain⟨r1,r2⟩:=qv8 at_
  rw[nLss']
  refine⟨rfl,Br.mk (fun hs0 => ?_) (fun hs0 => ?_)⟩
  ·have hs0:=of_decide_eq_true hs0
   obtain⟨k,hk,ek⟩:∃ k:Nat,k<16896/\idB at_=Int.ofNat k:=by
    have hb:idB at_=idA at_+16896:=by
     show IntKind.i64.wrap (idA at_+16896)=_
     exact qcv (by omega) (by omega)
    simp only[Int.ofNat_eq_natCast] at hs0
    exact⟨(idA at_+16896).toNat,by omega,by rw[hb]; simp only[Int.ofNat_eq_natCast]; omega⟩
   have hq:=quo8 k hk
   have hr:=rem8 k
   rw[ek]
   have hM:=qx5 hlP hk
   refine Chk.mk (by rw[hq,nInr]; exact decide_eq_true (by omega)) ⟨_,by rw[hq,nAdr,Nat.zero_add,Nat.mul_one]; exact nth8 (List.getElem?_eq_getElem (by omega)),?_⟩
   rw[hM]
   have lM:(mutB P k).length=2112:=by unfold mutB;rw[List.length_set,hlP]
   generalize mutB P k=M at lM
   refine Chk.mk (by rw[hr,nNn]) (Chk.mk (by rw[hq,nInr]; exact decide_eq_true (by omega)) (Chk.mk (by rw[hq,nAdr,nLt,nLen,List.length_map,hlP]; exact decide_eq_true (by omega)) ?_))
   obtain⟨f1,f2,f3,f4⟩:=qka hk32 hh hks lM
   rw[f1,f2,f3,f4]
   have l32:=qqn key M hash lM
   have lnx:(peelX key M hash).2.2 ≠ []->(peelX key M hash).2.2.length=2112:=qmz lM
   generalize peelX key M hash=x at l32 lnx
   obtain⟨er,h,nx⟩:=x
   dsimp only at l32 lnx ⊢
   have p63:P63 (ops0.ext ks 0 32) (M.map by8) 0 2112 (hash.map by8):=⟨by rw[hks]; exact pkey _ hk32,qbz _ 2112 lM.symm (by omega),pkey _ hh⟩
   have c1:=qa8 l32
   have s1:=qfg l32
   have s2:=qhg l32
   have a0:ops0.ext (hopC h) 0 1=List.map (AV.int .i64) [h.ch]:=rfl
   have a1:ops0.ext (hopC h) 1 1=List.map (AV.int .i64) [h.am]:=rfl
   have a2:ops0.ext (hopC h) 2 1=List.map (AV.int .i64) [h.ex]:=rfl
   obtain⟨a3,a4,a5,a6,a7⟩:=qin l32
   have oT:∀ y,own y=true->own (.tup [.agg (hopC h),y,.int .i64 er])=true:=fun y hy=>qeg h y er hy
   have oT0:∀ b,own (.tup [.agg (hopC h),.slc b 0 2112 2112 1,.int .i64 (Int.ofNat 0)])=true:=fun b=>qeg h _ _ rfl
   have oN:own (.tup [.agg (hopC h),.nils,.int .i64 er])=true:=qeg h _ _ rfl
   have nk:∀ m,nm m (.agg (ops0.ext ks 0 32))=true:=fun m=>by rw[hks]; exact nmB8 m key
   have nh:∀ m,nm m (.agg (hash.map by8))=true:=fun m=>nmB8 m hash
   have nH:∀ m,nmB m (.cells (hopC h))=true:=fun m=>qn1 m h
   have oH:ownB (.cells (hopC h))=true:=qig h
   have inr0:ops0.inr (Int.ofNat 0) kn=true:=by rw[nInr]; exact decide_eq_true (by omega)
   by_cases hnx:nx = []
   ·have hd:decide (nx ≠ [])=false:=decide_eq_false (fun h=>h hnx)
    subst hnx
    rw[hd]
    simp only[br_ff,qbl,inr0,nLe,nLen,nEq,hkl,List.length_map,hnn,hh,c1,s1,s2,oN,nk,nh,nmB8,ownB8,nH,oH,decide_eq_true_eq,true_and]
    simp only[Nat.reduceLeDiff,Nat.le_refl,true_and]
    repeat' with_reducible apply And.intro
    any_goals first|exact True.intro|exact p63|omega
    refine⟨_,a0,_,a0,?_⟩; rw[nEqi]; refine Br.t (decide_eq_true rfl) ?_
    refine⟨_,a1,_,a1,?_⟩; rw[nEqi]; refine Br.t (decide_eq_true rfl) ?_
    refine⟨_,a2,_,a2,?_⟩; rw[nEqi]; refine Br.t (decide_eq_true rfl) ?_
    refine⟨_,a3,_,a3,?_⟩; rw[nEqi]; refine Br.t (decide_eq_true rfl) ?_
    refine⟨_,a4,_,a4,?_⟩; rw[nEqi]; refine Br.t (decide_eq_true rfl) ?_
    refine⟨_,a5,_,a5,?_⟩; rw[nEqi]; refine Br.t (decide_eq_true rfl) ?_
    refine⟨_,a6,_,a6,?_⟩; rw[nEqi]; refine Br.t (decide_eq_true rfl) ?_
    refine⟨_,a7,_,a7,?_⟩; rw[nEqi]; refine Br.t (decide_eq_true rfl) ?_
    refine⟨[],rfl,[],rfl,?_⟩; rw[nEqs]; refine Br.t (decide_eq_true rfl) ?_
    refine Br.t (by show(er == er)=true;exact beq_self_eq_true er) ?_
    first|exact True.intro|rfl
   ·have ln:=lnx hnx
    have en:=qn2 ln
    rw[decide_eq_true hnx]
    simp only[br_tt,qbl,inr0,nLe,nLen,nEq,hkl,List.length_map,hnn,hh,c1,s1,s2,oT0,nk,nh,nmB8,ownB8,nH,oH,ln,en,decide_eq_true_eq,true_and]
    simp only[Nat.reduceLeDiff,Nat.le_refl,true_and]
    repeat' with_reducible apply And.intro
    any_goals first|exact True.intro|exact p63|omega
    refine⟨_,a0,_,a0,?_⟩; rw[nEqi]; refine Br.t (decide_eq_true rfl) ?_
    refine⟨_,a1,_,a1,?_⟩; rw[nEqi]; refine Br.t (decide_eq_true rfl) ?_
    refine⟨_,a2,_,a2,?_⟩; rw[nEqi]; refine Br.t (decide_eq_true rfl) ?_
    refine⟨_,a3,_,a3,?_⟩; rw[nEqi]; refine Br.t (decide_eq_true rfl) ?_
    refine⟨_,a4,_,a4,?_⟩; rw[nEqi]; refine Br.t (decide_eq_true rfl) ?_
    refine⟨_,a5,_,a5,?_⟩; rw[nEqi]; refine Br.t (decide_eq_true rfl) ?_
    refine⟨_,a6,_,a6,?_⟩; rw[nEqi]; refine Br.t (decide_eq_true rfl) ?_
    refine⟨_,a7,_,a7,?_⟩; rw[nEqi]; refine Br.t (decide_eq_true rfl) ?_
    refine⟨nx,rfl,nx,rfl,?_⟩; rw[nEqs]; refine Br.t (decide_eq_true rfl) ?_
    first|exact True.intro|rfl
  ·have hs0:=of_decide_eq_false hs0
   obtain⟨k,hk,ek⟩:∃ k:Nat,k<16896/\idA at_=Int.ofNat k:=by
    simp only[Int.ofNat_eq_natCast] at hs0
    exact⟨(idA at_).toNat,by omega,by simp only[Int.ofNat_eq_natCast]; omega⟩
   have hq:=quo8 k hk
   have hr:=rem8 k
   rw[ek]
   have hM:=qx5 hlP hk
   refine Chk.mk (by rw[hq,nInr]; exact decide_eq_true (by omega)) ⟨_,by rw[hq,nAdr,Nat.zero_add,Nat.mul_one]; exact nth8 (List.getElem?_eq_getElem (by omega)),?_⟩
   rw[hM]
   have lM:(mutB P k).length=2112:=by unfold mutB;rw[List.length_set,hlP]
   generalize mutB P k=M at lM
   refine Chk.mk (by rw[hr,nNn]) (Chk.mk (by rw[hq,nInr]; exact decide_eq_true (by omega)) (Chk.mk (by rw[hq,nAdr,nLt,nLen,List.length_map,hlP]; exact decide_eq_true (by omega)) ?_))
   obtain⟨f1,f2,f3,f4⟩:=qka hk32 hh hks lM
   rw[f1,f2,f3,f4]
   have l32:=qqn key M hash lM
   have lnx:(peelX key M hash).2.2 ≠ []->(peelX key M hash).2.2.length=2112:=qmz lM
   generalize peelX key M hash=x at l32 lnx
   obtain⟨er,h,nx⟩:=x
   dsimp only at l32 lnx ⊢
   have p63:P63 (ops0.ext ks 0 32) (M.map by8) 0 2112 (hash.map by8):=⟨by rw[hks]; exact pkey _ hk32,qbz _ 2112 lM.symm (by omega),pkey _ hh⟩
   have c1:=qa8 l32
   have s1:=qfg l32
   have s2:=qhg l32
   have a0:ops0.ext (hopC h) 0 1=List.map (AV.int .i64) [h.ch]:=rfl
   have a1:ops0.ext (hopC h) 1 1=List.map (AV.int .i64) [h.am]:=rfl
   have a2:ops0.ext (hopC h) 2 1=List.map (AV.int .i64) [h.ex]:=rfl
   obtain⟨a3,a4,a5,a6,a7⟩:=qin l32
   have oT:∀ y,own y=true->own (.tup [.agg (hopC h),y,.int .i64 er])=true:=fun y hy=>qeg h y er hy
   have oT0:∀ b,own (.tup [.agg (hopC h),.slc b 0 2112 2112 1,.int .i64 (Int.ofNat 0)])=true:=fun b=>qeg h _ _ rfl
   have oN:own (.tup [.agg (hopC h),.nils,.int .i64 er])=true:=qeg h _ _ rfl
   have nk:∀ m,nm m (.agg (ops0.ext ks 0 32))=true:=fun m=>by rw[hks]; exact nmB8 m key
   have nh:∀ m,nm m (.agg (hash.map by8))=true:=fun m=>nmB8 m hash
   have nH:∀ m,nmB m (.cells (hopC h))=true:=fun m=>qn1 m h
   have oH:ownB (.cells (hopC h))=true:=qig h
   have inr0:ops0.inr (Int.ofNat 0) kn=true:=by rw[nInr]; exact decide_eq_true (by omega)
   by_cases hnx:nx = []
   ·have hd:decide (nx ≠ [])=false:=decide_eq_false (fun h=>h hnx)
    subst hnx
    rw[hd]
    simp only[br_ff,qbl,inr0,nLe,nLen,nEq,hkl,List.length_map,hnn,hh,c1,s1,s2,oN,nk,nh,nmB8,ownB8,nH,oH,decide_eq_true_eq,true_and]
    simp only[Nat.reduceLeDiff,Nat.le_refl,true_and]
    repeat' with_reducible apply And.intro
    any_goals first|exact True.intro|exact p63|omega
    refine⟨_,a0,_,a0,?_⟩; rw[nEqi]; refine Br.t (decide_eq_true rfl) ?_
    refine⟨_,a1,_,a1,?_⟩; rw[nEqi]; refine Br.t (decide_eq_true rfl) ?_
    refine⟨_,a2,_,a2,?_⟩; rw[nEqi]; refine Br.t (decide_eq_true rfl) ?_
    refine⟨_,a3,_,a3,?_⟩; rw[nEqi]; refine Br.t (decide_eq_true rfl) ?_
    refine⟨_,a4,_,a4,?_⟩; rw[nEqi]; refine Br.t (decide_eq_true rfl) ?_
    refine⟨_,a5,_,a5,?_⟩; rw[nEqi]; refine Br.t (decide_eq_true rfl) ?_
    refine⟨_,a6,_,a6,?_⟩; rw[nEqi]; refine Br.t (decide_eq_true rfl) ?_
    refine⟨_,a7,_,a7,?_⟩; rw[nEqi]; refine Br.t (decide_eq_true rfl) ?_
    refine⟨[],rfl,[],rfl,?_⟩; rw[nEqs]; refine Br.t (decide_eq_true rfl) ?_
    refine Br.t (by show(er == er)=true;exact beq_self_eq_true er) ?_
    first|exact True.intro|rfl
   ·have ln:=lnx hnx
    have en:=qn2 ln
    rw[decide_eq_true hnx]
    simp only[br_tt,qbl,inr0,nLe,nLen,nEq,hkl,List.length_map,hnn,hh,c1,s1,s2,oT0,nk,nh,nmB8,ownB8,nH,oH,ln,en,decide_eq_true_eq,true_and]
    simp only[Nat.reduceLeDiff,Nat.le_refl,true_and]
    repeat' with_reducible apply And.intro
    any_goals first|exact True.intro|exact p63|omega
    refine⟨_,a0,_,a0,?_⟩; rw[nEqi]; refine Br.t (decide_eq_true rfl) ?_
    refine⟨_,a1,_,a1,?_⟩; rw[nEqi]; refine Br.t (decide_eq_true rfl) ?_
    refine⟨_,a2,_,a2,?_⟩; rw[nEqi]; refine Br.t (decide_eq_true rfl) ?_
    refine⟨_,a3,_,a3,?_⟩; rw[nEqi]; refine Br.t (decide_eq_true rfl) ?_
    refine⟨_,a4,_,a4,?_⟩; rw[nEqi]; refine Br.t (decide_eq_true rfl) ?_
    refine⟨_,a5,_,a5,?_⟩; rw[nEqi]; refine Br.t (decide_eq_true rfl) ?_
    refine⟨_,a6,_,a6,?_⟩; rw[nEqi]; refine Br.t (decide_eq_true rfl) ?_
    refine⟨_,a7,_,a7,?_⟩; rw[nEqi]; refine Br.t (decide_eq_true rfl) ?_
    refine⟨nx,rfl,nx,rfl,?_⟩; rw[nEqs]; refine Br.t (decide_eq_true rfl) ?_
    first|exact True.intro|rfl
  )
 obtain⟨r,H',lg,hc2,rfl⟩:=qcu qfj (qai _) (qaj ok21) (qad 21 vf21) hq
 exact⟨H',lg,hc2⟩
end
end Go.Proofs.Vm

namespace Go.Proofs.Vm
set_option maxRecDepth 100000
open Go.Vm
noncomputable section
noncomputable def lp22:VC:=vp [1,1,1,0,1,0,0] vf22.body
def fr22(ks hc:List AV)(n c:Nat)(e:Bool)(kn kc:Nat)(ke:Bool)(x:AV)(er i:Int):Fr := [.ros ks 0 kn kc ke,.ros hc 0 n c e,.top,.top,.top,.top,.top,.ptr 1 0,.top,x,.int .i64 er,.int .i64 i,.top,.top,.top,.top,.top,.top,.top,.top,.top,.top,.top,.top,.top,.top,.top,.top,.top,.top,.top,.top,.top,.top,.top,.top,.top,.top,.top,.top,.top,.top,.top,.top,.top,.top,.top,.top,.top]
def mk22:List Bool := [false,false,true,true,true,true,true,false,true,false,false,false,true,true,true,true,true,true,true,true,true,true,true,true,true,true,true,true,true,true,true,true,true,true,true,true,true,true,true,true,true,true,true,true,true,true,true,true,true]
structure W22(ks:List AV)(kn:Nat)(hc:List AV)(n:Nat)(L:List (List UInt8))(hs:List Hop)(nn hash:List UInt8):Prop where
 kn:kn=n
 sh:ShAt ks 0 n L
 kf:flatL ks
 kl:ks.length=n*32
 hp:HpAt hc n hs
 hf:flatL hc
 h6:∀ h,h∈hs->h.i64
 n1:1<=n
 n8:n<=8
 ok:okHs hs n=true
 nn:nn.length=32
 hash:hash.length=32
def PW22(ks:List AV)(kn:Nat)(hc:List AV)(n:Nat)(ns hx ps:List AV):Prop:=∃ L hs nn hash,W22 ks kn hc n L hs nn hash/\ns=nn.map by8/\hx=hash.map by8/\ps=(pktL L hs nn hash 0).map by8
def ln22:LnF:=fun n0 b fr H=>match slot fr 0,slot fr 1,slot fr 9,slot fr 10,H with
 | .ros ks 0 kn kc ke,.ros hc 0 n c e,.slc _ _ _ _ _,.int .i64 _,[.cells ns,.cells hs,.cells ps] =>
  some (n0=0/\VCis b lp22/\forget mk22 fr=fr22 ks hc n c e kn kc ke (.slc 2 0 2112 2112 1) 0 0/\PW22 ks kn hc n ns hs ps,.ok (.exit 0) (fr22 ks hc n c e kn kc ke .nils 0 (Int.ofNat n)) [.cells ns,.cells hs])
 | .ros ks 0 kn kc ke,.ros hc 0 n c e,.nils,.int .i64 er,[.cells ns,.cells hs] =>
  some (n0=0/\VCis b lp22/\forget mk22 fr=fr22 ks hc n c e kn kc ke .nils er 0/\er≠0,.ok (.exit 0) (fr22 ks hc n c e kn kc ke .nils er 0) [.cells ns,.cells hs])
 | _,_,_,_,_=>none
theorem vcl22(B:BZ)(Z:OZ)(O:OY)(F:HF)(ks hc ns hs ps:List AV)(n c:Nat)(e:Bool)(kn kc:Nat)(ke:Bool)(i:Int)(Q:Ex->Fr->Hl->Prop) :
  (vm (vcA kdS (cnO5 B Z O F) noLn) ops0 noTab 100 0 lp22 (fr22 ks hc n c e kn kc ke (.slc 2 0 2112 2112 1) 0 i) [.cells ns,.cells hs,.cells ps] [] (bodyX mk22 Q)) =
 ((Br (ops0.cmp .lss i (ops0.ofn n))
 (Chk (ops0.inr i kn)
 (Chk (ops0.le (ops0.add (ops0.adr 0 i 32) 32) (ops0.len ks))
 (Chk (ops0.le 32 (ops0.len hs))
 (((P63 (ops0.ext ks (ops0.adr 0 i 32) 32) ps 0 2112 (ops0.ext hs 0 32)) /\
 (2112<=2112)) /\
 (Br (BZ.go B (ops0.ext ks (ops0.adr 0 i 32) 32) (rdB ps 0 2112) (ops0.ext hs 0 32))
 (Q Ex.norm ((.ros ks 0 kn kc ke)::(.ros hc 0 n c e)::tp 5 ((.ptr 1 0) :: .top::(.slc 3 0 2112 2112 1)::(.int .i64 (.ofNat 0))::(.int .i64 (ops0.bin .add .i64 i (Int.ofNat 1)))::tp 37 ([]))) [(.cells ns),(.cells hs),(.cells ps),(.cells (BZ.nx B (ops0.ext ks (ops0.adr 0 i 32) 32) (rdB ps 0 2112) (ops0.ext hs 0 32)))])
 (Q Ex.norm ((.ros ks 0 kn kc ke)::(.ros hc 0 n c e)::tp 5 ((.ptr 1 0) :: .top :: .nils::(.int .i64 (BZ.er B (ops0.ext ks (ops0.adr 0 i 32) 32) (rdB ps 0 2112) (ops0.ext hs 0 32)))::(.int .i64 (ops0.bin .add .i64 i (Int.ofNat 1)))::tp 37 ([]))) [(.cells ns),(.cells hs),(.cells ps)]))))))
 (Q (Ex.exit 0) ((.ros ks 0 kn kc ke)::(.ros hc 0 n c e)::tp 5 ((.ptr 1 0) :: .top::(.slc 2 0 2112 2112 1)::(.int .i64 (.ofNat 0))::(.int .i64 i)::tp 37 ([]))) [(.cells ns),(.cells hs),(.cells ps)]))):=by kernel_rfl
theorem qyo(B:BZ)(Z:OZ)(O:OY)(F:HF)(ks hc ns hs:List AV)(n c:Nat)(e:Bool)(kn kc:Nat)(ke:Bool)(er i:Int)(Q:Ex->Fr->Hl->Prop) :
  (vm (vcA kdS (cnO5 B Z O F) noLn) ops0 noTab 100 0 lp22 (fr22 ks hc n c e kn kc ke .nils er i) [.cells ns,.cells hs] [] (bodyX mk22 Q)) =
 ((Br (ops0.cmp .lss i (ops0.ofn n))
 (Br (ops0.cmp .eql er (Int.ofNat 0))
 (Q Ex.ret ((.ros ks 0 kn kc ke)::(.ros hc 0 n c e)::tp 5 ((.ptr 1 0) :: .top :: .nils::(.int .i64 er)::(.int .i64 i)::tp 37 ([]))) [(.cells ns),(.cells hs)])
 (Q (Ex.exit 0) ((.ros ks 0 kn kc ke)::(.ros hc 0 n c e)::tp 5 ((.ptr 1 0) :: .top :: .nils::(.int .i64 er)::(.int .i64 i)::tp 37 ([]))) [(.cells ns),(.cells hs)]))
 (Q (Ex.exit 0) ((.ros ks 0 kn kc ke)::(.ros hc 0 n c e)::tp 5 ((.ptr 1 0) :: .top :: .nils::(.int .i64 er)::(.int .i64 i)::tp 37 ([]))) [(.cells ns),(.cells hs)]))):=by kernel_rfl
theorem vc22(B:BZ)(Z:OZ)(O:OY)(F:HF)(ks hc ns hs:List AV)(n c:Nat)(e:Bool)(kn kc:Nat)(ke:Bool)(Q:AV->Prop) :
  (vcall (vcA kdS (cnO5 B Z O F) ln22) ops0 (qah 22 vf22) 200 vf22 [.ros ks 0 kn kc ke,.ros hc 0 n c e,.agg ns,.agg hs] [] (fun r _ _=>Q r)) =
 ((Chk (ops0.le 32 (ops0.len ns))
 (Chk (ops0.le 32 (ops0.len hs))
 ((P60 ks 0 kn hc n (ops0.ext ns 0 32) (ops0.ext hs 0 32)) /\
 (Br (BZ.gd B hc n kn)
 (((0:Nat)=0) /\
 ((((0:Nat)=0) /\
 ((VCis lp22 lp22) /\
 (((((.ros ks 0 kn kc ke)::(.ros hc 0 n c e)::tp 5 ((.ptr 1 0) :: .top::(.slc 2 0 2112 2112 1)::(.int .i64 (.ofNat 0))::(.int .i64 (.ofNat 0))::tp 37 ([]))):Fr)=((.ros ks 0 kn kc ke)::(.ros hc 0 n c e)::tp 5 ((.ptr 1 0) :: .top::(.slc 2 0 2112 2112 1)::(.int .i64 (.ofNat 0))::(.int .i64 (.ofNat 0))::tp 37 ([])))) /\
 (PW22 ks kn hc n ns hs (BZ.bl B ks 0 hc n (ops0.ext ns 0 32) (ops0.ext hs 0 32)))))) /\
 (Q (.bool Bool.true))))
 (((0:Nat)=0) /\
 ((((0:Nat)=0) /\
 ((VCis lp22 lp22) /\
 (((((.ros ks 0 kn kc ke)::(.ros hc 0 n c e)::tp 5 ((.ptr 1 0) :: .top :: .nils::(.int .i64 (.ofNat 1))::(.int .i64 (.ofNat 0))::tp 37 ([]))):Fr)=((.ros ks 0 kn kc ke)::(.ros hc 0 n c e)::tp 5 ((.ptr 1 0) :: .top :: .nils::(.int .i64 (.ofNat 1))::(.int .i64 (.ofNat 0))::tp 37 ([])))) /\
 ((Int.ofNat 1)≠(Int.ofNat 0))))) /\
 (Q (.bool Bool.true))))))))):=by kernel_rfl
theorem qwd{σ:Nat->Option Nat}{φ:Nat->Option (List AV)}(h1:σ 1=some 1)(h3:σ 3=some 2){ks hc:List AV}(hk:flatL ks)(hh:flatL hc)(n c:Nat)(e:Bool)(kn kc:Nat)(ke:Bool)(er i:Int) :
  forget mk22 (renL σ φ true (fr22 ks hc n c e kn kc ke (.slc 3 0 2112 2112 1) er i))=fr22 ks hc n c e kn kc ke (.slc 2 0 2112 2112 1) er i:=by
 unfold fr22 mk22
 simp only[renL,ren,h1,h3,forget,qaa hk,qaa hh]
theorem qwb{σ:Nat->Option Nat}{φ:Nat->Option (List AV)}(h1:σ 1=some 1){ks hc:List AV}(hk:flatL ks)(hh:flatL hc)(n c:Nat)(e:Bool)(kn kc:Nat)(ke:Bool)(er i:Int) :
  forget mk22 (renL σ φ true (fr22 ks hc n c e kn kc ke .nils er i))=fr22 ks hc n c e kn kc ke .nils er i:=by
 unfold fr22 mk22
 simp only[renL,ren,h1,forget,qaa hk,qaa hh]
section
variable {ks hc:List AV}{kn n:Nat}{L:List (List UInt8)}{hs:List Hop}{nn hash:List UInt8}
theorem W22.peel(h:W22 ks kn hc n L hs nn hash){i:Nat}(hi:i<n):peelX (L.getD i []) (pktL L hs nn hash i) hash=(0,hs.getD i hop0,if i+1=n then [] else pktL L hs nn hash (i+1))/\(pktL L hs nn hash i).length=2112:=by
 have hl:=h.hp.1
 obtain⟨p,l⟩:=qp3 (L:=L) (hash:=hash) h.nn (by rw[hl]; exact h.n8) (hp_32 h.hp) h.h6 (by rw[hl]; exact h.ok) (i:=i) (by rw[hl]; exact hi)
 refine⟨?_,l⟩
 unfold peelX
 rw[if_pos l,p,hl]
theorem q4u(h:W22 ks kn hc n L hs nn hash)(c:Nat)(e:Bool)(kc:Nat)(ke:Bool){i:Nat}(hi:i<n) :
  qap Try.prog 0 lp22 (fr22 ks hc n c e kn kc ke (.slc 2 0 2112 2112 1) 0 (Int.ofNat i)) [.cells (nn.map by8),.cells (hash.map by8),.cells ((pktL L hs nn hash i).map by8)] .norm
   (if i+1=n then fr22 ks hc n c e kn kc ke .nils 0 (Int.ofNat (i+1)) else fr22 ks hc n c e kn kc ke (.slc 2 0 2112 2112 1) 0 (Int.ofNat (i+1)))
   (if i+1=n then [.cells (nn.map by8),.cells (hash.map by8)] else [.cells (nn.map by8),.cells (hash.map by8),.cells ((pktL L hs nn hash (i+1)).map by8)]):=by
 obtain⟨x0,l0⟩:=h.peel hi
 have hkl:=h.kl
 have hkn:=h.kn
 have h8:=h.n8
 have hl:i<L.length:=by rw[h.sh.1]; exact hi
 obtain⟨hk32,hks0⟩:=h.sh.2 i L[i] (List.getElem?_eq_getElem hl)
 have hgd:L.getD i []=L[i]:=by rw[List.getD_eq_getElem?_getD,List.getElem?_eq_getElem hl]; rfl
 have hks:ops0.ext ks (0+i*32) 32=L[i].map by8:=by rw[nExt]; exact hks0
 rw[hgd] at x0
 generalize L[i]=key at hk32 hks x0
 have go:bz0.go (key.map by8) (pktL L hs nn hash i) (hash.map by8)=decide ((peelX key (pktL L hs nn hash i) hash).2.2 ≠ []):=by
  show decide ((peelX (qag _) _ (qag _)).2.2 ≠ [])=_
  rw[qab,qab]
 have nx:bz0.nx (key.map by8) (pktL L hs nn hash i) (hash.map by8)=(peelX key (pktL L hs nn hash i) hash).2.2.map by8:=by
  show(peelX (qag _) _ (qag _)).2.2.map by8=_
  rw[qab,qab]
 have er:bz0.er (key.map by8) (pktL L hs nn hash i) (hash.map by8)=(peelX key (pktL L hs nn hash i) hash).1:=by
  show(peelX (qag _) _ (qag _)).1=_
  rw[qab,qab]
 have p63:P63 (key.map by8) ((pktL L hs nn hash i).map by8) 0 2112 (hash.map by8):=⟨pkey _ hk32,qbz _ 2112 l0.symm (by omega),pkey _ h.hash⟩
 by_cases hlast:i+1=n
 ·rw[if_pos hlast] at x0
  rw[if_pos hlast,if_pos hlast]
  have hb:qap Try.prog 0 lp22 (fr22 ks hc n c e kn kc ke (.slc 2 0 2112 2112 1) 0 (Int.ofNat i)) [.cells (nn.map by8),.cells (hash.map by8),.cells ((pktL L hs nn hash i).map by8)] .norm
    (fr22 ks hc n c e kn kc ke .nils 0 (Int.ofNat (i+1))) [.cells (nn.map by8),.cells (hash.map by8),.cells ((pktL L hs nn hash i).map by8)]:=by
   refine qa2 qfj (qai _) (qak _) (n:=100) (g:=kdS) (bs:=mk22) ?_ (by simp)
   rw[vcl22,nAdr,hks,qa5 h.hash,rdW l0,go,nx,er,x0,add1 (by omega),nOfn,nLss]
   refine Br.t (decide_eq_true hi) (Chk.mk (by rw[nInr]; exact decide_eq_true (by omega)) (Chk.mk (by rw[nLe,nPlus,nLen]; exact decide_eq_true (by omega)) (Chk.mk (by rw[nLe,nLen,List.length_map,h.hash]; rfl) ⟨⟨p63,Nat.le_refl _⟩,Br.f (by rfl) ⟨rfl,rfl,rfl⟩⟩)))
  have h3:=hb.post (Weak.pickV [0,1] mk22 0 (by simp) (by simp) (by simp))
  rw[qwb (show pickN [0,1] 1=some 1 from rfl) h.kf h.hf] at h3
  have e4:pickH (viewF [.cells (nn.map by8),.cells (hash.map by8),.cells ((pktL L hs nn hash i).map by8)] [0,1] 0) [0,1] [.cells (nn.map by8),.cells (hash.map by8),.cells ((pktL L hs nn hash i).map by8)] = [.cells (nn.map by8),.cells (hash.map by8)]:=by
   show [renB _ _ true (.cells (nn.map by8)),renB _ _ true (.cells (hash.map by8))]=_
   simp only[renB,qaa (qac _)]
  rw[e4] at h3
  exact h3
 ·rw[if_neg hlast] at x0
  rw[if_neg hlast,if_neg hlast]
  obtain⟨_,l1⟩:=h.peel (i:=i+1) (by omega)
  have hne:pktL L hs nn hash (i+1) ≠ []:=fun h=>by rw[h] at l1;cases l1
  have hb:qap Try.prog 0 lp22 (fr22 ks hc n c e kn kc ke (.slc 2 0 2112 2112 1) 0 (Int.ofNat i)) [.cells (nn.map by8),.cells (hash.map by8),.cells ((pktL L hs nn hash i).map by8)] .norm
    (fr22 ks hc n c e kn kc ke (.slc 3 0 2112 2112 1) 0 (Int.ofNat (i+1))) [.cells (nn.map by8),.cells (hash.map by8),.cells ((pktL L hs nn hash i).map by8),.cells ((pktL L hs nn hash (i+1)).map by8)]:=by
   refine qa2 qfj (qai _) (qak _) (n:=100) (g:=kdS) (bs:=mk22) ?_ (by simp)
   rw[vcl22,nAdr,hks,qa5 h.hash,rdW l0,go,nx,er,x0,add1 (by omega),nOfn,nLss]
   refine Br.t (decide_eq_true hi) (Chk.mk (by rw[nInr]; exact decide_eq_true (by omega)) (Chk.mk (by rw[nLe,nPlus,nLen]; exact decide_eq_true (by omega)) (Chk.mk (by rw[nLe,nLen,List.length_map,h.hash]; rfl) ⟨⟨p63,Nat.le_refl _⟩,Br.t (decide_eq_true hne) ⟨rfl,rfl,rfl⟩⟩)))
  have h3:=hb.post (Weak.pickV [0,1,3] mk22 0 (by simp) (by simp) (by simp))
  rw[qwd (show pickN [0,1,3] 1=some 1 from rfl) (show pickN [0,1,3] 3=some 2 from rfl) h.kf h.hf] at h3
  have e4:pickH (viewF [.cells (nn.map by8),.cells (hash.map by8),.cells ((pktL L hs nn hash i).map by8),.cells ((pktL L hs nn hash (i+1)).map by8)] [0,1,3] 0) [0,1,3] [.cells (nn.map by8),.cells (hash.map by8),.cells ((pktL L hs nn hash i).map by8),.cells ((pktL L hs nn hash (i+1)).map by8)] = [.cells (nn.map by8),.cells (hash.map by8),.cells ((pktL L hs nn hash (i+1)).map by8)]:=by
   show [renB _ _ true (.cells (nn.map by8)),renB _ _ true (.cells (hash.map by8)),renB _ _ true (.cells ((pktL L hs nn hash (i+1)).map by8))]=_
   simp only[renB,qaa (qac _)]
  rw[e4] at h3
  exact h3
theorem q1d:LnOK Try.prog ln22:=by
 intro n0 b fr H p x e hn0 hp lg
 unfold ln22 at e
 split at e<;>cases e
 ·rename_i ks kn kc ke hc n c e b0 o0 m0 c0 z0 er0 ns hx ps h1 h2 h3 h4
  obtain⟨rfl,hb,hf,L,hs,nn,hash,h,rfl,rfl,rfl⟩:=hp
  have hb:b=lp22:=hb
  subst hb
  refine qam.pre (Weak.forget (by simp) mk22) (fun lg => ?_) lg
  rw[hf]
  have hl:=qal (P:=Try.prog) (n0:=0) (b:=lp22) (ex := .exit 0) (fr':=fr22 ks hc n c e kn kc ke .nils 0 (Int.ofNat n)) (H' := [.cells (nn.map by8),.cells (hash.map by8)]) (by intro h;cases h)
   (fun i=>(if i=n then fr22 ks hc n c e kn kc ke .nils 0 (Int.ofNat i) else fr22 ks hc n c e kn kc ke (.slc 2 0 2112 2112 1) 0 (Int.ofNat i),if i=n then [.cells (nn.map by8),.cells (hash.map by8)] else [.cells (nn.map by8),.cells (hash.map by8),.cells ((pktL L hs nn hash i).map by8)])) n 0 (fun i _ hi => ?_) ?_ lg
  ·have n1:=h.n1
   simp only[if_neg (show ¬ 0=n by omega)] at hl
   exact hl
  ·simp only[if_neg (show ¬ i=n by omega)]
   exact q4u h c e kc ke (by omega)
  ·rw[Nat.zero_add]
   simp only[if_pos]
   refine qa2 qfj (qai _) (qak _) (n:=100) (g:=kdS) (bs:=mk22) ?_ (by simp)
   rw[qyo,nOfn,nLss]
   exact Br.f (decide_eq_false (by omega)) ⟨rfl,rfl,rfl⟩
 ·rename_i ks kn kc ke hc n c e er ns hx h1 h2 h3 h4
  obtain⟨rfl,hb,hf,hne⟩:=hp
  have hb:b=lp22:=hb
  subst hb
  refine qam.pre (Weak.forget (by simp) mk22) (fun lg => ?_) lg
  rw[hf]
  refine qal (P:=Try.prog) (n0:=0) (b:=lp22) (ex := .exit 0) (fr':=fr22 ks hc n c e kn kc ke .nils er 0) (H' := [.cells ns,.cells hx]) (by intro h;cases h) (fun _=>(fr22 ks hc n c e kn kc ke .nils er 0,[.cells ns,.cells hx])) 0 0 (fun j h1 h2=>by omega) ?_ lg
  refine qa2 qfj (qai _) (qak _) (n:=100) (g:=kdS) (bs:=mk22) ?_ (by simp)
  show vm _ _ _ _ _ _ (fr22 ks hc n c e kn kc ke .nils er 0) [.cells ns,.cells hx] _ _
  rw[qyo]
  exact Br.mk (fun _=>Br.f (by show(er == 0)=false;exact beq_eq_false_iff_ne.2 hne) ⟨rfl,rfl,rfl⟩) (fun _=>⟨rfl,rfl,rfl⟩)
theorem law22{ks hc:List AV}{n kn:Nat}(c:Nat)(e:Bool)(kc:Nat)(ke:Bool){hs:List Hop}{nn hash:List UInt8}(hk:PSh ks 0 kn)(hkl:ks.length=kn*32)(hP:PHs hc n)(hp:HpAt hc n hs)(h6:∀ h,h∈hs->h.i64)(hnn:nn.length=32)(hh:hash.length=32) :
  ∃ H' lg,CallTo Try.prog 22 [.ros ks 0 kn kc ke,.ros hc 0 n c e,.agg (nn.map by8),.agg (hash.map by8)] [] (.bool true) H' lg:=by
 have hv:=vc22 bz0 oz0 of1 hf0 ks hc (nn.map by8) (hash.map by8) n c e kn kc ke (fun r=>r = .bool true)
 have h60:P60 ks 0 kn hc n (nn.map by8) (hash.map by8):=⟨hk,hP,pkey _ hnn,pkey _ hh⟩
 rw[qa5 hnn,qa5 hh] at hv
 have hq:=hv.mpr (by
  refine Chk.mk (by rw[nLe,nLen,List.length_map,hnn]; rfl) (Chk.mk (by rw[nLe,nLen,List.length_map,hh]; rfl) ⟨h60,?_⟩)
  cases hg:goodB (hsOf hc n) n kn with
  | false =>
   have hz:bz0.gd hc n kn=false:=hg
   rw[hz]
   exact⟨rfl,⟨rfl,rfl,rfl,by simp⟩,rfl⟩
  | true =>
   have hz:bz0.gd hc n kn=true:=hg
   obtain⟨g1,g8,rfl,gok⟩:=qft.1 hg
   obtain⟨L,hL⟩:=hk.2.2.2
   rw[qcs hp] at gok
   rw[hz,bl_eq (kn:=kn) hp hL,<-qhb]
   exact⟨rfl,⟨rfl,rfl,rfl,L,hs,nn,hash,⟨rfl,hL,hk.1,hkl,hp,hP.1,h6,g1,g8,gok,hnn,hh⟩,rfl,rfl,rfl⟩,rfl⟩)
 obtain⟨r,H',lg,hc2,rfl⟩:=qcu qfj q1d (qaj ok22) (qad 22 vf22) hq
 exact⟨H',lg,hc2⟩
end
end
end Go.Proofs.Vm

namespace Go.Proofs.Vm
set_option maxRecDepth 100000
open Go.Vm
noncomputable section
def tab66(f:Nat):Option VF:=match f with
 | 66=>some vf66
 | _=>none
theorem vc66(Z:OZ)(O:OY)(F:HF)(ks pc:List AV)(off len cap:Nat)(e:Bool)(Q:AV->Hl->Prop) :
  (vcall (vcA kdS (cnO2 Z O F) noLn) ops0 tab66 200 vf66 [.agg ks,.ros pc off len cap e] [] (endN (fun _=>0) Q)) =
 ((Br (ops0.cmp .neq (ops0.ofn len) (Int.ofNat 2112))
 (Q (.tup [(.agg (z8 32)),(.int .i64 (.ofNat 10))]) [])
 (Chk (ops0.le 32 (ops0.len ks))
 (Chk (ops0.le 32 len)
 (Chk (ops0.le (ops0.add off 32) (ops0.len pc))
 (((PKey (ops0.ext ks 0 32)) /\
 (PKey (ops0.ext pc off 32))) /\
 (Chk (ops0.eq (ops0.len (OY.att O (ops0.ext ks 0 32) (ops0.ext pc off 32))) 32)
 (Chk (ops0.le 32 (ops0.len (ops0.spl (z8 32) 0 (OY.att O (ops0.ext ks 0 32) (ops0.ext pc off 32)))))
 (Q (.tup [(.agg (ops0.ext (ops0.spl (z8 32) 0 (OY.att O (ops0.ext ks 0 32) (ops0.ext pc off 32))) 0 32)),(.int .i64 (.ofNat 0))]) []))))))))):=by kernel_rfl
theorem q20{key p:List UInt8}(hk:key.length=32)(hp:p.length=2112)(c:Nat)(e:Bool):CallTo Try.prog 66 [.agg (key.map by8),.ros (p.map by8) 0 2112 c e] [] (.tup [.agg ((atL key (sl p 0 32)).map by8),.int .i64 0]) [] []:=by
 have htab:∀ f vf,tab66 f=some vf->FnOK Try.prog f vf:=by
  intro f vf h
  unfold tab66 at h
  split at h<;>cases h
  exact ok66
 have ha:=at_32 key (sl p 0 32)
 have l0:(sl p 0 32).length=32:=qbc (by omega)
 refine qb7 qbf (qai _) htab (show tab66 66=some vf66 from rfl) (n:=200) (g:=kdS) (m:=fun _=>0) [] ?_ (Nat.le_refl 0) (by simp only[cutV,ren,renL,qaa (qac _)]) (fun b hb=>by simp at hb)
 rw[vc66,qa5 hk,qg9,qgj,spl32 ha,qa5 ha,nOfn,nNeq]
 refine Br.f (by simp) ?_
 simp only[qbl,nLe,nPlus,nLen,nEq,List.length_map,hk,hp,ha,decide_eq_true_eq]
 refine⟨by omega,by omega,by omega,⟨pkey _ hk,pkey _ l0⟩,by first|trivial|omega,by first|trivial|omega,by first|trivial|rfl,by first|trivial|rfl⟩
def cnO6(B:BZ)(Z:OZ)(O:OY)(F:HF):CnF:=cnOr (fun f vals H=>match f,vals with
 | 66,[.agg ks,x]=>match vw1 H x with
  | .ros pc off 2112 c _=>some (PKey ks/\PB pc off 2112,.ok (.tup [.agg (O.att ks (Z.cut pc off)),.int .i64 0]) H [])
  | _=>none
 | _,_=>none) (cnO5 B Z O F)
theorem qno:CnOK Try.prog (cnO6 bz0 oz0 of1 hf0):=by
 refine qfl ?_ qfj
 intro f vals H p x e hp
 dsimp only at e
 split at e
 ·rename_i ks y
  split at e<;>cases e
  rename_i pc off c ex hv
  obtain⟨⟨key,hk,rfl⟩,hf,ho,_,lb,hb⟩:=hp
  have h:=CallTo.lookV (H:=H) (q20 hk hb.1 c ex) (.cons (vwA H key) (.cons (Vw.bytes hv hf ho hb) .nil))
  have e1:oz0.cut pc off=(sl lb 0 32).map by8:=by
   show(rdB pc off 32).map by8=_
   have:rdB pc off 32=sl lb 0 32:=by
    have h2:=hb.2
    unfold rdB sl
    rw[List.drop_zero]
    have h3:(pc.drop off).take 32=((pc.drop off).take 2112).take 32:=by rw[List.take_take]; rfl
    rw[h3,h2,<-List.map_take,qab]
   rw[this]
  have e2:of1.att (key.map by8) ((sl lb 0 32).map by8)=(atL key (sl lb 0 32)).map by8:=qgj _ _
  have eb:backV [] H.length (.tup [.agg ((atL key (sl lb 0 32)).map by8),.int .i64 0]) = .tup [.agg ((atL key (sl lb 0 32)).map by8),.int .i64 0]:=by
   unfold backV
   simp only[ren,renL,qaa (qac _)]
  rw[eb] at h
  rw[e1,e2]
  exact h
 ·cases e
end
end Go.Proofs.Vm

namespace Go.Proofs.Vm
set_option maxRecDepth 100000
open Go.Vm
noncomputable section
def goI(B:BZ)(ks hs ps:List AV)(i:Int):Bool:=B.go (ops0.ext ks (ops0.adr 0 i 32) 32) (rdB ps 0 2112) (ops0.ext hs 0 32)
def hpI(B:BZ)(ks hs ps:List AV)(i:Int):List AV:=B.hp (ops0.ext ks (ops0.adr 0 i 32) 32) (rdB ps 0 2112) (ops0.ext hs 0 32)
def nxI(B:BZ)(ks hs ps:List AV)(i:Int):List AV:=B.nx (ops0.ext ks (ops0.adr 0 i 32) 32) (rdB ps 0 2112) (ops0.ext hs 0 32)
def erI(B:BZ)(ks hs ps:List AV)(i:Int):Int:=B.er (ops0.ext ks (ops0.adr 0 i 32) 32) (rdB ps 0 2112) (ops0.ext hs 0 32)
def kyI(O:OY)(Z:OZ)(ks ps:List AV)(i:Int):List AV:=O.att (ops0.ext ks (ops0.adr 0 i 32) 32) (Z.cut ps 0)
noncomputable def lp23:VC:=vp [1,1,1,1,1,1,0,1,0,0] vf23.body
def fr23(ks hc:List AV)(n c:Nat)(e:Bool)(kn kc:Nat)(ke:Bool)(x:AV)(i:Int):Fr := [.ros ks 0 kn kc ke,.ros hc 0 n c e,.top,.top,.top,.top,.top,.ptr 1 0,.top,x,.top,.slc 3 0 kn kn 32,.int .i64 i,.top,.top,.top,.top,.top,.top,.top,.top,.top,.top,.top,.top,.top,.top,.top,.top,.top,.top,.top,.top,.top,.top,.top,.top,.top,.top,.top,.top,.top,.top,.top,.top,.top,.top,.top,.top,.top,.top,.top,.top,.top,.top,.top,.top,.top,.top,.top,.top,.top,.top,.top,.top,.top,.top,.top,.top,.top,.top,.top,.top,.top,.top,.top,.top,.top,.top,.top,.top,.top,.top,.top,.top,.top,.top,.top,.top,.top,.top,.top,.top,.top,.top,.top,.top,.top,.top,.top,.top,.top,.top,.top,.top]
def mk23:List Bool := [false,false,true,true,true,true,true,false,true,false,true,false,false,true,true,true,true,true,true,true,true,true,true,true,true,true,true,true,true,true,true,true,true,true,true,true,true,true,true,true,true,true,true,true,true,true,true,true,true,true,true,true,true,true,true,true,true,true,true,true,true,true,true,true,true,true,true,true,true,true,true,true,true,true,true,true,true,true,true,true,true,true,true,true,true,true,true,true,true,true,true,true,true,true,true,true,true,true,true,true,true,true,true,true,true]
theorem vcl23(B:BZ)(Z:OZ)(O:OY)(F:HF)(ks hc ns hs ps kcs:List AV)(n c:Nat)(e:Bool)(kn kc:Nat)(ke:Bool)(i:Int)(Q:Ex->Fr->Hl->Prop) :
  (vm (vcA kdS (cnO6 B Z O F) noLn) ops0 noTab 100 0 lp23 (fr23 ks hc n c e kn kc ke (.slc 2 0 2112 2112 1) i) [.cells ns,.cells hs,.cells ps,.cells kcs] [] (fun ex fr H _=>match ex with
    | .ret=>False
    | ex=>Q ex (forget mk23 fr) H)) =
 ((Br (ops0.cmp .lss i (ops0.ofn n))
 (Chk (ops0.inr i kn)
 (Chk (ops0.le (ops0.add (ops0.adr 0 i 32) 32) (ops0.len ks))
 (((PKey (ops0.ext ks (ops0.adr 0 i 32) 32)) /\
 (PB ps 0 2112)) /\
 (Chk (ops0.eq (ops0.len (kyI O Z ks ps i)) 32)
 (Chk (ops0.inr i kn)
 (Chk (ops0.le (ops0.add (ops0.adr 0 i 32) 32) (ops0.len ks))
 (Chk (ops0.le 32 (ops0.len hs))
 (((P63 (ops0.ext ks (ops0.adr 0 i 32) 32) ps 0 2112 (ops0.ext hs 0 32)) /\
 (2112<=2112)) /\
 (Br (goI B ks hs ps i)
 (Chk (ops0.eq (ops0.len (hpI B ks hs ps i)) 101)
 (Chk (own (.tup [(.agg (hpI B ks hs ps i)),(.slc 5 0 2112 2112 1),(.int .i64 (.ofNat 0))]))
 (Chk (nm 5 (.agg (ops0.ext ks (ops0.adr 0 i 32) 32)))
 (Chk (nm 5 (.agg (ops0.ext hs 0 32)))
 (Chk (nmB 5 (.cells ns))
 (Chk (nmB 5 (.cells hs))
 (Chk (nmB 5 (.cells ps))
 (Chk (nmB 5 (.cells kcs))
 (Chk (nmB 5 (.cells (ops0.spl (z8 32) 0 (kyI O Z ks ps i))))
 (Chk (ownB (.cells ns))
 (Chk (ownB (.cells hs))
 (Chk (ownB (.cells ps))
 (Chk (ownB (.cells kcs))
 (Chk (ownB (.cells (ops0.spl (z8 32) 0 (kyI O Z ks ps i))))
 (Chk (ownB (.cells (nxI B ks hs ps i)))
 (Chk (ops0.le 32 (ops0.len (ops0.spl (z8 32) 0 (kyI O Z ks ps i))))
 (Chk (ops0.inr i kn)
 (Chk (ops0.le (ops0.add (ops0.adr 0 i 32) 32) (ops0.len kcs))
 (Chk (ops0.eq (ops0.len (ops0.ext (ops0.spl (z8 32) 0 (kyI O Z ks ps i)) 0 32)) 32)
 (Chk (ops0.eq (ops0.len (ops0.ext kcs (ops0.adr 0 i 32) 32)) 32)
 (Chk (ops0.le 32 (ops0.len (ops0.ext (ops0.spl (z8 32) 0 (kyI O Z ks ps i)) 0 32)))
 (Chk (ops0.le 32 (ops0.len (ops0.ext kcs (ops0.adr 0 i 32) 32)))
 (∃ l:(List Int),((((ops0.ext (ops0.ext (ops0.spl (z8 32) 0 (kyI O Z ks ps i)) 0 32) 0 32):(List AV))=(List.map (.int .u8) l)) /\
 (∃ l1:(List Int),((((ops0.ext (ops0.ext kcs (ops0.adr 0 i 32) 32) 0 32):(List AV))=(List.map (.int .u8) l1)) /\
 (Chk (ops0.eqi l l1)
 (Chk (ops0.le 101 (ops0.len (ops0.spl hopZ 0 (hpI B ks hs ps i))))
 (Chk (ops0.inr i n)
 (Chk (ops0.le (ops0.add (ops0.adr 0 i 101) 101) (ops0.len hc))
 (Chk (ops0.eq (ops0.len (ops0.ext (ops0.spl hopZ 0 (hpI B ks hs ps i)) 0 101)) 101)
 (Chk (ops0.eq (ops0.len (ops0.ext hc (ops0.adr 0 i 101) 101)) 101)
 (Chk (ops0.le 1 (ops0.len (ops0.ext (ops0.spl hopZ 0 (hpI B ks hs ps i)) 0 101)))
 (Chk (ops0.le 1 (ops0.len (ops0.ext hc (ops0.adr 0 i 101) 101)))
 (∃ l2:(List Int),((((ops0.ext (ops0.ext (ops0.spl hopZ 0 (hpI B ks hs ps i)) 0 101) 0 1):(List AV))=(List.map (.int .i64) l2)) /\
 (∃ l3:(List Int),((((ops0.ext (ops0.ext hc (ops0.adr 0 i 101) 101) 0 1):(List AV))=(List.map (.int .i64) l3)) /\
 (Chk (ops0.eqi l2 l3)
 (Chk (ops0.le 2 (ops0.len (ops0.ext (ops0.spl hopZ 0 (hpI B ks hs ps i)) 0 101)))
 (Chk (ops0.le 2 (ops0.len (ops0.ext hc (ops0.adr 0 i 101) 101)))
 (∃ l4:(List Int),((((ops0.ext (ops0.ext (ops0.spl hopZ 0 (hpI B ks hs ps i)) 0 101) 1 1):(List AV))=(List.map (.int .i64) l4)) /\
 (∃ l5:(List Int),((((ops0.ext (ops0.ext hc (ops0.adr 0 i 101) 101) 1 1):(List AV))=(List.map (.int .i64) l5)) /\
 (Chk (ops0.eqi l4 l5)
 (Chk (ops0.le 3 (ops0.len (ops0.ext (ops0.spl hopZ 0 (hpI B ks hs ps i)) 0 101)))
 (Chk (ops0.le 3 (ops0.len (ops0.ext hc (ops0.adr 0 i 101) 101)))
 (∃ l6:(List Int),((((ops0.ext (ops0.ext (ops0.spl hopZ 0 (hpI B ks hs ps i)) 0 101) 2 1):(List AV))=(List.map (.int .i64) l6)) /\
 (∃ l7:(List Int),((((ops0.ext (ops0.ext hc (ops0.adr 0 i 101) 101) 2 1):(List AV))=(List.map (.int .i64) l7)) /\
 (Chk (ops0.eqi l6 l7)
 (Chk (ops0.le 35 (ops0.len (ops0.ext (ops0.spl hopZ 0 (hpI B ks hs ps i)) 0 101)))
 (Chk (ops0.le 35 (ops0.len (ops0.ext hc (ops0.adr 0 i 101) 101)))
 (∃ l8:(List Int),((((ops0.ext (ops0.ext (ops0.spl hopZ 0 (hpI B ks hs ps i)) 0 101) 3 32):(List AV))=(List.map (.int .u8) l8)) /\
 (∃ l9:(List Int),((((ops0.ext (ops0.ext hc (ops0.adr 0 i 101) 101) 3 32):(List AV))=(List.map (.int .u8) l9)) /\
 (Chk (ops0.eqi l8 l9)
 (Chk (ops0.le 36 (ops0.len (ops0.ext (ops0.spl hopZ 0 (hpI B ks hs ps i)) 0 101)))
 (Chk (ops0.le 36 (ops0.len (ops0.ext hc (ops0.adr 0 i 101) 101)))
 (∃ l10:(List Int),((((ops0.ext (ops0.ext (ops0.spl hopZ 0 (hpI B ks hs ps i)) 0 101) 35 1):(List AV))=(List.map (.int .i64) l10)) /\
 (∃ l11:(List Int),((((ops0.ext (ops0.ext hc (ops0.adr 0 i 101) 101) 35 1):(List AV))=(List.map (.int .i64) l11)) /\
 (Chk (ops0.eqi l10 l11)
 (Chk (ops0.le 68 (ops0.len (ops0.ext (ops0.spl hopZ 0 (hpI B ks hs ps i)) 0 101)))
 (Chk (ops0.le 68 (ops0.len (ops0.ext hc (ops0.adr 0 i 101) 101)))
 (∃ l12:(List Int),((((ops0.ext (ops0.ext (ops0.spl hopZ 0 (hpI B ks hs ps i)) 0 101) 36 32):(List AV))=(List.map (.int .u8) l12)) /\
 (∃ l13:(List Int),((((ops0.ext (ops0.ext hc (ops0.adr 0 i 101) 101) 36 32):(List AV))=(List.map (.int .u8) l13)) /\
 (Chk (ops0.eqi l12 l13)
 (Chk (ops0.le 69 (ops0.len (ops0.ext (ops0.spl hopZ 0 (hpI B ks hs ps i)) 0 101)))
 (Chk (ops0.le 69 (ops0.len (ops0.ext hc (ops0.adr 0 i 101) 101)))
 (∃ l14:(List Int),((((ops0.ext (ops0.ext (ops0.spl hopZ 0 (hpI B ks hs ps i)) 0 101) 68 1):(List AV))=(List.map (.int .i64) l14)) /\
 (∃ l15:(List Int),((((ops0.ext (ops0.ext hc (ops0.adr 0 i 101) 101) 68 1):(List AV))=(List.map (.int .i64) l15)) /\
 (Chk (ops0.eqi l14 l15)
 (Chk (ops0.le 101 (ops0.len (ops0.ext (ops0.spl hopZ 0 (hpI B ks hs ps i)) 0 101)))
 (Chk (ops0.le 101 (ops0.len (ops0.ext hc (ops0.adr 0 i 101) 101)))
 (∃ l16:(List Int),((((ops0.ext (ops0.ext (ops0.spl hopZ 0 (hpI B ks hs ps i)) 0 101) 69 32):(List AV))=(List.map (.int .u8) l16)) /\
 (∃ l17:(List Int),((((ops0.ext (ops0.ext hc (ops0.adr 0 i 101) 101) 69 32):(List AV))=(List.map (.int .u8) l17)) /\
 (Chk (ops0.eqi l16 l17)
 (Br (ops0.cmp .eql i (ops0.bin .sub .i64 (ops0.ofn n) (Int.ofNat 1)))
 False
 (Q Ex.norm ((.ros ks 0 kn kc ke)::(.ros hc 0 n c e)::tp 5 ((.ptr 1 0) :: .top::(.slc 5 0 2112 2112 1) :: .top::(.slc 3 0 kn kn 32)::(.int .i64 (ops0.bin .add .i64 i (Int.ofNat 1)))::tp 92 ([]))) [(.cells ns),(.cells hs),(.cells ps),(.cells kcs),(.cells (ops0.spl (z8 32) 0 (kyI O Z ks ps i))),(.cells (nxI B ks hs ps i)),(.cells (ops0.spl hopZ 0 (hpI B ks hs ps i)))]))))))))))))))))))))))))))))))))))))))))))))))))))))))))))))))))))))))))))))))))))))))))))
 (Chk (ops0.eq (ops0.len (hpI B ks hs ps i)) 101)
 (Chk (own (.tup [(.agg (hpI B ks hs ps i)),.nils,(.int .i64 (erI B ks hs ps i))]))
 (Chk (nm 5 (.agg (ops0.ext ks (ops0.adr 0 i 32) 32)))
 (Chk (nm 5 (.agg (ops0.ext hs 0 32)))
 (Chk (nmB 5 (.cells ns))
 (Chk (nmB 5 (.cells hs))
 (Chk (nmB 5 (.cells ps))
 (Chk (nmB 5 (.cells kcs))
 (Chk (nmB 5 (.cells (ops0.spl (z8 32) 0 (kyI O Z ks ps i))))
 (Chk (ownB (.cells ns))
 (Chk (ownB (.cells hs))
 (Chk (ownB (.cells ps))
 (Chk (ownB (.cells kcs))
 (Chk (ownB (.cells (ops0.spl (z8 32) 0 (kyI O Z ks ps i))))
 (Chk (ops0.le 32 (ops0.len (ops0.spl (z8 32) 0 (kyI O Z ks ps i))))
 (Chk (ops0.inr i kn)
 (Chk (ops0.le (ops0.add (ops0.adr 0 i 32) 32) (ops0.len kcs))
 (Chk (ops0.eq (ops0.len (ops0.ext (ops0.spl (z8 32) 0 (kyI O Z ks ps i)) 0 32)) 32)
 (Chk (ops0.eq (ops0.len (ops0.ext kcs (ops0.adr 0 i 32) 32)) 32)
 (Chk (ops0.le 32 (ops0.len (ops0.ext (ops0.spl (z8 32) 0 (kyI O Z ks ps i)) 0 32)))
 (Chk (ops0.le 32 (ops0.len (ops0.ext kcs (ops0.adr 0 i 32) 32)))
 (∃ l:(List Int),((((ops0.ext (ops0.ext (ops0.spl (z8 32) 0 (kyI O Z ks ps i)) 0 32) 0 32):(List AV))=(List.map (.int .u8) l)) /\
 (∃ l1:(List Int),((((ops0.ext (ops0.ext kcs (ops0.adr 0 i 32) 32) 0 32):(List AV))=(List.map (.int .u8) l1)) /\
 (Chk (ops0.eqi l l1)
 (Br (ops0.cmp .neq (erI B ks hs ps i) (Int.ofNat 0))
 False
 (Chk (ops0.le 101 (ops0.len (ops0.spl hopZ 0 (hpI B ks hs ps i))))
 (Chk (ops0.inr i n)
 (Chk (ops0.le (ops0.add (ops0.adr 0 i 101) 101) (ops0.len hc))
 (Chk (ops0.eq (ops0.len (ops0.ext (ops0.spl hopZ 0 (hpI B ks hs ps i)) 0 101)) 101)
 (Chk (ops0.eq (ops0.len (ops0.ext hc (ops0.adr 0 i 101) 101)) 101)
 (Chk (ops0.le 1 (ops0.len (ops0.ext (ops0.spl hopZ 0 (hpI B ks hs ps i)) 0 101)))
 (Chk (ops0.le 1 (ops0.len (ops0.ext hc (ops0.adr 0 i 101) 101)))
 (∃ l2:(List Int),((((ops0.ext (ops0.ext (ops0.spl hopZ 0 (hpI B ks hs ps i)) 0 101) 0 1):(List AV))=(List.map (.int .i64) l2)) /\
 (∃ l3:(List Int),((((ops0.ext (ops0.ext hc (ops0.adr 0 i 101) 101) 0 1):(List AV))=(List.map (.int .i64) l3)) /\
 (Chk (ops0.eqi l2 l3)
 (Chk (ops0.le 2 (ops0.len (ops0.ext (ops0.spl hopZ 0 (hpI B ks hs ps i)) 0 101)))
 (Chk (ops0.le 2 (ops0.len (ops0.ext hc (ops0.adr 0 i 101) 101)))
 (∃ l4:(List Int),((((ops0.ext (ops0.ext (ops0.spl hopZ 0 (hpI B ks hs ps i)) 0 101) 1 1):(List AV))=(List.map (.int .i64) l4)) /\
 (∃ l5:(List Int),((((ops0.ext (ops0.ext hc (ops0.adr 0 i 101) 101) 1 1):(List AV))=(List.map (.int .i64) l5)) /\
 (Chk (ops0.eqi l4 l5)
 (Chk (ops0.le 3 (ops0.len (ops0.ext (ops0.spl hopZ 0 (hpI B ks hs ps i)) 0 101)))
 (Chk (ops0.le 3 (ops0.len (ops0.ext hc (ops0.adr 0 i 101) 101)))
 (∃ l6:(List Int),((((ops0.ext (ops0.ext (ops0.spl hopZ 0 (hpI B ks hs ps i)) 0 101) 2 1):(List AV))=(List.map (.int .i64) l6)) /\
 (∃ l7:(List Int),((((ops0.ext (ops0.ext hc (ops0.adr 0 i 101) 101) 2 1):(List AV))=(List.map (.int .i64) l7)) /\
 (Chk (ops0.eqi l6 l7)
 (Chk (ops0.le 35 (ops0.len (ops0.ext (ops0.spl hopZ 0 (hpI B ks hs ps i)) 0 101)))
 (Chk (ops0.le 35 (ops0.len (ops0.ext hc (ops0.adr 0 i 101) 101)))
 (∃ l8:(List Int),((((ops0.ext (ops0.ext (ops0.spl hopZ 0 (hpI B ks hs ps i)) 0 101) 3 32):(List AV))=(List.map (.int .u8) l8)) /\
 (∃ l9:(List Int),((((ops0.ext (ops0.ext hc (ops0.adr 0 i 101) 101) 3 32):(List AV))=(List.map (.int .u8) l9)) /\
 (Chk (ops0.eqi l8 l9)
 (Chk (ops0.le 36 (ops0.len (ops0.ext (ops0.spl hopZ 0 (hpI B ks hs ps i)) 0 101)))
 (Chk (ops0.le 36 (ops0.len (ops0.ext hc (ops0.adr 0 i 101) 101)))
 (∃ l10:(List Int),((((ops0.ext (ops0.ext (ops0.spl hopZ 0 (hpI B ks hs ps i)) 0 101) 35 1):(List AV))=(List.map (.int .i64) l10)) /\
 (∃ l11:(List Int),((((ops0.ext (ops0.ext hc (ops0.adr 0 i 101) 101) 35 1):(List AV))=(List.map (.int .i64) l11)) /\
 (Chk (ops0.eqi l10 l11)
 (Chk (ops0.le 68 (ops0.len (ops0.ext (ops0.spl hopZ 0 (hpI B ks hs ps i)) 0 101)))
 (Chk (ops0.le 68 (ops0.len (ops0.ext hc (ops0.adr 0 i 101) 101)))
 (∃ l12:(List Int),((((ops0.ext (ops0.ext (ops0.spl hopZ 0 (hpI B ks hs ps i)) 0 101) 36 32):(List AV))=(List.map (.int .u8) l12)) /\
 (∃ l13:(List Int),((((ops0.ext (ops0.ext hc (ops0.adr 0 i 101) 101) 36 32):(List AV))=(List.map (.int .u8) l13)) /\
 (Chk (ops0.eqi l12 l13)
 (Chk (ops0.le 69 (ops0.len (ops0.ext (ops0.spl hopZ 0 (hpI B ks hs ps i)) 0 101)))
 (Chk (ops0.le 69 (ops0.len (ops0.ext hc (ops0.adr 0 i 101) 101)))
 (∃ l14:(List Int),((((ops0.ext (ops0.ext (ops0.spl hopZ 0 (hpI B ks hs ps i)) 0 101) 68 1):(List AV))=(List.map (.int .i64) l14)) /\
 (∃ l15:(List Int),((((ops0.ext (ops0.ext hc (ops0.adr 0 i 101) 101) 68 1):(List AV))=(List.map (.int .i64) l15)) /\
 (Chk (ops0.eqi l14 l15)
 (Chk (ops0.le 101 (ops0.len (ops0.ext (ops0.spl hopZ 0 (hpI B ks hs ps i)) 0 101)))
 (Chk (ops0.le 101 (ops0.len (ops0.ext hc (ops0.adr 0 i 101) 101)))
 (∃ l16:(List Int),((((ops0.ext (ops0.ext (ops0.spl hopZ 0 (hpI B ks hs ps i)) 0 101) 69 32):(List AV))=(List.map (.int .u8) l16)) /\
 (∃ l17:(List Int),((((ops0.ext (ops0.ext hc (ops0.adr 0 i 101) 101) 69 32):(List AV))=(List.map (.int .u8) l17)) /\
 (Chk (ops0.eqi l16 l17)
 (Chk (ops0.cmp .eql i (ops0.bin .sub .i64 (ops0.ofn n) (Int.ofNat 1)))
 (Q Ex.norm ((.ros ks 0 kn kc ke)::(.ros hc 0 n c e)::tp 5 ((.ptr 1 0) :: .top :: .nils :: .top::(.slc 3 0 kn kn 32)::(.int .i64 (ops0.bin .add .i64 i (Int.ofNat 1)))::tp 92 ([]))) [(.cells ns),(.cells hs),(.cells ps),(.cells kcs),(.cells (ops0.spl (z8 32) 0 (kyI O Z ks ps i))),(.cells (ops0.spl hopZ 0 (hpI B ks hs ps i)))])))))))))))))))))))))))))))))))))))))))))))))))))))))))))))))))))))))))))))))))))))))))))))))))))))
 (Q (Ex.exit 0) ((.ros ks 0 kn kc ke)::(.ros hc 0 n c e)::tp 5 ((.ptr 1 0) :: .top::(.slc 2 0 2112 2112 1) :: .top::(.slc 3 0 kn kn 32)::(.int .i64 i)::tp 92 ([]))) [(.cells ns),(.cells hs),(.cells ps),(.cells kcs)]))):=by kernel_rfl
def qq23(Q:Ex->Fr->Hl->Prop)(ex:Ex)(fr:Fr)(H:Hl):Prop:=match ex with
 | .ret=>False
 | ex=>Q ex (forget mk23 fr) H
section
variable {ks hc:List AV}{kn n:Nat}{L:List (List UInt8)}{hs:List Hop}{nn hash:List UInt8}
set_option maxRecDepth 100000 in
theorem vm23(h:W22 ks kn hc n L hs nn hash)(c:Nat)(e:Bool)(kc:Nat)(ke:Bool){i:Nat}(hi:i<n)(Q:Ex->Fr->Hl->Prop)
  (hq1:i+1=n->∀ X Y,Q .norm (fr23 ks hc n c e kn kc ke .nils (Int.ofNat (i+1))) [.cells (nn.map by8),.cells (hash.map by8),.cells ((pktL L hs nn hash i).map by8),.cells ((keysL L nn n).flatten.map by8),.cells X,.cells Y])
  (hq2:i+1≠n->∀ X Y,Q .norm (fr23 ks hc n c e kn kc ke (.slc 5 0 2112 2112 1) (Int.ofNat (i+1))) [.cells (nn.map by8),.cells (hash.map by8),.cells ((pktL L hs nn hash i).map by8),.cells ((keysL L nn n).flatten.map by8),.cells X,.cells ((pktL L hs nn hash (i+1)).map by8),.cells Y]) :
  vm (vcA kdS (cnO6 bz0 oz0 of1 hf0) noLn) ops0 noTab 100 0 lp23 (fr23 ks hc n c e kn kc ke (.slc 2 0 2112 2112 1) (Int.ofNat i)) [.cells (nn.map by8),.cells (hash.map by8),.cells ((pktL L hs nn hash i).map by8),.cells ((keysL L nn n).flatten.map by8)] [] (fun ex fr H _=>qq23 Q ex fr H):=by
 refine(vcl23 bz0 oz0 of1 hf0 ks hc (nn.map by8) (hash.map by8) ((pktL L hs nn hash i).map by8) ((keysL L nn n).flatten.map by8) n c e kn kc ke (Int.ofNat i) Q).mpr ?_
 obtain⟨x0,l0⟩:=h.peel hi
 have hkl:=h.kl
 have hkn:=h.kn
 have h8:=h.n8
 have hh:=h.hash
 have hl:i<L.length:=by rw[h.sh.1]; exact hi
 obtain⟨hk32,hks0⟩:=h.sh.2 i L[i] (List.getElem?_eq_getElem hl)
 have hgd:L.getD i []=L[i]:=by rw[List.getD_eq_getElem?_getD,List.getElem?_eq_getElem hl]; rfl
 have hks:ops0.ext ks (0+i*32) 32=L[i].map by8:=by rw[nExt]; exact hks0
 have hkg:=qo3 (L:=L) (nn:=nn) hi
 rw[hgd] at x0 hkg
 have hhl:i<hs.length:=by rw[h.hp.1]; exact hi
 obtain⟨q1,q2⟩:=h.hp.2 i hs[i] (List.getElem?_eq_getElem hhl)
 have hhg:hs.getD i hop0=hs[i]:=by rw[List.getD_eq_getElem?_getD,List.getElem?_eq_getElem hhl]; rfl
 have hroom:=h.hp.len hi
 rw[hhg] at x0
 generalize hs[i]=hop at q1 q2 x0
 generalize L[i]=key at hk32 hks x0 hkg
 have hex:ops0.ext hc (0+i*101) 101=hopC hop:=by rw[nExt,Nat.zero_add]; exact q2
 have n32:=qpz h.nn i
 have hcut:sl (pktL L hs nn hash i) 0 32=nonL nn i:=by unfold pktL;exact qc5 n32
 have hky:kyI of1 oz0 ks ((pktL L hs nn hash i).map by8) (Int.ofNat i)=(atL key (nonL nn i)).map by8:=by
  unfold kyI
  rw[nAdr,hks,qyh,hcut]
  exact qgj _ _
 have ha:=at_32 key (nonL nn i)
 have hK:ops0.ext ((keysL L nn n).flatten.map by8) (0+i*32) 32=(atL key (nonL nn i)).map by8:=by
  rw[nExt,Nat.zero_add]
  refine qe2 (qex L nn n) ?_
  have hkl2:i<(keysL L nn n).length:=by rw[qcm]; exact hi
  rw[List.getElem?_eq_getElem hkl2]
  rw[List.getD_eq_getElem?_getD,List.getElem?_eq_getElem hkl2] at hkg
  exact congrArg some hkg
 have hKl:((keysL L nn n).flatten.map by8).length=n*32:=by rw[List.length_map,qdb (qex L nn n),qcm]
 have hgo:goI bz0 ks (hash.map by8) ((pktL L hs nn hash i).map by8) (Int.ofNat i)=decide ((peelX key (pktL L hs nn hash i) hash).2.2 ≠ []):=by
  unfold goI
  rw[nAdr,hks,qa5 hh,rdW l0]
  show decide ((peelX (qag _) _ (qag _)).2.2 ≠ [])=_
  rw[qab,qab]
 have hhp:hpI bz0 ks (hash.map by8) ((pktL L hs nn hash i).map by8) (Int.ofNat i)=hopC (peelX key (pktL L hs nn hash i) hash).2.1:=by
  unfold hpI
  rw[nAdr,hks,qa5 hh,rdW l0]
  show hopC (peelX (qag _) _ (qag _)).2.1=_
  rw[qab,qab]
 have hnx:nxI bz0 ks (hash.map by8) ((pktL L hs nn hash i).map by8) (Int.ofNat i)=(peelX key (pktL L hs nn hash i) hash).2.2.map by8:=by
  unfold nxI
  rw[nAdr,hks,qa5 hh,rdW l0]
  show(peelX (qag _) _ (qag _)).2.2.map by8=_
  rw[qab,qab]
 have her:erI bz0 ks (hash.map by8) ((pktL L hs nn hash i).map by8) (Int.ofNat i)=(peelX key (pktL L hs nn hash i) hash).1:=by
  unfold erI
  rw[nAdr,hks,qa5 hh,rdW l0]
  show(peelX (qag _) _ (qag _)).1=_
  rw[qab,qab]
 have p63:P63 (key.map by8) ((pktL L hs nn hash i).map by8) 0 2112 (hash.map by8):=⟨pkey _ hk32,qbz _ 2112 l0.symm (by omega),pkey _ hh⟩
 have c1:=qa8 q1
 have s1:=qfg q1
 have s2:=qhg q1
 have a0:ops0.ext (hopC hop) 0 1=List.map (AV.int .i64) [hop.ch]:=rfl
 have a1:ops0.ext (hopC hop) 1 1=List.map (AV.int .i64) [hop.am]:=rfl
 have a2:ops0.ext (hopC hop) 2 1=List.map (AV.int .i64) [hop.ex]:=rfl
 obtain⟨a3,a4,a5,a6,a7⟩:=qin q1
 have ak:ops0.ext ((atL key (nonL nn i)).map by8) 0 32=List.map (AV.int .u8) ((atL key (nonL nn i)).map fun b=>Int.ofNat b.toNat):=by rw[qa5 ha,qfw]
 have oT0:∀ b,own (.tup [.agg (hopC hop),.slc b 0 2112 2112 1,.int .i64 (Int.ofNat 0)])=true:=fun b=>qeg hop _ _ rfl
 have oN:own (.tup [.agg (hopC hop),.nils,.int .i64 0])=true:=qeg hop _ _ rfl
 have nk:∀ m,nm m (.agg (key.map by8))=true:=fun m=>nmB8 m key
 have nh:∀ m,nm m (.agg (hash.map by8))=true:=fun m=>nmB8 m hash
 have nH:∀ m,nmB m (.cells (hopC hop))=true:=fun m=>qn1 m hop
 have oH:ownB (.cells (hopC hop))=true:=qig hop
 have esub:ops0.bin .sub .i64 (Int.ofNat n) (Int.ofNat 1)=Int.ofNat (n - 1):=nSub (by omega) (by omega)
 rw[hgo,hhp,hnx,her,hky,qa5 hh,nAdr,nAdr,hks,hex,hK,spl32 ha,qa5 ha,x0,add1 (by omega),nOfn,nLss,esub,nEql,nInr,nInr]
 refine Br.t (decide_eq_true hi) ?_
 by_cases hlast:i+1=n
 ·rw[if_pos hlast]
  have hd:decide (([]:List UInt8) ≠ [])=false:=rfl
  simp only[hd,br_ff,qbl,nLe,nPlus,nLen,nEq,hkl,hKl,List.length_map,h.nn,hh,ha,c1,s1,s2,oN,nk,nh,nmB8,ownB8,nH,oH,decide_eq_true_eq,true_and]
  simp only[Nat.reduceLeDiff,Nat.le_refl,true_and]
  repeat' with_reducible apply And.intro
  any_goals first|exact True.intro|exact p63|exact pkey _ hk32|exact qbz _ 2112 l0.symm (by omega)|omega
  refine⟨_,ak,_,ak,?_⟩; rw[nEqi]; refine⟨decide_eq_true rfl,?_⟩
  refine⟨by omega,by omega,?_⟩
  refine⟨_,a0,_,a0,?_⟩; rw[nEqi]; refine⟨decide_eq_true rfl,?_⟩
  refine⟨_,a1,_,a1,?_⟩; rw[nEqi]; refine⟨decide_eq_true rfl,?_⟩
  refine⟨_,a2,_,a2,?_⟩; rw[nEqi]; refine⟨decide_eq_true rfl,?_⟩
  refine⟨_,a3,_,a3,?_⟩; rw[nEqi]; refine⟨decide_eq_true rfl,?_⟩
  refine⟨_,a4,_,a4,?_⟩; rw[nEqi]; refine⟨decide_eq_true rfl,?_⟩
  refine⟨_,a5,_,a5,?_⟩; rw[nEqi]; refine⟨decide_eq_true rfl,?_⟩
  refine⟨_,a6,_,a6,?_⟩; rw[nEqi]; refine⟨decide_eq_true rfl,?_⟩
  refine⟨_,a7,_,a7,?_⟩; rw[nEqi]; refine⟨decide_eq_true rfl,?_⟩
  exact⟨by omega,hq1 hlast _ _⟩
 ·rw[if_neg hlast]
  obtain⟨_,l1⟩:=h.peel (i:=i+1) (by omega)
  have hne:pktL L hs nn hash (i+1) ≠ []:=fun h=>by rw[h] at l1;cases l1
  have hd:decide (pktL L hs nn hash (i+1) ≠ [])=true:=decide_eq_true hne
  simp only[hd,br_tt,qbl,nLe,nPlus,nLen,nEq,hkl,hKl,List.length_map,h.nn,hh,ha,c1,s1,s2,oT0,nk,nh,nmB8,ownB8,nH,oH,l1,decide_eq_true_eq,true_and]
  simp only[Nat.reduceLeDiff,Nat.le_refl,true_and]
  repeat' with_reducible apply And.intro
  any_goals first|exact True.intro|exact p63|exact pkey _ hk32|exact qbz _ 2112 l0.symm (by omega)|omega
  refine⟨_,ak,_,ak,?_⟩; rw[nEqi]; refine⟨decide_eq_true rfl,?_⟩
  refine⟨by omega,by omega,?_⟩
  refine⟨_,a0,_,a0,?_⟩; rw[nEqi]; refine⟨decide_eq_true rfl,?_⟩
  refine⟨_,a1,_,a1,?_⟩; rw[nEqi]; refine⟨decide_eq_true rfl,?_⟩
  refine⟨_,a2,_,a2,?_⟩; rw[nEqi]; refine⟨decide_eq_true rfl,?_⟩
  refine⟨_,a3,_,a3,?_⟩; rw[nEqi]; refine⟨decide_eq_true rfl,?_⟩
  refine⟨_,a4,_,a4,?_⟩; rw[nEqi]; refine⟨decide_eq_true rfl,?_⟩
  refine⟨_,a5,_,a5,?_⟩; rw[nEqi]; refine⟨decide_eq_true rfl,?_⟩
  refine⟨_,a6,_,a6,?_⟩; rw[nEqi]; refine⟨decide_eq_true rfl,?_⟩
  refine⟨_,a7,_,a7,?_⟩; rw[nEqi]; refine⟨decide_eq_true rfl,?_⟩
  refine Br.f (decide_eq_false (by omega)) ?_
  exact hq2 hlast _ _
end
end
end Go.Proofs.Vm

namespace Go.Proofs.Vm
set_option maxRecDepth 100000
open Go.Vm
noncomputable section
def PW23(ks:List AV)(kn:Nat)(hc:List AV)(n:Nat)(ns hx ps kcs:List AV):Prop:=∃ L hs nn hash,W22 ks kn hc n L hs nn hash/\ns=nn.map by8/\hx=hash.map by8/\ps=(pktL L hs nn hash 0).map by8/\kcs=(keysL L nn n).flatten.map by8
structure LF where
 last:List AV->Nat->List AV->Nat->List AV->List AV->List AV
def ln23(F:LF):LnF:=fun n0 b fr H=>match slot fr 0,slot fr 1,slot fr 9,H with
 | .ros ks 0 kn kc ke,.ros hc 0 n c e,.slc _ _ _ _ _,[.cells ns,.cells hs,.cells ps,.cells kcs] =>
  some (n0=0/\VCis b lp23/\forget mk23 fr=fr23 ks hc n c e kn kc ke (.slc 2 0 2112 2112 1) 0/\PW23 ks kn hc n ns hs ps kcs,.ok (.exit 0) (fr23 ks hc n c e kn kc ke .nils (Int.ofNat n)) [.cells ns,.cells hs,.cells (F.last ks kn hc n ns hs),.cells kcs])
 | _,_,_,_=>none
theorem q1l(B:BZ)(Z:OZ)(O:OY)(F:HF)(ks hc ns hs ps kcs:List AV)(n c:Nat)(e:Bool)(kn kc:Nat)(ke:Bool)(i:Int)(Q:Ex->Fr->Hl->Prop) :
  (vm (vcA kdS (cnO6 B Z O F) noLn) ops0 noTab 100 0 lp23 (fr23 ks hc n c e kn kc ke .nils i) [.cells ns,.cells hs,.cells ps,.cells kcs] [] (bodyX mk23 Q)) =
 ((Br (ops0.cmp .lss i (ops0.ofn n))
 (Chk (ops0.inr i kn)
 (Chk (ops0.le (ops0.add (ops0.adr 0 i 32) 32) (ops0.len ks))
 False))
 (Q (Ex.exit 0) ((.ros ks 0 kn kc ke)::(.ros hc 0 n c e)::tp 5 ((.ptr 1 0) :: .top :: .nils :: .top::(.slc 3 0 kn kn 32)::(.int .i64 i)::tp 92 ([]))) [(.cells ns),(.cells hs),(.cells ps),(.cells kcs)]))):=by kernel_rfl
theorem vc23(B:BZ)(Z:OZ)(O:OY)(F:HF)(G:LF)(ks hc ns hs:List AV)(n c:Nat)(e:Bool)(kn kc:Nat)(ke:Bool)(Q:AV->Prop) :
  (vcall (vcA kdS (cnO6 B Z O F) (ln23 G)) ops0 (qah 23 vf23) 200 vf23 [.ros ks 0 kn kc ke,.ros hc 0 n c e,.agg ns,.agg hs] [] (fun r _ _=>Q r)) =
 ((Chk (ops0.le 32 (ops0.len ns))
 (Chk (ops0.le 32 (ops0.len hs))
 ((P60 ks 0 kn hc n (ops0.ext ns 0 32) (ops0.ext hs 0 32)) /\
 (Br (BZ.gd B hc n kn)
 (((0:Nat)=0) /\
 (Chk (ops0.le 32 (ops0.len ns))
 (((P65 ks 0 kn (ops0.ext ns 0 32)) /\
 (1<=kn)) /\
 (Br (ops0.cmp .neq (ops0.ofn kn) (ops0.ofn kn))
 (Q (.bool Bool.false))
 ((((0:Nat)=0) /\
 ((VCis lp23 lp23) /\
 (((((.ros ks 0 kn kc ke)::(.ros hc 0 n c e)::tp 5 ((.ptr 1 0) :: .top::(.slc 2 0 2112 2112 1) :: .top::(.slc 3 0 kn kn 32)::(.int .i64 (.ofNat 0))::tp 92 ([]))):Fr)=((.ros ks 0 kn kc ke)::(.ros hc 0 n c e)::tp 5 ((.ptr 1 0) :: .top::(.slc 2 0 2112 2112 1) :: .top::(.slc 3 0 kn kn 32)::(.int .i64 (.ofNat 0))::tp 92 ([])))) /\
 (PW23 ks kn hc n ns hs (BZ.bl B ks 0 hc n (ops0.ext ns 0 32) (ops0.ext hs 0 32)) (OZ.keys Z (ops0.ext ns 0 32) ks 0 kn))))) /\
 (Q (.bool Bool.true)))))))
 (((0:Nat)=0) /\
 (Q (.bool Bool.true)))))))):=by kernel_rfl
theorem qvi{σ:Nat->Option Nat}{φ:Nat->Option (List AV)}(h1:σ 1=some 1)(h3:σ 3=some 3)(h5:σ 5=some 2){ks hc:List AV}(hk:flatL ks)(hh:flatL hc)(n c:Nat)(e:Bool)(kn kc:Nat)(ke:Bool)(i:Int) :
  forget mk23 (renL σ φ true (fr23 ks hc n c e kn kc ke (.slc 5 0 2112 2112 1) i))=fr23 ks hc n c e kn kc ke (.slc 2 0 2112 2112 1) i:=by
 unfold fr23 mk23
 simp only[renL,ren,h1,h3,h5,forget,qaa hk,qaa hh]
theorem qvz{σ:Nat->Option Nat}{φ:Nat->Option (List AV)}(h1:σ 1=some 1)(h3:σ 3=some 3){ks hc:List AV}(hk:flatL ks)(hh:flatL hc)(n c:Nat)(e:Bool)(kn kc:Nat)(ke:Bool)(i:Int) :
  forget mk23 (renL σ φ true (fr23 ks hc n c e kn kc ke .nils i))=fr23 ks hc n c e kn kc ke .nils i:=by
 unfold fr23 mk23
 simp only[renL,ren,h1,h3,forget,qaa hk,qaa hh]
theorem q38{P:Program}{g:Kd->Bool}{C:CnF}(hC:CnOK P C){E:LnF}(hE:LnOK P E){T:Nat->Option VF}(hT:∀ f vf,T f=some vf->FnOK P f vf){n n0:Nat}{b:VC}{fr fr0:Fr}{H H0:Hl}{ex0:Ex}{Q:Ex->Fr->Hl->Prop}
  (h:vm (vcA g C E) ops0 T n n0 b fr H [] fun ex fr H _=>Q ex fr H) (h0:n0<=H.length) (hw:∀ ex fr1 H1,n0<=H1.length->Q ex fr1 H1->ex=ex0/\Weak n0 fr1 H1 fr0 H0):qap P n0 b fr H ex0 fr0 H0:=by
 intro c hc
 subst hc
 obtain⟨ex,fr1,H1,lg1,hg,e⟩:=(qdy (qct hC hE) hT n).1 c n0 fr H [] _ h0 h
 obtain⟨rfl,hk⟩:=hw ex fr1 H1 hg.grow e
 exact⟨_,hg.post hk⟩
section
variable {ks hc:List AV}{kn n:Nat}{L:List (List UInt8)}{hs:List Hop}{nn hash:List UInt8}
def hp23(L:List (List UInt8))(hs:List Hop)(nn hash:List UInt8)(n i:Nat):Hl := [.cells (nn.map by8),.cells (hash.map by8),.cells ((pktL L hs nn hash i).map by8),.cells ((keysL L nn n).flatten.map by8)]
theorem q39(h:W22 ks kn hc n L hs nn hash)(c:Nat)(e:Bool)(kc:Nat)(ke:Bool){i:Nat}(hi:i<n) :
  qap Try.prog 0 lp23 (fr23 ks hc n c e kn kc ke (.slc 2 0 2112 2112 1) (Int.ofNat i)) (hp23 L hs nn hash n i) .norm
   (if i+1=n then fr23 ks hc n c e kn kc ke .nils (Int.ofNat (i+1)) else fr23 ks hc n c e kn kc ke (.slc 2 0 2112 2112 1) (Int.ofNat (i+1)))
   (if i+1=n then hp23 L hs nn hash n i else hp23 L hs nn hash n (i+1)):=by
 have hv:=vm23 h c e kc ke hi (fun ex fr H=>ex = .norm/\((i+1=n/\∃ X Y,fr=fr23 ks hc n c e kn kc ke .nils (Int.ofNat (i+1))/\H=hp23 L hs nn hash n i ++ [.cells X,.cells Y]) ∨
   (i+1≠n/\∃ X Y,fr=fr23 ks hc n c e kn kc ke (.slc 5 0 2112 2112 1) (Int.ofNat (i+1))/\H=hp23 L hs nn hash n i ++ [.cells X,.cells ((pktL L hs nn hash (i+1)).map by8),.cells Y])))
  (fun hl X Y=>⟨rfl,.inl ⟨hl,X,Y,rfl,rfl⟩⟩) (fun hl X Y=>⟨rfl,.inr ⟨hl,X,Y,rfl,rfl⟩⟩)
 refine q38 qno (qai _) (qak _) hv (by simp) fun ex fr1 H1 h0 hq => ?_
 cases ex with
 | ret=>exact hq.elim
 | exit id=>obtain⟨he,_⟩:Ex.exit id = .norm/\_:=hq;cases he
 | norm =>
  obtain⟨_,hq⟩:Ex.norm = .norm/\_:=hq
  refine⟨rfl,(Weak.forget (by simp) mk23).trans ?_⟩
  rcases hq with ⟨hl,X,Y,e1,rfl⟩|⟨hl,X,Y,e1,rfl⟩
  ·rw[e1,if_pos hl,if_pos hl]
   have h3:=Weak.pickV (n0:=0) (fr:=fr23 ks hc n c e kn kc ke .nils (Int.ofNat (i+1))) (H:=hp23 L hs nn hash n i ++ [.cells X,.cells Y]) [0,1,2,3] mk23 0 (by simp) (by simp[hp23]) (by simp)
   rw[qvz (show pickN [0,1,2,3] 1=some 1 from rfl) (show pickN [0,1,2,3] 3=some 3 from rfl) h.kf h.hf] at h3
   have e4:pickH (viewF (hp23 L hs nn hash n i ++ [.cells X,.cells Y]) [0,1,2,3] 0) [0,1,2,3] (hp23 L hs nn hash n i ++ [.cells X,.cells Y])=hp23 L hs nn hash n i:=by
    show [renB _ _ true (.cells _),renB _ _ true (.cells _),renB _ _ true (.cells _),renB _ _ true (.cells _)]=_
    simp only[renB,qaa (qac _),hp23]
   rw[e4] at h3
   exact h3
  ·rw[e1,if_neg hl,if_neg hl]
   have h3:=Weak.pickV (n0:=0) (fr:=fr23 ks hc n c e kn kc ke (.slc 5 0 2112 2112 1) (Int.ofNat (i+1))) (H:=hp23 L hs nn hash n i ++ [.cells X,.cells ((pktL L hs nn hash (i+1)).map by8),.cells Y]) [0,1,5,3] mk23 0 (by simp) (by simp[hp23]) (by simp)
   rw[qvi (show pickN [0,1,5,3] 1=some 1 from rfl) (show pickN [0,1,5,3] 3=some 3 from rfl) (show pickN [0,1,5,3] 5=some 2 from rfl) h.kf h.hf] at h3
   have e4:pickH (viewF (hp23 L hs nn hash n i ++ [.cells X,.cells ((pktL L hs nn hash (i+1)).map by8),.cells Y]) [0,1,5,3] 0) [0,1,5,3] (hp23 L hs nn hash n i ++ [.cells X,.cells ((pktL L hs nn hash (i+1)).map by8),.cells Y])=hp23 L hs nn hash n (i+1):=by
    show [renB _ _ true (.cells _),renB _ _ true (.cells _),renB _ _ true (.cells _),renB _ _ true (.cells _)]=_
    simp only[renB,qaa (qac _),hp23]
   rw[e4] at h3
   exact h3
def lf0:LF:=⟨fun ks _ hc n ns hs=>(pktL (shA ks 0 n) (hsOf hc n) (qag ns) (qag hs) (n - 1)).map by8⟩
theorem q0y:LnOK Try.prog (ln23 lf0):=by
 intro n0 b fr H p x e hn0 hp lg
 unfold ln23 at e
 split at e<;>cases e
 rename_i ks kn kc ke hc n c e b0 o0 m0 c0 z0 ns hx ps kcs h1 h2 h3
 obtain⟨rfl,hb,hf,L,hs,nn,hash,h,rfl,rfl,rfl,rfl⟩:=hp
 have hb:b=lp23:=hb
 subst hb
 refine qam.pre (Weak.forget (by simp) mk23) (fun lg => ?_) lg
 rw[hf]
 have n1:=h.n1
 have el:lf0.last ks kn hc n (nn.map by8) (hash.map by8)=(pktL L hs nn hash (n - 1)).map by8:=by
  show(pktL (shA ks 0 n) (hsOf hc n) (qag (nn.map by8)) (qag (hash.map by8)) (n - 1)).map by8=_
  rw[qcr h.sh,qcs h.hp,qab,qab]
 have hl:=qal (P:=Try.prog) (n0:=0) (b:=lp23) (ex := .exit 0) (fr':=fr23 ks hc n c e kn kc ke .nils (Int.ofNat n)) (H':=hp23 L hs nn hash n (n - 1)) (by intro h;cases h)
  (fun i=>(if i=n then fr23 ks hc n c e kn kc ke .nils (Int.ofNat i) else fr23 ks hc n c e kn kc ke (.slc 2 0 2112 2112 1) (Int.ofNat i),if i=n then hp23 L hs nn hash n (n - 1) else hp23 L hs nn hash n i)) n 0 (fun i _ hi => ?_) ?_ lg
 ·simp only[if_neg (show ¬ 0=n by omega)] at hl
  show qam Try.prog 0 lp23 _ _ lg (.exit 0) _ [.cells _,.cells _,.cells (lf0.last ks kn hc n (nn.map by8) (hash.map by8)),.cells _] _
  rw[el]
  exact hl
 ·have hb:=q39 h c e kc ke (i:=i) (by omega)
  simp only[if_neg (show ¬ i=n by omega)]
  by_cases hl:i+1=n
  ·have e1:n - 1=i:=by omega
   rw[if_pos hl,if_pos hl] at hb
   rw[if_pos hl,if_pos hl,e1]
   exact hb
  ·rw[if_neg hl,if_neg hl] at hb
   rw[if_neg hl,if_neg hl]
   exact hb
 ·rw[Nat.zero_add]
  simp only[if_pos]
  refine qa2 qno (qai _) (qak _) (n:=100) (g:=kdS) (bs:=mk23) ?_ (by simp)
  unfold hp23
  rw[q1l,nOfn,nLss]
  exact Br.f (decide_eq_false (by omega)) ⟨rfl,rfl,rfl⟩
end
theorem law23{ks hc:List AV}{n kn:Nat}(c:Nat)(e:Bool)(kc:Nat)(ke:Bool){hs:List Hop}{nn hash:List UInt8}(hk:PSh ks 0 kn)(hkl:ks.length=kn*32)(hP:PHs hc n)(hp:HpAt hc n hs)(h6:∀ h,h∈hs->h.i64)(hnn:nn.length=32)(hh:hash.length=32) :
  ∃ H' lg,CallTo Try.prog 23 [.ros ks 0 kn kc ke,.ros hc 0 n c e,.agg (nn.map by8),.agg (hash.map by8)] [] (.bool true) H' lg:=by
 have hv:=vc23 bz0 oz0 of1 hf0 lf0 ks hc (nn.map by8) (hash.map by8) n c e kn kc ke (fun r=>r = .bool true)
 have h60:P60 ks 0 kn hc n (nn.map by8) (hash.map by8):=⟨hk,hP,pkey _ hnn,pkey _ hh⟩
 rw[qa5 hnn,qa5 hh] at hv
 have hq:=hv.mpr (by
  refine Chk.mk (by rw[nLe,nLen,List.length_map,hnn]; rfl) (Chk.mk (by rw[nLe,nLen,List.length_map,hh]; rfl) ⟨h60,?_⟩)
  cases hg:goodB (hsOf hc n) n kn with
  | false =>
   have hz:bz0.gd hc n kn=false:=hg
   rw[hz]
   exact⟨rfl,rfl⟩
  | true =>
   have hz:bz0.gd hc n kn=true:=hg
   obtain⟨g1,g8,rfl,gok⟩:=qft.1 hg
   obtain⟨L,hL⟩:=hk.2.2.2
   rw[qcs hp] at gok
   have ek:oz0.keys (nn.map by8) ks 0 kn=(keysL L nn kn).flatten.map by8:=by
    show(keysL (shA ks 0 kn) (qag (nn.map by8)) kn).flatten.map by8=_
    rw[qcr hL,qab]
   rw[hz,bl_eq (kn:=kn) hp hL,<-qhb,ek]
   refine⟨rfl,Chk.mk (by rw[nLe,nLen,List.length_map,hnn]; rfl) ⟨⟨⟨hk,by omega,pkey _ hnn⟩,g1⟩,Br.f (by rw[nOfn,nNeq]; simp) ⟨⟨rfl,rfl,rfl,L,hs,nn,hash,⟨rfl,hL,hk.1,hkl,hp,hP.1,h6,g1,g8,gok,hnn,hh⟩,rfl,rfl,rfl,rfl⟩,rfl⟩⟩⟩)
 obtain⟨r,H',lg,hc2,rfl⟩:=qcu qno q0y (qaj ok23) (qad 23 vf23) hq
 exact⟨H',lg,hc2⟩
end
end Go.Proofs.Vm
