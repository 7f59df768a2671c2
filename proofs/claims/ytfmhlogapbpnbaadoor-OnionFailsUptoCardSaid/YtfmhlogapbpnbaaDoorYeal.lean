/-
  ONION, PART 13: the rounds in which a packet is built.
-/
import Derived.Test.YtfmhlogapbpnbaaDoorYeak
import Derived.Test.YtfmhlogapbpnbaaDoorYeaj
set_option linter.unusedVariables false
set_option linter.unusedSimpArgs false
set_option linter.unusedSectionVars false

namespace Go.Proofs.Vm
set_option maxRecDepth 100000
open Go.Vm
noncomputable section
def as60:VC:=(.seq (.reg .false [] [⟨(.some 17),.none,.mov,[(.t 61)]⟩]) (.reg .false [] [⟨(.some 18),.none,(.alloc [(.int .u8 (.ofNat 0)),(.int .u8 (.ofNat 0)),(.int .u8 (.ofNat 0)),(.int .u8 (.ofNat 0)),(.int .u8 (.ofNat 0)),(.int .u8 (.ofNat 0)),(.int .u8 (.ofNat 0)),(.int .u8 (.ofNat 0)),(.int .u8 (.ofNat 0)),(.int .u8 (.ofNat 0)),(.int .u8 (.ofNat 0)),(.int .u8 (.ofNat 0)),(.int .u8 (.ofNat 0)),(.int .u8 (.ofNat 0)),(.int .u8 (.ofNat 0)),(.int .u8 (.ofNat 0)),(.int .u8 (.ofNat 0)),(.int .u8 (.ofNat 0)),(.int .u8 (.ofNat 0)),(.int .u8 (.ofNat 0)),(.int .u8 (.ofNat 0)),(.int .u8 (.ofNat 0)),(.int .u8 (.ofNat 0)),(.int .u8 (.ofNat 0)),(.int .u8 (.ofNat 0)),(.int .u8 (.ofNat 0)),(.int .u8 (.ofNat 0)),(.int .u8 (.ofNat 0)),(.int .u8 (.ofNat 0)),(.int .u8 (.ofNat 0)),(.int .u8 (.ofNat 0)),(.int .u8 (.ofNat 0))]),[]⟩,⟨.none,.none,(.stn 32),[(.t 18),(.t 62)]⟩]))
def bd60:VC:=(.block 3 (.seq (.reg .true [0,0,0,6,14,0,62,0,128,510,1023,2047] [⟨(.some 63),.none,(.ldn 32),[(.t 18)]⟩,⟨(.some 64),.none,(.ld1 .slc),[(.t 5)]⟩,⟨(.some 65),.none,.mov,[(.t 17)]⟩,⟨(.some 66),.none,(.ixS 101),[(.t 64),(.t 65)]⟩,⟨(.some 67),.none,(.ldn 101),[(.t 66)]⟩,⟨(.some 68),.none,(.ldn 32),[(.t 16)]⟩,⟨(.some 69),.none,(.call 40),[(.t 67),(.t 68)]⟩,⟨(.some 70),.none,(.ld1 .slc),[(.t 15)]⟩,⟨(.some 71),.none,(.slS 1 .false .true .false),[(.t 70),(.c (.int .i64 (.ofNat 1792)))]⟩,⟨(.some 72),.none,(.app 1 1),[(.t 69),(.t 71)]⟩,⟨(.some 73),.none,(.call 39),[(.t 63),(.t 72)]⟩,⟨.none,.none,.st1,[(.t 15),(.t 73)]⟩]) (.seq (.seq (.reg .false [] [⟨(.some 74),.none,.mov,[(.t 17)]⟩,⟨(.some 75),.none,(.ld1 (.int .i64)),[(.t 10)]⟩,⟨(.some 76),.none,(.cmp .eql),[(.t 74),(.t 75)]⟩]) (.cond (.t 76) (.reg .true [0,0,2,6,15,0,63] [⟨(.some 77),.none,(.ld1 .slc),[(.t 15)]⟩,⟨(.some 78),.none,(.ld1 .slc),[(.t 14)]⟩,⟨(.some 79),.none,.len,[(.t 78)]⟩,⟨(.some 80),.none,(.bin .sub .i64),[(.c (.int .i64 (.ofNat 2048))),(.t 79)]⟩,⟨(.some 81),.none,(.slS 1 .true .false .false),[(.t 77),(.t 80)]⟩,⟨(.some 82),.none,(.ld1 .slc),[(.t 14)]⟩,⟨(.some 83),.none,(.cpy 1),[(.t 81),(.t 82)]⟩]) .skip)) (.reg .false [] [⟨(.some 84),.none,(.ldn 32),[(.t 18)]⟩,⟨(.some 85),.none,(.ld1 .slc),[(.t 15)]⟩,⟨(.some 86),.none,(.ldn 32),[(.t 7)]⟩,⟨(.some 87),.none,(.call 41),[(.t 84),(.t 85),(.t 86)]⟩,⟨.none,.none,(.stn 32),[(.t 16),(.t 87)]⟩]))))
def H60(hc:List AV)(n c:Nat)(e:Bool)(ns hs:List AV)(m:Int)(kcs:List AV)(xe:AV)(nx bd:List AV):Hl :=
 [.cells [.ros hc 0 n c e],.cells ns,.cells hs,.cells [.int .i64 m],.cells kcs,.cells [xe],.cells [.slc 9 0 2048 2048 1],.cells nx,.cells [.slc 4 0 n n 32],.cells bd]
def fr60(i:Int)(ks:List AV):Fr := [.top,.top,.top,.top,.top,.ptr 0 0,.ptr 1 0,.ptr 2 0,.top,.top,.ptr 3 0,.top,.top,.top,.ptr 5 0,.ptr 6 0,.ptr 7 0,.top,.top,.top,.top,.top,.top,.top,.top,.top,.top,.top,.top,.top,.top,.top,.top,.top,.top,.top,.top,.top,.top,.top,.top,.top,.top,.top,.top,.top,.top,.top,.top,.top,.top,.top,.top,.top,.top,.top,.top,.top,.top,.top,.top,.int .i64 i,.agg ks,.top,.top,.top,.top,.top,.top,.top,.top,.top,.top,.top,.top,.top,.top,.top,.top,.top,.top,.top,.top,.top,.top,.top,.top,.top,.top,.top,.top,.top]
def fr60b(i:Int)(ks:List AV):Fr := [.top,.top,.top,.top,.top,.ptr 0 0,.ptr 1 0,.ptr 2 0,.top,.top,.ptr 3 0,.top,.top,.top,.ptr 5 0,.ptr 6 0,.ptr 7 0,.int .i64 i,.ptr 10 0,.top,.top,.top,.top,.top,.top,.top,.top,.top,.top,.top,.top,.top,.top,.top,.top,.top,.top,.top,.top,.top,.top,.top,.top,.top,.top,.top,.top,.top,.top,.top,.top,.top,.top,.top,.top,.top,.top,.top,.top,.top,.top,.int .i64 i,.agg ks,.top,.top,.top,.top,.top,.top,.top,.top,.top,.top,.top,.top,.top,.top,.top,.top,.top,.top,.top,.top,.top,.top,.top,.top,.top,.top,.top,.top,.top]
theorem vra60(Z:OZ)(O:OY)(F:HF)(H0:Blk)(H1 H2 H3 H4 H5 H6 H7 H8 H9:Blk)(i:Int)(ks:List AV)(Q:Ex→Fr→Hl→Prop) :
  (vm (vcA kdS (cnO2 Z O F) noLn) ops0 tabF 100 9 as60 (fr60 i ks) [H0,H1,H2,H3,H4,H5,H6,H7,H8,H9] [] (fun ex fr H _=>Q ex fr H)) =
 ((Chk (ops0.eq (ops0.len ks) 32)
 (Q Ex.norm [AV.top,AV.top,AV.top,AV.top,AV.top,(AV.ptr 0 0),(AV.ptr 1 0),(AV.ptr 2 0),AV.top,AV.top,(AV.ptr 3 0),AV.top,AV.top,AV.top,(AV.ptr 5 0),(AV.ptr 6 0),(AV.ptr 7 0),(AV.int IntKind.i64 i),(AV.ptr 10 0),AV.top,AV.top,AV.top,AV.top,AV.top,AV.top,AV.top,AV.top,AV.top,AV.top,AV.top,AV.top,AV.top,AV.top,AV.top,AV.top,AV.top,AV.top,AV.top,AV.top,AV.top,AV.top,AV.top,AV.top,AV.top,AV.top,AV.top,AV.top,AV.top,AV.top,AV.top,AV.top,AV.top,AV.top,AV.top,AV.top,AV.top,AV.top,AV.top,AV.top,AV.top,AV.top,(AV.int IntKind.i64 i),(AV.agg ks),AV.top,AV.top,AV.top,AV.top,AV.top,AV.top,AV.top,AV.top,AV.top,AV.top,AV.top,AV.top,AV.top,AV.top,AV.top,AV.top,AV.top,AV.top,AV.top,AV.top,AV.top,AV.top,AV.top,AV.top,AV.top,AV.top,AV.top,AV.top,AV.top] [H0,H1,H2,H3,H4,H5,H6,H7,H8,H9,(Blk.cells (ops0.spl (z8 32) 0 ks))]))):=by kernel_rfl
theorem vrb60(Z:OZ)(O:OY)(F:HF)(hc:List AV)(n c:Nat)(e:Bool)(ns hs:List AV)(m:Int)(kcs fc:List AV)(fo fl fcap:Nat)(nx bd ks:List AV)(i:Int)(Q:Ex→Fr→Hl→Prop) :
  (vm (vcA kdS (cnO2 Z O F) noLn) ops0 tabF 100 9 bd60 (fr60b i ks) (join (H60 hc n c e ns hs m kcs (.ros fc fo fl fcap false) nx bd) [.cells ks]) [] (fun ex fr H _=>Q ex fr H)) =
 ((Chk (ops0.le 32 (ops0.len ks))
 (Chk (ops0.inr i n)
 (Chk (ops0.le (ops0.add (ops0.adr 0 i 101) 101) (ops0.len hc))
 (Chk (ops0.le 32 (ops0.len nx))
 (((PHp (ops0.ext hc (ops0.adr 0 i 101) 101)) ∧
 (PKey (ops0.ext nx 0 32))) ∧
 (Chk (ops0.le 256 (ops0.len (OZ.part Z (ops0.ext hc (ops0.adr 0 i 101) 101) (ops0.ext nx 0 32))))
 (Chk (ops0.le 1792 (ops0.len bd))
 (Chk (ops0.le 32 (ops0.len (ops0.ext ks 0 32)))
 (((PKey (ops0.ext (ops0.ext ks 0 32) 0 32)) ∧
 (PB (ops0.app (ops0.ext (OZ.part Z (ops0.ext hc (ops0.adr 0 i 101) 101) (ops0.ext nx 0 32)) 0 256) (ops0.ext bd 0 1792)) 0 2048)) ∧
 (∃ n1:Int,((Nth [(AV.int IntKind.i64 m)] 0 (AV.int IntKind.i64 n1)) ∧
 (Br (ops0.cmp BinOp.eql i n1)
 (Chk (ops0.inb (ops0.bin BinOp.sub IntKind.i64 (Int.ofNat 2048) (ops0.ofn fl)) 2048)
 (Chk (ops0.le (ops0.add (ops0.add 0 (ops0.mul (ops0.nat (ops0.bin BinOp.sub IntKind.i64 (Int.ofNat 2048) (ops0.ofn fl))) 1)) (ops0.mul (ops0.sub 2048 (ops0.nat (ops0.bin BinOp.sub IntKind.i64 (Int.ofNat 2048) (ops0.ofn fl)))) 1)) (ops0.len (HF.mask F (ops0.ext (ops0.ext ks 0 32) 0 32) [98,111,100,121] (rdB (ops0.app (ops0.ext (OZ.part Z (ops0.ext hc (ops0.adr 0 i 101) 101) (ops0.ext nx 0 32)) 0 256) (ops0.ext bd 0 1792)) 0 2048))))
 (Chk (ops0.le (ops0.add fo (ops0.mul fl 1)) (ops0.len fc))
 (Chk (ops0.le 32 (ops0.len ks))
 (Chk (ops0.le 32 (ops0.len hs))
 (((PKey (ops0.ext ks 0 32)) ∧
 ((PKey (ops0.ext hs 0 32)) ∧
 (PBd (ops0.spl (HF.mask F (ops0.ext (ops0.ext ks 0 32) 0 32) [98,111,100,121] (rdB (ops0.app (ops0.ext (OZ.part Z (ops0.ext hc (ops0.adr 0 i 101) 101) (ops0.ext nx 0 32)) 0 256) (ops0.ext bd 0 1792)) 0 2048)) (ops0.add 0 (ops0.mul (ops0.nat (ops0.bin BinOp.sub IntKind.i64 (Int.ofNat 2048) (ops0.ofn fl))) 1)) (ops0.ext (ops0.ext fc fo (ops0.mul fl 1)) 0 (ops0.mul (ops0.min fl (ops0.sub 2048 (ops0.nat (ops0.bin BinOp.sub IntKind.i64 (Int.ofNat 2048) (ops0.ofn fl))))) 1))) 0 2048))) ∧
 (Chk (ops0.eq (ops0.len (OY.btg O (ops0.ext ks 0 32) (rdB (ops0.spl (HF.mask F (ops0.ext (ops0.ext ks 0 32) 0 32) [98,111,100,121] (rdB (ops0.app (ops0.ext (OZ.part Z (ops0.ext hc (ops0.adr 0 i 101) 101) (ops0.ext nx 0 32)) 0 256) (ops0.ext bd 0 1792)) 0 2048)) (ops0.add 0 (ops0.mul (ops0.nat (ops0.bin BinOp.sub IntKind.i64 (Int.ofNat 2048) (ops0.ofn fl))) 1)) (ops0.ext (ops0.ext fc fo (ops0.mul fl 1)) 0 (ops0.mul (ops0.min fl (ops0.sub 2048 (ops0.nat (ops0.bin BinOp.sub IntKind.i64 (Int.ofNat 2048) (ops0.ofn fl))))) 1))) 0 2048) (ops0.ext hs 0 32))) 32)
 (Chk (ops0.le 32 (ops0.len nx))
 (Q Ex.norm [AV.top,AV.top,AV.top,AV.top,AV.top,(AV.ptr 0 0),(AV.ptr 1 0),(AV.ptr 2 0),AV.top,AV.top,(AV.ptr 3 0),AV.top,AV.top,AV.top,(AV.ptr 5 0),(AV.ptr 6 0),(AV.ptr 7 0),(AV.int IntKind.i64 i),(AV.ptr 10 0),AV.top,AV.top,AV.top,AV.top,AV.top,AV.top,AV.top,AV.top,AV.top,AV.top,AV.top,AV.top,AV.top,AV.top,AV.top,AV.top,AV.top,AV.top,AV.top,AV.top,AV.top,AV.top,AV.top,AV.top,AV.top,AV.top,AV.top,AV.top,AV.top,AV.top,AV.top,AV.top,AV.top,AV.top,AV.top,AV.top,AV.top,AV.top,AV.top,AV.top,AV.top,AV.top,(AV.int IntKind.i64 i),(AV.agg ks),(AV.agg (ops0.ext ks 0 32)),(AV.ros hc 0 n c e),(AV.int IntKind.i64 i),(AV.rop hc (ops0.adr 0 i 101)),(AV.agg (ops0.ext hc (ops0.adr 0 i 101) 101)),(AV.agg (ops0.ext nx 0 32)),(AV.slc 11 0 256 256 1),(AV.slc 9 0 2048 2048 1),(AV.slc 9 0 1792 2048 1),(AV.slc 12 0 2048 2048 1),(AV.slc 14 0 2048 2048 1),(AV.int IntKind.i64 i),(AV.int IntKind.i64 n1),(AV.bool Bool.true),(AV.slc 14 0 2048 2048 1),(AV.ros fc fo fl fcap Bool.false),(AV.int IntKind.i64 (ops0.ofn fl)),(AV.int IntKind.i64 (ops0.bin BinOp.sub IntKind.i64 (Int.ofNat 2048) (ops0.ofn fl))),(AV.slc 14 (ops0.add 0 (ops0.mul (ops0.nat (ops0.bin BinOp.sub IntKind.i64 (Int.ofNat 2048) (ops0.ofn fl))) 1)) (ops0.sub 2048 (ops0.nat (ops0.bin BinOp.sub IntKind.i64 (Int.ofNat 2048) (ops0.ofn fl)))) (ops0.sub 2048 (ops0.nat (ops0.bin BinOp.sub IntKind.i64 (Int.ofNat 2048) (ops0.ofn fl)))) 1),(AV.ros fc fo fl fcap Bool.false),(AV.int IntKind.i64 (ops0.ofn (ops0.min fl (ops0.sub 2048 (ops0.nat (ops0.bin BinOp.sub IntKind.i64 (Int.ofNat 2048) (ops0.ofn fl))))))),(AV.agg (ops0.ext ks 0 32)),(AV.slc 14 0 2048 2048 1),(AV.agg (ops0.ext hs 0 32)),(AV.agg (OY.btg O (ops0.ext ks 0 32) (rdB (ops0.spl (HF.mask F (ops0.ext (ops0.ext ks 0 32) 0 32) [98,111,100,121] (rdB (ops0.app (ops0.ext (OZ.part Z (ops0.ext hc (ops0.adr 0 i 101) 101) (ops0.ext nx 0 32)) 0 256) (ops0.ext bd 0 1792)) 0 2048)) (ops0.add 0 (ops0.mul (ops0.nat (ops0.bin BinOp.sub IntKind.i64 (Int.ofNat 2048) (ops0.ofn fl))) 1)) (ops0.ext (ops0.ext fc fo (ops0.mul fl 1)) 0 (ops0.mul (ops0.min fl (ops0.sub 2048 (ops0.nat (ops0.bin BinOp.sub IntKind.i64 (Int.ofNat 2048) (ops0.ofn fl))))) 1))) 0 2048) (ops0.ext hs 0 32))),AV.top,AV.top,AV.top,AV.top] [(Blk.cells [(AV.ros hc 0 n c e)]),(Blk.cells ns),(Blk.cells hs),(Blk.cells [(AV.int IntKind.i64 m)]),(Blk.cells kcs),(Blk.cells [(AV.ros fc fo fl fcap Bool.false)]),(Blk.cells [(AV.slc 14 0 2048 2048 1)]),(Blk.cells (ops0.spl nx 0 (OY.btg O (ops0.ext ks 0 32) (rdB (ops0.spl (HF.mask F (ops0.ext (ops0.ext ks 0 32) 0 32) [98,111,100,121] (rdB (ops0.app (ops0.ext (OZ.part Z (ops0.ext hc (ops0.adr 0 i 101) 101) (ops0.ext nx 0 32)) 0 256) (ops0.ext bd 0 1792)) 0 2048)) (ops0.add 0 (ops0.mul (ops0.nat (ops0.bin BinOp.sub IntKind.i64 (Int.ofNat 2048) (ops0.ofn fl))) 1)) (ops0.ext (ops0.ext fc fo (ops0.mul fl 1)) 0 (ops0.mul (ops0.min fl (ops0.sub 2048 (ops0.nat (ops0.bin BinOp.sub IntKind.i64 (Int.ofNat 2048) (ops0.ofn fl))))) 1))) 0 2048) (ops0.ext hs 0 32)))),(Blk.cells [(AV.slc 4 0 n n 32)]),(Blk.cells bd),(Blk.cells ks),Blk.dead,(Blk.cells (ops0.app (ops0.ext (OZ.part Z (ops0.ext hc (ops0.adr 0 i 101) 101) (ops0.ext nx 0 32)) 0 256) (ops0.ext bd 0 1792))),(Blk.cells (ops0.ext ks 0 32)),(Blk.cells (ops0.spl (HF.mask F (ops0.ext (ops0.ext ks 0 32) 0 32) [98,111,100,121] (rdB (ops0.app (ops0.ext (OZ.part Z (ops0.ext hc (ops0.adr 0 i 101) 101) (ops0.ext nx 0 32)) 0 256) (ops0.ext bd 0 1792)) 0 2048)) (ops0.add 0 (ops0.mul (ops0.nat (ops0.bin BinOp.sub IntKind.i64 (Int.ofNat 2048) (ops0.ofn fl))) 1)) (ops0.ext (ops0.ext fc fo (ops0.mul fl 1)) 0 (ops0.mul (ops0.min fl (ops0.sub 2048 (ops0.nat (ops0.bin BinOp.sub IntKind.i64 (Int.ofNat 2048) (ops0.ofn fl))))) 1))))])))))))))
 (Chk (ops0.le 32 (ops0.len ks))
 (Chk (ops0.le 32 (ops0.len hs))
 (((PKey (ops0.ext ks 0 32)) ∧
 ((PKey (ops0.ext hs 0 32)) ∧
 (PBd (HF.mask F (ops0.ext (ops0.ext ks 0 32) 0 32) [98,111,100,121] (rdB (ops0.app (ops0.ext (OZ.part Z (ops0.ext hc (ops0.adr 0 i 101) 101) (ops0.ext nx 0 32)) 0 256) (ops0.ext bd 0 1792)) 0 2048)) 0 2048))) ∧
 (Chk (ops0.eq (ops0.len (OY.btg O (ops0.ext ks 0 32) (rdB (HF.mask F (ops0.ext (ops0.ext ks 0 32) 0 32) [98,111,100,121] (rdB (ops0.app (ops0.ext (OZ.part Z (ops0.ext hc (ops0.adr 0 i 101) 101) (ops0.ext nx 0 32)) 0 256) (ops0.ext bd 0 1792)) 0 2048)) 0 2048) (ops0.ext hs 0 32))) 32)
 (Chk (ops0.le 32 (ops0.len nx))
 (Q Ex.norm [AV.top,AV.top,AV.top,AV.top,AV.top,(AV.ptr 0 0),(AV.ptr 1 0),(AV.ptr 2 0),AV.top,AV.top,(AV.ptr 3 0),AV.top,AV.top,AV.top,(AV.ptr 5 0),(AV.ptr 6 0),(AV.ptr 7 0),(AV.int IntKind.i64 i),(AV.ptr 10 0),AV.top,AV.top,AV.top,AV.top,AV.top,AV.top,AV.top,AV.top,AV.top,AV.top,AV.top,AV.top,AV.top,AV.top,AV.top,AV.top,AV.top,AV.top,AV.top,AV.top,AV.top,AV.top,AV.top,AV.top,AV.top,AV.top,AV.top,AV.top,AV.top,AV.top,AV.top,AV.top,AV.top,AV.top,AV.top,AV.top,AV.top,AV.top,AV.top,AV.top,AV.top,AV.top,(AV.int IntKind.i64 i),(AV.agg ks),(AV.agg (ops0.ext ks 0 32)),(AV.ros hc 0 n c e),(AV.int IntKind.i64 i),(AV.rop hc (ops0.adr 0 i 101)),(AV.agg (ops0.ext hc (ops0.adr 0 i 101) 101)),(AV.agg (ops0.ext nx 0 32)),(AV.slc 11 0 256 256 1),(AV.slc 9 0 2048 2048 1),(AV.slc 9 0 1792 2048 1),(AV.slc 12 0 2048 2048 1),(AV.slc 14 0 2048 2048 1),(AV.int IntKind.i64 i),(AV.int IntKind.i64 n1),(AV.bool Bool.false),AV.top,AV.top,AV.top,AV.top,AV.top,AV.top,AV.top,(AV.agg (ops0.ext ks 0 32)),(AV.slc 14 0 2048 2048 1),(AV.agg (ops0.ext hs 0 32)),(AV.agg (OY.btg O (ops0.ext ks 0 32) (rdB (HF.mask F (ops0.ext (ops0.ext ks 0 32) 0 32) [98,111,100,121] (rdB (ops0.app (ops0.ext (OZ.part Z (ops0.ext hc (ops0.adr 0 i 101) 101) (ops0.ext nx 0 32)) 0 256) (ops0.ext bd 0 1792)) 0 2048)) 0 2048) (ops0.ext hs 0 32))),AV.top,AV.top,AV.top,AV.top] [(Blk.cells [(AV.ros hc 0 n c e)]),(Blk.cells ns),(Blk.cells hs),(Blk.cells [(AV.int IntKind.i64 m)]),(Blk.cells kcs),(Blk.cells [(AV.ros fc fo fl fcap Bool.false)]),(Blk.cells [(AV.slc 14 0 2048 2048 1)]),(Blk.cells (ops0.spl nx 0 (OY.btg O (ops0.ext ks 0 32) (rdB (HF.mask F (ops0.ext (ops0.ext ks 0 32) 0 32) [98,111,100,121] (rdB (ops0.app (ops0.ext (OZ.part Z (ops0.ext hc (ops0.adr 0 i 101) 101) (ops0.ext nx 0 32)) 0 256) (ops0.ext bd 0 1792)) 0 2048)) 0 2048) (ops0.ext hs 0 32)))),(Blk.cells [(AV.slc 4 0 n n 32)]),(Blk.cells bd),(Blk.cells ks),Blk.dead,(Blk.cells (ops0.app (ops0.ext (OZ.part Z (ops0.ext hc (ops0.adr 0 i 101) 101) (ops0.ext nx 0 32)) 0 256) (ops0.ext bd 0 1792))),(Blk.cells (ops0.ext ks 0 32)),(Blk.cells (HF.mask F (ops0.ext (ops0.ext ks 0 32) 0 32) [98,111,100,121] (rdB (ops0.app (ops0.ext (OZ.part Z (ops0.ext hc (ops0.adr 0 i 101) 101) (ops0.ext nx 0 32)) 0 256) (ops0.ext bd 0 1792)) 0 2048)))]))))))))))))))))))):=by kernel_rfl
noncomputable def c60:Code:=Tryd.f19.body.getD .skip
noncomputable def rfA:Code→Code
 | .rangeFunc _ _ a _=>a
 | c=>c
noncomputable def rfB:Code→Code
 | .rangeFunc _ _ _ b=>b
 | c=>c
noncomputable def rs:Nat→Code→Code
 | 0,c=>c
 | n+1,c=>rs n (rc c)
noncomputable def rf60:Code:=lc (rc (lc (rs 8 c60)))
noncomputable def asg60:Code:=rfA rf60
noncomputable def bod60:Code:=rfB rf60
theorem asg_ok:compile Tryd.prog asg60=as60:=by kernel_rfl
theorem bod_ok:compile Tryd.prog bod60=bd60:=by kernel_rfl
theorem asg_r:okR asg60=true:=by kernel_rfl
theorem bod_r:okR bod60=true:=by kernel_rfl
theorem round_vc{P:Program}{g:Kd→Bool}{C:CnF}(hC:CnOK P C){E:LnF}(hE:LnOK P E){T:Nat→Option VF}(hT:∀ f vf,T f=some vf→FnOK P f vf){n n0 l:Nat}{c:Code}{b:VC}(hcomp:compile P c=b)(hok:okR c=true){fr fr1:Fr}{H H1:Hl}
  (h:vm (vcA g C E) ops0 T n n0 b fr H [] (fun ex fr' H' _=>ex = .norm∧fr'=fr1∧H'=H1)) (h0:n0≤H.length):∃ lg',Goes (c.wpIn (FR l) 0 P) n0 fr H [] .normal fr1 H1 lg':=by
 subst hcomp
 obtain⟨ex,fr',H',lg',hg,rfl,rfl,rfl⟩:=vm_sound_r (vcA_fine hC hE) hT l n c hok n0 fr H [] _ h0 h
 exact⟨lg',hg⟩
theorem round_vcE{P:Program}{g:Kd→Bool}{C:CnF}(hC:CnOK P C){E:LnF}(hE:LnOK P E){T:Nat→Option VF}(hT:∀ f vf,T f=some vf→FnOK P f vf){n n0 l:Nat}{c:Code}{b:VC}(hcomp:compile P c=b)(hok:okR c=true){fr:Fr}{H H1:Hl}
  (h:vm (vcA g C E) ops0 T n n0 b fr H [] (fun ex _ H' _=>ex = .norm∧H'=H1)) (h0:n0≤H.length):∃ fr1 lg',Goes (c.wpIn (FR l) 0 P) n0 fr H [] .normal fr1 H1 lg':=by
 subst hcomp
 obtain⟨ex,fr',H',lg',hg,rfl,rfl⟩:=vm_sound_r (vcA_fine hC hE) hT l n c hok n0 fr H [] _ h0 h
 exact⟨fr',lg',hg⟩
def bstep(L:List (List UInt8))(hs:List Hop)(hash fil:List UInt8)(n:Nat):Nat→List UInt8 × List UInt8
 | 0=>(zs 2048,zs 32)
 | j+1 =>
  let p:=bstep L hs hash fil n j
  let k:=L.getD (n - 1 - j) []
  let m:=maskL k bodyW (partL (hs.getD (n - 1 - j) hop0) p.2++p.1.take 1792)
  let b:=if j=0 then m.take (2048 - fil.length)++fil else m
  (b,btagL k b hash)
def HpAt(hc:List AV)(n:Nat)(hs:List Hop):Prop:=hs.length=n∧∀ (i:Nat) h,hs[i]? = some h→h.L32∧(hc.drop (i*101)).take 101=hopC h
theorem HpAt.len{hc:List AV}{n:Nat}{hs:List Hop}(h:HpAt hc n hs){i:Nat}(hi:i<n):i*101+101≤hc.length:=by
 have hl:i<hs.length:=by rw[h.1]; exact hi
 obtain⟨h1,h2⟩:=h.2 i hs[i] (List.getElem?_eq_getElem hl)
 have:=congrArg List.length h2
 rw[List.length_take,List.length_drop,hopC_length h1] at this
 omega
theorem bstep_length{L:List (List UInt8)}{hs:List Hop}{hash fil:List UInt8}{n:Nat}(hf:fil.length≤2048)(hh:∀ h,h∈hs→h.L32):∀ j,(bstep L hs hash fil n j).1.length=2048∧(bstep L hs hash fil n j).2.length=32
 | 0=>⟨zs_length _,zs_length _⟩
 | j+1=>by
  have ih:=bstep_length (L:=L) (hash:=hash) hf hh j (n:=n)
  have h32:(hs.getD (n - 1 - j) hop0).L32:=by
   rw[List.getD_eq_getElem?_getD]
   cases hq:hs[n - 1 - j]? with
   | none=>exact hop0_32
   | some h=>exact hh h (List.mem_of_getElem? hq)
  have hm:(maskL (L.getD (n - 1 - j) []) bodyW (partL (hs.getD (n - 1 - j) hop0) (bstep L hs hash fil n j).2++(bstep L hs hash fil n j).1.take 1792)).length=2048:=by
   rw[maskL_length,List.length_append,partL_length h32 ih.2,List.length_take,ih.1]
   rfl
  refine⟨?_,btag_32 _ _ _⟩
  show(if j=0 then _ else _:List UInt8).length=_
  split
  ·rw[List.length_append,List.length_take,hm]; omega
  ·exact hm
theorem oz_part{h:Hop}(hl:h.L32)(next:List UInt8):oz0.part (hopC h) (next.map by8)=(partL h next).map by8:=rw_part hl next
theorem spl_mid{a x:List UInt8}{o:Nat}(h:o+x.length=a.length):ops0.spl (a.map by8) o (x.map by8)=(a.take o++x).map by8:=by
 rw[nSpl,←List.map_take,←List.map_drop,List.length_map,List.drop_of_length_le (by omega),List.map_nil,List.append_nil,←List.map_append]
structure In60(hc:List AV)(n:Nat)(kcs fc:List AV)(fo fl:Nat)(hs:List Hop)(L:List (List UInt8))(hash fil:List UInt8):Prop where
 hops:HpAt hc n hs
 flat:flatL hc
 pos:∀ h,h∈hs→h.pos
 keys:kcs=L.flatten.map by8
 len:L.length=n
 l32:∀ x,x∈L→x.length=32
 n8:n≤8
 hash:hash.length=32
 fflat:flatL fc
 fil:BytesAt fc fo fl fil
 froom:fo+fl≤fc.length
 fl_le:fl≤2048
def S60(hc:List AV)(n c:Nat)(e:Bool)(ns:List AV)(kcs fc:List AV)(fo fl fcap:Nat)(hs:List Hop)(L:List (List UInt8))(hash fil:List UInt8)(j:Nat):Hl :=
 H60 hc n c e ns (hash.map by8) (Int.ofNat (n - 1)) kcs (.ros fc fo fl fcap false) ((bstep L hs hash fil n j).2.map by8) ((bstep L hs hash fil n j).1.map by8)
theorem flat_key{L:List (List UInt8)}(h:∀ x,x∈L→x.length=32){i:Nat}{x:List UInt8}(hx:L[i]? = some x):((L.flatten.map by8).drop (i*32)).take 32=x.map by8:=by
 have:=sh_drop [] L i x h hx
 rwa [List.append_nil] at this
theorem round60{hc:List AV}{n c:Nat}{e:Bool}{ns:List AV}{kcs fc:List AV}{fo fl fcap:Nat}{hs:List Hop}{L:List (List UInt8)}{hash fil:List UInt8}(h:In60 hc n kcs fc fo fl hs L hash fil)(hns:flatL ns){j:Nat}(hj:j<n)(l:Nat) :
  ∃ fr1 H1 lg1 fr2 H2 lg2 fr3,Goes (asg60.wpIn (FR l) 0 Tryd.prog) 9 (fr60 (Int.ofNat (n - 1 - j)) ((kcs.drop ((n - 1 - j)*32)).take 32)) (S60 hc n c e ns kcs fc fo fl fcap hs L hash fil j) [] .normal fr1 H1 lg1 ∧
   Goes (bod60.wpIn (FR l) 0 Tryd.prog) 9 fr1 H1 [] .normal fr2 H2 lg2∧Weak 9 fr2 H2 fr3 (S60 hc n c e ns kcs fc fo fl fcap hs L hash fil (j+1)):=by
 obtain⟨hops,hflat,hpos,rfl,hLn,hL32,hn8,hh,hff,hfil,hfr,hfl⟩:=h
 have hfl2:fil.length=fl:=hfil.1
 have hmem:∀ h,h∈hs→h.L32:=fun h hm=>let ⟨i,hi⟩:=List.getElem?_of_mem hm;(hops.2 i h hi).1
 obtain⟨b1,b2⟩:=bstep_length (L:=L) (hs:=hs) (hash:=hash) (fil:=fil) (n:=n) (by omega) hmem j
 have hi:n - 1 - j<n:=by omega
 have hroom:=hops.len hi
 have hix:n - 1 - j<hs.length:=by rw[hops.1]; exact hi
 have hx:=List.getElem?_eq_getElem hix
 obtain⟨q1,q2⟩:=hops.2 (n - 1 - j) _ hx
 have qp:=hpos _ (List.getElem_mem hix)
 have hgh:hs.getD (n - 1 - j) hop0=hs[n - 1 - j]:=by rw[List.getD_eq_getElem?_getD,hx]; rfl
 have hkl:n - 1 - j<L.length:=by rw[hLn]; exact hi
 have hk:=List.getElem?_eq_getElem hkl
 have k1:=hL32 _ (List.getElem_mem hkl)
 have hgk:L.getD (n - 1 - j) []=L[n - 1 - j]:=by rw[List.getD_eq_getElem?_getD,hk]; rfl
 rw[flat_key hL32 hk]
 have hS:bstep L hs hash fil n (j+1)=((if j=0 then(maskL L[n - 1 - j] bodyW (partL hs[n - 1 - j] (bstep L hs hash fil n j).2++(bstep L hs hash fil n j).1.take 1792)).take (2048 - fil.length)++fil else maskL L[n - 1 - j] bodyW (partL hs[n - 1 - j] (bstep L hs hash fil n j).2++(bstep L hs hash fil n j).1.take 1792)),
   btagL L[n - 1 - j] (if j=0 then(maskL L[n - 1 - j] bodyW (partL hs[n - 1 - j] (bstep L hs hash fil n j).2++(bstep L hs hash fil n j).1.take 1792)).take (2048 - fil.length)++fil else maskL L[n - 1 - j] bodyW (partL hs[n - 1 - j] (bstep L hs hash fil n j).2++(bstep L hs hash fil n j).1.take 1792)) hash):=by
  show(_,_)=_
  rw[hgh,hgk]
 generalize hs[n - 1 - j]=hp at q1 q2 qp hS
 generalize L[n - 1 - j]=key at k1 hS
 unfold S60
 rw[hS,hfl2]
 generalize (bstep L hs hash fil n j).1=bd at b1
 generalize (bstep L hs hash fil n j).2=nx at b2
 have m1:(partL hp nx++bd.take 1792).length=2048:=by rw[List.length_append,partL_length q1 b2,List.length_take,b1]; rfl
 have m2:(maskL key bodyW (partL hp nx++bd.take 1792)).length=2048:=by rw[maskL_length,m1]
 generalize hM:maskL key bodyW (partL hp nx++bd.take 1792)=M at m2
 generalize hB:(if j=0 then M.take (2048 - fl)++fil else M)=B
 have m3:B.length=2048:=by
  rw[←hB]
  split
  ·rw[List.length_append,List.length_take,m2,hfl2]; omega
  ·exact m2
 have m4:=btag_32 key B hash
 have s1:=sl_all k1
 have s2:=sl_all b2
 have s3:=sl_all hh
 have s4:=sl_all (partL_length q1 b2)
 have s5:=sl_all m1
 have s6:=sl_all m2
 have s7:=sl_all m3
 have s8:sl bd 0 1792=bd.take 1792:=by unfold sl;rw[List.drop_zero]
 have e1:ops0.ext hc (0+(n - 1 - j)*101) 101=hopC hp:=by rw[nExt,Nat.zero_add]; exact q2
 have pb2048:BytesAt (B.map by8) 0 2048 B:=by have:=bytesAt_whole B;rw[m3] at this;exact this
 have pbd:PBd (B.map by8) 0 2048:=⟨flat_by8 _,by rw[List.length_map,m3]; omega,by omega,_,pb2048⟩
 have hmk:maskL key [98,111,100,121] (partL hp nx++bd.take 1792)=M:=hM
 obtain⟨lg1,g1⟩:=round_vc (P:=Tryd.prog) cnO2_ok (noLn_ok _) tabF_ok (n:=100) (g:=kdS) (l:=l) (n0:=9) (fr1:=fr60b (Int.ofNat (n - 1 - j)) (key.map by8)) (fr:=fr60 (Int.ofNat (n - 1 - j)) (key.map by8))
  (H:=H60 hc n c e ns (hash.map by8) (Int.ofNat (n - 1)) (L.flatten.map by8) (.ros fc fo fl fcap false) (nx.map by8) (bd.map by8))
  (H1:=join (H60 hc n c e ns (hash.map by8) (Int.ofNat (n - 1)) (L.flatten.map by8) (.ros fc fo fl fcap false) (nx.map by8) (bd.map by8)) [.cells (key.map by8)]) asg_ok asg_r (by
   unfold H60
   rw[vra60,spl32 k1]
   exact Chk.mk (eq32' k1) ⟨rfl,rfl,rfl⟩) (by unfold H60;simp)
 have hk2:∃ fr2 lg2,Goes (bod60.wpIn (FR l) 0 Tryd.prog) 9 (fr60b (Int.ofNat (n - 1 - j)) (key.map by8)) (join (H60 hc n c e ns (hash.map by8) (Int.ofNat (n - 1)) (L.flatten.map by8) (.ros fc fo fl fcap false) (nx.map by8) (bd.map by8)) [.cells (key.map by8)]) [] .normal fr2
   [.cells [.ros hc 0 n c e],.cells ns,.cells (hash.map by8),.cells [.int .i64 (Int.ofNat (n - 1))],.cells (L.flatten.map by8),.cells [.ros fc fo fl fcap false],.cells [.slc 14 0 2048 2048 1],.cells ((btagL key B hash).map by8),.cells [.slc 4 0 n n 32],.cells (bd.map by8),.cells (key.map by8),.dead,.cells ((partL hp nx++bd.take 1792).map by8),.cells (key.map by8),.cells (B.map by8)] lg2:=by
  refine round_vcE (P:=Tryd.prog) cnO2_ok (noLn_ok _) tabF_ok (n:=100) (g:=kdS) (l:=l) (n0:=9) bod_ok bod_r ?_ (by unfold H60;simp[join_eq])
  rw[vrb60]
  simp only[nAdr,e1,ext_sl,s1,s2,s3,oz_part q1,s4,s8,app_by8,rd_sl,s5,hmask_eq,hmk]
  simp only[chk_and,nInr,nLe,nPlus,nLen,nEq,List.length_map,k1,b1,b2,hh,partL_length q1 b2,Nat.zero_add,decide_eq_true_eq]
  simp only[Nat.reduceLeDiff,Nat.le_refl,true_and]
  refine⟨hi,hroom,⟨⟨hp,q1,qp,rfl⟩,pkey _ b2⟩,⟨pkey _ k1,pb_whole _ 2048 m1.symm (by omega)⟩,_,rfl,?_⟩
  rw[nEql]
  refine Br.mk (fun hl => ?_) (fun hl => ?_)
  ·have hj0:j=0:=by
    have:=of_decide_eq_true hl
    omega
   have hB0:M.take (2048 - fl)++fil=B:=by rw[←hB,if_pos hj0]
   have hmin:ops0.min fl (2048 - (2048 - fl))=fl:=by rw[nMin,if_pos (by omega)]
   have s9:=sl_all hfl2
   have hsp:ops0.spl (M.map by8) (2048 - fl) (fil.map by8)=B.map by8:=by rw[spl_mid (by omega),hB0]
   have ef:ops0.ext fc fo fl=fil.map by8:=by rw[nExt]; exact hfil.2
   simp only[ef,subN hfl (by omega),nNat,nPlus,nTimes,nMinus,Nat.mul_one,Nat.zero_add,hmin,ext_sl,s9,hsp,rd_sl,s7,btg_eq,spl_ws b2 m4]
   simp only[chk_and,nInb,nLe,nLen,nEq,List.length_map,m2,m3,m4,decide_eq_true_eq]
   repeat' with_reducible apply And.intro
   all_goals first|exact True.intro|omega|exact pkey _ k1|exact pkey _ hh|exact pbd|with_reducible rfl
  ·have hj0:¬ j=0:=by
    have:=of_decide_eq_false hl
    omega
   have hB0:M=B:=by rw[←hB,if_neg hj0]
   simp only[hB0,rd_sl,s7,btg_eq,spl_ws b2 m4]
   simp only[chk_and,nLe,nLen,nEq,List.length_map,m3,m4,decide_eq_true_eq]
   repeat' with_reducible apply And.intro
   all_goals first|exact True.intro|omega|exact pkey _ k1|exact pkey _ hh|exact pbd|with_reducible rfl
 obtain⟨fr2,lg2,g2⟩:=hk2
 have hw:=Weak.pickV (n0:=9) (fr:=fr2) (H := [.cells [.ros hc 0 n c e],.cells ns,.cells (hash.map by8),.cells [.int .i64 (Int.ofNat (n - 1))],.cells (L.flatten.map by8),.cells [.ros fc fo fl fcap false],.cells [.slc 14 0 2048 2048 1],.cells ((btagL key B hash).map by8),.cells [.slc 4 0 n n 32],.cells (bd.map by8),.cells (key.map by8),.dead,.cells ((partL hp nx++bd.take 1792).map by8),.cells (key.map by8),.cells (B.map by8)]) [0,1,2,3,4,5,6,7,8,14] [] 2 (by simp) (by simp) (by decide)
 have e4:pickH (viewF [.cells [.ros hc 0 n c e],.cells ns,.cells (hash.map by8),.cells [.int .i64 (Int.ofNat (n - 1))],.cells (L.flatten.map by8),.cells [.ros fc fo fl fcap false],.cells [.slc 14 0 2048 2048 1],.cells ((btagL key B hash).map by8),.cells [.slc 4 0 n n 32],.cells (bd.map by8),.cells (key.map by8),.dead,.cells ((partL hp nx++bd.take 1792).map by8),.cells (key.map by8),.cells (B.map by8)] [0,1,2,3,4,5,6,7,8,14] 2) [0,1,2,3,4,5,6,7,8,14]
   [.cells [.ros hc 0 n c e],.cells ns,.cells (hash.map by8),.cells [.int .i64 (Int.ofNat (n - 1))],.cells (L.flatten.map by8),.cells [.ros fc fo fl fcap false],.cells [.slc 14 0 2048 2048 1],.cells ((btagL key B hash).map by8),.cells [.slc 4 0 n n 32],.cells (bd.map by8),.cells (key.map by8),.dead,.cells ((partL hp nx++bd.take 1792).map by8),.cells (key.map by8),.cells (B.map by8)] =
   H60 hc n c e ns (hash.map by8) (Int.ofNat (n - 1)) (L.flatten.map by8) (.ros fc fo fl fcap false) ((btagL key B hash).map by8) (B.map by8):=by
  have p4:pickN [0,1,2,3,4,5,6,7,8,14] 4=some 4:=rfl
  have p14:pickN [0,1,2,3,4,5,6,7,8,14] 14=some 9:=rfl
  show [renB _ _ true (.cells [.ros hc 0 n c e]),renB _ _ true (.cells ns),renB _ _ true (.cells (hash.map by8)),renB _ _ true (.cells [.int .i64 (Int.ofNat (n - 1))]),renB _ _ true (.cells (L.flatten.map by8)),renB _ _ true (.cells [.ros fc fo fl fcap false]),renB _ _ true (.cells [.slc 14 0 2048 2048 1]),renB _ _ true (.cells ((btagL key B hash).map by8)),renB _ _ true (.cells [.slc 4 0 n n 32]),renB _ _ true (.cells (B.map by8))]=_
  simp only[renB,renL,ren,renL_flat hflat,renL_flat hns,renL_flat hff,renL_flat (flat_by8 _),p4,p14]
  rfl
 rw[e4] at hw
 exact⟨_,_,lg1,_,_,lg2,_,g1,g2,hw⟩
end
end Go.Proofs.Vm

namespace Go.Proofs.Vm
set_option maxRecDepth 100000
open Go.Vm
noncomputable section
def PHs(hc:List AV)(n:Nat):Prop:=flatL hc∧n<1099511627776∧∃ hs,HpAt hc n hs
def FlatH(H0:List AV):Prop:=∀ (σ:Nat→Option Nat) (φ:Nat→Option (List AV)),renL σ φ true H0=H0
noncomputable def lp60:VC:=vp [1,1,1,0,1,0,0] vf19.body
def fr60v(ks hc:List AV)(m n c:Nat)(e:Bool)(ko kn kc:Nat)(ke:Bool)(i:Int):Fr := [.ros ks ko kn kc ke,.top,.top,.top,.top,.ptr 0 0,.ptr 1 0,.ptr 2 0,.nils,.int .i64 0,.ptr 3 0,.top,.top,.top,.top,.top,.top,.top,.top,.top,.top,.top,.top,.top,.top,.top,.top,.top,.top,.top,.top,.top,.top,.ros hc 0 n c e,.int .i64 (Int.ofNat m),.int .i64 i,.top,.top,.top,.top,.top,.top,.top,.top,.top,.top,.top,.top,.top,.top,.top,.top,.top,.top,.top,.top,.top,.top,.top,.top,.top,.top,.top,.top,.top,.top,.top,.top,.top,.top,.top,.top,.top,.top,.top,.top,.top,.top,.top,.top,.top,.top,.top,.top,.top,.top,.top,.top,.top,.top,.top,.top]
def mk60v:List Bool := [false,true,true,true,true,false,false,false,false,false,false,true,true,true,true,true,true,true,true,true,true,true,true,true,true,true,true,true,true,true,true,true,true,false,false,false,true,true,true,true,true,true,true,true,true,true,true,true,true,true,true,true,true,true,true,true,true,true,true,true,true,true,true,true,true,true,true,true,true,true,true,true,true,true,true,true,true,true,true,true,true,true,true,true,true,true,true,true,true,true,true,true]
def fr60e:Fr := [.top,.top,.top,.top,.top,.top,.top,.top,.nils,.int .i64 1,.top,.top,.top,.top,.top,.top,.top,.top,.top,.top,.top,.top,.top,.top,.top,.top,.top,.top,.top,.top,.top,.top,.top,.top,.top,.top,.top,.top,.top,.top,.top,.top,.top,.top,.top,.top,.top,.top,.top,.top,.top,.top,.top,.top,.top,.top,.top,.top,.top,.top,.top,.top,.top,.top,.top,.top,.top,.top,.top,.top,.top,.top,.top,.top,.top,.top,.top,.top,.top,.top,.top,.top,.top,.top,.top,.top,.top,.top,.top,.top,.top,.top]
def mk60e:List Bool := [true,true,true,true,true,true,true,true,false,false,true,true,true,true,true,true,true,true,true,true,true,true,true,true,true,true,true,true,true,true,true,true,true,true,true,true,true,true,true,true,true,true,true,true,true,true,true,true,true,true,true,true,true,true,true,true,true,true,true,true,true,true,true,true,true,true,true,true,true,true,true,true,true,true,true,true,true,true,true,true,true,true,true,true,true,true,true,true,true,true,true,true]
def tabV(f:Nat):Option VF:=match f with
 | 19=>some vf19
 | 34=>some vf34
 | _=>none
def ln60(z:List AV→Nat→Bool):LnF:=fun n0 b fr H=>match slot fr 33,slot fr 0,H with
 | .ros hc 0 n c e,.ros ks ko kn kc ke,[.cells H0,.cells H1,.cells H2,.cells M] =>
  some (n0=0∧VCis b lp60∧forget mk60v fr=fr60v ks hc n n c e ko kn kc ke 0∧M = [.int .i64 (Int.ofNat (n - 1))]∧PHs hc n∧FlatH [.agg ks]∧FlatH H0∧FlatH H1∧FlatH H2,.cond (z hc n) (.ok (.exit 0) (fr60v ks hc n n c e ko kn kc ke (Int.ofNat n)) [.cells H0,.cells H1,.cells H2,.cells M]) (.ok .ret fr60e []))
 | _,_,_=>none
theorem vcl60(Z:OZ)(O:OY)(F:HF)(H0 H1 H2:List AV)(m:Int)(ks hc:List AV)(n c:Nat)(e:Bool)(ko kn kc:Nat)(ke:Bool)(i:Int)(Q:Ex→Fr→Hl→Prop) :
  (vm (vcA kdS (cnO2 Z O F) noLn) ops0 noTab 100 0 lp60 (fr60v ks hc n n c e ko kn kc ke i) [.cells H0,.cells H1,.cells H2,.cells [.int .i64 m]] [] (fun ex fr H _=>match ex with
    | .ret=>Q .ret (forget mk60e fr) []
    | ex=>Q ex (forget mk60v fr) H)) =
 ((Br (ops0.cmp .lss i (Int.ofNat n))
 (Chk (ops0.inr i n)
 (Chk (ops0.le (ops0.add (ops0.adr 0 i 101) 101) (ops0.len hc))
 (Chk (ops0.eq (ops0.len (ops0.ext hc (ops0.adr 0 i 101) 101)) 101)
 (Chk (ops0.le 101 (ops0.len (ops0.spl hopZ 0 (ops0.ext hc (ops0.adr 0 i 101) 101))))
 ((PHop (ops0.ext (ops0.spl hopZ 0 (ops0.ext hc (ops0.adr 0 i 101) 101)) 0 101)) ∧
 (Br (OZ.may Z (ops0.ext (ops0.spl hopZ 0 (ops0.ext hc (ops0.adr 0 i 101) 101)) 0 101))
 (∃ n1:Int,((Nth (ops0.spl hopZ 0 (ops0.ext hc (ops0.adr 0 i 101) 101)) 0 (.int .i64 n1)) ∧
 (Br (ops0.cmp .eql n1 (Int.ofNat 0))
 (∃ n2:Int,((Nth [(.int .i64 m)] 0 (.int .i64 n2)) ∧
 (Br (ops0.cmp .eql i n2)
 (Q Ex.norm ((.ros ks ko kn kc ke)::tp 4 ((.ptr 0 0)::(.ptr 1 0)::(.ptr 2 0) :: .nils::(.int .i64 (.ofNat 0))::(.ptr 3 0)::tp 22 ((.ros hc 0 n c e)::(.int .i64 (.ofNat n))::(.int .i64 (ops0.bin .add .i64 i (Int.ofNat 1)))::tp 56 ([])))) [(.cells H0),(.cells H1),(.cells H2),(.cells [(.int .i64 m)]),(.cells (ops0.spl hopZ 0 (ops0.ext hc (ops0.adr 0 i 101) 101)))])
 (Q Ex.ret (tp 8 (.nils::(.int .i64 (.ofNat 1))::tp 82 ([]))) []))))
 (∃ n2:Int,((Nth [(.int .i64 m)] 0 (.int .i64 n2)) ∧
 (Br (ops0.cmp .eql i n2)
 (Q Ex.ret (tp 8 (.nils::(.int .i64 (.ofNat 1))::tp 82 ([]))) [])
 (Q Ex.norm ((.ros ks ko kn kc ke)::tp 4 ((.ptr 0 0)::(.ptr 1 0)::(.ptr 2 0) :: .nils::(.int .i64 (.ofNat 0))::(.ptr 3 0)::tp 22 ((.ros hc 0 n c e)::(.int .i64 (.ofNat n))::(.int .i64 (ops0.bin .add .i64 i (Int.ofNat 1)))::tp 56 ([])))) [(.cells H0),(.cells H1),(.cells H2),(.cells [(.int .i64 m)]),(.cells (ops0.spl hopZ 0 (ops0.ext hc (ops0.adr 0 i 101) 101)))])))))))
 (Q Ex.ret (tp 8 (.nils::(.int .i64 (.ofNat 1))::tp 82 ([]))) [])))))))
 (Q (Ex.exit 0) ((.ros ks ko kn kc ke)::tp 4 ((.ptr 0 0)::(.ptr 1 0)::(.ptr 2 0) :: .nils::(.int .i64 (.ofNat 0))::(.ptr 3 0)::tp 22 ((.ros hc 0 n c e)::(.int .i64 (.ofNat n))::(.int .i64 i)::tp 56 ([])))) [(.cells H0),(.cells H1),(.cells H2),(.cells [(.int .i64 m)])]))):=by kernel_rfl
theorem vc60v(Z:OZ)(O:OY)(F:HF)(z:List AV→Nat→Bool)(ks hc ns hs:List AV)(n c:Nat)(e:Bool)(ko kn kc:Nat)(ke:Bool)(Q:AV→Hl→Prop) :
  (vcall (vcA kdS (cnO2 Z O F) (ln60 z)) ops0 tabV 200 vf19 [.ros ks ko kn kc ke,.ros hc 0 n c e,.agg ns,.agg hs] [] (endN (fun _=>0) Q)) =
 ((Br (ops0.cmp .geq (ops0.ofn n) (Int.ofNat 1))
 (Br (ops0.cmp .leq (ops0.ofn n) (Int.ofNat 8))
 (Br (ops0.cmp .neq (ops0.ofn kn) (ops0.ofn n))
 (Q (.tup [.nils,(.int .i64 (.ofNat 1))]) [])
 ((((0:Nat)=0) ∧
 ((VCis lp60 lp60) ∧
 (((((.ros ks ko kn kc ke)::tp 4 ((.ptr 0 0)::(.ptr 1 0)::(.ptr 2 0) :: .nils::(.int .i64 (.ofNat 0))::(.ptr 3 0)::tp 22 ((.ros hc 0 n c e)::(.int .i64 (ops0.ofn n))::(.int .i64 (.ofNat 0))::tp 56 ([])))):Fr)=((.ros ks ko kn kc ke)::tp 4 ((.ptr 0 0)::(.ptr 1 0)::(.ptr 2 0) :: .nils::(.int .i64 (.ofNat 0))::(.ptr 3 0)::tp 22 ((.ros hc 0 n c e)::(.int .i64 (.ofNat n))::(.int .i64 (.ofNat 0))::tp 56 ([]))))) ∧
 ((([(.int .i64 (ops0.bin .sub .i64 (ops0.ofn n) (Int.ofNat 1)))]:(List AV)) = [(.int .i64 (.ofNat (n - 1)))]) ∧
 ((PHs hc n) ∧
 ((FlatH [(.agg ks)]) ∧
 ((FlatH [(.ros hc 0 n c e)]) ∧
 ((FlatH ns) ∧
 (FlatH hs))))))))) ∧
 (Br (z hc n)
 (Chk (ops0.le 32 (ops0.len ns))
 (((P65 ks ko kn (ops0.ext ns 0 32)) ∧
 (1≤kn)) ∧
 False))
 (Q (.tup [.nils,(.int .i64 (.ofNat 1))]) []))))
 (Q (.tup [.nils,(.int .i64 (.ofNat 1))]) []))
 (Q (.tup [.nils,(.int .i64 (.ofNat 1))]) []))):=by kernel_rfl
theorem body_q{P:Program}{g:Kd→Bool}{C:CnF}(hC:CnOK P C){E:LnF}(hE:LnOK P E){T:Nat→Option VF}(hT:∀ f vf,T f=some vf→FnOK P f vf){n n0:Nat}{b:VC}{fr:Fr}{H:Hl}{Q:Ex→Fr→Hl→Prop}
  (h:vm (vcA g C E) ops0 T n n0 b fr H [] (fun ex fr' H' _=>Q ex fr' H')) (h0:n0≤H.length):∀ c,compile P c=b→∃ ex fr' H' lg',Goes (c.wp P) n0 fr H [] (exitOf ex) fr' H' lg'∧Q ex fr' H':=by
 intro c hc
 subst hc
 obtain⟨ex,fr1,H1,lg1,hg,e⟩:=(vm_sound (vcA_fine hC hE) hT n).1 c n0 fr H [] _ h0 h
 exact⟨ex,fr1,H1,lg1,hg,e⟩
theorem Goes.toFlat{W:(Exit→Act→World→Prop)→Act→World→Prop}{fr fr1 fr2:Fr}{H H1:Hl}{lg1:List Nat}{e:Exit}{mk:List Bool}(h:Goes W 0 fr H [] e fr1 H1 lg1)(hf:forget mk fr1=fr2)(hfl:flatL fr2):∃ lg2,Goes W 0 fr H [] e fr2 [] lg2:=by
 have h2:=h.post (Weak.forget (Nat.zero_le _) mk)
 rw[hf] at h2
 have h3:=h2.post (Weak.pickV [] [] 0 (by simp) (by simp) (by simp))
 rw[renL_flat hfl] at h3
 have e1:forget [] fr2=fr2:=by cases fr2<;>rfl
 rw[e1] at h3
 exact⟨_,h3⟩
theorem oz_may{h:Hop}(hl:h.L32):oz0.may (hopC h)=h.may:=by
 show(hopOf (hopC h)).may=_
 rw[hopOf_C hl]
def okAt(hs:List Hop)(n i:Nat):Bool:=(hs.getD i hop0).may && (decide ((hs.getD i hop0).ch=0) == decide (i=n - 1))
theorem fr60e_flat:flatL fr60e:=by
 unfold fr60e
 intro a ha
 simp only[List.mem_cons,List.not_mem_nil,or_false] at ha
 rcases ha with rfl|rfl|ha
 all_goals first|rfl|skip
 all_goals (repeat' (rcases ha with rfl|ha))<;>first|rfl|(subst ha;rfl)
theorem fr60v_ren{σ:Nat→Option Nat}{φ:Nat→Option (List AV)}(h0:σ 0=some 0)(h1:σ 1=some 1)(h2:σ 2=some 2)(h3:σ 3=some 3){ks hc:List AV}(hks:∀ (σ:Nat→Option Nat) (φ:Nat→Option (List AV)),renL σ φ true ks=ks)(hhc:flatL hc)(m n c:Nat)(e:Bool)(ko kn kc:Nat)(ke:Bool)(i:Int) :
  forget mk60v (renL σ φ true (fr60v ks hc m n c e ko kn kc ke i))=fr60v ks hc m n c e ko kn kc ke i:=by
 unfold fr60v mk60v
 simp only[renL,ren,h0,h1,h2,h3,forget,hks _ _,renL_flat hhc]
def qq(Q:Ex→Fr→Hl→Prop)(ex:Ex)(fr:Fr)(H:Hl):Prop:=match ex with
 | .ret=>Q .ret (forget mk60e fr) []
 | ex=>Q ex (forget mk60v fr) H
def qN(fr0:Fr)(A:Hl)(ex:Ex)(fr:Fr)(H:Hl):Prop:=ex = .norm∧fr=fr0∧∃ X,H=join A [.cells X]
def qR(ex0:Ex)(fr0:Fr)(H0:Hl)(ex:Ex)(fr:Fr)(H:Hl):Prop:=ex=ex0∧fr=fr0∧H=H0
theorem valid_vc{ks hc:List AV}{n c:Nat}{e:Bool}{hs:List Hop}(ko kn kc:Nat)(ke:Bool)(H0 H1 H2:List AV)(hp:HpAt hc n hs)(hroom:0<n){i:Nat}(hi:i<n)(Q:Ex→Fr→Hl→Prop)
  (hg:okAt hs n i=true→∀ X,Q .norm (fr60v ks hc n n c e ko kn kc ke (Int.ofNat (i+1))) (([.cells H0,.cells H1,.cells H2,.cells [.int .i64 (Int.ofNat (n - 1))],.cells X]:Hl)))
  (hb:okAt hs n i=false→Q .ret fr60e []) (hn:n<1099511627776) :
  vm (vcA kdS (cnO2 oz0 of1 hf0) noLn) ops0 noTab 100 0 lp60 (fr60v ks hc n n c e ko kn kc ke (Int.ofNat i)) [.cells H0,.cells H1,.cells H2,.cells [.int .i64 (Int.ofNat (n - 1))]] [] (fun ex fr H _=>qq Q ex fr H):=by
 show vm (vcA kdS (cnO2 oz0 of1 hf0) noLn) ops0 noTab 100 0 lp60 (fr60v ks hc n n c e ko kn kc ke (Int.ofNat i)) [.cells H0,.cells H1,.cells H2,.cells [.int .i64 (Int.ofNat (n - 1))]] [] (fun ex fr H _=>match ex with
   | .ret=>Q .ret (forget mk60e fr) []
   | ex=>Q ex (forget mk60v fr) H)
 have hx:=List.getElem?_eq_getElem (show i<hs.length by rw[hp.1]; exact hi)
 obtain⟨q1,q2⟩:=hp.2 i _ hx
 have hgh:hs.getD i hop0=hs[i]'(by rw[hp.1]; exact hi):=by rw[List.getD_eq_getElem?_getD,hx]; rfl
 have hlen:=hp.len hi
 unfold okAt at hg hb
 rw[hgh] at hg hb
 generalize hs[i]'(by rw[hp.1]; exact hi)=h at q1 q2 hg hb
 have e1:ops0.ext hc (0+i*101) 101=hopC h:=by rw[nExt,Nat.zero_add]; exact q2
 rw[vcl60,nAdr,e1,spl_hop q1,ext_hop q1,oz_may q1,add1 (by omega),nLss]
 simp only[chk_and,nInr,nLe,nPlus,nLen,nEq,hopC_length q1,decide_eq_true_eq]
 refine Br.t (decide_eq_true (by omega)) ⟨hi,by omega,True.intro,Nat.le_refl _,⟨h,q1,rfl⟩,?_⟩
 refine Br.mk (fun hm => ?_) (fun hm => ?_)
 ·refine⟨h.ch,rfl,?_⟩
  rw[nEql']
  refine Br.mk (fun hz => ?_) (fun hz => ?_)
  ·refine⟨_,rfl,?_⟩
   rw[nEql]
   rw[hm] at hg hb
   refine Br.mk (fun hl => ?_) (fun hl => ?_)
   ·exact hg (by rw[show Int.ofNat 0=0 from rfl] at hz;rw[hz,hl]; rfl) _
   ·exact hb (by rw[show Int.ofNat 0=0 from rfl] at hz;rw[hz,hl]; rfl)
  ·refine⟨_,rfl,?_⟩
   rw[nEql]
   rw[hm] at hg hb
   refine Br.mk (fun hl => ?_) (fun hl => ?_)
   ·exact hb (by rw[show Int.ofNat 0=0 from rfl] at hz;rw[hz,hl]; rfl)
   ·exact hg (by rw[show Int.ofNat 0=0 from rfl] at hz;rw[hz,hl]; rfl) _
 ·exact hb (by rw[hm]; rfl)
section
variable {ks hc:List AV}{n c:Nat}{e:Bool}{hs:List Hop}{ko kn kc:Nat}{ke:Bool}{H0 H1 H2:List AV}
abbrev Hv(H0 H1 H2:List AV)(n:Nat):Hl := [.cells H0,.cells H1,.cells H2,.cells [.int .i64 (Int.ofNat (n - 1))]]
theorem FlatH.flat{l:List AV}(h:flatL l):FlatH l:=fun _ _=>renL_flat h
theorem FlatH.ros{l:List AV}(h:flatL l)(a b c:Nat)(e:Bool):FlatH [.ros l a b c e]:=fun _ _=>by simp only[renL,ren,renL_flat h]
theorem body60g(hks:∀ (σ:Nat→Option Nat) (φ:Nat→Option (List AV)),renL σ φ true ks=ks)(hhc:flatL hc)(f0:FlatH H0)(f1:FlatH H1)(f2:FlatH H2)(hp:HpAt hc n hs)(hn:n<1099511627776){i:Nat}(hi:i<n)(hok:okAt hs n i=true) :
  BodyTo Tryd.prog 0 lp60 (fr60v ks hc n n c e ko kn kc ke (Int.ofNat i)) (Hv H0 H1 H2 n) .norm (fr60v ks hc n n c e ko kn kc ke (Int.ofNat (i+1))) (Hv H0 H1 H2 n):=by
 intro cd hcd
 have h:=valid_vc (ks:=ks) ko kn kc ke (e:=e) (c:=c) H0 H1 H2 hp (by omega) hi (qN (fr60v ks hc n n c e ko kn kc ke (Int.ofNat (i+1))) (Hv H0 H1 H2 n)) (fun _ X=>⟨rfl,rfl,X,rfl⟩) (fun h=>by rw[hok] at h;cases h) hn
 obtain⟨ex,fr,H,lg,hg,q⟩:=body_q (P:=Tryd.prog) cnO2_ok (noLn_ok _) (noTab_ok _) h (Nat.zero_le _) cd hcd
 cases ex with
 | ret=>cases q.1
 | exit k=>cases q.1
 | norm =>
  obtain⟨_,q2,X,q3⟩:=q
  have q3:H = [.cells H0,.cells H1,.cells H2,.cells [.int .i64 (Int.ofNat (n - 1))],.cells X]:=q3
  subst q3
  have h2:=hg.post (Weak.forget (Nat.zero_le _) mk60v)
  rw[q2] at h2
  have h3:=h2.post (Weak.pickV [0,1,2,3] mk60v 0 (by simp) (by simp) (by simp))
  rw[fr60v_ren (show pickN [0,1,2,3] 0=some 0 from rfl) (show pickN [0,1,2,3] 1=some 1 from rfl) (show pickN [0,1,2,3] 2=some 2 from rfl) (show pickN [0,1,2,3] 3=some 3 from rfl) hks hhc] at h3
  have e4:pickH (viewF [.cells H0,.cells H1,.cells H2,.cells [.int .i64 (Int.ofNat (n - 1))],.cells X] [0,1,2,3] 0) [0,1,2,3] [.cells H0,.cells H1,.cells H2,.cells [.int .i64 (Int.ofNat (n - 1))],.cells X]=Hv H0 H1 H2 n:=by
   show [renB _ _ true (.cells H0),renB _ _ true (.cells H1),renB _ _ true (.cells H2),renB _ _ true (.cells [.int .i64 (Int.ofNat (n - 1))])]=_
   simp only[renB,f0 _ _,f1 _ _,f2 _ _,renL,ren]
  rw[e4] at h3
  exact⟨_,h3⟩
theorem body60b(hp:HpAt hc n hs)(hn:n<1099511627776){i:Nat}(hi:i<n)(hok:okAt hs n i=false) :
  BodyTo Tryd.prog 0 lp60 (fr60v ks hc n n c e ko kn kc ke (Int.ofNat i)) (Hv H0 H1 H2 n) .ret fr60e []:=by
 intro cd hcd
 have h:=valid_vc (ks:=ks) ko kn kc ke (e:=e) (c:=c) H0 H1 H2 hp (by omega) hi (qR .ret fr60e []) (fun h=>by rw[hok] at h;cases h) (fun _=>⟨rfl,rfl,rfl⟩) hn
 obtain⟨ex,fr,H,lg,hg,q⟩:=body_q (P:=Tryd.prog) cnO2_ok (noLn_ok _) (noTab_ok _) h (Nat.zero_le _) cd hcd
 cases ex with
 | norm=>cases q.1
 | exit k=>cases q.1
 | ret=>exact Goes.toFlat hg q.2.1 fr60e_flat
theorem body60x:BodyTo Tryd.prog 0 lp60 (fr60v ks hc n n c e ko kn kc ke (Int.ofNat n)) (Hv H0 H1 H2 n) (.exit 0) (fr60v ks hc n n c e ko kn kc ke (Int.ofNat n)) (Hv H0 H1 H2 n):=by
 intro cd hcd
 have h:=vcl60 oz0 of1 hf0 H0 H1 H2 (Int.ofNat (n - 1)) ks hc n c e ko kn kc ke (Int.ofNat n) (qR (.exit 0) (fr60v ks hc n n c e ko kn kc ke (Int.ofNat n)) (Hv H0 H1 H2 n))
 rw[nLss] at h
 have h2:=h.symm.mp (Br.f (decide_eq_false (by omega)) ⟨rfl,rfl,rfl⟩)
 have h3:vm (vcA kdS (cnO2 oz0 of1 hf0) noLn) ops0 noTab 100 0 lp60 (fr60v ks hc n n c e ko kn kc ke (Int.ofNat n)) (Hv H0 H1 H2 n) [] (fun ex fr H _=>qq (qR (.exit 0) (fr60v ks hc n n c e ko kn kc ke (Int.ofNat n)) (Hv H0 H1 H2 n)) ex fr H):=h2
 obtain⟨ex,fr,H,lg,hg,q⟩:=body_q (P:=Tryd.prog) cnO2_ok (noLn_ok _) (noTab_ok _) h3 (Nat.zero_le _) cd hcd
 cases ex with
 | norm=>cases q.1
 | ret=>cases q.1
 | exit k =>
  obtain⟨q1,q2,q3⟩:=q
  cases q1
  subst q3
  have h2:=hg.post (Weak.forget (Nat.zero_le _) mk60v)
  rw[q2] at h2
  exact⟨_,h2⟩
end
def okHs(hs:List Hop)(n:Nat):Bool:=(List.range n).all (okAt hs n)
def hsOf(hc:List AV)(n:Nat):List Hop:=(List.range n).map fun i=>hopOf ((hc.drop (i*101)).take 101)
theorem hsOf_eq{hc:List AV}{n:Nat}{hs:List Hop}(h:HpAt hc n hs):hsOf hc n=hs:=by
 apply List.ext_getElem?
 intro i
 unfold hsOf
 by_cases hi:i<n
 ·have hl:i<hs.length:=by rw[h.1]; exact hi
  obtain⟨h1,h2⟩:=h.2 i hs[i] (List.getElem?_eq_getElem hl)
  rw[List.getElem?_map,List.getElem?_range hi,List.getElem?_eq_getElem hl]
  simp only[Option.map_some]
  rw[h2,hopOf_C h1]
 ·rw[List.getElem?_eq_none (by rw[List.length_map,List.length_range]; omega),List.getElem?_eq_none (by rw[h.1]; omega)]
def zV(hc:List AV)(n:Nat):Bool:=okHs (hsOf hc n) n
theorem flatH_agg{ks:List AV}(h:FlatH [.agg ks]):∀ (σ:Nat→Option Nat) (φ:Nat→Option (List AV)),renL σ φ true ks=ks:=by
 intro σ φ
 have:=h σ φ
 simp only[renL,ren,List.cons.injEq,AV.agg.injEq,and_true] at this
 exact this
theorem least_bad{p:Nat→Bool}{n:Nat}:(∃ i,i<n∧p i=false)→∃ i,(i<n∧p i=false)∧∀ j,j<i→p j=true:=by
 induction n with
 | zero=>rintro⟨i,hi,_⟩; omega
 | succ n ih =>
  rintro⟨i,hi,hb⟩
  by_cases h:∃ i,i<n∧p i=false
  ·obtain⟨k,⟨k1,k2⟩,k3⟩:=ih h
   exact⟨k,⟨by omega,k2⟩,k3⟩
  ·refine⟨i,⟨hi,hb⟩,fun j hj => ?_⟩
   cases ho:p j with
   | true=>rfl
   | false=>exact absurd ⟨j,by omega,ho⟩ h
theorem ln60_ok:LnOK Tryd.prog (ln60 zV):=by
 intro n0 b fr H p x e hn0 hp lg
 unfold ln60 at e
 split at e<;>cases e
 rename_i hc n c e ks ko kn kc ke H0 H1 H2 M h1 h2
 obtain⟨rfl,hb,hf,rfl,⟨hfl,hn,hs,hL⟩,hks,f0,f1,f2⟩:=hp
 have hb:b=lp60:=hb
 subst hb
 have hks:=flatH_agg hks
 refine LoopTo.pre (Weak.forget (by simp) mk60v) ?_ lg
 rw[hf]
 unfold zV
 rw[hsOf_eq hL]
 cases hz:okHs hs n with
 | true =>
  have h:=loop_chain (P:=Tryd.prog) (n0:=0) (b:=lp60) (ex := .exit 0) (fr':=fr60v ks hc n n c e ko kn kc ke (Int.ofNat n)) (H':=Hv H0 H1 H2 n) (by intro h;cases h)
   (fun i=>(fr60v ks hc n n c e ko kn kc ke (Int.ofNat i),Hv H0 H1 H2 n)) n 0 (fun i _ hi=>body60g hks hfl f0 f1 f2 hL hn (by omega) (by
    unfold okHs at hz
    exact List.all_eq_true.1 hz i (List.mem_range.2 (by omega)))) (by rw[Nat.zero_add]; exact body60x)
  exact h
 | false =>
  unfold okHs at hz
  obtain⟨i,hi,hbad⟩:∃ i,(i<n∧okAt hs n i=false)∧∀ j,j<i→okAt hs n j=true:=by
   refine least_bad ?_
   rw[List.all_eq_false] at hz
   obtain⟨i,hi,hb⟩:=hz
   exact⟨i,List.mem_range.1 hi,by simpa using hb⟩
  have h:=loop_chain (P:=Tryd.prog) (n0:=0) (b:=lp60) (ex := .ret) (fr':=fr60e) (H' := []) (by intro h;cases h)
   (fun i=>(fr60v ks hc n n c e ko kn kc ke (Int.ofNat i),Hv H0 H1 H2 n)) i 0 (fun j _ hj=>body60g hks hfl f0 f1 f2 hL hn (by omega) (hbad j (by omega))) (by rw[Nat.zero_add]; exact body60b hL hn hi.1 hi.2)
  exact h
theorem tabV_ok:∀ f vf,tabV f=some vf→FnOK Tryd.prog f vf:=by
 intro f vf h
 unfold tabV at h
 split at h<;>cases h
 ·exact ok19
 ·exact ok34
def goodB(hs:List Hop)(n kn:Nat):Bool:=decide (1≤n) && decide (n≤8) && decide (kn=n) && okHs hs n
theorem call60n{ks hc:List AV}{nn hash:List UInt8}{n:Nat}{hs:List Hop}(c:Nat)(e:Bool){ko kn:Nat}(kc:Nat)(ke:Bool)(hks:flatL ks)(hP:PHs hc n)(hp:HpAt hc n hs)(hkn:kn<1099511627776)(hbad:goodB hs n kn=false) :
  CallTo Tryd.prog 19 [.ros ks ko kn kc ke,.ros hc 0 n c e,.agg (nn.map by8),.agg (hash.map by8)] [] (.tup [.nils,.int .i64 1]) [] []:=by
 refine call_n cnO2_ok ln60_ok tabV_ok (show tabV 19=some vf19 from rfl) (n:=200) (g:=kdS) (m:=fun _=>0) [] ?_ (Nat.le_refl 0) rfl (fun b hb=>by simp at hb)
 have hn:=hP.2.1
 have hz:zV hc n=okHs hs n:=by unfold zV;rw[hsOf_eq hp]
 rw[vc60v,hz]
 simp only[nOfn,nGeq,nLeq,nNeq]
 refine Br.mk (fun h1 => ?_) (fun h1=>by trivial)
 refine Br.mk (fun h2 => ?_) (fun h2=>by trivial)
 refine Br.mk (fun h3=>by trivial) (fun h3 => ?_)
 have h1:=of_decide_eq_true h1
 have h2:=of_decide_eq_true h2
 have h3:=of_decide_eq_false h3
 have g1:1≤n:=h1
 have g2:n≤8:=h2
 refine⟨⟨by trivial,by trivial,by trivial,?_,hP,?_,FlatH.ros hP.1 _ _ _ _,FlatH.flat (flat_by8 _),FlatH.flat (flat_by8 _)⟩,?_⟩
 ·rw[nSub (by omega) (by omega)]
 ·exact fun σ φ=>by simp only[renL,ren,renL_flat hks]
 ·have:okHs hs n=false:=by
   unfold goodB at hbad
   rw[decide_eq_true g1,decide_eq_true g2,decide_eq_true (by omega:kn=n)] at hbad
   exact hbad
  exact Br.f this (by trivial)
end
end Go.Proofs.Vm

namespace Go.Proofs.Vm
set_option maxRecDepth 100000
open Go.Vm
noncomputable section
structure VFn where
 fil:List AV→Nat→List AV
 one:Nat→Bool
def PFil(kc:List AV)(n:Nat):Prop:=flatL kc∧1≤n∧n≤8∧n*32≤kc.length∧∃ L,ShAt kc 0 n L
def cnP(V:VFn)(Z:OZ)(O:OY)(F:HF):CnF:=cnOr (fun f vals H=>match f,vals with
 | 37,[x]=>match vw1 H x with
  | .ros kc 0 n c _=>some (PFil kc n∧n≤c,.cond (V.one n) (.ok .nils H []) (.ok (.slc (size H) (2304 - 256*(n - 1)) (256*(n - 1)) (256*(n - 1)) 1) (join H [.cells (V.fil kc n)]) []))
  | _=>none
 | _,_=>none) (cnO2 Z O F)
def vL:VC→VC
 | .seq a _=>a
 | c=>c
def vR:VC→VC
 | .seq _ b=>b
 | c=>c
def vRs:Nat→VC→VC
 | 0,c=>c
 | n+1,c=>vRs n (vR c)
def vAt(n:Nat):VC:=vL (vRs n vf19.body)
def pre60:VC := .seq (vAt 0) (.seq (vAt 1) (.seq (vAt 2) (.seq (vAt 3) (.seq (vAt 4) (.seq (vAt 5) (.seq (vAt 6) (.seq (vAt 7) (.seq (vL (vAt 8)) .skip))))))))
def suf60:VC:=vRs 9 vf19.body
def tab60(f:Nat):Option VF:=match f with
 | 19=>some vf19
 | 34=>some vf34
 | 38=>some vf38
 | 42=>some vf42
 | 23=>some vf23
 | 47=>some vf47
 | _=>none
def fr60s:Fr := [.top,.top,.top,.top,.top,.top,.ptr 1 0,.top,.top,.top,.top,.top,.top,.top,.top,.ptr 6 0,.ptr 7 0,.top,.top,.top,.top,.top,.top,.top,.top,.top,.top,.top,.top,.top,.top,.top,.top,.top,.top,.top,.top,.top,.top,.top,.top,.top,.top,.top,.top,.top,.top,.top,.top,.top,.top,.top,.top,.top,.top,.top,.top,.top,.top,.top,.top,.top,.top,.top,.top,.top,.top,.top,.top,.top,.top,.top,.top,.top,.top,.top,.top,.top,.top,.top,.top,.top,.top,.top,.top,.top,.top,.top,.top,.top,.top,.top]
theorem vpre(V:VFn)(Z:OZ)(O:OY)(F:HF)(z:List AV→Nat→Bool)(ks hc ns hs:List AV)(n c:Nat)(e:Bool)(ko kn kc:Nat)(ke:Bool)(Q:Fr→Hl→Prop) :
  (vm (vcA kdS (cnP V Z O F) (ln60 z)) ops0 tab60 200 0 pre60 (join [.ros ks ko kn kc ke,.ros hc 0 n c e,.agg ns,.agg hs] (pad 88)) [] [] (fun ex fr H _=>match ex with
    | .norm=>Q fr H
    | _=>False)) =
 ((Chk (ops0.cmp BinOp.geq (ops0.ofn n) (Int.ofNat 1))
 (Chk (ops0.cmp BinOp.leq (ops0.ofn n) (Int.ofNat 8))
 (Br (ops0.cmp BinOp.neq (ops0.ofn kn) (ops0.ofn n))
 False
 ((((0:Nat)=0) ∧
 ((VCis lp60 lp60) ∧
 ((([(AV.ros ks ko kn kc ke),AV.top,AV.top,AV.top,AV.top,(AV.ptr 0 0),(AV.ptr 1 0),(AV.ptr 2 0),AV.nils,(AV.int IntKind.i64 (Int.ofNat 0)),(AV.ptr 3 0),AV.top,AV.top,AV.top,AV.top,AV.top,AV.top,AV.top,AV.top,AV.top,AV.top,AV.top,AV.top,AV.top,AV.top,AV.top,AV.top,AV.top,AV.top,AV.top,AV.top,AV.top,AV.top,(AV.ros hc 0 n c e),(AV.int IntKind.i64 (ops0.ofn n)),(AV.int IntKind.i64 (Int.ofNat 0)),AV.top,AV.top,AV.top,AV.top,AV.top,AV.top,AV.top,AV.top,AV.top,AV.top,AV.top,AV.top,AV.top,AV.top,AV.top,AV.top,AV.top,AV.top,AV.top,AV.top,AV.top,AV.top,AV.top,AV.top,AV.top,AV.top,AV.top,AV.top,AV.top,AV.top,AV.top,AV.top,AV.top,AV.top,AV.top,AV.top,AV.top,AV.top,AV.top,AV.top,AV.top,AV.top,AV.top,AV.top,AV.top,AV.top,AV.top,AV.top,AV.top,AV.top,AV.top,AV.top,AV.top,AV.top,AV.top,AV.top]:Fr) = [(AV.ros ks ko kn kc ke),AV.top,AV.top,AV.top,AV.top,(AV.ptr 0 0),(AV.ptr 1 0),(AV.ptr 2 0),AV.nils,(AV.int IntKind.i64 (Int.ofNat 0)),(AV.ptr 3 0),AV.top,AV.top,AV.top,AV.top,AV.top,AV.top,AV.top,AV.top,AV.top,AV.top,AV.top,AV.top,AV.top,AV.top,AV.top,AV.top,AV.top,AV.top,AV.top,AV.top,AV.top,AV.top,(AV.ros hc 0 n c e),(AV.int IntKind.i64 (Int.ofNat n)),(AV.int IntKind.i64 (Int.ofNat 0)),AV.top,AV.top,AV.top,AV.top,AV.top,AV.top,AV.top,AV.top,AV.top,AV.top,AV.top,AV.top,AV.top,AV.top,AV.top,AV.top,AV.top,AV.top,AV.top,AV.top,AV.top,AV.top,AV.top,AV.top,AV.top,AV.top,AV.top,AV.top,AV.top,AV.top,AV.top,AV.top,AV.top,AV.top,AV.top,AV.top,AV.top,AV.top,AV.top,AV.top,AV.top,AV.top,AV.top,AV.top,AV.top,AV.top,AV.top,AV.top,AV.top,AV.top,AV.top,AV.top,AV.top,AV.top,AV.top,AV.top]) ∧
 ((([(AV.int IntKind.i64 (ops0.bin BinOp.sub IntKind.i64 (ops0.ofn n) (Int.ofNat 1)))]:(List AV)) = [(AV.int IntKind.i64 (Int.ofNat (n - 1)))]) ∧
 ((PHs hc n) ∧
 ((FlatH [(AV.agg ks)]) ∧
 ((FlatH [(AV.ros hc 0 n c e)]) ∧
 ((FlatH ns) ∧
 (FlatH hs))))))))) ∧
 (Chk (z hc n)
 (Chk (ops0.le 32 (ops0.len ns))
 (((P65 ks ko kn (ops0.ext ns 0 32)) ∧
 (1≤kn)) ∧
 (((PFil (OZ.keys Z (ops0.ext ns 0 32) ks ko kn) kn) ∧
 (kn≤kn)) ∧
 (Br (VFn.one V kn)
 (Q [(AV.ros ks ko kn kc ke),AV.top,AV.top,AV.top,AV.top,(AV.ptr 0 0),(AV.ptr 1 0),(AV.ptr 2 0),AV.nils,(AV.int IntKind.i64 (Int.ofNat 0)),(AV.ptr 3 0),AV.top,AV.top,(AV.slc 4 0 kn kn 32),(AV.ptr 5 0),(AV.ptr 7 0),(AV.ptr 8 0),AV.top,AV.top,AV.top,AV.top,AV.top,AV.top,AV.top,AV.top,AV.top,AV.top,AV.top,AV.top,AV.top,AV.top,AV.top,AV.top,(AV.ros hc 0 n c e),(AV.int IntKind.i64 (Int.ofNat n)),(AV.int IntKind.i64 (Int.ofNat n)),AV.top,AV.top,AV.top,AV.top,AV.top,AV.top,AV.top,AV.top,AV.top,AV.top,AV.top,AV.top,AV.top,AV.top,AV.top,AV.top,AV.top,(AV.ros ks ko kn kc ke),(AV.agg (ops0.ext ns 0 32)),(AV.slc 4 0 kn kn 32),(AV.slc 4 0 kn kn 32),AV.nils,(AV.slc 6 0 2048 2048 1),(AV.slc 4 0 kn kn 32),(AV.fn 55 [] [(AV.ptr 9 0)]),AV.top,AV.top,AV.top,AV.top,AV.top,AV.top,AV.top,AV.top,AV.top,AV.top,AV.top,AV.top,AV.top,AV.top,AV.top,AV.top,AV.top,AV.top,AV.top,AV.top,AV.top,AV.top,AV.top,AV.top,AV.top,AV.top,AV.top,AV.top,AV.top,AV.top,AV.top] [(Blk.cells [(AV.ros hc 0 n c e)]),(Blk.cells ns),(Blk.cells hs),(Blk.cells [(AV.int IntKind.i64 (ops0.bin BinOp.sub IntKind.i64 (ops0.ofn n) (Int.ofNat 1)))]),(Blk.cells (OZ.keys Z (ops0.ext ns 0 32) ks ko kn)),(Blk.cells [AV.nils]),(Blk.cells (z8 2048)),(Blk.cells [(AV.slc 6 0 2048 2048 1)]),(Blk.cells (z8 32)),(Blk.cells [(AV.slc 4 0 kn kn 32)])])
 (Q [(AV.ros ks ko kn kc ke),AV.top,AV.top,AV.top,AV.top,(AV.ptr 0 0),(AV.ptr 1 0),(AV.ptr 2 0),AV.nils,(AV.int IntKind.i64 (Int.ofNat 0)),(AV.ptr 3 0),AV.top,AV.top,(AV.slc 4 0 kn kn 32),(AV.ptr 6 0),(AV.ptr 8 0),(AV.ptr 9 0),AV.top,AV.top,AV.top,AV.top,AV.top,AV.top,AV.top,AV.top,AV.top,AV.top,AV.top,AV.top,AV.top,AV.top,AV.top,AV.top,(AV.ros hc 0 n c e),(AV.int IntKind.i64 (Int.ofNat n)),(AV.int IntKind.i64 (Int.ofNat n)),AV.top,AV.top,AV.top,AV.top,AV.top,AV.top,AV.top,AV.top,AV.top,AV.top,AV.top,AV.top,AV.top,AV.top,AV.top,AV.top,AV.top,(AV.ros ks ko kn kc ke),(AV.agg (ops0.ext ns 0 32)),(AV.slc 4 0 kn kn 32),(AV.slc 4 0 kn kn 32),(AV.slc 5 (2304 - (256*(kn - 1))) (256*(kn - 1)) (256*(kn - 1)) 1),(AV.slc 7 0 2048 2048 1),(AV.slc 4 0 kn kn 32),(AV.fn 55 [] [(AV.ptr 10 0)]),AV.top,AV.top,AV.top,AV.top,AV.top,AV.top,AV.top,AV.top,AV.top,AV.top,AV.top,AV.top,AV.top,AV.top,AV.top,AV.top,AV.top,AV.top,AV.top,AV.top,AV.top,AV.top,AV.top,AV.top,AV.top,AV.top,AV.top,AV.top,AV.top,AV.top,AV.top] [(Blk.cells [(AV.ros hc 0 n c e)]),(Blk.cells ns),(Blk.cells hs),(Blk.cells [(AV.int IntKind.i64 (ops0.bin BinOp.sub IntKind.i64 (ops0.ofn n) (Int.ofNat 1)))]),(Blk.cells (OZ.keys Z (ops0.ext ns 0 32) ks ko kn)),(Blk.cells (VFn.fil V (OZ.keys Z (ops0.ext ns 0 32) ks ko kn) kn)),(Blk.cells [(AV.slc 5 (2304 - (256*(kn - 1))) (256*(kn - 1)) (256*(kn - 1)) 1)]),(Blk.cells (z8 2048)),(Blk.cells [(AV.slc 7 0 2048 2048 1)]),(Blk.cells (z8 32)),(Blk.cells [(AV.slc 4 0 kn kn 32)])]))))))))))):=by kernel_rfl
theorem vsuf(V:VFn)(Z:OZ)(O:OY)(F:HF)(B0 B3 B4 B5 B8:Blk)(ns hs nx bd:List AV)(Q:Ex→Fr→Hl→Prop) :
  (vm (vcA kdS (cnP V Z O F) noLn) ops0 tab60 200 0 suf60 fr60s [B0,.cells ns,.cells hs,B3,B4,B5,.cells [.slc 9 0 2048 2048 1],.cells nx,B8,.cells bd] [] (fun ex fr H _=>Q ex fr H)) =
 ((Chk (ops0.le 32 (ops0.len ns))
 (Chk (ops0.le 32 (ops0.len nx))
 (Chk (ops0.le 32 (ops0.len (ops0.ext ns 0 32)))
 (Chk (ops0.le 32 (ops0.len (ops0.ext nx 0 32)))
 (Chk (ops0.le 32 (ops0.len (ops0.ext ns 0 32)))
 (Chk (ops0.le 32 (ops0.len (ops0.app [] (ops0.ext (ops0.ext ns 0 32) 0 32))))
 (Chk (ops0.le 32 (ops0.len (ops0.ext nx 0 32)))
 (Chk (ops0.le 64 (ops0.len (ops0.app (ops0.ext (ops0.app [] (ops0.ext (ops0.ext ns 0 32) 0 32)) 0 32) (ops0.ext (ops0.ext nx 0 32) 0 32))))
 (Chk (ops0.le 2048 (ops0.len bd))
 (Q Ex.ret [AV.top,AV.top,AV.top,AV.top,AV.top,AV.top,(AV.ptr 1 0),AV.top,(AV.slc 15 0 2112 2112 1),(AV.int IntKind.i64 (Int.ofNat 0)),AV.top,AV.top,AV.top,AV.top,AV.top,(AV.ptr 6 0),(AV.ptr 7 0),AV.top,AV.top,AV.top,AV.top,AV.top,AV.top,AV.top,AV.top,AV.top,AV.top,AV.top,AV.top,AV.top,AV.top,AV.top,AV.top,AV.top,AV.top,AV.top,AV.top,AV.top,AV.top,AV.top,AV.top,AV.top,AV.top,AV.top,AV.top,AV.top,AV.top,AV.top,AV.top,AV.top,AV.top,AV.top,AV.top,AV.top,AV.top,AV.top,AV.top,AV.top,AV.top,AV.top,AV.top,AV.top,AV.top,AV.top,AV.top,AV.top,AV.top,AV.top,AV.top,AV.top,AV.top,AV.top,AV.top,AV.top,AV.top,AV.top,AV.top,AV.top,AV.top,AV.top,AV.top,AV.top,AV.top,AV.top,AV.top,AV.top,AV.top,AV.top,(AV.agg (ops0.ext ns 0 32)),(AV.agg (ops0.ext nx 0 32)),(AV.slc 9 0 2048 2048 1),(AV.slc 15 0 2112 2112 1)] [B0,(Blk.cells ns),(Blk.cells hs),B3,B4,B5,(Blk.cells [(AV.slc 9 0 2048 2048 1)]),(Blk.cells nx),B8,(Blk.cells bd),(Blk.cells (ops0.ext ns 0 32)),(Blk.cells (ops0.ext nx 0 32)),Blk.dead,Blk.dead,Blk.dead,(Blk.cells (ops0.app (ops0.ext (ops0.app (ops0.ext (ops0.app [] (ops0.ext (ops0.ext ns 0 32) 0 32)) 0 32) (ops0.ext (ops0.ext nx 0 32) 0 32)) 0 64) (ops0.ext bd 0 2048)))]))))))))))):=by kernel_rfl
end
end Go.Proofs.Vm

namespace Go.Proofs.Vm
set_option maxRecDepth 100000
open Go.Vm
noncomputable section
def frc60:Fr := [.top,.top,.top,.top,.top,.ptr 0 0,.ptr 1 0,.ptr 2 0,.nils,.int .i64 0,.ptr 3 0,.top,.top,.top,.ptr 5 0,.ptr 6 0,.ptr 7 0,.top,.top,.top,.top,.top,.top,.top,.top,.top,.top,.top,.top,.top,.top,.top,.top,.top,.top,.top,.top,.top,.top,.top,.top,.top,.top,.top,.top,.top,.top,.top,.top,.top,.top,.top,.top,.top,.top,.top,.top,.top,.top,.top,.fn 55 [] [.ptr 8 0],.top,.top,.top,.top,.top,.top,.top,.top,.top,.top,.top,.top,.top,.top,.top,.top,.top,.top,.top,.top,.top,.top,.top,.top,.top,.top,.top,.top,.top,.top,.top]
def mkc60:List Bool := [true,true,true,true,true,false,false,false,false,false,false,true,true,true,false,false,false,true,true,true,true,true,true,true,true,true,true,true,true,true,true,true,true,true,true,true,true,true,true,true,true,true,true,true,true,true,true,true,true,true,true,true,true,true,true,true,true,true,true,true,false,true,true,true,true,true,true,true,true,true,true,true,true,true,true,true,true,true,true,true,true,true,true,true,true,true,true,true,true,true,true,true]
def frA60:Fr := [.top,.top,.top,.top,.top,.ptr 0 0,.ptr 1 0,.ptr 2 0,.nils,.int .i64 0,.ptr 3 0,.top,.top,.top,.ptr 5 0,.ptr 7 0,.ptr 8 0,.top,.top,.top,.top,.top,.top,.top,.top,.top,.top,.top,.top,.top,.top,.top,.top,.top,.top,.top,.top,.top,.top,.top,.top,.top,.top,.top,.top,.top,.top,.top,.top,.top,.top,.top,.top,.top,.top,.top,.top,.top,.top,.top,.fn 55 [] [.ptr 9 0],.top,.top,.top,.top,.top,.top,.top,.top,.top,.top,.top,.top,.top,.top,.top,.top,.top,.top,.top,.top,.top,.top,.top,.top,.top,.top,.top,.top,.top,.top,.top]
def frB60:Fr := [.top,.top,.top,.top,.top,.ptr 0 0,.ptr 1 0,.ptr 2 0,.nils,.int .i64 0,.ptr 3 0,.top,.top,.top,.ptr 6 0,.ptr 8 0,.ptr 9 0,.top,.top,.top,.top,.top,.top,.top,.top,.top,.top,.top,.top,.top,.top,.top,.top,.top,.top,.top,.top,.top,.top,.top,.top,.top,.top,.top,.top,.top,.top,.top,.top,.top,.top,.top,.top,.top,.top,.top,.top,.top,.top,.top,.fn 55 [] [.ptr 10 0],.top,.top,.top,.top,.top,.top,.top,.top,.top,.top,.top,.top,.top,.top,.top,.top,.top,.top,.top,.top,.top,.top,.top,.top,.top,.top,.top,.top,.top,.top,.top]
theorem fillA_congr{L L':List (List UInt8)}:∀ (m:Nat),(∀ i,i<m→L.getD i []=L'.getD i [])→fillA L m=fillA L' m
 | 0,_=>rfl
 | m+1,h=>by
  show maskL (L.getD m []) bodyW (fillIn m ((fillA L m).drop _))=maskL (L'.getD m []) bodyW (fillIn m ((fillA L' m).drop _))
  rw[fillA_congr m fun i hi=>h i (by omega),h m (by omega)]
def vfn0:VFn:=⟨fun kc n=>(fillA (shA kc 0 n) (n - 1)).map by8,fun n=>decide (n=1)⟩
theorem shAt_less{cs:List AV}{o n m:Nat}{L:List (List UInt8)}(h:ShAt cs o n L)(hm:m≤n):ShAt cs o m (L.take m):=by
 refine⟨by rw[List.length_take,h.1]; omega,fun i x hx => ?_⟩
 rw[List.getElem?_take] at hx
 split at hx
 ·exact h.2 i x hx
 ·cases hx
theorem cnP_ok:CnOK Tryd.prog (cnP vfn0 oz0 of1 hf0):=by
 refine cnOr_ok ?_ cnO2_ok
 intro f vals H p x e hp
 dsimp only at e
 split at e
 ·rename_i y
  split at e<;>cases e
  rename_i kc n c ex hv
  obtain⟨⟨hf,h1,h8,hl,L,hL⟩,hc⟩:=hp
  have hn1:n - 1+1=n:=by omega
  have h84:=call84 (m:=n - 1) (o:=0) c ex hf (by omega) (by omega) (shAt_less hL (by omega)) (by omega)
  rw[hn1] at h84
  have hfa:fillA (L.take (n - 1)) (n - 1)=fillA (shA kc 0 n) (n - 1):=by
   rw[shA_eq hL]
   refine fillA_congr _ fun i hi => ?_
   rw[List.getD_eq_getElem?_getD,List.getD_eq_getElem?_getD,List.getElem?_take,if_pos hi]
  by_cases h:n=1
  ·have hz:vfn0.one n=true:=decide_eq_true h
   rw[hz]
   exact CallTo.lookV (H:=H) (h84.1 (by omega)) (.cons (Vw.one hv hf) .nil)
  ·have hz:vfn0.one n=false:=decide_eq_false h
   rw[hz]
   have h2:=h84.2 (by omega)
   rw[hfa] at h2
   exact CallTo.lookS (H:=H) h2 (flat_by8 _) (.cons (Vw.one hv hf) .nil)
 ·cases e
theorem tab60_ok:∀ f vf,tab60 f=some vf→FnOK Tryd.prog f vf:=by
 intro f vf h
 unfold tab60 at h
 split at h<;>cases h
 ·exact ok19
 ·exact ok34
 ·exact ok38
 ·exact ok42
 ·exact ok23
 ·exact ok47
theorem Weak.trans{n0:Nat}{fr fr1 fr2:Fr}{H H1 H2:Hl}(h:Weak n0 fr H fr1 H1)(k:Weak n0 fr1 H1 fr2 H2):Weak n0 fr H fr2 H2 where
 grow:=k.grow
 does ρ w hg:=by
  obtain⟨ρ1,g1,E1,f1⟩:=h.does ρ w hg
  obtain⟨ρ2,g2,E2,f2⟩:=k.does ρ1 w g1
  exact⟨ρ2,g2,E1.trans E2,fun t ht=>f2 t (f1 t ht)⟩
theorem Weak.cell{n0:Nat}{fr:Fr}{A B:Hl}{x y:AV}(hn:n0≤(A ++ .cells [x]::B).length)(hv:VLe x y):Weak n0 fr (A ++ .cells [x]::B) fr (A ++ .cells [y]::B) where
 grow:=by simp at hn ⊢; exact hn
 does ρ w hg:=by
  have e:∀ b,b≠A.length→(A ++ .cells [x]::B)[b]? = (A ++ .cells [y]::B)[b]? := by
   intro b hb
   rcases Nat.lt_or_ge b A.length with h|h
   ·rw[List.getElem?_append_left h,List.getElem?_append_left h]
   ·rw[List.getElem?_append_right h,List.getElem?_append_right h]
    obtain⟨k,hk⟩:∃ k,b - A.length=k+1:=⟨b - A.length - 1,by omega⟩
    rw[hk]; rfl
  have e1:(A ++ .cells [x]::B)[A.length]? = some (.cells [x]):=by rw[List.getElem?_append_right (Nat.le_refl _),Nat.sub_self]; rfl
  have e2:(A ++ .cells [y]::B)[A.length]? = some (.cells [y]):=by rw[List.getElem?_append_right (Nat.le_refl _),Nat.sub_self]; rfl
  refine⟨ρ,⟨fun b hb => ?_,fun b hb => ?_,hg.inj,fun b cs hb => ?_,hg.marks,fun b kd ks hb => ?_⟩,Ext.refl _ _ _,fun _ h=>h⟩
  ·by_cases h:b=A.length
   ·subst h;rw[e2] at hb;cases hb
   ·exact hg.unborn b (by rw[e b h]; exact hb)
  ·by_cases h:b=A.length
   ·subst h;rw[e2] at hb;cases hb
   ·exact hg.dead b (by rw[e b h]; exact hb)
  ·by_cases h:b=A.length
   ·subst h
    rw[e2] at hb
    cases hb
    rcases hg.live A.length _ e1 with ⟨_,h0⟩|⟨B',F,c,el,lo,hi,h1,h2,h3,h4,h5⟩
    ·cases h0
    ·refine .inr ⟨B',F,c,el,lo,hi,h1,h2,h3,h4,fun i a ha => ?_⟩
     cases i with
     | zero =>
      cases ha
      obtain⟨v,v1,v2,v3⟩:=h5 0 x rfl
      exact⟨v,v1,v2,hv ρ w v v3⟩
     | succ i=>cases ha
   ·exact hg.live b cs (by rw[e b h]; exact hb)
  ·by_cases h:b=A.length
   ·subst h;rw[e2] at hb;cases hb
   ·exact hg.sets b kd ks (by rw[e b h]; exact hb)
def pcs60:List Code := [lc (rs 0 c60),lc (rs 1 c60),lc (rs 2 c60),lc (rs 3 c60),lc (rs 4 c60),lc (rs 5 c60),lc (rs 6 c60),lc (rs 7 c60),lc (lc (rs 8 c60))]
theorem pre_ok:vcSeq Tryd.prog pcs60=pre60:=by kernel_rfl
structure Arg60(ks hc:List AV)(n:Nat)(hs:List Hop)(L:List (List UInt8))(nn hash:List UInt8)(ko:Nat):Prop where
 kf:flatL ks
 hops:PHs hc n
 hp:HpAt hc n hs
 keys:PSh ks ko n
 sh:ShAt ks ko n L
 nn:nn.length=32
 hash:hash.length=32
 n1:1≤n
 n8:n≤8
 ok:okHs hs n=true
theorem z8_zs(n:Nat):z8 n=(zs n).map by8:=by unfold zs z8;rw[List.map_replicate]
theorem fill_full(L:List (List UInt8)){n:Nat}(h1:1≤n)(h8:n≤8)(hn:n≠1):BytesAt ((fillA L (n - 1)).map by8) (2304 - 256*(n - 1)) (256*(n - 1)) (fillL L (n - 1)):=by
 have hl:=fill_lengths L (n - 1) (by omega)
 refine⟨by unfold fillL;rw[List.length_drop,hl]; omega,?_⟩
 unfold fillL
 rw[←List.map_drop,List.take_of_length_le (by rw[List.length_map,List.length_drop,hl]; omega)]
def Pre60(hc:List AV)(n c:Nat)(e:Bool)(nn hash:List UInt8)(hs:List Hop)(K:List (List UInt8))(fr:Fr)(H:Hl):Prop :=
 ∃ fc fo fl fcap,In60 hc n (K.flatten.map by8) fc fo fl hs K hash (fillL K (n - 1))∧Weak 0 fr H frc60 (S60 hc n c e (nn.map by8) (K.flatten.map by8) fc fo fl fcap hs K hash (fillL K (n - 1)) 0)
theorem keys_sh(L:List (List UInt8))(nn:List UInt8)(n:Nat):ShAt ((keysL L nn n).flatten.map by8) 0 n (keysL L nn n):=by
 refine⟨keys_length _ _ _,fun i x hx=>⟨keys_32 _ _ _ x (List.mem_of_getElem? hx),?_⟩⟩
 rw[Nat.zero_add]
 exact flat_key (keys_32 _ _ _) hx
theorem pre60_q{ks hc:List AV}{n:Nat}(c:Nat)(e:Bool){hs:List Hop}{L:List (List UInt8)}{nn hash:List UInt8}{ko:Nat}(kc:Nat)(ke:Bool)(h:Arg60 ks hc n hs L nn hash ko) :
  vm (vcA kdS (cnP vfn0 oz0 of1 hf0) (ln60 zV)) ops0 tab60 200 0 pre60 (join [.ros ks ko n kc ke,.ros hc 0 n c e,.agg (nn.map by8),.agg (hash.map by8)] (pad 88)) [] [] (fun ex fr H _=>match ex with
   | .norm=>Pre60 hc n c e nn hash hs (keysL L nn n) fr H
   | _=>False):=by
 obtain⟨hkf,hops,hp,hkeys,hsh,hnn,hhash,h1,h8,hok⟩:=h
 have hz:zV hc n=true:=by unfold zV;rw[hsOf_eq hp]; exact hok
 have hpos:∀ h,h∈hs→h.pos:=by
  intro h hm
  obtain⟨i,hi⟩:=List.getElem?_of_mem hm
  have hl:i<hs.length:=(List.getElem?_eq_some_iff.1 hi).1
  have:=List.all_eq_true.1 hok i (List.mem_range.2 (by rw[←hp.1]; exact hl))
  unfold okAt at this
  rw[List.getD_eq_getElem?_getD,hi] at this
  have h2:=(Bool.and_eq_true _ _ ▸ this:_∧_).1
  exact Hop.may_pos h2
 have ek:oz0.keys (nn.map by8) ks ko n=(keysL L nn n).flatten.map by8:=by
  show(keysL (shA ks ko n) (bytesA _) _).flatten.map by8=_
  rw[bytesA_by8,shA_eq hsh]
 have hkl:((keysL L nn n).flatten.map by8).length=n*32:=by rw[List.length_map,flat_len (keys_32 L nn n),keys_length]
 have ef:vfn0.fil ((keysL L nn n).flatten.map by8) n=(fillA (keysL L nn n) (n - 1)).map by8:=by
  show(fillA (shA _ 0 n) (n - 1)).map by8=_
  rw[shA_eq (keys_sh L nn n)]
 refine(vpre vfn0 oz0 of1 hf0 zV ks hc (nn.map by8) (hash.map by8) n c e ko n kc ke (Pre60 hc n c e nn hash hs (keysL L nn n))).mpr ?_
 rw[hz,ext32' hnn,ek,ef]
 generalize hK:keysL L nn n=K at *
 have K32:∀ x,x∈K→x.length=32:=by rw[←hK]; exact keys_32 _ _ _
 have Kl:K.length=n:=by rw[←hK]; exact keys_length _ _ _
 have Ksh:ShAt (K.flatten.map by8) 0 n K:=by rw[←hK]; exact keys_sh L nn n
 refine Chk.mk (by rw[nOfn,nGeq]; exact decide_eq_true h1) (Chk.mk (by rw[nOfn,nLeq]; exact decide_eq_true h8) (Br.f (by rw[nOfn,nNeq]; simp) ?_))
 refine⟨⟨rfl,rfl,rfl,by rw[nOfn,nSub h1 (by omega)],hops,fun σ φ=>by simp only[renL,ren,renL_flat hkf],FlatH.ros hops.1 _ _ _ _,FlatH.flat (flat_by8 _),FlatH.flat (flat_by8 _)⟩,?_⟩
 refine Chk.mk rfl (Chk.mk (by rw[nLen,List.length_map,hnn]; rfl) ⟨⟨⟨hkeys,by omega,pkey _ hnn⟩,h1⟩,⟨⟨flat_by8 _,h1,h8,by omega,K,Ksh⟩,Nat.le_refl _⟩,?_⟩)
 have es:ops0.bin .sub .i64 (ops0.ofn n) (Int.ofNat 1)=Int.ofNat (n - 1):=by rw[nOfn,nSub h1 (by omega)]
 rw[es]
 refine Br.mk (fun ho => ?_) (fun ho => ?_)
 ·have ho:=of_decide_eq_true ho
  subst ho
  have hf0:fillL K (1 - 1) = []:=List.eq_nil_of_length_eq_zero (by unfold fillL;rw[List.length_drop,fill_lengths K _ (by omega)])
  refine⟨[],0,0,0,⟨hp,hops.1,hpos,rfl,Kl,K32,h8,hhash,(fun a h=>by cases h),by rw[hf0]; exact⟨rfl,rfl⟩,Nat.le_refl _,Nat.zero_le _⟩,?_⟩
  refine(Weak.forget (Nat.zero_le _) mkc60).trans ?_
  show Weak 0 frA60 _ _ _
  have w1:=Weak.pickV (n0:=0) (fr:=frA60) (H := [.cells [.ros hc 0 1 c e],.cells (nn.map by8),.cells (hash.map by8),.cells [.int .i64 (Int.ofNat (1 - 1))],.cells (K.flatten.map by8),.cells [.nils],.cells (z8 2048),.cells [.slc 6 0 2048 2048 1],.cells (z8 32),.cells [.slc 4 0 1 1 32]]) [0,1,2,3,4,5,7,8,9,6] mkc60 1 (by simp) (by simp) (by simp)
  have e1:∀ φ,forget mkc60 (renL (pickN [0,1,2,3,4,5,7,8,9,6]) φ true frA60)=frc60:=by
   intro φ
   have p0:pickN [0,1,2,3,4,5,7,8,9,6] 0=some 0:=rfl
   have p1:pickN [0,1,2,3,4,5,7,8,9,6] 1=some 1:=rfl
   have p2:pickN [0,1,2,3,4,5,7,8,9,6] 2=some 2:=rfl
   have p3:pickN [0,1,2,3,4,5,7,8,9,6] 3=some 3:=rfl
   have p5:pickN [0,1,2,3,4,5,7,8,9,6] 5=some 5:=rfl
   have p7:pickN [0,1,2,3,4,5,7,8,9,6] 7=some 6:=rfl
   have p8:pickN [0,1,2,3,4,5,7,8,9,6] 8=some 7:=rfl
   have p9:pickN [0,1,2,3,4,5,7,8,9,6] 9=some 8:=rfl
   unfold frA60 mkc60 frc60
   simp only[renL,ren,forget,p0,p1,p2,p3,p5,p7,p8,p9]
  rw[e1] at w1
  refine w1.trans ?_
  have e2:pickH (viewF [.cells [.ros hc 0 1 c e],.cells (nn.map by8),.cells (hash.map by8),.cells [.int .i64 (Int.ofNat (1 - 1))],.cells (K.flatten.map by8),.cells [.nils],.cells (z8 2048),.cells [.slc 6 0 2048 2048 1],.cells (z8 32),.cells [.slc 4 0 1 1 32]] [0,1,2,3,4,5,7,8,9,6] 1) [0,1,2,3,4,5,7,8,9,6] [.cells [.ros hc 0 1 c e],.cells (nn.map by8),.cells (hash.map by8),.cells [.int .i64 (Int.ofNat (1 - 1))],.cells (K.flatten.map by8),.cells [.nils],.cells (z8 2048),.cells [.slc 6 0 2048 2048 1],.cells (z8 32),.cells [.slc 4 0 1 1 32]]
    = H60 hc 1 c e (nn.map by8) (hash.map by8) (Int.ofNat (1 - 1)) (K.flatten.map by8) .nils ((zs 32).map by8) ((zs 2048).map by8):=by
   show [renB _ _ true (.cells [.ros hc 0 1 c e]),renB _ _ true (.cells (nn.map by8)),renB _ _ true (.cells (hash.map by8)),renB _ _ true (.cells [.int .i64 (Int.ofNat (1 - 1))]),renB _ _ true (.cells (K.flatten.map by8)),renB _ _ true (.cells [.nils]),renB _ _ true (.cells [.slc 6 0 2048 2048 1]),renB _ _ true (.cells (z8 32)),renB _ _ true (.cells [.slc 4 0 1 1 32]),renB _ _ true (.cells (z8 2048))]=_
   have p4:pickN [0,1,2,3,4,5,7,8,9,6] 4=some 4:=rfl
   have p6:pickN [0,1,2,3,4,5,7,8,9,6] 6=some 9:=rfl
   rw[z8_zs,z8_zs]
   simp only[renB,renL,ren,p4,p6,renL_flat hops.1,renL_flat (flat_by8 _)]
   rfl
  rw[e2]
  exact Weak.cell (A := [.cells [.ros hc 0 1 c e],.cells (nn.map by8),.cells (hash.map by8),.cells [.int .i64 (Int.ofNat (1 - 1))],.cells (K.flatten.map by8)]) (Nat.zero_le _) (VLe.trans VLe.nils (VLe.loose _ _ _ _ _))
 ·have ho:n≠1:=of_decide_eq_false ho
  refine⟨(fillA K (n - 1)).map by8,2304 - 256*(n - 1),256*(n - 1),256*(n - 1),⟨hp,hops.1,hpos,rfl,Kl,K32,h8,hhash,flat_by8 _,fill_full K h1 h8 ho,by rw[List.length_map,fill_lengths K _ (by omega)]; omega,by omega⟩,?_⟩
  refine(Weak.forget (Nat.zero_le _) mkc60).trans ?_
  show Weak 0 frB60 _ _ _
  have w1:=Weak.pickV (n0:=0) (fr:=frB60) (H := [.cells [.ros hc 0 n c e],.cells (nn.map by8),.cells (hash.map by8),.cells [.int .i64 (Int.ofNat (n - 1))],.cells (K.flatten.map by8),.cells ((fillA K (n - 1)).map by8),.cells [.slc 5 (2304 - 256*(n - 1)) (256*(n - 1)) (256*(n - 1)) 1],.cells (z8 2048),.cells [.slc 7 0 2048 2048 1],.cells (z8 32),.cells [.slc 4 0 n n 32]]) [0,1,2,3,4,6,8,9,10,7] mkc60 1 (by simp) (by simp) (by simp)
  have e1:∀ φ,forget mkc60 (renL (pickN [0,1,2,3,4,6,8,9,10,7]) φ true frB60)=frc60:=by
   intro φ
   have p0:pickN [0,1,2,3,4,6,8,9,10,7] 0=some 0:=rfl
   have p1:pickN [0,1,2,3,4,6,8,9,10,7] 1=some 1:=rfl
   have p2:pickN [0,1,2,3,4,6,8,9,10,7] 2=some 2:=rfl
   have p3:pickN [0,1,2,3,4,6,8,9,10,7] 3=some 3:=rfl
   have p6:pickN [0,1,2,3,4,6,8,9,10,7] 6=some 5:=rfl
   have p8:pickN [0,1,2,3,4,6,8,9,10,7] 8=some 6:=rfl
   have p9:pickN [0,1,2,3,4,6,8,9,10,7] 9=some 7:=rfl
   have p10:pickN [0,1,2,3,4,6,8,9,10,7] 10=some 8:=rfl
   unfold frB60 mkc60 frc60
   simp only[renL,ren,forget,p0,p1,p2,p3,p6,p8,p9,p10]
  rw[e1] at w1
  have e2:pickH (viewF [.cells [.ros hc 0 n c e],.cells (nn.map by8),.cells (hash.map by8),.cells [.int .i64 (Int.ofNat (n - 1))],.cells (K.flatten.map by8),.cells ((fillA K (n - 1)).map by8),.cells [.slc 5 (2304 - 256*(n - 1)) (256*(n - 1)) (256*(n - 1)) 1],.cells (z8 2048),.cells [.slc 7 0 2048 2048 1],.cells (z8 32),.cells [.slc 4 0 n n 32]] [0,1,2,3,4,6,8,9,10,7] 1) [0,1,2,3,4,6,8,9,10,7] [.cells [.ros hc 0 n c e],.cells (nn.map by8),.cells (hash.map by8),.cells [.int .i64 (Int.ofNat (n - 1))],.cells (K.flatten.map by8),.cells ((fillA K (n - 1)).map by8),.cells [.slc 5 (2304 - 256*(n - 1)) (256*(n - 1)) (256*(n - 1)) 1],.cells (z8 2048),.cells [.slc 7 0 2048 2048 1],.cells (z8 32),.cells [.slc 4 0 n n 32]]
    = H60 hc n c e (nn.map by8) (hash.map by8) (Int.ofNat (n - 1)) (K.flatten.map by8) (.ros ((fillA K (n - 1)).map by8) (2304 - 256*(n - 1)) (256*(n - 1)) (256*(n - 1)) false) ((zs 32).map by8) ((zs 2048).map by8):=by
   show [renB _ _ true (.cells [.ros hc 0 n c e]),renB _ _ true (.cells (nn.map by8)),renB _ _ true (.cells (hash.map by8)),renB _ _ true (.cells [.int .i64 (Int.ofNat (n - 1))]),renB _ _ true (.cells (K.flatten.map by8)),renB _ _ true (.cells [.slc 5 (2304 - 256*(n - 1)) (256*(n - 1)) (256*(n - 1)) 1]),renB _ _ true (.cells [.slc 7 0 2048 2048 1]),renB _ _ true (.cells (z8 32)),renB _ _ true (.cells [.slc 4 0 n n 32]),renB _ _ true (.cells (z8 2048))]=_
   have p4:pickN [0,1,2,3,4,6,8,9,10,7] 4=some 4:=rfl
   have p7:pickN [0,1,2,3,4,6,8,9,10,7] 7=some 9:=rfl
   have p5:pickN [0,1,2,3,4,6,8,9,10,7] 5=none:=rfl
   have v5:viewF [.cells [.ros hc 0 n c e],.cells (nn.map by8),.cells (hash.map by8),.cells [.int .i64 (Int.ofNat (n - 1))],.cells (K.flatten.map by8),.cells ((fillA K (n - 1)).map by8),.cells [.slc 5 (2304 - 256*(n - 1)) (256*(n - 1)) (256*(n - 1)) 1],.cells (z8 2048),.cells [.slc 7 0 2048 2048 1],.cells (z8 32),.cells [.slc 4 0 n n 32]] [0,1,2,3,4,6,8,9,10,7] 1 5=some ((fillA K (n - 1)).map by8):=by
    show some (renL _ _ true ((fillA K (n - 1)).map by8))=_
    rw[renL_flat (flat_by8 _)]
   rw[z8_zs,z8_zs] at v5 ⊢
   simp only[renB,renL,ren,p4,p5,p7,v5,renL_flat hops.1,renL_flat (flat_by8 _)]
   rfl
  rw[e2] at w1
  exact w1
end
end Go.Proofs.Vm

namespace Go.Proofs.Vm
set_option maxRecDepth 100000
open Go.Vm
noncomputable section
def mkr60:List Bool := [true,true,true,true,true,false,false,false,true,true,false,true,true,true,false,false,false,true,true,true,true,true,true,true,true,true,true,true,true,true,true,true,true,true,true,true,true,true,true,true,true,true,true,true,true,true,true,true,true,true,true,true,true,true,true,true,true,true,true,true,true,true,true,true,true,true,true,true,true,true,true,true,true,true,true,true,true,true,true,true,true,true,true,true,true,true,true,true,true,true,true,true]
def mks60:List Bool := [true,true,true,true,true,true,false,true,true,true,true,true,true,true,true,false,false,true,true,true,true,true,true,true,true,true,true,true,true,true,true,true,true,true,true,true,true,true,true,true,true,true,true,true,true,true,true,true,true,true,true,true,true,true,true,true,true,true,true,true,true,true,true,true,true,true,true,true,true,true,true,true,true,true,true,true,true,true,true,true,true,true,true,true,true,true,true,true,true,true,true,true]
def frF60:Fr := [.top,.top,.top,.top,.top,.top,.top,.top,.slc 0 0 2112 2112 1,.int .i64 0,.top,.top,.top,.top,.top,.top,.top,.top,.top,.top,.top,.top,.top,.top,.top,.top,.top,.top,.top,.top,.top,.top,.top,.top,.top,.top,.top,.top,.top,.top,.top,.top,.top,.top,.top,.top,.top,.top,.top,.top,.top,.top,.top,.top,.top,.top,.top,.top,.top,.top,.top,.top,.top,.top,.top,.top,.top,.top,.top,.top,.top,.top,.top,.top,.top,.top,.top,.top,.top,.top,.top,.top,.top,.top,.top,.top,.top,.top,.top,.top,.top,.top]
def frE60:Fr := [.top,.top,.top,.top,.top,.top,.top,.top,.slc 15 0 2112 2112 1,.int .i64 0,.top,.top,.top,.top,.top,.top,.top,.top,.top,.top,.top,.top,.top,.top,.top,.top,.top,.top,.top,.top,.top,.top,.top,.top,.top,.top,.top,.top,.top,.top,.top,.top,.top,.top,.top,.top,.top,.top,.top,.top,.top,.top,.top,.top,.top,.top,.top,.top,.top,.top,.top,.top,.top,.top,.top,.top,.top,.top,.top,.top,.top,.top,.top,.top,.top,.top,.top,.top,.top,.top,.top,.top,.top,.top,.top,.top,.top,.top,.top,.top,.top,.top]
def mkf60:List Bool := [true,true,true,true,true,true,true,true,false,false,true,true,true,true,true,true,true,true,true,true,true,true,true,true,true,true,true,true,true,true,true,true,true,true,true,true,true,true,true,true,true,true,true,true,true,true,true,true,true,true,true,true,true,true,true,true,true,true,true,true,true,true,true,true,true,true,true,true,true,true,true,true,true,true,true,true,true,true,true,true,true,true,true,true,true,true,true,true,true,true,true,true]
def seqC:List Code→Code→Code
 | [],z=>z
 | c::cs,z => .seq c (seqC cs z)
theorem seq_in{P:Program}{Q Q':Exit→Act→World→Prop}{z:Code}:∀ (cs:List Code) {a:Act} {w:World},SeqWp P cs Q' a w→(∀ a w,Q' .normal a w→z.wpIn Fence.wide 0 P Q a w)→(seqC cs z).wpIn Fence.wide 0 P Q a w
 | [],a,w,h,hz=>hz a w h
 | c::cs,a,w,h,hz=>by
  refine wpIn_seq (wpIn_wide.2 (wp_mono h ?_))
  rintro e a w ⟨rfl,h⟩
  exact seq_in cs h hz
theorem seq_app{P:Program}{Q:Exit→Act→World→Prop}{ds:List Code}:∀ (cs:List Code) {a:Act} {w:World},SeqWp P (cs++ds) Q a w→SeqWp P cs (fun _ a w=>SeqWp P ds Q a w) a w
 | [],a,w,h=>h
 | c::cs,a,w,h=>wp_mono h (by
  rintro e a w ⟨rfl,h⟩
  exact⟨rfl,seq_app cs h⟩)
theorem frel_set{ρ:Rho}{w:World}{fr:Fr}{tmps:Array Value}{i:Nat}{x:AV}{v:Value}(h:FRel ρ w fr tmps)(hx:VRel ρ w x v):FRel ρ w (fr.set i x) (tmps.setIfInBounds i v):=by
 have hl:=h.len
 refine⟨by simpa using hl,fun j a u ha hu => ?_⟩
 rw[Array.toList_setIfInBounds,List.getElem?_set] at hu
 rw[List.getElem?_set] at ha
 by_cases hij:i=j
 ·rw[if_pos hij] at ha hu
  split at ha
  ·split at hu
   ·cases ha;cases hu;exact hx
   ·cases hu
  ·cases ha
 ·rw[if_neg hij] at ha hu
  exact h.at_ j a u ha hu
theorem inv_clos{ρ:Rho}{w:World}{f:Nat}{y:AV}{v:Value}(h:VRel ρ w (.fn f [] [y]) v):∃ pv,v = .func (.func f) #[] #[pv]∧VRel ρ w y pv:=by
 cases h with
 | fn _ _ _ us vs hl hl' hr hr' =>
  obtain rfl:us = []:=List.eq_nil_of_length_eq_zero hl
  obtain⟨pv,rfl⟩:∃ pv,vs = [pv]:=by
   rcases vs with _|⟨a,_|⟨b,r⟩⟩
   ·simp at hl'
   ·exact⟨a,rfl⟩
   ·simp at hl'
  exact⟨pv,rfl,hr' 0 y pv rfl rfl⟩
theorem rf60_eq:rf60 = .rangeFunc (.tmp 60) #[61,62] asg60 bod60:=by kernel_rfl
theorem frc_nm:nmL 9 frc60=true:=by kernel_rfl
theorem fr60_of(i:Int)(ks:List AV):((forget mkr60 frc60).set 61 (.int .i64 i)).set 62 (.agg ks)=fr60 i ks:=rfl
theorem back60{hc:List AV}{n c:Nat}{e:Bool}{ns:List AV}{kcs fc:List AV}{fo fl fcap:Nat}{hs:List Hop}{L:List (List UInt8)}{hash fil:List UInt8}(h:In60 hc n kcs fc fo fl hs L hash fil) :
  Back (S60 hc n c e ns kcs fc fo fl fcap hs L hash fil) 9 8 4 n kcs where
 box _ _:=rfl
 keys _ _:=rfl
 len:=by rw[h.keys,List.length_map,flat_len h.l32,h.len]; exact Nat.le_refl _
 bs_lt:=by omega
 n_lt:=by have:=h.n8;omega
theorem rf60_in{hc:List AV}{n c:Nat}{e:Bool}{ns:List AV}{kcs fc:List AV}{fo fl fcap:Nat}{hs:List Hop}{L:List (List UInt8)}{hash fil:List UInt8}(h:In60 hc n kcs fc fo fl hs L hash fil)(hns:flatL ns)
  {ρ:Rho} {w:World} {a:Act} {Q:Exit→Act→World→Prop} (hg:HRel ρ w (fun b=>(S60 hc n c e ns kcs fc fo fl fcap hs L hash fil 0)[b]?)) (hf:FRel ρ w frc60 a.tmps)
  (hQ:∀ ρ' w',HRel ρ' w' (fun b=>(S60 hc n c e ns kcs fc fo fl fcap hs L hash fil n)[b]?)→FRel ρ' w' frc60 a.tmps→Ext 9 ρ w ρ' w'→w'.heap[w.heap.size]? = some (.deferred (some []))→Q .normal { a with defers := { target := .collected w.heap.size,args := #[] }::a.defers } w') :
  rf60.wpIn Fence.wide 0 Tryd.prog Q a w:=by
 rw[rf60_eq]
 refine wpIn_rangeFunc fun fn _ => ?_
 have hsz:a.tmps.size=92:=by
  have:=hf.len
  rw[show frc60.length=92 from rfl] at this
  simpa using this
 obtain⟨v60,hv60,hr60⟩:∃ v,a.tmps[60]? = some v∧VRel ρ w (.fn 55 [] [.ptr 8 0]) v:=by
  have hl:60<a.tmps.size:=by omega
  exact⟨_,Array.getElem?_eq_getElem hl,hf.at_ 60 _ _ rfl (by rw[Array.getElem?_toList]; exact Array.getElem?_eq_getElem hl)⟩
 obtain⟨pv,rfl,hpv⟩:=inv_clos hr60
 have hev:a.eval (.tmp 60) = .func (.func 55) #[] #[pv]:=by
  show a.tmps.getD 60 undef=_
  rw[Array.getD_eq_getD_getElem?,hv60]
  rfl
 generalize hrec:({ state := .ready,pending:=none,fn,tmps:=a.tmps,params := #[61,62],assign:=asg60,body:=bod60,defers:=w.heap.size }:Loop)=rec
 generalize hW:(w.alloc (.deferred (some []))).alloc (.loop rec)=W1
 obtain⟨a1,a2,a3⟩:=alloc_noRow (ρ:=ρ) (o := .deferred (some [])) rfl hg
 obtain⟨b1,b2,b3⟩:=alloc_noRow (ρ:=ρ) (o := .loop rec) rfl a1
 have hst:St 9 ρ w (w.heap.size+1) rec (S60 hc n c e ns kcs fc fo fl fcap hs L hash fil 0) ρ W1:=by
  rw[←hW]
  refine⟨b1,(a2 9).trans (b2 9),?_,?_⟩
  ·have:=World.alloc_heap_new (w.alloc (.deferred (some []))) (.loop rec); rwa [World.size_alloc] at this
  ·have h1:((w.alloc (.deferred (some []))).alloc (.loop rec)).heap[w.heap.size]? = (w.alloc (.deferred (some []))).heap[w.heap.size]? := by
    show((w.alloc (.deferred (some []))).heap.push _)[w.heap.size]? = _
    rw[Array.getElem?_push,if_neg (by rw[World.size_alloc]; omega)]
   have hd:rec.defers=w.heap.size:=by rw[←hrec]
   rw[hd]
   exact h1.trans (World.alloc_heap_new w _)
 refine⟨w.heap.size+1,[{ target := .collected w.heap.size,args := #[] }],W1,{ target := .fn (.func 55) #[pv],args := #[.func (.yield (w.heap.size+1)) #[] #[]] },W1,55,
  #[.func (.yield (w.heap.size + 1)) #[] #[], pv], W1, ?_, ?_, ?_, ?_, fun h => (by cases h), ?_⟩
 ·rw[←hW,←hrec]; exact run_enterLoop_outer _ _ _ _ _
 ·simp only[resolve,hev]
  simp[go_sem]
 ·intro f' _;trivial
 ·have e105:∀ args w,(callFunc 55 args).run Tryd.prog w = .ok (.enter 55 args) w:=ok55.real
  simp[invoke,go_sem,e105]
 ·have hready:rec.state = .ready:=by rw[←hrec]
  have hpend:rec.pending=none:=by rw[←hrec]
  have it:=iter105 (back60 (c:=c) (e:=e) (ns:=ns) (fcap:=fcap) h) (ρ0:=ρ) (w0:=w) (l:=w.heap.size+1) (rec:=rec) (pv:=pv) (by rw[←hrec]; rfl) (fun ρ1 W E=>hpv.monoN E rfl) (fun j hj ρ1 W kv hs1 hkv=>by
   obtain⟨fr1,H1,lg1,fr2,H2,lg2,fr3,g1,g2,g3⟩:=round60 (c:=c) (e:=e) (fcap:=fcap) h hns hj (w.heap.size+1)
   have ft:FRel ρ1 W (fr60 (Int.ofNat (n - 1 - j)) ((kcs.drop ((n - 1 - j)*32)).take 32)) ((rec.params.zip #[.int .i64 (Int.ofNat (n - 1 - j)),kv]).foldl (fun t (p,v)=>t.setIfInBounds p v) rec.tmps):=by
    rw[←fr60_of]
    have e1:((rec.params.zip #[.int .i64 (Int.ofNat (n - 1 - j)),kv]).foldl (fun t (p,v)=>t.setIfInBounds p v) rec.tmps)=(a.tmps.setIfInBounds 61 (.int .i64 (Int.ofNat (n - 1 - j)))).setIfInBounds 62 kv:=by
     rw[←hrec,←Array.foldl_toList,Array.toList_zip]
     rfl
    rw[e1]
    exact frel_set (frel_set (forget_rel (VRels.monoN hs1.ext hf frc_nm)) (.int _ _)) hkv
   rw[←show rec.assign=asg60 by rw[←hrec]] at g1
   rw[←show rec.body=bod60 by rw[←hrec]] at g2
   exact round_st (Nat.le_succ _) hready hpend g1 g2 g3 hs1 ft) hst
  refine CallsIn.mono it ?_
  rintro en W ⟨⟨v,rfl⟩,ρ1,hs1⟩
  refine⟨none,W.putObj (w.heap.size+1) (.loop { rec with state := .exhausted }),?_,?_⟩
  ·have:=run_endLoop (P:=Tryd.prog) hs1.rec_ (by rw[hready]; intro h;cases h)
   rw[this,hpend]
  ·have ht:=hs1.turn (rec' := { rec with state := .exhausted }) (Nat.le_succ _) rfl
   refine hQ ρ1 _ ht.mem (VRels.monoN ht.ext hf frc_nm) ht.ext ?_
   have:=ht.def_
   rw[←hrec] at this
   rw[←hrec]
   exact this
theorem suf_ok:compile Tryd.prog (rs 9 c60)=suf60:=by kernel_rfl
theorem c60_eq:c60=seqC [lc (rs 0 c60),lc (rs 1 c60),lc (rs 2 c60),lc (rs 3 c60),lc (rs 4 c60),lc (rs 5 c60),lc (rs 6 c60),lc (rs 7 c60)] (.seq (.seq (lc (lc (rs 8 c60))) (.block 2 rf60)) (rs 9 c60)):=by kernel_rfl
theorem body60_eq:Tryd.f19.body=some c60:=by kernel_rfl
theorem ntmps60:Tryd.f19.ntmps=92:=by kernel_rfl
theorem res60:resOf Tryd.prog Tryd.f19.results.toList=some [.tmp 8,.tmp 9]:=by kernel_rfl
theorem suf60_goes{hc:List AV}{n c:Nat}{e:Bool}{nn kcs fc:List AV}{fo fl fcap:Nat}{hs:List Hop}{L:List (List UInt8)}{hash fil nonce nx bd:List UInt8}(h1:nonce.length=32)(h2:nx.length=32)(h3:bd.length=2048)(B3 B4 B5 B8 B0:Blk)(hsc:List AV) :
  ∃ lg,Goes ((rs 9 c60).wp Tryd.prog) 0 fr60s [B0,.cells (nonce.map by8),.cells hsc,B3,B4,B5,.cells [.slc 9 0 2048 2048 1],.cells (nx.map by8),B8,.cells (bd.map by8)] [] .ret frF60 [.cells ((nonce++nx++bd).map by8)] lg:=by
 have hv:=(vsuf vfn0 oz0 of1 hf0 B0 B3 B4 B5 B8 (nonce.map by8) hsc (nx.map by8) (bd.map by8) (fun ex fr H=>ex = .ret∧forget mkf60 fr=frE60∧∃ X0 X1 X2 X3 X4 X5 X6 X7 X8 X9 X10 X11 X12 X13 X14,H = [X0,X1,X2,X3,X4,X5,X6,X7,X8,X9,X10,X11,X12,X13,X14,.cells ((nonce++nx++bd).map by8)])).mpr (by
  have l1:((nonce++nx).map by8).length=64:=by rw[List.length_map,List.length_append,h1,h2]
  have e3:ops0.ext (bd.map by8) 0 2048=bd.map by8:=by rw[nExt,List.drop_zero,List.take_of_length_le (by rw[List.length_map,h3]; exact Nat.le_refl _)]
  have e4:ops0.app [] (nonce.map by8)=nonce.map by8:=rfl
  have e5:ops0.app (nonce.map by8) (nx.map by8)=(nonce++nx).map by8:=by rw[nApp,List.map_append]
  have e6:ops0.ext ((nonce++nx).map by8) 0 64=(nonce++nx).map by8:=by rw[nExt,List.drop_zero,List.take_of_length_le (by rw[l1]; exact Nat.le_refl _)]
  have e7:ops0.app ((nonce++nx).map by8) (bd.map by8)=(nonce++nx++bd).map by8:=by rw[nApp,←List.map_append]
  rw[ext32' h1,ext32' h1,ext32' h2,ext32' h2,e4,ext32' h1,e5,e6,e3,e7]
  simp only[chk_and,nLe,nLen,l1,List.length_map,h1,h2,h3,decide_eq_true_eq]
  simp only[Nat.le_refl,true_and]
  exact⟨rfl,_,_,_,_,_,_,_,_,_,_,_,_,_,_,_,rfl⟩)
 obtain⟨ex,fr,H,lg,hg,rfl,hfr,X0,X1,X2,X3,X4,X5,X6,X7,X8,X9,X10,X11,X12,X13,X14,rfl⟩:=body_q (P:=Tryd.prog) cnP_ok (noLn_ok _) tab60_ok hv (Nat.zero_le _) (rs 9 c60) suf_ok
 have g1:=hg.post (Weak.forget (Nat.zero_le _) mkf60)
 rw[hfr] at g1
 have g2:=g1.post (Weak.pickV [15] mkf60 0 (by simp) (by simp) (by simp))
 have e1:∀ φ,forget mkf60 (renL (pickN [15]) φ true frE60)=frF60:=by
  intro φ
  have p:pickN [15] 15=some 0:=rfl
  unfold frE60 mkf60 frF60
  simp only[renL,ren,forget,p]
 rw[e1] at g2
 have e2:pickH (viewF [X0,X1,X2,X3,X4,X5,X6,X7,X8,X9,X10,X11,X12,X13,X14,.cells ((nonce++nx++bd).map by8)] [15] 0) [15] [X0,X1,X2,X3,X4,X5,X6,X7,X8,X9,X10,X11,X12,X13,X14,.cells ((nonce++nx++bd).map by8)] = [.cells ((nonce++nx++bd).map by8)]:=by
  show [renB _ _ true (.cells ((nonce++nx++bd).map by8))]=_
  simp only[renB,renL_flat (flat_by8 _)]
 rw[e2] at g2
 exact⟨_,g2⟩
def buildL(hs:List Hop)(L:List (List UInt8))(nn hash:List UInt8):List UInt8 :=
 let n:=hs.length
 let K:=keysL L nn n
 let p:=bstep K hs hash (fillL K (n - 1)) n n
 nn++p.2++p.1
theorem call60v{ks hc:List AV}{n:Nat}(c:Nat)(e:Bool){hs:List Hop}{L:List (List UInt8)}{nn hash:List UInt8}{ko:Nat}(kc:Nat)(ke:Bool)(h:Arg60 ks hc n hs L nn hash ko) :
  CallTo Tryd.prog 19 [.ros ks ko n kc ke,.ros hc 0 n c e,.agg (nn.map by8),.agg (hash.map by8)] [] (.tup [.slc 0 0 2112 2112 1,.int .i64 0]) [.cells ((buildL hs L nn hash).map by8)] [] where
 real:=ok19.real
 grow:=Nat.zero_le _
 keep b hb:=by cases hb
 does ρ w us hg hvs:=by
  have hn:=h.hp.1
  refine(callsIn_wide (n:=0)).1 (callsIn_of_wp_marks Tryd.func19 body60_eq trivial ?_)
  obtain⟨fr1,H1,lg1,g1,q1⟩:=seq_sound (P:=Tryd.prog) (vcA_fine cnP_ok ln60_ok) tab60_ok pcs60 200 0 (join [.ros ks ko n kc ke,.ros hc 0 n c e,.agg (nn.map by8),.agg (hash.map by8)] (pad 88)) [] [] (fun fr H=>Pre60 hc n c e nn hash hs (keysL L nn n) fr H) (Nat.zero_le _) (by
   rw[pre_ok]
   exact pre60_q c e kc ke h)
  obtain⟨fc,fo,fl,fcap,hin,hw⟩:=q1
  have g2:=g1.post hw
  rw[c60_eq]
  have hf0:=frame0 hvs 92
  rw[ntmps60]
  refine seq_in _ (seq_app (ds := [lc (lc (rs 8 c60))]) _ (g2.does ρ w { tmps:=us.toArray++Array.replicate (92 - us.toArray.size) undef,defers := [] } (fun e1 a1 w1=>e1 = .normal∧a1.defers = []∧∃ ρ1,HRel ρ1 w1 (fun b=>(S60 hc n c e (nn.map by8) ((keysL L nn n).flatten.map by8) fc fo fl fcap hs (keysL L nn n) hash (fillL (keysL L nn n) (n - 1)) 0)[b]?)∧FRel ρ1 w1 frc60 a1.tmps∧Ext 0 ρ w ρ1 w1) hg hf0 (fun a' w' ρ' k1 k2 k3 k4=>⟨rfl,k3,ρ',k1,k2,k4⟩))) ?_
  intro a1 w1 hs1
  refine wpIn_seq (wpIn_seq (wpIn_wide.2 (wp_mono hs1 ?_)))
  rintro e2 a2 w2 ⟨rfl,_,hd2,ρ2,m2,f2,E2⟩
  refine wpIn_block (rf60_in hin (flat_by8 _) m2 f2 fun ρ3 w3 m3 f3 E3 hD => ?_)
  refine wpIn_wide.2 ?_
  have b32:=bstep_length (L:=keysL L nn n) (hs:=hs) (hash:=hash) (fil:=fillL (keysL L nn n) (n - 1)) (n:=n) (by rw[hin.fil.1]; exact hin.fl_le) (fun h hm=>let ⟨i,hi⟩:=List.getElem?_of_mem hm;(hin.hops.2 i h hi).1) n
  obtain⟨lg,g4⟩:=suf60_goes (hc:=hc) (n:=n) (c:=c) (e:=e) (nn:=nn.map by8) (kcs := []) (fc:=fc) (fo:=fo) (fl:=fl) (fcap:=fcap) (hs:=hs) (L:=L) (hash:=hash) (fil:=hash) h.nn b32.2 b32.1 (.cells [.int .i64 (Int.ofNat (n - 1))]) (.cells ((keysL L nn n).flatten.map by8)) (.cells [.ros fc fo fl fcap false]) (.cells [.slc 4 0 n n 32]) (.cells [.ros hc 0 n c e]) (hash.map by8)
  refine g4.does ρ3 w3 _ _ m3 (forget_rel (bs:=mks60) f3) fun a4 w4 ρ4 m4 f4 d4 E4 => ?_
  have hD4:w4.heap[w2.heap.size]? = some (.deferred (some [])):=(E4.keep _ (Array.getElem?_eq_some_iff.1 hD).1 (m3.noLoop m3.bound hD rfl)).trans hD
  show LeavesInM _ _ _ _ _ _ a4.defers _ _
  rw[d4]
  show LeavesInM _ _ _ _ _ _ ({ target := .collected w2.heap.size,args := #[] }::a2.defers) _ _
  rw[hd2]
  refine⟨(by intro h;cases h),.inl ⟨w2.heap.size,_,rfl,run_takeDeferred hD4,?_⟩⟩
  have m5:=put_hrel hD4 rfl (o' := .deferred none) rfl m4
  have f5:FRel ρ4 (w4.putObj w2.heap.size (.deferred none)) frF60 a4.tmps:=⟨f4.len,fun i x v hx hv=>put_rel hD4 rfl rfl (f4.at_ i x v hx hv)⟩
  obtain⟨vs,hvs2,hres⟩:=fn_results (A:=vcA kdS noCn noLn) (holds:=fun p=>p) (P:=Tryd.prog) (fn:=Tryd.f19) (vcA_fine (noCn_ok Tryd.prog) (noLn_ok _)).toGood (fr:=frF60) (H := [.cells ((nn++(bstep (keysL L nn n) hs hash (fillL (keysL L nn n) (n - 1)) n n).2++(bstep (keysL L nn n) hs hash (fillL (keysL L nn n) (n - 1)) n n).1).map by8)]) (k:=fun vs=>vs = [.slc 0 0 2112 2112 1,.int .i64 0]) res60 rfl
  subst hvs2
  obtain⟨v,hv1,hv2⟩:=hres ρ4 _ a4.tmps m5 f5
  refine⟨v,hv1,v,ρ4,rfl,?_,hv2,?_⟩
  ·have eb:buildL hs L nn hash=nn++(bstep (keysL L nn n) hs hash (fillL (keysL L nn n) (n - 1)) n n).2++(bstep (keysL L nn n) hs hash (fillL (keysL L nn n) (n - 1)) n n).1:=by
    unfold buildL
    rw[hn]
   rw[eb]
   exact m5
  ·exact put_ext hD4 rfl rfl E2.size (E2.trans ((E3.le (Nat.zero_le _)).trans E4))
end
end Go.Proofs.Vm

namespace Go.Proofs.Vm
set_option maxRecDepth 100000
open Go.Vm
noncomputable section
structure XX where
 xr:List AV→List AV→Nat→List AV
end
end Go.Proofs.Vm

namespace Go.Proofs.Vm
set_option maxRecDepth 100000
open Go.Vm
noncomputable section
theorem xorL_comm(a b:List UInt8):xorL a b=xorL b a:=by
 unfold xorL
 rw[List.zipWith_comm]
 congr 1
 funext x y
 exact UInt8.xor_comm _ _
theorem xorL_drop(a b:List UInt8)(n:Nat):(xorL a b).drop n=xorL (a.drop n) (b.drop n):=by unfold xorL;rw[List.drop_zipWith]
theorem fill_step(L:List (List UInt8)){i:Nat}(h:i≤7):xorL (fillL L i++zs 256) ((maskL (L.getD i []) bodyW (zs 2304)).drop (2304 - 256*(i+1)))=fillL L (i+1):=by
 have hl:=fillL_length (L:=L) (show i≤8 by omega)
 show _=(maskL (L.getD i []) bodyW (fillIn i (fillL L i))).drop _
 have hi:(fillIn i (fillL L i)).length=2304:=by
  unfold fillIn
  rw[List.length_append,List.length_append,zs_length,zs_length,hl]; omega
 have ez:List.replicate 2304 (0:UInt8)=zs 2304:=by unfold zs;with_reducible rfl
 rw[mask_as _ _ (fillIn i (fillL L i)),hi,xorL_drop,xorL_comm,ez]
 refine congrArg (xorL _) ?_
 unfold fillIn
 rw[List.drop_append_of_le_length (by rw[zs_length]; omega),List.drop_of_length_le (by rw[zs_length]; omega),List.nil_append]
end
end Go.Proofs.Vm

namespace Go.Proofs.Vm
set_option maxRecDepth 100000
open Go.Vm
noncomputable section
structure VF6 where
 fil:List AV→Nat→List AV
 one:Nat→Bool
theorem zs_app(i:Nat)(K:List (List UInt8))(h:i=0):fillL K i++zs 256=zs 256:=by
 subst h
 rw[List.eq_nil_of_length_eq_zero (show(fillL K 0).length=0 from fillL_length (by omega))]
 rfl
section
variable {hc:List AV}{n c:Nat}{e:Bool}{K:List (List UInt8)}{B0 B1:List AV}
end
theorem keys_at{K:List (List UInt8)}(h:∀ x,x∈K→x.length=32):ShAt (K.flatten.map by8) 0 K.length K :=
 ⟨rfl,fun i x hx=>⟨h x (List.mem_of_getElem? hx),by rw[Nat.zero_add]; exact flat_key h hx⟩⟩
end
end Go.Proofs.Vm

namespace Go.Proofs.Vm
set_option maxRecDepth 100000
open Go.Vm
noncomputable section
structure YB where
 nx:List AV→Nat→List AV→List AV→List AV
 bd:List AV→Nat→List AV→List AV→List AV
section
variable {hc:List AV}{n c:Nat}{e:Bool}{kcs fc:List AV}{fo fl fcap:Nat}{hs:List Hop}{L:List (List UInt8)}{hash fil:List UInt8}{B0:List AV}
end
end
end Go.Proofs.Vm

namespace Go.Proofs.Vm
set_option maxRecDepth 100000
open Go.Vm
noncomputable section
theorem Weak.slot{n0:Nat}{fr:Fr}{H:Hl}{k:Nat}{x y:AV}(hn:n0≤H.length)(hk:fr[k]? = some x)(hv:VLe x y):Weak n0 fr H (fr.set k y) H where
 grow:=hn
 does ρ w hg:=by
  refine⟨ρ,hg,Ext.refl _ _ _,fun tmps h=>⟨by rw[List.length_set]; exact h.len,fun i a v ha hv2 => ?_⟩⟩
  rw[List.getElem?_set] at ha
  by_cases hki:k=i
  ·rw[if_pos hki] at ha
   split at ha
   ·cases ha
    subst hki
    exact hv ρ w v (h.at_ k x v hk hv2)
   ·cases ha
  ·rw[if_neg hki] at ha
   exact h.at_ i a v ha hv2
section
variable {hc:List AV}{n c:Nat}{e:Bool}{kcs fc:List AV}{fo fl fcap:Nat}{hs:List Hop}{L:List (List UInt8)}{hash fil:List UInt8}{B0:List AV}
end
end
end Go.Proofs.Vm

namespace Go.Proofs.Vm
set_option maxRecDepth 100000
open Go.Vm
noncomputable section
section
variable {ks hc:List AV}{n c:Nat}{e:Bool}{hs:List Hop}{ko kn kc:Nat}{ke:Bool}{H0 H1:List AV}
end
end
end Go.Proofs.Vm

namespace Go.Proofs.Vm
set_option maxRecDepth 100000
open Go.Vm
noncomputable section
end
end Go.Proofs.Vm

namespace Go.Proofs.Vm
set_option maxRecDepth 100000
open Go.Vm
noncomputable section
def keyT(k:List UInt8):List UInt8:=maskL k bodyW (zs 2304)
theorem keyT_length(k:List UInt8):(keyT k).length=2304:=by unfold keyT;rw[maskL_length,zs_length]
theorem xorL_take(a b:List UInt8)(n:Nat):(xorL a b).take n=xorL (a.take n) (b.take n):=by unfold xorL;rw[List.take_zipWith]
theorem xorL_left{a b:List UInt8}{m:Nat}(h:b.length≤m):xorL (a.take m) b=xorL a b:=by
 unfold xorL
 apply List.ext_getElem?
 intro i
 rw[List.getElem?_zipWith,List.getElem?_zipWith,List.getElem?_take]
 by_cases hi:i<m
 ·rw[if_pos hi]
 ·rw[if_neg hi,List.getElem?_eq_none (show b.length≤i by omega)]
  cases a[i]? <;> rfl
theorem xorL_twice{a b:List UInt8}(h:b.length≤a.length):xorL a (xorL a b)=b:=by
 unfold xorL
 apply List.ext_getElem?
 intro i
 rw[List.getElem?_zipWith,List.getElem?_zipWith]
 by_cases hi:i<b.length
 ·rw[List.getElem?_eq_getElem (show i<a.length by omega),List.getElem?_eq_getElem hi]
  simp only
  rw[←UInt8.xor_assoc,UInt8.xor_self,UInt8.zero_xor]
 ·rw[List.getElem?_eq_none (show b.length≤i by omega)]
  cases a[i]? <;> rfl
theorem xorL_app(a b c:List UInt8)(h:b.length≤a.length):xorL a (b++c)=xorL a b++xorL (a.drop b.length) c:=by
 have h1:xorL a b=xorL (a.take b.length) b:=(xorL_left (Nat.le_refl _)).symm
 rw[h1]
 unfold xorL
 rw[←List.zipWith_append (by rw[List.length_take]; omega),List.take_append_drop]
theorem xorL_zs{a:List UInt8}{n:Nat}(h:a.length=n):xorL a (zs n)=a:=by
 unfold xorL zs
 apply List.ext_getElem?
 intro i
 rw[List.getElem?_zipWith,List.getElem?_replicate]
 by_cases hi:i<n
 ·rw[if_pos hi,List.getElem?_eq_getElem (show i<a.length by omega)]
  simp only
  rw[UInt8.xor_zero]
 ·rw[if_neg hi,List.getElem?_eq_none (show a.length≤i by omega)]
theorem mask_T(k b:List UInt8)(h:b.length≤2304):maskL k bodyW b=xorL (keyT k) b:=by
 have e:zs 2304=zs b.length++zs (2304 - b.length):=by
  unfold zs
  rw[List.replicate_append_replicate]
  congr 1
  omega
 obtain⟨t,ht⟩:=mask_app k bodyW (zs b.length) (zs (2304 - b.length))
 have ek:keyT k=maskL k bodyW (zs b.length)++t:=by
  unfold keyT
  rw[e,ht]
 have hl:(maskL k bodyW (zs b.length)).length=b.length:=by rw[maskL_length,zs_length]
 rw[mask_as,ek,←xorL_left (a:=_++t) (Nat.le_refl b.length),List.take_append_of_le_length (by omega),List.take_of_length_le (by omega)]
 rfl
theorem take_len{α:Type}{l m:List α}{n:Nat}(h:l.length=n):(l++m).take n=l:=by rw[List.take_append_of_le_length (by omega),List.take_of_length_le (by omega)]
theorem drop_len{α:Type}{l m:List α}{n:Nat}(h:l.length=n):(l++m).drop n=m:=by rw[List.drop_append_of_le_length (by omega),List.drop_of_length_le (by omega),List.nil_append]
section
variable {L:List (List UInt8)}{hs:List Hop}{hash:List UInt8}{n:Nat}
abbrev bsB(L:List (List UInt8))(hs:List Hop)(hash:List UInt8)(n j:Nat):List UInt8:=(bstep L hs hash (fillL L (n - 1)) n j).1
abbrev bsT(L:List (List UInt8))(hs:List Hop)(hash:List UInt8)(n j:Nat):List UInt8:=(bstep L hs hash (fillL L (n - 1)) n j).2
theorem bsB_length(h8:n≤8)(hh:∀ h,h∈hs→h.L32)(j:Nat):(bsB L hs hash n j).length=2048∧(bsT L hs hash n j).length=32 :=
 bstep_length (by rw[fillL_length (show n - 1≤8 by omega)]; omega) hh j
theorem bsB_one:bsB L hs hash n 1=(maskL (L.getD (n - 1) []) bodyW (partL (hs.getD (n - 1) hop0) (zs 32)++(zs 2048).take 1792)).take (2048 - (fillL L (n - 1)).length)++fillL L (n - 1):=rfl
theorem bsB_succ(j:Nat):bsB L hs hash n (j+2)=maskL (L.getD (n - 1 - (j+1)) []) bodyW (partL (hs.getD (n - 1 - (j+1)) hop0) (bsT L hs hash n (j+1))++(bsB L hs hash n (j+1)).take 1792):=rfl
theorem bsT_succ(j:Nat):bsT L hs hash n (j+1)=btagL (L.getD (n - 1 - j) []) (bsB L hs hash n (j+1)) hash:=rfl
theorem part_len(hh:∀ h,h∈hs→h.L32)(i:Nat){nx:List UInt8}(hn:nx.length=32):(partL (hs.getD i hop0) nx).length=256:=by
 refine partL_length ?_ hn
 rw[List.getD_eq_getElem?_getD]
 cases hq:hs[i]? with
 | none=>exact hop0_32
 | some h=>exact hh h (List.mem_of_getElem? hq)
theorem fill_T{i:Nat}(h:i≤7):fillL L (i+1)=xorL ((keyT (L.getD i [])).drop (2048 - 256*i)) (fillL L i++zs 256):=by
 rw[←fill_step L h,xorL_comm,show 2304 - 256*(i+1)=2048 - 256*i by omega]
 rfl
theorem body_end(h8:n≤8)(hh:∀ h,h∈hs→h.L32):∀ j,j+1≤n→(bsB L hs hash n (j+1)).drop (2048 - 256*(n - 1 - j))=fillL L (n - 1 - j)
 | 0,hj=>by
  have hf:=fillL_length (L:=L) (show n - 1≤8 by omega)
  rw[bsB_one,Nat.sub_zero,hf]
  have hm:((maskL (L.getD (n - 1) []) bodyW (partL (hs.getD (n - 1) hop0) (zs 32)++(zs 2048).take 1792)).take (2048 - 256*(n - 1))).length=2048 - 256*(n - 1):=by
   rw[List.length_take,maskL_length,List.length_append,part_len hh _ (zs_length _),List.length_take,zs_length]; omega
  rw[List.drop_append_of_le_length (by omega),List.drop_of_length_le (by omega),List.nil_append]
 | j+1,hj=>by
  have ih:=body_end h8 hh j (by omega)
  obtain⟨i,hi⟩:∃ i,n - 1 - (j+1)=i:=⟨_,rfl⟩
  have hi2:n - 1 - j=i+1:=by omega
  rw[hi2] at ih
  rw[bsB_succ,hi]
  obtain⟨b1,b2⟩:=bsB_length (L:=L) (hash:=hash) h8 hh (j+1)
  generalize bsB L hs hash n (j+1)=B at ih b1
  generalize bsT L hs hash n (j+1)=T2 at b2
  have hp:=part_len hh i b2
  have hl:(partL (hs.getD i hop0) T2++B.take 1792).length=2048:=by rw[List.length_append,hp,List.length_take,b1]; rfl
  rw[mask_T _ _ (by omega),xorL_drop]
  have e1:(partL (hs.getD i hop0) T2++B.take 1792).drop (2048 - 256*i)=(fillL L (i+1)).take (256*i):=by
   have ed:2048 - 256*i - 256=2048 - 256*(i+1):=by omega
   have et:1792 - (2048 - 256*(i+1))=256*i:=by omega
   rw[List.drop_append,List.drop_of_length_le (by omega),List.nil_append,hp,List.drop_take,ed,et,ih]
  have hf:=fillL_length (L:=L) (show i≤8 by omega)
  rw[e1,fill_T (by omega),xorL_take,take_len hf,xorL_left (by omega)]
  refine xorL_twice ?_
  rw[List.length_drop,keyT_length,hf]
  omega
theorem layer_mid(h8:n≤8)(hh:∀ h,h∈hs→h.L32){j:Nat}(hj:j+2≤n) :
  maskL (L.getD (n - 1 - (j+1)) []) bodyW (bsB L hs hash n (j+2)++zs 256)=partL (hs.getD (n - 1 - (j+1)) hop0) (bsT L hs hash n (j+1))++bsB L hs hash n (j+1):=by
 have he:=body_end (L:=L) (hash:=hash) h8 hh j (by omega)
 obtain⟨i,hi⟩:∃ i,n - 1 - (j+1)=i:=⟨_,rfl⟩
 have hi2:n - 1 - j=i+1:=by omega
 rw[hi2] at he
 obtain⟨c1,_⟩:=bsB_length (L:=L) (hash:=hash) h8 hh (j+2)
 rw[mask_T _ _ (by rw[List.length_append,c1,zs_length]; omega),xorL_app _ _ _ (by rw[c1,keyT_length]; omega),c1,bsB_succ,hi]
 obtain⟨b1,b2⟩:=bsB_length (L:=L) (hash:=hash) h8 hh (j+1)
 generalize bsB L hs hash n (j+1)=B at he b1
 generalize bsT L hs hash n (j+1)=T2 at b2
 have hp:=part_len hh i b2
 have hl:(partL (hs.getD i hop0) T2++B.take 1792).length=2048:=by rw[List.length_append,hp,List.length_take,b1]; rfl
 have e1:xorL ((keyT (L.getD i [])).drop 2048) (zs 256)=B.drop 1792:=by
  have hf:=fillL_length (L:=L) (show i≤8 by omega)
  have e2:B.drop 1792=(fillL L (i+1)).drop (256*i):=by
   have ed2:2048 - 256*(i+1)+256*i=1792:=by omega
   rw[←he,List.drop_drop,ed2]
  have ed:2048 - 256*i+256*i=2048:=by omega
  rw[e2,fill_T (by omega),xorL_drop,List.drop_drop,drop_len hf,ed]
 rw[mask_T _ _ (by omega),xorL_twice (by rw[keyT_length]; omega),List.append_assoc,e1,List.take_append_drop]
theorem layer_last(h8:n≤8)(h1:1≤n)(hh:∀ h,h∈hs→h.L32):(maskL (L.getD (n - 1) []) bodyW (bsB L hs hash n 1++zs 256)).take 256=partL (hs.getD (n - 1) hop0) (zs 32):=by
 obtain⟨c1,_⟩:=bsB_length (L:=L) (hash:=hash) h8 hh 1
 have hf:=fillL_length (L:=L) (show n - 1≤8 by omega)
 have hp:=part_len hh (n - 1) (zs_length 32)
 have hl:(partL (hs.getD (n - 1) hop0) (zs 32)++(zs 2048).take 1792).length=2048:=by rw[List.length_append,hp,List.length_take,zs_length]; rfl
 rw[mask_T _ _ (by rw[List.length_append,c1,zs_length]; omega),xorL_take,List.take_append_of_le_length (by omega),bsB_one,hf]
 rw[List.take_append_of_le_length (by rw[List.length_take,maskL_length,hl]; omega),List.take_take,Nat.min_eq_left (by omega),mask_T _ _ (by omega),←xorL_take,xorL_twice (by rw[keyT_length]; omega),List.take_append_of_le_length (by omega),List.take_of_length_le (by omega)]
end
end
end Go.Proofs.Vm

namespace Go.Proofs.Vm
set_option maxRecDepth 100000
open Go.Vm
noncomputable section
theorem nuL_hiL:∀ (n x:Nat),x<256 ^ n→nuL (hiL n x)=x
 | 0,x,h=>by
  have:x=0:=by simpa using h
  subst this;rfl
 | n+1,x,h=>by
  rw[hiL_succ,nuL_snoc,nuL_hiL n (x / 256) (by rw[Nat.div_lt_iff_lt_mul (by omega)]; rw[Nat.pow_succ] at h;omega)]
  have:(UInt8.ofNat x).toNat=x % 256:=by rw[UInt8.toNat_ofNat']
  rw[this]
  omega
theorem sl_skip{a b:List UInt8}{o n k:Nat}(h:a.length=k)(hk:k≤o):sl (a++b) o n=sl b (o - k) n:=by
 unfold sl
 rw[List.drop_append,List.drop_of_length_le (by omega),List.nil_append,h]
theorem sl_here{c d:List UInt8}{n:Nat}(h:c.length=n):sl (c++d) 0 n=c:=by
 unfold sl
 rw[List.drop_zero,take_len h]
structure Hop.i64(h:Hop):Prop where
 am:h.am<9223372036854775808
 tot:h.tot<9223372036854775808
theorem sg_hi{n:Nat}{z:Int}(h0:0≤z)(h:z<9223372036854775808)(hn:z<(256 ^ n:Nat)):sg (nuL (hiL n z.toNat))=z:=by
 rw[nuL_hiL n z.toNat (by omega),sg_small (by omega)]
 omega
theorem read_part{h:Hop}(hl:h.L32)(hm:h.may=true)(hi:h.i64){next:List UInt8}(hn:next.length=32):readH (partL h next)=h∧readN (partL h next)=next∧readOk (partL h next)=true:=by
 obtain⟨l1,l2,l3⟩:=hl
 have k:=of_decide_eq_true hm
 obtain⟨i1,i2⟩:=hi
 have a1:=hiL_length 2 h.ch.toNat
 have a2:=hiL_length 8 h.am.toNat
 have a3:=hiL_length 4 h.ex.toNat
 have a4:=hiL_length 8 h.tot.toNat
 have a5:=hiL_length 4 h.idx.toNat
 have p2:(256:Nat) ^ 2=65536:=rfl
 have p4:(256:Nat) ^ 4=4294967296:=rfl
 have p8:(256:Nat) ^ 8=18446744073709551616:=rfl
 have s1:sl (partL h next) 0 2=hiL 2 h.ch.toNat:=sl_here a1
 have s2:sl (partL h next) 2 8=hiL 8 h.am.toNat:=by unfold partL;rw[sl_skip a1 (by omega),Nat.sub_self,sl_here a2]
 have s3:sl (partL h next) 10 4=hiL 4 h.ex.toNat:=by unfold partL;rw[sl_skip a1 (by omega),sl_skip a2 (by omega)]; exact sl_here a3
 have s4:sl (partL h next) 14 32=h.sec:=by unfold partL;rw[sl_skip a1 (by omega),sl_skip a2 (by omega),sl_skip a3 (by omega)]; exact sl_here l1
 have s5:sl (partL h next) 46 8=hiL 8 h.tot.toNat:=by unfold partL;rw[sl_skip a1 (by omega),sl_skip a2 (by omega),sl_skip a3 (by omega),sl_skip l1 (by omega)]; exact sl_here a4
 have s6:sl (partL h next) 54 32=h.set:=by unfold partL;rw[sl_skip a1 (by omega),sl_skip a2 (by omega),sl_skip a3 (by omega),sl_skip l1 (by omega),sl_skip a4 (by omega)]; exact sl_here l2
 have s7:sl (partL h next) 86 4=hiL 4 h.idx.toNat:=by unfold partL;rw[sl_skip a1 (by omega),sl_skip a2 (by omega),sl_skip a3 (by omega),sl_skip l1 (by omega),sl_skip a4 (by omega),sl_skip l2 (by omega)]; exact sl_here a5
 have s8:sl (partL h next) 90 32=h.shr:=by unfold partL;rw[sl_skip a1 (by omega),sl_skip a2 (by omega),sl_skip a3 (by omega),sl_skip l1 (by omega),sl_skip a4 (by omega),sl_skip l2 (by omega),sl_skip a5 (by omega)]; exact sl_here l3
 have s9:sl (partL h next) 122 32=next:=by unfold partL;rw[sl_skip a1 (by omega),sl_skip a2 (by omega),sl_skip a3 (by omega),sl_skip l1 (by omega),sl_skip a4 (by omega),sl_skip l2 (by omega),sl_skip a5 (by omega),sl_skip l3 (by omega)]; exact sl_here hn
 have hr:readH (partL h next)=h:=by
  unfold readH
  rw[s1,s2,s3,s4,s5,s6,s7,s8,sg_hi (by omega) (by omega) (by omega),sg_hi (by omega) (by omega) (by omega),sg_hi (by omega) (by omega) (by omega),sg_hi (by omega) (by omega) (by omega),sg_hi (by omega) (by omega) (by omega)]
 have hrn:readN (partL h next)=next:=s9
 refine⟨hr,hrn,?_⟩
 have hz:=(part_read (partL_length ⟨l1,l2,l3⟩ hn) (by rw[hr]; exact hm)).1 (by rw[hr,hrn])
 unfold readOk
 rw[hz,hr,hm]
 rfl
def pktL(L:List (List UInt8))(hs:List Hop)(nn hash:List UInt8)(i:Nat):List UInt8 :=
 let n:=hs.length
 let K:=keysL L nn n
 nonL nn i++(bsT K hs hash n (n - i)++bsB K hs hash n (n - i))
theorem pkt_zero(L:List (List UInt8))(hs:List Hop)(nn hash:List UInt8):pktL L hs nn hash 0=buildL hs L nn hash:=by
 unfold pktL buildL
 dsimp only
 rw[Nat.sub_zero,List.append_assoc]
 rfl
theorem keys_get{L:List (List UInt8)}{nn:List UInt8}{n i:Nat}(hi:i<n):(keysL L nn n).getD i []=atL (L.getD i []) (nonL nn i):=by
 unfold keysL
 rw[List.getD_eq_getElem?_getD,List.getElem?_map,List.getElem?_range hi]
 rfl
theorem okHs_at{hs:List Hop}{n i:Nat}(h:okHs hs n=true)(hi:i<n):(hs.getD i hop0).may=true∧((hs.getD i hop0).ch=0↔i=n - 1):=by
 have h1:=List.all_eq_true.1 h i (List.mem_range.2 hi)
 unfold okAt at h1
 rw[Bool.and_eq_true,beq_iff_eq,decide_eq_decide] at h1
 exact h1
theorem pkt_peel{L:List (List UInt8)}{hs:List Hop}{nn hash:List UInt8}(hnn:nn.length=32)(h8:hs.length≤8)(hh:∀ h,h∈hs→h.L32)(hi6:∀ h,h∈hs→h.i64)(hok:okHs hs hs.length=true){i:Nat}(hi:i<hs.length) :
  peelL (L.getD i []) (pktL L hs nn hash i) hash=(0,hs.getD i hop0,if i+1=hs.length then [] else pktL L hs nn hash (i+1))∧(pktL L hs nn hash i).length=2112:=by
 obtain⟨j,hj⟩:∃ j,hs.length - i=j+1:=⟨hs.length - i - 1,by omega⟩
 have hj2:hs.length - 1 - j=i:=by omega
 obtain⟨b1,b2⟩:=bsB_length (L:=keysL L nn hs.length) (hash:=hash) h8 hh (j+1)
 have n32:=non_32 hnn i
 have hk:=keys_get (L:=L) (nn:=nn) hi
 have hgm:hs.getD i hop0∈hs:=by
  rw[List.getD_eq_getElem?_getD,List.getElem?_eq_getElem hi]
  exact List.getElem_mem hi
 obtain⟨m1,m2⟩:=okHs_at hok hi
 have hp:pktL L hs nn hash i=nonL nn i++(bsT (keysL L nn hs.length) hs hash hs.length (j+1)++bsB (keysL L nn hs.length) hs hash hs.length (j+1)):=by
  unfold pktL
  dsimp only
  rw[hj]
 have hlen:(pktL L hs nn hash i).length=2112:=by
  rw[hp,List.length_append,List.length_append,n32,b1,b2]
 refine⟨?_,hlen⟩
 have hT:=bsT_succ (L:=keysL L nn hs.length) (hs:=hs) (hash:=hash) (n:=hs.length) j
 rw[hj2,hk] at hT
 have hall:∃ nx rest,nx.length=32∧(maskL (atL (L.getD i []) (nonL nn i)) bodyW (bsB (keysL L nn hs.length) hs hash hs.length (j+1)++zs 256)).take 256=partL (hs.getD i hop0) nx ∧
   (i+1≠hs.length→(maskL (atL (L.getD i []) (nonL nn i)) bodyW (bsB (keysL L nn hs.length) hs hash hs.length (j+1)++zs 256))=partL (hs.getD i hop0) nx++rest∧nx++rest=bsT (keysL L nn hs.length) hs hash hs.length j++bsB (keysL L nn hs.length) hs hash hs.length j∧rest.length=2048):=by
  cases j with
  | zero =>
   have e:=layer_last (L:=keysL L nn hs.length) (hash:=hash) h8 (by omega) hh
   have:hs.length - 1=i:=by omega
   rw[this,hk] at e
   exact⟨zs 32,[],zs_length _,e,fun h=>absurd (by omega) h⟩
  | succ j =>
   have e:=layer_mid (L:=keysL L nn hs.length) (hash:=hash) h8 hh (j:=j) (by omega)
   rw[hj2,hk] at e
   obtain⟨c1,c2⟩:=bsB_length (L:=keysL L nn hs.length) (hash:=hash) h8 hh (j+1)
   refine⟨_,_,c2,?_,fun _=>⟨e,rfl,c1⟩⟩
   rw[e]
   exact take_len (part_len hh i c2)
 obtain⟨nx,rest,hnx,ha,hb⟩:=hall
 obtain⟨r1,r2,r3⟩:=read_part (hh _ hgm) m1 (hi6 _ hgm) hnx
 generalize bsB (keysL L nn hs.length) hs hash hs.length (j+1)=B at b1 hp ha hb hT
 generalize bsT (keysL L nn hs.length) hs hash hs.length (j+1)=T at b2 hp hT
 have q1:sl (pktL L hs nn hash i) 0 32=nonL nn i:=by rw[hp]; exact sl_here n32
 have q2:sl (pktL L hs nn hash i) 32 32=T:=by rw[hp,sl_skip n32 (by omega)]; exact sl_here b2
 have q3:sl (pktL L hs nn hash i) 64 2048=B:=by
  rw[hp,sl_skip n32 (by omega),sl_skip b2 (by omega)]
  exact sl_all b1
 have t1:lkL (L.getD i []) (pktL L hs nn hash i)=atL (L.getD i []) (nonL nn i):=by unfold lkL;rw[q1]
 have t2:tagOK (L.getD i []) (pktL L hs nn hash i) hash=true:=by
  unfold tagOK
  rw[t1,q3,q2]
  exact decide_eq_true hT.symm
 have t3:allL (L.getD i []) (pktL L hs nn hash i)=maskL (atL (L.getD i []) (nonL nn i)) bodyW (B++zs 256):=by unfold allL;rw[t1,q3]; rfl
 have t4:hdL (L.getD i []) (pktL L hs nn hash i)=partL (hs.getD i hop0) nx:=by
  unfold hdL
  rw[t3,←ha]
  unfold sl
  rw[List.drop_zero]
 unfold peelL
 rw[t2,t4,r3,r1,if_neg (by simp),if_neg (by simp)]
 by_cases hl:i+1=hs.length
 ·rw[if_pos (m2.2 (by omega)),if_pos hl]
 ·rw[if_neg (fun h=>hl (by have:=m2.1 h;omega)),if_neg hl]
  obtain⟨h1,h2,h3⟩:=hb hl
  have hnext:nextL (L.getD i []) (pktL L hs nn hash i)=pktL L hs nn hash (i+1):=by
   unfold nextL
   rw[t4,r2,q1,t3,h1,sl_skip (part_len hh i hnx) (by omega),Nat.sub_self,sl_all h3,h2]
   unfold pktL
   dsimp only
   rw[show hs.length - (i+1)=j by omega]
   rfl
  rw[hnext]
end
end Go.Proofs.Vm

namespace Go.Proofs.Vm
set_option maxRecDepth 100000
open Go.Vm
noncomputable section
def P60(ks:List AV)(ko kn:Nat)(hc:List AV)(n:Nat)(ns hs:List AV):Prop:=PSh ks ko kn∧PHs hc n∧PKey ns∧PKey hs
def P63(ks:List AV)(pc:List AV)(off len:Nat)(hs:List AV):Prop:=PKey ks∧PB pc off len∧PKey hs
structure BZ where
 gd:List AV→Nat→Nat→Bool
 bl:List AV→Nat→List AV→Nat→List AV→List AV→List AV
 go:List AV→List UInt8→List AV→Bool
 hp:List AV→List UInt8→List AV→List AV
 nx:List AV→List UInt8→List AV→List AV
 er:List AV→List UInt8→List AV→Int
def cnO4(B:BZ)(Z:OZ)(O:OY)(F:HF):CnF:=cnOr (fun f vals H=>match f,vals with
 | 19,[x,y,.agg ns,.agg hs]=>match vw1 H x,vw1 H y with
  | .ros ks ko kn _ _,.ros hc 0 n _ _=>some (P60 ks ko kn hc n ns hs,.cond (B.gd hc n kn) (.ok (.tup [.slc (size H) 0 2112 2112 1,.int .i64 0]) (join H [.cells (B.bl ks ko hc n ns hs)]) []) (.ok (.tup [.nils,.int .i64 1]) H []))
  | _,_=>none
 | 20,[.agg ks,x,.agg hs]=>match vw1 H x with
  | .ros pc off len c _=>some (P63 ks pc off len hs∧len≤c,.cond (B.go ks (rdB pc off len) hs) (.ok (.tup [.agg (B.hp ks (rdB pc off len) hs),.slc (size H) 0 2112 2112 1,.int .i64 0]) (join H [.cells (B.nx ks (rdB pc off len) hs)]) []) (.ok (.tup [.agg (B.hp ks (rdB pc off len) hs),.nils,.int .i64 (B.er ks (rdB pc off len) hs)]) H []))
  | _=>none
 | _,_=>none) (cnO2 Z O F)
def keyN(k:UInt8):List UInt8:=k::0::77::List.replicate 29 0
def lk1:List AV:=(keyN 1).map by8
def lk2:List AV:=(keyN 2).map by8
def lk3:List AV:=(keyN 3).map by8
def lk4:List AV:=(keyN 4).map by8
def lvK:List AV:=(keyN 1++keyN 2).map by8
def lvHop(c a:Int):Hop:=⟨c,a,0,List.replicate 32 0,0,List.replicate 32 0,0,List.replicate 32 0⟩
def lvH:List AV:=hopC (lvHop 5 9)++hopC (lvHop 0 8)
def lvP(B:BZ):List AV:=B.bl lvK 0 lvH 2 lk3 lk4
def lvQ(B:BZ):List AV:=B.nx lk1 (rdB (lvP B) 0 2112) lk4
def lvR(B:BZ):List AV:=B.nx lk2 (rdB (lvQ B) 0 2112) lk4
def lvS(B:BZ):List AV:=B.nx lk2 (rdB (lvP B) 0 2112) lk4
def tabW(f:Nat):Option VF:=match f with
 | 8=>some vf8
 | 18=>some vf18
 | _=>none
theorem vc62(B:BZ)(Z:OZ)(O:OY)(F:HF)(Q:AV→Prop) :
  (vcall (vcA kdS (cnO4 B Z O F) noLn) ops0 tabW 200 vf8 [] [] (fun r _ _=>Q r)) =
 (((P60 lvK 0 2 lvH 2 lk3 lk4) ∧
 (Br (BZ.gd B lvH 2 2)
 (((P63 lk1 (lvP B) 0 2112 lk4) ∧
 (2112≤2112)) ∧
 (Br (BZ.go B lk1 (rdB (lvP B) 0 2112) lk4)
 (Chk (ops0.eq (ops0.len (BZ.hp B lk1 (rdB (lvP B) 0 2112) lk4)) 101)
 (Chk (own (.tup [(.agg (BZ.hp B lk1 (rdB (lvP B) 0 2112) lk4)),(.slc 6 0 2112 2112 1),(.int .i64 (.ofNat 0))]))
 (Chk (nmB 6 (.cells (lvP B)))
 (Chk (ownB (.cells (lvP B)))
 (Chk (ownB (.cells (lvQ B)))
 (Chk (nmB 5 (.cells (lvP B)))
 (Chk (ownB (.cells (lvP B)))
 (((P63 lk2 (lvQ B) 0 2112 lk4) ∧
 (2112≤2112)) ∧
 (Br (BZ.go B lk2 (rdB (lvQ B) 0 2112) lk4)
 (Chk (ops0.eq (ops0.len (BZ.hp B lk2 (rdB (lvQ B) 0 2112) lk4)) 101)
 (Chk (own (.tup [(.agg (BZ.hp B lk2 (rdB (lvQ B) 0 2112) lk4)),(.slc 9 0 2112 2112 1),(.int .i64 (.ofNat 0))]))
 (Chk (nmB 9 (.cells (lvP B)))
 (Chk (nmB 9 (.cells (lvQ B)))
 (Chk (nmB 9 (.cells (ops0.spl hopZ 0 (BZ.hp B lk1 (rdB (lvP B) 0 2112) lk4))))
 (Chk (ownB (.cells (lvP B)))
 (Chk (ownB (.cells (lvQ B)))
 (Chk (ownB (.cells (ops0.spl hopZ 0 (BZ.hp B lk1 (rdB (lvP B) 0 2112) lk4))))
 (Chk (ownB (.cells (lvR B)))
 (Chk (nmB 8 (.cells (lvP B)))
 (Chk (nmB 8 (.cells (lvQ B)))
 (Chk (nmB 8 (.cells (ops0.spl hopZ 0 (BZ.hp B lk1 (rdB (lvP B) 0 2112) lk4))))
 (Chk (ownB (.cells (lvP B)))
 (Chk (ownB (.cells (lvQ B)))
 (Chk (ownB (.cells (ops0.spl hopZ 0 (BZ.hp B lk1 (rdB (lvP B) 0 2112) lk4))))
 (((P63 lk2 (lvP B) 0 2112 lk4) ∧
 (2112≤2112)) ∧
 (Br (BZ.go B lk2 (rdB (lvP B) 0 2112) lk4)
 (Chk (ops0.eq (ops0.len (BZ.hp B lk2 (rdB (lvP B) 0 2112) lk4)) 101)
 (Chk (own (.tup [(.agg (BZ.hp B lk2 (rdB (lvP B) 0 2112) lk4)),(.slc 12 0 2112 2112 1),(.int .i64 (.ofNat 0))]))
 (Chk (nmB 12 (.cells (lvP B)))
 (Chk (nmB 12 (.cells (lvQ B)))
 (Chk (nmB 12 (.cells (ops0.spl hopZ 0 (BZ.hp B lk1 (rdB (lvP B) 0 2112) lk4))))
 (Chk (nmB 12 (.cells (lvR B)))
 (Chk (nmB 12 (.cells (ops0.spl hopZ 0 (BZ.hp B lk2 (rdB (lvQ B) 0 2112) lk4))))
 (Chk (ownB (.cells (lvP B)))
 (Chk (ownB (.cells (lvQ B)))
 (Chk (ownB (.cells (ops0.spl hopZ 0 (BZ.hp B lk1 (rdB (lvP B) 0 2112) lk4))))
 (Chk (ownB (.cells (lvR B)))
 (Chk (ownB (.cells (ops0.spl hopZ 0 (BZ.hp B lk2 (rdB (lvQ B) 0 2112) lk4))))
 (Chk (ownB (.cells (lvS B)))
 (Chk (nmB 11 (.cells (lvP B)))
 (Chk (nmB 11 (.cells (lvQ B)))
 (Chk (nmB 11 (.cells (ops0.spl hopZ 0 (BZ.hp B lk1 (rdB (lvP B) 0 2112) lk4))))
 (Chk (nmB 11 (.cells (lvR B)))
 (Chk (nmB 11 (.cells (ops0.spl hopZ 0 (BZ.hp B lk2 (rdB (lvQ B) 0 2112) lk4))))
 (Chk (ownB (.cells (lvP B)))
 (Chk (ownB (.cells (lvQ B)))
 (Chk (ownB (.cells (ops0.spl hopZ 0 (BZ.hp B lk1 (rdB (lvP B) 0 2112) lk4))))
 (Chk (ownB (.cells (lvR B)))
 (Chk (ownB (.cells (ops0.spl hopZ 0 (BZ.hp B lk2 (rdB (lvQ B) 0 2112) lk4))))
 (Q (.bool Bool.false)))))))))))))))))))))))))
 (Chk (ops0.eq (ops0.len (BZ.hp B lk2 (rdB (lvP B) 0 2112) lk4)) 101)
 (Chk (own (.tup [(.agg (BZ.hp B lk2 (rdB (lvP B) 0 2112) lk4)),.nils,(.int .i64 (BZ.er B lk2 (rdB (lvP B) 0 2112) lk4))]))
 (Chk (nmB 12 (.cells (lvP B)))
 (Chk (nmB 12 (.cells (lvQ B)))
 (Chk (nmB 12 (.cells (ops0.spl hopZ 0 (BZ.hp B lk1 (rdB (lvP B) 0 2112) lk4))))
 (Chk (nmB 12 (.cells (lvR B)))
 (Chk (nmB 12 (.cells (ops0.spl hopZ 0 (BZ.hp B lk2 (rdB (lvQ B) 0 2112) lk4))))
 (Chk (ownB (.cells (lvP B)))
 (Chk (ownB (.cells (lvQ B)))
 (Chk (ownB (.cells (ops0.spl hopZ 0 (BZ.hp B lk1 (rdB (lvP B) 0 2112) lk4))))
 (Chk (ownB (.cells (lvR B)))
 (Chk (ownB (.cells (ops0.spl hopZ 0 (BZ.hp B lk2 (rdB (lvQ B) 0 2112) lk4))))
 (Chk (nmB 11 (.cells (lvP B)))
 (Chk (nmB 11 (.cells (lvQ B)))
 (Chk (nmB 11 (.cells (ops0.spl hopZ 0 (BZ.hp B lk1 (rdB (lvP B) 0 2112) lk4))))
 (Chk (nmB 11 (.cells (lvR B)))
 (Chk (nmB 11 (.cells (ops0.spl hopZ 0 (BZ.hp B lk2 (rdB (lvQ B) 0 2112) lk4))))
 (Chk (ownB (.cells (lvP B)))
 (Chk (ownB (.cells (lvQ B)))
 (Chk (ownB (.cells (ops0.spl hopZ 0 (BZ.hp B lk1 (rdB (lvP B) 0 2112) lk4))))
 (Chk (ownB (.cells (lvR B)))
 (Chk (ownB (.cells (ops0.spl hopZ 0 (BZ.hp B lk2 (rdB (lvQ B) 0 2112) lk4))))
 (Br (ops0.cmp .eql (BZ.er B lk2 (rdB (lvP B) 0 2112) lk4) (Int.ofNat 70))
 (∃ n:Int,((Nth (ops0.spl hopZ 0 (BZ.hp B lk1 (rdB (lvP B) 0 2112) lk4)) 0 (.int .i64 n)) ∧
 (Br (ops0.cmp .eql n (Int.ofNat 5))
 (∃ n1:Int,((Nth (ops0.spl hopZ 0 (BZ.hp B lk1 (rdB (lvP B) 0 2112) lk4)) 1 (.int .i64 n1)) ∧
 (Br (ops0.cmp .eql n1 (Int.ofNat 9))
 (∃ n2:Int,((Nth (ops0.spl hopZ 0 (BZ.hp B lk2 (rdB (lvQ B) 0 2112) lk4)) 1 (.int .i64 n2)) ∧
 (Br (ops0.cmp .eql n2 (Int.ofNat 8))
 (Q (.bool Bool.false))
 (Q (.bool Bool.false)))))
 (Q (.bool Bool.false)))))
 (Q (.bool Bool.false)))))
 (Q (.bool Bool.false))))))))))))))))))))))))))))))))))))))))))
 (Chk (ops0.eq (ops0.len (BZ.hp B lk2 (rdB (lvQ B) 0 2112) lk4)) 101)
 (Chk (own (.tup [(.agg (BZ.hp B lk2 (rdB (lvQ B) 0 2112) lk4)),.nils,(.int .i64 (BZ.er B lk2 (rdB (lvQ B) 0 2112) lk4))]))
 (Chk (nmB 9 (.cells (lvP B)))
 (Chk (nmB 9 (.cells (lvQ B)))
 (Chk (nmB 9 (.cells (ops0.spl hopZ 0 (BZ.hp B lk1 (rdB (lvP B) 0 2112) lk4))))
 (Chk (ownB (.cells (lvP B)))
 (Chk (ownB (.cells (lvQ B)))
 (Chk (ownB (.cells (ops0.spl hopZ 0 (BZ.hp B lk1 (rdB (lvP B) 0 2112) lk4))))
 (Chk (nmB 8 (.cells (lvP B)))
 (Chk (nmB 8 (.cells (lvQ B)))
 (Chk (nmB 8 (.cells (ops0.spl hopZ 0 (BZ.hp B lk1 (rdB (lvP B) 0 2112) lk4))))
 (Chk (ownB (.cells (lvP B)))
 (Chk (ownB (.cells (lvQ B)))
 (Chk (ownB (.cells (ops0.spl hopZ 0 (BZ.hp B lk1 (rdB (lvP B) 0 2112) lk4))))
 (((P63 lk2 (lvP B) 0 2112 lk4) ∧
 (2112≤2112)) ∧
 (Br (BZ.go B lk2 (rdB (lvP B) 0 2112) lk4)
 (Chk (ops0.eq (ops0.len (BZ.hp B lk2 (rdB (lvP B) 0 2112) lk4)) 101)
 (Chk (own (.tup [(.agg (BZ.hp B lk2 (rdB (lvP B) 0 2112) lk4)),(.slc 11 0 2112 2112 1),(.int .i64 (.ofNat 0))]))
 (Chk (nmB 11 (.cells (lvP B)))
 (Chk (nmB 11 (.cells (lvQ B)))
 (Chk (nmB 11 (.cells (ops0.spl hopZ 0 (BZ.hp B lk1 (rdB (lvP B) 0 2112) lk4))))
 (Chk (nmB 11 (.cells (ops0.spl hopZ 0 (BZ.hp B lk2 (rdB (lvQ B) 0 2112) lk4))))
 (Chk (ownB (.cells (lvP B)))
 (Chk (ownB (.cells (lvQ B)))
 (Chk (ownB (.cells (ops0.spl hopZ 0 (BZ.hp B lk1 (rdB (lvP B) 0 2112) lk4))))
 (Chk (ownB (.cells (ops0.spl hopZ 0 (BZ.hp B lk2 (rdB (lvQ B) 0 2112) lk4))))
 (Chk (ownB (.cells (lvS B)))
 (Chk (nmB 10 (.cells (lvP B)))
 (Chk (nmB 10 (.cells (lvQ B)))
 (Chk (nmB 10 (.cells (ops0.spl hopZ 0 (BZ.hp B lk1 (rdB (lvP B) 0 2112) lk4))))
 (Chk (nmB 10 (.cells (ops0.spl hopZ 0 (BZ.hp B lk2 (rdB (lvQ B) 0 2112) lk4))))
 (Chk (ownB (.cells (lvP B)))
 (Chk (ownB (.cells (lvQ B)))
 (Chk (ownB (.cells (ops0.spl hopZ 0 (BZ.hp B lk1 (rdB (lvP B) 0 2112) lk4))))
 (Chk (ownB (.cells (ops0.spl hopZ 0 (BZ.hp B lk2 (rdB (lvQ B) 0 2112) lk4))))
 (Br (ops0.cmp .eql (BZ.er B lk2 (rdB (lvQ B) 0 2112) lk4) (Int.ofNat 0))
 (Q (.bool Bool.false))
 (Q (.bool Bool.false))))))))))))))))))))))
 (Chk (ops0.eq (ops0.len (BZ.hp B lk2 (rdB (lvP B) 0 2112) lk4)) 101)
 (Chk (own (.tup [(.agg (BZ.hp B lk2 (rdB (lvP B) 0 2112) lk4)),.nils,(.int .i64 (BZ.er B lk2 (rdB (lvP B) 0 2112) lk4))]))
 (Chk (nmB 11 (.cells (lvP B)))
 (Chk (nmB 11 (.cells (lvQ B)))
 (Chk (nmB 11 (.cells (ops0.spl hopZ 0 (BZ.hp B lk1 (rdB (lvP B) 0 2112) lk4))))
 (Chk (nmB 11 (.cells (ops0.spl hopZ 0 (BZ.hp B lk2 (rdB (lvQ B) 0 2112) lk4))))
 (Chk (ownB (.cells (lvP B)))
 (Chk (ownB (.cells (lvQ B)))
 (Chk (ownB (.cells (ops0.spl hopZ 0 (BZ.hp B lk1 (rdB (lvP B) 0 2112) lk4))))
 (Chk (ownB (.cells (ops0.spl hopZ 0 (BZ.hp B lk2 (rdB (lvQ B) 0 2112) lk4))))
 (Chk (nmB 10 (.cells (lvP B)))
 (Chk (nmB 10 (.cells (lvQ B)))
 (Chk (nmB 10 (.cells (ops0.spl hopZ 0 (BZ.hp B lk1 (rdB (lvP B) 0 2112) lk4))))
 (Chk (nmB 10 (.cells (ops0.spl hopZ 0 (BZ.hp B lk2 (rdB (lvQ B) 0 2112) lk4))))
 (Chk (ownB (.cells (lvP B)))
 (Chk (ownB (.cells (lvQ B)))
 (Chk (ownB (.cells (ops0.spl hopZ 0 (BZ.hp B lk1 (rdB (lvP B) 0 2112) lk4))))
 (Chk (ownB (.cells (ops0.spl hopZ 0 (BZ.hp B lk2 (rdB (lvQ B) 0 2112) lk4))))
 (Br (ops0.cmp .eql (BZ.er B lk2 (rdB (lvQ B) 0 2112) lk4) (Int.ofNat 0))
 (Br (ops0.cmp .eql (BZ.er B lk2 (rdB (lvP B) 0 2112) lk4) (Int.ofNat 70))
 (∃ n:Int,((Nth (ops0.spl hopZ 0 (BZ.hp B lk1 (rdB (lvP B) 0 2112) lk4)) 0 (.int .i64 n)) ∧
 (Br (ops0.cmp .eql n (Int.ofNat 5))
 (∃ n1:Int,((Nth (ops0.spl hopZ 0 (BZ.hp B lk1 (rdB (lvP B) 0 2112) lk4)) 1 (.int .i64 n1)) ∧
 (Br (ops0.cmp .eql n1 (Int.ofNat 9))
 (∃ n2:Int,((Nth (ops0.spl hopZ 0 (BZ.hp B lk2 (rdB (lvQ B) 0 2112) lk4)) 1 (.int .i64 n2)) ∧
 (Br (ops0.cmp .eql n2 (Int.ofNat 8))
 (Q (.bool Bool.true))
 (Q (.bool Bool.false)))))
 (Q (.bool Bool.false)))))
 (Q (.bool Bool.false)))))
 (Q (.bool Bool.false)))
 (Q (.bool Bool.false))))))))))))))))))))))))))))))))))))))))))))))
 (Chk (ops0.eq (ops0.len (BZ.hp B lk1 (rdB (lvP B) 0 2112) lk4)) 101)
 (Chk (own (.tup [(.agg (BZ.hp B lk1 (rdB (lvP B) 0 2112) lk4)),.nils,(.int .i64 (BZ.er B lk1 (rdB (lvP B) 0 2112) lk4))]))
 (Chk (nmB 6 (.cells (lvP B)))
 (Chk (ownB (.cells (lvP B)))
 (Chk (nmB 5 (.cells (lvP B)))
 (Chk (ownB (.cells (lvP B)))
 (((P63 lk2 [] 0 0 lk4) ∧
 (0≤0)) ∧
 (Br (BZ.go B lk2 [] lk4)
 (Chk (ops0.eq (ops0.len (BZ.hp B lk2 [] lk4)) 101)
 (Chk (own (.tup [(.agg (BZ.hp B lk2 [] lk4)),(.slc 8 0 2112 2112 1),(.int .i64 (.ofNat 0))]))
 (Chk (nmB 8 (.cells (lvP B)))
 (Chk (nmB 8 (.cells (ops0.spl hopZ 0 (BZ.hp B lk1 (rdB (lvP B) 0 2112) lk4))))
 (Chk (ownB (.cells (lvP B)))
 (Chk (ownB (.cells (ops0.spl hopZ 0 (BZ.hp B lk1 (rdB (lvP B) 0 2112) lk4))))
 (Chk (ownB (.cells (BZ.nx B lk2 [] lk4)))
 (Chk (nmB 7 (.cells (lvP B)))
 (Chk (nmB 7 (.cells (ops0.spl hopZ 0 (BZ.hp B lk1 (rdB (lvP B) 0 2112) lk4))))
 (Chk (ownB (.cells (lvP B)))
 (Chk (ownB (.cells (ops0.spl hopZ 0 (BZ.hp B lk1 (rdB (lvP B) 0 2112) lk4))))
 (((P63 lk2 (lvP B) 0 2112 lk4) ∧
 (2112≤2112)) ∧
 (Br (BZ.go B lk2 (rdB (lvP B) 0 2112) lk4)
 (Chk (ops0.eq (ops0.len (BZ.hp B lk2 (rdB (lvP B) 0 2112) lk4)) 101)
 (Chk (own (.tup [(.agg (BZ.hp B lk2 (rdB (lvP B) 0 2112) lk4)),(.slc 11 0 2112 2112 1),(.int .i64 (.ofNat 0))]))
 (Chk (nmB 11 (.cells (lvP B)))
 (Chk (nmB 11 (.cells (ops0.spl hopZ 0 (BZ.hp B lk1 (rdB (lvP B) 0 2112) lk4))))
 (Chk (nmB 11 (.cells (BZ.nx B lk2 [] lk4)))
 (Chk (nmB 11 (.cells (ops0.spl hopZ 0 (BZ.hp B lk2 [] lk4))))
 (Chk (ownB (.cells (lvP B)))
 (Chk (ownB (.cells (ops0.spl hopZ 0 (BZ.hp B lk1 (rdB (lvP B) 0 2112) lk4))))
 (Chk (ownB (.cells (BZ.nx B lk2 [] lk4)))
 (Chk (ownB (.cells (ops0.spl hopZ 0 (BZ.hp B lk2 [] lk4))))
 (Chk (ownB (.cells (lvS B)))
 (Chk (nmB 10 (.cells (lvP B)))
 (Chk (nmB 10 (.cells (ops0.spl hopZ 0 (BZ.hp B lk1 (rdB (lvP B) 0 2112) lk4))))
 (Chk (nmB 10 (.cells (BZ.nx B lk2 [] lk4)))
 (Chk (nmB 10 (.cells (ops0.spl hopZ 0 (BZ.hp B lk2 [] lk4))))
 (Chk (ownB (.cells (lvP B)))
 (Chk (ownB (.cells (ops0.spl hopZ 0 (BZ.hp B lk1 (rdB (lvP B) 0 2112) lk4))))
 (Chk (ownB (.cells (BZ.nx B lk2 [] lk4)))
 (Chk (ownB (.cells (ops0.spl hopZ 0 (BZ.hp B lk2 [] lk4))))
 (Br (ops0.cmp .eql (BZ.er B lk1 (rdB (lvP B) 0 2112) lk4) (Int.ofNat 0))
 (Q (.bool Bool.false))
 (Q (.bool Bool.false))))))))))))))))))))))
 (Chk (ops0.eq (ops0.len (BZ.hp B lk2 (rdB (lvP B) 0 2112) lk4)) 101)
 (Chk (own (.tup [(.agg (BZ.hp B lk2 (rdB (lvP B) 0 2112) lk4)),.nils,(.int .i64 (BZ.er B lk2 (rdB (lvP B) 0 2112) lk4))]))
 (Chk (nmB 11 (.cells (lvP B)))
 (Chk (nmB 11 (.cells (ops0.spl hopZ 0 (BZ.hp B lk1 (rdB (lvP B) 0 2112) lk4))))
 (Chk (nmB 11 (.cells (BZ.nx B lk2 [] lk4)))
 (Chk (nmB 11 (.cells (ops0.spl hopZ 0 (BZ.hp B lk2 [] lk4))))
 (Chk (ownB (.cells (lvP B)))
 (Chk (ownB (.cells (ops0.spl hopZ 0 (BZ.hp B lk1 (rdB (lvP B) 0 2112) lk4))))
 (Chk (ownB (.cells (BZ.nx B lk2 [] lk4)))
 (Chk (ownB (.cells (ops0.spl hopZ 0 (BZ.hp B lk2 [] lk4))))
 (Chk (nmB 10 (.cells (lvP B)))
 (Chk (nmB 10 (.cells (ops0.spl hopZ 0 (BZ.hp B lk1 (rdB (lvP B) 0 2112) lk4))))
 (Chk (nmB 10 (.cells (BZ.nx B lk2 [] lk4)))
 (Chk (nmB 10 (.cells (ops0.spl hopZ 0 (BZ.hp B lk2 [] lk4))))
 (Chk (ownB (.cells (lvP B)))
 (Chk (ownB (.cells (ops0.spl hopZ 0 (BZ.hp B lk1 (rdB (lvP B) 0 2112) lk4))))
 (Chk (ownB (.cells (BZ.nx B lk2 [] lk4)))
 (Chk (ownB (.cells (ops0.spl hopZ 0 (BZ.hp B lk2 [] lk4))))
 (Br (ops0.cmp .eql (BZ.er B lk1 (rdB (lvP B) 0 2112) lk4) (Int.ofNat 0))
 (Br (ops0.cmp .eql (BZ.er B lk2 (rdB (lvP B) 0 2112) lk4) (Int.ofNat 70))
 (∃ n:Int,((Nth (ops0.spl hopZ 0 (BZ.hp B lk1 (rdB (lvP B) 0 2112) lk4)) 0 (.int .i64 n)) ∧
 (Br (ops0.cmp .eql n (Int.ofNat 5))
 (∃ n1:Int,((Nth (ops0.spl hopZ 0 (BZ.hp B lk1 (rdB (lvP B) 0 2112) lk4)) 1 (.int .i64 n1)) ∧
 (Br (ops0.cmp .eql n1 (Int.ofNat 9))
 (Q (.bool Bool.false))
 (Q (.bool Bool.false)))))
 (Q (.bool Bool.false)))))
 (Q (.bool Bool.false)))
 (Q (.bool Bool.false))))))))))))))))))))))))))))))))))
 (Chk (ops0.eq (ops0.len (BZ.hp B lk2 [] lk4)) 101)
 (Chk (own (.tup [(.agg (BZ.hp B lk2 [] lk4)),.nils,(.int .i64 (BZ.er B lk2 [] lk4))]))
 (Chk (nmB 8 (.cells (lvP B)))
 (Chk (nmB 8 (.cells (ops0.spl hopZ 0 (BZ.hp B lk1 (rdB (lvP B) 0 2112) lk4))))
 (Chk (ownB (.cells (lvP B)))
 (Chk (ownB (.cells (ops0.spl hopZ 0 (BZ.hp B lk1 (rdB (lvP B) 0 2112) lk4))))
 (Chk (nmB 7 (.cells (lvP B)))
 (Chk (nmB 7 (.cells (ops0.spl hopZ 0 (BZ.hp B lk1 (rdB (lvP B) 0 2112) lk4))))
 (Chk (ownB (.cells (lvP B)))
 (Chk (ownB (.cells (ops0.spl hopZ 0 (BZ.hp B lk1 (rdB (lvP B) 0 2112) lk4))))
 (((P63 lk2 (lvP B) 0 2112 lk4) ∧
 (2112≤2112)) ∧
 (Br (BZ.go B lk2 (rdB (lvP B) 0 2112) lk4)
 (Chk (ops0.eq (ops0.len (BZ.hp B lk2 (rdB (lvP B) 0 2112) lk4)) 101)
 (Chk (own (.tup [(.agg (BZ.hp B lk2 (rdB (lvP B) 0 2112) lk4)),(.slc 10 0 2112 2112 1),(.int .i64 (.ofNat 0))]))
 (Chk (nmB 10 (.cells (lvP B)))
 (Chk (nmB 10 (.cells (ops0.spl hopZ 0 (BZ.hp B lk1 (rdB (lvP B) 0 2112) lk4))))
 (Chk (nmB 10 (.cells (ops0.spl hopZ 0 (BZ.hp B lk2 [] lk4))))
 (Chk (ownB (.cells (lvP B)))
 (Chk (ownB (.cells (ops0.spl hopZ 0 (BZ.hp B lk1 (rdB (lvP B) 0 2112) lk4))))
 (Chk (ownB (.cells (ops0.spl hopZ 0 (BZ.hp B lk2 [] lk4))))
 (Chk (ownB (.cells (lvS B)))
 (Chk (nmB 9 (.cells (lvP B)))
 (Chk (nmB 9 (.cells (ops0.spl hopZ 0 (BZ.hp B lk1 (rdB (lvP B) 0 2112) lk4))))
 (Chk (nmB 9 (.cells (ops0.spl hopZ 0 (BZ.hp B lk2 [] lk4))))
 (Chk (ownB (.cells (lvP B)))
 (Chk (ownB (.cells (ops0.spl hopZ 0 (BZ.hp B lk1 (rdB (lvP B) 0 2112) lk4))))
 (Chk (ownB (.cells (ops0.spl hopZ 0 (BZ.hp B lk2 [] lk4))))
 (Br (ops0.cmp .eql (BZ.er B lk1 (rdB (lvP B) 0 2112) lk4) (Int.ofNat 0))
 (Br (ops0.cmp .eql (BZ.er B lk2 [] lk4) (Int.ofNat 0))
 (Q (.bool Bool.false))
 (Q (.bool Bool.false)))
 (Q (.bool Bool.false))))))))))))))))))
 (Chk (ops0.eq (ops0.len (BZ.hp B lk2 (rdB (lvP B) 0 2112) lk4)) 101)
 (Chk (own (.tup [(.agg (BZ.hp B lk2 (rdB (lvP B) 0 2112) lk4)),.nils,(.int .i64 (BZ.er B lk2 (rdB (lvP B) 0 2112) lk4))]))
 (Chk (nmB 10 (.cells (lvP B)))
 (Chk (nmB 10 (.cells (ops0.spl hopZ 0 (BZ.hp B lk1 (rdB (lvP B) 0 2112) lk4))))
 (Chk (nmB 10 (.cells (ops0.spl hopZ 0 (BZ.hp B lk2 [] lk4))))
 (Chk (ownB (.cells (lvP B)))
 (Chk (ownB (.cells (ops0.spl hopZ 0 (BZ.hp B lk1 (rdB (lvP B) 0 2112) lk4))))
 (Chk (ownB (.cells (ops0.spl hopZ 0 (BZ.hp B lk2 [] lk4))))
 (Chk (nmB 9 (.cells (lvP B)))
 (Chk (nmB 9 (.cells (ops0.spl hopZ 0 (BZ.hp B lk1 (rdB (lvP B) 0 2112) lk4))))
 (Chk (nmB 9 (.cells (ops0.spl hopZ 0 (BZ.hp B lk2 [] lk4))))
 (Chk (ownB (.cells (lvP B)))
 (Chk (ownB (.cells (ops0.spl hopZ 0 (BZ.hp B lk1 (rdB (lvP B) 0 2112) lk4))))
 (Chk (ownB (.cells (ops0.spl hopZ 0 (BZ.hp B lk2 [] lk4))))
 (Br (ops0.cmp .eql (BZ.er B lk1 (rdB (lvP B) 0 2112) lk4) (Int.ofNat 0))
 (Br (ops0.cmp .eql (BZ.er B lk2 [] lk4) (Int.ofNat 0))
 (Br (ops0.cmp .eql (BZ.er B lk2 (rdB (lvP B) 0 2112) lk4) (Int.ofNat 70))
 (∃ n:Int,((Nth (ops0.spl hopZ 0 (BZ.hp B lk1 (rdB (lvP B) 0 2112) lk4)) 0 (.int .i64 n)) ∧
 (Br (ops0.cmp .eql n (Int.ofNat 5))
 (∃ n1:Int,((Nth (ops0.spl hopZ 0 (BZ.hp B lk1 (rdB (lvP B) 0 2112) lk4)) 1 (.int .i64 n1)) ∧
 (Br (ops0.cmp .eql n1 (Int.ofNat 9))
 (Q (.bool Bool.false))
 (Q (.bool Bool.false)))))
 (Q (.bool Bool.false)))))
 (Q (.bool Bool.false)))
 (Q (.bool Bool.false)))
 (Q (.bool Bool.false)))))))))))))))))))))))))))))))))))))))
 (Q (.bool Bool.false))))):=by kernel_rfl
end
end Go.Proofs.Vm

namespace Go.Proofs.Vm
set_option maxRecDepth 100000
open Go.Vm
def W64:Nat:=18446744073709551616
def xN(a b:Nat):Nat:=(a ^^^ b) % W64
def nN(a b:Nat):Nat:=(a ^^^ (a &&& b)) % W64
def rN(a k:Nat):Nat:=((a <<< k) % W64) ||| ((a >>> (64 - k)) % W64)
theorem w64:W64=2 ^ 64:=rfl
theorem toB_of(a:Nat):(toB (Int.ofNat a)).toNat=a % 2 ^ 64:=by
 have h:toB (Int.ofNat a)=BitVec.ofNat 64 a:=BitVec.ofInt_natCast 64 a
 rw[h,BitVec.toNat_ofNat]
theorem xN_eq(a b:Nat):bin0 .xor .u64 (Int.ofNat a) (Int.ofNat b)=Int.ofNat (xN a b):=by
 rw[xor_eq,BitVec.toNat_xor,toB_of,toB_of,←Nat.xor_mod_two_pow]
 rfl
theorem nN_eq(a b:Nat):bin0 .andNot .u64 (Int.ofNat a) (Int.ofNat b)=Int.ofNat (nN a b):=by
 have h:=(toB (Int.ofNat a) &&& ~~~ toB (Int.ofNat b)).isLt
 have e:bin0 .andNot .u64 (Int.ofNat a) (Int.ofNat b)=IntKind.u64.wrap ((toB (Int.ofNat a) &&& ~~~ toB (Int.ofNat b)).toNat:Int):=rfl
 have e2:(toB (Int.ofNat a) &&& ~~~ toB (Int.ofNat b))=(toB (Int.ofNat a) ^^^ (toB (Int.ofNat a) &&& toB (Int.ofNat b))):=by
  ext i
  simp only[BitVec.getElem_and,BitVec.getElem_not,BitVec.getElem_xor]
  cases (toB (Int.ofNat a))[i]<;>cases (toB (Int.ofNat b))[i]<;>rfl
 rw[e,wrap_u64]
 have e3:((toB (Int.ofNat a) &&& ~~~ toB (Int.ofNat b)).toNat:Int)=Int.ofNat (nN a b):=by
  rw[e2,BitVec.toNat_xor,BitVec.toNat_and,toB_of,toB_of,←Nat.and_mod_two_pow,←Nat.xor_mod_two_pow]
  rfl
 rw[e3]
 have:nN a b<18446744073709551616:=Nat.mod_lt _ (by unfold W64;omega)
 simp only[Int.ofNat_eq_natCast]
 omega
theorem rN_eq(a k:Nat)(hk:k≤64):rotl (Int.ofNat a) k=Int.ofNat (rN a k):=by
 have m1:Nat.min ((k:Int)).toNat 64=k:=by
  rw[Int.toNat_natCast]
  exact Nat.min_eq_left hk
 have m2:Nat.min ((64:Int) - k).toNat 64=64 - k:=by
  rw[show((64:Int) - k).toNat=64 - k by omega]
  exact Nat.min_eq_left (by omega)
 have e1:shf0 .shl .u64 (Int.ofNat a) k=Int.ofNat ((a <<< k) % W64):=by
  show IntKind.u64.wrap (Int.ofNat a*2 ^ (Nat.min ((k:Int)).toNat 64))=_
  rw[wrap_u64,Nat.shiftLeft_eq,m1]
  simp only[Int.ofNat_eq_natCast]
  push_cast
  rfl
 have e2:shf0 .shr .u64 (Int.ofNat a) (64 - k)=Int.ofNat (a >>> (64 - k)):=by
  show(Int.ofNat a).fdiv (2 ^ (Nat.min ((64:Int) - k).toNat 64))=_
  rw[m2,Nat.shiftRight_eq_div_pow]
  simp only[Int.ofNat_eq_natCast]
  push_cast
  rw[Int.fdiv_eq_ediv_of_nonneg _ (by exact_mod_cast Nat.zero_le (2 ^ (64 - k)))]
 unfold rotl
 rw[e1,e2]
 generalize hx:(a <<< k) % W64=x
 generalize hy:a >>> (64 - k)=y
 have lx:x<2 ^ 64:=by rw[←hx]; exact Nat.mod_lt _ (by unfold W64;omega)
 have e:bin0 .or .u64 (Int.ofNat x) (Int.ofNat y)=IntKind.u64.wrap ((toB (Int.ofNat x) ||| toB (Int.ofNat y)).toNat:Int):=rfl
 rw[e,wrap_u64,BitVec.toNat_or,toB_of,toB_of,Nat.mod_eq_of_lt lx]
 have:=Nat.or_lt_two_pow lx (Nat.mod_lt y (show 0<2 ^ 64 by omega))
 unfold rN
 rw[hx,hy,w64]
 simp only[Int.ofNat_eq_natCast]
 omega
def mixN(s:List Nat)(c:Nat):List Nat :=
 match s with
 | [s0,s1,s2,s3,s4,s5,s6,s7,s8,s9,s10,s11,s12,s13,s14,s15,s16,s17,s18,s19,s20,s21,s22,s23,s24] =>
  let k0:=xN (xN (xN (xN s0 s5) s10) s15) s20
  let k1:=xN (xN (xN (xN s1 s6) s11) s16) s21
  let k2:=xN (xN (xN (xN s2 s7) s12) s17) s22
  let k3:=xN (xN (xN (xN s3 s8) s13) s18) s23
  let k4:=xN (xN (xN (xN s4 s9) s14) s19) s24
  let d0:=xN k4 (rN k1 1)
  let d1:=xN k0 (rN k2 1)
  let d2:=xN k1 (rN k3 1)
  let d3:=xN k2 (rN k4 1)
  let d4:=xN k3 (rN k0 1)
  let b0:=rN (xN s0 d0) 0
  let b10:=rN (xN s1 d1) 1
  let b20:=rN (xN s2 d2) 62
  let b5:=rN (xN s3 d3) 28
  let b15:=rN (xN s4 d4) 27
  let b16:=rN (xN s5 d0) 36
  let b1:=rN (xN s6 d1) 44
  let b11:=rN (xN s7 d2) 6
  let b21:=rN (xN s8 d3) 55
  let b6:=rN (xN s9 d4) 20
  let b7:=rN (xN s10 d0) 3
  let b17:=rN (xN s11 d1) 10
  let b2:=rN (xN s12 d2) 43
  let b12:=rN (xN s13 d3) 25
  let b22:=rN (xN s14 d4) 39
  let b23:=rN (xN s15 d0) 41
  let b8:=rN (xN s16 d1) 45
  let b18:=rN (xN s17 d2) 15
  let b3:=rN (xN s18 d3) 21
  let b13:=rN (xN s19 d4) 8
  let b14:=rN (xN s20 d0) 18
  let b24:=rN (xN s21 d1) 2
  let b9:=rN (xN s22 d2) 61
  let b19:=rN (xN s23 d3) 56
  let b4:=rN (xN s24 d4) 14
  [xN (xN b0 (nN b2 b1)) c,xN b1 (nN b3 b2),xN b2 (nN b4 b3),xN b3 (nN b0 b4),xN b4 (nN b1 b0),xN b5 (nN b7 b6),xN b6 (nN b8 b7),xN b7 (nN b9 b8),xN b8 (nN b5 b9),xN b9 (nN b6 b5),xN b10 (nN b12 b11),xN b11 (nN b13 b12),xN b12 (nN b14 b13),xN b13 (nN b10 b14),xN b14 (nN b11 b10),xN b15 (nN b17 b16),xN b16 (nN b18 b17),xN b17 (nN b19 b18),xN b18 (nN b15 b19),xN b19 (nN b16 b15),xN b20 (nN b22 b21),xN b21 (nN b23 b22),xN b22 (nN b24 b23),xN b23 (nN b20 b24),xN b24 (nN b21 b20)]
 | _ => []
theorem mix_map(S:List Nat)(c:Nat):rnd (S.map Int.ofNat) (Int.ofNat c)=(mixN S c).map Int.ofNat:=by
 have r0:=fun a=>rN_eq a 0 (by omega)
 by_cases h:S.length=25
 ·match S,h with
  | [s0,s1,s2,s3,s4,s5,s6,s7,s8,s9,s10,s11,s12,s13,s14,s15,s16,s17,s18,s19,s20,s21,s22,s23,s24],_ =>
   simp only[rnd,mixW,mixN,List.map,xN_eq,nN_eq,rN_eq _ 0 (by omega),rN_eq _ 1 (by omega),rN_eq _ 62 (by omega),rN_eq _ 28 (by omega),rN_eq _ 27 (by omega),rN_eq _ 36 (by omega),rN_eq _ 44 (by omega),rN_eq _ 6 (by omega),rN_eq _ 55 (by omega),rN_eq _ 20 (by omega),rN_eq _ 3 (by omega),rN_eq _ 10 (by omega),rN_eq _ 43 (by omega),rN_eq _ 25 (by omega),rN_eq _ 39 (by omega),rN_eq _ 41 (by omega),rN_eq _ 45 (by omega),rN_eq _ 15 (by omega),rN_eq _ 21 (by omega),rN_eq _ 8 (by omega),rN_eq _ 18 (by omega),rN_eq _ 2 (by omega),rN_eq _ 61 (by omega),rN_eq _ 56 (by omega),rN_eq _ 14 (by omega)]
 ·have e1:mixN S c = []:=by
   unfold mixN
   split
   ·simp at h
   ·rfl
  have e2:rnd (S.map Int.ofNat) (Int.ofNat c) = []:=by
   unfold rnd mixW
   split
   ·rename_i he
    have:=congrArg List.length he
    rw[List.length_map] at this
    exact absurd this h
   ·rfl
  rw[e1,e2]
  rfl
def forceN{α:Type}(x:Nat)(k:Nat→α):α:=Nat.rec (k 0) (fun m _=>k (Nat.succ m)) x
theorem forceN_eq{α:Type}(x:Nat)(k:Nat→α):forceN x k=k x:=by cases x<;>rfl
def forceL{α:Type}:List Nat→(List Nat→α)→α
 | [],k=>k []
 | x::xs,k=>forceN x fun y=>forceL xs fun ys=>k (y::ys)
theorem forceL_eq{α:Type}:∀ (l:List Nat) (k:List Nat→α),forceL l k=k l
 | [],k=>rfl
 | x::xs,k=>by
  show forceN x _=_
  rw[forceN_eq,forceL_eq xs]
def loopN:List Nat→List Nat→List Nat
 | [],s=>s
 | c::cs,s=>forceL (mixN s c) (loopN cs)
def rcsN:List Nat:=rcs.map Int.toNat
def stN(s:List Nat):List Nat:=loopN rcsN s
theorem loopN_eq:∀ (cs s:List Nat),loopN cs s=cs.foldl mixN s
 | [],s=>rfl
 | c::cs,s=>by
  show forceL _ _=_
  rw[forceL_eq,loopN_eq cs]
  rfl
theorem st_fold(s:List Int):∀ i,i≤24→st s i=(rcs.take i).foldl rnd s
 | 0,_=>rfl
 | i+1,h=>by
  have hl:i<rcs.length:=by rw[show rcs.length=24 from rfl]; omega
  show rnd (st s i) (rcs.getD i 0)=_
  rw[st_fold s i (by omega),List.take_add_one,List.getElem?_eq_getElem hl,List.foldl_append,List.getD_eq_getElem?_getD,List.getElem?_eq_getElem hl]
  rfl
theorem fold_map:∀ (cs s:List Nat),(cs.map Int.ofNat).foldl rnd (s.map Int.ofNat)=(cs.foldl mixN s).map Int.ofNat
 | [],s=>rfl
 | c::cs,s=>by
  show(cs.map Int.ofNat).foldl rnd (rnd (s.map Int.ofNat) (Int.ofNat c))=_
  rw[mix_map,fold_map cs]
  rfl
theorem stN_eq(S:List Nat):st (S.map Int.ofNat) 24=(stN S).map Int.ofNat:=by
 have e:rcs=rcsN.map Int.ofNat:=by decide
 rw[st_fold _ 24 (Nat.le_refl _),show rcs.take 24=rcs from rfl,e,fold_map]
 unfold stN
 rw[loopN_eq]
end Go.Proofs.Vm
