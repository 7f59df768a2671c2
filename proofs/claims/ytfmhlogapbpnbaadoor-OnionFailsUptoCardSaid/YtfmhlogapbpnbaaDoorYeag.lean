/-
  KECCAK, PART 6: the document's table, and its round.
-/
import Derived.Test.YtfmhlogapbpnbaaDoorYeaf
set_option linter.unusedVariables false
set_option linter.unusedSimpArgs false
set_option linter.unusedSectionVars false

namespace Go.Proofs.Vm
set_option maxRecDepth 100000
open Go.Vm
noncomputable section
theorem all76_run:vcall (optA noCon) ops0 tabK 1000 vf63 [] [] (cutK 0)=some (.agg (byL++rcL),[],[]):=by kernel_rfl
def nw(β:BinOp→Int→Int→Int)(p q:Int):Int:=β .and (β .xor (onesOf .u64) q) p
theorem round77_0(β σ:BinOp→Int→Int→Int)(ρ:Int→Nat→Int)(s0 s1 s2 s3 s4 s5 s6 s7 s8 s9 s10 s11 s12 s13 s14 s15 s16 s17 s18 s19 s20 s21 s22 s23 s24:Int) :
  vcall (optA (rotC ρ)) (opsW β σ) (tabOne 72 vf72) 1000 vf72 [.ptr 0 0,.agg (([s0,s1,s2,s3,s4,s5,s6,s7,s8,s9,s10,s11,s12,s13,s14,s15,s16,s17,s18,s19,s20,s21,s22,s23,s24]:List Int).map w),.int .i64 (.ofNat 0)] [.cells (byL++rcL)] (cutK 1) =
   some (.agg ((mixW (β .xor) (nw β) ρ [s0,s1,s2,s3,s4,s5,s6,s7,s8,s9,s10,s11,s12,s13,s14,s15,s16,s17,s18,s19,s20,s21,s22,s23,s24] (rcs.getD 0 0)).map w),[.cells (byL++rcL)],[]):=by kernel_rfl
theorem round77_1(β σ:BinOp→Int→Int→Int)(ρ:Int→Nat→Int)(s0 s1 s2 s3 s4 s5 s6 s7 s8 s9 s10 s11 s12 s13 s14 s15 s16 s17 s18 s19 s20 s21 s22 s23 s24:Int) :
  vcall (optA (rotC ρ)) (opsW β σ) (tabOne 72 vf72) 1000 vf72 [.ptr 0 0,.agg (([s0,s1,s2,s3,s4,s5,s6,s7,s8,s9,s10,s11,s12,s13,s14,s15,s16,s17,s18,s19,s20,s21,s22,s23,s24]:List Int).map w),.int .i64 (.ofNat 1)] [.cells (byL++rcL)] (cutK 1) =
   some (.agg ((mixW (β .xor) (nw β) ρ [s0,s1,s2,s3,s4,s5,s6,s7,s8,s9,s10,s11,s12,s13,s14,s15,s16,s17,s18,s19,s20,s21,s22,s23,s24] (rcs.getD 1 0)).map w),[.cells (byL++rcL)],[]):=by kernel_rfl
theorem round77_2(β σ:BinOp→Int→Int→Int)(ρ:Int→Nat→Int)(s0 s1 s2 s3 s4 s5 s6 s7 s8 s9 s10 s11 s12 s13 s14 s15 s16 s17 s18 s19 s20 s21 s22 s23 s24:Int) :
  vcall (optA (rotC ρ)) (opsW β σ) (tabOne 72 vf72) 1000 vf72 [.ptr 0 0,.agg (([s0,s1,s2,s3,s4,s5,s6,s7,s8,s9,s10,s11,s12,s13,s14,s15,s16,s17,s18,s19,s20,s21,s22,s23,s24]:List Int).map w),.int .i64 (.ofNat 2)] [.cells (byL++rcL)] (cutK 1) =
   some (.agg ((mixW (β .xor) (nw β) ρ [s0,s1,s2,s3,s4,s5,s6,s7,s8,s9,s10,s11,s12,s13,s14,s15,s16,s17,s18,s19,s20,s21,s22,s23,s24] (rcs.getD 2 0)).map w),[.cells (byL++rcL)],[]):=by kernel_rfl
theorem round77_3(β σ:BinOp→Int→Int→Int)(ρ:Int→Nat→Int)(s0 s1 s2 s3 s4 s5 s6 s7 s8 s9 s10 s11 s12 s13 s14 s15 s16 s17 s18 s19 s20 s21 s22 s23 s24:Int) :
  vcall (optA (rotC ρ)) (opsW β σ) (tabOne 72 vf72) 1000 vf72 [.ptr 0 0,.agg (([s0,s1,s2,s3,s4,s5,s6,s7,s8,s9,s10,s11,s12,s13,s14,s15,s16,s17,s18,s19,s20,s21,s22,s23,s24]:List Int).map w),.int .i64 (.ofNat 3)] [.cells (byL++rcL)] (cutK 1) =
   some (.agg ((mixW (β .xor) (nw β) ρ [s0,s1,s2,s3,s4,s5,s6,s7,s8,s9,s10,s11,s12,s13,s14,s15,s16,s17,s18,s19,s20,s21,s22,s23,s24] (rcs.getD 3 0)).map w),[.cells (byL++rcL)],[]):=by kernel_rfl
theorem round77_4(β σ:BinOp→Int→Int→Int)(ρ:Int→Nat→Int)(s0 s1 s2 s3 s4 s5 s6 s7 s8 s9 s10 s11 s12 s13 s14 s15 s16 s17 s18 s19 s20 s21 s22 s23 s24:Int) :
  vcall (optA (rotC ρ)) (opsW β σ) (tabOne 72 vf72) 1000 vf72 [.ptr 0 0,.agg (([s0,s1,s2,s3,s4,s5,s6,s7,s8,s9,s10,s11,s12,s13,s14,s15,s16,s17,s18,s19,s20,s21,s22,s23,s24]:List Int).map w),.int .i64 (.ofNat 4)] [.cells (byL++rcL)] (cutK 1) =
   some (.agg ((mixW (β .xor) (nw β) ρ [s0,s1,s2,s3,s4,s5,s6,s7,s8,s9,s10,s11,s12,s13,s14,s15,s16,s17,s18,s19,s20,s21,s22,s23,s24] (rcs.getD 4 0)).map w),[.cells (byL++rcL)],[]):=by kernel_rfl
theorem round77_5(β σ:BinOp→Int→Int→Int)(ρ:Int→Nat→Int)(s0 s1 s2 s3 s4 s5 s6 s7 s8 s9 s10 s11 s12 s13 s14 s15 s16 s17 s18 s19 s20 s21 s22 s23 s24:Int) :
  vcall (optA (rotC ρ)) (opsW β σ) (tabOne 72 vf72) 1000 vf72 [.ptr 0 0,.agg (([s0,s1,s2,s3,s4,s5,s6,s7,s8,s9,s10,s11,s12,s13,s14,s15,s16,s17,s18,s19,s20,s21,s22,s23,s24]:List Int).map w),.int .i64 (.ofNat 5)] [.cells (byL++rcL)] (cutK 1) =
   some (.agg ((mixW (β .xor) (nw β) ρ [s0,s1,s2,s3,s4,s5,s6,s7,s8,s9,s10,s11,s12,s13,s14,s15,s16,s17,s18,s19,s20,s21,s22,s23,s24] (rcs.getD 5 0)).map w),[.cells (byL++rcL)],[]):=by kernel_rfl
theorem round77_6(β σ:BinOp→Int→Int→Int)(ρ:Int→Nat→Int)(s0 s1 s2 s3 s4 s5 s6 s7 s8 s9 s10 s11 s12 s13 s14 s15 s16 s17 s18 s19 s20 s21 s22 s23 s24:Int) :
  vcall (optA (rotC ρ)) (opsW β σ) (tabOne 72 vf72) 1000 vf72 [.ptr 0 0,.agg (([s0,s1,s2,s3,s4,s5,s6,s7,s8,s9,s10,s11,s12,s13,s14,s15,s16,s17,s18,s19,s20,s21,s22,s23,s24]:List Int).map w),.int .i64 (.ofNat 6)] [.cells (byL++rcL)] (cutK 1) =
   some (.agg ((mixW (β .xor) (nw β) ρ [s0,s1,s2,s3,s4,s5,s6,s7,s8,s9,s10,s11,s12,s13,s14,s15,s16,s17,s18,s19,s20,s21,s22,s23,s24] (rcs.getD 6 0)).map w),[.cells (byL++rcL)],[]):=by kernel_rfl
theorem round77_7(β σ:BinOp→Int→Int→Int)(ρ:Int→Nat→Int)(s0 s1 s2 s3 s4 s5 s6 s7 s8 s9 s10 s11 s12 s13 s14 s15 s16 s17 s18 s19 s20 s21 s22 s23 s24:Int) :
  vcall (optA (rotC ρ)) (opsW β σ) (tabOne 72 vf72) 1000 vf72 [.ptr 0 0,.agg (([s0,s1,s2,s3,s4,s5,s6,s7,s8,s9,s10,s11,s12,s13,s14,s15,s16,s17,s18,s19,s20,s21,s22,s23,s24]:List Int).map w),.int .i64 (.ofNat 7)] [.cells (byL++rcL)] (cutK 1) =
   some (.agg ((mixW (β .xor) (nw β) ρ [s0,s1,s2,s3,s4,s5,s6,s7,s8,s9,s10,s11,s12,s13,s14,s15,s16,s17,s18,s19,s20,s21,s22,s23,s24] (rcs.getD 7 0)).map w),[.cells (byL++rcL)],[]):=by kernel_rfl
theorem round77_8(β σ:BinOp→Int→Int→Int)(ρ:Int→Nat→Int)(s0 s1 s2 s3 s4 s5 s6 s7 s8 s9 s10 s11 s12 s13 s14 s15 s16 s17 s18 s19 s20 s21 s22 s23 s24:Int) :
  vcall (optA (rotC ρ)) (opsW β σ) (tabOne 72 vf72) 1000 vf72 [.ptr 0 0,.agg (([s0,s1,s2,s3,s4,s5,s6,s7,s8,s9,s10,s11,s12,s13,s14,s15,s16,s17,s18,s19,s20,s21,s22,s23,s24]:List Int).map w),.int .i64 (.ofNat 8)] [.cells (byL++rcL)] (cutK 1) =
   some (.agg ((mixW (β .xor) (nw β) ρ [s0,s1,s2,s3,s4,s5,s6,s7,s8,s9,s10,s11,s12,s13,s14,s15,s16,s17,s18,s19,s20,s21,s22,s23,s24] (rcs.getD 8 0)).map w),[.cells (byL++rcL)],[]):=by kernel_rfl
theorem round77_9(β σ:BinOp→Int→Int→Int)(ρ:Int→Nat→Int)(s0 s1 s2 s3 s4 s5 s6 s7 s8 s9 s10 s11 s12 s13 s14 s15 s16 s17 s18 s19 s20 s21 s22 s23 s24:Int) :
  vcall (optA (rotC ρ)) (opsW β σ) (tabOne 72 vf72) 1000 vf72 [.ptr 0 0,.agg (([s0,s1,s2,s3,s4,s5,s6,s7,s8,s9,s10,s11,s12,s13,s14,s15,s16,s17,s18,s19,s20,s21,s22,s23,s24]:List Int).map w),.int .i64 (.ofNat 9)] [.cells (byL++rcL)] (cutK 1) =
   some (.agg ((mixW (β .xor) (nw β) ρ [s0,s1,s2,s3,s4,s5,s6,s7,s8,s9,s10,s11,s12,s13,s14,s15,s16,s17,s18,s19,s20,s21,s22,s23,s24] (rcs.getD 9 0)).map w),[.cells (byL++rcL)],[]):=by kernel_rfl
theorem round77_10(β σ:BinOp→Int→Int→Int)(ρ:Int→Nat→Int)(s0 s1 s2 s3 s4 s5 s6 s7 s8 s9 s10 s11 s12 s13 s14 s15 s16 s17 s18 s19 s20 s21 s22 s23 s24:Int) :
  vcall (optA (rotC ρ)) (opsW β σ) (tabOne 72 vf72) 1000 vf72 [.ptr 0 0,.agg (([s0,s1,s2,s3,s4,s5,s6,s7,s8,s9,s10,s11,s12,s13,s14,s15,s16,s17,s18,s19,s20,s21,s22,s23,s24]:List Int).map w),.int .i64 (.ofNat 10)] [.cells (byL++rcL)] (cutK 1) =
   some (.agg ((mixW (β .xor) (nw β) ρ [s0,s1,s2,s3,s4,s5,s6,s7,s8,s9,s10,s11,s12,s13,s14,s15,s16,s17,s18,s19,s20,s21,s22,s23,s24] (rcs.getD 10 0)).map w),[.cells (byL++rcL)],[]):=by kernel_rfl
theorem round77_11(β σ:BinOp→Int→Int→Int)(ρ:Int→Nat→Int)(s0 s1 s2 s3 s4 s5 s6 s7 s8 s9 s10 s11 s12 s13 s14 s15 s16 s17 s18 s19 s20 s21 s22 s23 s24:Int) :
  vcall (optA (rotC ρ)) (opsW β σ) (tabOne 72 vf72) 1000 vf72 [.ptr 0 0,.agg (([s0,s1,s2,s3,s4,s5,s6,s7,s8,s9,s10,s11,s12,s13,s14,s15,s16,s17,s18,s19,s20,s21,s22,s23,s24]:List Int).map w),.int .i64 (.ofNat 11)] [.cells (byL++rcL)] (cutK 1) =
   some (.agg ((mixW (β .xor) (nw β) ρ [s0,s1,s2,s3,s4,s5,s6,s7,s8,s9,s10,s11,s12,s13,s14,s15,s16,s17,s18,s19,s20,s21,s22,s23,s24] (rcs.getD 11 0)).map w),[.cells (byL++rcL)],[]):=by kernel_rfl
theorem round77_12(β σ:BinOp→Int→Int→Int)(ρ:Int→Nat→Int)(s0 s1 s2 s3 s4 s5 s6 s7 s8 s9 s10 s11 s12 s13 s14 s15 s16 s17 s18 s19 s20 s21 s22 s23 s24:Int) :
  vcall (optA (rotC ρ)) (opsW β σ) (tabOne 72 vf72) 1000 vf72 [.ptr 0 0,.agg (([s0,s1,s2,s3,s4,s5,s6,s7,s8,s9,s10,s11,s12,s13,s14,s15,s16,s17,s18,s19,s20,s21,s22,s23,s24]:List Int).map w),.int .i64 (.ofNat 12)] [.cells (byL++rcL)] (cutK 1) =
   some (.agg ((mixW (β .xor) (nw β) ρ [s0,s1,s2,s3,s4,s5,s6,s7,s8,s9,s10,s11,s12,s13,s14,s15,s16,s17,s18,s19,s20,s21,s22,s23,s24] (rcs.getD 12 0)).map w),[.cells (byL++rcL)],[]):=by kernel_rfl
theorem round77_13(β σ:BinOp→Int→Int→Int)(ρ:Int→Nat→Int)(s0 s1 s2 s3 s4 s5 s6 s7 s8 s9 s10 s11 s12 s13 s14 s15 s16 s17 s18 s19 s20 s21 s22 s23 s24:Int) :
  vcall (optA (rotC ρ)) (opsW β σ) (tabOne 72 vf72) 1000 vf72 [.ptr 0 0,.agg (([s0,s1,s2,s3,s4,s5,s6,s7,s8,s9,s10,s11,s12,s13,s14,s15,s16,s17,s18,s19,s20,s21,s22,s23,s24]:List Int).map w),.int .i64 (.ofNat 13)] [.cells (byL++rcL)] (cutK 1) =
   some (.agg ((mixW (β .xor) (nw β) ρ [s0,s1,s2,s3,s4,s5,s6,s7,s8,s9,s10,s11,s12,s13,s14,s15,s16,s17,s18,s19,s20,s21,s22,s23,s24] (rcs.getD 13 0)).map w),[.cells (byL++rcL)],[]):=by kernel_rfl
theorem round77_14(β σ:BinOp→Int→Int→Int)(ρ:Int→Nat→Int)(s0 s1 s2 s3 s4 s5 s6 s7 s8 s9 s10 s11 s12 s13 s14 s15 s16 s17 s18 s19 s20 s21 s22 s23 s24:Int) :
  vcall (optA (rotC ρ)) (opsW β σ) (tabOne 72 vf72) 1000 vf72 [.ptr 0 0,.agg (([s0,s1,s2,s3,s4,s5,s6,s7,s8,s9,s10,s11,s12,s13,s14,s15,s16,s17,s18,s19,s20,s21,s22,s23,s24]:List Int).map w),.int .i64 (.ofNat 14)] [.cells (byL++rcL)] (cutK 1) =
   some (.agg ((mixW (β .xor) (nw β) ρ [s0,s1,s2,s3,s4,s5,s6,s7,s8,s9,s10,s11,s12,s13,s14,s15,s16,s17,s18,s19,s20,s21,s22,s23,s24] (rcs.getD 14 0)).map w),[.cells (byL++rcL)],[]):=by kernel_rfl
theorem round77_15(β σ:BinOp→Int→Int→Int)(ρ:Int→Nat→Int)(s0 s1 s2 s3 s4 s5 s6 s7 s8 s9 s10 s11 s12 s13 s14 s15 s16 s17 s18 s19 s20 s21 s22 s23 s24:Int) :
  vcall (optA (rotC ρ)) (opsW β σ) (tabOne 72 vf72) 1000 vf72 [.ptr 0 0,.agg (([s0,s1,s2,s3,s4,s5,s6,s7,s8,s9,s10,s11,s12,s13,s14,s15,s16,s17,s18,s19,s20,s21,s22,s23,s24]:List Int).map w),.int .i64 (.ofNat 15)] [.cells (byL++rcL)] (cutK 1) =
   some (.agg ((mixW (β .xor) (nw β) ρ [s0,s1,s2,s3,s4,s5,s6,s7,s8,s9,s10,s11,s12,s13,s14,s15,s16,s17,s18,s19,s20,s21,s22,s23,s24] (rcs.getD 15 0)).map w),[.cells (byL++rcL)],[]):=by kernel_rfl
theorem round77_16(β σ:BinOp→Int→Int→Int)(ρ:Int→Nat→Int)(s0 s1 s2 s3 s4 s5 s6 s7 s8 s9 s10 s11 s12 s13 s14 s15 s16 s17 s18 s19 s20 s21 s22 s23 s24:Int) :
  vcall (optA (rotC ρ)) (opsW β σ) (tabOne 72 vf72) 1000 vf72 [.ptr 0 0,.agg (([s0,s1,s2,s3,s4,s5,s6,s7,s8,s9,s10,s11,s12,s13,s14,s15,s16,s17,s18,s19,s20,s21,s22,s23,s24]:List Int).map w),.int .i64 (.ofNat 16)] [.cells (byL++rcL)] (cutK 1) =
   some (.agg ((mixW (β .xor) (nw β) ρ [s0,s1,s2,s3,s4,s5,s6,s7,s8,s9,s10,s11,s12,s13,s14,s15,s16,s17,s18,s19,s20,s21,s22,s23,s24] (rcs.getD 16 0)).map w),[.cells (byL++rcL)],[]):=by kernel_rfl
theorem round77_17(β σ:BinOp→Int→Int→Int)(ρ:Int→Nat→Int)(s0 s1 s2 s3 s4 s5 s6 s7 s8 s9 s10 s11 s12 s13 s14 s15 s16 s17 s18 s19 s20 s21 s22 s23 s24:Int) :
  vcall (optA (rotC ρ)) (opsW β σ) (tabOne 72 vf72) 1000 vf72 [.ptr 0 0,.agg (([s0,s1,s2,s3,s4,s5,s6,s7,s8,s9,s10,s11,s12,s13,s14,s15,s16,s17,s18,s19,s20,s21,s22,s23,s24]:List Int).map w),.int .i64 (.ofNat 17)] [.cells (byL++rcL)] (cutK 1) =
   some (.agg ((mixW (β .xor) (nw β) ρ [s0,s1,s2,s3,s4,s5,s6,s7,s8,s9,s10,s11,s12,s13,s14,s15,s16,s17,s18,s19,s20,s21,s22,s23,s24] (rcs.getD 17 0)).map w),[.cells (byL++rcL)],[]):=by kernel_rfl
theorem round77_18(β σ:BinOp→Int→Int→Int)(ρ:Int→Nat→Int)(s0 s1 s2 s3 s4 s5 s6 s7 s8 s9 s10 s11 s12 s13 s14 s15 s16 s17 s18 s19 s20 s21 s22 s23 s24:Int) :
  vcall (optA (rotC ρ)) (opsW β σ) (tabOne 72 vf72) 1000 vf72 [.ptr 0 0,.agg (([s0,s1,s2,s3,s4,s5,s6,s7,s8,s9,s10,s11,s12,s13,s14,s15,s16,s17,s18,s19,s20,s21,s22,s23,s24]:List Int).map w),.int .i64 (.ofNat 18)] [.cells (byL++rcL)] (cutK 1) =
   some (.agg ((mixW (β .xor) (nw β) ρ [s0,s1,s2,s3,s4,s5,s6,s7,s8,s9,s10,s11,s12,s13,s14,s15,s16,s17,s18,s19,s20,s21,s22,s23,s24] (rcs.getD 18 0)).map w),[.cells (byL++rcL)],[]):=by kernel_rfl
theorem round77_19(β σ:BinOp→Int→Int→Int)(ρ:Int→Nat→Int)(s0 s1 s2 s3 s4 s5 s6 s7 s8 s9 s10 s11 s12 s13 s14 s15 s16 s17 s18 s19 s20 s21 s22 s23 s24:Int) :
  vcall (optA (rotC ρ)) (opsW β σ) (tabOne 72 vf72) 1000 vf72 [.ptr 0 0,.agg (([s0,s1,s2,s3,s4,s5,s6,s7,s8,s9,s10,s11,s12,s13,s14,s15,s16,s17,s18,s19,s20,s21,s22,s23,s24]:List Int).map w),.int .i64 (.ofNat 19)] [.cells (byL++rcL)] (cutK 1) =
   some (.agg ((mixW (β .xor) (nw β) ρ [s0,s1,s2,s3,s4,s5,s6,s7,s8,s9,s10,s11,s12,s13,s14,s15,s16,s17,s18,s19,s20,s21,s22,s23,s24] (rcs.getD 19 0)).map w),[.cells (byL++rcL)],[]):=by kernel_rfl
theorem round77_20(β σ:BinOp→Int→Int→Int)(ρ:Int→Nat→Int)(s0 s1 s2 s3 s4 s5 s6 s7 s8 s9 s10 s11 s12 s13 s14 s15 s16 s17 s18 s19 s20 s21 s22 s23 s24:Int) :
  vcall (optA (rotC ρ)) (opsW β σ) (tabOne 72 vf72) 1000 vf72 [.ptr 0 0,.agg (([s0,s1,s2,s3,s4,s5,s6,s7,s8,s9,s10,s11,s12,s13,s14,s15,s16,s17,s18,s19,s20,s21,s22,s23,s24]:List Int).map w),.int .i64 (.ofNat 20)] [.cells (byL++rcL)] (cutK 1) =
   some (.agg ((mixW (β .xor) (nw β) ρ [s0,s1,s2,s3,s4,s5,s6,s7,s8,s9,s10,s11,s12,s13,s14,s15,s16,s17,s18,s19,s20,s21,s22,s23,s24] (rcs.getD 20 0)).map w),[.cells (byL++rcL)],[]):=by kernel_rfl
theorem round77_21(β σ:BinOp→Int→Int→Int)(ρ:Int→Nat→Int)(s0 s1 s2 s3 s4 s5 s6 s7 s8 s9 s10 s11 s12 s13 s14 s15 s16 s17 s18 s19 s20 s21 s22 s23 s24:Int) :
  vcall (optA (rotC ρ)) (opsW β σ) (tabOne 72 vf72) 1000 vf72 [.ptr 0 0,.agg (([s0,s1,s2,s3,s4,s5,s6,s7,s8,s9,s10,s11,s12,s13,s14,s15,s16,s17,s18,s19,s20,s21,s22,s23,s24]:List Int).map w),.int .i64 (.ofNat 21)] [.cells (byL++rcL)] (cutK 1) =
   some (.agg ((mixW (β .xor) (nw β) ρ [s0,s1,s2,s3,s4,s5,s6,s7,s8,s9,s10,s11,s12,s13,s14,s15,s16,s17,s18,s19,s20,s21,s22,s23,s24] (rcs.getD 21 0)).map w),[.cells (byL++rcL)],[]):=by kernel_rfl
theorem round77_22(β σ:BinOp→Int→Int→Int)(ρ:Int→Nat→Int)(s0 s1 s2 s3 s4 s5 s6 s7 s8 s9 s10 s11 s12 s13 s14 s15 s16 s17 s18 s19 s20 s21 s22 s23 s24:Int) :
  vcall (optA (rotC ρ)) (opsW β σ) (tabOne 72 vf72) 1000 vf72 [.ptr 0 0,.agg (([s0,s1,s2,s3,s4,s5,s6,s7,s8,s9,s10,s11,s12,s13,s14,s15,s16,s17,s18,s19,s20,s21,s22,s23,s24]:List Int).map w),.int .i64 (.ofNat 22)] [.cells (byL++rcL)] (cutK 1) =
   some (.agg ((mixW (β .xor) (nw β) ρ [s0,s1,s2,s3,s4,s5,s6,s7,s8,s9,s10,s11,s12,s13,s14,s15,s16,s17,s18,s19,s20,s21,s22,s23,s24] (rcs.getD 22 0)).map w),[.cells (byL++rcL)],[]):=by kernel_rfl
theorem round77_23(β σ:BinOp→Int→Int→Int)(ρ:Int→Nat→Int)(s0 s1 s2 s3 s4 s5 s6 s7 s8 s9 s10 s11 s12 s13 s14 s15 s16 s17 s18 s19 s20 s21 s22 s23 s24:Int) :
  vcall (optA (rotC ρ)) (opsW β σ) (tabOne 72 vf72) 1000 vf72 [.ptr 0 0,.agg (([s0,s1,s2,s3,s4,s5,s6,s7,s8,s9,s10,s11,s12,s13,s14,s15,s16,s17,s18,s19,s20,s21,s22,s23,s24]:List Int).map w),.int .i64 (.ofNat 23)] [.cells (byL++rcL)] (cutK 1) =
   some (.agg ((mixW (β .xor) (nw β) ρ [s0,s1,s2,s3,s4,s5,s6,s7,s8,s9,s10,s11,s12,s13,s14,s15,s16,s17,s18,s19,s20,s21,s22,s23,s24] (rcs.getD 23 0)).map w),[.cells (byL++rcL)],[]):=by kernel_rfl
theorem round77_run(β σ:BinOp→Int→Int→Int)(ρ:Int→Nat→Int)(s0 s1 s2 s3 s4 s5 s6 s7 s8 s9 s10 s11 s12 s13 s14 s15 s16 s17 s18 s19 s20 s21 s22 s23 s24:Int):∀ n,n<24 →
  vcall (optA (rotC ρ)) (opsW β σ) (tabOne 72 vf72) 1000 vf72 [.ptr 0 0,.agg (([s0,s1,s2,s3,s4,s5,s6,s7,s8,s9,s10,s11,s12,s13,s14,s15,s16,s17,s18,s19,s20,s21,s22,s23,s24]:List Int).map w),.int .i64 (.ofNat n)] [.cells (byL++rcL)] (cutK 1) =
   some (.agg ((mixW (β .xor) (nw β) ρ [s0,s1,s2,s3,s4,s5,s6,s7,s8,s9,s10,s11,s12,s13,s14,s15,s16,s17,s18,s19,s20,s21,s22,s23,s24] (rcs.getD n 0)).map w),[.cells (byL++rcL)],[])
 | 0,_=>round77_0 β σ ρ s0 s1 s2 s3 s4 s5 s6 s7 s8 s9 s10 s11 s12 s13 s14 s15 s16 s17 s18 s19 s20 s21 s22 s23 s24
 | 1,_=>round77_1 β σ ρ s0 s1 s2 s3 s4 s5 s6 s7 s8 s9 s10 s11 s12 s13 s14 s15 s16 s17 s18 s19 s20 s21 s22 s23 s24
 | 2,_=>round77_2 β σ ρ s0 s1 s2 s3 s4 s5 s6 s7 s8 s9 s10 s11 s12 s13 s14 s15 s16 s17 s18 s19 s20 s21 s22 s23 s24
 | 3,_=>round77_3 β σ ρ s0 s1 s2 s3 s4 s5 s6 s7 s8 s9 s10 s11 s12 s13 s14 s15 s16 s17 s18 s19 s20 s21 s22 s23 s24
 | 4,_=>round77_4 β σ ρ s0 s1 s2 s3 s4 s5 s6 s7 s8 s9 s10 s11 s12 s13 s14 s15 s16 s17 s18 s19 s20 s21 s22 s23 s24
 | 5,_=>round77_5 β σ ρ s0 s1 s2 s3 s4 s5 s6 s7 s8 s9 s10 s11 s12 s13 s14 s15 s16 s17 s18 s19 s20 s21 s22 s23 s24
 | 6,_=>round77_6 β σ ρ s0 s1 s2 s3 s4 s5 s6 s7 s8 s9 s10 s11 s12 s13 s14 s15 s16 s17 s18 s19 s20 s21 s22 s23 s24
 | 7,_=>round77_7 β σ ρ s0 s1 s2 s3 s4 s5 s6 s7 s8 s9 s10 s11 s12 s13 s14 s15 s16 s17 s18 s19 s20 s21 s22 s23 s24
 | 8,_=>round77_8 β σ ρ s0 s1 s2 s3 s4 s5 s6 s7 s8 s9 s10 s11 s12 s13 s14 s15 s16 s17 s18 s19 s20 s21 s22 s23 s24
 | 9,_=>round77_9 β σ ρ s0 s1 s2 s3 s4 s5 s6 s7 s8 s9 s10 s11 s12 s13 s14 s15 s16 s17 s18 s19 s20 s21 s22 s23 s24
 | 10,_=>round77_10 β σ ρ s0 s1 s2 s3 s4 s5 s6 s7 s8 s9 s10 s11 s12 s13 s14 s15 s16 s17 s18 s19 s20 s21 s22 s23 s24
 | 11,_=>round77_11 β σ ρ s0 s1 s2 s3 s4 s5 s6 s7 s8 s9 s10 s11 s12 s13 s14 s15 s16 s17 s18 s19 s20 s21 s22 s23 s24
 | 12,_=>round77_12 β σ ρ s0 s1 s2 s3 s4 s5 s6 s7 s8 s9 s10 s11 s12 s13 s14 s15 s16 s17 s18 s19 s20 s21 s22 s23 s24
 | 13,_=>round77_13 β σ ρ s0 s1 s2 s3 s4 s5 s6 s7 s8 s9 s10 s11 s12 s13 s14 s15 s16 s17 s18 s19 s20 s21 s22 s23 s24
 | 14,_=>round77_14 β σ ρ s0 s1 s2 s3 s4 s5 s6 s7 s8 s9 s10 s11 s12 s13 s14 s15 s16 s17 s18 s19 s20 s21 s22 s23 s24
 | 15,_=>round77_15 β σ ρ s0 s1 s2 s3 s4 s5 s6 s7 s8 s9 s10 s11 s12 s13 s14 s15 s16 s17 s18 s19 s20 s21 s22 s23 s24
 | 16,_=>round77_16 β σ ρ s0 s1 s2 s3 s4 s5 s6 s7 s8 s9 s10 s11 s12 s13 s14 s15 s16 s17 s18 s19 s20 s21 s22 s23 s24
 | 17,_=>round77_17 β σ ρ s0 s1 s2 s3 s4 s5 s6 s7 s8 s9 s10 s11 s12 s13 s14 s15 s16 s17 s18 s19 s20 s21 s22 s23 s24
 | 18,_=>round77_18 β σ ρ s0 s1 s2 s3 s4 s5 s6 s7 s8 s9 s10 s11 s12 s13 s14 s15 s16 s17 s18 s19 s20 s21 s22 s23 s24
 | 19,_=>round77_19 β σ ρ s0 s1 s2 s3 s4 s5 s6 s7 s8 s9 s10 s11 s12 s13 s14 s15 s16 s17 s18 s19 s20 s21 s22 s23 s24
 | 20,_=>round77_20 β σ ρ s0 s1 s2 s3 s4 s5 s6 s7 s8 s9 s10 s11 s12 s13 s14 s15 s16 s17 s18 s19 s20 s21 s22 s23 s24
 | 21,_=>round77_21 β σ ρ s0 s1 s2 s3 s4 s5 s6 s7 s8 s9 s10 s11 s12 s13 s14 s15 s16 s17 s18 s19 s20 s21 s22 s23 s24
 | 22,_=>round77_22 β σ ρ s0 s1 s2 s3 s4 s5 s6 s7 s8 s9 s10 s11 s12 s13 s14 s15 s16 s17 s18 s19 s20 s21 s22 s23 s24
 | 23,_=>round77_23 β σ ρ s0 s1 s2 s3 s4 s5 s6 s7 s8 s9 s10 s11 s12 s13 s14 s15 s16 s17 s18 s19 s20 s21 s22 s23 s24
 | n+24,h=>absurd h (by omega)
end
end Go.Proofs.Vm
