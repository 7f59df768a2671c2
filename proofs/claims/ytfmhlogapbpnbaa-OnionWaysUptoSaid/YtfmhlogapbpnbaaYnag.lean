/-
  KECCAK, PART 6: the document's table, and its round.
-/
import Derived.Test.YtfmhlogapbpnbaaYnaf
set_option linter.unusedVariables false
set_option linter.unusedSimpArgs false
set_option linter.unusedSectionVars false

namespace Go.Proofs.Vm
set_option maxRecDepth 100000
open Go.Vm
noncomputable section
theorem qt7:vcall (optA noCon) ops0 tabK 1000 vf76 [] [] (cutK 0)=some (.agg (byL++rcL),[],[]):=by kernel_rfl
def nw(β:BinOp->Int->Int->Int)(p q:Int):Int:=β .and (β .xor (qnf .u64) q) p
theorem qtt(β σ:BinOp->Int->Int->Int)(ρ:Int->Nat->Int)(s0 s1 s2 s3 s4 s5 s6 s7 s8 s9 s10 s11 s12 s13 s14 s15 s16 s17 s18 s19 s20 s21 s22 s23 s24:Int) :
  vcall (optA (rotC ρ)) (opsW β σ) (qah 77 vf77) 1000 vf77 [.ptr 0 0,.agg (([s0,s1,s2,s3,s4,s5,s6,s7,s8,s9,s10,s11,s12,s13,s14,s15,s16,s17,s18,s19,s20,s21,s22,s23,s24]:List Int).map w),.int .i64 (.ofNat 0)] [.cells (byL++rcL)] (cutK 1) =
   some (.agg ((mixW (β .xor) (nw β) ρ [s0,s1,s2,s3,s4,s5,s6,s7,s8,s9,s10,s11,s12,s13,s14,s15,s16,s17,s18,s19,s20,s21,s22,s23,s24] (rcs.getD 0 0)).map w),[.cells (byL++rcL)],[]):=by kernel_rfl
theorem qs9(β σ:BinOp->Int->Int->Int)(ρ:Int->Nat->Int)(s0 s1 s2 s3 s4 s5 s6 s7 s8 s9 s10 s11 s12 s13 s14 s15 s16 s17 s18 s19 s20 s21 s22 s23 s24:Int) :
  vcall (optA (rotC ρ)) (opsW β σ) (qah 77 vf77) 1000 vf77 [.ptr 0 0,.agg (([s0,s1,s2,s3,s4,s5,s6,s7,s8,s9,s10,s11,s12,s13,s14,s15,s16,s17,s18,s19,s20,s21,s22,s23,s24]:List Int).map w),.int .i64 (.ofNat 1)] [.cells (byL++rcL)] (cutK 1) =
   some (.agg ((mixW (β .xor) (nw β) ρ [s0,s1,s2,s3,s4,s5,s6,s7,s8,s9,s10,s11,s12,s13,s14,s15,s16,s17,s18,s19,s20,s21,s22,s23,s24] (rcs.getD 1 0)).map w),[.cells (byL++rcL)],[]):=by kernel_rfl
theorem qui(β σ:BinOp->Int->Int->Int)(ρ:Int->Nat->Int)(s0 s1 s2 s3 s4 s5 s6 s7 s8 s9 s10 s11 s12 s13 s14 s15 s16 s17 s18 s19 s20 s21 s22 s23 s24:Int) :
  vcall (optA (rotC ρ)) (opsW β σ) (qah 77 vf77) 1000 vf77 [.ptr 0 0,.agg (([s0,s1,s2,s3,s4,s5,s6,s7,s8,s9,s10,s11,s12,s13,s14,s15,s16,s17,s18,s19,s20,s21,s22,s23,s24]:List Int).map w),.int .i64 (.ofNat 2)] [.cells (byL++rcL)] (cutK 1) =
   some (.agg ((mixW (β .xor) (nw β) ρ [s0,s1,s2,s3,s4,s5,s6,s7,s8,s9,s10,s11,s12,s13,s14,s15,s16,s17,s18,s19,s20,s21,s22,s23,s24] (rcs.getD 2 0)).map w),[.cells (byL++rcL)],[]):=by kernel_rfl
theorem qr9(β σ:BinOp->Int->Int->Int)(ρ:Int->Nat->Int)(s0 s1 s2 s3 s4 s5 s6 s7 s8 s9 s10 s11 s12 s13 s14 s15 s16 s17 s18 s19 s20 s21 s22 s23 s24:Int) :
  vcall (optA (rotC ρ)) (opsW β σ) (qah 77 vf77) 1000 vf77 [.ptr 0 0,.agg (([s0,s1,s2,s3,s4,s5,s6,s7,s8,s9,s10,s11,s12,s13,s14,s15,s16,s17,s18,s19,s20,s21,s22,s23,s24]:List Int).map w),.int .i64 (.ofNat 3)] [.cells (byL++rcL)] (cutK 1) =
   some (.agg ((mixW (β .xor) (nw β) ρ [s0,s1,s2,s3,s4,s5,s6,s7,s8,s9,s10,s11,s12,s13,s14,s15,s16,s17,s18,s19,s20,s21,s22,s23,s24] (rcs.getD 3 0)).map w),[.cells (byL++rcL)],[]):=by kernel_rfl
theorem qsk(β σ:BinOp->Int->Int->Int)(ρ:Int->Nat->Int)(s0 s1 s2 s3 s4 s5 s6 s7 s8 s9 s10 s11 s12 s13 s14 s15 s16 s17 s18 s19 s20 s21 s22 s23 s24:Int) :
  vcall (optA (rotC ρ)) (opsW β σ) (qah 77 vf77) 1000 vf77 [.ptr 0 0,.agg (([s0,s1,s2,s3,s4,s5,s6,s7,s8,s9,s10,s11,s12,s13,s14,s15,s16,s17,s18,s19,s20,s21,s22,s23,s24]:List Int).map w),.int .i64 (.ofNat 4)] [.cells (byL++rcL)] (cutK 1) =
   some (.agg ((mixW (β .xor) (nw β) ρ [s0,s1,s2,s3,s4,s5,s6,s7,s8,s9,s10,s11,s12,s13,s14,s15,s16,s17,s18,s19,s20,s21,s22,s23,s24] (rcs.getD 4 0)).map w),[.cells (byL++rcL)],[]):=by kernel_rfl
theorem qtk(β σ:BinOp->Int->Int->Int)(ρ:Int->Nat->Int)(s0 s1 s2 s3 s4 s5 s6 s7 s8 s9 s10 s11 s12 s13 s14 s15 s16 s17 s18 s19 s20 s21 s22 s23 s24:Int) :
  vcall (optA (rotC ρ)) (opsW β σ) (qah 77 vf77) 1000 vf77 [.ptr 0 0,.agg (([s0,s1,s2,s3,s4,s5,s6,s7,s8,s9,s10,s11,s12,s13,s14,s15,s16,s17,s18,s19,s20,s21,s22,s23,s24]:List Int).map w),.int .i64 (.ofNat 5)] [.cells (byL++rcL)] (cutK 1) =
   some (.agg ((mixW (β .xor) (nw β) ρ [s0,s1,s2,s3,s4,s5,s6,s7,s8,s9,s10,s11,s12,s13,s14,s15,s16,s17,s18,s19,s20,s21,s22,s23,s24] (rcs.getD 5 0)).map w),[.cells (byL++rcL)],[]):=by kernel_rfl
theorem qt6(β σ:BinOp->Int->Int->Int)(ρ:Int->Nat->Int)(s0 s1 s2 s3 s4 s5 s6 s7 s8 s9 s10 s11 s12 s13 s14 s15 s16 s17 s18 s19 s20 s21 s22 s23 s24:Int) :
  vcall (optA (rotC ρ)) (opsW β σ) (qah 77 vf77) 1000 vf77 [.ptr 0 0,.agg (([s0,s1,s2,s3,s4,s5,s6,s7,s8,s9,s10,s11,s12,s13,s14,s15,s16,s17,s18,s19,s20,s21,s22,s23,s24]:List Int).map w),.int .i64 (.ofNat 6)] [.cells (byL++rcL)] (cutK 1) =
   some (.agg ((mixW (β .xor) (nw β) ρ [s0,s1,s2,s3,s4,s5,s6,s7,s8,s9,s10,s11,s12,s13,s14,s15,s16,s17,s18,s19,s20,s21,s22,s23,s24] (rcs.getD 6 0)).map w),[.cells (byL++rcL)],[]):=by kernel_rfl
theorem qst(β σ:BinOp->Int->Int->Int)(ρ:Int->Nat->Int)(s0 s1 s2 s3 s4 s5 s6 s7 s8 s9 s10 s11 s12 s13 s14 s15 s16 s17 s18 s19 s20 s21 s22 s23 s24:Int) :
  vcall (optA (rotC ρ)) (opsW β σ) (qah 77 vf77) 1000 vf77 [.ptr 0 0,.agg (([s0,s1,s2,s3,s4,s5,s6,s7,s8,s9,s10,s11,s12,s13,s14,s15,s16,s17,s18,s19,s20,s21,s22,s23,s24]:List Int).map w),.int .i64 (.ofNat 7)] [.cells (byL++rcL)] (cutK 1) =
   some (.agg ((mixW (β .xor) (nw β) ρ [s0,s1,s2,s3,s4,s5,s6,s7,s8,s9,s10,s11,s12,s13,s14,s15,s16,s17,s18,s19,s20,s21,s22,s23,s24] (rcs.getD 7 0)).map w),[.cells (byL++rcL)],[]):=by kernel_rfl
theorem quv(β σ:BinOp->Int->Int->Int)(ρ:Int->Nat->Int)(s0 s1 s2 s3 s4 s5 s6 s7 s8 s9 s10 s11 s12 s13 s14 s15 s16 s17 s18 s19 s20 s21 s22 s23 s24:Int) :
  vcall (optA (rotC ρ)) (opsW β σ) (qah 77 vf77) 1000 vf77 [.ptr 0 0,.agg (([s0,s1,s2,s3,s4,s5,s6,s7,s8,s9,s10,s11,s12,s13,s14,s15,s16,s17,s18,s19,s20,s21,s22,s23,s24]:List Int).map w),.int .i64 (.ofNat 8)] [.cells (byL++rcL)] (cutK 1) =
   some (.agg ((mixW (β .xor) (nw β) ρ [s0,s1,s2,s3,s4,s5,s6,s7,s8,s9,s10,s11,s12,s13,s14,s15,s16,s17,s18,s19,s20,s21,s22,s23,s24] (rcs.getD 8 0)).map w),[.cells (byL++rcL)],[]):=by kernel_rfl
theorem qud(β σ:BinOp->Int->Int->Int)(ρ:Int->Nat->Int)(s0 s1 s2 s3 s4 s5 s6 s7 s8 s9 s10 s11 s12 s13 s14 s15 s16 s17 s18 s19 s20 s21 s22 s23 s24:Int) :
  vcall (optA (rotC ρ)) (opsW β σ) (qah 77 vf77) 1000 vf77 [.ptr 0 0,.agg (([s0,s1,s2,s3,s4,s5,s6,s7,s8,s9,s10,s11,s12,s13,s14,s15,s16,s17,s18,s19,s20,s21,s22,s23,s24]:List Int).map w),.int .i64 (.ofNat 9)] [.cells (byL++rcL)] (cutK 1) =
   some (.agg ((mixW (β .xor) (nw β) ρ [s0,s1,s2,s3,s4,s5,s6,s7,s8,s9,s10,s11,s12,s13,s14,s15,s16,s17,s18,s19,s20,s21,s22,s23,s24] (rcs.getD 9 0)).map w),[.cells (byL++rcL)],[]):=by kernel_rfl
theorem qqz(β σ:BinOp->Int->Int->Int)(ρ:Int->Nat->Int)(s0 s1 s2 s3 s4 s5 s6 s7 s8 s9 s10 s11 s12 s13 s14 s15 s16 s17 s18 s19 s20 s21 s22 s23 s24:Int) :
  vcall (optA (rotC ρ)) (opsW β σ) (qah 77 vf77) 1000 vf77 [.ptr 0 0,.agg (([s0,s1,s2,s3,s4,s5,s6,s7,s8,s9,s10,s11,s12,s13,s14,s15,s16,s17,s18,s19,s20,s21,s22,s23,s24]:List Int).map w),.int .i64 (.ofNat 10)] [.cells (byL++rcL)] (cutK 1) =
   some (.agg ((mixW (β .xor) (nw β) ρ [s0,s1,s2,s3,s4,s5,s6,s7,s8,s9,s10,s11,s12,s13,s14,s15,s16,s17,s18,s19,s20,s21,s22,s23,s24] (rcs.getD 10 0)).map w),[.cells (byL++rcL)],[]):=by kernel_rfl
theorem qri(β σ:BinOp->Int->Int->Int)(ρ:Int->Nat->Int)(s0 s1 s2 s3 s4 s5 s6 s7 s8 s9 s10 s11 s12 s13 s14 s15 s16 s17 s18 s19 s20 s21 s22 s23 s24:Int) :
  vcall (optA (rotC ρ)) (opsW β σ) (qah 77 vf77) 1000 vf77 [.ptr 0 0,.agg (([s0,s1,s2,s3,s4,s5,s6,s7,s8,s9,s10,s11,s12,s13,s14,s15,s16,s17,s18,s19,s20,s21,s22,s23,s24]:List Int).map w),.int .i64 (.ofNat 11)] [.cells (byL++rcL)] (cutK 1) =
   some (.agg ((mixW (β .xor) (nw β) ρ [s0,s1,s2,s3,s4,s5,s6,s7,s8,s9,s10,s11,s12,s13,s14,s15,s16,s17,s18,s19,s20,s21,s22,s23,s24] (rcs.getD 11 0)).map w),[.cells (byL++rcL)],[]):=by kernel_rfl
theorem qre(β σ:BinOp->Int->Int->Int)(ρ:Int->Nat->Int)(s0 s1 s2 s3 s4 s5 s6 s7 s8 s9 s10 s11 s12 s13 s14 s15 s16 s17 s18 s19 s20 s21 s22 s23 s24:Int) :
  vcall (optA (rotC ρ)) (opsW β σ) (qah 77 vf77) 1000 vf77 [.ptr 0 0,.agg (([s0,s1,s2,s3,s4,s5,s6,s7,s8,s9,s10,s11,s12,s13,s14,s15,s16,s17,s18,s19,s20,s21,s22,s23,s24]:List Int).map w),.int .i64 (.ofNat 12)] [.cells (byL++rcL)] (cutK 1) =
   some (.agg ((mixW (β .xor) (nw β) ρ [s0,s1,s2,s3,s4,s5,s6,s7,s8,s9,s10,s11,s12,s13,s14,s15,s16,s17,s18,s19,s20,s21,s22,s23,s24] (rcs.getD 12 0)).map w),[.cells (byL++rcL)],[]):=by kernel_rfl
theorem qq4(β σ:BinOp->Int->Int->Int)(ρ:Int->Nat->Int)(s0 s1 s2 s3 s4 s5 s6 s7 s8 s9 s10 s11 s12 s13 s14 s15 s16 s17 s18 s19 s20 s21 s22 s23 s24:Int) :
  vcall (optA (rotC ρ)) (opsW β σ) (qah 77 vf77) 1000 vf77 [.ptr 0 0,.agg (([s0,s1,s2,s3,s4,s5,s6,s7,s8,s9,s10,s11,s12,s13,s14,s15,s16,s17,s18,s19,s20,s21,s22,s23,s24]:List Int).map w),.int .i64 (.ofNat 13)] [.cells (byL++rcL)] (cutK 1) =
   some (.agg ((mixW (β .xor) (nw β) ρ [s0,s1,s2,s3,s4,s5,s6,s7,s8,s9,s10,s11,s12,s13,s14,s15,s16,s17,s18,s19,s20,s21,s22,s23,s24] (rcs.getD 13 0)).map w),[.cells (byL++rcL)],[]):=by kernel_rfl
theorem qrf(β σ:BinOp->Int->Int->Int)(ρ:Int->Nat->Int)(s0 s1 s2 s3 s4 s5 s6 s7 s8 s9 s10 s11 s12 s13 s14 s15 s16 s17 s18 s19 s20 s21 s22 s23 s24:Int) :
  vcall (optA (rotC ρ)) (opsW β σ) (qah 77 vf77) 1000 vf77 [.ptr 0 0,.agg (([s0,s1,s2,s3,s4,s5,s6,s7,s8,s9,s10,s11,s12,s13,s14,s15,s16,s17,s18,s19,s20,s21,s22,s23,s24]:List Int).map w),.int .i64 (.ofNat 14)] [.cells (byL++rcL)] (cutK 1) =
   some (.agg ((mixW (β .xor) (nw β) ρ [s0,s1,s2,s3,s4,s5,s6,s7,s8,s9,s10,s11,s12,s13,s14,s15,s16,s17,s18,s19,s20,s21,s22,s23,s24] (rcs.getD 14 0)).map w),[.cells (byL++rcL)],[]):=by kernel_rfl
theorem qq2(β σ:BinOp->Int->Int->Int)(ρ:Int->Nat->Int)(s0 s1 s2 s3 s4 s5 s6 s7 s8 s9 s10 s11 s12 s13 s14 s15 s16 s17 s18 s19 s20 s21 s22 s23 s24:Int) :
  vcall (optA (rotC ρ)) (opsW β σ) (qah 77 vf77) 1000 vf77 [.ptr 0 0,.agg (([s0,s1,s2,s3,s4,s5,s6,s7,s8,s9,s10,s11,s12,s13,s14,s15,s16,s17,s18,s19,s20,s21,s22,s23,s24]:List Int).map w),.int .i64 (.ofNat 15)] [.cells (byL++rcL)] (cutK 1) =
   some (.agg ((mixW (β .xor) (nw β) ρ [s0,s1,s2,s3,s4,s5,s6,s7,s8,s9,s10,s11,s12,s13,s14,s15,s16,s17,s18,s19,s20,s21,s22,s23,s24] (rcs.getD 15 0)).map w),[.cells (byL++rcL)],[]):=by kernel_rfl
theorem qq6(β σ:BinOp->Int->Int->Int)(ρ:Int->Nat->Int)(s0 s1 s2 s3 s4 s5 s6 s7 s8 s9 s10 s11 s12 s13 s14 s15 s16 s17 s18 s19 s20 s21 s22 s23 s24:Int) :
  vcall (optA (rotC ρ)) (opsW β σ) (qah 77 vf77) 1000 vf77 [.ptr 0 0,.agg (([s0,s1,s2,s3,s4,s5,s6,s7,s8,s9,s10,s11,s12,s13,s14,s15,s16,s17,s18,s19,s20,s21,s22,s23,s24]:List Int).map w),.int .i64 (.ofNat 16)] [.cells (byL++rcL)] (cutK 1) =
   some (.agg ((mixW (β .xor) (nw β) ρ [s0,s1,s2,s3,s4,s5,s6,s7,s8,s9,s10,s11,s12,s13,s14,s15,s16,s17,s18,s19,s20,s21,s22,s23,s24] (rcs.getD 16 0)).map w),[.cells (byL++rcL)],[]):=by kernel_rfl
theorem qru(β σ:BinOp->Int->Int->Int)(ρ:Int->Nat->Int)(s0 s1 s2 s3 s4 s5 s6 s7 s8 s9 s10 s11 s12 s13 s14 s15 s16 s17 s18 s19 s20 s21 s22 s23 s24:Int) :
  vcall (optA (rotC ρ)) (opsW β σ) (qah 77 vf77) 1000 vf77 [.ptr 0 0,.agg (([s0,s1,s2,s3,s4,s5,s6,s7,s8,s9,s10,s11,s12,s13,s14,s15,s16,s17,s18,s19,s20,s21,s22,s23,s24]:List Int).map w),.int .i64 (.ofNat 17)] [.cells (byL++rcL)] (cutK 1) =
   some (.agg ((mixW (β .xor) (nw β) ρ [s0,s1,s2,s3,s4,s5,s6,s7,s8,s9,s10,s11,s12,s13,s14,s15,s16,s17,s18,s19,s20,s21,s22,s23,s24] (rcs.getD 17 0)).map w),[.cells (byL++rcL)],[]):=by kernel_rfl
theorem qro(β σ:BinOp->Int->Int->Int)(ρ:Int->Nat->Int)(s0 s1 s2 s3 s4 s5 s6 s7 s8 s9 s10 s11 s12 s13 s14 s15 s16 s17 s18 s19 s20 s21 s22 s23 s24:Int) :
  vcall (optA (rotC ρ)) (opsW β σ) (qah 77 vf77) 1000 vf77 [.ptr 0 0,.agg (([s0,s1,s2,s3,s4,s5,s6,s7,s8,s9,s10,s11,s12,s13,s14,s15,s16,s17,s18,s19,s20,s21,s22,s23,s24]:List Int).map w),.int .i64 (.ofNat 18)] [.cells (byL++rcL)] (cutK 1) =
   some (.agg ((mixW (β .xor) (nw β) ρ [s0,s1,s2,s3,s4,s5,s6,s7,s8,s9,s10,s11,s12,s13,s14,s15,s16,s17,s18,s19,s20,s21,s22,s23,s24] (rcs.getD 18 0)).map w),[.cells (byL++rcL)],[]):=by kernel_rfl
theorem qra(β σ:BinOp->Int->Int->Int)(ρ:Int->Nat->Int)(s0 s1 s2 s3 s4 s5 s6 s7 s8 s9 s10 s11 s12 s13 s14 s15 s16 s17 s18 s19 s20 s21 s22 s23 s24:Int) :
  vcall (optA (rotC ρ)) (opsW β σ) (qah 77 vf77) 1000 vf77 [.ptr 0 0,.agg (([s0,s1,s2,s3,s4,s5,s6,s7,s8,s9,s10,s11,s12,s13,s14,s15,s16,s17,s18,s19,s20,s21,s22,s23,s24]:List Int).map w),.int .i64 (.ofNat 19)] [.cells (byL++rcL)] (cutK 1) =
   some (.agg ((mixW (β .xor) (nw β) ρ [s0,s1,s2,s3,s4,s5,s6,s7,s8,s9,s10,s11,s12,s13,s14,s15,s16,s17,s18,s19,s20,s21,s22,s23,s24] (rcs.getD 19 0)).map w),[.cells (byL++rcL)],[]):=by kernel_rfl
theorem qqu(β σ:BinOp->Int->Int->Int)(ρ:Int->Nat->Int)(s0 s1 s2 s3 s4 s5 s6 s7 s8 s9 s10 s11 s12 s13 s14 s15 s16 s17 s18 s19 s20 s21 s22 s23 s24:Int) :
  vcall (optA (rotC ρ)) (opsW β σ) (qah 77 vf77) 1000 vf77 [.ptr 0 0,.agg (([s0,s1,s2,s3,s4,s5,s6,s7,s8,s9,s10,s11,s12,s13,s14,s15,s16,s17,s18,s19,s20,s21,s22,s23,s24]:List Int).map w),.int .i64 (.ofNat 20)] [.cells (byL++rcL)] (cutK 1) =
   some (.agg ((mixW (β .xor) (nw β) ρ [s0,s1,s2,s3,s4,s5,s6,s7,s8,s9,s10,s11,s12,s13,s14,s15,s16,s17,s18,s19,s20,s21,s22,s23,s24] (rcs.getD 20 0)).map w),[.cells (byL++rcL)],[]):=by kernel_rfl
theorem qqy(β σ:BinOp->Int->Int->Int)(ρ:Int->Nat->Int)(s0 s1 s2 s3 s4 s5 s6 s7 s8 s9 s10 s11 s12 s13 s14 s15 s16 s17 s18 s19 s20 s21 s22 s23 s24:Int) :
  vcall (optA (rotC ρ)) (opsW β σ) (qah 77 vf77) 1000 vf77 [.ptr 0 0,.agg (([s0,s1,s2,s3,s4,s5,s6,s7,s8,s9,s10,s11,s12,s13,s14,s15,s16,s17,s18,s19,s20,s21,s22,s23,s24]:List Int).map w),.int .i64 (.ofNat 21)] [.cells (byL++rcL)] (cutK 1) =
   some (.agg ((mixW (β .xor) (nw β) ρ [s0,s1,s2,s3,s4,s5,s6,s7,s8,s9,s10,s11,s12,s13,s14,s15,s16,s17,s18,s19,s20,s21,s22,s23,s24] (rcs.getD 21 0)).map w),[.cells (byL++rcL)],[]):=by kernel_rfl
theorem qrg(β σ:BinOp->Int->Int->Int)(ρ:Int->Nat->Int)(s0 s1 s2 s3 s4 s5 s6 s7 s8 s9 s10 s11 s12 s13 s14 s15 s16 s17 s18 s19 s20 s21 s22 s23 s24:Int) :
  vcall (optA (rotC ρ)) (opsW β σ) (qah 77 vf77) 1000 vf77 [.ptr 0 0,.agg (([s0,s1,s2,s3,s4,s5,s6,s7,s8,s9,s10,s11,s12,s13,s14,s15,s16,s17,s18,s19,s20,s21,s22,s23,s24]:List Int).map w),.int .i64 (.ofNat 22)] [.cells (byL++rcL)] (cutK 1) =
   some (.agg ((mixW (β .xor) (nw β) ρ [s0,s1,s2,s3,s4,s5,s6,s7,s8,s9,s10,s11,s12,s13,s14,s15,s16,s17,s18,s19,s20,s21,s22,s23,s24] (rcs.getD 22 0)).map w),[.cells (byL++rcL)],[]):=by kernel_rfl
theorem qq1(β σ:BinOp->Int->Int->Int)(ρ:Int->Nat->Int)(s0 s1 s2 s3 s4 s5 s6 s7 s8 s9 s10 s11 s12 s13 s14 s15 s16 s17 s18 s19 s20 s21 s22 s23 s24:Int) :
  vcall (optA (rotC ρ)) (opsW β σ) (qah 77 vf77) 1000 vf77 [.ptr 0 0,.agg (([s0,s1,s2,s3,s4,s5,s6,s7,s8,s9,s10,s11,s12,s13,s14,s15,s16,s17,s18,s19,s20,s21,s22,s23,s24]:List Int).map w),.int .i64 (.ofNat 23)] [.cells (byL++rcL)] (cutK 1) =
   some (.agg ((mixW (β .xor) (nw β) ρ [s0,s1,s2,s3,s4,s5,s6,s7,s8,s9,s10,s11,s12,s13,s14,s15,s16,s17,s18,s19,s20,s21,s22,s23,s24] (rcs.getD 23 0)).map w),[.cells (byL++rcL)],[]):=by kernel_rfl
theorem qnv(β σ:BinOp->Int->Int->Int)(ρ:Int->Nat->Int)(s0 s1 s2 s3 s4 s5 s6 s7 s8 s9 s10 s11 s12 s13 s14 s15 s16 s17 s18 s19 s20 s21 s22 s23 s24:Int):∀ n,n<24 ->
  vcall (optA (rotC ρ)) (opsW β σ) (qah 77 vf77) 1000 vf77 [.ptr 0 0,.agg (([s0,s1,s2,s3,s4,s5,s6,s7,s8,s9,s10,s11,s12,s13,s14,s15,s16,s17,s18,s19,s20,s21,s22,s23,s24]:List Int).map w),.int .i64 (.ofNat n)] [.cells (byL++rcL)] (cutK 1) =
   some (.agg ((mixW (β .xor) (nw β) ρ [s0,s1,s2,s3,s4,s5,s6,s7,s8,s9,s10,s11,s12,s13,s14,s15,s16,s17,s18,s19,s20,s21,s22,s23,s24] (rcs.getD n 0)).map w),[.cells (byL++rcL)],[])
 | 0,_=>qtt β σ ρ s0 s1 s2 s3 s4 s5 s6 s7 s8 s9 s10 s11 s12 s13 s14 s15 s16 s17 s18 s19 s20 s21 s22 s23 s24
 | 1,_=>qs9 β σ ρ s0 s1 s2 s3 s4 s5 s6 s7 s8 s9 s10 s11 s12 s13 s14 s15 s16 s17 s18 s19 s20 s21 s22 s23 s24
 | 2,_=>qui β σ ρ s0 s1 s2 s3 s4 s5 s6 s7 s8 s9 s10 s11 s12 s13 s14 s15 s16 s17 s18 s19 s20 s21 s22 s23 s24
 | 3,_=>qr9 β σ ρ s0 s1 s2 s3 s4 s5 s6 s7 s8 s9 s10 s11 s12 s13 s14 s15 s16 s17 s18 s19 s20 s21 s22 s23 s24
 | 4,_=>qsk β σ ρ s0 s1 s2 s3 s4 s5 s6 s7 s8 s9 s10 s11 s12 s13 s14 s15 s16 s17 s18 s19 s20 s21 s22 s23 s24
 | 5,_=>qtk β σ ρ s0 s1 s2 s3 s4 s5 s6 s7 s8 s9 s10 s11 s12 s13 s14 s15 s16 s17 s18 s19 s20 s21 s22 s23 s24
 | 6,_=>qt6 β σ ρ s0 s1 s2 s3 s4 s5 s6 s7 s8 s9 s10 s11 s12 s13 s14 s15 s16 s17 s18 s19 s20 s21 s22 s23 s24
 | 7,_=>qst β σ ρ s0 s1 s2 s3 s4 s5 s6 s7 s8 s9 s10 s11 s12 s13 s14 s15 s16 s17 s18 s19 s20 s21 s22 s23 s24
 | 8,_=>quv β σ ρ s0 s1 s2 s3 s4 s5 s6 s7 s8 s9 s10 s11 s12 s13 s14 s15 s16 s17 s18 s19 s20 s21 s22 s23 s24
 | 9,_=>qud β σ ρ s0 s1 s2 s3 s4 s5 s6 s7 s8 s9 s10 s11 s12 s13 s14 s15 s16 s17 s18 s19 s20 s21 s22 s23 s24
 | 10,_=>qqz β σ ρ s0 s1 s2 s3 s4 s5 s6 s7 s8 s9 s10 s11 s12 s13 s14 s15 s16 s17 s18 s19 s20 s21 s22 s23 s24
 | 11,_=>qri β σ ρ s0 s1 s2 s3 s4 s5 s6 s7 s8 s9 s10 s11 s12 s13 s14 s15 s16 s17 s18 s19 s20 s21 s22 s23 s24
 | 12,_=>qre β σ ρ s0 s1 s2 s3 s4 s5 s6 s7 s8 s9 s10 s11 s12 s13 s14 s15 s16 s17 s18 s19 s20 s21 s22 s23 s24
 | 13,_=>qq4 β σ ρ s0 s1 s2 s3 s4 s5 s6 s7 s8 s9 s10 s11 s12 s13 s14 s15 s16 s17 s18 s19 s20 s21 s22 s23 s24
 | 14,_=>qrf β σ ρ s0 s1 s2 s3 s4 s5 s6 s7 s8 s9 s10 s11 s12 s13 s14 s15 s16 s17 s18 s19 s20 s21 s22 s23 s24
 | 15,_=>qq2 β σ ρ s0 s1 s2 s3 s4 s5 s6 s7 s8 s9 s10 s11 s12 s13 s14 s15 s16 s17 s18 s19 s20 s21 s22 s23 s24
 | 16,_=>qq6 β σ ρ s0 s1 s2 s3 s4 s5 s6 s7 s8 s9 s10 s11 s12 s13 s14 s15 s16 s17 s18 s19 s20 s21 s22 s23 s24
 | 17,_=>qru β σ ρ s0 s1 s2 s3 s4 s5 s6 s7 s8 s9 s10 s11 s12 s13 s14 s15 s16 s17 s18 s19 s20 s21 s22 s23 s24
 | 18,_=>qro β σ ρ s0 s1 s2 s3 s4 s5 s6 s7 s8 s9 s10 s11 s12 s13 s14 s15 s16 s17 s18 s19 s20 s21 s22 s23 s24
 | 19,_=>qra β σ ρ s0 s1 s2 s3 s4 s5 s6 s7 s8 s9 s10 s11 s12 s13 s14 s15 s16 s17 s18 s19 s20 s21 s22 s23 s24
 | 20,_=>qqu β σ ρ s0 s1 s2 s3 s4 s5 s6 s7 s8 s9 s10 s11 s12 s13 s14 s15 s16 s17 s18 s19 s20 s21 s22 s23 s24
 | 21,_=>qqy β σ ρ s0 s1 s2 s3 s4 s5 s6 s7 s8 s9 s10 s11 s12 s13 s14 s15 s16 s17 s18 s19 s20 s21 s22 s23 s24
 | 22,_=>qrg β σ ρ s0 s1 s2 s3 s4 s5 s6 s7 s8 s9 s10 s11 s12 s13 s14 s15 s16 s17 s18 s19 s20 s21 s22 s23 s24
 | 23,_=>qq1 β σ ρ s0 s1 s2 s3 s4 s5 s6 s7 s8 s9 s10 s11 s12 s13 s14 s15 s16 s17 s18 s19 s20 s21 s22 s23 s24
 | n+24,h=>absurd h (by omega)
end
end Go.Proofs.Vm
