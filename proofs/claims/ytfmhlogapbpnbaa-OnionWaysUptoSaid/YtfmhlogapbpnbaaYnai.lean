/-
  KECCAK, PART 10: the rounds' constants.
-/
import Derived.Test.YtfmhlogapbpnbaaYnah
set_option linter.unusedVariables false
set_option linter.unusedSimpArgs false
set_option linter.unusedSectionVars false

namespace Go.Proofs.Vm
set_option maxRecDepth 100000
open Go.Vm
noncomputable section
def bitC:Con:=fun f vals H=>match f,vals with
 | 73,[.int .i64 (.ofNat n)]=>match Nat.blt n 168 with
  | true=>some (.int .u64 (IntKind.u64.wrap (bin0 .rem .i64 (.ofNat (reg n)) 2)),H,[])
  | false=>none
 | _,_=>none
theorem qzk:ConOK Try.prog bitC:=by
 intro f vals H r H' lg h
 unfold bitC at h
 split at h
 ·rename_i n
  split at h<;>cases h
  rename_i hn
  have hn:=(qcb _ _).1 hn
  exact CallTo.pure (H:=H) 0 (vals := [.int .i64 (.ofNat n)]) (bit73 n hn)
 ·cases h
theorem c33_0:vcall (optA bitC) ops0 (qah 33 vf33) 100 vf33 [.int .i64 (.ofNat 0)] [] (cutK 0)=some (.int .u64 (rcs.getD 0 0),[],[]):=by kernel_rfl
theorem c33_1:vcall (optA bitC) ops0 (qah 33 vf33) 100 vf33 [.int .i64 (.ofNat 1)] [] (cutK 0)=some (.int .u64 (rcs.getD 1 0),[],[]):=by kernel_rfl
theorem c33_2:vcall (optA bitC) ops0 (qah 33 vf33) 100 vf33 [.int .i64 (.ofNat 2)] [] (cutK 0)=some (.int .u64 (rcs.getD 2 0),[],[]):=by kernel_rfl
theorem c33_3:vcall (optA bitC) ops0 (qah 33 vf33) 100 vf33 [.int .i64 (.ofNat 3)] [] (cutK 0)=some (.int .u64 (rcs.getD 3 0),[],[]):=by kernel_rfl
theorem c33_4:vcall (optA bitC) ops0 (qah 33 vf33) 100 vf33 [.int .i64 (.ofNat 4)] [] (cutK 0)=some (.int .u64 (rcs.getD 4 0),[],[]):=by kernel_rfl
theorem c33_5:vcall (optA bitC) ops0 (qah 33 vf33) 100 vf33 [.int .i64 (.ofNat 5)] [] (cutK 0)=some (.int .u64 (rcs.getD 5 0),[],[]):=by kernel_rfl
theorem c33_6:vcall (optA bitC) ops0 (qah 33 vf33) 100 vf33 [.int .i64 (.ofNat 6)] [] (cutK 0)=some (.int .u64 (rcs.getD 6 0),[],[]):=by kernel_rfl
theorem c33_7:vcall (optA bitC) ops0 (qah 33 vf33) 100 vf33 [.int .i64 (.ofNat 7)] [] (cutK 0)=some (.int .u64 (rcs.getD 7 0),[],[]):=by kernel_rfl
theorem c33_8:vcall (optA bitC) ops0 (qah 33 vf33) 100 vf33 [.int .i64 (.ofNat 8)] [] (cutK 0)=some (.int .u64 (rcs.getD 8 0),[],[]):=by kernel_rfl
theorem c33_9:vcall (optA bitC) ops0 (qah 33 vf33) 100 vf33 [.int .i64 (.ofNat 9)] [] (cutK 0)=some (.int .u64 (rcs.getD 9 0),[],[]):=by kernel_rfl
theorem q4b:vcall (optA bitC) ops0 (qah 33 vf33) 100 vf33 [.int .i64 (.ofNat 10)] [] (cutK 0)=some (.int .u64 (rcs.getD 10 0),[],[]):=by kernel_rfl
theorem q4l:vcall (optA bitC) ops0 (qah 33 vf33) 100 vf33 [.int .i64 (.ofNat 11)] [] (cutK 0)=some (.int .u64 (rcs.getD 11 0),[],[]):=by kernel_rfl
theorem q13:vcall (optA bitC) ops0 (qah 33 vf33) 100 vf33 [.int .i64 (.ofNat 12)] [] (cutK 0)=some (.int .u64 (rcs.getD 12 0),[],[]):=by kernel_rfl
theorem q1v:vcall (optA bitC) ops0 (qah 33 vf33) 100 vf33 [.int .i64 (.ofNat 13)] [] (cutK 0)=some (.int .u64 (rcs.getD 13 0),[],[]):=by kernel_rfl
theorem q4k:vcall (optA bitC) ops0 (qah 33 vf33) 100 vf33 [.int .i64 (.ofNat 14)] [] (cutK 0)=some (.int .u64 (rcs.getD 14 0),[],[]):=by kernel_rfl
theorem q3c:vcall (optA bitC) ops0 (qah 33 vf33) 100 vf33 [.int .i64 (.ofNat 15)] [] (cutK 0)=some (.int .u64 (rcs.getD 15 0),[],[]):=by kernel_rfl
theorem q2g:vcall (optA bitC) ops0 (qah 33 vf33) 100 vf33 [.int .i64 (.ofNat 16)] [] (cutK 0)=some (.int .u64 (rcs.getD 16 0),[],[]):=by kernel_rfl
theorem q2x:vcall (optA bitC) ops0 (qah 33 vf33) 100 vf33 [.int .i64 (.ofNat 17)] [] (cutK 0)=some (.int .u64 (rcs.getD 17 0),[],[]):=by kernel_rfl
theorem q3h:vcall (optA bitC) ops0 (qah 33 vf33) 100 vf33 [.int .i64 (.ofNat 18)] [] (cutK 0)=some (.int .u64 (rcs.getD 18 0),[],[]):=by kernel_rfl
theorem q26:vcall (optA bitC) ops0 (qah 33 vf33) 100 vf33 [.int .i64 (.ofNat 19)] [] (cutK 0)=some (.int .u64 (rcs.getD 19 0),[],[]):=by kernel_rfl
theorem q21:vcall (optA bitC) ops0 (qah 33 vf33) 100 vf33 [.int .i64 (.ofNat 20)] [] (cutK 0)=some (.int .u64 (rcs.getD 20 0),[],[]):=by kernel_rfl
theorem q3w:vcall (optA bitC) ops0 (qah 33 vf33) 100 vf33 [.int .i64 (.ofNat 21)] [] (cutK 0)=some (.int .u64 (rcs.getD 21 0),[],[]):=by kernel_rfl
theorem q11:vcall (optA bitC) ops0 (qah 33 vf33) 100 vf33 [.int .i64 (.ofNat 22)] [] (cutK 0)=some (.int .u64 (rcs.getD 22 0),[],[]):=by kernel_rfl
theorem q1s:vcall (optA bitC) ops0 (qah 33 vf33) 100 vf33 [.int .i64 (.ofNat 23)] [] (cutK 0)=some (.int .u64 (rcs.getD 23 0),[],[]):=by kernel_rfl
theorem c32_0:vcall (optA noCon) ops0 (qah 32 vf32) 1000 vf32 [.int .i64 (.ofNat 0)] [] (cutK 0)=some (.int .u64 (rcs.getD 0 0),[],[]):=by kernel_rfl
theorem c32_1:vcall (optA noCon) ops0 (qah 32 vf32) 1000 vf32 [.int .i64 (.ofNat 1)] [] (cutK 0)=some (.int .u64 (rcs.getD 1 0),[],[]):=by kernel_rfl
theorem c32_2:vcall (optA noCon) ops0 (qah 32 vf32) 1000 vf32 [.int .i64 (.ofNat 2)] [] (cutK 0)=some (.int .u64 (rcs.getD 2 0),[],[]):=by kernel_rfl
theorem c32_3:vcall (optA noCon) ops0 (qah 32 vf32) 1000 vf32 [.int .i64 (.ofNat 3)] [] (cutK 0)=some (.int .u64 (rcs.getD 3 0),[],[]):=by kernel_rfl
theorem c32_4:vcall (optA noCon) ops0 (qah 32 vf32) 1000 vf32 [.int .i64 (.ofNat 4)] [] (cutK 0)=some (.int .u64 (rcs.getD 4 0),[],[]):=by kernel_rfl
theorem c32_5:vcall (optA noCon) ops0 (qah 32 vf32) 1000 vf32 [.int .i64 (.ofNat 5)] [] (cutK 0)=some (.int .u64 (rcs.getD 5 0),[],[]):=by kernel_rfl
theorem c32_6:vcall (optA noCon) ops0 (qah 32 vf32) 1000 vf32 [.int .i64 (.ofNat 6)] [] (cutK 0)=some (.int .u64 (rcs.getD 6 0),[],[]):=by kernel_rfl
theorem c32_7:vcall (optA noCon) ops0 (qah 32 vf32) 1000 vf32 [.int .i64 (.ofNat 7)] [] (cutK 0)=some (.int .u64 (rcs.getD 7 0),[],[]):=by kernel_rfl
theorem c32_8:vcall (optA noCon) ops0 (qah 32 vf32) 1000 vf32 [.int .i64 (.ofNat 8)] [] (cutK 0)=some (.int .u64 (rcs.getD 8 0),[],[]):=by kernel_rfl
theorem c32_9:vcall (optA noCon) ops0 (qah 32 vf32) 1000 vf32 [.int .i64 (.ofNat 9)] [] (cutK 0)=some (.int .u64 (rcs.getD 9 0),[],[]):=by kernel_rfl
theorem q3n:vcall (optA noCon) ops0 (qah 32 vf32) 1000 vf32 [.int .i64 (.ofNat 10)] [] (cutK 0)=some (.int .u64 (rcs.getD 10 0),[],[]):=by kernel_rfl
theorem q2f:vcall (optA noCon) ops0 (qah 32 vf32) 1000 vf32 [.int .i64 (.ofNat 11)] [] (cutK 0)=some (.int .u64 (rcs.getD 11 0),[],[]):=by kernel_rfl
theorem q3o:vcall (optA noCon) ops0 (qah 32 vf32) 1000 vf32 [.int .i64 (.ofNat 12)] [] (cutK 0)=some (.int .u64 (rcs.getD 12 0),[],[]):=by kernel_rfl
theorem q2i:vcall (optA noCon) ops0 (qah 32 vf32) 1000 vf32 [.int .i64 (.ofNat 13)] [] (cutK 0)=some (.int .u64 (rcs.getD 13 0),[],[]):=by kernel_rfl
theorem q3d:vcall (optA noCon) ops0 (qah 32 vf32) 1000 vf32 [.int .i64 (.ofNat 14)] [] (cutK 0)=some (.int .u64 (rcs.getD 14 0),[],[]):=by kernel_rfl
theorem q4p:vcall (optA noCon) ops0 (qah 32 vf32) 1000 vf32 [.int .i64 (.ofNat 15)] [] (cutK 0)=some (.int .u64 (rcs.getD 15 0),[],[]):=by kernel_rfl
theorem q3t:vcall (optA noCon) ops0 (qah 32 vf32) 1000 vf32 [.int .i64 (.ofNat 16)] [] (cutK 0)=some (.int .u64 (rcs.getD 16 0),[],[]):=by kernel_rfl
theorem q14:vcall (optA noCon) ops0 (qah 32 vf32) 1000 vf32 [.int .i64 (.ofNat 17)] [] (cutK 0)=some (.int .u64 (rcs.getD 17 0),[],[]):=by kernel_rfl
theorem q4f:vcall (optA noCon) ops0 (qah 32 vf32) 1000 vf32 [.int .i64 (.ofNat 18)] [] (cutK 0)=some (.int .u64 (rcs.getD 18 0),[],[]):=by kernel_rfl
theorem q1o:vcall (optA noCon) ops0 (qah 32 vf32) 1000 vf32 [.int .i64 (.ofNat 19)] [] (cutK 0)=some (.int .u64 (rcs.getD 19 0),[],[]):=by kernel_rfl
theorem q12:vcall (optA noCon) ops0 (qah 32 vf32) 1000 vf32 [.int .i64 (.ofNat 20)] [] (cutK 0)=some (.int .u64 (rcs.getD 20 0),[],[]):=by kernel_rfl
theorem q4s:vcall (optA noCon) ops0 (qah 32 vf32) 1000 vf32 [.int .i64 (.ofNat 21)] [] (cutK 0)=some (.int .u64 (rcs.getD 21 0),[],[]):=by kernel_rfl
theorem q3y:vcall (optA noCon) ops0 (qah 32 vf32) 1000 vf32 [.int .i64 (.ofNat 22)] [] (cutK 0)=some (.int .u64 (rcs.getD 22 0),[],[]):=by kernel_rfl
theorem q2c:vcall (optA noCon) ops0 (qah 32 vf32) 1000 vf32 [.int .i64 (.ofNat 23)] [] (cutK 0)=some (.int .u64 (rcs.getD 23 0),[],[]):=by kernel_rfl
theorem qyq:∀ n,n<24->vcall (optA bitC) ops0 (qah 33 vf33) 100 vf33 [.int .i64 (.ofNat n)] [] (cutK 0)=some (.int .u64 (rcs.getD n 0),[],[])
 | 0,_=>c33_0
 | 1,_=>c33_1
 | 2,_=>c33_2
 | 3,_=>c33_3
 | 4,_=>c33_4
 | 5,_=>c33_5
 | 6,_=>c33_6
 | 7,_=>c33_7
 | 8,_=>c33_8
 | 9,_=>c33_9
 | 10,_=>q4b
 | 11,_=>q4l
 | 12,_=>q13
 | 13,_=>q1v
 | 14,_=>q4k
 | 15,_=>q3c
 | 16,_=>q2g
 | 17,_=>q2x
 | 18,_=>q3h
 | 19,_=>q26
 | 20,_=>q21
 | 21,_=>q3w
 | 22,_=>q11
 | 23,_=>q1s
 | n+24,h=>absurd h (by omega)
theorem qu1:∀ n,n<24->vcall (optA noCon) ops0 (qah 32 vf32) 1000 vf32 [.int .i64 (.ofNat n)] [] (cutK 0)=some (.int .u64 (rcs.getD n 0),[],[])
 | 0,_=>c32_0
 | 1,_=>c32_1
 | 2,_=>c32_2
 | 3,_=>c32_3
 | 4,_=>c32_4
 | 5,_=>c32_5
 | 6,_=>c32_6
 | 7,_=>c32_7
 | 8,_=>c32_8
 | 9,_=>c32_9
 | 10,_=>q3n
 | 11,_=>q2f
 | 12,_=>q3o
 | 13,_=>q2i
 | 14,_=>q3d
 | 15,_=>q4p
 | 16,_=>q3t
 | 17,_=>q14
 | 18,_=>q4f
 | 19,_=>q1o
 | 20,_=>q12
 | 21,_=>q4s
 | 22,_=>q3y
 | 23,_=>q2c
 | n+24,h=>absurd h (by omega)
end
end Go.Proofs.Vm
