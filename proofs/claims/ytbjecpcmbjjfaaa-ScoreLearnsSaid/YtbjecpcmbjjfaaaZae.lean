/-
  MADE BY PROGRAM (table.py): the machine's code of these functions, and that it is theirs.
-/
import Derived.Test.YtbjecpcmbjjfaaaZac
import Derived.Test.YtbjecpcmbjjfaaaProg
import Derived.KernelRfl
import Derived.Test.YtbjecpcmbjjfaaaZad
import Derived.Laws.Closers25b

namespace Go.Proofs.Vm
open Go.Vm
noncomputable section

def vf3 : VF := ⟨71, [(.tmp 6)], (.seq (.reg .false [] [⟨(.some 6), .none, .mov, [(.c (.bool .false))]⟩]) (.seq (.seq (.reg .false [] [⟨(.some 8), .none, (.call 11), []⟩, ⟨(.some 9), .none, .not, [(.t 8)]⟩, ⟨(.some 10), .none, .mov, [(.t 9)]⟩, ⟨(.some 11), (.some ⟨10, .false⟩), .mov, [(.t 0)]⟩, ⟨(.some 12), (.some ⟨10, .false⟩), .mov, [(.t 0)]⟩, ⟨(.some 13), (.some ⟨10, .false⟩), (.call 12), [(.t 11), (.t 12)]⟩, ⟨(.some 14), .none, .pick, [(.t 10), (.c (.bool .true)), (.t 13)]⟩, ⟨(.some 15), .none, .mov, [(.t 14)]⟩, ⟨(.some 16), (.some ⟨15, .false⟩), .mov, [(.t 0)]⟩, ⟨(.some 17), (.some ⟨15, .false⟩), .mov, [(.t 1)]⟩, ⟨(.some 18), (.some ⟨15, .false⟩), (.call 12), [(.t 16), (.t 17)]⟩, ⟨(.some 19), (.some ⟨15, .false⟩), .mov, [(.t 18)]⟩, ⟨(.some 20), (.some ⟨19, .true⟩), .mov, [(.t 1)]⟩, ⟨(.some 21), (.some ⟨19, .true⟩), .mov, [(.t 0)]⟩, ⟨(.some 22), (.some ⟨19, .true⟩), (.call 12), [(.t 20), (.t 21)]⟩, ⟨(.some 23), (.some ⟨15, .false⟩), .pick, [(.t 19), (.t 22), (.c (.bool .false))]⟩, ⟨(.some 24), .none, .pick, [(.t 15), (.c (.bool .true)), (.t 23)]⟩, ⟨(.some 25), .none, .mov, [(.t 24)]⟩, ⟨(.some 26), (.some ⟨25, .false⟩), .mov, [(.t 0)]⟩, ⟨(.some 27), (.some ⟨25, .false⟩), .mov, [(.t 1)]⟩, ⟨(.some 28), (.some ⟨25, .false⟩), (.call 12), [(.t 26), (.t 27)]⟩, ⟨(.some 29), (.some ⟨25, .false⟩), .mov, [(.t 28)]⟩, ⟨(.some 30), (.some ⟨29, .true⟩), .mov, [(.t 1)]⟩, ⟨(.some 31), (.some ⟨29, .true⟩), .mov, [(.t 2)]⟩, ⟨(.some 32), (.some ⟨29, .true⟩), (.call 12), [(.t 30), (.t 31)]⟩, ⟨(.some 33), (.some ⟨25, .false⟩), .pick, [(.t 29), (.t 32), (.c (.bool .false))]⟩, ⟨(.some 34), (.some ⟨25, .false⟩), .mov, [(.t 33)]⟩, ⟨(.some 35), (.some ⟨34, .true⟩), .mov, [(.t 0)]⟩, ⟨(.some 36), (.some ⟨34, .true⟩), .mov, [(.t 2)]⟩, ⟨(.some 37), (.some ⟨34, .true⟩), (.call 12), [(.t 35), (.t 36)]⟩, ⟨(.some 38), (.some ⟨34, .true⟩), .not, [(.t 37)]⟩, ⟨(.some 39), (.some ⟨25, .false⟩), .pick, [(.t 34), (.t 38), (.c (.bool .false))]⟩, ⟨(.some 40), .none, .pick, [(.t 25), (.c (.bool .true)), (.t 39)]⟩]) (.cond (.t 40) (.seq (.reg .false [] [⟨(.some 6), .none, .mov, [(.c (.bool .false))]⟩]) .ret) .skip)) (.seq (.reg .false [] [⟨(.some 41), .none, .mov, [(.t 0)]⟩, ⟨(.some 42), .none, .mov, [(.t 1)]⟩, ⟨(.some 43), .none, (.call 12), [(.t 41), (.t 42)]⟩, ⟨(.some 44), .none, .not, [(.t 43)]⟩, ⟨(.some 45), .none, .mov, [(.t 44)]⟩, ⟨(.some 46), (.some ⟨45, .true⟩), .mov, [(.t 1)]⟩, ⟨(.some 47), (.some ⟨45, .true⟩), .mov, [(.t 0)]⟩, ⟨(.some 48), (.some ⟨45, .true⟩), (.call 12), [(.t 46), (.t 47)]⟩, ⟨(.some 49), (.some ⟨45, .true⟩), .not, [(.t 48)]⟩, ⟨(.some 50), .none, .pick, [(.t 45), (.t 49), (.c (.bool .false))]⟩, ⟨(.some 7), .none, .mov, [(.t 50)]⟩]) (.seq (.reg .false [] [⟨(.some 51), .none, .mov, [(.t 7)]⟩, ⟨(.some 52), .none, .not, [(.t 51)]⟩, ⟨(.some 53), .none, .mov, [(.t 52)]⟩, ⟨(.some 54), (.some ⟨53, .false⟩), .mov, [(.t 0)]⟩, ⟨(.some 55), (.some ⟨53, .false⟩), .mov, [(.t 2)]⟩, ⟨(.some 56), (.some ⟨53, .false⟩), (.call 12), [(.t 54), (.t 55)]⟩, ⟨(.some 57), (.some ⟨53, .false⟩), .mov, [(.t 1)]⟩, ⟨(.some 58), (.some ⟨53, .false⟩), .mov, [(.t 2)]⟩, ⟨(.some 59), (.some ⟨53, .false⟩), (.call 12), [(.t 57), (.t 58)]⟩, ⟨(.some 60), (.some ⟨53, .false⟩), (.bcmp .false), [(.t 56), (.t 59)]⟩, ⟨(.some 61), (.some ⟨53, .false⟩), .mov, [(.t 60)]⟩, ⟨(.some 62), (.some ⟨61, .true⟩), .mov, [(.t 2)]⟩, ⟨(.some 63), (.some ⟨61, .true⟩), .mov, [(.t 0)]⟩, ⟨(.some 64), (.some ⟨61, .true⟩), (.call 12), [(.t 62), (.t 63)]⟩, ⟨(.some 65), (.some ⟨61, .true⟩), .mov, [(.t 2)]⟩, ⟨(.some 66), (.some ⟨61, .true⟩), .mov, [(.t 1)]⟩, ⟨(.some 67), (.some ⟨61, .true⟩), (.call 12), [(.t 65), (.t 66)]⟩, ⟨(.some 68), (.some ⟨61, .true⟩), (.bcmp .false), [(.t 64), (.t 67)]⟩, ⟨(.some 69), (.some ⟨53, .false⟩), .pick, [(.t 61), (.t 68), (.c (.bool .false))]⟩, ⟨(.some 70), .none, .pick, [(.t 53), (.c (.bool .true)), (.t 69)]⟩, ⟨(.some 6), .none, .mov, [(.t 70)]⟩]) .ret))))⟩
theorem ok3 : FnOK Try.prog 3 vf3 := .of Try.func3 (by kernel_rfl) (by kernel_rfl)
def vf4 : VF := ⟨30, [(.tmp 4)], (.seq (.reg .false [] [⟨(.some 4), .none, .mov, [(.c (.bool .false))]⟩]) (.seq (.seq (.reg .false [] [⟨(.some 7), .none, .mov, [(.t 0)]⟩, ⟨(.some 8), .none, .mov, [(.t 1)]⟩, ⟨(.some 9), .none, (.cmp .gtr), [(.t 7), (.t 8)]⟩]) (.cond (.t 9) (.reg .false [] [⟨(.some 10), .none, .mov, [(.t 1)]⟩, ⟨(.some 11), .none, .mov, [(.t 0)]⟩, ⟨(.some 0), .none, .mov, [(.t 10)]⟩, ⟨(.some 1), .none, .mov, [(.t 11)]⟩]) .skip)) (.seq (.reg .false [] [⟨(.some 12), .none, .mov, [(.t 0)]⟩, ⟨(.some 13), .none, (.call 13), [(.t 12)]⟩, ⟨(.some 14), .none, .mov, [(.t 1)]⟩, ⟨(.some 15), .none, (.call 13), [(.t 14)]⟩, ⟨(.some 5), .none, .mov, [(.t 13)]⟩, ⟨(.some 6), .none, .mov, [(.t 15)]⟩]) (.seq (.reg .false [] [⟨(.some 16), .none, (.call 11), []⟩, ⟨(.some 17), .none, .mov, [(.t 16)]⟩, ⟨(.some 18), (.some ⟨17, .true⟩), .mov, [(.t 5)]⟩, ⟨(.some 19), (.some ⟨17, .true⟩), .mov, [(.t 6)]⟩, ⟨(.some 20), (.some ⟨17, .true⟩), (.fcmp .geq .f64), [(.t 18), (.t 19)]⟩, ⟨(.some 21), .none, .pick, [(.t 17), (.t 20), (.c (.bool .false))]⟩, ⟨(.some 22), .none, .mov, [(.t 21)]⟩, ⟨(.some 23), (.some ⟨22, .true⟩), .mov, [(.t 5)]⟩, ⟨(.some 24), (.some ⟨22, .true⟩), (.fcmp .leq .f64), [(.t 23), (.c (.flt .f64 4607182418800017408))]⟩, ⟨(.some 25), .none, .pick, [(.t 22), (.t 24), (.c (.bool .false))]⟩, ⟨(.some 26), .none, .mov, [(.t 25)]⟩, ⟨(.some 27), (.some ⟨26, .true⟩), .mov, [(.t 6)]⟩, ⟨(.some 28), (.some ⟨26, .true⟩), (.fcmp .geq .f64), [(.t 27), (.c (.flt .f64 0))]⟩, ⟨(.some 29), .none, .pick, [(.t 26), (.t 28), (.c (.bool .false))]⟩, ⟨(.some 4), .none, .mov, [(.t 29)]⟩]) .ret))))⟩
theorem ok4 : FnOK Try.prog 4 vf4 := .of Try.func4 (by kernel_rfl) (by kernel_rfl)
def vf5 : VF := ⟨61, [(.tmp 10)], (.seq (.reg .false [] [⟨(.some 10), .none, .mov, [(.c (.bool .false))]⟩]) (.seq (.seq (.reg .false [] [⟨(.some 11), .none, .mov, [(.t 3)]⟩, ⟨(.some 12), .none, .mov, [(.t 4)]⟩, ⟨(.some 13), .none, (.fcmp .leq .f64), [(.t 11), (.t 12)]⟩, ⟨(.some 14), .none, .not, [(.t 13)]⟩]) (.cond (.t 14) (.reg .false [] [⟨(.some 15), .none, .mov, [(.t 4)]⟩, ⟨(.some 16), .none, .mov, [(.t 3)]⟩, ⟨(.some 3), .none, .mov, [(.t 15)]⟩, ⟨(.some 4), .none, .mov, [(.t 16)]⟩]) .skip)) (.seq (.seq (.reg .false [] [⟨(.some 17), .none, (.call 11), []⟩, ⟨(.some 18), .none, .not, [(.t 17)]⟩, ⟨(.some 19), .none, .mov, [(.t 18)]⟩, ⟨(.some 20), (.some ⟨19, .false⟩), .mov, [(.t 0)]⟩, ⟨(.some 21), (.some ⟨19, .false⟩), (.cmp .lss), [(.t 20), (.c (.int .i64 (.ofNat 0)))]⟩, ⟨(.some 22), .none, .pick, [(.t 19), (.c (.bool .true)), (.t 21)]⟩, ⟨(.some 23), .none, .mov, [(.t 22)]⟩, ⟨(.some 24), (.some ⟨23, .false⟩), .mov, [(.t 1)]⟩, ⟨(.some 25), (.some ⟨23, .false⟩), .mov, [(.t 0)]⟩, ⟨(.some 26), (.some ⟨23, .false⟩), (.cmp .lss), [(.t 24), (.t 25)]⟩, ⟨(.some 27), .none, .pick, [(.t 23), (.c (.bool .true)), (.t 26)]⟩, ⟨(.some 28), .none, .mov, [(.t 27)]⟩, ⟨(.some 29), (.some ⟨28, .false⟩), .mov, [(.t 2)]⟩, ⟨(.some 30), (.some ⟨28, .false⟩), (.cmp .lss), [(.t 29), (.c (.int .i64 (.ofNat 0)))]⟩, ⟨(.some 31), .none, .pick, [(.t 28), (.c (.bool .true)), (.t 30)]⟩, ⟨(.some 32), .none, .mov, [(.t 31)]⟩, ⟨(.some 33), (.some ⟨32, .false⟩), .mov, [(.t 3)]⟩, ⟨(.some 34), (.some ⟨32, .false⟩), .mov, [(.t 4)]⟩, ⟨(.some 35), (.some ⟨32, .false⟩), (.fcmp .leq .f64), [(.t 33), (.t 34)]⟩, ⟨(.some 36), (.some ⟨32, .false⟩), .not, [(.t 35)]⟩, ⟨(.some 37), .none, .pick, [(.t 32), (.c (.bool .true)), (.t 36)]⟩]) (.cond (.t 37) (.seq (.reg .false [] [⟨(.some 38), .none, (.call 11), []⟩, ⟨(.some 10), .none, .mov, [(.t 38)]⟩]) .ret) .skip)) (.seq (.reg .false [] [⟨(.some 39), .none, .mov, [(.t 0)]⟩, ⟨(.some 40), .none, .mov, [(.t 2)]⟩, ⟨(.some 41), .none, .mov, [(.t 3)]⟩, ⟨(.some 42), .none, (.call 14), [(.t 39), (.t 40), (.t 41)]⟩, ⟨(.some 43), .none, .mov, [(.t 0)]⟩, ⟨(.some 44), .none, .mov, [(.t 2)]⟩, ⟨(.some 45), .none, .mov, [(.t 4)]⟩, ⟨(.some 46), .none, (.call 14), [(.t 43), (.t 44), (.t 45)]⟩, ⟨(.some 47), .none, (.call 12), [(.t 42), (.t 46)]⟩, ⟨(.some 48), .none, .not, [(.t 47)]⟩, ⟨(.some 49), .none, .mov, [(.t 48)]⟩, ⟨(.some 50), (.some ⟨49, .true⟩), .mov, [(.t 1)]⟩, ⟨(.some 51), (.some ⟨49, .true⟩), .mov, [(.t 2)]⟩, ⟨(.some 52), (.some ⟨49, .true⟩), .mov, [(.t 3)]⟩, ⟨(.some 53), (.some ⟨49, .true⟩), (.call 14), [(.t 50), (.t 51), (.t 52)]⟩, ⟨(.some 54), (.some ⟨49, .true⟩), .mov, [(.t 0)]⟩, ⟨(.some 55), (.some ⟨49, .true⟩), .mov, [(.t 2)]⟩, ⟨(.some 56), (.some ⟨49, .true⟩), .mov, [(.t 3)]⟩, ⟨(.some 57), (.some ⟨49, .true⟩), (.call 14), [(.t 54), (.t 55), (.t 56)]⟩, ⟨(.some 58), (.some ⟨49, .true⟩), (.call 12), [(.t 53), (.t 57)]⟩, ⟨(.some 59), (.some ⟨49, .true⟩), .not, [(.t 58)]⟩, ⟨(.some 60), .none, .pick, [(.t 49), (.t 59), (.c (.bool .false))]⟩, ⟨(.some 10), .none, .mov, [(.t 60)]⟩]) .ret))))⟩
theorem ok5 : FnOK Try.prog 5 vf5 := .of Try.func5 (by kernel_rfl) (by kernel_rfl)
def vf6 : VF := ⟨72, [(.tmp 8)], (.seq (.reg .false [] [⟨(.some 8), .none, .mov, [(.c (.bool .false))]⟩]) (.seq (.seq (.reg .false [] [⟨(.some 11), .none, (.call 11), []⟩, ⟨(.some 12), .none, .not, [(.t 11)]⟩, ⟨(.some 13), .none, .mov, [(.t 12)]⟩, ⟨(.some 14), (.some ⟨13, .false⟩), .mov, [(.t 0)]⟩, ⟨(.some 15), (.some ⟨13, .false⟩), .mov, [(.t 1)]⟩, ⟨(.some 16), (.some ⟨13, .false⟩), .mov, [(.t 2)]⟩, ⟨(.some 17), (.some ⟨13, .false⟩), (.call 14), [(.t 14), (.t 15), (.t 16)]⟩, ⟨(.some 18), (.some ⟨13, .false⟩), .mov, [(.t 0)]⟩, ⟨(.some 19), (.some ⟨13, .false⟩), .mov, [(.t 1)]⟩, ⟨(.some 20), (.some ⟨13, .false⟩), .mov, [(.t 2)]⟩, ⟨(.some 21), (.some ⟨13, .false⟩), (.call 16), [(.t 18), (.t 19), (.t 20)]⟩, ⟨(.some 22), (.some ⟨13, .false⟩), (.call 15), [(.t 17), (.t 21)]⟩, ⟨(.some 23), (.some ⟨13, .false⟩), .not, [(.t 22)]⟩, ⟨(.some 24), .none, .pick, [(.t 13), (.c (.bool .true)), (.t 23)]⟩, ⟨(.some 25), .none, .mov, [(.t 24)]⟩, ⟨(.some 26), (.some ⟨25, .false⟩), .mov, [(.t 3)]⟩, ⟨(.some 27), (.some ⟨25, .false⟩), (.call 17), [(.t 26)]⟩, ⟨(.some 28), (.some ⟨25, .false⟩), .mov, [(.t 3)]⟩, ⟨(.some 29), (.some ⟨25, .false⟩), (.call 18), [(.t 28)]⟩, ⟨(.some 30), (.some ⟨25, .false⟩), (.call 15), [(.t 27), (.t 29)]⟩, ⟨(.some 31), (.some ⟨25, .false⟩), .not, [(.t 30)]⟩, ⟨(.some 32), .none, .pick, [(.t 25), (.c (.bool .true)), (.t 31)]⟩]) (.cond (.t 32) (.seq (.reg .false [] [⟨(.some 8), .none, .mov, [(.c (.bool .false))]⟩]) .ret) .skip)) (.seq (.seq (.reg .false [] [⟨(.some 9), .none, .mov, [(.c (.int .i64 (.ofNat 0)))]⟩]) (.block 0 (.loop (.seq (.seq (.reg .false [] [⟨(.some 33), .none, .mov, [(.t 9)]⟩, ⟨(.some 34), .none, .mov, [(.t 3)]⟩, ⟨(.some 35), .none, .len, [(.t 34)]⟩, ⟨(.some 36), .none, (.cmp .lss), [(.t 33), (.t 35)]⟩, ⟨(.some 37), .none, .mov, [(.t 36)]⟩, ⟨(.some 38), (.some ⟨37, .true⟩), .mov, [(.t 9)]⟩, ⟨(.some 39), (.some ⟨37, .true⟩), (.cmp .lss), [(.t 38), (.c (.int .i64 (.ofNat 20)))]⟩, ⟨(.some 40), .none, .pick, [(.t 37), (.t 39), (.c (.bool .false))]⟩]) (.cond (.t 40) .skip (.exit 0))) (.seq (.block 1 (.seq (.reg .false [] [⟨(.some 10), .none, .mov, [(.c (.int .i64 (.ofNat 0)))]⟩]) (.block 2 (.loop (.seq (.seq (.reg .false [] [⟨(.some 43), .none, .mov, [(.t 10)]⟩, ⟨(.some 44), .none, .mov, [(.t 3)]⟩, ⟨(.some 45), .none, .len, [(.t 44)]⟩, ⟨(.some 46), .none, (.cmp .lss), [(.t 43), (.t 45)]⟩, ⟨(.some 47), .none, .mov, [(.t 46)]⟩, ⟨(.some 48), (.some ⟨47, .true⟩), .mov, [(.t 10)]⟩, ⟨(.some 49), (.some ⟨47, .true⟩), (.cmp .lss), [(.t 48), (.c (.int .i64 (.ofNat 20)))]⟩, ⟨(.some 50), .none, .pick, [(.t 47), (.t 49), (.c (.bool .false))]⟩]) (.cond (.t 50) .skip (.exit 2))) (.seq (.block 3 (.seq (.reg .true [0, 0, 3, 7, 0, 0, 48, 112, 255, 0, 0, 1536, 3584, 0, 0, 24576, 57344, 131071, 262143] [⟨(.some 53), .none, .mov, [(.t 3)]⟩, ⟨(.some 54), .none, .mov, [(.t 9)]⟩, ⟨(.some 55), .none, (.ixS 1), [(.t 53), (.t 54)]⟩, ⟨(.some 56), .none, (.ld1 (.flt .f64)), [(.t 55)]⟩, ⟨(.some 57), .none, .mov, [(.t 3)]⟩, ⟨(.some 58), .none, .mov, [(.t 10)]⟩, ⟨(.some 59), .none, (.ixS 1), [(.t 57), (.t 58)]⟩, ⟨(.some 60), .none, (.ld1 (.flt .f64)), [(.t 59)]⟩, ⟨(.some 61), .none, (.call 12), [(.t 56), (.t 60)]⟩, ⟨(.some 62), .none, .mov, [(.t 3)]⟩, ⟨(.some 63), .none, .mov, [(.t 9)]⟩, ⟨(.some 64), .none, (.ixS 1), [(.t 62), (.t 63)]⟩, ⟨(.some 65), .none, (.ld1 (.flt .f64)), [(.t 64)]⟩, ⟨(.some 66), .none, .mov, [(.t 3)]⟩, ⟨(.some 67), .none, .mov, [(.t 10)]⟩, ⟨(.some 68), .none, (.ixS 1), [(.t 66), (.t 67)]⟩, ⟨(.some 69), .none, (.ld1 (.flt .f64)), [(.t 68)]⟩, ⟨(.some 70), .none, (.call 19), [(.t 65), (.t 69)]⟩, ⟨(.some 71), .none, (.bcmp .true), [(.t 61), (.t 70)]⟩]) (.cond (.t 71) (.seq (.reg .false [] [⟨(.some 8), .none, .mov, [(.c (.bool .false))]⟩]) .ret) .skip))) (.reg .false [] [⟨(.some 51), .none, .mov, [(.t 10)]⟩, ⟨(.some 52), .none, (.bin .add .i64), [(.t 51), (.c (.int .i64 (.ofNat 1)))]⟩, ⟨(.some 10), .none, .mov, [(.t 52)]⟩]))))))) (.reg .false [] [⟨(.some 41), .none, .mov, [(.t 9)]⟩, ⟨(.some 42), .none, (.bin .add .i64), [(.t 41), (.c (.int .i64 (.ofNat 1)))]⟩, ⟨(.some 9), .none, .mov, [(.t 42)]⟩])))))) (.seq (.reg .false [] [⟨(.some 8), .none, .mov, [(.c (.bool .true))]⟩]) .ret))))⟩
theorem ok6 : FnOK Try.prog 6 vf6 := .of Try.func6 (by kernel_rfl) (by kernel_rfl)
def vf7 : VF := ⟨50, [(.tmp 2)], (.seq (.reg .false [] [⟨(.some 2), .none, .mov, [(.c (.bool .false))]⟩]) (.seq (.reg .false [] [⟨(.some 5), .none, .mov, [(.t 0)]⟩, ⟨(.some 6), .none, (.call 17), [(.t 5)]⟩, ⟨(.some 3), .none, .mov, [(.t 6)]⟩]) (.seq (.seq (.reg .false [] [⟨(.some 7), .none, (.call 11), []⟩, ⟨(.some 8), .none, .not, [(.t 7)]⟩, ⟨(.some 9), .none, .mov, [(.t 8)]⟩, ⟨(.some 10), (.some ⟨9, .false⟩), .mov, [(.t 3)]⟩, ⟨(.some 11), (.some ⟨9, .false⟩), .mov, [(.t 3)]⟩, ⟨(.some 12), (.some ⟨9, .false⟩), (.fcmp .neq .f64), [(.t 10), (.t 11)]⟩, ⟨(.some 13), .none, .pick, [(.t 9), (.c (.bool .true)), (.t 12)]⟩, ⟨(.some 14), .none, .mov, [(.t 13)]⟩, ⟨(.some 15), (.some ⟨14, .false⟩), .mov, [(.t 3)]⟩, ⟨(.some 16), (.some ⟨14, .false⟩), (.fcmp .lss .f64), [(.t 15), (.c (.flt .f64 0))]⟩, ⟨(.some 17), .none, .pick, [(.t 14), (.c (.bool .true)), (.t 16)]⟩]) (.cond (.t 17) (.seq (.reg .false [] [⟨(.some 2), .none, .mov, [(.c (.bool .false))]⟩]) .ret) .skip)) (.seq (.seq (.reg .false [] [⟨(.some 4), .none, .mov, [(.c (.int .i64 (.ofNat 0)))]⟩]) (.block 0 (.loop (.seq (.seq (.reg .false [] [⟨(.some 18), .none, .mov, [(.t 4)]⟩, ⟨(.some 19), .none, .mov, [(.t 0)]⟩, ⟨(.some 20), .none, .len, [(.t 19)]⟩, ⟨(.some 21), .none, (.cmp .lss), [(.t 18), (.t 20)]⟩]) (.cond (.t 21) .skip (.exit 0))) (.seq (.block 1 (.seq (.reg .false [] [⟨(.some 24), .none, .mov, [(.t 0)]⟩, ⟨(.some 25), .none, .mov, [(.t 4)]⟩, ⟨(.some 26), .none, (.ixS 1), [(.t 24), (.t 25)]⟩, ⟨(.some 27), .none, (.ld1 (.flt .f64)), [(.t 26)]⟩, ⟨(.some 28), .none, (.fcmp .geq .f64), [(.t 27), (.c (.flt .f64 0))]⟩, ⟨(.some 29), .none, .not, [(.t 28)]⟩, ⟨(.some 30), .none, .mov, [(.t 29)]⟩, ⟨(.some 31), (.some ⟨30, .true⟩), .mov, [(.t 3)]⟩, ⟨(.some 32), (.some ⟨30, .true⟩), (.call 12), [(.c (.flt .f64 9214871658872686752)), (.t 31)]⟩, ⟨(.some 33), (.some ⟨30, .true⟩), .not, [(.t 32)]⟩, ⟨(.some 34), .none, .pick, [(.t 30), (.t 33), (.c (.bool .false))]⟩, ⟨(.some 35), .none, .mov, [(.t 34)]⟩, ⟨(.some 36), (.some ⟨35, .false⟩), .mov, [(.t 0)]⟩, ⟨(.some 37), (.some ⟨35, .false⟩), .mov, [(.t 4)]⟩, ⟨(.some 38), (.some ⟨35, .false⟩), (.ixS 1), [(.t 36), (.t 37)]⟩, ⟨(.some 39), (.some ⟨35, .false⟩), (.ld1 (.flt .f64)), [(.t 38)]⟩, ⟨(.some 40), (.some ⟨35, .false⟩), (.fcmp .geq .f64), [(.t 39), (.c (.flt .f64 0))]⟩, ⟨(.some 41), (.some ⟨35, .false⟩), .mov, [(.t 40)]⟩, ⟨(.some 42), (.some ⟨41, .true⟩), .mov, [(.t 3)]⟩, ⟨(.some 43), (.some ⟨41, .true⟩), .mov, [(.t 0)]⟩, ⟨(.some 44), (.some ⟨41, .true⟩), .mov, [(.t 4)]⟩, ⟨(.some 45), (.some ⟨41, .true⟩), (.ixS 1), [(.t 43), (.t 44)]⟩, ⟨(.some 46), (.some ⟨41, .true⟩), (.ld1 (.flt .f64)), [(.t 45)]⟩, ⟨(.some 47), (.some ⟨41, .true⟩), (.fcmp .lss .f64), [(.t 42), (.t 46)]⟩, ⟨(.some 48), (.some ⟨35, .false⟩), .pick, [(.t 41), (.t 47), (.c (.bool .false))]⟩, ⟨(.some 49), .none, .pick, [(.t 35), (.c (.bool .true)), (.t 48)]⟩]) (.cond (.t 49) (.seq (.reg .false [] [⟨(.some 2), .none, .mov, [(.c (.bool .false))]⟩]) .ret) .skip))) (.reg .false [] [⟨(.some 22), .none, .mov, [(.t 4)]⟩, ⟨(.some 23), .none, (.bin .add .i64), [(.t 22), (.c (.int .i64 (.ofNat 1)))]⟩, ⟨(.some 4), .none, .mov, [(.t 23)]⟩])))))) (.seq (.reg .false [] [⟨(.some 2), .none, .mov, [(.c (.bool .true))]⟩]) .ret)))))⟩
theorem ok7 : FnOK Try.prog 7 vf7 := .of Try.func7 (by kernel_rfl) (by kernel_rfl)
def vf8 : VF := ⟨54, [(.tmp 6)], (.seq (.reg .false [] [⟨(.some 3), .none, .box, [(.t 0)]⟩, ⟨(.some 6), .none, .mov, [(.c (.bool .false))]⟩]) (.seq (.reg .true [0, 0, 0, 0, 13, 31] [⟨(.some 10), .none, (.ldn 4), [(.t 3)]⟩, ⟨(.some 11), .none, (.ldn 4), [(.t 3)]⟩, ⟨(.some 7), .none, (.alloc [(.int .i64 (.ofNat 0)), (.int .i64 (.ofNat 0)), (.int .i64 (.ofNat 0)), (.int .i64 (.ofNat 0))]), []⟩, ⟨(.some 8), .none, (.alloc [(.int .i64 (.ofNat 0)), (.int .i64 (.ofNat 0)), (.int .i64 (.ofNat 0)), (.int .i64 (.ofNat 0))]), []⟩, ⟨.none, .none, (.stn 4), [(.t 7), (.t 10)]⟩, ⟨.none, .none, (.stn 4), [(.t 8), (.t 11)]⟩]) (.seq (.seq (.reg .false [] [⟨(.some 9), .none, .mov, [(.c (.int .i64 (.ofNat 0)))]⟩]) (.block 0 (.loop (.seq (.seq (.reg .false [] [⟨(.some 12), .none, .mov, [(.t 9)]⟩, ⟨(.some 13), .none, .mov, [(.t 1)]⟩, ⟨(.some 14), .none, .len, [(.t 13)]⟩, ⟨(.some 15), .none, (.cmp .lss), [(.t 12), (.t 14)]⟩, ⟨(.some 16), .none, .mov, [(.t 15)]⟩, ⟨(.some 17), (.some ⟨16, .true⟩), .mov, [(.t 9)]⟩, ⟨(.some 18), (.some ⟨16, .true⟩), .mov, [(.t 2)]⟩, ⟨(.some 19), (.some ⟨16, .true⟩), .len, [(.t 18)]⟩, ⟨(.some 20), (.some ⟨16, .true⟩), (.cmp .lss), [(.t 17), (.t 19)]⟩, ⟨(.some 21), .none, .pick, [(.t 16), (.t 20), (.c (.bool .false))]⟩]) (.cond (.t 21) .skip (.exit 0))) (.seq (.block 1 (.seq (.reg .true [0, 0, 0, 6, 14, 0, 0, 96, 224, 0, 512, 1536, 4095, 8191] [⟨(.some 24), .none, (.ldn 4), [(.t 7)]⟩, ⟨(.some 25), .none, .mov, [(.t 1)]⟩, ⟨(.some 26), .none, .mov, [(.t 9)]⟩, ⟨(.some 27), .none, (.ixS 1), [(.t 25), (.t 26)]⟩, ⟨(.some 28), .none, (.ld1 (.int .i64)), [(.t 27)]⟩, ⟨(.some 29), .none, .mov, [(.t 2)]⟩, ⟨(.some 30), .none, .mov, [(.t 9)]⟩, ⟨(.some 31), .none, (.ixS 1), [(.t 29), (.t 30)]⟩, ⟨(.some 32), .none, (.ld1 (.int .i64)), [(.t 31)]⟩, ⟨(.some 33), .none, .mov, [(.t 9)]⟩, ⟨(.some 34), .none, (.div .rem .i64), [(.t 33), (.c (.int .i64 (.ofNat 3)))]⟩, ⟨(.some 35), .none, (.cmp .neq), [(.t 34), (.c (.int .i64 (.ofNat 1)))]⟩, ⟨(.some 36), .none, (.call 20), [(.t 24), (.t 28), (.t 32), (.t 35)]⟩, ⟨.none, .none, (.stn 4), [(.t 7), (.t 36)]⟩]) (.seq (.reg .true [0, 0, 0, 6, 14, 0, 0, 96, 224, 0, 512, 1536, 4095, 8191] [⟨(.some 37), .none, (.ldn 4), [(.t 8)]⟩, ⟨(.some 38), .none, .mov, [(.t 1)]⟩, ⟨(.some 39), .none, .mov, [(.t 9)]⟩, ⟨(.some 40), .none, (.ixS 1), [(.t 38), (.t 39)]⟩, ⟨(.some 41), .none, (.ld1 (.int .i64)), [(.t 40)]⟩, ⟨(.some 42), .none, .mov, [(.t 2)]⟩, ⟨(.some 43), .none, .mov, [(.t 9)]⟩, ⟨(.some 44), .none, (.ixS 1), [(.t 42), (.t 43)]⟩, ⟨(.some 45), .none, (.ld1 (.int .i64)), [(.t 44)]⟩, ⟨(.some 46), .none, .mov, [(.t 9)]⟩, ⟨(.some 47), .none, (.div .rem .i64), [(.t 46), (.c (.int .i64 (.ofNat 3)))]⟩, ⟨(.some 48), .none, (.cmp .neq), [(.t 47), (.c (.int .i64 (.ofNat 1)))]⟩, ⟨(.some 49), .none, (.call 21), [(.t 37), (.t 41), (.t 45), (.t 48)]⟩, ⟨.none, .none, (.stn 4), [(.t 8), (.t 49)]⟩]) (.seq (.reg .false [] [⟨(.some 50), .none, (.ldn 4), [(.t 7)]⟩, ⟨(.some 51), .none, (.ldn 4), [(.t 8)]⟩, ⟨(.some 52), .none, (.acmp .true 4 [⟨0, ⟨.i64, 1⟩⟩, ⟨1, ⟨.i64, 1⟩⟩, ⟨2, ⟨.i64, 1⟩⟩, ⟨3, ⟨.i64, 1⟩⟩]), [(.t 50), (.t 51)]⟩]) (.cond (.t 52) (.seq (.reg .false [] [⟨(.some 6), .none, .mov, [(.c (.bool .false))]⟩]) .ret) .skip))))) (.reg .false [] [⟨(.some 22), .none, .mov, [(.t 9)]⟩, ⟨(.some 23), .none, (.bin .add .i64), [(.t 22), (.c (.int .i64 (.ofNat 1)))]⟩, ⟨(.some 9), .none, .mov, [(.t 23)]⟩])))))) (.seq (.reg .false [] [⟨(.some 53), .none, (.call 11), []⟩, ⟨(.some 6), .none, .mov, [(.t 53)]⟩]) .ret))))⟩
theorem ok8 : FnOK Try.prog 8 vf8 := .of Try.func8 (by kernel_rfl) (by kernel_rfl)
def vf9 : VF := ⟨48, [(.tmp 10)], (.seq (.reg .false [] [⟨(.some 5), .none, .box, [(.t 0)]⟩, ⟨(.some 10), .none, .mov, [(.c (.bool .false))]⟩]) (.seq (.reg .true [0, 1, 3, 7, 3, 31, 63, 127, 255, 511, 1023, 511, 4095, 8191, 16383, 32767, 65535, 65535, 262143, 65535, 65535, 2097151, 4194303, 8388607, 16777215, 33554431, 33554431, 33554431, 33554431, 536870911, 33554431, 33554431, 33554431, 33554431, 17179869183, 34359738367, 68719476735, 137438953471] [⟨(.some 11), .none, (.call 11), []⟩, ⟨(.some 12), .none, .mov, [(.t 11)]⟩, ⟨(.some 13), (.some ⟨12, .true⟩), .mov, [(.t 4)]⟩, ⟨(.some 14), (.some ⟨12, .true⟩), (.call 22), [(.t 13)]⟩, ⟨(.some 15), (.some ⟨12, .true⟩), .mov, [(.t 4)]⟩, ⟨(.some 16), (.some ⟨12, .true⟩), (.call 23), [(.t 15)]⟩, ⟨(.some 17), (.some ⟨12, .true⟩), (.call 15), [(.t 14), (.t 16)]⟩, ⟨(.some 18), .none, .pick, [(.t 12), (.t 17), (.c (.bool .false))]⟩, ⟨(.some 19), .none, .mov, [(.t 18)]⟩, ⟨(.some 20), (.some ⟨19, .true⟩), .mov, [(.t 3)]⟩, ⟨(.some 21), (.some ⟨19, .true⟩), (.call 13), [(.t 20)]⟩, ⟨(.some 22), (.some ⟨19, .true⟩), .mov, [(.t 3)]⟩, ⟨(.some 23), (.some ⟨19, .true⟩), (.call 24), [(.t 22)]⟩, ⟨(.some 24), (.some ⟨19, .true⟩), (.call 15), [(.t 21), (.t 23)]⟩, ⟨(.some 25), .none, .pick, [(.t 19), (.t 24), (.c (.bool .false))]⟩, ⟨(.some 26), .none, .mov, [(.t 25)]⟩, ⟨(.some 27), (.some ⟨26, .true⟩), .mov, [(.t 1)]⟩, ⟨(.some 28), (.some ⟨26, .true⟩), .mov, [(.t 2)]⟩, ⟨(.some 29), (.some ⟨26, .true⟩), (.call 25), [(.t 27), (.t 28)]⟩, ⟨(.some 30), (.some ⟨26, .true⟩), .mov, [(.t 1)]⟩, ⟨(.some 31), (.some ⟨26, .true⟩), .mov, [(.t 2)]⟩, ⟨(.some 32), (.some ⟨26, .true⟩), (.call 26), [(.t 30), (.t 31)]⟩, ⟨(.some 33), (.some ⟨26, .true⟩), (.call 15), [(.t 29), (.t 32)]⟩, ⟨(.some 34), .none, .pick, [(.t 26), (.t 33), (.c (.bool .false))]⟩, ⟨(.some 35), .none, .mov, [(.t 34)]⟩, ⟨(.some 36), (.some ⟨35, .true⟩), (.ldn 4), [(.t 5)]⟩, ⟨(.some 37), (.some ⟨35, .true⟩), .mov, [(.t 1)]⟩, ⟨(.some 38), (.some ⟨35, .true⟩), .mov, [(.t 2)]⟩, ⟨(.some 39), (.some ⟨35, .true⟩), .mov, [(.t 3)]⟩, ⟨(.some 40), (.some ⟨35, .true⟩), (.call 27), [(.t 36), (.t 37), (.t 38), (.t 39)]⟩, ⟨(.some 41), (.some ⟨35, .true⟩), (.ldn 4), [(.t 5)]⟩, ⟨(.some 42), (.some ⟨35, .true⟩), .mov, [(.t 1)]⟩, ⟨(.some 43), (.some ⟨35, .true⟩), .mov, [(.t 2)]⟩, ⟨(.some 44), (.some ⟨35, .true⟩), .mov, [(.t 3)]⟩, ⟨(.some 45), (.some ⟨35, .true⟩), (.call 28), [(.t 41), (.t 42), (.t 43), (.t 44)]⟩, ⟨(.some 46), (.some ⟨35, .true⟩), (.call 15), [(.t 40), (.t 45)]⟩, ⟨(.some 47), .none, .pick, [(.t 35), (.t 46), (.c (.bool .false))]⟩, ⟨(.some 10), .none, .mov, [(.t 47)]⟩]) .ret))⟩
theorem ok9 : FnOK Try.prog 9 vf9 := .of Try.func9 (by kernel_rfl) (by kernel_rfl)
def vf10 : VF := ⟨50, [(.tmp 10)], (.seq (.reg .false [] [⟨(.some 5), .none, .box, [(.t 0)]⟩, ⟨(.some 10), .none, .mov, [(.c (.bool .false))]⟩]) (.seq (.reg .false [] [⟨(.some 12), .none, (.ldn 4), [(.t 5)]⟩, ⟨(.some 13), .none, .mov, [(.t 1)]⟩, ⟨(.some 14), .none, .mov, [(.t 3)]⟩, ⟨(.some 15), .none, .mov, [(.t 4)]⟩, ⟨(.some 16), .none, (.call 27), [(.t 12), (.t 13), (.t 14), (.t 15)]⟩, ⟨(.some 11), .none, .mov, [(.t 16)]⟩]) (.seq (.seq (.reg .false [] [⟨(.some 17), .none, (.call 11), []⟩, ⟨(.some 18), .none, .not, [(.t 17)]⟩, ⟨(.some 19), .none, .mov, [(.t 18)]⟩, ⟨(.some 20), (.some ⟨19, .false⟩), .mov, [(.t 11)]⟩, ⟨(.some 21), (.some ⟨19, .false⟩), (.fcmp .geq .f64), [(.t 20), (.c (.flt .f64 0))]⟩, ⟨(.some 22), (.some ⟨19, .false⟩), .mov, [(.t 21)]⟩, ⟨(.some 23), (.some ⟨22, .true⟩), .mov, [(.t 11)]⟩, ⟨(.some 24), (.some ⟨22, .true⟩), (.fcmp .leq .f64), [(.t 23), (.c (.flt .f64 4607182418800017408))]⟩, ⟨(.some 25), (.some ⟨19, .false⟩), .pick, [(.t 22), (.t 24), (.c (.bool .false))]⟩, ⟨(.some 26), (.some ⟨19, .false⟩), .not, [(.t 25)]⟩, ⟨(.some 27), .none, .pick, [(.t 19), (.c (.bool .true)), (.t 26)]⟩, ⟨(.some 28), .none, .mov, [(.t 27)]⟩, ⟨(.some 29), (.some ⟨28, .false⟩), .mov, [(.t 11)]⟩, ⟨(.some 30), (.some ⟨28, .false⟩), (.call 29), [(.t 29)]⟩, ⟨(.some 31), .none, .pick, [(.t 28), (.c (.bool .true)), (.t 30)]⟩]) (.cond (.t 31) (.seq (.reg .false [] [⟨(.some 10), .none, .mov, [(.c (.bool .false))]⟩]) .ret) .skip)) (.seq (.seq (.reg .false [] [⟨(.some 32), .none, .mov, [(.t 2)]⟩, ⟨(.some 33), .none, .mov, [(.t 1)]⟩, ⟨(.some 34), .none, (.cmp .lss), [(.t 32), (.t 33)]⟩]) (.cond (.t 34) (.reg .false [] [⟨(.some 35), .none, .mov, [(.t 2)]⟩, ⟨(.some 36), .none, .mov, [(.t 1)]⟩, ⟨(.some 1), .none, .mov, [(.t 35)]⟩, ⟨(.some 2), .none, .mov, [(.t 36)]⟩]) .skip)) (.seq (.seq (.reg .false [] [⟨(.some 37), .none, .mov, [(.t 1)]⟩, ⟨(.some 38), .none, (.cmp .lss), [(.t 37), (.c (.int .i64 (.ofNat 0)))]⟩]) (.cond (.t 38) (.seq (.reg .false [] [⟨(.some 10), .none, .mov, [(.c (.bool .true))]⟩]) .ret) .skip)) (.seq (.reg .false [] [⟨(.some 39), .none, (.mk [(.int .i64 (.ofNat 0)), (.int .i64 (.ofNat 0)), (.int .i64 (.ofNat 0)), (.int .i64 (.ofNat 0))] []), []⟩, ⟨(.some 40), .none, .mov, [(.t 2)]⟩, ⟨(.some 41), .none, .mov, [(.t 3)]⟩, ⟨(.some 42), .none, .mov, [(.t 4)]⟩, ⟨(.some 43), .none, (.call 27), [(.t 39), (.t 40), (.t 41), (.t 42)]⟩, ⟨(.some 44), .none, (.mk [(.int .i64 (.ofNat 0)), (.int .i64 (.ofNat 0)), (.int .i64 (.ofNat 0)), (.int .i64 (.ofNat 0))] []), []⟩, ⟨(.some 45), .none, .mov, [(.t 1)]⟩, ⟨(.some 46), .none, .mov, [(.t 3)]⟩, ⟨(.some 47), .none, .mov, [(.t 4)]⟩, ⟨(.some 48), .none, (.call 27), [(.t 44), (.t 45), (.t 46), (.t 47)]⟩, ⟨(.some 49), .none, (.fcmp .leq .f64), [(.t 43), (.t 48)]⟩, ⟨(.some 10), .none, .mov, [(.t 49)]⟩]) .ret))))))⟩
theorem ok10 : FnOK Try.prog 10 vf10 := .of Try.func10 (by kernel_rfl) (by kernel_rfl)
def vf11 : VF := ⟨33, [(.tmp 0)], (.seq (.reg .false [] [⟨(.some 0), .none, .mov, [(.c (.bool .false))]⟩]) (.seq (.reg .false [] [⟨(.some 1), .none, (.call 13), [(.c (.int .i64 (.ofNat 64)))]⟩, ⟨(.some 2), .none, (.fcmp .eql .f64), [(.t 1), (.c (.flt .f64 4602678819172646912))]⟩, ⟨(.some 3), .none, .mov, [(.t 2)]⟩, ⟨(.some 4), (.some ⟨3, .true⟩), (.call 13), [(.c (.int .i64 (.ofNat 32)))]⟩, ⟨(.some 5), (.some ⟨3, .true⟩), (.fcmp .eql .f64), [(.t 4), (.c (.flt .f64 4604930618986332160))]⟩, ⟨(.some 6), .none, .pick, [(.t 3), (.t 5), (.c (.bool .false))]⟩, ⟨(.some 7), .none, .mov, [(.t 6)]⟩, ⟨(.some 8), (.some ⟨7, .true⟩), (.call 25), [(.c (.int .i64 (.ofNat 0))), (.c (.int .i64 (.ofNat 9)))]⟩, ⟨(.some 9), (.some ⟨7, .true⟩), (.fcmp .eql .f64), [(.t 8), (.c (.flt .f64 4607182418800017408))]⟩, ⟨(.some 10), .none, .pick, [(.t 7), (.t 9), (.c (.bool .false))]⟩, ⟨(.some 11), .none, .mov, [(.t 10)]⟩, ⟨(.some 12), (.some ⟨11, .true⟩), (.call 14), [(.c (.int .i64 (.ofNat 1))), (.c (.int .i64 (.ofNat 0))), (.c (.flt .f64 0))]⟩, ⟨(.some 13), (.some ⟨11, .true⟩), (.call 30), [(.t 12), (.c (.int .i64 (.ofNat 1)))]⟩, ⟨(.some 14), .none, .pick, [(.t 11), (.t 13), (.c (.bool .false))]⟩, ⟨(.some 15), .none, .mov, [(.t 14)]⟩, ⟨(.some 16), (.some ⟨15, .true⟩), (.call 14), [(.c (.int .i64 (.ofNat 1))), (.c (.int .i64 (.ofNat 2))), (.c (.flt .f64 4602678819172646912))]⟩, ⟨(.some 17), (.some ⟨15, .true⟩), (.fcmp .eql .f64), [(.t 16), (.c (.flt .f64 4641979762795872256))]⟩, ⟨(.some 18), .none, .pick, [(.t 15), (.t 17), (.c (.bool .false))]⟩, ⟨(.some 19), .none, .mov, [(.t 18)]⟩, ⟨(.some 20), (.some ⟨19, .true⟩), (.call 31), []⟩, ⟨(.some 21), (.some ⟨19, .true⟩), (.call 22), [(.t 20)]⟩, ⟨(.some 22), (.some ⟨19, .true⟩), (.fcmp .eql .f64), [(.t 21), (.c (.flt .f64 0))]⟩, ⟨(.some 23), .none, .pick, [(.t 19), (.t 22), (.c (.bool .false))]⟩, ⟨(.some 24), .none, .mov, [(.t 23)]⟩, ⟨(.some 25), (.some ⟨24, .true⟩), (.call 31), []⟩, ⟨(.some 26), (.some ⟨24, .true⟩), (.call 12), [(.t 25), (.c (.flt .f64 4607182418800017408))]⟩, ⟨(.some 27), (.some ⟨24, .true⟩), .not, [(.t 26)]⟩, ⟨(.some 28), .none, .pick, [(.t 24), (.t 27), (.c (.bool .false))]⟩, ⟨(.some 29), .none, .mov, [(.t 28)]⟩, ⟨(.some 30), (.some ⟨29, .true⟩), (.call 31), []⟩, ⟨(.some 31), (.some ⟨29, .true⟩), (.call 12), [(.c (.flt .f64 4607182418800017408)), (.t 30)]⟩, ⟨(.some 32), .none, .pick, [(.t 29), (.t 31), (.c (.bool .false))]⟩, ⟨(.some 0), .none, .mov, [(.t 32)]⟩]) .ret))⟩
theorem ok11 : FnOK Try.prog 11 vf11 := .of Try.func11 (by kernel_rfl) (by kernel_rfl)
def vf12 : VF := ⟨14, [(.tmp 4)], (.seq (.reg .false [] [⟨(.some 4), .none, .mov, [(.c (.bool .false))]⟩]) (.seq (.block 0 (.seq (.reg .false [] [⟨(.some 6), .none, .mov, [(.t 0)]⟩, ⟨(.some 7), .none, (.call 32), [(.t 6)]⟩, ⟨(.some 5), .none, .mov, [(.t 7)]⟩]) (.cond (.t 5) (.seq (.reg .false [] [⟨(.some 4), .none, .mov, [(.c (.bool .false))]⟩]) .ret) (.seq (.reg .false [] [⟨(.some 9), .none, .mov, [(.t 1)]⟩, ⟨(.some 10), .none, (.call 32), [(.t 9)]⟩, ⟨(.some 8), .none, .mov, [(.t 10)]⟩]) (.cond (.t 8) (.seq (.reg .false [] [⟨(.some 4), .none, .mov, [(.c (.bool .true))]⟩]) .ret) .skip))))) (.seq (.reg .false [] [⟨(.some 11), .none, .mov, [(.t 0)]⟩, ⟨(.some 12), .none, .mov, [(.t 1)]⟩, ⟨(.some 13), .none, (.fcmp .lss .f64), [(.t 11), (.t 12)]⟩, ⟨(.some 4), .none, .mov, [(.t 13)]⟩]) .ret)))⟩
theorem ok12 : FnOK Try.prog 12 vf12 := .of Try.func12 (by kernel_rfl) (by kernel_rfl)
def vf13 : VF := ⟨21, [(.tmp 2)], (.seq (.reg .false [] [⟨(.some 2), .none, .mov, [(.c (.flt .f64 0))]⟩]) (.seq (.seq (.reg .false [] [⟨(.some 5), .none, .mov, [(.t 0)]⟩, ⟨(.some 6), .none, (.cmp .lss), [(.t 5), (.c (.int .i64 (.ofNat 0)))]⟩]) (.cond (.t 6) (.seq (.reg .false [] [⟨(.some 2), .none, .mov, [(.c (.flt .f64 4607182418800017408))]⟩]) .ret) .skip)) (.seq (.reg .false [] [⟨(.some 7), .none, .mov, [(.t 0)]⟩, ⟨(.some 8), .none, (.div .quo .i64), [(.t 7), (.c (.int .i64 (.ofNat 64)))]⟩, ⟨(.some 9), .none, .mov, [(.t 0)]⟩, ⟨(.some 10), .none, (.div .rem .i64), [(.t 9), (.c (.int .i64 (.ofNat 64)))]⟩, ⟨(.some 3), .none, .mov, [(.t 8)]⟩, ⟨(.some 4), .none, .mov, [(.t 10)]⟩]) (.seq (.seq (.reg .false [] [⟨(.some 11), .none, .mov, [(.t 3)]⟩, ⟨(.some 12), .none, (.cmp .gtr), [(.t 11), (.c (.int .i64 (.ofNat 64)))]⟩]) (.cond (.t 12) (.seq (.reg .false [] [⟨(.some 2), .none, .mov, [(.c (.flt .f64 0))]⟩]) .ret) .skip)) (.seq (.reg .false [] [⟨(.some 13), .none, .mov, [(.t 3)]⟩, ⟨(.some 14), .none, (.bin .sub .i64), [(.c (.int .i64 (.ofNat 0))), (.t 13)]⟩, ⟨(.some 15), .none, (.call 33), [(.c (.flt .f64 4607182418800017408)), (.t 14)]⟩, ⟨(.some 16), .none, .mov, [(.t 4)]⟩, ⟨(.some 17), .none, (.i2f .f64), [(.t 16)]⟩, ⟨(.some 18), .none, (.fbin .quo .f64), [(.t 17), (.c (.flt .f64 4638707616191610880))]⟩, ⟨(.some 19), .none, (.fbin .sub .f64), [(.c (.flt .f64 4607182418800017408)), (.t 18)]⟩, ⟨(.some 20), .none, (.fbin .mul .f64), [(.t 15), (.t 19)]⟩, ⟨(.some 2), .none, .mov, [(.t 20)]⟩]) .ret)))))⟩
theorem ok13 : FnOK Try.prog 13 vf13 := .of Try.func13 (by kernel_rfl) (by kernel_rfl)
def vf14 : VF := ⟨30, [(.tmp 6)], (.seq (.reg .false [] [⟨(.some 6), .none, .mov, [(.c (.flt .f64 0))]⟩]) (.seq (.reg .false [] [⟨(.some 8), .none, .mov, [(.t 2)]⟩, ⟨(.some 9), .none, (.call 22), [(.t 8)]⟩, ⟨(.some 7), .none, .mov, [(.t 9)]⟩]) (.seq (.seq (.reg .false [] [⟨(.some 10), .none, .mov, [(.t 0)]⟩, ⟨(.some 11), .none, (.cmp .lss), [(.t 10), (.c (.int .i64 (.ofNat 0)))]⟩, ⟨(.some 12), .none, .mov, [(.t 11)]⟩, ⟨(.some 13), (.some ⟨12, .false⟩), .mov, [(.t 1)]⟩, ⟨(.some 14), (.some ⟨12, .false⟩), (.cmp .lss), [(.t 13), (.c (.int .i64 (.ofNat 0)))]⟩, ⟨(.some 15), .none, .pick, [(.t 12), (.c (.bool .true)), (.t 14)]⟩, ⟨(.some 16), .none, .mov, [(.t 15)]⟩, ⟨(.some 17), (.some ⟨16, .false⟩), .mov, [(.t 7)]⟩, ⟨(.some 18), (.some ⟨16, .false⟩), (.fcmp .eql .f64), [(.t 17), (.c (.flt .f64 0))]⟩, ⟨(.some 19), .none, .pick, [(.t 16), (.c (.bool .true)), (.t 18)]⟩]) (.cond (.t 19) (.seq (.reg .false [] [⟨(.some 20), .none, (.call 34), [(.c (.int .i64 (.ofNat 1)))]⟩, ⟨(.some 6), .none, .mov, [(.t 20)]⟩]) .ret) .skip)) (.seq (.reg .false [] [⟨(.some 21), .none, .mov, [(.t 0)]⟩, ⟨(.some 22), .none, (.i2f .f64), [(.t 21)]⟩, ⟨(.some 23), .none, .mov, [(.t 1)]⟩, ⟨(.some 24), .none, (.i2f .f64), [(.t 23)]⟩, ⟨(.some 25), .none, (.fbin .mul .f64), [(.t 24), (.c (.flt .f64 4621819117588971520))]⟩, ⟨(.some 26), .none, (.fbin .add .f64), [(.t 22), (.t 25)]⟩, ⟨(.some 27), .none, .mov, [(.t 7)]⟩, ⟨(.some 28), .none, (.fbin .quo .f64), [(.c (.flt .f64 4636737291354636288)), (.t 27)]⟩, ⟨(.some 29), .none, (.fbin .add .f64), [(.t 26), (.t 28)]⟩, ⟨(.some 6), .none, .mov, [(.t 29)]⟩]) .ret))))⟩
theorem ok14 : FnOK Try.prog 14 vf14 := .of Try.func14 (by kernel_rfl) (by kernel_rfl)
def vf15 : VF := ⟨20, [(.tmp 4)], (.seq (.reg .false [] [⟨(.some 4), .none, .mov, [(.c (.bool .false))]⟩]) (.seq (.reg .false [] [⟨(.some 5), .none, .mov, [(.t 0)]⟩, ⟨(.some 6), .none, .f2b, [(.t 5)]⟩, ⟨(.some 7), .none, .mov, [(.t 1)]⟩, ⟨(.some 8), .none, .f2b, [(.t 7)]⟩, ⟨(.some 9), .none, (.cmp .eql), [(.t 6), (.t 8)]⟩, ⟨(.some 10), .none, .mov, [(.t 9)]⟩, ⟨(.some 11), (.some ⟨10, .false⟩), .mov, [(.t 0)]⟩, ⟨(.some 12), (.some ⟨10, .false⟩), .mov, [(.t 0)]⟩, ⟨(.some 13), (.some ⟨10, .false⟩), (.fcmp .neq .f64), [(.t 11), (.t 12)]⟩, ⟨(.some 14), (.some ⟨10, .false⟩), .mov, [(.t 13)]⟩, ⟨(.some 15), (.some ⟨14, .true⟩), .mov, [(.t 1)]⟩, ⟨(.some 16), (.some ⟨14, .true⟩), .mov, [(.t 1)]⟩, ⟨(.some 17), (.some ⟨14, .true⟩), (.fcmp .neq .f64), [(.t 15), (.t 16)]⟩, ⟨(.some 18), (.some ⟨10, .false⟩), .pick, [(.t 14), (.t 17), (.c (.bool .false))]⟩, ⟨(.some 19), .none, .pick, [(.t 10), (.c (.bool .true)), (.t 18)]⟩, ⟨(.some 4), .none, .mov, [(.t 19)]⟩]) .ret))⟩
theorem ok15 : FnOK Try.prog 15 vf15 := .of Try.func15 (by kernel_rfl) (by kernel_rfl)
def vf16 : VF := ⟨34, [(.tmp 6)], (.seq (.reg .false [] [⟨(.some 6), .none, .mov, [(.c (.flt .f64 0))]⟩]) (.seq (.reg .false [] [⟨(.some 10), .none, .mov, [(.t 2)]⟩, ⟨(.some 11), .none, (.call 23), [(.t 10)]⟩, ⟨(.some 7), .none, .mov, [(.t 11)]⟩]) (.seq (.seq (.reg .false [] [⟨(.some 12), .none, .mov, [(.t 0)]⟩, ⟨(.some 13), .none, (.cmp .lss), [(.t 12), (.c (.int .i64 (.ofNat 0)))]⟩, ⟨(.some 14), .none, .mov, [(.t 13)]⟩, ⟨(.some 15), (.some ⟨14, .false⟩), .mov, [(.t 1)]⟩, ⟨(.some 16), (.some ⟨14, .false⟩), (.cmp .lss), [(.t 15), (.c (.int .i64 (.ofNat 0)))]⟩, ⟨(.some 17), .none, .pick, [(.t 14), (.c (.bool .true)), (.t 16)]⟩, ⟨(.some 18), .none, .mov, [(.t 17)]⟩, ⟨(.some 19), (.some ⟨18, .false⟩), .mov, [(.t 7)]⟩, ⟨(.some 20), (.some ⟨18, .false⟩), (.fcmp .eql .f64), [(.t 19), (.c (.flt .f64 0))]⟩, ⟨(.some 21), .none, .pick, [(.t 18), (.c (.bool .true)), (.t 20)]⟩]) (.cond (.t 21) (.seq (.reg .false [] [⟨(.some 22), .none, (.call 34), [(.c (.int .i64 (.ofNat 1)))]⟩, ⟨(.some 6), .none, .mov, [(.t 22)]⟩]) .ret) .skip)) (.seq (.reg .false [] [⟨(.some 23), .none, .mov, [(.t 1)]⟩, ⟨(.some 24), .none, (.i2f .f64), [(.t 23)]⟩, ⟨(.some 25), .none, (.fbin .mul .f64), [(.t 24), (.c (.flt .f64 4621819117588971520))]⟩, ⟨(.some 8), .none, .mov, [(.t 25)]⟩]) (.seq (.reg .false [] [⟨(.some 26), .none, .mov, [(.t 7)]⟩, ⟨(.some 27), .none, (.fbin .quo .f64), [(.c (.flt .f64 4636737291354636288)), (.t 26)]⟩, ⟨(.some 9), .none, .mov, [(.t 27)]⟩]) (.seq (.reg .false [] [⟨(.some 28), .none, .mov, [(.t 0)]⟩, ⟨(.some 29), .none, (.i2f .f64), [(.t 28)]⟩, ⟨(.some 30), .none, .mov, [(.t 8)]⟩, ⟨(.some 31), .none, (.fbin .add .f64), [(.t 29), (.t 30)]⟩, ⟨(.some 32), .none, .mov, [(.t 9)]⟩, ⟨(.some 33), .none, (.fbin .add .f64), [(.t 31), (.t 32)]⟩, ⟨(.some 6), .none, .mov, [(.t 33)]⟩]) .ret))))))⟩
theorem ok16 : FnOK Try.prog 16 vf16 := .of Try.func16 (by kernel_rfl) (by kernel_rfl)
def vf17 : VF := ⟨28, [(.tmp 2)], (.seq (.reg .false [] [⟨(.some 2), .none, .mov, [(.c (.flt .f64 0))]⟩]) (.seq (.reg .false [] [⟨(.some 3), .none, .mov, [(.c (.flt .f64 0))]⟩]) (.seq (.seq (.reg .false [] [⟨(.some 6), .none, .mov, [(.t 0)]⟩, ⟨(.some 7), .none, .len, [(.t 6)]⟩, ⟨(.some 8), .none, .mov, [(.c (.int .i64 (.ofNat 0)))]⟩]) (.block 0 (.loop (.seq (.reg .false [] [⟨(.some 9), .none, (.cmp .lss), [(.t 8), (.t 7)]⟩]) (.seq (.cond (.t 9) .skip (.exit 0)) (.seq (.block 1 (.seq (.reg .false [] [⟨(.some 10), .none, (.ixS 1), [(.t 6), (.t 8)]⟩, ⟨(.some 11), .none, (.ld1 (.flt .f64)), [(.t 10)]⟩, ⟨(.some 5), .none, .mov, [(.t 11)]⟩]) (.seq (.seq (.reg .false [] [⟨(.some 12), .none, .mov, [(.t 5)]⟩, ⟨(.some 13), .none, (.call 32), [(.t 12)]⟩, ⟨(.some 14), .none, .mov, [(.t 13)]⟩, ⟨(.some 15), (.some ⟨14, .false⟩), .mov, [(.t 5)]⟩, ⟨(.some 16), (.some ⟨14, .false⟩), (.fcmp .lss .f64), [(.t 15), (.c (.flt .f64 0))]⟩, ⟨(.some 17), .none, .pick, [(.t 14), (.c (.bool .true)), (.t 16)]⟩, ⟨(.some 18), .none, .mov, [(.t 17)]⟩, ⟨(.some 19), (.some ⟨18, .false⟩), .mov, [(.t 5)]⟩, ⟨(.some 20), (.some ⟨18, .false⟩), (.call 30), [(.t 19), (.c (.int .i64 (.ofNat 1)))]⟩, ⟨(.some 21), .none, .pick, [(.t 18), (.c (.bool .true)), (.t 20)]⟩]) (.cond (.t 21) (.seq (.reg .false [] [⟨(.some 22), .none, (.call 34), [(.c (.int .i64 (.ofNat 1)))]⟩, ⟨(.some 2), .none, .mov, [(.t 22)]⟩]) .ret) .skip)) (.reg .false [] [⟨(.some 23), .none, .mov, [(.t 3)]⟩, ⟨(.some 24), .none, .mov, [(.t 5)]⟩, ⟨(.some 25), .none, (.fbin .add .f64), [(.t 23), (.t 24)]⟩, ⟨(.some 3), .none, .mov, [(.t 25)]⟩])))) (.reg .false [] [⟨(.some 26), .none, (.bin .add .i64), [(.t 8), (.c (.int .i64 (.ofNat 1)))]⟩, ⟨(.some 8), .none, .mov, [(.t 26)]⟩]))))))) (.seq (.reg .false [] [⟨(.some 27), .none, .mov, [(.t 3)]⟩, ⟨(.some 2), .none, .mov, [(.t 27)]⟩]) .ret))))⟩
theorem ok17 : FnOK Try.prog 17 vf17 := .of Try.func17 (by kernel_rfl) (by kernel_rfl)
def vf18 : VF := ⟨32, [(.tmp 2)], (.seq (.reg .false [] [⟨(.some 2), .none, .mov, [(.c (.flt .f64 0))]⟩]) (.seq (.reg .false [] [⟨(.some 3), .none, .mov, [(.c (.flt .f64 0))]⟩]) (.seq (.seq (.reg .false [] [⟨(.some 4), .none, .mov, [(.c (.int .i64 (.ofNat 0)))]⟩]) (.block 0 (.loop (.seq (.seq (.reg .false [] [⟨(.some 5), .none, .mov, [(.t 4)]⟩, ⟨(.some 6), .none, .mov, [(.t 0)]⟩, ⟨(.some 7), .none, .len, [(.t 6)]⟩, ⟨(.some 8), .none, (.cmp .lss), [(.t 5), (.t 7)]⟩]) (.cond (.t 8) .skip (.exit 0))) (.seq (.block 1 (.seq (.seq (.reg .false [] [⟨(.some 11), .none, .mov, [(.t 0)]⟩, ⟨(.some 12), .none, .mov, [(.t 4)]⟩, ⟨(.some 13), .none, (.ixS 1), [(.t 11), (.t 12)]⟩, ⟨(.some 14), .none, (.ld1 (.flt .f64)), [(.t 13)]⟩, ⟨(.some 15), .none, (.fcmp .geq .f64), [(.t 14), (.c (.flt .f64 0))]⟩, ⟨(.some 16), .none, .not, [(.t 15)]⟩, ⟨(.some 17), .none, .mov, [(.t 16)]⟩, ⟨(.some 18), (.some ⟨17, .false⟩), .mov, [(.t 0)]⟩, ⟨(.some 19), (.some ⟨17, .false⟩), .mov, [(.t 4)]⟩, ⟨(.some 20), (.some ⟨17, .false⟩), (.ixS 1), [(.t 18), (.t 19)]⟩, ⟨(.some 21), (.some ⟨17, .false⟩), (.ld1 (.flt .f64)), [(.t 20)]⟩, ⟨(.some 22), (.some ⟨17, .false⟩), (.call 30), [(.t 21), (.c (.int .i64 (.ofNat 1)))]⟩, ⟨(.some 23), .none, .pick, [(.t 17), (.c (.bool .true)), (.t 22)]⟩]) (.cond (.t 23) (.seq (.reg .false [] [⟨(.some 24), .none, (.call 34), [(.c (.int .i64 (.ofNat 1)))]⟩, ⟨(.some 2), .none, .mov, [(.t 24)]⟩]) .ret) .skip)) (.reg .false [] [⟨(.some 25), .none, .mov, [(.t 3)]⟩, ⟨(.some 26), .none, .mov, [(.t 0)]⟩, ⟨(.some 27), .none, .mov, [(.t 4)]⟩, ⟨(.some 28), .none, (.ixS 1), [(.t 26), (.t 27)]⟩, ⟨(.some 29), .none, (.ld1 (.flt .f64)), [(.t 28)]⟩, ⟨(.some 30), .none, (.fbin .add .f64), [(.t 25), (.t 29)]⟩, ⟨(.some 3), .none, .mov, [(.t 30)]⟩]))) (.reg .false [] [⟨(.some 9), .none, .mov, [(.t 4)]⟩, ⟨(.some 10), .none, (.bin .add .i64), [(.t 9), (.c (.int .i64 (.ofNat 1)))]⟩, ⟨(.some 4), .none, .mov, [(.t 10)]⟩])))))) (.seq (.reg .false [] [⟨(.some 31), .none, .mov, [(.t 3)]⟩, ⟨(.some 2), .none, .mov, [(.t 31)]⟩]) .ret))))⟩
theorem ok18 : FnOK Try.prog 18 vf18 := .of Try.func18 (by kernel_rfl) (by kernel_rfl)
def vf19 : VF := ⟨16, [(.tmp 4)], (.seq (.reg .false [] [⟨(.some 4), .none, .mov, [(.c (.bool .false))]⟩]) (.seq (.seq (.reg .false [] [⟨(.some 5), .none, .mov, [(.t 0)]⟩, ⟨(.some 6), .none, .mov, [(.t 0)]⟩, ⟨(.some 7), .none, (.fcmp .neq .f64), [(.t 5), (.t 6)]⟩]) (.cond (.t 7) (.seq (.reg .false [] [⟨(.some 4), .none, .mov, [(.c (.bool .false))]⟩]) .ret) .skip)) (.seq (.reg .false [] [⟨(.some 8), .none, .mov, [(.t 1)]⟩, ⟨(.some 9), .none, .mov, [(.t 1)]⟩, ⟨(.some 10), .none, (.fcmp .neq .f64), [(.t 8), (.t 9)]⟩, ⟨(.some 11), .none, .mov, [(.t 10)]⟩, ⟨(.some 12), (.some ⟨11, .false⟩), .mov, [(.t 0)]⟩, ⟨(.some 13), (.some ⟨11, .false⟩), .mov, [(.t 1)]⟩, ⟨(.some 14), (.some ⟨11, .false⟩), (.fcmp .lss .f64), [(.t 12), (.t 13)]⟩, ⟨(.some 15), .none, .pick, [(.t 11), (.c (.bool .true)), (.t 14)]⟩, ⟨(.some 4), .none, .mov, [(.t 15)]⟩]) .ret)))⟩
theorem ok19 : FnOK Try.prog 19 vf19 := .of Try.func19 (by kernel_rfl) (by kernel_rfl)
def vf20 : VF := ⟨51, [(.cell 8 4)], (.seq (.reg .false [] [⟨(.some 4), .none, .box, [(.t 0)]⟩, ⟨(.some 8), .none, (.alloc [(.int .i64 (.ofNat 0)), (.int .i64 (.ofNat 0)), (.int .i64 (.ofNat 0)), (.int .i64 (.ofNat 0))]), []⟩]) (.seq (.block 0 (.seq (.reg .false [] [⟨(.some 29), .none, .mov, [(.t 1)]⟩, ⟨(.some 30), .none, (.cmp .lss), [(.t 29), (.c (.int .i64 (.ofNat 1)))]⟩, ⟨(.some 31), .none, .mov, [(.t 30)]⟩, ⟨(.some 32), (.some ⟨31, .false⟩), .mov, [(.t 2)]⟩, ⟨(.some 33), (.some ⟨31, .false⟩), (.cmp .lss), [(.t 32), (.c (.int .i64 (.ofNat 1)))]⟩, ⟨(.some 34), .none, .pick, [(.t 31), (.c (.bool .true)), (.t 33)]⟩, ⟨(.some 28), .none, .mov, [(.t 34)]⟩]) (.cond (.t 28) .skip (.seq (.reg .false [] [⟨(.some 36), .none, .mov, [(.t 3)]⟩, ⟨(.some 35), .none, .mov, [(.t 36)]⟩]) (.cond (.t 35) (.seq (.reg .false [] [⟨(.some 37), .none, (.fld 0), [(.t 4)]⟩, ⟨(.some 38), .none, (.ld1 (.int .i64)), [(.t 37)]⟩, ⟨(.some 39), .none, .mov, [(.t 1)]⟩, ⟨(.some 40), .none, (.mnx .true), [(.t 38), (.t 39)]⟩, ⟨(.some 41), .none, .mov, [(.t 2)]⟩, ⟨(.some 42), .none, (.fld 0), [(.t 4)]⟩, ⟨.none, .none, .st1, [(.t 42), (.t 40)]⟩, ⟨(.some 43), .none, (.fld 1), [(.t 4)]⟩, ⟨.none, .none, .st1, [(.t 43), (.t 41)]⟩]) (.seq (.reg .false [] [⟨(.some 44), .none, (.fld 2), [(.t 4)]⟩, ⟨(.some 45), .none, (.ld1 (.int .i64)), [(.t 44)]⟩, ⟨(.some 46), .none, .mov, [(.t 1)]⟩, ⟨(.some 47), .none, (.cmp .leq), [(.t 45), (.t 46)]⟩]) (.cond (.t 47) (.reg .false [] [⟨(.some 48), .none, (.fld 2), [(.t 4)]⟩, ⟨.none, .none, .st1, [(.t 48), (.c (.int .i64 (.ofNat 0)))]⟩, ⟨(.some 49), .none, (.fld 3), [(.t 4)]⟩, ⟨.none, .none, .st1, [(.t 49), (.c (.int .i64 (.ofNat 0)))]⟩]) .skip))) (.seq (.seq (.reg .false [] [⟨(.some 9), .none, (.fld 3), [(.t 4)]⟩, ⟨(.some 10), .none, (.ld1 (.int .i64)), [(.t 9)]⟩, ⟨(.some 11), .none, (.cmp .eql), [(.t 10), (.c (.int .i64 (.ofNat 0)))]⟩, ⟨(.some 12), .none, .mov, [(.t 11)]⟩, ⟨(.some 13), (.some ⟨12, .false⟩), .mov, [(.t 1)]⟩, ⟨(.some 14), (.some ⟨12, .false⟩), (.fld 2), [(.t 4)]⟩, ⟨(.some 15), (.some ⟨12, .false⟩), (.ld1 (.int .i64)), [(.t 14)]⟩, ⟨(.some 16), (.some ⟨12, .false⟩), (.cmp .lss), [(.t 13), (.t 15)]⟩, ⟨(.some 17), .none, .pick, [(.t 12), (.c (.bool .true)), (.t 16)]⟩]) (.cond (.t 17) (.reg .false [] [⟨(.some 18), .none, .mov, [(.t 1)]⟩, ⟨(.some 19), .none, (.fld 2), [(.t 4)]⟩, ⟨.none, .none, .st1, [(.t 19), (.t 18)]⟩]) .skip)) (.reg .false [] [⟨(.some 20), .none, .mov, [(.t 2)]⟩, ⟨(.some 21), .none, (.fld 0), [(.t 4)]⟩, ⟨(.some 22), .none, (.ld1 (.int .i64)), [(.t 21)]⟩, ⟨(.some 23), .none, .mov, [(.t 1)]⟩, ⟨(.some 24), .none, (.bin .sub .i64), [(.t 23), (.c (.int .i64 (.ofNat 1)))]⟩, ⟨(.some 25), .none, (.mnx .false), [(.t 22), (.t 24)]⟩, ⟨(.some 26), .none, (.fld 3), [(.t 4)]⟩, ⟨.none, .none, .st1, [(.t 26), (.t 20)]⟩, ⟨(.some 27), .none, (.fld 0), [(.t 4)]⟩, ⟨.none, .none, .st1, [(.t 27), (.t 25)]⟩]))))))) (.seq (.reg .false [] [⟨(.some 50), .none, (.ldn 4), [(.t 4)]⟩, ⟨.none, .none, (.stn 4), [(.t 8), (.t 50)]⟩]) .ret)))⟩
theorem ok20 : FnOK Try.prog 20 vf20 := .of Try.func20 (by kernel_rfl) (by kernel_rfl)
def vf21 : VF := ⟨53, [(.cell 8 4)], (.seq (.reg .false [] [⟨(.some 4), .none, .box, [(.t 0)]⟩, ⟨(.some 8), .none, (.alloc [(.int .i64 (.ofNat 0)), (.int .i64 (.ofNat 0)), (.int .i64 (.ofNat 0)), (.int .i64 (.ofNat 0))]), []⟩]) (.seq (.seq (.reg .false [] [⟨(.some 9), .none, .mov, [(.t 1)]⟩, ⟨(.some 10), .none, (.cmp .lss), [(.t 9), (.c (.int .i64 (.ofNat 1)))]⟩, ⟨(.some 11), .none, .mov, [(.t 10)]⟩, ⟨(.some 12), (.some ⟨11, .false⟩), .mov, [(.t 2)]⟩, ⟨(.some 13), (.some ⟨11, .false⟩), (.cmp .lss), [(.t 12), (.c (.int .i64 (.ofNat 1)))]⟩, ⟨(.some 14), .none, .pick, [(.t 11), (.c (.bool .true)), (.t 13)]⟩]) (.cond (.t 14) (.seq (.reg .false [] [⟨(.some 15), .none, (.ldn 4), [(.t 4)]⟩, ⟨.none, .none, (.stn 4), [(.t 8), (.t 15)]⟩]) .ret) .skip)) (.seq (.seq (.reg .false [] [⟨(.some 16), .none, .mov, [(.t 3)]⟩]) (.cond (.t 16) (.seq (.seq (.reg .false [] [⟨(.some 17), .none, .mov, [(.t 1)]⟩, ⟨(.some 18), .none, (.fld 0), [(.t 4)]⟩, ⟨(.some 19), .none, (.ld1 (.int .i64)), [(.t 18)]⟩, ⟨(.some 20), .none, (.cmp .gtr), [(.t 17), (.t 19)]⟩]) (.cond (.t 20) (.reg .false [] [⟨(.some 21), .none, .mov, [(.t 1)]⟩, ⟨(.some 22), .none, (.fld 0), [(.t 4)]⟩, ⟨.none, .none, .st1, [(.t 22), (.t 21)]⟩]) .skip)) (.seq (.reg .false [] [⟨(.some 23), .none, .mov, [(.t 2)]⟩, ⟨(.some 24), .none, (.fld 1), [(.t 4)]⟩, ⟨.none, .none, .st1, [(.t 24), (.t 23)]⟩]) (.seq (.seq (.reg .false [] [⟨(.some 25), .none, (.fld 2), [(.t 4)]⟩, ⟨(.some 26), .none, (.ld1 (.int .i64)), [(.t 25)]⟩, ⟨(.some 27), .none, .mov, [(.t 1)]⟩, ⟨(.some 28), .none, (.cmp .leq), [(.t 26), (.t 27)]⟩]) (.cond (.t 28) (.reg .false [] [⟨(.some 29), .none, (.fld 2), [(.t 4)]⟩, ⟨.none, .none, .st1, [(.t 29), (.c (.int .i64 (.ofNat 0)))]⟩, ⟨(.some 30), .none, (.fld 3), [(.t 4)]⟩, ⟨.none, .none, .st1, [(.t 30), (.c (.int .i64 (.ofNat 0)))]⟩]) .skip)) (.seq (.reg .false [] [⟨(.some 31), .none, (.ldn 4), [(.t 4)]⟩, ⟨.none, .none, (.stn 4), [(.t 8), (.t 31)]⟩]) .ret)))) .skip)) (.seq (.seq (.reg .false [] [⟨(.some 32), .none, (.fld 3), [(.t 4)]⟩, ⟨(.some 33), .none, (.ld1 (.int .i64)), [(.t 32)]⟩, ⟨(.some 34), .none, (.cmp .eql), [(.t 33), (.c (.int .i64 (.ofNat 0)))]⟩, ⟨(.some 35), .none, .mov, [(.t 34)]⟩, ⟨(.some 36), (.some ⟨35, .false⟩), .mov, [(.t 1)]⟩, ⟨(.some 37), (.some ⟨35, .false⟩), (.fld 2), [(.t 4)]⟩, ⟨(.some 38), (.some ⟨35, .false⟩), (.ld1 (.int .i64)), [(.t 37)]⟩, ⟨(.some 39), (.some ⟨35, .false⟩), (.cmp .lss), [(.t 36), (.t 38)]⟩, ⟨(.some 40), .none, .pick, [(.t 35), (.c (.bool .true)), (.t 39)]⟩]) (.cond (.t 40) (.reg .false [] [⟨(.some 41), .none, .mov, [(.t 1)]⟩, ⟨(.some 42), .none, (.fld 2), [(.t 4)]⟩, ⟨.none, .none, .st1, [(.t 42), (.t 41)]⟩]) .skip)) (.seq (.reg .false [] [⟨(.some 43), .none, .mov, [(.t 2)]⟩, ⟨(.some 44), .none, (.fld 3), [(.t 4)]⟩, ⟨.none, .none, .st1, [(.t 44), (.t 43)]⟩]) (.seq (.seq (.reg .false [] [⟨(.some 45), .none, (.fld 0), [(.t 4)]⟩, ⟨(.some 46), .none, (.ld1 (.int .i64)), [(.t 45)]⟩, ⟨(.some 47), .none, .mov, [(.t 1)]⟩, ⟨(.some 48), .none, (.cmp .geq), [(.t 46), (.t 47)]⟩]) (.cond (.t 48) (.reg .false [] [⟨(.some 49), .none, .mov, [(.t 1)]⟩, ⟨(.some 50), .none, (.bin .sub .i64), [(.t 49), (.c (.int .i64 (.ofNat 1)))]⟩, ⟨(.some 51), .none, (.fld 0), [(.t 4)]⟩, ⟨.none, .none, .st1, [(.t 51), (.t 50)]⟩]) .skip)) (.seq (.reg .false [] [⟨(.some 52), .none, (.ldn 4), [(.t 4)]⟩, ⟨.none, .none, (.stn 4), [(.t 8), (.t 52)]⟩]) .ret)))))))⟩
theorem ok21 : FnOK Try.prog 21 vf21 := .of Try.func21 (by kernel_rfl) (by kernel_rfl)
def vf22 : VF := ⟨14, [(.tmp 2)], (.seq (.reg .false [] [⟨(.some 2), .none, .mov, [(.c (.flt .f64 0))]⟩]) (.seq (.block 0 (.seq (.reg .false [] [⟨(.some 4), .none, .mov, [(.t 0)]⟩, ⟨(.some 5), .none, (.call 32), [(.t 4)]⟩, ⟨(.some 6), .none, .mov, [(.t 5)]⟩, ⟨(.some 7), (.some ⟨6, .false⟩), .mov, [(.t 0)]⟩, ⟨(.some 8), (.some ⟨6, .false⟩), (.fcmp .leq .f64), [(.t 7), (.c (.flt .f64 0))]⟩, ⟨(.some 9), .none, .pick, [(.t 6), (.c (.bool .true)), (.t 8)]⟩, ⟨(.some 3), .none, .mov, [(.t 9)]⟩]) (.cond (.t 3) (.seq (.reg .false [] [⟨(.some 2), .none, .mov, [(.c (.flt .f64 0))]⟩]) .ret) (.seq (.reg .false [] [⟨(.some 11), .none, .mov, [(.t 0)]⟩, ⟨(.some 12), .none, (.fcmp .gtr .f64), [(.t 11), (.c (.flt .f64 4607182418800017408))]⟩, ⟨(.some 10), .none, .mov, [(.t 12)]⟩]) (.cond (.t 10) (.seq (.reg .false [] [⟨(.some 2), .none, .mov, [(.c (.flt .f64 4607182418800017408))]⟩]) .ret) .skip))))) (.seq (.reg .false [] [⟨(.some 13), .none, .mov, [(.t 0)]⟩, ⟨(.some 2), .none, .mov, [(.t 13)]⟩]) .ret)))⟩
theorem ok22 : FnOK Try.prog 22 vf22 := .of Try.func22 (by kernel_rfl) (by kernel_rfl)
def vf23 : VF := ⟨9, [(.tmp 2)], (.seq (.reg .false [] [⟨(.some 2), .none, .mov, [(.c (.flt .f64 0))]⟩]) (.seq (.seq (.reg .false [] [⟨(.some 3), .none, .mov, [(.t 0)]⟩, ⟨(.some 4), .none, (.fcmp .gtr .f64), [(.t 3), (.c (.flt .f64 0))]⟩, ⟨(.some 5), .none, .not, [(.t 4)]⟩]) (.cond (.t 5) (.seq (.reg .false [] [⟨(.some 2), .none, .mov, [(.c (.flt .f64 0))]⟩]) .ret) .skip)) (.seq (.seq (.reg .false [] [⟨(.some 6), .none, .mov, [(.t 0)]⟩, ⟨(.some 7), .none, (.fcmp .gtr .f64), [(.t 6), (.c (.flt .f64 4607182418800017408))]⟩]) (.cond (.t 7) (.seq (.reg .false [] [⟨(.some 2), .none, .mov, [(.c (.flt .f64 4607182418800017408))]⟩]) .ret) .skip)) (.seq (.reg .false [] [⟨(.some 8), .none, .mov, [(.t 0)]⟩, ⟨(.some 2), .none, .mov, [(.t 8)]⟩]) .ret))))⟩
theorem ok23 : FnOK Try.prog 23 vf23 := .of Try.func23 (by kernel_rfl) (by kernel_rfl)
def vf24 : VF := ⟨28, [(.tmp 2)], (.seq (.reg .false [] [⟨(.some 2), .none, .mov, [(.c (.flt .f64 0))]⟩]) (.seq (.seq (.reg .false [] [⟨(.some 7), .none, .mov, [(.t 0)]⟩, ⟨(.some 8), .none, (.cmp .lss), [(.t 7), (.c (.int .i64 (.ofNat 0)))]⟩]) (.cond (.t 8) (.seq (.reg .false [] [⟨(.some 2), .none, .mov, [(.c (.flt .f64 4607182418800017408))]⟩]) .ret) .skip)) (.seq (.reg .false [] [⟨(.some 9), .none, .mov, [(.t 0)]⟩, ⟨(.some 10), .none, (.div .quo .i64), [(.t 9), (.c (.int .i64 (.ofNat 64)))]⟩, ⟨(.some 11), .none, .mov, [(.t 0)]⟩, ⟨(.some 12), .none, (.div .rem .i64), [(.t 11), (.c (.int .i64 (.ofNat 64)))]⟩, ⟨(.some 3), .none, .mov, [(.t 10)]⟩, ⟨(.some 4), .none, .mov, [(.t 12)]⟩]) (.seq (.seq (.reg .false [] [⟨(.some 13), .none, .mov, [(.t 3)]⟩, ⟨(.some 14), .none, (.cmp .gtr), [(.t 13), (.c (.int .i64 (.ofNat 64)))]⟩]) (.cond (.t 14) (.seq (.reg .false [] [⟨(.some 2), .none, .mov, [(.c (.flt .f64 0))]⟩]) .ret) .skip)) (.seq (.reg .false [] [⟨(.some 5), .none, .mov, [(.c (.flt .f64 4607182418800017408))]⟩]) (.seq (.seq (.reg .false [] [⟨(.some 6), .none, .mov, [(.c (.int .i64 (.ofNat 0)))]⟩]) (.block 0 (.loop (.seq (.seq (.reg .false [] [⟨(.some 15), .none, .mov, [(.t 6)]⟩, ⟨(.some 16), .none, .mov, [(.t 3)]⟩, ⟨(.some 17), .none, (.cmp .lss), [(.t 15), (.t 16)]⟩]) (.cond (.t 17) .skip (.exit 0))) (.seq (.block 1 (.reg .false [] [⟨(.some 20), .none, .mov, [(.t 5)]⟩, ⟨(.some 21), .none, (.fbin .quo .f64), [(.t 20), (.c (.flt .f64 4611686018427387904))]⟩, ⟨(.some 5), .none, .mov, [(.t 21)]⟩])) (.reg .false [] [⟨(.some 18), .none, .mov, [(.t 6)]⟩, ⟨(.some 19), .none, (.bin .add .i64), [(.t 18), (.c (.int .i64 (.ofNat 1)))]⟩, ⟨(.some 6), .none, .mov, [(.t 19)]⟩])))))) (.seq (.reg .false [] [⟨(.some 22), .none, .mov, [(.t 5)]⟩, ⟨(.some 23), .none, .mov, [(.t 4)]⟩, ⟨(.some 24), .none, (.i2f .f64), [(.t 23)]⟩, ⟨(.some 25), .none, (.fbin .quo .f64), [(.t 24), (.c (.flt .f64 4638707616191610880))]⟩, ⟨(.some 26), .none, (.fbin .sub .f64), [(.c (.flt .f64 4607182418800017408)), (.t 25)]⟩, ⟨(.some 27), .none, (.fbin .mul .f64), [(.t 22), (.t 26)]⟩, ⟨(.some 2), .none, .mov, [(.t 27)]⟩]) .ret)))))))⟩
theorem ok24 : FnOK Try.prog 24 vf24 := .of Try.func24 (by kernel_rfl) (by kernel_rfl)
def vf25 : VF := ⟨22, [(.tmp 4)], (.seq (.reg .false [] [⟨(.some 4), .none, .mov, [(.c (.flt .f64 0))]⟩]) (.seq (.seq (.reg .false [] [⟨(.some 6), .none, .mov, [(.t 0)]⟩, ⟨(.some 7), .none, (.cmp .lss), [(.t 6), (.c (.int .i64 (.ofNat 0)))]⟩, ⟨(.some 8), .none, .mov, [(.t 7)]⟩, ⟨(.some 9), (.some ⟨8, .false⟩), .mov, [(.t 1)]⟩, ⟨(.some 10), (.some ⟨8, .false⟩), .mov, [(.t 0)]⟩, ⟨(.some 11), (.some ⟨8, .false⟩), (.cmp .lss), [(.t 9), (.t 10)]⟩, ⟨(.some 12), .none, .pick, [(.t 8), (.c (.bool .true)), (.t 11)]⟩]) (.cond (.t 12) (.seq (.reg .false [] [⟨(.some 4), .none, .mov, [(.c (.flt .f64 0))]⟩]) .ret) .skip)) (.seq (.reg .false [] [⟨(.some 13), .none, .mov, [(.t 1)]⟩, ⟨(.some 14), .none, (.i2f .f64), [(.t 13)]⟩, ⟨(.some 15), .none, (.fbin .add .f64), [(.t 14), (.c (.flt .f64 4607182418800017408))]⟩, ⟨(.some 5), .none, .mov, [(.t 15)]⟩]) (.seq (.reg .false [] [⟨(.some 16), .none, .mov, [(.t 5)]⟩, ⟨(.some 17), .none, .mov, [(.t 0)]⟩, ⟨(.some 18), .none, (.i2f .f64), [(.t 17)]⟩, ⟨(.some 19), .none, (.fbin .sub .f64), [(.t 16), (.t 18)]⟩, ⟨(.some 20), .none, .mov, [(.t 5)]⟩, ⟨(.some 21), .none, (.fbin .quo .f64), [(.t 19), (.t 20)]⟩, ⟨(.some 4), .none, .mov, [(.t 21)]⟩]) .ret))))⟩
theorem ok25 : FnOK Try.prog 25 vf25 := .of Try.func25 (by kernel_rfl) (by kernel_rfl)
def vf26 : VF := ⟨22, [(.tmp 4)], (.seq (.reg .false [] [⟨(.some 4), .none, .mov, [(.c (.flt .f64 0))]⟩]) (.seq (.seq (.reg .false [] [⟨(.some 6), .none, .mov, [(.t 0)]⟩, ⟨(.some 7), .none, (.cmp .lss), [(.t 6), (.c (.int .i64 (.ofNat 0)))]⟩, ⟨(.some 8), .none, .mov, [(.t 7)]⟩, ⟨(.some 9), (.some ⟨8, .false⟩), .mov, [(.t 1)]⟩, ⟨(.some 10), (.some ⟨8, .false⟩), .mov, [(.t 0)]⟩, ⟨(.some 11), (.some ⟨8, .false⟩), (.cmp .lss), [(.t 9), (.t 10)]⟩, ⟨(.some 12), .none, .pick, [(.t 8), (.c (.bool .true)), (.t 11)]⟩]) (.cond (.t 12) (.seq (.reg .false [] [⟨(.some 4), .none, .mov, [(.c (.flt .f64 0))]⟩]) .ret) .skip)) (.seq (.reg .false [] [⟨(.some 13), .none, .mov, [(.t 1)]⟩, ⟨(.some 14), .none, (.i2f .f64), [(.t 13)]⟩, ⟨(.some 15), .none, (.fbin .add .f64), [(.t 14), (.c (.flt .f64 4607182418800017408))]⟩, ⟨(.some 5), .none, .mov, [(.t 15)]⟩]) (.seq (.reg .false [] [⟨(.some 16), .none, .mov, [(.t 5)]⟩, ⟨(.some 17), .none, .mov, [(.t 0)]⟩, ⟨(.some 18), .none, (.i2f .f64), [(.t 17)]⟩, ⟨(.some 19), .none, (.fbin .sub .f64), [(.t 16), (.t 18)]⟩, ⟨(.some 20), .none, .mov, [(.t 5)]⟩, ⟨(.some 21), .none, (.fbin .quo .f64), [(.t 19), (.t 20)]⟩, ⟨(.some 4), .none, .mov, [(.t 21)]⟩]) .ret))))⟩
theorem ok26 : FnOK Try.prog 26 vf26 := .of Try.func26 (by kernel_rfl) (by kernel_rfl)
def vf27 : VF := ⟨58, [(.tmp 8)], (.seq (.reg .false [] [⟨(.some 4), .none, .box, [(.t 0)]⟩, ⟨(.some 8), .none, .mov, [(.c (.flt .f64 0))]⟩]) (.seq (.seq (.reg .false [] [⟨(.some 10), .none, .mov, [(.t 1)]⟩, ⟨(.some 11), .none, (.cmp .lss), [(.t 10), (.c (.int .i64 (.ofNat 0)))]⟩, ⟨(.some 12), .none, .mov, [(.t 11)]⟩, ⟨(.some 13), (.some ⟨12, .false⟩), .mov, [(.t 2)]⟩, ⟨(.some 14), (.some ⟨12, .false⟩), .mov, [(.t 1)]⟩, ⟨(.some 15), (.some ⟨12, .false⟩), (.cmp .lss), [(.t 13), (.t 14)]⟩, ⟨(.some 16), .none, .pick, [(.t 12), (.c (.bool .true)), (.t 15)]⟩]) (.cond (.t 16) (.seq (.reg .false [] [⟨(.some 8), .none, .mov, [(.c (.flt .f64 0))]⟩]) .ret) .skip)) (.seq (.reg .false [] [⟨(.some 17), .none, .mov, [(.t 1)]⟩, ⟨(.some 18), .none, .mov, [(.t 2)]⟩, ⟨(.some 19), .none, (.call 25), [(.t 17), (.t 18)]⟩, ⟨(.some 9), .none, .mov, [(.t 19)]⟩]) (.seq (.seq (.reg .false [] [⟨(.some 20), .none, (.fld 1), [(.t 4)]⟩, ⟨(.some 21), .none, (.ld1 (.int .i64)), [(.t 20)]⟩, ⟨(.some 22), .none, (.cmp .gtr), [(.t 21), (.c (.int .i64 (.ofNat 0)))]⟩, ⟨(.some 23), .none, .mov, [(.t 22)]⟩, ⟨(.some 24), (.some ⟨23, .true⟩), .mov, [(.t 1)]⟩, ⟨(.some 25), (.some ⟨23, .true⟩), (.fld 0), [(.t 4)]⟩, ⟨(.some 26), (.some ⟨23, .true⟩), (.ld1 (.int .i64)), [(.t 25)]⟩, ⟨(.some 27), (.some ⟨23, .true⟩), (.cmp .leq), [(.t 24), (.t 26)]⟩, ⟨(.some 28), .none, .pick, [(.t 23), (.t 27), (.c (.bool .false))]⟩]) (.cond (.t 28) (.reg .false [] [⟨(.some 29), .none, .mov, [(.t 9)]⟩, ⟨(.some 30), .none, .mov, [(.t 9)]⟩, ⟨(.some 31), .none, (.fbin .sub .f64), [(.c (.flt .f64 4607182418800017408)), (.t 30)]⟩, ⟨(.some 32), .none, .mov, [(.t 3)]⟩, ⟨(.some 33), .none, (.fld 1), [(.t 4)]⟩, ⟨(.some 34), .none, (.ld1 (.int .i64)), [(.t 33)]⟩, ⟨(.some 35), .none, (.call 36), [(.t 32), (.t 34)]⟩, ⟨(.some 36), .none, (.call 13), [(.t 35)]⟩, ⟨(.some 37), .none, (.fbin .mul .f64), [(.t 31), (.t 36)]⟩, ⟨(.some 38), .none, (.fbin .add .f64), [(.t 29), (.t 37)]⟩, ⟨(.some 9), .none, .mov, [(.t 38)]⟩]) .skip)) (.seq (.seq (.reg .false [] [⟨(.some 39), .none, (.fld 3), [(.t 4)]⟩, ⟨(.some 40), .none, (.ld1 (.int .i64)), [(.t 39)]⟩, ⟨(.some 41), .none, (.cmp .gtr), [(.t 40), (.c (.int .i64 (.ofNat 0)))]⟩, ⟨(.some 42), .none, .mov, [(.t 41)]⟩, ⟨(.some 43), (.some ⟨42, .true⟩), .mov, [(.t 1)]⟩, ⟨(.some 44), (.some ⟨42, .true⟩), (.fld 2), [(.t 4)]⟩, ⟨(.some 45), (.some ⟨42, .true⟩), (.ld1 (.int .i64)), [(.t 44)]⟩, ⟨(.some 46), (.some ⟨42, .true⟩), (.cmp .geq), [(.t 43), (.t 45)]⟩, ⟨(.some 47), .none, .pick, [(.t 42), (.t 46), (.c (.bool .false))]⟩]) (.cond (.t 47) (.reg .false [] [⟨(.some 48), .none, .mov, [(.t 9)]⟩, ⟨(.some 49), .none, .mov, [(.t 3)]⟩, ⟨(.some 50), .none, (.fld 3), [(.t 4)]⟩, ⟨(.some 51), .none, (.ld1 (.int .i64)), [(.t 50)]⟩, ⟨(.some 52), .none, (.call 36), [(.t 49), (.t 51)]⟩, ⟨(.some 53), .none, (.call 13), [(.t 52)]⟩, ⟨(.some 54), .none, (.fbin .sub .f64), [(.c (.flt .f64 4607182418800017408)), (.t 53)]⟩, ⟨(.some 55), .none, (.fbin .mul .f64), [(.t 48), (.t 54)]⟩, ⟨(.some 9), .none, .mov, [(.t 55)]⟩]) .skip)) (.seq (.reg .false [] [⟨(.some 56), .none, .mov, [(.t 9)]⟩, ⟨(.some 57), .none, (.call 22), [(.t 56)]⟩, ⟨(.some 8), .none, .mov, [(.t 57)]⟩]) .ret))))))⟩
theorem ok27 : FnOK Try.prog 27 vf27 := .of Try.func27 (by kernel_rfl) (by kernel_rfl)
def vf28 : VF := ⟨62, [(.tmp 8)], (.seq (.reg .false [] [⟨(.some 4), .none, .box, [(.t 0)]⟩, ⟨(.some 8), .none, .mov, [(.c (.flt .f64 0))]⟩]) (.seq (.seq (.reg .false [] [⟨(.some 12), .none, .mov, [(.t 1)]⟩, ⟨(.some 13), .none, (.cmp .lss), [(.t 12), (.c (.int .i64 (.ofNat 0)))]⟩, ⟨(.some 14), .none, .mov, [(.t 13)]⟩, ⟨(.some 15), (.some ⟨14, .false⟩), .mov, [(.t 2)]⟩, ⟨(.some 16), (.some ⟨14, .false⟩), .mov, [(.t 1)]⟩, ⟨(.some 17), (.some ⟨14, .false⟩), (.cmp .lss), [(.t 15), (.t 16)]⟩, ⟨(.some 18), .none, .pick, [(.t 14), (.c (.bool .true)), (.t 17)]⟩]) (.cond (.t 18) (.seq (.reg .false [] [⟨(.some 8), .none, .mov, [(.c (.flt .f64 0))]⟩]) .ret) .skip)) (.seq (.reg .false [] [⟨(.some 19), .none, .mov, [(.t 1)]⟩, ⟨(.some 20), .none, .mov, [(.t 2)]⟩, ⟨(.some 21), .none, (.call 26), [(.t 19), (.t 20)]⟩, ⟨(.some 9), .none, .mov, [(.t 21)]⟩]) (.seq (.seq (.reg .false [] [⟨(.some 22), .none, (.fld 1), [(.t 4)]⟩, ⟨(.some 23), .none, (.ld1 (.int .i64)), [(.t 22)]⟩, ⟨(.some 24), .none, (.cmp .gtr), [(.t 23), (.c (.int .i64 (.ofNat 0)))]⟩, ⟨(.some 25), .none, .mov, [(.t 24)]⟩, ⟨(.some 26), (.some ⟨25, .true⟩), .mov, [(.t 1)]⟩, ⟨(.some 27), (.some ⟨25, .true⟩), (.fld 0), [(.t 4)]⟩, ⟨(.some 28), (.some ⟨25, .true⟩), (.ld1 (.int .i64)), [(.t 27)]⟩, ⟨(.some 29), (.some ⟨25, .true⟩), (.cmp .leq), [(.t 26), (.t 28)]⟩, ⟨(.some 30), .none, .pick, [(.t 25), (.t 29), (.c (.bool .false))]⟩]) (.cond (.t 30) (.seq (.reg .false [] [⟨(.some 31), .none, .mov, [(.t 3)]⟩, ⟨(.some 32), .none, (.fld 1), [(.t 4)]⟩, ⟨(.some 33), .none, (.ld1 (.int .i64)), [(.t 32)]⟩, ⟨(.some 34), .none, (.call 37), [(.t 31), (.t 33)]⟩, ⟨(.some 35), .none, (.call 24), [(.t 34)]⟩, ⟨(.some 10), .none, .mov, [(.t 35)]⟩]) (.reg .false [] [⟨(.some 36), .none, .mov, [(.t 9)]⟩, ⟨(.some 37), .none, .mov, [(.t 9)]⟩, ⟨(.some 38), .none, (.fbin .sub .f64), [(.c (.flt .f64 4607182418800017408)), (.t 37)]⟩, ⟨(.some 39), .none, .mov, [(.t 10)]⟩, ⟨(.some 40), .none, (.fbin .mul .f64), [(.t 38), (.t 39)]⟩, ⟨(.some 41), .none, (.fbin .add .f64), [(.t 36), (.t 40)]⟩, ⟨(.some 9), .none, .mov, [(.t 41)]⟩])) .skip)) (.seq (.seq (.reg .false [] [⟨(.some 42), .none, (.fld 3), [(.t 4)]⟩, ⟨(.some 43), .none, (.ld1 (.int .i64)), [(.t 42)]⟩, ⟨(.some 44), .none, (.cmp .gtr), [(.t 43), (.c (.int .i64 (.ofNat 0)))]⟩, ⟨(.some 45), .none, .mov, [(.t 44)]⟩, ⟨(.some 46), (.some ⟨45, .true⟩), .mov, [(.t 1)]⟩, ⟨(.some 47), (.some ⟨45, .true⟩), (.fld 2), [(.t 4)]⟩, ⟨(.some 48), (.some ⟨45, .true⟩), (.ld1 (.int .i64)), [(.t 47)]⟩, ⟨(.some 49), (.some ⟨45, .true⟩), (.cmp .geq), [(.t 46), (.t 48)]⟩, ⟨(.some 50), .none, .pick, [(.t 45), (.t 49), (.c (.bool .false))]⟩]) (.cond (.t 50) (.seq (.reg .false [] [⟨(.some 51), .none, .mov, [(.t 3)]⟩, ⟨(.some 52), .none, (.fld 3), [(.t 4)]⟩, ⟨(.some 53), .none, (.ld1 (.int .i64)), [(.t 52)]⟩, ⟨(.some 54), .none, (.call 37), [(.t 51), (.t 53)]⟩, ⟨(.some 55), .none, (.call 24), [(.t 54)]⟩, ⟨(.some 11), .none, .mov, [(.t 55)]⟩]) (.reg .false [] [⟨(.some 56), .none, .mov, [(.t 9)]⟩, ⟨(.some 57), .none, .mov, [(.t 11)]⟩, ⟨(.some 58), .none, (.fbin .sub .f64), [(.c (.flt .f64 4607182418800017408)), (.t 57)]⟩, ⟨(.some 59), .none, (.fbin .mul .f64), [(.t 56), (.t 58)]⟩, ⟨(.some 9), .none, .mov, [(.t 59)]⟩])) .skip)) (.seq (.reg .false [] [⟨(.some 60), .none, .mov, [(.t 9)]⟩, ⟨(.some 61), .none, (.call 23), [(.t 60)]⟩, ⟨(.some 8), .none, .mov, [(.t 61)]⟩]) .ret))))))⟩
theorem ok28 : FnOK Try.prog 28 vf28 := .of Try.func28 (by kernel_rfl) (by kernel_rfl)
def vf29 : VF := ⟨7, [(.tmp 2)], (.seq (.reg .false [] [⟨(.some 2), .none, .mov, [(.c (.bool .false))]⟩]) (.seq (.reg .false [] [⟨(.some 3), .none, .mov, [(.t 0)]⟩, ⟨(.some 4), .none, .f2b, [(.t 3)]⟩, ⟨(.some 5), .none, (.cvt .i64), [(.t 4)]⟩, ⟨(.some 6), .none, (.cmp .lss), [(.t 5), (.c (.int .i64 (.ofNat 0)))]⟩, ⟨(.some 2), .none, .mov, [(.t 6)]⟩]) .ret))⟩
theorem ok29 : FnOK Try.prog 29 vf29 := .of Try.func29 (by kernel_rfl) (by kernel_rfl)
def vf30 : VF := ⟨15, [(.tmp 4)], (.seq (.reg .false [] [⟨(.some 4), .none, .mov, [(.c (.bool .false))]⟩]) (.seq (.seq (.reg .false [] [⟨(.some 5), .none, .mov, [(.t 1)]⟩, ⟨(.some 6), .none, (.cmp .eql), [(.t 5), (.c (.int .i64 (.ofNat 0)))]⟩]) (.cond (.t 6) (.reg .false [] [⟨(.some 7), .none, .mov, [(.t 0)]⟩, ⟨(.some 8), .none, (.call 38), [(.t 7)]⟩, ⟨(.some 0), .none, .mov, [(.t 8)]⟩]) (.seq (.reg .false [] [⟨(.some 9), .none, .mov, [(.t 1)]⟩, ⟨(.some 10), .none, (.cmp .lss), [(.t 9), (.c (.int .i64 (.ofNat 0)))]⟩]) (.cond (.t 10) (.reg .false [] [⟨(.some 11), .none, .mov, [(.t 0)]⟩, ⟨.none, .none, .bad, []⟩, ⟨(.some 0), .none, .mov, [(.t 12)]⟩]) .skip)))) (.seq (.reg .false [] [⟨(.some 13), .none, .mov, [(.t 0)]⟩, ⟨(.some 14), .none, (.fcmp .gtr .f64), [(.t 13), (.c (.flt .f64 9218868437227405311))]⟩, ⟨(.some 4), .none, .mov, [(.t 14)]⟩]) .ret)))⟩
theorem ok30 : FnOK Try.prog 30 vf30 := .of Try.func30 (by kernel_rfl) (by kernel_rfl)
def vf31 : VF := ⟨2, [(.tmp 0)], (.seq (.reg .false [] [⟨(.some 0), .none, .mov, [(.c (.flt .f64 0))]⟩]) (.seq (.reg .false [] [⟨(.some 1), .none, .b2f, [(.c (.int .u64 (.ofNat 9221120237041090561)))]⟩, ⟨(.some 0), .none, .mov, [(.t 1)]⟩]) .ret))⟩
theorem ok31 : FnOK Try.prog 31 vf31 := .of Try.func31 (by kernel_rfl) (by kernel_rfl)
def vf32 : VF := ⟨6, [(.tmp 2)], (.seq (.reg .false [] [⟨(.some 2), .none, .mov, [(.c (.bool .false))]⟩]) (.seq (.reg .false [] [⟨(.some 3), .none, .mov, [(.t 0)]⟩, ⟨(.some 4), .none, .mov, [(.t 0)]⟩, ⟨(.some 5), .none, (.fcmp .neq .f64), [(.t 3), (.t 4)]⟩, ⟨(.some 2), .none, .mov, [(.t 5)]⟩]) .ret))⟩
theorem ok32 : FnOK Try.prog 32 vf32 := .of Try.func32 (by kernel_rfl) (by kernel_rfl)
def vf33 : VF := ⟨11, [(.tmp 4)], (.seq (.reg .false [] [⟨(.some 4), .none, .mov, [(.c (.flt .f64 0))]⟩]) (.seq (.cond (.c (.bool .false)) (.seq (.reg .false [] [⟨(.some 5), .none, .mov, [(.t 0)]⟩, ⟨(.some 6), .none, .mov, [(.t 1)]⟩, ⟨(.some 7), .none, (.call 40), [(.t 5), (.t 6)]⟩, ⟨(.some 4), .none, .mov, [(.t 7)]⟩]) .ret) .skip) (.seq (.reg .false [] [⟨(.some 8), .none, .mov, [(.t 0)]⟩, ⟨(.some 9), .none, .mov, [(.t 1)]⟩, ⟨(.some 10), .none, (.call 41), [(.t 8), (.t 9)]⟩, ⟨(.some 4), .none, .mov, [(.t 10)]⟩]) .ret)))⟩
theorem ok33 : FnOK Try.prog 33 vf33 := .of Try.func33 (by kernel_rfl) (by kernel_rfl)
def vf34 : VF := ⟨8, [(.tmp 2)], (.seq (.reg .false [] [⟨(.some 2), .none, .mov, [(.c (.flt .f64 0))]⟩]) (.seq (.reg .false [] [⟨(.some 3), .none, .mov, [(.c (.int .u64 (.ofNat 0)))]⟩]) (.seq (.seq (.reg .false [] [⟨(.some 4), .none, .mov, [(.t 0)]⟩, ⟨(.some 5), .none, (.cmp .geq), [(.t 4), (.c (.int .i64 (.ofNat 0)))]⟩]) (.cond (.t 5) (.reg .false [] [⟨(.some 3), .none, .mov, [(.c (.int .u64 (.ofNat 9218868437227405312)))]⟩]) (.reg .false [] [⟨(.some 3), .none, .mov, [(.c (.int .u64 (.ofNat 18442240474082181120)))]⟩]))) (.seq (.reg .false [] [⟨(.some 6), .none, .mov, [(.t 3)]⟩, ⟨(.some 7), .none, .b2f, [(.t 6)]⟩, ⟨(.some 2), .none, .mov, [(.t 7)]⟩]) .ret))))⟩
theorem ok34 : FnOK Try.prog 34 vf34 := .of Try.func34 (by kernel_rfl) (by kernel_rfl)
def vf36 : VF := ⟨17, [(.tmp 4)], (.seq (.reg .false [] [⟨(.some 4), .none, .mov, [(.c (.int .i64 (.ofNat 0)))]⟩]) (.seq (.reg .false [] [⟨(.some 6), .none, .mov, [(.t 0)]⟩, ⟨(.some 7), .none, .mov, [(.t 1)]⟩, ⟨(.some 8), .none, (.bin .sub .i64), [(.t 6), (.t 7)]⟩, ⟨(.some 5), .none, .mov, [(.t 8)]⟩]) (.block 0 (.seq (.reg .false [] [⟨(.some 11), .none, .mov, [(.t 0)]⟩, ⟨(.some 12), .none, .mov, [(.t 1)]⟩, ⟨(.some 13), .none, (.cmp .lss), [(.t 11), (.t 12)]⟩, ⟨(.some 10), .none, .mov, [(.t 13)]⟩]) (.cond (.t 10) (.seq (.reg .false [] [⟨(.some 4), .none, .mov, [(.c (.int .i64 (.ofNat 0)))]⟩]) .ret) (.seq (.reg .false [] [⟨(.some 15), .none, .mov, [(.t 5)]⟩, ⟨(.some 16), .none, (.cmp .lss), [(.t 15), (.c (.int .i64 (.ofNat 0)))]⟩, ⟨(.some 14), .none, .mov, [(.t 16)]⟩]) (.cond (.t 14) (.seq (.reg .false [] [⟨(.some 4), .none, .mov, [(.c (.int .i64 (.ofNat 2147483647)))]⟩]) .ret) (.seq (.reg .false [] [⟨(.some 9), .none, .mov, [(.t 5)]⟩, ⟨(.some 4), .none, .mov, [(.t 9)]⟩]) .ret))))))))⟩
theorem ok36 : FnOK Try.prog 36 vf36 := .of Try.func36 (by kernel_rfl) (by kernel_rfl)
def vf37 : VF := ⟨15, [(.tmp 4)], (.seq (.reg .false [] [⟨(.some 4), .none, .mov, [(.c (.int .i64 (.ofNat 0)))]⟩]) (.seq (.reg .false [] [⟨(.some 6), .none, .mov, [(.t 0)]⟩, ⟨(.some 7), .none, .mov, [(.t 1)]⟩, ⟨(.some 8), .none, (.bin .sub .i64), [(.t 6), (.t 7)]⟩, ⟨(.some 5), .none, .mov, [(.t 8)]⟩]) (.seq (.seq (.reg .false [] [⟨(.some 9), .none, .mov, [(.t 0)]⟩, ⟨(.some 10), .none, .mov, [(.t 1)]⟩, ⟨(.some 11), .none, (.cmp .lss), [(.t 9), (.t 10)]⟩]) (.cond (.t 11) (.seq (.reg .false [] [⟨(.some 4), .none, .mov, [(.c (.int .i64 (.ofNat 0)))]⟩]) .ret) .skip)) (.seq (.seq (.reg .false [] [⟨(.some 12), .none, .mov, [(.t 5)]⟩, ⟨(.some 13), .none, (.cmp .lss), [(.t 12), (.c (.int .i64 (.ofNat 0)))]⟩]) (.cond (.t 13) (.seq (.reg .false [] [⟨(.some 4), .none, .mov, [(.c (.int .i64 (.ofNat 2147483647)))]⟩]) .ret) .skip)) (.seq (.reg .false [] [⟨(.some 14), .none, .mov, [(.t 5)]⟩, ⟨(.some 4), .none, .mov, [(.t 14)]⟩]) .ret)))))⟩
theorem ok37 : FnOK Try.prog 37 vf37 := .of Try.func37 (by kernel_rfl) (by kernel_rfl)
def vf38 : VF := ⟨7, [(.tmp 2)], (.seq (.reg .false [] [⟨(.some 2), .none, .mov, [(.c (.flt .f64 0))]⟩]) (.seq (.reg .false [] [⟨(.some 3), .none, .mov, [(.t 0)]⟩, ⟨(.some 4), .none, .f2b, [(.t 3)]⟩, ⟨(.some 5), .none, (.bin .andNot .u64), [(.t 4), (.c (.int .u64 (.ofNat 9223372036854775808)))]⟩, ⟨(.some 6), .none, .b2f, [(.t 5)]⟩, ⟨(.some 2), .none, .mov, [(.t 6)]⟩]) .ret))⟩
theorem ok38 : FnOK Try.prog 38 vf38 := .of Try.func38 (by kernel_rfl) (by kernel_rfl)
def vf40 : VF := ⟨6, [(.tmp 4)], (.seq (.reg .false [] [⟨(.some 4), .none, .mov, [(.c (.flt .f64 0))]⟩]) (.reg .false [] [⟨(.some 5), .none, (.mkif 9), [(.c (.str [110, 111, 116, 32, 105, 109, 112, 108, 101, 109, 101, 110, 116, 101, 100]))]⟩, ⟨.none, .none, .bad, []⟩]))⟩
theorem ok40 : FnOK Try.prog 40 vf40 := .of Try.func40 (by kernel_rfl) (by kernel_rfl)
def vf41 : VF := ⟨63, [(.tmp 4)], (.seq (.reg .false [] [⟨(.some 4), .none, .mov, [(.c (.flt .f64 0))]⟩]) (.seq (.block 0 (.seq (.reg .false [] [⟨(.some 9), .none, .mov, [(.t 0)]⟩, ⟨(.some 10), .none, (.fcmp .eql .f64), [(.t 9), (.c (.flt .f64 0))]⟩, ⟨(.some 8), .none, .mov, [(.t 10)]⟩]) (.cond (.t 8) (.seq (.reg .false [] [⟨(.some 11), .none, .mov, [(.t 0)]⟩, ⟨(.some 4), .none, .mov, [(.t 11)]⟩]) .ret) (.seq (.reg .false [] [⟨(.some 13), .none, .mov, [(.t 0)]⟩, ⟨(.some 14), .none, (.call 30), [(.t 13), (.c (.int .i64 (.ofNat 0)))]⟩, ⟨(.some 15), .none, .mov, [(.t 14)]⟩, ⟨(.some 16), (.some ⟨15, .false⟩), .mov, [(.t 0)]⟩, ⟨(.some 17), (.some ⟨15, .false⟩), (.call 32), [(.t 16)]⟩, ⟨(.some 18), .none, .pick, [(.t 15), (.c (.bool .true)), (.t 17)]⟩, ⟨(.some 12), .none, .mov, [(.t 18)]⟩]) (.cond (.t 12) (.seq (.reg .false [] [⟨(.some 19), .none, .mov, [(.t 0)]⟩, ⟨(.some 4), .none, .mov, [(.t 19)]⟩]) .ret) .skip))))) (.seq (.reg .false [] [⟨(.some 21), .none, .mov, [(.t 0)]⟩, ⟨(.some 22), .none, (.call 42), [(.t 21)]⟩, ⟨(.some 20), .none, .mov, [(.t 22)]⟩, ⟨(.some 23), .none, (.ext 0), [(.t 20)]⟩, ⟨(.some 24), .none, (.ext 1), [(.t 20)]⟩, ⟨(.some 0), .none, .mov, [(.t 23)]⟩, ⟨(.some 5), .none, .mov, [(.t 24)]⟩]) (.seq (.reg .false [] [⟨(.some 25), .none, .mov, [(.t 1)]⟩, ⟨(.some 26), .none, .mov, [(.t 5)]⟩, ⟨(.some 27), .none, (.bin .add .i64), [(.t 25), (.t 26)]⟩, ⟨(.some 1), .none, .mov, [(.t 27)]⟩]) (.seq (.reg .false [] [⟨(.some 28), .none, .mov, [(.t 0)]⟩, ⟨(.some 29), .none, .f2b, [(.t 28)]⟩, ⟨(.some 6), .none, .mov, [(.t 29)]⟩]) (.seq (.reg .false [] [⟨(.some 30), .none, .mov, [(.t 1)]⟩, ⟨(.some 31), .none, .mov, [(.t 6)]⟩, ⟨(.some 32), .none, (.shf .shr .u64), [(.t 31), (.c (.int .u64 (.ofNat 52)))]⟩, ⟨(.some 33), .none, (.cvt .i64), [(.t 32)]⟩, ⟨(.some 34), .none, (.bin .and .i64), [(.t 33), (.c (.int .i64 (.ofNat 2047)))]⟩, ⟨(.some 35), .none, (.bin .sub .i64), [(.t 34), (.c (.int .i64 (.ofNat 1023)))]⟩, ⟨(.some 36), .none, (.bin .add .i64), [(.t 30), (.t 35)]⟩, ⟨(.some 1), .none, .mov, [(.t 36)]⟩]) (.seq (.seq (.reg .false [] [⟨(.some 37), .none, .mov, [(.t 1)]⟩, ⟨(.some 38), .none, (.cmp .lss), [(.t 37), (.c (.int .i64 (.negSucc 1074)))]⟩]) (.cond (.t 38) (.seq (.reg .false [] [⟨(.some 39), .none, .mov, [(.t 0)]⟩, ⟨(.some 40), .none, (.call 43), [(.c (.flt .f64 0)), (.t 39)]⟩, ⟨(.some 4), .none, .mov, [(.t 40)]⟩]) .ret) .skip)) (.seq (.seq (.reg .false [] [⟨(.some 41), .none, .mov, [(.t 1)]⟩, ⟨(.some 42), .none, (.cmp .gtr), [(.t 41), (.c (.int .i64 (.ofNat 1023)))]⟩]) (.cond (.t 42) (.seq (.seq (.reg .false [] [⟨(.some 43), .none, .mov, [(.t 0)]⟩, ⟨(.some 44), .none, (.fcmp .lss .f64), [(.t 43), (.c (.flt .f64 0))]⟩]) (.cond (.t 44) (.seq (.reg .false [] [⟨(.some 45), .none, (.call 34), [(.c (.int .i64 (.negSucc 0)))]⟩, ⟨(.some 4), .none, .mov, [(.t 45)]⟩]) .ret) .skip)) (.seq (.reg .false [] [⟨(.some 46), .none, (.call 34), [(.c (.int .i64 (.ofNat 1)))]⟩, ⟨(.some 4), .none, .mov, [(.t 46)]⟩]) .ret)) .skip)) (.seq (.reg .false [] [⟨(.some 7), .none, .mov, [(.c (.flt .f64 4607182418800017408))]⟩]) (.seq (.seq (.reg .false [] [⟨(.some 47), .none, .mov, [(.t 1)]⟩, ⟨(.some 48), .none, (.cmp .lss), [(.t 47), (.c (.int .i64 (.negSucc 1021)))]⟩]) (.cond (.t 48) (.seq (.reg .false [] [⟨(.some 49), .none, .mov, [(.t 1)]⟩, ⟨(.some 50), .none, (.bin .add .i64), [(.t 49), (.c (.int .i64 (.ofNat 53)))]⟩, ⟨(.some 1), .none, .mov, [(.t 50)]⟩]) (.reg .false [] [⟨(.some 7), .none, .mov, [(.c (.flt .f64 4368491638549381120))]⟩])) .skip)) (.seq (.reg .false [] [⟨(.some 51), .none, .mov, [(.t 6)]⟩, ⟨(.some 52), .none, (.bin .andNot .u64), [(.t 51), (.c (.int .u64 (.ofNat 9218868437227405312)))]⟩, ⟨(.some 6), .none, .mov, [(.t 52)]⟩]) (.seq (.reg .false [] [⟨(.some 53), .none, .mov, [(.t 6)]⟩, ⟨(.some 54), .none, .mov, [(.t 1)]⟩, ⟨(.some 55), .none, (.bin .add .i64), [(.t 54), (.c (.int .i64 (.ofNat 1023)))]⟩, ⟨(.some 56), .none, (.cvt .u64), [(.t 55)]⟩, ⟨(.some 57), .none, (.shf .shl .u64), [(.t 56), (.c (.int .u64 (.ofNat 52)))]⟩, ⟨(.some 58), .none, (.bin .or .u64), [(.t 53), (.t 57)]⟩, ⟨(.some 6), .none, .mov, [(.t 58)]⟩]) (.seq (.reg .false [] [⟨(.some 59), .none, .mov, [(.t 7)]⟩, ⟨(.some 60), .none, .mov, [(.t 6)]⟩, ⟨(.some 61), .none, .b2f, [(.t 60)]⟩, ⟨(.some 62), .none, (.fbin .mul .f64), [(.t 59), (.t 61)]⟩, ⟨(.some 4), .none, .mov, [(.t 62)]⟩]) .ret)))))))))))))⟩
theorem ok41 : FnOK Try.prog 41 vf41 := .of Try.func41 (by kernel_rfl) (by kernel_rfl)
def vf42 : VF := ⟨10, [(.tmp 2), (.tmp 3)], (.seq (.reg .false [] [⟨(.some 2), .none, .mov, [(.c (.flt .f64 0))]⟩, ⟨(.some 3), .none, .mov, [(.c (.int .i64 (.ofNat 0)))]⟩]) (.seq (.seq (.reg .false [] [⟨(.some 4), .none, .mov, [(.t 0)]⟩, ⟨(.some 5), .none, (.call 38), [(.t 4)]⟩, ⟨(.some 6), .none, (.fcmp .lss .f64), [(.t 5), (.c (.flt .f64 4503599627370496))]⟩]) (.cond (.t 6) (.seq (.reg .false [] [⟨(.some 7), .none, .mov, [(.t 0)]⟩, ⟨(.some 8), .none, (.fbin .mul .f64), [(.t 7), (.c (.flt .f64 4841369599423283200))]⟩, ⟨(.some 2), .none, .mov, [(.t 8)]⟩, ⟨(.some 3), .none, .mov, [(.c (.int .i64 (.negSucc 51)))]⟩]) .ret) .skip)) (.seq (.reg .false [] [⟨(.some 9), .none, .mov, [(.t 0)]⟩, ⟨(.some 2), .none, .mov, [(.t 9)]⟩, ⟨(.some 3), .none, .mov, [(.c (.int .i64 (.ofNat 0)))]⟩]) .ret)))⟩
theorem ok42 : FnOK Try.prog 42 vf42 := .of Try.func42 (by kernel_rfl) (by kernel_rfl)
def vf43 : VF := ⟨13, [(.tmp 4)], (.seq (.reg .false [] [⟨(.some 4), .none, .mov, [(.c (.flt .f64 0))]⟩]) (.seq (.reg .false [] [⟨(.some 5), .none, .mov, [(.t 0)]⟩, ⟨(.some 6), .none, .f2b, [(.t 5)]⟩, ⟨(.some 7), .none, (.bin .andNot .u64), [(.t 6), (.c (.int .u64 (.ofNat 9223372036854775808)))]⟩, ⟨(.some 8), .none, .mov, [(.t 1)]⟩, ⟨(.some 9), .none, .f2b, [(.t 8)]⟩, ⟨(.some 10), .none, (.bin .and .u64), [(.t 9), (.c (.int .u64 (.ofNat 9223372036854775808)))]⟩, ⟨(.some 11), .none, (.bin .or .u64), [(.t 7), (.t 10)]⟩, ⟨(.some 12), .none, .b2f, [(.t 11)]⟩, ⟨(.some 4), .none, .mov, [(.t 12)]⟩]) .ret))⟩
theorem ok43 : FnOK Try.prog 43 vf43 := .of Try.func43 (by kernel_rfl) (by kernel_rfl)

def tabS (f : Nat) : Option VF :=
  match f with
  | 3 => some vf3
  | 4 => some vf4
  | 5 => some vf5
  | 6 => some vf6
  | 7 => some vf7
  | 8 => some vf8
  | 9 => some vf9
  | 10 => some vf10
  | 11 => some vf11
  | 12 => some vf12
  | 13 => some vf13
  | 14 => some vf14
  | 15 => some vf15
  | 16 => some vf16
  | 17 => some vf17
  | 18 => some vf18
  | 19 => some vf19
  | 20 => some vf20
  | 21 => some vf21
  | 22 => some vf22
  | 23 => some vf23
  | 24 => some vf24
  | 25 => some vf25
  | 26 => some vf26
  | 27 => some vf27
  | 28 => some vf28
  | 29 => some vf29
  | 30 => some vf30
  | 31 => some vf31
  | 32 => some vf32
  | 33 => some vf33
  | 34 => some vf34
  | 36 => some vf36
  | 37 => some vf37
  | 38 => some vf38
  | 40 => some vf40
  | 41 => some vf41
  | 42 => some vf42
  | 43 => some vf43
  | _ => none

theorem tabS_ok : ∀ f vf, tabS f = some vf → FnOK Try.prog f vf := by
  intro f vf h
  unfold tabS at h
  split at h <;> cases h
  · exact ok3
  · exact ok4
  · exact ok5
  · exact ok6
  · exact ok7
  · exact ok8
  · exact ok9
  · exact ok10
  · exact ok11
  · exact ok12
  · exact ok13
  · exact ok14
  · exact ok15
  · exact ok16
  · exact ok17
  · exact ok18
  · exact ok19
  · exact ok20
  · exact ok21
  · exact ok22
  · exact ok23
  · exact ok24
  · exact ok25
  · exact ok26
  · exact ok27
  · exact ok28
  · exact ok29
  · exact ok30
  · exact ok31
  · exact ok32
  · exact ok33
  · exact ok34
  · exact ok36
  · exact ok37
  · exact ok38
  · exact ok40
  · exact ok41
  · exact ok42
  · exact ok43

end
end Go.Proofs.Vm

namespace Go.Proofs.Vm
open Go.Vm
noncomputable section
/-- What is short is run where it is called. -/
def tabL (k : Nat) (vf : VF) (f : Nat) : Option VF := match Nat.beq f k with
  | true => some vf
  | false => match f with
    | 12 => some vf12
    | 15 => some vf15
    | 19 => some vf19
    | 22 => some vf22
    | 23 => some vf23
    | 29 => some vf29
    | 30 => some vf30
    | 31 => some vf31
    | 32 => some vf32
    | 33 => some vf33
    | 34 => some vf34
    | 36 => some vf36
    | 37 => some vf37
    | 38 => some vf38
    | 41 => some vf41
    | 42 => some vf42
    | 43 => some vf43
    | _ => none
theorem tabL_ok {k : Nat} {vf : VF} (h : FnOK Try.prog k vf) : ∀ f v, tabL k vf f = some v → FnOK Try.prog f v := by
  intro f v e
  unfold tabL at e
  split at e
  · rename_i hb
    have := Nat.eq_of_beq_eq_true hb
    subst this
    cases e
    exact h
  · split at e <;> cases e
    · exact ok12
    · exact ok15
    · exact ok19
    · exact ok22
    · exact ok23
    · exact ok29
    · exact ok30
    · exact ok31
    · exact ok32
    · exact ok33
    · exact ok34
    · exact ok36
    · exact ok37
    · exact ok38
    · exact ok41
    · exact ok42
    · exact ok43
theorem tabL_self (k : Nat) (vf : VF) : tabL k vf k = some vf := by unfold tabL; rw [Nat.beq_refl]


end
end Go.Proofs.Vm

namespace Go.Fl
open Go.Vm

def oneB : Nat := 4607182418800017408
def fadd (x y : Nat) : Nat := nearQ (val x + val y) 1
def fsub (x y : Nat) : Nat := nearQ (val x - val y) 1
def fmul (x y : Nat) : Nat := nearQ (val x * val y) U
def fdiv (x y : Nat) : Nat := nearQ (val x * U) (val y)
def fint (n : Nat) : Nat := nearQ (n * U) 1

theorem o_add {x y : Nat} (hx : x ≤ Inf) (hy : y ≤ Inf) : ops0.fbin .add .f64 x y = some (fadd x y) := add_eq hx hy
theorem o_sub {x y : Nat} (hx : x < Inf) (h : y ≤ x) : ops0.fbin .sub .f64 x y = some (fsub x y) := sub_eq hx h
theorem o_mul {x y : Nat} (hx : x < Inf) (hy : y < Inf) : ops0.fbin .mul .f64 x y = some (fmul x y) := mul_eq hx hy
theorem o_div {x y : Nat} (hx : x < Inf) (hy : y < Inf) (h0 : 0 < y) : ops0.fbin .quo .f64 x y = some (fdiv x y) := div_eq hx hy h0
theorem o_int (n : Nat) : ops0.i2f .f64 (Int.ofNat n) = fint n := ofInt_eq n

theorem inf_big : oneB < Inf := by rw [Inf_val]; decide
theorem B_lt_one : B ≤ oneB := by rw [B_val]; decide
theorem pow_join {a b c : Nat} (h : a + b = c) : 2 ^ a * 2 ^ b = 2 ^ c := by rw [← Nat.pow_add, h]
theorem val_one : val oneB = U := by
  have e1 : oneB / 4503599627370496 - 1 = 1022 := by decide
  have e2 : oneB % 4503599627370496 = 0 := by decide
  have e3 : (4503599627370496 : Nat) = 2 ^ 52 := by decide
  have e4 : 52 + 1022 = 1074 := by decide
  unfold val
  rw [if_neg (by have := B_lt_one; omega), B_val, e1, e2, Nat.add_zero, e3, pow_join e4, U_eq]
theorem near_U : nearQ U 1 = oneB := by
  have := nearQ_val (r := oneB) (Nat.le_of_lt inf_big)
  rwa [val_one] at this
theorem val_mono {x y : Nat} (hy : y ≤ Inf) (h : x ≤ y) : val x ≤ val y := val_le hy h

theorem fadd_mono {x y x' y' : Nat} (hx : x' ≤ Inf) (hy : y' ≤ Inf) (h1 : x ≤ x') (h2 : y ≤ y') : fadd x y ≤ fadd x' y' :=
  nearQ_mono (by decide) (by decide) (by have := val_le hx h1; have := val_le hy h2; omega)
theorem fadd_ge {x y : Nat} (hx : x ≤ Inf) : x ≤ fadd x y := by
  have h := nearQ_mono (n := val x) (m := 1) (n' := val x + val y) (m' := 1) (by decide) (by decide) (by omega)
  rw [nearQ_val hx] at h
  exact h
theorem fadd_ge' {x y : Nat} (hy : y ≤ Inf) : y ≤ fadd x y := by
  have h := nearQ_mono (n := val y) (m := 1) (n' := val x + val y) (m' := 1) (by decide) (by decide) (by omega)
  rw [nearQ_val hy] at h
  exact h
theorem fadd_inf (x y : Nat) : fadd x y ≤ Inf := nearQ_le_inf _ _
theorem fadd_zero {x : Nat} (hx : x ≤ Inf) : fadd x 0 = x := by
  unfold fadd
  rw [val_zero, Nat.add_zero, nearQ_val hx]
theorem fsub_anti {x y y' : Nat} (hy : y' ≤ Inf) (h : y ≤ y') : fsub x y' ≤ fsub x y :=
  nearQ_mono (by decide) (by decide) (by have := val_le hy h; omega)
theorem fsub_le {x y : Nat} (hx : x ≤ Inf) : fsub x y ≤ x := by
  have h := nearQ_mono (n := val x - val y) (m := 1) (n' := val x) (m' := 1) (by decide) (by decide) (by omega)
  rw [nearQ_val hx] at h
  exact h
theorem fmul_mono {x y x' y' : Nat} (hx : x' ≤ Inf) (hy : y' ≤ Inf) (h1 : x ≤ x') (h2 : y ≤ y') : fmul x y ≤ fmul x' y' :=
  nearQ_mono U_pos U_pos (Nat.mul_le_mul_right _ (Nat.mul_le_mul (val_le hx h1) (val_le hy h2)))
theorem fmul_one : fmul oneB oneB = oneB := by
  have h := nearQ_congr (n := val oneB * val oneB) (m := U) (n' := U) (m' := 1) U_pos (by decide) (by rw [val_one, Nat.mul_one])
  unfold fmul
  rw [h, near_U]
theorem fmul_le_one {x y : Nat} (hx : x ≤ oneB) (hy : y ≤ oneB) : fmul x y ≤ oneB := by
  have h := fmul_mono (Nat.le_of_lt inf_big) (Nat.le_of_lt inf_big) hx hy
  rwa [fmul_one] at h
theorem fdiv_mono {x x' y : Nat} (hx : x' ≤ Inf) (hy : y ≤ Inf) (h0 : 0 < y) (h : x ≤ x') : fdiv x y ≤ fdiv x' y :=
  nearQ_mono (val_pos hy h0) (val_pos hy h0) (Nat.mul_le_mul_right _ (Nat.mul_le_mul_right _ (val_le hx h)))
theorem fdiv_anti {x y y' : Nat} (hy : y' ≤ Inf) (h0 : 0 < y) (h : y ≤ y') : fdiv x y' ≤ fdiv x y :=
  nearQ_mono (val_pos hy (by omega)) (val_pos (by omega) h0) (Nat.mul_le_mul_left _ (val_le hy h))
theorem fdiv_self {y : Nat} (hy : y ≤ Inf) (h0 : 0 < y) : fdiv y y = oneB := by
  have h := nearQ_congr (n := val y * U) (m := val y) (n' := U) (m' := 1) (val_pos hy h0) (by decide) (by rw [Nat.mul_one, Nat.mul_comm])
  unfold fdiv
  rw [h, near_U]
theorem fdiv_le_one {x y : Nat} (hy : y ≤ Inf) (h0 : 0 < y) (h : x ≤ y) : fdiv x y ≤ oneB := by
  have h := fdiv_mono hy hy h0 h
  rwa [fdiv_self hy h0] at h
theorem fdiv_inf (x y : Nat) : fdiv x y ≤ Inf := nearQ_le_inf _ _
theorem fint_mono {a b : Nat} (h : a ≤ b) : fint a ≤ fint b :=
  nearQ_mono (by decide) (by decide) (Nat.mul_le_mul_right _ (Nat.mul_le_mul_right _ h))
theorem fint_top : fint 18446744073709551616 = 4895412794951729152 := by
  rw [← o_int]
  decide +kernel
theorem fint_small {n : Nat} (h : n ≤ 18446744073709551616) : fint n ≤ 4895412794951729152 := by
  have := fint_mono h
  rwa [fint_top] at this
theorem fint_lt {n : Nat} (h : n ≤ 18446744073709551616) : fint n < Inf := by
  have := fint_small h
  rw [Inf_val]; omega
theorem fadd_two : fadd oneB oneB = 4611686018427387904 := by
  have h : some (fadd oneB oneB) = some 4611686018427387904 := by
    rw [← o_add (Nat.le_of_lt inf_big) (Nat.le_of_lt inf_big)]
    decide +kernel
  exact Option.some.inj h
theorem fadd_small {x y : Nat} (hx : x ≤ oneB) (hy : y ≤ oneB) : fadd x y ≤ 4611686018427387904 := by
  have h := fadd_mono (Nat.le_of_lt inf_big) (Nat.le_of_lt inf_big) hx hy
  rwa [fadd_two] at h

/-- Floats, held against each other. -/
def six : BinOp → Bool
  | .eql | .neq | .lss | .leq | .gtr | .geq => true
  | _ => false
theorem cmp_cases (a b : Int) : (compare a b = .lt ∧ a < b) ∨ (compare a b = .eq ∧ a = b) ∨ (compare a b = .gt ∧ b < a) := by
  rcases h : compare a b with _ | _ | _
  · exact Or.inl ⟨rfl, Int.compare_eq_lt.1 h⟩
  · exact Or.inr (Or.inl ⟨rfl, Int.compare_eq_eq.1 h⟩)
  · exact Or.inr (Or.inr ⟨rfl, Int.compare_eq_gt.1 h⟩)
theorem fcmp_key {op : BinOp} (hop : six op = true) {x y : Nat} (hx : x % Wt ≤ Inf) (hy : y % Wt ≤ Inf) : ops0.fcmp op .f64 x y = ops0.cmp op (key x) (key y) := by
  have ho : FloatKind.f64.format.order x y = some (compare (key x) (key y)) := order_eq hx hy
  show fcmp0 op .f64 x y = cmp0 op (key x) (key y)
  cases op <;> simp only [six] at hop <;> first | (cases hop; done) | skip
  all_goals
    unfold fcmp0 cmp0
    simp only [ho]
    rcases cmp_cases (key x) (key y) with ⟨h1, h2⟩ | ⟨h1, h2⟩ | ⟨h1, h2⟩ <;> rw [h1] <;> first | (simp; done) | (simp; omega) | (rw [show (key x != key y) = true from bne_iff_ne.2 (by omega)]; rfl)
theorem fcmp_nan {op : BinOp} (hop : six op = true) {x y : Nat} (h : Inf < x % Wt ∨ Inf < y % Wt) : ops0.fcmp op .f64 x y = match op with
    | .neq => true
    | _ => false := by
  have ho : FloatKind.f64.format.order x y = none := order_nan h
  show fcmp0 op .f64 x y = _
  cases op <;> simp only [six] at hop <;> first | (cases hop; done) | skip
  all_goals
    unfold fcmp0
    simp only [ho]
    rfl
theorem key_small {x : Nat} (h : x ≤ Inf) : key x = Int.ofNat x := by
  have ⟨h1, h2⟩ := small h
  unfold key
  rw [h2, h1]
  rfl
theorem fcmp_small {op : BinOp} (hop : six op = true) {x y : Nat} (hx : x ≤ Inf) (hy : y ≤ Inf) : ops0.fcmp op .f64 x y = ops0.cmp op (Int.ofNat x) (Int.ofNat y) := by
  rw [fcmp_key hop (by rw [(small hx).1]; exact hx) (by rw [(small hy).1]; exact hy), key_small hx, key_small hy]

end Go.Fl

namespace Go.Proofs.Vm
open Go.Vm Go.Fl
noncomputable section
-- SCORE

/-- A chance within what may be. -/
def clB (x : Nat) : Nat := if Inf < x % Wt then 0 else if key x ≤ 0 then 0 else if Int.ofNat oneB < key x then oneB else x
/-- How long ago. -/
def ageB (t n : Int) : Int := if t < n then 0 else if ops0.bin .sub .i64 t n < 0 then 2147483647 else ops0.bin .sub .i64 t n
/-- What something known is worth. -/
def wtB (a : Int) : Nat := if a < 0 then oneB else if 4159 < a then 0 else 70368744177664 * (65472 - a.toNat)
def pwB (q : Nat) : Nat := oneB - q * 4503599627370496
def guB (a c : Int) : Nat := if a < 0 then 0 else if c < a then 0 else fdiv (fsub (fadd (fint c.toNat) oneB) (fint a.toNat)) (fadd (fint c.toNat) oneB)
/-- What the functions come to (kept apart). -/
structure SF where
  cl : Nat → Nat
  age : Int → Int → Int
  wt : Int → Nat
  gu : Int → Int → Nat
def sf0 : SF := ⟨clB, ageB, wtB, guB⟩
def cnS1 (S : SF) : CnF := fun f vals H => match f, vals with
  | 22, [.flt .f64 x] => some (True, .ok (.flt .f64 (S.cl x)) H [])
  | 23, [.flt .f64 x] => some (True, .ok (.flt .f64 (S.cl x)) H [])
  | 36, [.int .i64 t, .int .i64 n] => some (True, .ok (.int .i64 (S.age t n)) H [])
  | 37, [.int .i64 t, .int .i64 n] => some (True, .ok (.int .i64 (S.age t n)) H [])
  | 13, [.int .i64 a] => some (a < 9223372036854775808, .ok (.flt .f64 (S.wt a)) H [])
  | 24, [.int .i64 a] => some (a < 9223372036854775808, .ok (.flt .f64 (S.wt a)) H [])
  | 25, [.int .i64 a, .int .i64 c] => some (c < 9223372036854775808, .ok (.flt .f64 (S.gu a c)) H [])
  | 26, [.int .i64 a, .int .i64 c] => some (c < 9223372036854775808, .ok (.flt .f64 (S.gu a c)) H [])
  | _, _ => none
/-- Powers. -/
def cnPw (pw : Nat → Nat) : CnF := fun f vals H => match f, vals with
  | 33, [.flt .f64 x, .int .i64 e] => some (x = 4607182418800017408 ∧ -64 ≤ e ∧ e ≤ 0, .ok (.flt .f64 (pw e.natAbs)) H [])
  | _, _ => none
def lp24 : VC := (.seq (.seq (.reg .false [] [⟨(.some 15), .none, .mov, [(.t 6)]⟩, ⟨(.some 16), .none, .mov, [(.t 3)]⟩, ⟨(.some 17), .none, (.cmp .lss), [(.t 15), (.t 16)]⟩]) (.cond (.t 17) .skip (.exit 0))) (.seq (.block 1 (.reg .false [] [⟨(.some 20), .none, .mov, [(.t 5)]⟩, ⟨(.some 21), .none, (.fbin .quo .f64), [(.t 20), (.c (.flt .f64 4611686018427387904))]⟩, ⟨(.some 5), .none, .mov, [(.t 21)]⟩])) (.reg .false [] [⟨(.some 18), .none, .mov, [(.t 6)]⟩, ⟨(.some 19), .none, (.bin .add .i64), [(.t 18), (.c (.int .i64 (.ofNat 1)))]⟩, ⟨(.some 6), .none, .mov, [(.t 19)]⟩])))
def fr24 (q r : Int) (x : Nat) (i : Int) : Fr := [.top, .top, .top, .int .i64 q, .int .i64 r, .flt .f64 x, .int .i64 i, .top, .top, .top, .top, .top, .top, .top, .top, .top, .top, .top, .top, .top, .top, .top, .top, .top, .top, .top, .top, .top]
def mk24 : List Bool := [true, true, true, false, false, false, false, true, true, true, true, true, true, true, true, true, true, true, true, true, true, true, true, true, true, true, true, true]
def ln24 (pw : Nat → Nat) : LnF := fun n0 b fr H => match slot fr 3, slot fr 4, H with
  | .int .i64 q, .int .i64 r, [] => some (n0 = 0 ∧ VCis b lp24 ∧ forget mk24 fr = fr24 q r 4607182418800017408 0 ∧ 0 ≤ q ∧ q ≤ 64, .ok (.exit 0) (fr24 q r (pw q.natAbs) q) [])
  | _, _, _ => none

/-- A call that hands back a value alone. -/
theorem call_0 {P : Program} {g : Kd → Bool} {C : CnF} (hC : CnOK P C) {E : LnF} (hE : LnOK P E) {T : Nat → Option VF} (hT : ∀ f vf, T f = some vf → FnOK P f vf) {f n : Nat} {vf : VF} (hf : T f = some vf) {vals : List AV}
    {r0 : AV} (h : vcall (vcA g C E) ops0 T n vf vals [] (endN (fun _ => 0) fun r H' => r = r0 ∧ H' = [])) (hr : cutV 0 r0 = r0) : CallTo P f vals [] r0 [] [] :=
  call_n hC hE hT hf [] h (Nat.le_refl 0) hr (fun b hb => by simp at hb)

theorem vc33 (e : Int) (Q : AV → Hl → Prop) :
  (vcall (vcA kdYes noCn noLn) ops0 (tabL 33 vf33) 200 vf33 [.flt .f64 4607182418800017408, .int .i64 e] [] (endN (fun _ => 0) Q)) =
 ((Br (ops0.cmp BinOp.lss (ops0.bin BinOp.add IntKind.i64 (ops0.bin BinOp.add IntKind.i64 e (Int.ofNat 0)) (Int.ofNat 0)) (Int.negSucc 1074))
 (Q (AV.flt FloatKind.f64 0) [])
 (Br (ops0.cmp BinOp.gtr (ops0.bin BinOp.add IntKind.i64 (ops0.bin BinOp.add IntKind.i64 e (Int.ofNat 0)) (Int.ofNat 0)) (Int.ofNat 1023))
 (Q (AV.flt FloatKind.f64 9218868437227405312) [])
 (Br (ops0.cmp BinOp.lss (ops0.bin BinOp.add IntKind.i64 (ops0.bin BinOp.add IntKind.i64 e (Int.ofNat 0)) (Int.ofNat 0)) (Int.negSucc 1021))
 (∃ r : Nat, ((((ops0.fbin BinOp.mul FloatKind.f64 4368491638549381120 (ops0.nat (ops0.bin BinOp.or IntKind.u64 (Int.ofNat 0) (ops0.shf BinOp.shl IntKind.u64 (ops0.cvt IntKind.u64 (ops0.bin BinOp.add IntKind.i64 (ops0.bin BinOp.add IntKind.i64 (ops0.bin BinOp.add IntKind.i64 (ops0.bin BinOp.add IntKind.i64 e (Int.ofNat 0)) (Int.ofNat 0)) (Int.ofNat 53)) (Int.ofNat 1023))) (Int.ofNat 52))))) : (Option Nat)) = (Option.some r)) ∧
 (Q (AV.flt FloatKind.f64 r) [])))
 (∃ r : Nat, ((((ops0.fbin BinOp.mul FloatKind.f64 4607182418800017408 (ops0.nat (ops0.bin BinOp.or IntKind.u64 (Int.ofNat 0) (ops0.shf BinOp.shl IntKind.u64 (ops0.cvt IntKind.u64 (ops0.bin BinOp.add IntKind.i64 (ops0.bin BinOp.add IntKind.i64 (ops0.bin BinOp.add IntKind.i64 e (Int.ofNat 0)) (Int.ofNat 0)) (Int.ofNat 1023))) (Int.ofNat 52))))) : (Option Nat)) = (Option.some r)) ∧
 (Q (AV.flt FloatKind.f64 r) []))))))) := by kernel_rfl

theorem vc22 (x : Nat) (Q : AV → Hl → Prop) :
  (vcall (vcA kdYes noCn noLn) ops0 (tabL 22 vf22) 200 vf22 [.flt .f64 x] [] (endN (fun _ => 0) Q)) =
 ((Br (ops0.fcmp BinOp.neq FloatKind.f64 x x)
 (Q (AV.flt FloatKind.f64 0) [])
 (Br (ops0.fcmp BinOp.leq FloatKind.f64 x 0)
 (Q (AV.flt FloatKind.f64 0) [])
 (Br (ops0.fcmp BinOp.gtr FloatKind.f64 x 4607182418800017408)
 (Q (AV.flt FloatKind.f64 4607182418800017408) [])
 (Q (AV.flt FloatKind.f64 x) []))))) := by kernel_rfl

theorem vc23 (x : Nat) (Q : AV → Hl → Prop) :
  (vcall (vcA kdYes noCn noLn) ops0 (tabL 23 vf23) 200 vf23 [.flt .f64 x] [] (endN (fun _ => 0) Q)) =
 ((Br (ops0.fcmp BinOp.gtr FloatKind.f64 x 0)
 (Br (ops0.fcmp BinOp.gtr FloatKind.f64 x 4607182418800017408)
 (Q (AV.flt FloatKind.f64 4607182418800017408) [])
 (Q (AV.flt FloatKind.f64 x) []))
 (Q (AV.flt FloatKind.f64 0) []))) := by kernel_rfl

theorem vc36 (t n : Int) (Q : AV → Hl → Prop) :
  (vcall (vcA kdYes noCn noLn) ops0 (tabL 36 vf36) 200 vf36 [.int .i64 t, .int .i64 n] [] (endN (fun _ => 0) Q)) =
 ((Br (ops0.cmp BinOp.lss t n)
 (Q (AV.int IntKind.i64 (Int.ofNat 0)) [])
 (Br (ops0.cmp BinOp.lss (ops0.bin BinOp.sub IntKind.i64 t n) (Int.ofNat 0))
 (Q (AV.int IntKind.i64 (Int.ofNat 2147483647)) [])
 (Q (AV.int IntKind.i64 (ops0.bin BinOp.sub IntKind.i64 t n)) [])))) := by kernel_rfl

theorem vc37 (t n : Int) (Q : AV → Hl → Prop) :
  (vcall (vcA kdYes noCn noLn) ops0 (tabL 37 vf37) 200 vf37 [.int .i64 t, .int .i64 n] [] (endN (fun _ => 0) Q)) =
 ((Br (ops0.cmp BinOp.lss t n)
 (Q (AV.int IntKind.i64 (Int.ofNat 0)) [])
 (Br (ops0.cmp BinOp.lss (ops0.bin BinOp.sub IntKind.i64 t n) (Int.ofNat 0))
 (Q (AV.int IntKind.i64 (Int.ofNat 2147483647)) [])
 (Q (AV.int IntKind.i64 (ops0.bin BinOp.sub IntKind.i64 t n)) [])))) := by kernel_rfl

theorem vc25 (a c : Int) (Q : AV → Hl → Prop) :
  (vcall (vcA kdYes noCn noLn) ops0 (tabL 25 vf25) 200 vf25 [.int .i64 a, .int .i64 c] [] (endN (fun _ => 0) Q)) =
 ((Br (ops0.cmp BinOp.lss a (Int.ofNat 0))
 (Q (AV.flt FloatKind.f64 0) [])
 (Br (ops0.cmp BinOp.lss c a)
 (Q (AV.flt FloatKind.f64 0) [])
 (∃ r : Nat, ((((ops0.fbin BinOp.add FloatKind.f64 (ops0.i2f FloatKind.f64 c) 4607182418800017408) : (Option Nat)) = (Option.some r)) ∧
 (∃ r1 : Nat, ((((ops0.fbin BinOp.sub FloatKind.f64 r (ops0.i2f FloatKind.f64 a)) : (Option Nat)) = (Option.some r1)) ∧
 (∃ r2 : Nat, ((((ops0.fbin BinOp.quo FloatKind.f64 r1 r) : (Option Nat)) = (Option.some r2)) ∧
 (Q (AV.flt FloatKind.f64 r2) [])))))))))) := by kernel_rfl

theorem vc26 (a c : Int) (Q : AV → Hl → Prop) :
  (vcall (vcA kdYes noCn noLn) ops0 (tabL 26 vf26) 200 vf26 [.int .i64 a, .int .i64 c] [] (endN (fun _ => 0) Q)) =
 ((Br (ops0.cmp BinOp.lss a (Int.ofNat 0))
 (Q (AV.flt FloatKind.f64 0) [])
 (Br (ops0.cmp BinOp.lss c a)
 (Q (AV.flt FloatKind.f64 0) [])
 (∃ r : Nat, ((((ops0.fbin BinOp.add FloatKind.f64 (ops0.i2f FloatKind.f64 c) 4607182418800017408) : (Option Nat)) = (Option.some r)) ∧
 (∃ r1 : Nat, ((((ops0.fbin BinOp.sub FloatKind.f64 r (ops0.i2f FloatKind.f64 a)) : (Option Nat)) = (Option.some r1)) ∧
 (∃ r2 : Nat, ((((ops0.fbin BinOp.quo FloatKind.f64 r1 r) : (Option Nat)) = (Option.some r2)) ∧
 (Q (AV.flt FloatKind.f64 r2) [])))))))))) := by kernel_rfl

theorem vc13 (pw : Nat → Nat) (a : Int) (Q : AV → Hl → Prop) :
  (vcall (vcA kdYes (cnPw pw) noLn) ops0 (tabOne 13 vf13) 200 vf13 [.int .i64 a] [] (endN (fun _ => 0) Q)) =
 ((Br (ops0.cmp BinOp.lss a (Int.ofNat 0))
 (Q (AV.flt FloatKind.f64 4607182418800017408) [])
 (Br (ops0.cmp BinOp.gtr (ops0.bin BinOp.quo IntKind.i64 a (Int.ofNat 64)) (Int.ofNat 64))
 (Q (AV.flt FloatKind.f64 0) [])
 ((((4607182418800017408 : Nat) = 4607182418800017408) ∧
 (((Int.negSucc 63) ≤ (ops0.bin BinOp.sub IntKind.i64 (Int.ofNat 0) (ops0.bin BinOp.quo IntKind.i64 a (Int.ofNat 64)))) ∧
 ((ops0.bin BinOp.sub IntKind.i64 (Int.ofNat 0) (ops0.bin BinOp.quo IntKind.i64 a (Int.ofNat 64))) ≤ (Int.ofNat 0)))) ∧
 (∃ r : Nat, ((((ops0.fbin BinOp.quo FloatKind.f64 (ops0.i2f FloatKind.f64 (ops0.bin BinOp.rem IntKind.i64 a (Int.ofNat 64))) 4638707616191610880) : (Option Nat)) = (Option.some r)) ∧
 (∃ r1 : Nat, ((((ops0.fbin BinOp.sub FloatKind.f64 4607182418800017408 r) : (Option Nat)) = (Option.some r1)) ∧
 (∃ r2 : Nat, ((((ops0.fbin BinOp.mul FloatKind.f64 (pw (Int.natAbs (ops0.bin BinOp.sub IntKind.i64 (Int.ofNat 0) (ops0.bin BinOp.quo IntKind.i64 a (Int.ofNat 64))))) r1) : (Option Nat)) = (Option.some r2)) ∧
 (Q (AV.flt FloatKind.f64 r2) []))))))))))) := by kernel_rfl

theorem vc24 (pw : Nat → Nat) (a : Int) (Q : AV → Hl → Prop) :
  (vcall (vcA kdYes noCn (ln24 pw)) ops0 (tabOne 24 vf24) 200 vf24 [.int .i64 a] [] (endN (fun _ => 0) Q)) =
 ((Br (ops0.cmp BinOp.lss a (Int.ofNat 0))
 (Q (AV.flt FloatKind.f64 4607182418800017408) [])
 (Br (ops0.cmp BinOp.gtr (ops0.bin BinOp.quo IntKind.i64 a (Int.ofNat 64)) (Int.ofNat 64))
 (Q (AV.flt FloatKind.f64 0) [])
 ((((0 : Nat) = 0) ∧
 ((VCis lp24 lp24) ∧
 ((([AV.top, AV.top, AV.top, (AV.int IntKind.i64 (ops0.bin BinOp.quo IntKind.i64 a (Int.ofNat 64))), (AV.int IntKind.i64 (ops0.bin BinOp.rem IntKind.i64 a (Int.ofNat 64))), (AV.flt FloatKind.f64 4607182418800017408), (AV.int IntKind.i64 (Int.ofNat 0)), AV.top, AV.top, AV.top, AV.top, AV.top, AV.top, AV.top, AV.top, AV.top, AV.top, AV.top, AV.top, AV.top, AV.top, AV.top, AV.top, AV.top, AV.top, AV.top, AV.top, AV.top] : Fr) = [AV.top, AV.top, AV.top, (AV.int IntKind.i64 (ops0.bin BinOp.quo IntKind.i64 a (Int.ofNat 64))), (AV.int IntKind.i64 (ops0.bin BinOp.rem IntKind.i64 a (Int.ofNat 64))), (AV.flt FloatKind.f64 4607182418800017408), (AV.int IntKind.i64 (Int.ofNat 0)), AV.top, AV.top, AV.top, AV.top, AV.top, AV.top, AV.top, AV.top, AV.top, AV.top, AV.top, AV.top, AV.top, AV.top, AV.top, AV.top, AV.top, AV.top, AV.top, AV.top, AV.top]) ∧
 (((Int.ofNat 0) ≤ (ops0.bin BinOp.quo IntKind.i64 a (Int.ofNat 64))) ∧
 ((ops0.bin BinOp.quo IntKind.i64 a (Int.ofNat 64)) ≤ (Int.ofNat 64)))))) ∧
 (∃ r : Nat, ((((ops0.fbin BinOp.quo FloatKind.f64 (ops0.i2f FloatKind.f64 (ops0.bin BinOp.rem IntKind.i64 a (Int.ofNat 64))) 4638707616191610880) : (Option Nat)) = (Option.some r)) ∧
 (∃ r1 : Nat, ((((ops0.fbin BinOp.sub FloatKind.f64 4607182418800017408 r) : (Option Nat)) = (Option.some r1)) ∧
 (∃ r2 : Nat, ((((ops0.fbin BinOp.mul FloatKind.f64 (pw (Int.natAbs (ops0.bin BinOp.quo IntKind.i64 a (Int.ofNat 64)))) r1) : (Option Nat)) = (Option.some r2)) ∧
 (Q (AV.flt FloatKind.f64 r2) []))))))))))) := by kernel_rfl

theorem vcl24 (q r : Int) (x : Nat) (i : Int) (Q : Ex → Fr → Hl → Prop) :
  (vm (vcA kdYes noCn noLn) ops0 noTab 100 0 lp24 (fr24 q r x i) [] [] (bodyX mk24 Q)) =
 ((Br (ops0.cmp BinOp.lss i q)
 (∃ r1 : Nat, ((((ops0.fbin BinOp.quo FloatKind.f64 x 4611686018427387904) : (Option Nat)) = (Option.some r1)) ∧
 (Q Ex.norm [AV.top, AV.top, AV.top, (AV.int IntKind.i64 q), (AV.int IntKind.i64 r), (AV.flt FloatKind.f64 r1), (AV.int IntKind.i64 (ops0.bin BinOp.add IntKind.i64 i (Int.ofNat 1))), AV.top, AV.top, AV.top, AV.top, AV.top, AV.top, AV.top, AV.top, AV.top, AV.top, AV.top, AV.top, AV.top, AV.top, AV.top, AV.top, AV.top, AV.top, AV.top, AV.top, AV.top] [])))
 (Q (Ex.exit 0) [AV.top, AV.top, AV.top, (AV.int IntKind.i64 q), (AV.int IntKind.i64 r), (AV.flt FloatKind.f64 x), (AV.int IntKind.i64 i), AV.top, AV.top, AV.top, AV.top, AV.top, AV.top, AV.top, AV.top, AV.top, AV.top, AV.top, AV.top, AV.top, AV.top, AV.top, AV.top, AV.top, AV.top, AV.top, AV.top, AV.top] []))) := by kernel_rfl

theorem z0 : 0 % Wt ≤ Inf := by rw [Nat.zero_mod]; exact Nat.zero_le _
theorem z1 : 4607182418800017408 % Wt ≤ Inf := by
  rw [(small (Nat.le_of_lt inf_big : 4607182418800017408 ≤ Inf)).1]
  exact Nat.le_of_lt inf_big
theorem k0 : key 0 = 0 := key_small (Nat.zero_le _)
theorem k1 : key 4607182418800017408 = Int.ofNat oneB := key_small (Nat.le_of_lt inf_big)
theorem iLss {a b : Int} : ops0.cmp .lss a b = decide (a < b) := rfl
theorem iLeq {a b : Int} : ops0.cmp .leq a b = decide (a ≤ b) := rfl
theorem iGtr {a b : Int} : ops0.cmp .gtr a b = decide (b < a) := rfl
theorem iGeq {a b : Int} : ops0.cmp .geq a b = decide (b ≤ a) := rfl
theorem iEql {a b : Int} : ops0.cmp .eql a b = decide (a = b) := by
  show (a == b) = _
  by_cases h : a = b <;> simp [h]
theorem iNeq {a b : Int} : ops0.cmp .neq a b = decide (a ≠ b) := by
  show (a != b) = _
  by_cases h : a = b <;> simp [h]

theorem call22 (x : Nat) : CallTo Try.prog 22 [.flt .f64 x] [] (.flt .f64 (clB x)) [] [] := by
  refine call_0 (noCn_ok _) (noLn_ok _) (tabL_ok ok22) (tabL_self 22 vf22) (n := 200) (g := kdYes) ?_ rfl
  rw [vc22]
  unfold clB
  by_cases hn : Inf < x % Wt
  · rw [if_pos hn]
    exact Br.t (fcmp_nan rfl (Or.inl hn)) ⟨rfl, rfl⟩
  · have hx : x % Wt ≤ Inf := by omega
    rw [if_neg hn, fcmp_key rfl hx hx, fcmp_key rfl hx z0, fcmp_key rfl hx z1, k0, k1, iNeq, iLeq, iGtr]
    refine Br.f (decide_eq_false (by simp)) (Br.mk (fun h => ?_) (fun h => ?_))
    · rw [if_pos (show key x ≤ 0 from of_decide_eq_true h)]; exact ⟨rfl, rfl⟩
    · rw [if_neg (show ¬ key x ≤ 0 from of_decide_eq_false h)]
      refine Br.mk (fun h1 => ?_) (fun h1 => ?_)
      · rw [if_pos (show Int.ofNat oneB < key x from of_decide_eq_true h1)]; exact ⟨rfl, rfl⟩
      · rw [if_neg (show ¬ Int.ofNat oneB < key x from of_decide_eq_false h1)]; exact ⟨rfl, rfl⟩

theorem call23 (x : Nat) : CallTo Try.prog 23 [.flt .f64 x] [] (.flt .f64 (clB x)) [] [] := by
  refine call_0 (noCn_ok _) (noLn_ok _) (tabL_ok ok23) (tabL_self 23 vf23) (n := 200) (g := kdYes) ?_ rfl
  rw [vc23]
  unfold clB
  by_cases hn : Inf < x % Wt
  · rw [if_pos hn]
    exact Br.f (fcmp_nan rfl (Or.inl hn)) ⟨rfl, rfl⟩
  · have hx : x % Wt ≤ Inf := by omega
    rw [if_neg hn, fcmp_key rfl hx z0, fcmp_key rfl hx z1, k0, k1, iGtr, iGtr]
    refine Br.mk (fun h => ?_) (fun h => ?_)
    · have h : 0 < key x := of_decide_eq_true h
      rw [if_neg (show ¬ key x ≤ 0 by omega)]
      refine Br.mk (fun h1 => ?_) (fun h1 => ?_)
      · rw [if_pos (show Int.ofNat oneB < key x from of_decide_eq_true h1)]; exact ⟨rfl, rfl⟩
      · rw [if_neg (show ¬ Int.ofNat oneB < key x from of_decide_eq_false h1)]; exact ⟨rfl, rfl⟩
    · have h : ¬ 0 < key x := of_decide_eq_false h
      rw [if_pos (show key x ≤ 0 by omega)]; exact ⟨rfl, rfl⟩

theorem call36 (t n : Int) : CallTo Try.prog 36 [.int .i64 t, .int .i64 n] [] (.int .i64 (ageB t n)) [] [] := by
  refine call_0 (noCn_ok _) (noLn_ok _) (tabL_ok ok36) (tabL_self 36 vf36) (n := 200) (g := kdYes) ?_ rfl
  rw [vc36, iLss, iLss]
  unfold ageB
  refine Br.mk (fun h => ?_) (fun h => ?_)
  · rw [if_pos (show t < n from of_decide_eq_true h)]; exact ⟨rfl, rfl⟩
  · rw [if_neg (show ¬ t < n from of_decide_eq_false h)]
    refine Br.mk (fun h1 => ?_) (fun h1 => ?_)
    · rw [if_pos (show ops0.bin .sub .i64 t n < 0 from of_decide_eq_true h1)]; exact ⟨rfl, rfl⟩
    · rw [if_neg (show ¬ ops0.bin .sub .i64 t n < 0 from of_decide_eq_false h1)]; exact ⟨rfl, rfl⟩
theorem call37 (t n : Int) : CallTo Try.prog 37 [.int .i64 t, .int .i64 n] [] (.int .i64 (ageB t n)) [] [] := by
  refine call_0 (noCn_ok _) (noLn_ok _) (tabL_ok ok37) (tabL_self 37 vf37) (n := 200) (g := kdYes) ?_ rfl
  rw [vc37, iLss, iLss]
  unfold ageB
  refine Br.mk (fun h => ?_) (fun h => ?_)
  · rw [if_pos (show t < n from of_decide_eq_true h)]; exact ⟨rfl, rfl⟩
  · rw [if_neg (show ¬ t < n from of_decide_eq_false h)]
    refine Br.mk (fun h1 => ?_) (fun h1 => ?_)
    · rw [if_pos (show ops0.bin .sub .i64 t n < 0 from of_decide_eq_true h1)]; exact ⟨rfl, rfl⟩
    · rw [if_neg (show ¬ ops0.bin .sub .i64 t n < 0 from of_decide_eq_false h1)]; exact ⟨rfl, rfl⟩

/-! ### Guesses -/
theorem fadd_fin {n : Nat} (h : n ≤ 18446744073709551616) : fadd (fint n) oneB ≤ 4895412794951729153 := by
  have h1 : fadd 4895412794951729152 oneB = 4895412794951729152 := by
    have h : some (fadd 4895412794951729152 oneB) = some 4895412794951729152 := by
      rw [← o_add (by rw [Inf_val]; decide) (Nat.le_of_lt inf_big)]
      decide +kernel
    exact Option.some.inj h
  have h2 := fadd_mono (x := fint n) (y := oneB) (x' := 4895412794951729152) (y' := oneB) (by rw [Inf_val]; decide) (Nat.le_of_lt inf_big) (fint_small h) (Nat.le_refl _)
  omega
theorem guess_steps {a c : Nat} (h : a ≤ c) (hc : c < 9223372036854775808) {R : Nat → Prop} (hR : R (fdiv (fsub (fadd (fint c) oneB) (fint a)) (fadd (fint c) oneB))) :
    ∃ r : Nat, (ops0.fbin .add .f64 (ops0.i2f .f64 (Int.ofNat c)) 4607182418800017408 = some r) ∧ ∃ r1 : Nat, (ops0.fbin .sub .f64 r (ops0.i2f .f64 (Int.ofNat a)) = some r1) ∧ ∃ r2 : Nat, (ops0.fbin .quo .f64 r1 r = some r2) ∧ R r2 := by
  have h1 : fint c < Inf := fint_lt (by omega)
  have h2 : fadd (fint c) oneB < Inf := by
    have := fadd_fin (n := c) (by omega)
    rw [Inf_val]; omega
  have h3 : fint a ≤ fadd (fint c) oneB := Nat.le_trans (fint_mono h) (fadd_ge (Nat.le_of_lt h1))
  have h4 : 0 < fadd (fint c) oneB := by
    have := fadd_ge' (x := fint c) (y := oneB) (Nat.le_of_lt inf_big)
    have : 0 < oneB := by decide
    omega
  have h5 := fsub_le (x := fadd (fint c) oneB) (y := fint a) (Nat.le_of_lt h2)
  rw [o_int, o_int]
  exact ⟨fadd (fint c) oneB, o_add (Nat.le_of_lt h1) (Nat.le_of_lt inf_big), fsub (fadd (fint c) oneB) (fint a), o_sub h2 h3, _, o_div (Nat.lt_of_le_of_lt h5 h2) h2 h4, hR⟩
theorem call25 (a c : Int) (hc : c < 9223372036854775808) : CallTo Try.prog 25 [.int .i64 a, .int .i64 c] [] (.flt .f64 (guB a c)) [] [] := by
  refine call_0 (noCn_ok _) (noLn_ok _) (tabL_ok ok25) (tabL_self 25 vf25) (n := 200) (g := kdYes) ?_ rfl
  rw [vc25, iLss, iLss]
  unfold guB
  refine Br.mk (fun h => ?_) (fun h => ?_)
  · rw [if_pos (show a < 0 from of_decide_eq_true h)]; exact ⟨rfl, rfl⟩
  · have h : ¬ a < 0 := of_decide_eq_false h
    rw [if_neg h]
    refine Br.mk (fun h1 => ?_) (fun h1 => ?_)
    · rw [if_pos (show c < a from of_decide_eq_true h1)]; exact ⟨rfl, rfl⟩
    · have h1 : ¬ c < a := of_decide_eq_false h1
      rw [if_neg h1]
      obtain ⟨m, rfl⟩ : ∃ m : Nat, a = Int.ofNat m := ⟨a.toNat, (Int.toNat_of_nonneg (by omega)).symm⟩
      obtain ⟨k, rfl⟩ : ∃ k : Nat, c = Int.ofNat k := ⟨c.toNat, (Int.toNat_of_nonneg (by omega)).symm⟩
      simp only [Int.ofNat_eq_natCast] at h h1 hc
      exact guess_steps (R := fun r => AV.flt .f64 r = .flt .f64 _ ∧ ([] : Hl) = []) (by omega) (by omega) ⟨rfl, rfl⟩
theorem call26 (a c : Int) (hc : c < 9223372036854775808) : CallTo Try.prog 26 [.int .i64 a, .int .i64 c] [] (.flt .f64 (guB a c)) [] [] := by
  refine call_0 (noCn_ok _) (noLn_ok _) (tabL_ok ok26) (tabL_self 26 vf26) (n := 200) (g := kdYes) ?_ rfl
  rw [vc26, iLss, iLss]
  unfold guB
  refine Br.mk (fun h => ?_) (fun h => ?_)
  · rw [if_pos (show a < 0 from of_decide_eq_true h)]; exact ⟨rfl, rfl⟩
  · have h : ¬ a < 0 := of_decide_eq_false h
    rw [if_neg h]
    refine Br.mk (fun h1 => ?_) (fun h1 => ?_)
    · rw [if_pos (show c < a from of_decide_eq_true h1)]; exact ⟨rfl, rfl⟩
    · have h1 : ¬ c < a := of_decide_eq_false h1
      rw [if_neg h1]
      obtain ⟨m, rfl⟩ : ∃ m : Nat, a = Int.ofNat m := ⟨a.toNat, (Int.toNat_of_nonneg (by omega)).symm⟩
      obtain ⟨k, rfl⟩ : ∃ k : Nat, c = Int.ofNat k := ⟨c.toNat, (Int.toNat_of_nonneg (by omega)).symm⟩
      simp only [Int.ofNat_eq_natCast] at h h1 hc
      exact guess_steps (R := fun r => AV.flt .f64 r = .flt .f64 _ ∧ ([] : Hl) = []) (by omega) (by omega) ⟨rfl, rfl⟩

/-! ### Weights -/
def wT (r : Nat) : Nat := 70368744177664 * (65472 - r)
theorem wt1 : (List.range 64).all (fun r => (ops0.fbin .quo .f64 (ops0.i2f .f64 (Int.ofNat r)) 4638707616191610880).any fun x => ops0.fbin .sub .f64 4607182418800017408 x == some (wT r)) = true := by decide +kernel
theorem wt2 : (List.range 65).all (fun q => (List.range 64).all fun r => ops0.fbin .mul .f64 (pwB q) (wT r) == some (70368744177664 * (65472 - (64 * q + r)))) = true := by decide +kernel
theorem wt3 : (List.range 64).all (fun q => ops0.fbin .quo .f64 (pwB q) 4611686018427387904 == some (pwB (q + 1))) = true := by decide +kernel
def eB (q : Nat) : Int := ops0.bin .add .i64 (ops0.bin .add .i64 (-(Int.ofNat q)) 0) 0
theorem wt4 : (List.range 65).all (fun q => !(ops0.cmp .lss (eB q) (Int.negSucc 1074)) && !(ops0.cmp .gtr (eB q) 1023) && !(ops0.cmp .lss (eB q) (Int.negSucc 1021)) &&
    (ops0.fbin .mul .f64 4607182418800017408 (ops0.nat (ops0.bin .or .u64 0 (ops0.shf .shl .u64 (ops0.cvt .u64 (ops0.bin .add .i64 (eB q) 1023)) 52))) == some (pwB q))) = true := by decide +kernel

theorem call33 {q : Nat} (hq : q ≤ 64) : CallTo Try.prog 33 [.flt .f64 4607182418800017408, .int .i64 (-(Int.ofNat q))] [] (.flt .f64 (pwB q)) [] [] := by
  refine call_0 (noCn_ok _) (noLn_ok _) (tabL_ok ok33) (tabL_self 33 vf33) (n := 200) (g := kdYes) ?_ rfl
  have h := List.all_eq_true.1 wt4 q (List.mem_range.2 (by omega))
  simp only [Bool.and_eq_true, Bool.not_eq_true', beq_iff_eq] at h
  obtain ⟨⟨⟨h1, h2⟩, h3⟩, h4⟩ := h
  unfold eB at h1 h2 h3 h4
  rw [vc33]
  exact Br.f h1 (Br.f h2 (Br.f h3 ⟨_, h4, rfl, rfl⟩))
theorem cnPw_ok : CnOK Try.prog (cnPw pwB) := by
  intro f vals H p x e hp
  unfold cnPw at e
  split at e
  · rename_i y e'
    cases e
    obtain ⟨rfl, h1, h2⟩ := hp
    obtain ⟨q, rfl⟩ : ∃ q : Nat, e' = -(Int.ofNat q) := ⟨e'.natAbs, by simp only [Int.ofNat_eq_natCast]; omega⟩
    have hq : q ≤ 64 := by simp only [Int.ofNat_eq_natCast] at h1; omega
    have e1 : (-(Int.ofNat q)).natAbs = q := by simp
    show CallTo _ _ _ _ (.flt .f64 (pwB (-(Int.ofNat q)).natAbs)) _ _
    rw [e1]
    exact CallTo.lookV (H := H) (call33 hq) (.cons (Vw.same fun _ _ => rfl) (.cons (Vw.int H _ _) .nil))
  · cases e

theorem weight_steps {q r : Nat} (hq : q ≤ 64) (hr : r < 64) {R : Nat → Prop} (hR : R (70368744177664 * (65472 - (64 * q + r)))) :
    ∃ x : Nat, (ops0.fbin .quo .f64 (ops0.i2f .f64 (Int.ofNat r)) 4638707616191610880 = some x) ∧ ∃ x1 : Nat, (ops0.fbin .sub .f64 4607182418800017408 x = some x1) ∧ ∃ x2 : Nat, (ops0.fbin .mul .f64 (pwB q) x1 = some x2) ∧ R x2 := by
  have h1 := List.all_eq_true.1 wt1 r (List.mem_range.2 hr)
  have h2 := List.all_eq_true.1 (List.all_eq_true.1 wt2 q (List.mem_range.2 (by omega))) r (List.mem_range.2 hr)
  simp only [Option.any_eq_true_iff_get, beq_iff_eq] at h1 h2
  obtain ⟨hs, h1⟩ := h1
  exact ⟨_, (Option.some_get hs).symm, _, h1, _, h2, hR⟩

theorem call13 (a : Int) (ha : a < 9223372036854775808) : CallTo Try.prog 13 [.int .i64 a] [] (.flt .f64 (wtB a)) [] [] := by
  refine call_0 cnPw_ok (noLn_ok _) (tabOne_ok ok13) (tabOne_self 13 vf13) (n := 200) (g := kdYes) ?_ rfl
  rw [vc13, iLss]
  unfold wtB
  refine Br.mk (fun h => ?_) (fun h => ?_)
  · rw [if_pos (show a < 0 from of_decide_eq_true h)]; exact ⟨rfl, rfl⟩
  · have h : ¬ a < 0 := of_decide_eq_false h
    rw [if_neg h]
    obtain ⟨m, rfl⟩ : ∃ m : Nat, a = Int.ofNat m := ⟨a.toNat, (Int.toNat_of_nonneg (by omega)).symm⟩
    simp only [Int.ofNat_eq_natCast] at ha
    have hq : ops0.bin .quo .i64 (Int.ofNat m) (Int.ofNat 64) = Int.ofNat (m / 64) := nQuo (b := 64) (by omega)
    have hr : ops0.bin .rem .i64 (Int.ofNat m) (Int.ofNat 64) = Int.ofNat (m % 64) := nRem (b := 64)
    rw [hq, hr, iGtr]
    have hlt := Nat.mod_lt m (show 0 < 64 by decide)
    have hdm := Nat.div_add_mod m 64
    refine Br.mk (fun h1 => ?_) (fun h1 => ?_)
    · have h1 := of_decide_eq_true h1
      rw [if_pos (by simp only [Int.ofNat_eq_natCast] at h1 ⊢; omega)]; exact ⟨rfl, rfl⟩
    · have h1 := of_decide_eq_false h1
      simp only [Int.ofNat_eq_natCast] at h1
      rw [if_neg (by simp only [Int.ofNat_eq_natCast]; omega)]
      have hs : ops0.bin .sub .i64 (Int.ofNat 0) (Int.ofNat (m / 64)) = -(Int.ofNat (m / 64)) := by
        show IntKind.i64.wrap (0 - Int.ofNat (m / 64)) = _
        rw [i64_wrap (by simp only [Int.ofNat_eq_natCast]; omega) (by simp only [Int.ofNat_eq_natCast]; omega)]
        omega
      rw [hs]
      have e1 : (-(Int.ofNat (m / 64))).natAbs = m / 64 := by rw [Int.natAbs_neg]; rfl
      rw [e1]
      refine ⟨⟨rfl, by simp only [Int.ofNat_eq_natCast]; omega, by simp only [Int.ofNat_eq_natCast]; omega⟩, ?_⟩
      refine weight_steps (R := fun r => AV.flt .f64 r = .flt .f64 _ ∧ ([] : Hl) = []) (by omega) hlt ⟨?_, rfl⟩
      rw [hdm]
      rfl

/-! ### The document's weight -/
theorem body24 {q i : Nat} (r : Int) (hi : i < q) (hq : q ≤ 64) : BodyTo Try.prog 0 lp24 (fr24 (Int.ofNat q) r (pwB i) (Int.ofNat i)) [] .norm (fr24 (Int.ofNat q) r (pwB (i + 1)) (Int.ofNat (i + 1))) [] := by
  have h3 := List.all_eq_true.1 wt3 i (List.mem_range.2 (by omega))
  simp only [beq_iff_eq] at h3
  refine body_x (noCn_ok _) (noLn_ok _) (noTab_ok _) (n := 100) (g := kdYes) (bs := mk24) ?_ (by simp)
  have e1 : ops0.bin .add .i64 (Int.ofNat i) (Int.ofNat 1) = Int.ofNat (i + 1) := nAdd (b := 1) (by omega)
  rw [vcl24, e1, nLss]
  exact Br.t (decide_eq_true hi) ⟨_, h3, rfl, rfl, rfl⟩
theorem loop24 {q : Nat} (r : Int) (hq : q ≤ 64) : ∀ lg, LoopTo Try.prog 0 lp24 (fr24 (Int.ofNat q) r 4607182418800017408 0) [] lg (.exit 0) (fr24 (Int.ofNat q) r (pwB q) (Int.ofNat q)) [] (List.range 0 ++ lg) := by
  have h := loop_chain (P := Try.prog) (n0 := 0) (b := lp24) (ex := .exit 0) (fr' := fr24 (Int.ofNat q) r (pwB q) (Int.ofNat q)) (H' := []) (by intro h; cases h)
    (fun i => (fr24 (Int.ofNat q) r (pwB i) (Int.ofNat i), [])) q 0 (fun i _ hi => body24 r (by omega) hq) ?_
  · exact h
  · rw [Nat.zero_add]
    refine body_x (noCn_ok _) (noLn_ok _) (noTab_ok _) (n := 100) (g := kdYes) (bs := mk24) ?_ (by simp)
    show vm _ _ _ _ _ _ (fr24 (Int.ofNat q) r (pwB q) (Int.ofNat q)) [] _ _
    rw [vcl24, nLss]
    exact Br.f (decide_eq_false (by omega)) ⟨rfl, rfl, rfl⟩
theorem ln24_ok : LnOK Try.prog (ln24 pwB) := by
  intro n0 b fr H p x e hn hp lg
  unfold ln24 at e
  split at e <;> cases e
  rename_i q r h1 h2
  obtain ⟨rfl, hb, hf, hp1, hp2⟩ := hp
  have hb : b = lp24 := hb
  subst hb
  obtain ⟨m, rfl⟩ : ∃ m : Nat, q = Int.ofNat m := ⟨q.toNat, (Int.toNat_of_nonneg hp1).symm⟩
  simp only [Int.ofNat_eq_natCast] at hp2
  refine LoopTo.pre (Weak.forget (by simp) mk24) ?_ lg
  rw [hf]
  exact loop24 r (by omega)

theorem call24 (a : Int) (ha : a < 9223372036854775808) : CallTo Try.prog 24 [.int .i64 a] [] (.flt .f64 (wtB a)) [] [] := by
  refine call_0 (noCn_ok _) ln24_ok (tabOne_ok ok24) (tabOne_self 24 vf24) (n := 200) (g := kdYes) ?_ rfl
  rw [vc24, iLss]
  unfold wtB
  refine Br.mk (fun h => ?_) (fun h => ?_)
  · rw [if_pos (show a < 0 from of_decide_eq_true h)]; exact ⟨rfl, rfl⟩
  · have h : ¬ a < 0 := of_decide_eq_false h
    rw [if_neg h]
    obtain ⟨m, rfl⟩ : ∃ m : Nat, a = Int.ofNat m := ⟨a.toNat, (Int.toNat_of_nonneg (by omega)).symm⟩
    simp only [Int.ofNat_eq_natCast] at ha
    have hq : ops0.bin .quo .i64 (Int.ofNat m) (Int.ofNat 64) = Int.ofNat (m / 64) := nQuo (b := 64) (by omega)
    have hr : ops0.bin .rem .i64 (Int.ofNat m) (Int.ofNat 64) = Int.ofNat (m % 64) := nRem (b := 64)
    rw [hq, hr, iGtr]
    have hlt := Nat.mod_lt m (show 0 < 64 by decide)
    have hdm := Nat.div_add_mod m 64
    refine Br.mk (fun h1 => ?_) (fun h1 => ?_)
    · have h1 := of_decide_eq_true h1
      rw [if_pos (by simp only [Int.ofNat_eq_natCast] at h1 ⊢; omega)]; exact ⟨rfl, rfl⟩
    · have h1 := of_decide_eq_false h1
      simp only [Int.ofNat_eq_natCast] at h1
      rw [if_neg (by simp only [Int.ofNat_eq_natCast]; omega)]
      refine ⟨⟨rfl, rfl, rfl, by simp only [Int.ofNat_eq_natCast]; omega, by simp only [Int.ofNat_eq_natCast]; omega⟩, ?_⟩
      have e1 : (Int.ofNat (m / 64)).natAbs = m / 64 := rfl
      rw [e1]
      refine weight_steps (R := fun r => AV.flt .f64 r = .flt .f64 _ ∧ ([] : Hl) = []) (by omega) hlt ⟨?_, rfl⟩
      rw [hdm]
      rfl

theorem Vw.flt (H : Hl) (k : FloatKind) (n : Nat) : Vw H (.flt k n) (.flt k n) := .same fun _ _ => rfl
theorem cnS1_ok : CnOK Try.prog (cnS1 sf0) := by
  intro f vals H p x e hp
  unfold cnS1 at e
  split at e <;> cases e
  · exact CallTo.lookV (H := H) (call22 _) (.cons (Vw.flt H _ _) .nil)
  · exact CallTo.lookV (H := H) (call23 _) (.cons (Vw.flt H _ _) .nil)
  · exact CallTo.lookV (H := H) (call36 _ _) (.cons (Vw.int H _ _) (.cons (Vw.int H _ _) .nil))
  · exact CallTo.lookV (H := H) (call37 _ _) (.cons (Vw.int H _ _) (.cons (Vw.int H _ _) .nil))
  · exact CallTo.lookV (H := H) (call13 _ hp) (.cons (Vw.int H _ _) .nil)
  · exact CallTo.lookV (H := H) (call24 _ hp) (.cons (Vw.int H _ _) .nil)
  · exact CallTo.lookV (H := H) (call25 _ _ hp) (.cons (Vw.int H _ _) (.cons (Vw.int H _ _) .nil))
  · exact CallTo.lookV (H := H) (call26 _ _ hp) (.cons (Vw.int H _ _) (.cons (Vw.int H _ _) .nil))

end
end Go.Proofs.Vm

namespace Go.Proofs.Vm
open Go.Vm Go.Fl
noncomputable section
-- SCORE
/-- What is short is run where it is called (what the contracts say is not). -/
def tabM (k : Nat) (vf : VF) (f : Nat) : Option VF := match Nat.beq f k with
  | true => some vf
  | false => match f with
    | 12 => some vf12
    | 15 => some vf15
    | 19 => some vf19
    | 29 => some vf29
    | 30 => some vf30
    | 31 => some vf31
    | 32 => some vf32
    | 34 => some vf34
    | 38 => some vf38
    | _ => none
theorem tabM_ok {k : Nat} {vf : VF} (h : FnOK Try.prog k vf) : ∀ f v, tabM k vf f = some v → FnOK Try.prog f v := by
  intro f v e
  unfold tabM at e
  split at e
  · rename_i hb
    have := Nat.eq_of_beq_eq_true hb
    subst this
    cases e
    exact h
  · split at e <;> cases e
    · exact ok12
    · exact ok15
    · exact ok19
    · exact ok29
    · exact ok30
    · exact ok31
    · exact ok32
    · exact ok34
    · exact ok38
theorem tabM_self (k : Nat) (vf : VF) : tabM k vf k = some vf := by unfold tabM; rw [Nat.beq_refl]
/-- The chance of an amount. -/
def ch1 (g ga a c t : Int) : Nat := if 0 < ga then (if a ≤ g then fadd (guB a c) (fmul (fsub oneB (guB a c)) (wtB (ageB t ga))) else guB a c) else guB a c
def ch2 (y : Nat) (b ba a t : Int) : Nat := if 0 < ba then (if b ≤ a then fmul y (fsub oneB (wtB (ageB t ba))) else y) else y
def chB (g ga b ba a c t : Int) : Nat := if a < 0 then 0 else if c < a then 0 else clB (ch2 (ch1 g ga a c t) b ba a t)
/-- A hop's cost. -/
def coB (a d : Int) (x : Nat) : Nat := if a < 0 then Inf else if d < 0 then Inf else if clB x = 0 then Inf else fadd (fadd (fint a.toNat) (fmul (fint d.toNat) 4621819117588971520)) (fdiv 4636737291354636288 (clB x))

theorem vc27 (S : SF) (g ga b ba a c t : Int) (Q : AV → Hl → Prop) :
  (vcall (vcA kdNo (cnS1 S) noLn) ops0 (tabOne 27 vf27) 200 vf27 [.agg [.int .i64 g, .int .i64 ga, .int .i64 b, .int .i64 ba], .int .i64 a, .int .i64 c, .int .i64 t] [] (endN (fun _ => 0) Q)) =
 ((Br (ops0.cmp BinOp.lss a (Int.ofNat 0))
 (Q (AV.flt FloatKind.f64 0) [])
 (Br (ops0.cmp BinOp.lss c a)
 (Q (AV.flt FloatKind.f64 0) [])
 ((c < (Int.ofNat 9223372036854775808)) ∧
 (Br (ops0.cmp BinOp.gtr ga (Int.ofNat 0))
 (Br (ops0.cmp BinOp.leq a g)
 (∃ r : Nat, ((((ops0.fbin BinOp.sub FloatKind.f64 4607182418800017408 (SF.gu S a c)) : (Option Nat)) = (Option.some r)) ∧
 (True ∧
 (((SF.age S t ga) < (Int.ofNat 9223372036854775808)) ∧
 (∃ r1 : Nat, ((((ops0.fbin BinOp.mul FloatKind.f64 r (SF.wt S (SF.age S t ga))) : (Option Nat)) = (Option.some r1)) ∧
 (∃ r2 : Nat, ((((ops0.fbin BinOp.add FloatKind.f64 (SF.gu S a c) r1) : (Option Nat)) = (Option.some r2)) ∧
 (Br (ops0.cmp BinOp.gtr ba (Int.ofNat 0))
 (Br (ops0.cmp BinOp.geq a b)
 (True ∧
 (((SF.age S t ba) < (Int.ofNat 9223372036854775808)) ∧
 (∃ r3 : Nat, ((((ops0.fbin BinOp.sub FloatKind.f64 4607182418800017408 (SF.wt S (SF.age S t ba))) : (Option Nat)) = (Option.some r3)) ∧
 (∃ r4 : Nat, ((((ops0.fbin BinOp.mul FloatKind.f64 r2 r3) : (Option Nat)) = (Option.some r4)) ∧
 (True ∧
 (Q (AV.flt FloatKind.f64 (SF.cl S r4)) []))))))))
 (True ∧
 (Q (AV.flt FloatKind.f64 (SF.cl S r2)) [])))
 (True ∧
 (Q (AV.flt FloatKind.f64 (SF.cl S r2)) [])))))))))))
 (Br (ops0.cmp BinOp.gtr ba (Int.ofNat 0))
 (Br (ops0.cmp BinOp.geq a b)
 (True ∧
 (((SF.age S t ba) < (Int.ofNat 9223372036854775808)) ∧
 (∃ r : Nat, ((((ops0.fbin BinOp.sub FloatKind.f64 4607182418800017408 (SF.wt S (SF.age S t ba))) : (Option Nat)) = (Option.some r)) ∧
 (∃ r1 : Nat, ((((ops0.fbin BinOp.mul FloatKind.f64 (SF.gu S a c) r) : (Option Nat)) = (Option.some r1)) ∧
 (True ∧
 (Q (AV.flt FloatKind.f64 (SF.cl S r1)) []))))))))
 (True ∧
 (Q (AV.flt FloatKind.f64 (SF.cl S (SF.gu S a c))) [])))
 (True ∧
 (Q (AV.flt FloatKind.f64 (SF.cl S (SF.gu S a c))) []))))
 (Br (ops0.cmp BinOp.gtr ba (Int.ofNat 0))
 (Br (ops0.cmp BinOp.geq a b)
 (True ∧
 (((SF.age S t ba) < (Int.ofNat 9223372036854775808)) ∧
 (∃ r : Nat, ((((ops0.fbin BinOp.sub FloatKind.f64 4607182418800017408 (SF.wt S (SF.age S t ba))) : (Option Nat)) = (Option.some r)) ∧
 (∃ r1 : Nat, ((((ops0.fbin BinOp.mul FloatKind.f64 (SF.gu S a c) r) : (Option Nat)) = (Option.some r1)) ∧
 (True ∧
 (Q (AV.flt FloatKind.f64 (SF.cl S r1)) []))))))))
 (True ∧
 (Q (AV.flt FloatKind.f64 (SF.cl S (SF.gu S a c))) [])))
 (True ∧
 (Q (AV.flt FloatKind.f64 (SF.cl S (SF.gu S a c))) [])))))))) := by kernel_rfl

theorem vc28 (S : SF) (g ga b ba a c t : Int) (Q : AV → Hl → Prop) :
  (vcall (vcA kdNo (cnS1 S) noLn) ops0 (tabOne 28 vf28) 200 vf28 [.agg [.int .i64 g, .int .i64 ga, .int .i64 b, .int .i64 ba], .int .i64 a, .int .i64 c, .int .i64 t] [] (endN (fun _ => 0) Q)) =
 ((Br (ops0.cmp BinOp.lss a (Int.ofNat 0))
 (Q (AV.flt FloatKind.f64 0) [])
 (Br (ops0.cmp BinOp.lss c a)
 (Q (AV.flt FloatKind.f64 0) [])
 ((c < (Int.ofNat 9223372036854775808)) ∧
 (Br (ops0.cmp BinOp.gtr ga (Int.ofNat 0))
 (Br (ops0.cmp BinOp.leq a g)
 (True ∧
 (((SF.age S t ga) < (Int.ofNat 9223372036854775808)) ∧
 (∃ r : Nat, ((((ops0.fbin BinOp.sub FloatKind.f64 4607182418800017408 (SF.gu S a c)) : (Option Nat)) = (Option.some r)) ∧
 (∃ r1 : Nat, ((((ops0.fbin BinOp.mul FloatKind.f64 r (SF.wt S (SF.age S t ga))) : (Option Nat)) = (Option.some r1)) ∧
 (∃ r2 : Nat, ((((ops0.fbin BinOp.add FloatKind.f64 (SF.gu S a c) r1) : (Option Nat)) = (Option.some r2)) ∧
 (Br (ops0.cmp BinOp.gtr ba (Int.ofNat 0))
 (Br (ops0.cmp BinOp.geq a b)
 (True ∧
 (((SF.age S t ba) < (Int.ofNat 9223372036854775808)) ∧
 (∃ r3 : Nat, ((((ops0.fbin BinOp.sub FloatKind.f64 4607182418800017408 (SF.wt S (SF.age S t ba))) : (Option Nat)) = (Option.some r3)) ∧
 (∃ r4 : Nat, ((((ops0.fbin BinOp.mul FloatKind.f64 r2 r3) : (Option Nat)) = (Option.some r4)) ∧
 (True ∧
 (Q (AV.flt FloatKind.f64 (SF.cl S r4)) []))))))))
 (True ∧
 (Q (AV.flt FloatKind.f64 (SF.cl S r2)) [])))
 (True ∧
 (Q (AV.flt FloatKind.f64 (SF.cl S r2)) [])))))))))))
 (Br (ops0.cmp BinOp.gtr ba (Int.ofNat 0))
 (Br (ops0.cmp BinOp.geq a b)
 (True ∧
 (((SF.age S t ba) < (Int.ofNat 9223372036854775808)) ∧
 (∃ r : Nat, ((((ops0.fbin BinOp.sub FloatKind.f64 4607182418800017408 (SF.wt S (SF.age S t ba))) : (Option Nat)) = (Option.some r)) ∧
 (∃ r1 : Nat, ((((ops0.fbin BinOp.mul FloatKind.f64 (SF.gu S a c) r) : (Option Nat)) = (Option.some r1)) ∧
 (True ∧
 (Q (AV.flt FloatKind.f64 (SF.cl S r1)) []))))))))
 (True ∧
 (Q (AV.flt FloatKind.f64 (SF.cl S (SF.gu S a c))) [])))
 (True ∧
 (Q (AV.flt FloatKind.f64 (SF.cl S (SF.gu S a c))) []))))
 (Br (ops0.cmp BinOp.gtr ba (Int.ofNat 0))
 (Br (ops0.cmp BinOp.geq a b)
 (True ∧
 (((SF.age S t ba) < (Int.ofNat 9223372036854775808)) ∧
 (∃ r : Nat, ((((ops0.fbin BinOp.sub FloatKind.f64 4607182418800017408 (SF.wt S (SF.age S t ba))) : (Option Nat)) = (Option.some r)) ∧
 (∃ r1 : Nat, ((((ops0.fbin BinOp.mul FloatKind.f64 (SF.gu S a c) r) : (Option Nat)) = (Option.some r1)) ∧
 (True ∧
 (Q (AV.flt FloatKind.f64 (SF.cl S r1)) []))))))))
 (True ∧
 (Q (AV.flt FloatKind.f64 (SF.cl S (SF.gu S a c))) [])))
 (True ∧
 (Q (AV.flt FloatKind.f64 (SF.cl S (SF.gu S a c))) [])))))))) := by kernel_rfl

theorem vc14 (S : SF) (a d : Int) (x : Nat) (Q : AV → Hl → Prop) :
  (vcall (vcA kdNo (cnS1 S) noLn) ops0 (tabM 14 vf14) 200 vf14 [.int .i64 a, .int .i64 d, .flt .f64 x] [] (endN (fun _ => 0) Q)) =
 ((True ∧
 (Br (ops0.cmp BinOp.lss a (Int.ofNat 0))
 (Q (AV.flt FloatKind.f64 9218868437227405312) [])
 (Br (ops0.cmp BinOp.lss d (Int.ofNat 0))
 (Q (AV.flt FloatKind.f64 9218868437227405312) [])
 (Br (ops0.fcmp BinOp.eql FloatKind.f64 (SF.cl S x) 0)
 (Q (AV.flt FloatKind.f64 9218868437227405312) [])
 (∃ r : Nat, ((((ops0.fbin BinOp.mul FloatKind.f64 (ops0.i2f FloatKind.f64 d) 4621819117588971520) : (Option Nat)) = (Option.some r)) ∧
 (∃ r1 : Nat, ((((ops0.fbin BinOp.add FloatKind.f64 (ops0.i2f FloatKind.f64 a) r) : (Option Nat)) = (Option.some r1)) ∧
 (∃ r2 : Nat, ((((ops0.fbin BinOp.quo FloatKind.f64 4636737291354636288 (SF.cl S x)) : (Option Nat)) = (Option.some r2)) ∧
 (∃ r3 : Nat, ((((ops0.fbin BinOp.add FloatKind.f64 r1 r2) : (Option Nat)) = (Option.some r3)) ∧
 (Q (AV.flt FloatKind.f64 r3) [])))))))))))))) := by kernel_rfl

theorem vc16 (S : SF) (a d : Int) (x : Nat) (Q : AV → Hl → Prop) :
  (vcall (vcA kdNo (cnS1 S) noLn) ops0 (tabM 16 vf16) 200 vf16 [.int .i64 a, .int .i64 d, .flt .f64 x] [] (endN (fun _ => 0) Q)) =
 ((True ∧
 (Br (ops0.cmp BinOp.lss a (Int.ofNat 0))
 (Q (AV.flt FloatKind.f64 9218868437227405312) [])
 (Br (ops0.cmp BinOp.lss d (Int.ofNat 0))
 (Q (AV.flt FloatKind.f64 9218868437227405312) [])
 (Br (ops0.fcmp BinOp.eql FloatKind.f64 (SF.cl S x) 0)
 (Q (AV.flt FloatKind.f64 9218868437227405312) [])
 (∃ r : Nat, ((((ops0.fbin BinOp.mul FloatKind.f64 (ops0.i2f FloatKind.f64 d) 4621819117588971520) : (Option Nat)) = (Option.some r)) ∧
 (∃ r1 : Nat, ((((ops0.fbin BinOp.quo FloatKind.f64 4636737291354636288 (SF.cl S x)) : (Option Nat)) = (Option.some r1)) ∧
 (∃ r2 : Nat, ((((ops0.fbin BinOp.add FloatKind.f64 (ops0.i2f FloatKind.f64 a) r) : (Option Nat)) = (Option.some r2)) ∧
 (∃ r3 : Nat, ((((ops0.fbin BinOp.add FloatKind.f64 r2 r1) : (Option Nat)) = (Option.some r3)) ∧
 (Q (AV.flt FloatKind.f64 r3) [])))))))))))))) := by kernel_rfl

theorem wt_le (a : Int) : wtB a ≤ oneB := by
  unfold wtB
  split
  · exact Nat.le_refl _
  · split
    · exact Nat.zero_le _
    · have : oneB = 4607182418800017408 := rfl
      omega
theorem gu_le {a c : Int} (hc : c < 9223372036854775808) : guB a c ≤ oneB := by
  unfold guB
  split
  · exact Nat.zero_le _
  · split
    · exact Nat.zero_le _
    · have h2 : fadd (fint c.toNat) oneB < Inf := by
        have := fadd_fin (n := c.toNat) (by omega)
        rw [Inf_val]; omega
      have h4 : 0 < fadd (fint c.toNat) oneB := by
        have := fadd_ge' (x := fint c.toNat) (y := oneB) (Nat.le_of_lt inf_big)
        have : 0 < oneB := by decide
        omega
      exact fdiv_le_one (Nat.le_of_lt h2) h4 (fsub_le (Nat.le_of_lt h2))
theorem age_lt (t n : Int) : ageB t n < 9223372036854775808 := by
  unfold ageB
  split
  · decide
  · split
    · decide
    · show IntKind.i64.wrap (t - n) < _
      have h := (wrap_within .i64 (t - n)).2
      have e : IntKind.i64.max = 9223372036854775807 := by decide
      omega
theorem two_inf : 4611686018427387904 < Inf := by rw [Inf_val]; decide
theorem ch1_le {g ga a c t : Int} (hc : c < 9223372036854775808) : ch1 g ga a c t ≤ 4611686018427387904 := by
  have h := gu_le (a := a) hc
  have h1 : oneB ≤ 4611686018427387904 := by decide
  unfold ch1
  split
  · split
    · exact fadd_small h (fmul_le_one (fsub_le (Nat.le_of_lt inf_big)) (wt_le _))
    · omega
  · omega

theorem chance_wp (g ga b ba a c t : Int) (hc : c < 9223372036854775808) {Q : AV → Hl → Prop} (hQ : Q (.flt .f64 (chB g ga b ba a c t)) []) :
    vcall (vcA kdNo (cnS1 sf0) noLn) ops0 (tabOne 27 vf27) 200 vf27 [.agg [.int .i64 g, .int .i64 ga, .int .i64 b, .int .i64 ba], .int .i64 a, .int .i64 c, .int .i64 t] [] (endN (fun _ => 0) Q) := by
  have hg := gu_le (a := a) hc
  have i1 := Nat.le_of_lt inf_big
  have sub1 : ∀ x, x ≤ oneB → ops0.fbin .sub .f64 4607182418800017408 x = some (fsub oneB x) := fun x hx => o_sub inf_big hx
  have sle : ∀ x, fsub oneB x ≤ oneB := fun x => fsub_le i1
  have fin2 : ∀ y, y ≤ 4611686018427387904 → y < Inf := fun y hy => Nat.lt_of_le_of_lt hy two_inf
  have fin1 : ∀ y, y ≤ oneB → y < Inf := fun y hy => Nat.lt_of_le_of_lt hy inf_big
  have last : ∀ y, y < Inf → (0 ≤ a → a ≤ c → Q (.flt .f64 (clB (ch2 y b ba a t))) []) → 0 ≤ a → a ≤ c →
      Br (ops0.cmp .gtr ba (Int.ofNat 0)) (Br (ops0.cmp .geq a b) (True ∧ (SF.age sf0 t ba < Int.ofNat 9223372036854775808 ∧ ∃ r3 : Nat, ops0.fbin .sub .f64 4607182418800017408 (SF.wt sf0 (SF.age sf0 t ba)) = some r3 ∧
        ∃ r4 : Nat, ops0.fbin .mul .f64 y r3 = some r4 ∧ (True ∧ Q (.flt .f64 (SF.cl sf0 r4)) []))) (True ∧ Q (.flt .f64 (SF.cl sf0 y)) [])) (True ∧ Q (.flt .f64 (SF.cl sf0 y)) []) := by
    intro y hy h h0 h1
    have h := h h0 h1
    unfold ch2 at h
    rw [iGtr, iGeq]
    refine Br.mk (fun e => ?_) (fun e => ?_)
    · rw [if_pos (show 0 < ba from of_decide_eq_true e)] at h
      refine Br.mk (fun e1 => ?_) (fun e1 => ?_)
      · rw [if_pos (show b ≤ a from of_decide_eq_true e1)] at h
        exact ⟨trivial, age_lt _ _, _, sub1 _ (wt_le _), _, o_mul hy (fin1 _ (sle _)), trivial, h⟩
      · rw [if_neg (show ¬ b ≤ a from of_decide_eq_false e1)] at h
        exact ⟨trivial, h⟩
    · rw [if_neg (show ¬ 0 < ba from of_decide_eq_false e)] at h
      exact ⟨trivial, h⟩
  unfold chB at hQ
  rw [vc27, iLss, iLss]
  refine Br.mk (fun h => ?_) (fun h => ?_)
  · rw [if_pos (show a < 0 from of_decide_eq_true h)] at hQ; exact hQ
  · have h : ¬ a < 0 := of_decide_eq_false h
    rw [if_neg h] at hQ
    refine Br.mk (fun h1 => ?_) (fun h1 => ?_)
    · rw [if_pos (show c < a from of_decide_eq_true h1)] at hQ; exact hQ
    · have h1 : ¬ c < a := of_decide_eq_false h1
      rw [if_neg h1] at hQ
      refine ⟨hc, ?_⟩
      rw [iGtr, iLeq]
      have hy := ch1_le (g := g) (ga := ga) (a := a) (c := c) (t := t) hc
      unfold ch1 at hQ hy
      refine Br.mk (fun e => ?_) (fun e => ?_)
      · rw [if_pos (show 0 < ga from of_decide_eq_true e)] at hQ hy
        refine Br.mk (fun e1 => ?_) (fun e1 => ?_)
        · rw [if_pos (show a ≤ g from of_decide_eq_true e1)] at hQ hy
          exact ⟨_, sub1 _ hg, trivial, age_lt _ _, _, o_mul (fin1 _ (sle _)) (fin1 _ (wt_le _)), _, o_add (Nat.le_of_lt (fin1 _ hg)) (Nat.le_of_lt (fin1 _ (fmul_le_one (sle _) (wt_le _)))), last _ (fin2 _ hy) (fun _ _ => hQ) (by omega) (by omega)⟩
        · rw [if_neg (show ¬ a ≤ g from of_decide_eq_false e1)] at hQ
          exact last _ (fin1 _ hg) (fun _ _ => hQ) (by omega) (by omega)
      · rw [if_neg (show ¬ 0 < ga from of_decide_eq_false e)] at hQ
        exact last _ (fin1 _ hg) (fun _ _ => hQ) (by omega) (by omega)

theorem chance28_wp (g ga b ba a c t : Int) (hc : c < 9223372036854775808) {Q : AV → Hl → Prop} (hQ : Q (.flt .f64 (chB g ga b ba a c t)) []) :
    vcall (vcA kdNo (cnS1 sf0) noLn) ops0 (tabOne 28 vf28) 200 vf28 [.agg [.int .i64 g, .int .i64 ga, .int .i64 b, .int .i64 ba], .int .i64 a, .int .i64 c, .int .i64 t] [] (endN (fun _ => 0) Q) := by
  have hg := gu_le (a := a) hc
  have i1 := Nat.le_of_lt inf_big
  have sub1 : ∀ x, x ≤ oneB → ops0.fbin .sub .f64 4607182418800017408 x = some (fsub oneB x) := fun x hx => o_sub inf_big hx
  have sle : ∀ x, fsub oneB x ≤ oneB := fun x => fsub_le i1
  have fin2 : ∀ y, y ≤ 4611686018427387904 → y < Inf := fun y hy => Nat.lt_of_le_of_lt hy two_inf
  have fin1 : ∀ y, y ≤ oneB → y < Inf := fun y hy => Nat.lt_of_le_of_lt hy inf_big
  have last : ∀ y, y < Inf → (0 ≤ a → a ≤ c → Q (.flt .f64 (clB (ch2 y b ba a t))) []) → 0 ≤ a → a ≤ c →
      Br (ops0.cmp .gtr ba (Int.ofNat 0)) (Br (ops0.cmp .geq a b) (True ∧ (SF.age sf0 t ba < Int.ofNat 9223372036854775808 ∧ ∃ r3 : Nat, ops0.fbin .sub .f64 4607182418800017408 (SF.wt sf0 (SF.age sf0 t ba)) = some r3 ∧
        ∃ r4 : Nat, ops0.fbin .mul .f64 y r3 = some r4 ∧ (True ∧ Q (.flt .f64 (SF.cl sf0 r4)) []))) (True ∧ Q (.flt .f64 (SF.cl sf0 y)) [])) (True ∧ Q (.flt .f64 (SF.cl sf0 y)) []) := by
    intro y hy h h0 h1
    have h := h h0 h1
    unfold ch2 at h
    rw [iGtr, iGeq]
    refine Br.mk (fun e => ?_) (fun e => ?_)
    · rw [if_pos (show 0 < ba from of_decide_eq_true e)] at h
      refine Br.mk (fun e1 => ?_) (fun e1 => ?_)
      · rw [if_pos (show b ≤ a from of_decide_eq_true e1)] at h
        exact ⟨trivial, age_lt _ _, _, sub1 _ (wt_le _), _, o_mul hy (fin1 _ (sle _)), trivial, h⟩
      · rw [if_neg (show ¬ b ≤ a from of_decide_eq_false e1)] at h
        exact ⟨trivial, h⟩
    · rw [if_neg (show ¬ 0 < ba from of_decide_eq_false e)] at h
      exact ⟨trivial, h⟩
  unfold chB at hQ
  rw [vc28, iLss, iLss]
  refine Br.mk (fun h => ?_) (fun h => ?_)
  · rw [if_pos (show a < 0 from of_decide_eq_true h)] at hQ; exact hQ
  · have h : ¬ a < 0 := of_decide_eq_false h
    rw [if_neg h] at hQ
    refine Br.mk (fun h1 => ?_) (fun h1 => ?_)
    · rw [if_pos (show c < a from of_decide_eq_true h1)] at hQ; exact hQ
    · have h1 : ¬ c < a := of_decide_eq_false h1
      rw [if_neg h1] at hQ
      refine ⟨hc, ?_⟩
      rw [iGtr, iLeq]
      have hy := ch1_le (g := g) (ga := ga) (a := a) (c := c) (t := t) hc
      unfold ch1 at hQ hy
      refine Br.mk (fun e => ?_) (fun e => ?_)
      · rw [if_pos (show 0 < ga from of_decide_eq_true e)] at hQ hy
        refine Br.mk (fun e1 => ?_) (fun e1 => ?_)
        · rw [if_pos (show a ≤ g from of_decide_eq_true e1)] at hQ hy
          exact ⟨trivial, age_lt _ _, _, sub1 _ hg, _, o_mul (fin1 _ (sle _)) (fin1 _ (wt_le _)), _, o_add (Nat.le_of_lt (fin1 _ hg)) (Nat.le_of_lt (fin1 _ (fmul_le_one (sle _) (wt_le _)))), last _ (fin2 _ hy) (fun _ _ => hQ) (by omega) (by omega)⟩
        · rw [if_neg (show ¬ a ≤ g from of_decide_eq_false e1)] at hQ
          exact last _ (fin1 _ hg) (fun _ _ => hQ) (by omega) (by omega)
      · rw [if_neg (show ¬ 0 < ga from of_decide_eq_false e)] at hQ
        exact last _ (fin1 _ hg) (fun _ _ => hQ) (by omega) (by omega)

theorem call27 (g ga b ba a c t : Int) (hc : c < 9223372036854775808) : CallTo Try.prog 27 [.agg [.int .i64 g, .int .i64 ga, .int .i64 b, .int .i64 ba], .int .i64 a, .int .i64 c, .int .i64 t] [] (.flt .f64 (chB g ga b ba a c t)) [] [] :=
  call_0 cnS1_ok (noLn_ok _) (tabOne_ok ok27) (tabOne_self 27 vf27) (n := 200) (g := kdNo) (chance_wp g ga b ba a c t hc ⟨rfl, rfl⟩) rfl
theorem call28 (g ga b ba a c t : Int) (hc : c < 9223372036854775808) : CallTo Try.prog 28 [.agg [.int .i64 g, .int .i64 ga, .int .i64 b, .int .i64 ba], .int .i64 a, .int .i64 c, .int .i64 t] [] (.flt .f64 (chB g ga b ba a c t)) [] [] :=
  call_0 cnS1_ok (noLn_ok _) (tabOne_ok ok28) (tabOne_self 28 vf28) (n := 200) (g := kdNo) (chance28_wp g ga b ba a c t hc ⟨rfl, rfl⟩) rfl

/-! ### Costs -/
theorem cl_le {x : Nat} (hx : x < 18446744073709551616) : clB x ≤ oneB := by
  unfold clB
  split
  · exact Nat.zero_le _
  · split
    · exact Nat.zero_le _
    · split
      · exact Nat.le_refl _
      · rename_i h1 h2 h3
        unfold key at h2 h3
        have hs : sgn x = false := by
          cases hs : sgn x with
          | false => rfl
          | true => exfalso; rw [hs, if_pos rfl] at h2; omega
        rw [hs] at h3
        simp only [Bool.false_eq_true, if_false, Int.ofNat_eq_natCast] at h3
        unfold sgn at hs
        rw [Wt_val] at hs h3
        have hs : ¬ x / 9223372036854775808 % 2 = 1 := by simpa using hs
        omega
theorem ten_inf : 4621819117588971520 < Inf := by rw [Inf_val]; decide
theorem hun_inf : 4636737291354636288 < Inf := by rw [Inf_val]; decide
theorem fees_steps {d : Nat} (hd : d < 9223372036854775808) : ops0.fbin .mul .f64 (ops0.i2f .f64 (Int.ofNat d)) 4621819117588971520 = some (fmul (fint d) 4621819117588971520) := by
  rw [o_int]
  exact o_mul (fint_lt (by omega)) ten_inf
theorem call14 (a d : Int) {x : Nat} (ha : a < 9223372036854775808) (hd : d < 9223372036854775808) (hx : x < 18446744073709551616) : CallTo Try.prog 14 [.int .i64 a, .int .i64 d, .flt .f64 x] [] (.flt .f64 (coB a d x)) [] [] := by
  refine call_0 cnS1_ok (noLn_ok _) (tabM_ok ok14) (tabM_self 14 vf14) (n := 200) (g := kdNo) ?_ rfl
  have hcl := cl_le hx
  have hI : ∀ {R : Prop}, R → R ∧ ([] : Hl) = [] := fun h => ⟨h, rfl⟩
  unfold coB
  rw [vc14, iLss, iLss]
  refine ⟨trivial, Br.mk (fun h => ?_) (fun h => ?_)⟩
  · rw [if_pos (show a < 0 from of_decide_eq_true h), Inf_val]; exact ⟨rfl, rfl⟩
  · have h : ¬ a < 0 := of_decide_eq_false h
    rw [if_neg h]
    refine Br.mk (fun h1 => ?_) (fun h1 => ?_)
    · rw [if_pos (show d < 0 from of_decide_eq_true h1), Inf_val]; exact ⟨rfl, rfl⟩
    · have h1 : ¬ d < 0 := of_decide_eq_false h1
      rw [if_neg h1]
      have e0 : ops0.fcmp .eql .f64 (SF.cl sf0 x) 0 = decide (clB x = 0) := by
        show ops0.fcmp .eql .f64 (clB x) 0 = _
        rw [fcmp_small rfl (Nat.le_trans hcl (Nat.le_of_lt inf_big)) (Nat.zero_le _), nEql]
      rw [e0]
      refine Br.mk (fun h2 => ?_) (fun h2 => ?_)
      · rw [if_pos (show clB x = 0 from of_decide_eq_true h2), Inf_val]; exact ⟨rfl, rfl⟩
      · have h2 : ¬ clB x = 0 := of_decide_eq_false h2
        rw [if_neg h2]
        obtain ⟨m, rfl⟩ : ∃ m : Nat, a = Int.ofNat m := ⟨a.toNat, (Int.toNat_of_nonneg (by omega)).symm⟩
        obtain ⟨k, rfl⟩ : ∃ k : Nat, d = Int.ofNat k := ⟨d.toNat, (Int.toNat_of_nonneg (by omega)).symm⟩
        simp only [Int.ofNat_eq_natCast] at ha hd
        rw [o_int m]
        exact ⟨_, fees_steps (by omega), _, o_add (Nat.le_of_lt (fint_lt (by omega))) (nearQ_le_inf _ _), _, o_div hun_inf (Nat.lt_of_le_of_lt hcl inf_big) (Nat.pos_of_ne_zero h2), _, o_add (nearQ_le_inf _ _) (nearQ_le_inf _ _), rfl, rfl⟩
theorem call16 (a d : Int) {x : Nat} (ha : a < 9223372036854775808) (hd : d < 9223372036854775808) (hx : x < 18446744073709551616) : CallTo Try.prog 16 [.int .i64 a, .int .i64 d, .flt .f64 x] [] (.flt .f64 (coB a d x)) [] [] := by
  refine call_0 cnS1_ok (noLn_ok _) (tabM_ok ok16) (tabM_self 16 vf16) (n := 200) (g := kdNo) ?_ rfl
  have hcl := cl_le hx
  unfold coB
  rw [vc16, iLss, iLss]
  refine ⟨trivial, Br.mk (fun h => ?_) (fun h => ?_)⟩
  · rw [if_pos (show a < 0 from of_decide_eq_true h), Inf_val]; exact ⟨rfl, rfl⟩
  · have h : ¬ a < 0 := of_decide_eq_false h
    rw [if_neg h]
    refine Br.mk (fun h1 => ?_) (fun h1 => ?_)
    · rw [if_pos (show d < 0 from of_decide_eq_true h1), Inf_val]; exact ⟨rfl, rfl⟩
    · have h1 : ¬ d < 0 := of_decide_eq_false h1
      rw [if_neg h1]
      have e0 : ops0.fcmp .eql .f64 (SF.cl sf0 x) 0 = decide (clB x = 0) := by
        show ops0.fcmp .eql .f64 (clB x) 0 = _
        rw [fcmp_small rfl (Nat.le_trans hcl (Nat.le_of_lt inf_big)) (Nat.zero_le _), nEql]
      rw [e0]
      refine Br.mk (fun h2 => ?_) (fun h2 => ?_)
      · rw [if_pos (show clB x = 0 from of_decide_eq_true h2), Inf_val]; exact ⟨rfl, rfl⟩
      · have h2 : ¬ clB x = 0 := of_decide_eq_false h2
        rw [if_neg h2]
        obtain ⟨m, rfl⟩ : ∃ m : Nat, a = Int.ofNat m := ⟨a.toNat, (Int.toNat_of_nonneg (by omega)).symm⟩
        obtain ⟨k, rfl⟩ : ∃ k : Nat, d = Int.ofNat k := ⟨d.toNat, (Int.toNat_of_nonneg (by omega)).symm⟩
        simp only [Int.ofNat_eq_natCast] at ha hd
        rw [o_int m]
        exact ⟨_, fees_steps (by omega), _, o_div hun_inf (Nat.lt_of_le_of_lt hcl inf_big) (Nat.pos_of_ne_zero h2), _, o_add (Nat.le_of_lt (fint_lt (by omega))) (nearQ_le_inf _ _), _, o_add (nearQ_le_inf _ _) (nearQ_le_inf _ _), rfl, rfl⟩
end
end Go.Proofs.Vm

namespace Go.Fl
open Go.Vm
/-- What a sum has no end with. -/
def badF (x : Nat) : Bool := decide (Inf < x % Wt) || (decide (key x < 0) || decide (9218868437227405311 < key x))
def fad (s x : Nat) : Nat := fadd s (x % Wt)
def sumF (l : List Nat) : Nat := l.foldl fad 0
def joF (l : List Nat) : Nat := if l.any badF = true then Inf else sumF l

theorem fad_le (s x : Nat) : fad s x ≤ Inf := nearQ_le_inf _ _
theorem good_cases {x : Nat} (hx : x < 18446744073709551616) (h : badF x = false) : (x < Inf ∧ x % Wt = x) ∨ (x = Wt ∧ x % Wt = 0) := by
  unfold badF at h
  simp only [Bool.or_eq_false_iff, decide_eq_false_iff_not] at h
  obtain ⟨_, h2, h3⟩ := h
  unfold key at h2 h3
  rw [Wt_val, Inf_val]
  rw [Wt_val] at h2 h3
  cases hs : sgn x with
  | false =>
    rw [hs] at h2 h3
    simp only [Bool.false_eq_true, if_false] at h2 h3
    unfold sgn at hs
    rw [Wt_val] at hs
    have hs : ¬ x / 9223372036854775808 % 2 = 1 := by simpa using hs
    left
    omega
  | true =>
    rw [hs] at h2 h3
    simp only [if_true] at h2 h3
    unfold sgn at hs
    rw [Wt_val] at hs
    have hs : x / 9223372036854775808 % 2 = 1 := by simpa using hs
    right
    omega
theorem o_fad {s x : Nat} (hs : s ≤ Inf) (hx : x < 18446744073709551616) (h : badF x = false) : ops0.fbin .add .f64 s x = some (fad s x) := by
  unfold fad
  rcases good_cases hx h with ⟨h1, h2⟩ | ⟨h1, h2⟩
  · rw [h2]; exact o_add hs (Nat.le_of_lt h1)
  · rw [h2, h1]
    rcases Nat.lt_or_eq_of_le hs with h3 | h3
    · have := add_neg0 h3
      unfold fadd
      rw [val_zero, Nat.add_zero]
      exact this
    · rw [h3, fadd_zero (Nat.le_refl _), Inf_val, Wt_val]
      decide +kernel
theorem first_bad : ∀ (l : List Nat), ∃ d, d ≤ l.length ∧ (∀ j x, j < d → l[j]? = some x → badF x = false) ∧ ((d = l.length ∧ l.any badF = false) ∨ (∃ x, l[d]? = some x ∧ badF x = true ∧ l.any badF = true))
  | [] => ⟨0, Nat.le_refl _, fun j x h => by omega, Or.inl ⟨rfl, rfl⟩⟩
  | y :: l => by
    cases hy : badF y with
    | true => exact ⟨0, Nat.zero_le _, fun j x h => by omega, Or.inr ⟨y, rfl, hy, by rw [List.any_cons, hy]; rfl⟩⟩
    | false =>
      obtain ⟨d, h1, h2, h3⟩ := first_bad l
      refine ⟨d + 1, by simp; omega, fun j x h hj => ?_, ?_⟩
      · cases j with
        | zero => cases hj; exact hy
        | succ j => exact h2 j x (by omega) hj
      · rcases h3 with ⟨h3, h4⟩ | ⟨x, h3, h4, h5⟩
        · exact Or.inl ⟨by simp; omega, by rw [List.any_cons, hy, h4]; rfl⟩
        · exact Or.inr ⟨x, h3, h4, by rw [List.any_cons, hy, h5]; rfl⟩
theorem sumF_succ {l : List Nat} {i x : Nat} (h : l[i]? = some x) : sumF (l.take (i + 1)) = fad (sumF (l.take i)) x := by
  unfold sumF
  rw [List.take_add_one, h, List.foldl_append, Option.toList_some, List.foldl_cons, List.foldl_nil]
theorem sumF_le (l : List Nat) : sumF l ≤ Inf := by
  unfold sumF
  rcases List.eq_nil_or_concat l with h | ⟨l', x, h⟩
  · rw [h, List.foldl_nil]; exact Nat.zero_le _
  · subst h
    rw [List.concat_eq_append, List.foldl_append, List.foldl_cons, List.foldl_nil]
    exact fad_le _ _
theorem sum_ge : ∀ (l : List Nat) (s : Nat), s ≤ Inf → (∀ x, x ∈ l → x % Wt ≤ Inf) → s ≤ l.foldl fad s ∧ ∀ x, x ∈ l → x % Wt ≤ l.foldl fad s
  | [], s, _, _ => ⟨Nat.le_refl _, fun x hx => by cases hx⟩
  | y :: l, s, hs, h => by
    obtain ⟨h1, h2⟩ := sum_ge l (fad s y) (fad_le _ _) fun x hx => h x (List.mem_cons_of_mem _ hx)
    have hy := h y List.mem_cons_self
    have g1 : s ≤ fad s y := fadd_ge hs
    have g2 : y % Wt ≤ fad s y := fadd_ge' hy
    rw [List.foldl_cons]
    refine ⟨Nat.le_trans g1 h1, fun x hx => ?_⟩
    rcases List.mem_cons.1 hx with e | e
    · rw [e]; exact Nat.le_trans g2 h1
    · exact h2 x e
theorem joF_le (l : List Nat) : joF l ≤ Inf := by
  unfold joF
  split
  · exact Nat.le_refl _
  · exact sumF_le _
theorem key_le (x : Nat) : key x ≤ (x % Wt : Nat) := by
  unfold key
  split <;> omega
theorem joF_ge {l : List Nat} {x : Nat} (hx : x ∈ l) (h : x % Wt ≤ Inf) : key x ≤ (joF l : Nat) := by
  have hk := key_le x
  unfold joF
  split
  · omega
  · rename_i hb
    have hb : l.any badF = false := by
      cases hc : l.any badF with
      | true => exact absurd hc hb
      | false => rfl
    have hall : ∀ y, y ∈ l → y % Wt ≤ Inf := by
      intro y hy
      rw [List.any_eq_false] at hb
      have := hb y hy
      unfold badF at this
      simp only [Bool.or_eq_true, decide_eq_true_eq, not_or] at this
      omega
    have := (sum_ge l 0 (Nat.zero_le _) hall).2 x hx
    unfold sumF
    omega
theorem joF_bad {l : List Nat} {x : Nat} (hx : x ∈ l) (h : badF x = true) : joF l = Inf := by
  unfold joF
  rw [if_pos (List.any_eq_true.2 ⟨x, hx, h⟩)]
end Go.Fl
