/-
  MADE BY PROGRAM (table.py): the machine's code of these functions, and that it is theirs.
-/
import Derived.Test.YtfmhlogapbpnbaaDoorYeac
import Derived.Test.YtfmhlogapbpnbaaDoorProg
import Derived.KernelRfl
set_option linter.unusedVariables false
set_option linter.unusedSimpArgs false
set_option linter.unusedSectionVars false

namespace Go.Proofs.Vm
set_option maxRecDepth 100000
open Go.Vm
noncomputable section
noncomputable def vf33:VF:=⟨19,[(.cell 2 32)],compile Tryd.prog (Tryd.f33.body.getD .skip)⟩
theorem ok33:FnOK Tryd.prog 33 vf33 := .of Tryd.func33 (by kernel_rfl) (by kernel_rfl)
noncomputable def vf27:VF:=⟨13,[(.cell 2 32)],compile Tryd.prog (Tryd.f27.body.getD .skip)⟩
theorem ok27:FnOK Tryd.prog 27 vf27 := .of Tryd.func27 (by kernel_rfl) (by kernel_rfl)
noncomputable def vf48:VF:=⟨23,[(.tmp 4)],compile Tryd.prog (Tryd.f48.body.getD .skip)⟩
theorem ok48:FnOK Tryd.prog 48 vf48 := .of Tryd.func48 (by kernel_rfl) (by kernel_rfl)
noncomputable def vf21:VF:=⟨14,[(.tmp 4)],compile Tryd.prog (Tryd.f21.body.getD .skip)⟩
theorem ok21:FnOK Tryd.prog 21 vf21 := .of Tryd.func21 (by kernel_rfl) (by kernel_rfl)
noncomputable def vf46:VF:=⟨109,[(.tmp 8)],compile Tryd.prog (Tryd.f46.body.getD .skip)⟩
theorem ok46:FnOK Tryd.prog 46 vf46 := .of Tryd.func46 (by kernel_rfl) (by kernel_rfl)
noncomputable def vf49:VF:=⟨19,[(.tmp 2)],compile Tryd.prog (Tryd.f49.body.getD .skip)⟩
theorem ok49:FnOK Tryd.prog 49 vf49 := .of Tryd.func49 (by kernel_rfl) (by kernel_rfl)
noncomputable def vf50:VF:=⟨65,[],compile Tryd.prog (Tryd.f50.body.getD .skip)⟩
theorem ok50:FnOK Tryd.prog 50 vf50 := .of Tryd.func50 (by kernel_rfl) (by kernel_rfl)
noncomputable def vf51:VF:=⟨50,[],compile Tryd.prog (Tryd.f51.body.getD .skip)⟩
theorem ok51:FnOK Tryd.prog 51 vf51 := .of Tryd.func51 (by kernel_rfl) (by kernel_rfl)
def vf68:VF:=⟨26,[],(.seq (.seq (.reg .false [] [⟨(.some 4),.none,.mov,[(.t 0)]⟩,⟨(.some 5),.none,.nilc,[(.t 4)]⟩,⟨(.some 6),.none,(.fld 75),[(.t 5)]⟩,⟨(.some 7),.none,(.ldn 24),[(.t 6)]⟩,⟨(.some 8),.none,.mov,[(.c (.int .i64 (.ofNat 0)))]⟩]) (.block 0 (.loop (.seq (.reg .false [] [⟨(.some 9),.none,(.cmp .lss),[(.t 8),(.c (.int .i64 (.ofNat 24)))]⟩]) (.seq (.cond (.t 9) .skip (.exit 0)) (.seq (.block 1 (.seq (.reg .false [] [⟨(.some 10),.none,(.ixV 24 (.int .u64)),[(.t 7),(.t 8)]⟩,⟨(.some 3),.none,.mov,[(.t 10)]⟩]) (.reg .true [0,1,3,0,8,24,0,64,192,0,1023] [⟨(.some 11),.none,.mov,[(.t 0)]⟩,⟨(.some 12),.none,.nilc,[(.t 11)]⟩,⟨(.some 13),.none,(.fld 0),[(.t 12)]⟩,⟨(.some 14),.none,.mov,[(.t 0)]⟩,⟨(.some 15),.none,.nilc,[(.t 14)]⟩,⟨(.some 16),.none,(.fld 25),[(.t 15)]⟩,⟨(.some 17),.none,.mov,[(.t 0)]⟩,⟨(.some 18),.none,.nilc,[(.t 17)]⟩,⟨(.some 19),.none,(.fld 50),[(.t 18)]⟩,⟨(.some 20),.none,.mov,[(.t 3)]⟩,⟨(.some 21),.none,(.call 74),[(.t 13),(.t 16),(.t 19),(.t 20)]⟩]))) (.reg .false [] [⟨(.some 22),.none,(.bin .add .i64),[(.t 8),(.c (.int .i64 (.ofNat 1)))]⟩,⟨(.some 8),.none,.mov,[(.t 22)]⟩]))))))) (.reg .false [] [⟨(.some 23),.none,.mov,[(.t 0)]⟩,⟨(.some 24),.none,.nilc,[(.t 23)]⟩,⟨(.some 25),.none,(.fld 100),[(.t 24)]⟩,⟨.none,.none,.st1,[(.t 25),(.c (.int .i64 (.ofNat 0)))]⟩]))⟩
theorem ok68:FnOK Tryd.prog 68 vf68 := .of Tryd.func68 (by kernel_rfl) (by kernel_rfl)
noncomputable def vf73:VF:=⟨15,[(.tmp 4),(.tmp 5)],compile Tryd.prog (Tryd.f73.body.getD .skip)⟩
theorem ok73:FnOK Tryd.prog 73 vf73 := .of Tryd.func73 (by kernel_rfl) (by kernel_rfl)
noncomputable def vf66:VF:=⟨41,[(.cell 0 25),(.cell 1 25)],compile Tryd.prog (Tryd.f66.body.getD .skip)⟩
theorem ok66:FnOK Tryd.prog 66 vf66 := .of Tryd.func66 (by kernel_rfl) (by kernel_rfl)
noncomputable def vf74:VF:=⟨138,[],compile Tryd.prog (Tryd.f74.body.getD .skip)⟩
theorem ok74:FnOK Tryd.prog 74 vf74 := .of Tryd.func74 (by kernel_rfl) (by kernel_rfl)
noncomputable def vf63:VF:=⟨62,[(.cell 0 49)],compile Tryd.prog (Tryd.f63.body.getD .skip)⟩
theorem ok63:FnOK Tryd.prog 63 vf63 := .of Tryd.func63 (by kernel_rfl) (by kernel_rfl)
noncomputable def vf72:VF:=⟨151,[(.cell 6 25)],compile Tryd.prog (Tryd.f72.body.getD .skip)⟩
theorem ok72:FnOK Tryd.prog 72 vf72 := .of Tryd.func72 (by kernel_rfl) (by kernel_rfl)
noncomputable def vf64:VF:=⟨15,[(.cell 4 25)],compile Tryd.prog (Tryd.f64.body.getD .skip)⟩
theorem ok64:FnOK Tryd.prog 64 vf64 := .of Tryd.func64 (by kernel_rfl) (by kernel_rfl)
noncomputable def vf65:VF:=⟨28,[(.cell 0 24)],compile Tryd.prog (Tryd.f65.body.getD .skip)⟩
theorem ok65:FnOK Tryd.prog 65 vf65 := .of Tryd.func65 (by kernel_rfl) (by kernel_rfl)
noncomputable def vf67:VF:=⟨23,[],compile Tryd.prog (Tryd.f67.body.getD .skip)⟩
theorem ok67:FnOK Tryd.prog 67 vf67 := .of Tryd.func67 (by kernel_rfl) (by kernel_rfl)
noncomputable def vf77:VF:=⟨17,[(.tmp 4)],compile Tryd.prog (Tryd.f77.body.getD .skip)⟩
theorem ok77:FnOK Tryd.prog 77 vf77 := .of Tryd.func77 (by kernel_rfl) (by kernel_rfl)
noncomputable def vf76:VF:=⟨13,[(.tmp 4)],compile Tryd.prog (Tryd.f76.body.getD .skip)⟩
theorem ok76:FnOK Tryd.prog 76 vf76 := .of Tryd.func76 (by kernel_rfl) (by kernel_rfl)
noncomputable def vf60:VF:=⟨10,[],compile Tryd.prog (Tryd.f60.body.getD .skip)⟩
theorem ok60:FnOK Tryd.prog 60 vf60 := .of Tryd.func60 (by kernel_rfl) (by kernel_rfl)
def tabK(f:Nat):Option VF :=
 match f with
 | 33=>some vf33
 | 27=>some vf27
 | 48=>some vf48
 | 21=>some vf21
 | 46=>some vf46
 | 49=>some vf49
 | 50=>some vf50
 | 51=>some vf51
 | 68=>some vf68
 | 73=>some vf73
 | 66=>some vf66
 | 74=>some vf74
 | 63=>some vf63
 | 72=>some vf72
 | 64=>some vf64
 | 65=>some vf65
 | 67=>some vf67
 | 77=>some vf77
 | 76=>some vf76
 | 60=>some vf60
 | _=>none
theorem tabK_ok:∀ f vf,tabK f=some vf→FnOK Tryd.prog f vf:=by
 intro f vf h
 unfold tabK at h
 split at h<;>cases h
 ·exact ok33
 ·exact ok27
 ·exact ok48
 ·exact ok21
 ·exact ok46
 ·exact ok49
 ·exact ok50
 ·exact ok51
 ·exact ok68
 ·exact ok73
 ·exact ok66
 ·exact ok74
 ·exact ok63
 ·exact ok72
 ·exact ok64
 ·exact ok65
 ·exact ok67
 ·exact ok77
 ·exact ok76
 ·exact ok60
end
end Go.Proofs.Vm
