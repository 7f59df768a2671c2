/-
  MADE BY PROGRAM (table.py): the machine's code of these functions, and that it is theirs.
-/
import Derived.Test.YtfmhlogapbpnbaaYnac
import Derived.Test.YtfmhlogapbpnbaaProg
import Derived.KernelRfl
set_option linter.unusedVariables false
set_option linter.unusedSimpArgs false
set_option linter.unusedSectionVars false

namespace Go.Proofs.Vm
set_option maxRecDepth 100000
open Go.Vm
noncomputable section
noncomputable def vf24:VF:=⟨19,[(.cell 2 32)],qaf Try.prog (Try.f24.body.getD .skip)⟩
theorem ok24:FnOK Try.prog 24 vf24 := .of Try.func24 (by kernel_rfl) (by kernel_rfl)
noncomputable def vf25:VF:=⟨25,[(.tmp 0)],qaf Try.prog (Try.f25.body.getD .skip)⟩
theorem ok25:FnOK Try.prog 25 vf25 := .of Try.func25 (by kernel_rfl) (by kernel_rfl)
noncomputable def vf26:VF:=⟨13,[(.cell 2 32)],qaf Try.prog (Try.f26.body.getD .skip)⟩
theorem ok26:FnOK Try.prog 26 vf26 := .of Try.func26 (by kernel_rfl) (by kernel_rfl)
noncomputable def vf27:VF:=⟨23,[(.tmp 4)],qaf Try.prog (Try.f27.body.getD .skip)⟩
theorem ok27:FnOK Try.prog 27 vf27 := .of Try.func27 (by kernel_rfl) (by kernel_rfl)
noncomputable def vf28:VF:=⟨14,[(.tmp 4)],qaf Try.prog (Try.f28.body.getD .skip)⟩
theorem ok28:FnOK Try.prog 28 vf28 := .of Try.func28 (by kernel_rfl) (by kernel_rfl)
noncomputable def vf29:VF:=⟨15,[(.cell 2 25)],qaf Try.prog (Try.f29.body.getD .skip)⟩
theorem ok29:FnOK Try.prog 29 vf29 := .of Try.func29 (by kernel_rfl) (by kernel_rfl)
noncomputable def vf30:VF:=⟨33,[(.tmp 4)],qaf Try.prog (Try.f30.body.getD .skip)⟩
theorem ok30:FnOK Try.prog 30 vf30 := .of Try.func30 (by kernel_rfl) (by kernel_rfl)
noncomputable def vf31:VF:=⟨34,[(.tmp 4)],qaf Try.prog (Try.f31.body.getD .skip)⟩
theorem ok31:FnOK Try.prog 31 vf31 := .of Try.func31 (by kernel_rfl) (by kernel_rfl)
noncomputable def vf32:VF:=⟨41,[(.tmp 2)],qaf Try.prog (Try.f32.body.getD .skip)⟩
theorem ok32:FnOK Try.prog 32 vf32 := .of Try.func32 (by kernel_rfl) (by kernel_rfl)
noncomputable def vf33:VF:=⟨27,[(.tmp 2)],qaf Try.prog (Try.f33.body.getD .skip)⟩
theorem ok33:FnOK Try.prog 33 vf33 := .of Try.func33 (by kernel_rfl) (by kernel_rfl)
noncomputable def vf34:VF:=⟨22,[(.cell 4 25)],qaf Try.prog (Try.f34.body.getD .skip)⟩
theorem ok34:FnOK Try.prog 34 vf34 := .of Try.func34 (by kernel_rfl) (by kernel_rfl)
noncomputable def vf35:VF:=⟨17,[(.cell 4 25)],qaf Try.prog (Try.f35.body.getD .skip)⟩
theorem ok35:FnOK Try.prog 35 vf35 := .of Try.func35 (by kernel_rfl) (by kernel_rfl)
noncomputable def vf36:VF:=⟨7,[(.cell 2 25)],qaf Try.prog (Try.f36.body.getD .skip)⟩
theorem ok36:FnOK Try.prog 36 vf36 := .of Try.func36 (by kernel_rfl) (by kernel_rfl)
noncomputable def vf66:VF:=⟨15,[(.cell 4 32),(.tmp 5)],qaf Try.prog (Try.f66.body.getD .skip)⟩
theorem ok66:FnOK Try.prog 66 vf66 := .of Try.func66 (by kernel_rfl) (by kernel_rfl)
noncomputable def vf67:VF:=⟨109,[(.tmp 8)],qaf Try.prog (Try.f67.body.getD .skip)⟩
theorem ok67:FnOK Try.prog 67 vf67 := .of Try.func67 (by kernel_rfl) (by kernel_rfl)
noncomputable def vf68:VF:=⟨19,[(.tmp 2)],qaf Try.prog (Try.f68.body.getD .skip)⟩
theorem ok68:FnOK Try.prog 68 vf68 := .of Try.func68 (by kernel_rfl) (by kernel_rfl)
noncomputable def vf69:VF:=⟨65,[],qaf Try.prog (Try.f69.body.getD .skip)⟩
theorem ok69:FnOK Try.prog 69 vf69 := .of Try.func69 (by kernel_rfl) (by kernel_rfl)
noncomputable def vf70:VF:=⟨50,[],qaf Try.prog (Try.f70.body.getD .skip)⟩
theorem ok70:FnOK Try.prog 70 vf70 := .of Try.func70 (by kernel_rfl) (by kernel_rfl)
def vf71:VF:=⟨26,[],(.seq (.seq (.reg .false [] [⟨(.some 4),.none,.mov,[(.t 0)]⟩,⟨(.some 5),.none,.nilc,[(.t 4)]⟩,⟨(.some 6),.none,(.fld 75),[(.t 5)]⟩,⟨(.some 7),.none,(.ldn 24),[(.t 6)]⟩,⟨(.some 8),.none,.mov,[(.c (.int .i64 (.ofNat 0)))]⟩]) (.block 0 (.loop (.seq (.reg .false [] [⟨(.some 9),.none,(.cmp .lss),[(.t 8),(.c (.int .i64 (.ofNat 24)))]⟩]) (.seq (.cond (.t 9) .skip (.exit 0)) (.seq (.block 1 (.seq (.reg .false [] [⟨(.some 10),.none,(.ixV 24 (.int .u64)),[(.t 7),(.t 8)]⟩,⟨(.some 3),.none,.mov,[(.t 10)]⟩]) (.reg .true [0,1,3,0,8,24,0,64,192,0,1023] [⟨(.some 11),.none,.mov,[(.t 0)]⟩,⟨(.some 12),.none,.nilc,[(.t 11)]⟩,⟨(.some 13),.none,(.fld 0),[(.t 12)]⟩,⟨(.some 14),.none,.mov,[(.t 0)]⟩,⟨(.some 15),.none,.nilc,[(.t 14)]⟩,⟨(.some 16),.none,(.fld 25),[(.t 15)]⟩,⟨(.some 17),.none,.mov,[(.t 0)]⟩,⟨(.some 18),.none,.nilc,[(.t 17)]⟩,⟨(.some 19),.none,(.fld 50),[(.t 18)]⟩,⟨(.some 20),.none,.mov,[(.t 3)]⟩,⟨(.some 21),.none,(.call 75),[(.t 13),(.t 16),(.t 19),(.t 20)]⟩]))) (.reg .false [] [⟨(.some 22),.none,(.bin .add .i64),[(.t 8),(.c (.int .i64 (.ofNat 1)))]⟩,⟨(.some 8),.none,.mov,[(.t 22)]⟩]))))))) (.reg .false [] [⟨(.some 23),.none,.mov,[(.t 0)]⟩,⟨(.some 24),.none,.nilc,[(.t 23)]⟩,⟨(.some 25),.none,(.fld 100),[(.t 24)]⟩,⟨.none,.none,.st1,[(.t 25),(.c (.int .i64 (.ofNat 0)))]⟩]))⟩
theorem ok71:FnOK Try.prog 71 vf71 := .of Try.func71 (by kernel_rfl) (by kernel_rfl)
noncomputable def vf72:VF:=⟨15,[(.tmp 4),(.tmp 5)],qaf Try.prog (Try.f72.body.getD .skip)⟩
theorem ok72:FnOK Try.prog 72 vf72 := .of Try.func72 (by kernel_rfl) (by kernel_rfl)
noncomputable def vf73:VF:=⟨20,[(.tmp 2)],qaf Try.prog (Try.f73.body.getD .skip)⟩
theorem ok73:FnOK Try.prog 73 vf73 := .of Try.func73 (by kernel_rfl) (by kernel_rfl)
noncomputable def vf74:VF:=⟨41,[(.cell 0 25),(.cell 1 25)],qaf Try.prog (Try.f74.body.getD .skip)⟩
theorem ok74:FnOK Try.prog 74 vf74 := .of Try.func74 (by kernel_rfl) (by kernel_rfl)
noncomputable def vf75:VF:=⟨138,[],qaf Try.prog (Try.f75.body.getD .skip)⟩
theorem ok75:FnOK Try.prog 75 vf75 := .of Try.func75 (by kernel_rfl) (by kernel_rfl)
noncomputable def vf76:VF:=⟨62,[(.cell 0 49)],qaf Try.prog (Try.f76.body.getD .skip)⟩
theorem ok76:FnOK Try.prog 76 vf76 := .of Try.func76 (by kernel_rfl) (by kernel_rfl)
noncomputable def vf77:VF:=⟨151,[(.cell 6 25)],qaf Try.prog (Try.f77.body.getD .skip)⟩
theorem ok77:FnOK Try.prog 77 vf77 := .of Try.func77 (by kernel_rfl) (by kernel_rfl)
noncomputable def vf78:VF:=⟨15,[(.cell 4 25)],qaf Try.prog (Try.f78.body.getD .skip)⟩
theorem ok78:FnOK Try.prog 78 vf78 := .of Try.func78 (by kernel_rfl) (by kernel_rfl)
noncomputable def vf101:VF:=⟨28,[(.cell 0 24)],qaf Try.prog (Try.f101.body.getD .skip)⟩
theorem ok101:FnOK Try.prog 101 vf101 := .of Try.func101 (by kernel_rfl) (by kernel_rfl)
noncomputable def vf102:VF:=⟨23,[],qaf Try.prog (Try.f102.body.getD .skip)⟩
theorem ok102:FnOK Try.prog 102 vf102 := .of Try.func102 (by kernel_rfl) (by kernel_rfl)
noncomputable def vf103:VF:=⟨17,[(.tmp 4)],qaf Try.prog (Try.f103.body.getD .skip)⟩
theorem ok103:FnOK Try.prog 103 vf103 := .of Try.func103 (by kernel_rfl) (by kernel_rfl)
noncomputable def vf104:VF:=⟨13,[(.tmp 4)],qaf Try.prog (Try.f104.body.getD .skip)⟩
theorem ok104:FnOK Try.prog 104 vf104 := .of Try.func104 (by kernel_rfl) (by kernel_rfl)
noncomputable def vf112:VF:=⟨10,[],qaf Try.prog (Try.f112.body.getD .skip)⟩
theorem ok112:FnOK Try.prog 112 vf112 := .of Try.func112 (by kernel_rfl) (by kernel_rfl)
def tabK(f:Nat):Option VF :=
 match f with
 | 24=>some vf24
 | 25=>some vf25
 | 26=>some vf26
 | 27=>some vf27
 | 28=>some vf28
 | 29=>some vf29
 | 30=>some vf30
 | 31=>some vf31
 | 32=>some vf32
 | 33=>some vf33
 | 34=>some vf34
 | 35=>some vf35
 | 36=>some vf36
 | 66=>some vf66
 | 67=>some vf67
 | 68=>some vf68
 | 69=>some vf69
 | 70=>some vf70
 | 71=>some vf71
 | 72=>some vf72
 | 73=>some vf73
 | 74=>some vf74
 | 75=>some vf75
 | 76=>some vf76
 | 77=>some vf77
 | 78=>some vf78
 | 101=>some vf101
 | 102=>some vf102
 | 103=>some vf103
 | 104=>some vf104
 | 112=>some vf112
 | _=>none
theorem qjg:∀ f vf,tabK f=some vf->FnOK Try.prog f vf:=by
 intro f vf h
 unfold tabK at h
 split at h<;>cases h
 ·exact ok24
 ·exact ok25
 ·exact ok26
 ·exact ok27
 ·exact ok28
 ·exact ok29
 ·exact ok30
 ·exact ok31
 ·exact ok32
 ·exact ok33
 ·exact ok34
 ·exact ok35
 ·exact ok36
 ·exact ok66
 ·exact ok67
 ·exact ok68
 ·exact ok69
 ·exact ok70
 ·exact ok71
 ·exact ok72
 ·exact ok73
 ·exact ok74
 ·exact ok75
 ·exact ok76
 ·exact ok77
 ·exact ok78
 ·exact ok101
 ·exact ok102
 ·exact ok103
 ·exact ok104
 ·exact ok112
end
end Go.Proofs.Vm
