/-
  KECCAK, PART 11: a round of a state.
-/
import Derived.Test.YtfmhlogapbpnbaaDoorYeai
import Derived.Test.YtfmhlogapbpnbaaDoorYead
import Derived.Below
import Derived.Test.YtfmhlogapbpnbaaDoorYeah
import Derived.Test.YtfmhlogapbpnbaaDoorYeac
import Derived.Test.YtfmhlogapbpnbaaDoorProg
import Derived.KernelRfl
set_option linter.unusedVariables false
set_option linter.unusedSimpArgs false
set_option linter.unusedSectionVars false

namespace Go.Proofs.Vm
set_option maxRecDepth 100000
open Go.Vm
noncomputable section
end
end Go.Proofs.Vm

namespace Go.Proofs.Vm
set_option maxRecDepth 100000
open Go.Vm
noncomputable section
end
end Go.Proofs.Vm

namespace Go.Vm
set_option maxRecDepth 100000
open Go.RowKit
def noRho:Rho:=fun _ => .unborn
theorem CallTo.enter{P:Program}{f:Nat}{vals:List AV}{r:AV}{H':Hl}{lg:List Nat}(hc:CallTo P f vals [] r H' lg){w:World}{us:List Value}(hv:VRels noRho w vals us) :
  Calls P f us.toArray w fun e w'=>∃ v ρ',e = .returned v∧VRel ρ' w' r v∧Below w.heap.size w w':=by
 have hg:HRel noRho w (fun b=>([]:Hl)[b]?):=⟨fun _ _=>rfl,fun b h=>(by simp at h),fun b b' B F F' h=>(by cases h),fun b cs h=>(by simp at h),fun b B F c e lo hi h=>(by cases h),fun b kd ks h=>(by simp at h)⟩
 refine(hc.does noRho w us hg hv).mono ?_
 rintro e w' ⟨v,ρ',rfl,_,h2,h3⟩
 exact⟨v,ρ',rfl,h2,h3.os,h3.tape,h3.output,h3.size,fun k hk=>h3.keep k hk (fun b F h=>by cases h)⟩
end Go.Vm

namespace Go.Proofs.Vm
set_option maxRecDepth 100000
open Go.Vm
noncomputable section
def plA:List Int := [1,0,2,1,2,3,3,0,1,3,1,4,4,0,3,4,3,2,2,0,4,2,4,1,1]
def plB:List Int := [0,2,1,2,3,3,0,1,3,1,4,4,0,3,4,3,2,2,0,4,2,4,1,1,0]
def plD:List Int := [1,3,6,10,15,21,28,36,45,55,2,14,27,41,56,8,25,43,62,18,39,61,20,44,5]
def hit(x y:Int)(i:Nat):Bool:=cmp0 .eql (plA.getD i 0) x && cmp0 .eql (plB.getD i 0) y
def distF(x y:Int):Int:=match (List.range 24).find? (hit x y) with
 | some i=>plD.getD i 0
 | none=>0
end
end Go.Proofs.Vm

namespace Go.Proofs.Vm
set_option maxRecDepth 100000
open Go.Vm
noncomputable section
def cstF(n:Int):Int:=if 0≤n∧n<24 then rcs.getD n.toNat 0 else 0
def rndZ(s:List Int)(n:Int):List Int:=if 0≤n∧n<24 then rndN s n.toNat else s
structure AF extends KF where
 dist:Int→Int→Int
 cst:Int→Int
 rnd:List AV→Int→List AV
 rnds:List AV→List AV
def af0:AF := { kf0 with dist:=distF,cst:=cstF,rnd:=fun cs n=>(rndZ (intsA cs) n).map w,rnds:=fun cs=>(allF (intsA cs)).map w }
def cnA(S:AF):CnF:=fun f vals H=>match f,vals with
 | f,vals=>cnK S.toKF f vals H
theorem cnA_ok:CnOK Tryd.prog (cnA af0):=by
 intro f vals H p x e hp
 unfold cnA at e
 split at e
 ·exact cnK_ok _ _ _ _ _ e hp
end
end Go.Proofs.Vm

namespace Go.Proofs.Vm
set_option maxRecDepth 100000
open Go.Vm
noncomputable section
theorem spl_all{z xs:List AV}(h:z.length=xs.length):ops0.spl z 0 xs=xs:=by
 rw[nSpl,List.take_zero,List.nil_append,Nat.zero_add,List.drop_of_length_le (by omega),List.append_nil]
end
end Go.Proofs.Vm

namespace Go.Proofs.Vm
set_option maxRecDepth 100000
open Go.Vm
noncomputable section
noncomputable def vf24:VF:=⟨41,[(.tmp 6)],compile Tryd.prog (Tryd.f24.body.getD .skip)⟩
theorem ok24:FnOK Tryd.prog 24 vf24 := .of Tryd.func24 (by kernel_rfl) (by kernel_rfl)
noncomputable def vf9:VF:=⟨43,[(.tmp 6)],compile Tryd.prog (Tryd.f9.body.getD .skip)⟩
theorem ok9:FnOK Tryd.prog 9 vf9 := .of Tryd.func9 (by kernel_rfl) (by kernel_rfl)
noncomputable def vf16:VF:=⟨38,[(.cell 6 32)],compile Tryd.prog (Tryd.f16.body.getD .skip)⟩
theorem ok16:FnOK Tryd.prog 16 vf16 := .of Tryd.func16 (by kernel_rfl) (by kernel_rfl)
noncomputable def vf13:VF:=⟨35,[(.cell 6 32)],compile Tryd.prog (Tryd.f13.body.getD .skip)⟩
theorem ok13:FnOK Tryd.prog 13 vf13 := .of Tryd.func13 (by kernel_rfl) (by kernel_rfl)
noncomputable def vf26:VF:=⟨21,[(.tmp 2)],compile Tryd.prog (Tryd.f26.body.getD .skip)⟩
theorem ok26:FnOK Tryd.prog 26 vf26 := .of Tryd.func26 (by kernel_rfl) (by kernel_rfl)
noncomputable def vf32:VF:=⟨18,[(.tmp 2)],compile Tryd.prog (Tryd.f32.body.getD .skip)⟩
theorem ok32:FnOK Tryd.prog 32 vf32 := .of Tryd.func32 (by kernel_rfl) (by kernel_rfl)
noncomputable def vf14:VF:=⟨36,[(.tmp 4)],compile Tryd.prog (Tryd.f14.body.getD .skip)⟩
theorem ok14:FnOK Tryd.prog 14 vf14 := .of Tryd.func14 (by kernel_rfl) (by kernel_rfl)
noncomputable def vf45:VF:=⟨6,[(.cell 2 32)],compile Tryd.prog (Tryd.f45.body.getD .skip)⟩
theorem ok45:FnOK Tryd.prog 45 vf45 := .of Tryd.func45 (by kernel_rfl) (by kernel_rfl)
noncomputable def vf25:VF:=⟨23,[(.tmp 4)],compile Tryd.prog (Tryd.f25.body.getD .skip)⟩
theorem ok25:FnOK Tryd.prog 25 vf25 := .of Tryd.func25 (by kernel_rfl) (by kernel_rfl)
noncomputable def vf22:VF:=⟨13,[(.tmp 4)],compile Tryd.prog (Tryd.f22.body.getD .skip)⟩
theorem ok22:FnOK Tryd.prog 22 vf22 := .of Tryd.func22 (by kernel_rfl) (by kernel_rfl)
end
end Go.Proofs.Vm

namespace Go.Proofs.Vm
set_option maxRecDepth 100000
open Go.Vm
noncomputable section
theorem vc44(n:Int)(Q:Nat→Nat→Nat→Nat→List AV→Prop) :
  (vcall (vcA kdYes noCn noLn) ops0 (tabOne 26 vf26) 200 vf26 [.int .u64 n] [] (endB Q)) =
 (((flatL [(.int .u8 (ops0.cvt .u8 (ops0.shf .shr .u64 n (Int.ofNat 0)))),(.int .u8 (ops0.cvt .u8 (ops0.shf .shr .u64 n (Int.ofNat 8)))),(.int .u8 (ops0.cvt .u8 (ops0.shf .shr .u64 n (Int.ofNat 16)))),(.int .u8 (ops0.cvt .u8 (ops0.shf .shr .u64 n (Int.ofNat 24)))),(.int .u8 (ops0.cvt .u8 (ops0.shf .shr .u64 n (Int.ofNat 32)))),(.int .u8 (ops0.cvt .u8 (ops0.shf .shr .u64 n (Int.ofNat 40)))),(.int .u8 (ops0.cvt .u8 (ops0.shf .shr .u64 n (Int.ofNat 48)))),(.int .u8 (ops0.cvt .u8 (ops0.shf .shr .u64 n (Int.ofNat 56))))]) ∧
 (Q 0 8 8 1 [(.int .u8 (ops0.cvt .u8 (ops0.shf .shr .u64 n (Int.ofNat 0)))),(.int .u8 (ops0.cvt .u8 (ops0.shf .shr .u64 n (Int.ofNat 8)))),(.int .u8 (ops0.cvt .u8 (ops0.shf .shr .u64 n (Int.ofNat 16)))),(.int .u8 (ops0.cvt .u8 (ops0.shf .shr .u64 n (Int.ofNat 24)))),(.int .u8 (ops0.cvt .u8 (ops0.shf .shr .u64 n (Int.ofNat 32)))),(.int .u8 (ops0.cvt .u8 (ops0.shf .shr .u64 n (Int.ofNat 40)))),(.int .u8 (ops0.cvt .u8 (ops0.shf .shr .u64 n (Int.ofNat 48)))),(.int .u8 (ops0.cvt .u8 (ops0.shf .shr .u64 n (Int.ofNat 56))))]))):=by kernel_rfl
theorem vc45(n:Int)(Q:Nat→Nat→Nat→Nat→List AV→Prop) :
  (vcall (vcA kdYes noCn noLn) ops0 (tabOne 32 vf32) 200 vf32 [.int .u64 n] [] (endB Q)) =
 (((flatL [(.int .u8 (ops0.cvt .u8 (ops0.shf .shr .u64 n (Int.ofNat 0)))),(.int .u8 (ops0.cvt .u8 (ops0.shf .shr .u64 n (Int.ofNat 8)))),(.int .u8 (ops0.cvt .u8 (ops0.shf .shr .u64 n (Int.ofNat 16)))),(.int .u8 (ops0.cvt .u8 (ops0.shf .shr .u64 n (Int.ofNat 24)))),(.int .u8 (ops0.cvt .u8 (ops0.shf .shr .u64 n (Int.ofNat 32)))),(.int .u8 (ops0.cvt .u8 (ops0.shf .shr .u64 n (Int.ofNat 40)))),(.int .u8 (ops0.cvt .u8 (ops0.shf .shr .u64 n (Int.ofNat 48)))),(.int .u8 (ops0.cvt .u8 (ops0.shf .shr .u64 n (Int.ofNat 56))))]) ∧
 (Q 0 8 8 1 [(.int .u8 (ops0.cvt .u8 (ops0.shf .shr .u64 n (Int.ofNat 0)))),(.int .u8 (ops0.cvt .u8 (ops0.shf .shr .u64 n (Int.ofNat 8)))),(.int .u8 (ops0.cvt .u8 (ops0.shf .shr .u64 n (Int.ofNat 16)))),(.int .u8 (ops0.cvt .u8 (ops0.shf .shr .u64 n (Int.ofNat 24)))),(.int .u8 (ops0.cvt .u8 (ops0.shf .shr .u64 n (Int.ofNat 32)))),(.int .u8 (ops0.cvt .u8 (ops0.shf .shr .u64 n (Int.ofNat 40)))),(.int .u8 (ops0.cvt .u8 (ops0.shf .shr .u64 n (Int.ofNat 48)))),(.int .u8 (ops0.cvt .u8 (ops0.shf .shr .u64 n (Int.ofNat 56))))]))):=by kernel_rfl
theorem vc79(key:List AV)(l:List UInt8)(Q:Nat→Nat→Nat→Nat→List AV→Prop) :
  (vcall (vcA kdYes noCn noLn) ops0 (tabOne 25 vf25) 200 vf25 [.agg key,.str l] [] (endB Q)) =
 ((Chk (ops0.mkr (Int.ofNat 0) (ops0.bin .add .i64 (ops0.bin .add .i64 (Int.ofNat 1) (ops0.ofn (ops0.slen l))) (Int.ofNat 32)) 1)
 (Chk (ops0.room 1 (ops0.slen l) 1)
 (Chk (ops0.le 32 (ops0.len key))
 (Chk (ops0.le (ops0.add 0 (ops0.mul (ops0.add 1 (ops0.slen l)) 1)) (ops0.len ((.int .u8 (ops0.cvt .u8 (ops0.ofn (ops0.slen l))))::(([]:List AV)++(ops0.scells l)))))
 (Chk (ops0.le 32 (ops0.len key))
 (Chk (ops0.room (ops0.add 1 (ops0.slen l)) 32 1)
 ((flatL (ops0.app (ops0.ext ((.int .u8 (ops0.cvt .u8 (ops0.ofn (ops0.slen l))))::(([]:List AV)++(ops0.scells l))) 0 (ops0.mul (ops0.add 1 (ops0.slen l)) 1)) (ops0.ext key 0 32))) ∧
 (Q 0 (ops0.add (ops0.add 1 (ops0.slen l)) 32) (ops0.add (ops0.add 1 (ops0.slen l)) 32) 1 (ops0.app (ops0.ext ((.int .u8 (ops0.cvt .u8 (ops0.ofn (ops0.slen l))))::(([]:List AV)++(ops0.scells l))) 0 (ops0.mul (ops0.add 1 (ops0.slen l)) 1)) (ops0.ext key 0 32))))))))))):=by kernel_rfl
theorem vc80(key:List AV)(l:List UInt8)(Q:Nat→Nat→Nat→Nat→List AV→Prop) :
  (vcall (vcA kdYes noCn noLn) ops0 (tabOne 22 vf22) 200 vf22 [.agg key,.str l] [] (endB Q)) =
 ((Br (ops0.lt 0 (ops0.slen l))
 (Chk (ops0.room 1 (ops0.slen l) 1)
 (Chk (ops0.le 32 (ops0.len key))
 (Chk (ops0.le (ops0.add 0 (ops0.mul (ops0.add 1 (ops0.slen l)) 1)) (ops0.len ((.int .u8 (ops0.cvt .u8 (ops0.ofn (ops0.slen l))))::(([]:List AV)++(ops0.scells l)))))
 (Chk (ops0.le 32 (ops0.len key))
 (Chk (ops0.room (ops0.add 1 (ops0.slen l)) 32 1)
 ((flatL (ops0.app (ops0.ext ((.int .u8 (ops0.cvt .u8 (ops0.ofn (ops0.slen l))))::(([]:List AV)++(ops0.scells l))) 0 (ops0.mul (ops0.add 1 (ops0.slen l)) 1)) (ops0.ext key 0 32))) ∧
 (Q 0 (ops0.add (ops0.add 1 (ops0.slen l)) 32) (ops0.add (ops0.add 1 (ops0.slen l)) 32) 1 (ops0.app (ops0.ext ((.int .u8 (ops0.cvt .u8 (ops0.ofn (ops0.slen l))))::(([]:List AV)++(ops0.scells l))) 0 (ops0.mul (ops0.add 1 (ops0.slen l)) 1)) (ops0.ext key 0 32)))))))))
 (Chk (ops0.le 32 (ops0.len key))
 (Chk (ops0.le 32 (ops0.len key))
 ((flatL ((.int .u8 (ops0.cvt .u8 (ops0.ofn (ops0.slen l))))::(([]:List AV)++(ops0.ext key 0 32)))) ∧
 (Q 0 33 33 1 ((.int .u8 (ops0.cvt .u8 (ops0.ofn (ops0.slen l))))::(([]:List AV)++(ops0.ext key 0 32))))))))):=by kernel_rfl
def bytesN(k:Nat):List UInt8 := [UInt8.ofNat (k / 2 ^ 0),UInt8.ofNat (k / 2 ^ 8),UInt8.ofNat (k / 2 ^ 16),UInt8.ofNat (k / 2 ^ 24),UInt8.ofNat (k / 2 ^ 32),UInt8.ofNat (k / 2 ^ 40),UInt8.ofNat (k / 2 ^ 48),UInt8.ofNat (k / 2 ^ 56)]
def headL(key l:List UInt8):List UInt8:=UInt8.ofNat l.length::(l++key)
theorem headL_length(key l:List UInt8):(headL key l).length=l.length+key.length+1:=by
 unfold headL
 rw[List.length_cons,List.length_append]
theorem shr8(k s:Nat)(h:s≤64):ops0.cvt .u8 (ops0.shf .shr .u64 (Int.ofNat k) (Int.ofNat s))=Int.ofNat (UInt8.ofNat (k / 2 ^ s)).toNat:=by
 have e1:ops0.shf .shr .u64 (Int.ofNat k) (Int.ofNat s)=Int.ofNat (k / 2 ^ s):=by
  show(Int.ofNat k).fdiv (2 ^ (Nat.min (Int.ofNat s).toNat 64))=_
  have:Nat.min (Int.ofNat s).toNat 64=s:=Nat.min_eq_left h
  rw[this]
  have e2:(2:Int) ^ s=Int.ofNat (2 ^ s):=by simp
  rw[e2]
  exact Int.fdiv_eq_ediv_of_nonneg _ (Int.natCast_nonneg _)
 rw[e1]
 generalize k / 2 ^ s=q
 show IntKind.u8.wrap (Int.ofNat q)=_
 simp[IntKind.wrap,IntKind.bits,IntKind.signed]
theorem flatL8(a b c d e f g h:Int):flatL [.int .u8 a,.int .u8 b,.int .u8 c,.int .u8 d,.int .u8 e,.int .u8 f,.int .u8 g,.int .u8 h]:=by
 intro x hx
 simp only[List.mem_cons,List.not_mem_nil,or_false] at hx
 rcases hx with rfl|rfl|rfl|rfl|rfl|rfl|rfl|rfl<;>rfl
theorem bytes_cells(k:Nat) : [AV.int IntKind.u8 (ops0.cvt IntKind.u8 (ops0.shf BinOp.shr IntKind.u64 (Int.ofNat k) (Int.ofNat 0))),.int IntKind.u8 (ops0.cvt IntKind.u8 (ops0.shf BinOp.shr IntKind.u64 (Int.ofNat k) (Int.ofNat 8))),.int IntKind.u8 (ops0.cvt IntKind.u8 (ops0.shf BinOp.shr IntKind.u64 (Int.ofNat k) (Int.ofNat 16))),.int IntKind.u8 (ops0.cvt IntKind.u8 (ops0.shf BinOp.shr IntKind.u64 (Int.ofNat k) (Int.ofNat 24))),
  .int IntKind.u8 (ops0.cvt IntKind.u8 (ops0.shf BinOp.shr IntKind.u64 (Int.ofNat k) (Int.ofNat 32))),.int IntKind.u8 (ops0.cvt IntKind.u8 (ops0.shf BinOp.shr IntKind.u64 (Int.ofNat k) (Int.ofNat 40))),.int IntKind.u8 (ops0.cvt IntKind.u8 (ops0.shf BinOp.shr IntKind.u64 (Int.ofNat k) (Int.ofNat 48))),.int IntKind.u8 (ops0.cvt IntKind.u8 (ops0.shf BinOp.shr IntKind.u64 (Int.ofNat k) (Int.ofNat 56)))]=(bytesN k).map by8:=by
 rw[shr8 k 0 (by decide),shr8 k 8 (by decide),shr8 k 16 (by decide),shr8 k 24 (by decide),shr8 k 32 (by decide),shr8 k 40 (by decide),shr8 k 48 (by decide),shr8 k 56 (by decide)]
 rfl
theorem bytes44(k:Nat):CallTo Tryd.prog 26 [.int .u64 (Int.ofNat k)] [] (.slc 0 0 8 8 1) [.cells ((bytesN k).map by8)] []:=by
 refine call_b (noCn_ok _) (noLn_ok _) (tabOne_ok ok26) (tabOne_self 26 vf26) (n:=200) (g:=kdYes) ?_
 rw[vc44]
 exact⟨flatL8 _ _ _ _ _ _ _ _,rfl,rfl,rfl,rfl,bytes_cells k⟩
theorem bytes45(k:Nat):CallTo Tryd.prog 32 [.int .u64 (Int.ofNat k)] [] (.slc 0 0 8 8 1) [.cells ((bytesN k).map by8)] []:=by
 refine call_b (noCn_ok _) (noLn_ok _) (tabOne_ok ok32) (tabOne_self 32 vf32) (n:=200) (g:=kdYes) ?_
 rw[vc45]
 exact⟨flatL8 _ _ _ _ _ _ _ _,rfl,rfl,rfl,rfl,bytes_cells k⟩
theorem head_cell(l:List UInt8)(h:l.length≤64):AV.int IntKind.u8 (ops0.cvt IntKind.u8 (ops0.ofn (ops0.slen l)))=by8 (UInt8.ofNat l.length):=by
 rw[nSlen,nOfn,nC8 (by omega)]
 unfold by8
 rw[UInt8.toNat_ofNat_of_lt' (by show _<256;omega)]
theorem head_all(key l:List UInt8):by8 (UInt8.ofNat l.length)::((([]:List AV)++l.map by8)++key.map by8)=(headL key l).map by8:=by
 unfold headL
 rw[List.nil_append,List.map_cons,List.map_append]
theorem head79(key l:List UInt8)(hk:key.length=32)(hl:l.length≤64):CallTo Tryd.prog 25 [.agg (key.map by8),.str l] [] (.slc 0 0 (l.length+33) (l.length+33) 1) [.cells ((headL key l).map by8)] []:=by
 refine call_b (noCn_ok _) (noLn_ok _) (tabOne_ok ok25) (tabOne_self 25 vf25) (n:=200) (g:=kdYes) ?_
 rw[vc79,head_cell l hl]
 have hkl:(key.map by8).length=32:=by rw[List.length_map,hk]
 have e1:ops0.ext (key.map by8) 0 32=key.map by8:=by rw[nExt,List.drop_zero,List.take_of_length_le (by omega)]
 have e2:ops0.ext (by8 (UInt8.ofNat l.length)::(([]:List AV)++ops0.scells l)) 0 (ops0.mul (ops0.add 1 (ops0.slen l)) 1)=by8 (UInt8.ofNat l.length)::(([]:List AV)++l.map by8):=by
  rw[nExt,List.drop_zero,List.take_of_length_le (by rw[nTimes,nPlus,nSlen,nScells]; simp;omega)]
  rfl
 rw[e1,e2]
 simp (disch:=omega) only[nSlen,nOfn,nAdd,nMkr,nRoom,nLe,nLen,nPlus,nTimes,nScells,hkl]
 refine Chk.mk (by simp;omega) (Chk.mk (decide_eq_true (by omega)) (Chk.mk (decide_eq_true (by omega)) (Chk.mk (decide_eq_true (by simp;omega)) (Chk.mk (decide_eq_true (by omega)) (Chk.mk (decide_eq_true (by omega)) ?_)))))
 rw[nApp,List.cons_append,head_all]
 exact⟨flat_by8 _,by trivial,by omega,by omega,by trivial,rfl⟩
theorem head80(key l:List UInt8)(hk:key.length=32)(hl:l.length≤64):CallTo Tryd.prog 22 [.agg (key.map by8),.str l] [] (.slc 0 0 (l.length+33) (l.length+33) 1) [.cells ((headL key l).map by8)] []:=by
 refine call_b (noCn_ok _) (noLn_ok _) (tabOne_ok ok22) (tabOne_self 22 vf22) (n:=200) (g:=kdYes) ?_
 rw[vc80,head_cell l hl]
 have hkl:(key.map by8).length=32:=by rw[List.length_map,hk]
 have e1:ops0.ext (key.map by8) 0 32=key.map by8:=by rw[nExt,List.drop_zero,List.take_of_length_le (by omega)]
 have e2:ops0.ext (by8 (UInt8.ofNat l.length)::(([]:List AV)++ops0.scells l)) 0 (ops0.mul (ops0.add 1 (ops0.slen l)) 1)=by8 (UInt8.ofNat l.length)::(([]:List AV)++l.map by8):=by
  rw[nExt,List.drop_zero,List.take_of_length_le (by rw[nTimes,nPlus,nSlen,nScells]; simp;omega)]
  rfl
 rw[e1,e2]
 simp (disch:=omega) only[nSlen,nOfn,nAdd,nMkr,nRoom,nLe,nLt,nLen,nPlus,nTimes,nScells,hkl]
 refine Br.mk (fun h0 => ?_) (fun h0 => ?_)
 ·refine Chk.mk (decide_eq_true (by omega)) (Chk.mk (decide_eq_true (by omega)) (Chk.mk (decide_eq_true (by simp;omega)) (Chk.mk (decide_eq_true (by omega)) (Chk.mk (decide_eq_true (by omega)) ?_))))
  rw[nApp,List.cons_append,head_all]
  exact⟨flat_by8 _,by trivial,by omega,by omega,by trivial,rfl⟩
 ·have h0:l = []:=by
   have:=of_decide_eq_false h0
   exact List.eq_nil_of_length_eq_zero (by omega)
  subst h0
  refine Chk.mk (decide_eq_true (by omega)) (Chk.mk (decide_eq_true (by omega)) ?_)
  exact⟨flat_by8 (headL key []),by trivial,by trivial,by trivial,by trivial,by trivial⟩
def z8(n:Nat):List AV:=List.replicate n (by8 0)
theorem z8_eq(n:Nat):z8 n=(List.replicate n (0:UInt8)).map by8:=by rw[List.map_replicate]; rfl
theorem z8_flat(n:Nat):flatL (z8 n):=by rw[z8_eq]; exact flat_by8 _
theorem z8_length(n:Nat):(z8 n).length=n:=List.length_replicate
def PKey(ks:List AV):Prop:=∃ key:List UInt8,key.length=32∧ks=key.map by8
structure MF where
 bytes:Int→List AV
 head:List AV→List UInt8→List AV
def mf0:MF:=⟨fun n=>(bytesN n.toNat).map by8,fun ks l=>(headL (bytesA ks) l).map by8⟩
def cnM1(S:MF):CnF:=fun f vals H=>match f,vals with
 | 26,[.int .u64 n]=>some (0≤n,.ok (.slc (size H) 0 8 8 1) (join H [.cells (S.bytes n)]) [])
 | 32,[.int .u64 n]=>some (0≤n,.ok (.slc (size H) 0 8 8 1) (join H [.cells (S.bytes n)]) [])
 | 25,[.agg ks,.str l]=>some (PKey ks∧l.length≤64,.ok (.slc (size H) 0 (ops0.add (ops0.slen l) 33) (ops0.add (ops0.slen l) 33) 1) (join H [.cells (S.head ks l)]) [])
 | 22,[.agg ks,.str l]=>some (PKey ks∧l.length≤64,.ok (.slc (size H) 0 (ops0.add (ops0.slen l) 33) (ops0.add (ops0.slen l) 33) 1) (join H [.cells (S.head ks l)]) [])
 | _,_=>none
theorem cnM1_ok:CnOK Tryd.prog (cnM1 mf0):=by
 intro f vals H p x e hp
 unfold cnM1 at e
 split at e
 ·rename_i n
  cases e
  obtain⟨m,rfl⟩:∃ m:Nat,n=Int.ofNat m:=⟨n.toNat,(Int.toNat_of_nonneg hp).symm⟩
  exact CallTo.lookS (bytes44 m) (flat_by8 _) (.cons (Vw.int H _ _) .nil)
 ·rename_i n
  cases e
  obtain⟨m,rfl⟩:∃ m:Nat,n=Int.ofNat m:=⟨n.toNat,(Int.toNat_of_nonneg hp).symm⟩
  exact CallTo.lookS (bytes45 m) (flat_by8 _) (.cons (Vw.int H _ _) .nil)
 ·rename_i ks l
  cases e
  obtain⟨⟨key,hk,rfl⟩,hl⟩:=hp
  have h:=CallTo.lookS (head79 key l hk hl) (flat_by8 _) (.cons (Vw.agg H (Still.flat (flat_by8 key))) (.cons (Vw.str H l) .nil))
  show CallTo _ _ _ _ _ (join H [.cells ((headL (bytesA (key.map by8)) l).map by8)]) _
  rw[bytesA_by8]
  exact h
 ·rename_i ks l
  cases e
  obtain⟨⟨key,hk,rfl⟩,hl⟩:=hp
  have h:=CallTo.lookS (head80 key l hk hl) (flat_by8 _) (.cons (Vw.agg H (Still.flat (flat_by8 key))) (.cons (Vw.str H l) .nil))
  show CallTo _ _ _ _ _ (join H [.cells ((headL (bytesA (key.map by8)) l).map by8)]) _
  rw[bytesA_by8]
  exact h
 ·cases e
structure NF extends AF where
 toMF:MF
def nf0:NF := { af0 with toMF:=mf0 }
def cnN1(S:NF):CnF:=cnOr (cnM1 S.toMF) (cnA S.toAF)
theorem cnN1_ok:CnOK Tryd.prog (cnN1 nf0):=cnOr_ok cnM1_ok cnA_ok
end
end Go.Proofs.Vm

namespace Go.Proofs.Vm
set_option maxRecDepth 100000
open Go.Vm
noncomputable section
def textL(pl:List (List UInt8)):List UInt8:=(pl.map fun p=>bytesN p.length++p).flatten
def partsL(ps:List AV)(o n:Nat):List (List UInt8):=((ps.drop o).take n).map partA
def twoA(p:AV):List AV := [.ros ((bytesN (partA p).length).map by8) 0 8 8 false,p]
def rowsA(hd:List AV)(m c:Nat)(ps:List AV)(o n:Nat):List AV := .ros hd 0 m c false::(((ps.drop o).take n).map twoA).flatten
structure TF where
 rows:List AV→Nat→Nat→List AV→Nat→Nat→List AV
 txt:List AV→List AV→Nat→Nat→List AV
 len:Nat→List AV→Nat→Nat→Nat
def tf0:TF:=⟨rowsA,fun hd ps o n=>hd++(textL (partsL ps o n)).map by8,fun m ps o n=>m+(textL (partsL ps o n)).length⟩
def P41(ks out hd:List AV)(m:Nat)(ps:List AV)(o n:Nat):Prop:=flatL ks∧flatL out∧(∃ lb:List UInt8,hd=lb.map by8∧m=lb.length)∧PPs ps o n∧n<8589934592
def PRm(ps:List AV)(o n:Nat):Prop:=∀ j,j<n→∀ pc off len cap ex,ps[o+j]? = some (.ros pc off len cap ex)→off+len≤pc.length
def P40(ks out hd:List AV)(m:Nat)(ps:List AV)(o n:Nat):Prop:=PRm ps o n∧flatL ks∧flatL out∧m≤1000∧(∃ lb:List UInt8,hd=lb.map by8∧m=lb.length)∧PPs ps o n∧(textL (partsL ps o n)).length<68719476736
noncomputable def lp41:VC:=vp [1,1,1,0,1,0,0] vf13.body
def fr41(x7:AV)(ps:List AV)(o n c:Nat)(e:Bool)(i:Nat):Fr := [.top,.top,.top,.top,.top,.top,.ptr 1 0,x7,.top,.top,.top,.top,.top,.top,.top,.top,.top,.top,.ros ps o n c e,.int .i64 (Int.ofNat n),.int .i64 (Int.ofNat i),.top,.top,.top,.top,.top,.top,.top,.top,.top,.top,.top,.top,.top,.top]
def mk41:List Bool := [true,true,true,true,true,true,false,false,true,true,true,true,true,true,true,true,true,true,false,false,false,true,true,true,true,true,true,true,true,true,true,true,true,true,true]
def ln41(F:TF):LnF:=fun n0 b fr H=>match slot fr 7,slot fr 18,H with
 | .ros [.slc 2 0 m c' 1] 0 1 1 true,.ros ps o n c e,[.cells ks,.cells out,.cells hd]=>some (n0=0∧VCis b lp41∧forget mk41 fr=fr41 (.ros [.slc 2 0 m c' 1] 0 1 1 true) ps o n c e 0∧P41 ks out hd m ps o n,
   .ok (.exit 0) (fr41 (.ros (F.rows hd m c' ps o n) 0 (2*n+1) (2*n+1) false) ps o n c e n) [.cells ks,.cells out])
 | _,_,_=>none
noncomputable def lp40:VC:=vp [1,1,1,0,1,0,0] vf16.body
def fr40(L:Nat)(ps:List AV)(o n c:Nat)(e:Bool)(i:Nat):Fr := [.top,.top,.ros ps o n c e,.top,.top,.top,.ptr 1 0,.slc 2 0 L L 1,.int .i64 (Int.ofNat i),.top,.top,.top,.top,.top,.top,.top,.top,.top,.top,.top,.top,.top,.top,.top,.top,.top,.top,.top,.top,.top,.top,.top,.top,.top,.top,.top,.top,.top]
def mk40:List Bool := [true,true,false,true,true,true,false,false,false,true,true,true,true,true,true,true,true,true,true,true,true,true,true,true,true,true,true,true,true,true,true,true,true,true,true,true,true,true]
def ln40(F:TF):LnF:=fun n0 b fr H=>match slot fr 7,slot fr 2,H with
 | .slc 2 0 m _ 1,.ros ps o n c e,[.cells ks,.cells out,.cells hd]=>some (n0=0∧VCis b lp40∧forget mk40 fr=fr40 m ps o n c e 0∧P40 ks out hd m ps o n,
   .ok (.exit 0) (fr40 (F.len m ps o n) ps o n c e n) [.cells ks,.cells out,.cells (F.txt hd ps o n)])
 | _,_,_=>none
theorem vcl41a(S:NF)(ks out hd ps:List AV)(m c' o n c:Nat)(e:Bool)(i:Nat)(Q:Ex→Fr→Hl→Prop) :
  (vm (vcA kdYes (cnN1 S) noLn) ops0 noTab 100 0 lp41 (fr41 (.ros [.ros hd 0 m c' false] 0 1 1 true) ps o n c e i) [.cells ks,.cells out] [] (bodyX mk41 Q)) =
 ((Br (ops0.cmp .lss (Int.ofNat i) (Int.ofNat n))
 (Chk (ops0.inr (Int.ofNat i) n)
 (∃ ds:(List AV),(∃ off:Nat,(∃ len:Nat,(∃ cap:Nat,(∃ e1:Bool,((Nth ps (ops0.adr o (Int.ofNat i) 1) (.ros ds off len cap e1)) ∧
 (((Int.ofNat 0)≤(ops0.cvt .u64 (ops0.ofn len))) ∧
 (Q Ex.norm (tp 6 ((.ptr 1 0)::(.slc 3 0 3 3 1)::tp 10 ((.ros ps o n c e)::(.int .i64 (.ofNat n))::(.int .i64 (ops0.bin .add .i64 (Int.ofNat i) (Int.ofNat 1)))::tp 14 ([])))) [(.cells ks),(.cells out),(.cells (MF.bytes (NF.toMF S) (ops0.cvt .u64 (ops0.ofn len)))),(.cells [(.ros hd 0 m c' Bool.false),(.slc 2 0 8 8 1),(.ros ds off len cap e1)])])))))))))
 (Q (Ex.exit 0) (tp 6 ((.ptr 1 0)::(.ros [(.ros hd 0 m c' Bool.false)] 0 1 1 Bool.true)::tp 10 ((.ros ps o n c e)::(.int .i64 (.ofNat n))::(.int .i64 (.ofNat i))::tp 14 ([])))) [(.cells ks),(.cells out)]))):=by kernel_rfl
theorem vcl41b(S:NF)(ks out rows ps:List AV)(L o n c:Nat)(e:Bool)(i:Nat)(Q:Ex→Fr→Hl→Prop) :
  (vm (vcA kdYes (cnN1 S) noLn) ops0 noTab 100 0 lp41 (fr41 (.slc 2 0 L L 1) ps o n c e i) [.cells ks,.cells out,.cells rows] [] (bodyX mk41 Q)) =
 ((Br (ops0.cmp .lss (Int.ofNat i) (Int.ofNat n))
 (Chk (ops0.inr (Int.ofNat i) n)
 (∃ ds:(List AV),(∃ off:Nat,(∃ len:Nat,(∃ cap:Nat,(∃ e1:Bool,((Nth ps (ops0.adr o (Int.ofNat i) 1) (.ros ds off len cap e1)) ∧
 (((Int.ofNat 0)≤(ops0.cvt .u64 (ops0.ofn len))) ∧
 (Chk (ops0.le (ops0.add 0 (ops0.mul L 1)) (ops0.len rows))
 (Chk (ops0.room L 2 24)
 (Q Ex.norm (tp 6 ((.ptr 1 0)::(.slc 4 0 (ops0.add L 2) (ops0.add L 2) 1)::tp 10 ((.ros ps o n c e)::(.int .i64 (.ofNat n))::(.int .i64 (ops0.bin .add .i64 (Int.ofNat i) (Int.ofNat 1)))::tp 14 ([])))) [(.cells ks),(.cells out),.dead,(.cells (MF.bytes (NF.toMF S) (ops0.cvt .u64 (ops0.ofn len)))),(.cells (ops0.app (ops0.ext rows 0 (ops0.mul L 1)) [(.slc 3 0 8 8 1),(.ros ds off len cap e1)]))])))))))))))
 (Q (Ex.exit 0) (tp 6 ((.ptr 1 0)::(.slc 2 0 L L 1)::tp 10 ((.ros ps o n c e)::(.int .i64 (.ofNat n))::(.int .i64 (.ofNat i))::tp 14 ([])))) [(.cells ks),(.cells out),(.cells rows)]))):=by kernel_rfl
theorem vcl40(S:NF)(ks out ms ps:List AV)(L o n c:Nat)(e:Bool)(i:Nat)(Q:Ex→Fr→Hl→Prop) :
  (vm (vcA kdYes (cnN1 S) noLn) ops0 noTab 100 0 lp40 (fr40 L ps o n c e i) [.cells ks,.cells out,.cells ms] [] (bodyX mk40 Q)) =
 ((Br (ops0.cmp .lss (Int.ofNat i) (ops0.ofn n))
 (Chk (ops0.inr (Int.ofNat i) n)
 (∃ ds:(List AV),(∃ off:Nat,(∃ len:Nat,(∃ cap:Nat,(∃ e1:Bool,((Nth ps (ops0.adr o (Int.ofNat i) 1) (.ros ds off len cap e1)) ∧
 (((Int.ofNat 0)≤(ops0.cvt .u64 (ops0.ofn len))) ∧
 (Chk (ops0.le (ops0.add 0 (ops0.mul L 1)) (ops0.len ms))
 (Chk (ops0.le 8 (ops0.len (MF.bytes (NF.toMF S) (ops0.cvt .u64 (ops0.ofn len)))))
 (Chk (ops0.room L 8 1)
 (Chk (ops0.inr (Int.ofNat i) n)
 (∃ ds1:(List AV),(∃ off1:Nat,(∃ len1:Nat,(∃ cap1:Nat,(∃ e2:Bool,((Nth ps (ops0.adr o (Int.ofNat i) 1) (.ros ds1 off1 len1 cap1 e2)) ∧
 (Chk (ops0.le (ops0.add 0 (ops0.mul (ops0.add L 8) 1)) (ops0.len (ops0.app (ops0.ext ms 0 (ops0.mul L 1)) (ops0.ext (MF.bytes (NF.toMF S) (ops0.cvt .u64 (ops0.ofn len))) 0 8))))
 (Chk (ops0.le (ops0.add off1 (ops0.mul len1 1)) (ops0.len ds1))
 (Chk (ops0.room (ops0.add L 8) len1 1)
 (Q Ex.norm (tp 2 ((.ros ps o n c e)::tp 3 ((.ptr 1 0)::(.slc 5 0 (ops0.add (ops0.add L 8) len1) (ops0.add (ops0.add L 8) len1) 1)::(.int .i64 (ops0.bin .add .i64 (Int.ofNat i) (Int.ofNat 1)))::tp 29 ([])))) [(.cells ks),(.cells out),.dead,(.cells (MF.bytes (NF.toMF S) (ops0.cvt .u64 (ops0.ofn len)))),.dead,(.cells (ops0.app (ops0.ext (ops0.app (ops0.ext ms 0 (ops0.mul L 1)) (ops0.ext (MF.bytes (NF.toMF S) (ops0.cvt .u64 (ops0.ofn len))) 0 8)) 0 (ops0.mul (ops0.add L 8) 1)) (ops0.ext ds1 off1 (ops0.mul len1 1))))]))))))))))))))))))))))
 (Q (Ex.exit 0) (tp 2 ((.ros ps o n c e)::tp 3 ((.ptr 1 0)::(.slc 2 0 L L 1)::(.int .i64 (.ofNat i))::tp 29 ([])))) [(.cells ks),(.cells out),(.cells ms)]))):=by kernel_rfl
theorem vc41(S:NF)(F:TF)(ks ps:List AV)(l:List UInt8)(o n c:Nat)(e:Bool)(Q:AV→Hl→Prop) :
  (vcall (vcA kdYes (cnN1 S) (ln41 F)) ops0 (tabOne 13 vf13) 200 vf13 [.agg ks,.str l,.ros ps o n c e] [] (endN (fun _=>0) Q)) =
 ((Br (ops0.cmp .gtr (ops0.ofn (ops0.slen l)) (Int.ofNat 64))
 (Q (.agg (z8 32)) [])
 (Chk (ops0.le 32 (ops0.len ks))
 (((PKey (ops0.ext ks 0 32)) ∧
 ((List.length l)≤64)) ∧
 ((((0:Nat)=0) ∧
 ((VCis lp41 lp41) ∧
 ((((tp 6 ((.ptr 1 0)::(.ros [(.slc 2 0 (ops0.add (ops0.slen l) 33) (ops0.add (ops0.slen l) 33) 1)] 0 1 1 Bool.true)::tp 10 ((.ros ps o n c e)::(.int .i64 (ops0.ofn n))::(.int .i64 (.ofNat 0))::tp 14 ([])))):Fr)=(tp 6 ((.ptr 1 0)::(.ros [(.slc 2 0 (ops0.add (ops0.slen l) 33) (ops0.add (ops0.slen l) 33) 1)] 0 1 1 Bool.true)::tp 10 ((.ros ps o n c e)::(.int .i64 (.ofNat n))::(.int .i64 (.ofNat 0))::tp 14 ([]))))) ∧
 (P41 ks (z8 32) (MF.head (NF.toMF S) (ops0.ext ks 0 32) l) (ops0.add (ops0.slen l) 33) ps o n)))) ∧
 ((PPs (List.map (vw1 [(.cells ks),(.cells (z8 32))]) (TF.rows F (MF.head (NF.toMF S) (ops0.ext ks 0 32) l) (ops0.add (ops0.slen l) 33) (ops0.add (ops0.slen l) 33) ps o n)) 0 ((2*n)+1)) ∧
 (Chk (ops0.eq (ops0.len (KF.sum (AF.toKF (NF.toAF S)) (rdP (List.map (vw1 [(.cells ks),(.cells (z8 32))]) (TF.rows F (MF.head (NF.toMF S) (ops0.ext ks 0 32) l) (ops0.add (ops0.slen l) 33) (ops0.add (ops0.slen l) 33) ps o n)) 0 ((2*n)+1)))) 32)
 (Chk (ops0.le 32 (ops0.len (ops0.spl (z8 32) 0 (KF.sum (AF.toKF (NF.toAF S)) (rdP (List.map (vw1 [(.cells ks),(.cells (z8 32))]) (TF.rows F (MF.head (NF.toMF S) (ops0.ext ks 0 32) l) (ops0.add (ops0.slen l) 33) (ops0.add (ops0.slen l) 33) ps o n)) 0 ((2*n)+1))))))
 (Q (.agg (ops0.ext (ops0.spl (z8 32) 0 (KF.sum (AF.toKF (NF.toAF S)) (rdP (List.map (vw1 [(.cells ks),(.cells (z8 32))]) (TF.rows F (MF.head (NF.toMF S) (ops0.ext ks 0 32) l) (ops0.add (ops0.slen l) 33) (ops0.add (ops0.slen l) 33) ps o n)) 0 ((2*n)+1)))) 0 32)) []))))))))):=by kernel_rfl
theorem vc40(S:NF)(F:TF)(ks ps:List AV)(l:List UInt8)(o n c:Nat)(e:Bool)(Q:AV→Hl→Prop) :
  (vcall (vcA kdYes (cnN1 S) (ln40 F)) ops0 (tabOne 16 vf16) 200 vf16 [.agg ks,.str l,.ros ps o n c e] [] (endN (fun _=>0) Q)) =
 ((Br (ops0.cmp .gtr (ops0.ofn (ops0.slen l)) (Int.ofNat 64))
 (Q (.agg (z8 32)) [])
 (Chk (ops0.le 32 (ops0.len ks))
 (((PKey (ops0.ext ks 0 32)) ∧
 ((List.length l)≤64)) ∧
 ((((0:Nat)=0) ∧
 ((VCis lp40 lp40) ∧
 ((((tp 2 ((.ros ps o n c e)::tp 3 ((.ptr 1 0)::(.slc 2 0 (ops0.add (ops0.slen l) 33) (ops0.add (ops0.slen l) 33) 1)::(.int .i64 (.ofNat 0))::tp 29 ([])))):Fr)=(tp 2 ((.ros ps o n c e)::tp 3 ((.ptr 1 0)::(.slc 2 0 (ops0.add (ops0.slen l) 33) (ops0.add (ops0.slen l) 33) 1)::(.int .i64 (.ofNat 0))::tp 29 ([]))))) ∧
 (P40 ks (z8 32) (MF.head (NF.toMF S) (ops0.ext ks 0 32) l) (ops0.add (ops0.slen l) 33) ps o n)))) ∧
 ((PB (TF.txt F (MF.head (NF.toMF S) (ops0.ext ks 0 32) l) ps o n) 0 (TF.len F (ops0.add (ops0.slen l) 33) ps o n)) ∧
 (Chk (ops0.eq (ops0.len (KF.sum (AF.toKF (NF.toAF S)) (rdB (TF.txt F (MF.head (NF.toMF S) (ops0.ext ks 0 32) l) ps o n) 0 (TF.len F (ops0.add (ops0.slen l) 33) ps o n)))) 32)
 (Chk (ops0.le 32 (ops0.len (ops0.spl (z8 32) 0 (KF.sum (AF.toKF (NF.toAF S)) (rdB (TF.txt F (MF.head (NF.toMF S) (ops0.ext ks 0 32) l) ps o n) 0 (TF.len F (ops0.add (ops0.slen l) 33) ps o n))))))
 (Q (.agg (ops0.ext (ops0.spl (z8 32) 0 (KF.sum (AF.toKF (NF.toAF S)) (rdB (TF.txt F (MF.head (NF.toMF S) (ops0.ext ks 0 32) l) ps o n) 0 (TF.len F (ops0.add (ops0.slen l) 33) ps o n)))) 0 32)) []))))))))):=by kernel_rfl
theorem fr41_ren{σ:Nat→Option Nat}{φ:Nat→Option (List AV)}(h1:σ 1=some 1){ps:List AV}(hps:Still ps)(x7:AV)(o n c:Nat)(e:Bool)(i:Nat) :
  forget mk41 (renL σ φ true (fr41 x7 ps o n c e i))=fr41 (ren σ φ true x7) ps o n c e i:=by
 unfold fr41 mk41
 simp only[renL,ren,h1,forget,hps σ φ]
theorem twoA_ros{pc:List AV}{off len cap:Nat}{ex:Bool}{lb:List UInt8}(hb:BytesAt pc off len lb) :
  twoA (.ros pc off len cap ex) = [.ros ((bytesN len).map by8) 0 8 8 false,.ros pc off len cap ex]:=by
 unfold twoA
 rw[partA_ros hb,hb.1]
theorem cvt_len{len:Nat}(h:len<1099511627776):ops0.cvt .u64 (ops0.ofn len)=Int.ofNat len:=by rw[nOfn,nC64 (by omega)]
theorem body41b{ks out rows ps pc:List AV}{o n c i off len cap:Nat}{e ex:Bool}{lb:List UInt8}(hks:flatL ks)(hout:flatL out)(hrows:Still rows)(hps:Still ps)(hi:i<n)(hn:n<8589934592)
  (hp:ps[o+i]? = some (.ros pc off len cap ex)) (hb:BytesAt pc off len lb) (hlen:len<1099511627776) (hL:rows.length=2*i+1) :
  BodyTo Tryd.prog 0 lp41 (fr41 (.slc 2 0 (2*i+1) (2*i+1) 1) ps o n c e i) [.cells ks,.cells out,.cells rows] .norm
   (fr41 (.slc 2 0 (2*(i+1)+1) (2*(i+1)+1) 1) ps o n c e (i+1)) [.cells ks,.cells out,.cells (rows++twoA (.ros pc off len cap ex))]:=by
 have h1:BodyTo Tryd.prog 0 lp41 (fr41 (.slc 2 0 (2*i+1) (2*i+1) 1) ps o n c e i) [.cells ks,.cells out,.cells rows] .norm
   (fr41 (.slc 4 0 (2*(i+1)+1) (2*(i+1)+1) 1) ps o n c e (i+1)) [.cells ks,.cells out,.dead,.cells ((bytesN len).map by8),.cells (rows ++ [.slc 3 0 8 8 1,.ros pc off len cap ex])]:=by
  have key:∀ Q:Ex→Fr→Hl→Prop,Q .norm (fr41 (.slc 4 0 (2*(i+1)+1) (2*(i+1)+1) 1) ps o n c e (i+1)) [.cells ks,.cells out,.dead,.cells ((bytesN len).map by8),.cells (rows ++ [.slc 3 0 8 8 1,.ros pc off len cap ex])] →
    vm (vcA kdYes (cnN1 nf0) noLn) ops0 noTab 100 0 lp41 (fr41 (.slc 2 0 (2*i+1) (2*i+1) 1) ps o n c e i) [.cells ks,.cells out,.cells rows] [] (bodyX mk41 Q):=by
   intro Q hQ
   rw[vcl41b,nAdd (by omega)]
   refine Br.t (by rw[nLss]; exact decide_eq_true hi) (Chk.mk (by rw[nInr]; exact decide_eq_true hi) ⟨pc,off,len,cap,ex,Nth.mk (by rw[nAdr,Nat.mul_one]; exact hp),?_,?_⟩)
   ·rw[cvt_len hlen]; exact Int.natCast_nonneg _
   ·rw[cvt_len hlen]
    refine Chk.mk (by rw[nLe,nPlus,nTimes,nLen]; exact decide_eq_true (by omega)) (Chk.mk (by rw[nRoom]; exact decide_eq_true (by omega)) ?_)
    have e1:ops0.ext rows 0 (ops0.mul (2*i+1) 1)=rows:=by rw[nExt,nTimes,List.drop_zero,List.take_of_length_le (by omega)]
    rw[e1,nApp]
    exact hQ
  exact body_x cnN1_ok (noLn_ok _) (noTab_ok _) (n:=100) (g:=kdYes) (bs:=mk41) (key _ ⟨rfl,rfl,rfl⟩) (by simp)
 have h2:=h1.post (Weak.pickV [0,1,4] mk41 2 (by simp) (by simp) (by simp))
 rw[fr41_ren (show pickN [0,1,4] 1=some 1 from rfl) hps] at h2
 have e2:viewF [.cells ks,.cells out,.dead,.cells ((bytesN len).map by8),.cells (rows ++ [.slc 3 0 8 8 1,.ros pc off len cap ex])] [0,1,4] 2 3=some ((bytesN len).map by8):=by
  show some (renL _ _ true _)=_
  rw[renL_flat (flat_by8 _)]
 have e3:pickH (viewF [.cells ks,.cells out,.dead,.cells ((bytesN len).map by8),.cells (rows ++ [.slc 3 0 8 8 1,.ros pc off len cap ex])] [0,1,4] 2) [0,1,4] [.cells ks,.cells out,.dead,.cells ((bytesN len).map by8),.cells (rows ++ [.slc 3 0 8 8 1,.ros pc off len cap ex])] =
   [.cells ks,.cells out,.cells (rows++twoA (.ros pc off len cap ex))]:=by
  have hpc:∀ σ φ,renL σ φ true pc=pc:=by
   intro σ φ
   have:=renL_get σ φ true ps (o+i)
   rw[hps σ φ,hp] at this
   simp only[Option.map_some,ren,Option.some.injEq,AV.ros.injEq,and_true] at this
   exact this.symm
  have p3:pickN [0,1,4] 3=none:=rfl
  rw[twoA_ros hb]
  show [renB _ _ true (.cells ks),renB _ _ true (.cells out),renB _ _ true (.cells (rows ++ [.slc 3 0 8 8 1,.ros pc off len cap ex]))]=_
  simp only[renB,renL_flat hks,renL_flat hout,renL_append,hrows _ _,renL,ren,p3,e2,hpc]
 have p4:pickN [0,1,4] 4=some 2:=rfl
 rw[e3] at h2
 simp only[ren,p4] at h2
 exact h2
theorem body41a{ks out hd ps pc:List AV}{m c' o n c off len cap:Nat}{e ex:Bool}{lb:List UInt8}(hks:flatL ks)(hout:flatL out)(hhd:flatL hd)(hps:Still ps)(hi:0<n)(hn:n<8589934592)
  (hp:ps[o+0]? = some (.ros pc off len cap ex)) (hb:BytesAt pc off len lb) (hlen:len<1099511627776) :
  BodyTo Tryd.prog 0 lp41 (fr41 (.ros [.ros hd 0 m c' false] 0 1 1 true) ps o n c e 0) [.cells ks,.cells out] .norm
   (fr41 (.slc 2 0 3 3 1) ps o n c e 1) [.cells ks,.cells out,.cells (.ros hd 0 m c' false::twoA (.ros pc off len cap ex))]:=by
 have h1:BodyTo Tryd.prog 0 lp41 (fr41 (.ros [.ros hd 0 m c' false] 0 1 1 true) ps o n c e 0) [.cells ks,.cells out] .norm
   (fr41 (.slc 3 0 3 3 1) ps o n c e 1) [.cells ks,.cells out,.cells ((bytesN len).map by8),.cells [.ros hd 0 m c' false,.slc 2 0 8 8 1,.ros pc off len cap ex]]:=by
  have key:∀ Q:Ex→Fr→Hl→Prop,Q .norm (fr41 (.slc 3 0 3 3 1) ps o n c e 1) [.cells ks,.cells out,.cells ((bytesN len).map by8),.cells [.ros hd 0 m c' false,.slc 2 0 8 8 1,.ros pc off len cap ex]] →
    vm (vcA kdYes (cnN1 nf0) noLn) ops0 noTab 100 0 lp41 (fr41 (.ros [.ros hd 0 m c' false] 0 1 1 true) ps o n c e 0) [.cells ks,.cells out] [] (bodyX mk41 Q):=by
   intro Q hQ
   rw[vcl41a]
   refine Br.t (by rw[nLss]; exact decide_eq_true hi) (Chk.mk (by rw[nInr]; exact decide_eq_true hi) ⟨pc,off,len,cap,ex,Nth.mk (by rw[nAdr,Nat.mul_one]; exact hp),?_,?_⟩)
   ·rw[cvt_len hlen]; exact Int.natCast_nonneg _
   ·rw[cvt_len hlen]
    exact hQ
  exact body_x cnN1_ok (noLn_ok _) (noTab_ok _) (n:=100) (g:=kdYes) (bs:=mk41) (key _ ⟨rfl,rfl,rfl⟩) (by simp)
 have h2:=h1.post (Weak.pickV [0,1,3] mk41 2 (by simp) (by simp) (by simp))
 rw[fr41_ren (show pickN [0,1,3] 1=some 1 from rfl) hps] at h2
 have e2:viewF [.cells ks,.cells out,.cells ((bytesN len).map by8),.cells [.ros hd 0 m c' false,.slc 2 0 8 8 1,.ros pc off len cap ex]] [0,1,3] 2 2=some ((bytesN len).map by8):=by
  show some (renL _ _ true _)=_
  rw[renL_flat (flat_by8 _)]
 have e3:pickH (viewF [.cells ks,.cells out,.cells ((bytesN len).map by8),.cells [.ros hd 0 m c' false,.slc 2 0 8 8 1,.ros pc off len cap ex]] [0,1,3] 2) [0,1,3] [.cells ks,.cells out,.cells ((bytesN len).map by8),.cells [.ros hd 0 m c' false,.slc 2 0 8 8 1,.ros pc off len cap ex]] =
   [.cells ks,.cells out,.cells (.ros hd 0 m c' false::twoA (.ros pc off len cap ex))]:=by
  have hpc:∀ σ φ,renL σ φ true pc=pc:=by
   intro σ φ
   have:=renL_get σ φ true ps (o+0)
   rw[hps σ φ,hp] at this
   simp only[Option.map_some,ren,Option.some.injEq,AV.ros.injEq,and_true] at this
   exact this.symm
  have p3:pickN [0,1,3] 2=none:=rfl
  rw[twoA_ros hb]
  show [renB _ _ true (.cells ks),renB _ _ true (.cells out),renB _ _ true (.cells [.ros hd 0 m c' false,.slc 2 0 8 8 1,.ros pc off len cap ex])]=_
  simp only[renB,renL_flat hks,renL_flat hout,renL,ren,p3,e2,hpc,renL_flat hhd]
 have p4:pickN [0,1,3] 3=some 2:=rfl
 rw[e3] at h2
 simp only[ren,p4] at h2
 exact h2
theorem rowsA_zero(hd:List AV)(m c:Nat)(ps:List AV)(o:Nat):rowsA hd m c ps o 0 = [.ros hd 0 m c false]:=by
 unfold rowsA
 rw[List.take_zero]; rfl
theorem rowsA_succ(hd:List AV)(m c:Nat)(ps:List AV)(o i:Nat){p:AV}(hp:ps[o+i]? = some p):rowsA hd m c ps o (i+1)=rowsA hd m c ps o i++twoA p:=by
 unfold rowsA
 have h1:(ps.drop o)[i]? = some p:=by rw[List.getElem?_drop]; exact hp
 have hlt:=(List.getElem?_eq_some_iff.1 h1).1
 have:(ps.drop o)[i]=p:=(List.getElem?_eq_some_iff.1 h1).2
 rw[List.take_succ_eq_append_getElem hlt,this,List.map_append,List.flatten_append]
 simp
theorem rowsA_length(hd:List AV)(m c:Nat)(ps:List AV)(o:Nat):∀ i,o+i≤ps.length→(rowsA hd m c ps o i).length=2*i+1
 | 0,_=>by rw[rowsA_zero]; rfl
 | i+1,h=>by
  rw[rowsA_succ hd m c ps o i (p:=ps[o+i]'(by omega)) (List.getElem?_eq_getElem (by omega)),List.length_append,rowsA_length hd m c ps o i (by omega)]
  rfl
theorem PartsAt.lt{ps:List AV}{o n:Nat}{pl:List (List UInt8)}(h:PartsAt ps o n pl)(h0:0<n):o+n≤ps.length:=by
 have hlt:n - 1<pl.length:=by rw[h.1]; omega
 obtain⟨_,pc,off,len,cap,ex,e,_⟩:=h.2.2 (n - 1) pl[n - 1] (List.getElem?_eq_getElem hlt)
 have:=(List.getElem?_eq_some_iff.1 e).1
 omega
theorem rowsA_rows{hd:List AV}(hh:flatL hd)(m c:Nat){ps:List AV}(o n:Nat)(hp:Rows1 ps):Rows1 (rowsA hd m c ps o n):=by
 intro p h
 unfold rowsA at h
 rcases List.mem_cons.1 h with rfl|h
 ·exact⟨hd,0,m,c,false,rfl,hh⟩
 ·obtain⟨l,hl,hpl⟩:=List.mem_flatten.1 h
  obtain⟨q,hq,rfl⟩:=List.mem_map.1 hl
  have hq:q∈ps:=List.mem_of_mem_drop (List.mem_of_mem_take hq)
  unfold twoA at hpl
  rcases List.mem_cons.1 hpl with rfl|hpl
  ·exact⟨_,0,8,8,false,rfl,flat_by8 _⟩
  ·obtain rfl:=List.mem_singleton.1 hpl
   exact hp p hq
def S41(ks out hd:List AV)(m c':Nat)(ps:List AV)(o n c:Nat)(e:Bool):Nat→Fr × Hl
 | 0=>(fr41 (.ros [.ros hd 0 m c' false] 0 1 1 true) ps o n c e 0,[.cells ks,.cells out])
 | i+1=>(fr41 (.slc 2 0 (2*(i+1)+1) (2*(i+1)+1) 1) ps o n c e (i+1),[.cells ks,.cells out,.cells (rowsA hd m c' ps o (i+1))])
theorem loop41{ks out hd:List AV}{m c':Nat}{ps:List AV}{o n:Nat}(c:Nat)(e:Bool)(h:P41 ks out hd m ps o n) :
  ∀ lg,LoopTo Tryd.prog 0 lp41 (fr41 (.ros [.ros hd 0 m c' false] 0 1 1 true) ps o n c e 0) [.cells ks,.cells out] lg (.exit 0) (fr41 (.ros (rowsA hd m c' ps o n) 0 (2*n+1) (2*n+1) false) ps o n c e n) [.cells ks,.cells out] (List.range 0++lg):=by
 obtain⟨hks,hout,⟨hb8,rfl,rfl⟩,⟨hr1,pl,hpl⟩,hn⟩:=h
 have hstill:=hr1.still
 have hhd:=flat_by8 hb8
 have hrows:∀ i,Still (rowsA (hb8.map by8) hb8.length c' ps o i):=fun i=>(rowsA_rows hhd _ _ _ _ hr1).still
 refine loop_chain (P:=Tryd.prog) (n0:=0) (b:=lp41) (ex := .exit 0) (by intro h;cases h) (S41 ks out (hb8.map by8) hb8.length c' ps o n c e) n 0 (fun i _ hi => ?_) ?_
 ·have hi':i<n:=by omega
  have hlt:i<pl.length:=by rw[hpl.1]; exact hi'
  obtain⟨hl,pc,off,len,cap,ex,hp,hb⟩:=hpl.2.2 i pl[i] (List.getElem?_eq_getElem hlt)
  have hlen:len<1099511627776:=by have:=hb.1;omega
  have hsucc:=rowsA_succ (hb8.map by8) hb8.length c' ps o i hp
  cases i with
  | zero =>
   have h2:=body41a (m:=hb8.length) (c':=c') (c:=c) (e:=e) hks hout hhd hstill hi' hn hp hb hlen
   rw[rowsA_zero] at hsucc
   show BodyTo _ _ _ _ _ _ _ [.cells ks,.cells out,.cells (rowsA (hb8.map by8) hb8.length c' ps o (0+1))]
   rw[hsucc]
   exact h2
  | succ i =>
   have h2:=body41b (c:=c) (e:=e) hks hout (hrows (i+1)) hstill hi' hn hp hb hlen (rowsA_length _ _ _ _ _ (i+1) (by have:=hpl.lt (by omega); omega))
   show BodyTo _ _ _ _ _ _ _ [.cells ks,.cells out,.cells (rowsA (hb8.map by8) hb8.length c' ps o (i+1+1))]
   rw[hsucc]
   exact h2
 ·rw[Nat.zero_add]
  cases n with
  | zero =>
   have h1:BodyTo Tryd.prog 0 lp41 (fr41 (.ros [.ros (hb8.map by8) 0 hb8.length c' false] 0 1 1 true) ps o 0 c e 0) [.cells ks,.cells out] (.exit 0) (fr41 (.ros [.ros (hb8.map by8) 0 hb8.length c' false] 0 1 1 true) ps o 0 c e 0) [.cells ks,.cells out]:=by
    refine body_x cnN1_ok (noLn_ok _) (noTab_ok _) (n:=100) (g:=kdYes) (bs:=mk41) ?_ (by simp)
    rw[vcl41a]
    exact Br.f rfl ⟨rfl,rfl,rfl⟩
   refine h1.post (Weak.le (by simp) ?_)
   rw[rowsA_zero]
   exact FLe.put (fr:=fr41 (.ros [.ros (hb8.map by8) 0 hb8.length c' false] 0 1 1 true) ps o 0 c e 0) (k:=7) rfl (VLe.loose _ _ _ _ _)
  | succ n =>
   have h1:BodyTo Tryd.prog 0 lp41 (fr41 (.slc 2 0 (2*(n+1)+1) (2*(n+1)+1) 1) ps o (n+1) c e (n+1)) [.cells ks,.cells out,.cells (rowsA (hb8.map by8) hb8.length c' ps o (n+1))] (.exit 0)
     (fr41 (.slc 2 0 (2*(n+1)+1) (2*(n+1)+1) 1) ps o (n+1) c e (n+1)) [.cells ks,.cells out,.cells (rowsA (hb8.map by8) hb8.length c' ps o (n+1))]:=by
    refine body_x cnN1_ok (noLn_ok _) (noTab_ok _) (n:=100) (g:=kdYes) (bs:=mk41) ?_ (by simp)
    rw[vcl41b]
    exact Br.f (by rw[nLss]; exact decide_eq_false (by omega)) ⟨rfl,rfl,rfl⟩
   have h2:=h1.post (Weak.pickV [0,1] mk41 2 (by simp) (by simp) (by simp))
   rw[fr41_ren (show pickN [0,1] 1=some 1 from rfl) hstill] at h2
   have e2:viewF [.cells ks,.cells out,.cells (rowsA (hb8.map by8) hb8.length c' ps o (n+1))] [0,1] 2 2=some (rowsA (hb8.map by8) hb8.length c' ps o (n+1)):=by
    show some (renL _ _ true _)=_
    rw[hrows (n+1)]
   have p2:pickN [0,1] 2=none:=rfl
   have e3:pickH (viewF [.cells ks,.cells out,.cells (rowsA (hb8.map by8) hb8.length c' ps o (n+1))] [0,1] 2) [0,1] [.cells ks,.cells out,.cells (rowsA (hb8.map by8) hb8.length c' ps o (n+1))] = [.cells ks,.cells out]:=by
    show [renB _ _ true (.cells ks),renB _ _ true (.cells out)]=_
    simp only[renB,renL_flat hks,renL_flat hout]
   rw[e3] at h2
   simp only[ren,p2,e2] at h2
   exact h2
theorem ln41_ok:LnOK Tryd.prog (ln41 tf0):=by
 intro n0 b fr H p x e hn hp lg
 unfold ln41 at e
 split at e<;>cases e
 rename_i m c' ps o n c e ks out hd h1 h2
 obtain⟨rfl,hb,hf,hp⟩:=hp
 have hb:b=lp41:=hb
 subst hb
 have hp':=hp
 obtain⟨hks,hout,⟨hb8,rfl,rfl⟩,⟨hr1,pl,hpl⟩,hn⟩:=hp'
 have hw:=(Weak.forget (n0:=0) (fr:=fr) (H := [.cells ks,.cells out,.cells (hb8.map by8)]) (by simp) mk41)
 rw[hf] at hw
 have hw2:=hw.trans (Weak.pickV [0,1] mk41 2 (by simp) (by simp) (by simp))
 rw[fr41_ren (show pickN [0,1] 1=some 1 from rfl) hr1.still] at hw2
 have e2:viewF [.cells ks,.cells out,.cells (hb8.map by8)] [0,1] 2 2=some (hb8.map by8):=by
  show some (renL _ _ true _)=_
  rw[renL_flat (flat_by8 _)]
 have p2:pickN [0,1] 2=none:=rfl
 have e3:pickH (viewF [.cells ks,.cells out,.cells (hb8.map by8)] [0,1] 2) [0,1] [.cells ks,.cells out,.cells (hb8.map by8)] = [.cells ks,.cells out]:=by
  show [renB _ _ true (.cells ks),renB _ _ true (.cells out)]=_
  simp only[renB,renL_flat hks,renL_flat hout]
 rw[e3] at hw2
 simp only[ren,renL,p2,e2] at hw2
 exact LoopTo.pre hw2 (loop41 c e hp) lg
theorem fr40_ren{σ:Nat→Option Nat}{φ:Nat→Option (List AV)}(h1:σ 1=some 1)(h5:σ 5=some 2){ps:List AV}(hps:Still ps)(L o n c:Nat)(e:Bool)(i:Nat) :
  forget mk40 (renL σ φ true (put (fr40 L ps o n c e i) 7 (.slc 5 0 L L 1)))=fr40 L ps o n c e i:=by
 unfold fr40 mk40
 simp only[put_succ,put_zero,renL,ren,h1,h5,forget,hps σ φ]
theorem textL_snoc(pl:List (List UInt8))(p:List UInt8):textL (pl ++ [p])=textL pl++(bytesN p.length++p):=by
 unfold textL
 rw[List.map_append,List.flatten_append]
 simp
theorem partsL_succ(ps:List AV)(o i:Nat){p:AV}(hp:ps[o+i]? = some p):partsL ps o (i+1)=partsL ps o i ++ [partA p]:=by
 unfold partsL
 have h1:(ps.drop o)[i]? = some p:=by rw[List.getElem?_drop]; exact hp
 have hlt:=(List.getElem?_eq_some_iff.1 h1).1
 have:(ps.drop o)[i]=p:=(List.getElem?_eq_some_iff.1 h1).2
 rw[List.take_succ_eq_append_getElem hlt,this,List.map_append]
 rfl
theorem partsL_zero(ps:List AV)(o:Nat):partsL ps o 0 = []:=by
 unfold partsL
 rw[List.take_zero]; rfl
theorem textL_nil:textL [] = []:=rfl
theorem bytesN_length(k:Nat):(bytesN k).length=8:=rfl
theorem textL_mono(a b:List (List UInt8)):(textL a).length≤(textL (a++b)).length:=by
 unfold textL
 rw[List.map_append,List.flatten_append,List.length_append]
 omega
theorem textL_ge(a:List (List UInt8)):8*a.length≤(textL a).length:=by
 induction a with
 | nil=>simp
 | cons x xs ih =>
  unfold textL at ih ⊢
  rw[List.map_cons,List.flatten_cons,List.length_append,List.length_append,bytesN_length,List.length_cons]
  omega
theorem partsL_le(ps:List AV)(o:Nat){i n:Nat}(h:i≤n):(textL (partsL ps o i)).length≤(textL (partsL ps o n)).length:=by
 have:partsL ps o n=partsL ps o i++(((ps.drop o).drop i).take (n - i)).map partA:=by
  unfold partsL
  rw[←List.map_append]
  congr 1
  have h2:=List.take_add (l:=ps.drop o) (i:=i) (j:=n - i)
  rw[Nat.add_sub_cancel' h] at h2
  exact h2
 rw[this]
 exact textL_mono _ _
theorem body40{ks out ps pc:List AV}{o n c i off len cap:Nat}{e ex:Bool}{lb tb:List UInt8}(hks:flatL ks)(hout:flatL out)(hps:Still ps)(hi:i<n)(hn:n<8589934592)
    (hp:ps[o+i]? = some (.ros pc off len cap ex)) (hb:BytesAt pc off len lb) (hro:off+len≤pc.length) (hlen:tb.length+(8+len)<137438953472) :
    BodyTo Tryd.prog 0 lp40 (fr40 tb.length ps o n c e i) [.cells ks,.cells out,.cells (tb.map by8)] .norm
      (fr40 (tb++(bytesN len++lb)).length ps o n c e (i+1)) [.cells ks,.cells out,.cells ((tb++(bytesN len++lb)).map by8)]:=by
  have hll:=hb.1
  have hL:(tb++(bytesN len++lb)).length=tb.length+8+len:=by rw[List.length_append,List.length_append,bytesN_length,hll]; omega
  have h1:BodyTo Tryd.prog 0 lp40 (fr40 tb.length ps o n c e i) [.cells ks,.cells out,.cells (tb.map by8)] .norm
      (put (fr40 (tb++(bytesN len++lb)).length ps o n c e (i+1)) 7 (.slc 5 0 (tb++(bytesN len++lb)).length (tb++(bytesN len++lb)).length 1))
      [.cells ks,.cells out,.dead,.cells ((bytesN len).map by8),.dead,.cells ((tb++(bytesN len++lb)).map by8)]:=by
    have key : ∀ Q : Ex → Fr → Hl → Prop, Q .norm (put (fr40 (tb ++ (bytesN len ++ lb)).length ps o n c e (i + 1)) 7 (.slc 5 0 (tb ++ (bytesN len ++ lb)).length (tb ++ (bytesN len ++ lb)).length 1))
          [.cells ks,.cells out,.dead,.cells ((bytesN len).map by8),.dead,.cells ((tb++(bytesN len++lb)).map by8)] →
        vm (vcA kdYes (cnN1 nf0) noLn) ops0 noTab 100 0 lp40 (fr40 tb.length ps o n c e i) [.cells ks,.cells out,.cells (tb.map by8)] [] (bodyX mk40 Q):=by
      intro Q hQ
      rw[vcl40,nAdd (by omega)]
      have e0:MF.bytes (NF.toMF nf0) (Int.ofNat len)=(bytesN len).map by8:=rfl
      have e1:ops0.ext (tb.map by8) 0 (ops0.mul tb.length 1)=tb.map by8:=by rw[nExt,nTimes,List.drop_zero,List.take_of_length_le (by simp)]
      have e2:ops0.ext ((bytesN len).map by8) 0 8=(bytesN len).map by8:=rfl
      have e3:ops0.ext pc off (ops0.mul len 1)=lb.map by8:=by rw[nExt,nTimes,Nat.mul_one]; exact hb.2
      have e4:ops0.ext (ops0.app (tb.map by8) ((bytesN len).map by8)) 0 (ops0.mul (ops0.add tb.length 8) 1)=(tb++bytesN len).map by8:=by
        rw[nExt,nTimes,nPlus,nApp,←List.map_append,List.drop_zero,List.take_of_length_le (by simp[bytesN_length])]
      refine Br.t (by rw[nOfn,nLss]; exact decide_eq_true hi) (Chk.mk (by rw[nInr]; exact decide_eq_true hi) ⟨pc,off,len,cap,ex,Nth.mk (by rw[nAdr,Nat.mul_one]; exact hp),?_,?_⟩)
      · rw[cvt_len (by omega)]; exact Int.natCast_nonneg _
      · rw[cvt_len (by omega),e0,e1,e2]
        refine Chk.mk (by rw[nLe,nPlus,nTimes,nLen]; exact decide_eq_true (by simp)) (Chk.mk (by rw[nLe,nLen]; exact decide_eq_true (by simp[bytesN_length])) (Chk.mk (by rw[nRoom]; exact decide_eq_true (by omega)) (Chk.mk (by rw[nInr]; exact decide_eq_true hi)
          ⟨pc,off,len,cap,ex,Nth.mk (by rw[nAdr,Nat.mul_one]; exact hp),?_⟩)))
        rw[e4,e3]
        refine Chk.mk (by rw[nLe,nPlus,nPlus,nTimes,nLen,nApp]; exact decide_eq_true (by simp[bytesN_length])) (Chk.mk (by rw[nLe,nPlus,nTimes,nLen]; exact decide_eq_true (by omega)) (Chk.mk (by rw[nRoom,nPlus]; exact decide_eq_true (by omega)) ?_))
        rw[nPlus,nPlus,nApp,←List.map_append,List.append_assoc,←hL]
        exact hQ
    exact body_x cnN1_ok (noLn_ok _) (noTab_ok _) (n:=100) (g:=kdYes) (bs:=mk40) (key _ ⟨rfl,rfl,rfl⟩) (by simp)
  have h2:=h1.post (Weak.pick [0,1,5] mk40 (by simp) (by simp) (by simp))
  have e5:wkF [0,1,5] mk40 (put (fr40 (tb++(bytesN len++lb)).length ps o n c e (i+1)) 7 (.slc 5 0 (tb++(bytesN len++lb)).length (tb++(bytesN len++lb)).length 1))=fr40 (tb++(bytesN len++lb)).length ps o n c e (i+1) :=
    fr40_ren (show pickN [0,1,5] 1=some 1 from rfl) (show pickN [0,1,5] 5=some 2 from rfl) hps _ _ _ _ _ _
  have e6:wkH [0,1,5] [.cells ks,.cells out,.dead,.cells ((bytesN len).map by8),.dead,.cells ((tb++(bytesN len++lb)).map by8)] = [.cells ks,.cells out,.cells ((tb++(bytesN len++lb)).map by8)]:=by
    show [renB _ _ true (.cells ks),renB _ _ true (.cells out),renB _ _ true (.cells _)]=_
    simp only[renB,renL_flat hks,renL_flat hout,renL_flat (flat_by8 _)]
  rw[e5,e6] at h2
  exact h2
theorem BytesAt.room{pc:List AV}{off len:Nat}{lb:List UInt8}(h:BytesAt pc off len lb):len=0∨off+len≤pc.length:=by
 have h1:=congrArg List.length h.2
 rw[List.length_take,List.length_drop,List.length_map,h.1] at h1
 omega
theorem loop40{ks out hd:List AV}{m:Nat}{ps:List AV}{o n:Nat}(c:Nat)(e:Bool)(h:P40 ks out hd m ps o n) :
  ∀ lg,LoopTo Tryd.prog 0 lp40 (fr40 m ps o n c e 0) [.cells ks,.cells out,.cells hd] lg (.exit 0) (fr40 (m+(textL (partsL ps o n)).length) ps o n c e n) [.cells ks,.cells out,.cells (hd++(textL (partsL ps o n)).map by8)] (List.range 0++lg):=by
 obtain⟨hroom,hks,hout,hm,⟨hb8,rfl,rfl⟩,⟨hr1,pl,hpl⟩,hn⟩:=h
 have hstill:=hr1.still
 have hpn:(partsL ps o n).length=n:=by
  have:=hpl.parts
  unfold partsL
  rw[this]; exact hpl.1
 have hge:=textL_ge (partsL ps o n)
 rw[hpn] at hge
 have h:=loop_chain (P:=Tryd.prog) (n0:=0) (b:=lp40) (ex := .exit 0) (fr':=fr40 (hb8++textL (partsL ps o n)).length ps o n c e n) (H' := [.cells ks,.cells out,.cells ((hb8++textL (partsL ps o n)).map by8)]) (by intro h;cases h)
  (fun i=>(fr40 (hb8++textL (partsL ps o i)).length ps o n c e i,[.cells ks,.cells out,.cells ((hb8++textL (partsL ps o i)).map by8)])) n 0 (fun i _ hi => ?_) ?_
 ·rw[List.length_append,List.map_append] at h
  simpa[partsL_zero,textL_nil] using h
 ·have hi':i<n:=by omega
  have hlt:i<pl.length:=by rw[hpl.1]; exact hi'
  obtain⟨hl,pc,off,len,cap,ex,hp,hb⟩:=hpl.2.2 i pl[i] (List.getElem?_eq_getElem hlt)
  have hll:=hb.1
  have hs:textL (partsL ps o (i+1))=textL (partsL ps o i)++(bytesN len++pl[i]):=by
   rw[partsL_succ ps o i hp,partA_ros hb,textL_snoc,hll]
  have hle:=partsL_le ps o (show i+1≤n by omega)
  rw[hs,List.length_append,List.length_append,bytesN_length,hll] at hle
  have h2:=body40 (tb:=hb8++textL (partsL ps o i)) (c:=c) (e:=e) hks hout hstill hi' (by omega) hp hb (hroom i hi' _ _ _ _ _ hp) (by rw[List.length_append]; omega)
  show BodyTo _ _ _ (fr40 (hb8++textL (partsL ps o i)).length ps o n c e i) [.cells ks,.cells out,.cells ((hb8++textL (partsL ps o i)).map by8)] _ (fr40 (hb8++textL (partsL ps o (i+1))).length ps o n c e (i+1)) [.cells ks,.cells out,.cells ((hb8++textL (partsL ps o (i+1))).map by8)]
  rw[hs,←List.append_assoc]
  exact h2
 ·rw[Nat.zero_add]
  refine body_x cnN1_ok (noLn_ok _) (noTab_ok _) (n:=100) (g:=kdYes) (bs:=mk40) ?_ (by simp)
  show vm _ _ _ _ _ _ (fr40 (hb8++textL (partsL ps o n)).length ps o n c e n) [.cells ks,.cells out,.cells ((hb8++textL (partsL ps o n)).map by8)] _ _
  rw[vcl40]
  exact Br.f (by rw[nOfn,nLss]; exact decide_eq_false (by omega)) ⟨rfl,rfl,rfl⟩
theorem ln40_ok:LnOK Tryd.prog (ln40 tf0):=by
 intro n0 b fr H p x e hn hp lg
 unfold ln40 at e
 split at e<;>cases e
 rename_i m c' ps o n c e ks out hd h1 h2
 obtain⟨rfl,hb,hf,hp⟩:=hp
 have hb:b=lp40:=hb
 subst hb
 refine LoopTo.pre (Weak.forget (by simp) mk40) ?_ lg
 rw[hf]
 exact loop40 c e hp
def tagL(key l:List UInt8)(pl:List (List UInt8)):List UInt8:=if 64<l.length then List.replicate 32 0 else streamF 136 6 32 (headL key l++textL pl)
def PTag(ps:List AV)(o n:Nat):Prop:=PPs ps o n∧PRm ps o n∧(textL (partsL ps o n)).length<68719476736
theorem tagL_length(key l:List UInt8)(pl:List (List UInt8)):(tagL key l pl).length=32:=by
 unfold tagL
 split
 ·simp
 ·exact streamF_length _ _ _ _
theorem PartsAt.append{a b:List AV}{n m:Nat}{pl ql:List (List UInt8)}(h:PartsAt a 0 n pl)(k:PartsAt b 0 m ql)(hl:a.length=n)(hlt:n+m<1099511627776):PartsAt (a++b) 0 (n+m) (pl++ql):=by
 refine⟨by rw[List.length_append,h.1,k.1],hlt,fun j lb hj => ?_⟩
 rw[Nat.zero_add]
 rcases Nat.lt_or_ge j n with hjn|hjn
 ·rw[List.getElem?_append_left (by rw[h.1]; exact hjn)] at hj
  rw[List.getElem?_append_left (by omega)]
  have:=h.2.2 j lb hj
  rw[Nat.zero_add] at this
  exact this
 ·rw[List.getElem?_append_right (by rw[h.1]; exact hjn),h.1] at hj
  rw[List.getElem?_append_right (by omega),hl]
  have:=k.2.2 (j - n) lb hj
  rw[Nat.zero_add] at this
  exact this
theorem bytesAt_whole(lb:List UInt8):BytesAt (lb.map by8) 0 lb.length lb:=⟨rfl,by rw[List.drop_zero,List.take_of_length_le (by simp)]⟩
def plR(hb:List UInt8)(pl:List (List UInt8)):List (List UInt8):=hb::(pl.map fun p => [bytesN p.length,p]).flatten
theorem plR_flat(hb:List UInt8)(pl:List (List UInt8)):(plR hb pl).flatten=hb++textL pl:=by
 unfold plR textL
 rw[List.flatten_cons]
 congr 1
 induction pl with
 | nil=>rfl
 | cons x xs ih =>
  rw[List.map_cons,List.flatten_cons,List.flatten_append,ih,List.map_cons,List.flatten_cons]
  simp
theorem rows_parts(hb:List UInt8)(hh:hb.length<1099511627776)(c:Nat){ps:List AV}{o n:Nat}{pl:List (List UInt8)}(hpl:PartsAt ps o n pl)(hn:n<8589934592) :
  ∀ i,i≤n→PartsAt (rowsA (hb.map by8) hb.length c ps o i) 0 (2*i+1) (plR hb (pl.take i))
 | 0,_=>by
  rw[rowsA_zero,List.take_zero]
  refine⟨rfl,by omega,fun j lb hj => ?_⟩
  cases j with
  | zero =>
   obtain rfl:hb=lb:=Option.some.inj hj
   exact⟨hh,_,_,_,_,_,rfl,bytesAt_whole hb⟩
  | succ j=>cases hj
 | i+1,hi=>by
  have ih:=rows_parts hb hh c hpl hn i (by omega)
  have hlt:i<pl.length:=by rw[hpl.1]; exact hi
  obtain⟨hl,pc,off,len,cap,ex,hp,hbt⟩:=hpl.2.2 i pl[i] (List.getElem?_eq_getElem hlt)
  have hll:=hbt.1
  rw[rowsA_succ _ _ _ _ _ _ hp,List.take_succ_eq_append_getElem hlt,twoA_ros hbt]
  have e1:plR hb (pl.take i ++ [pl[i]])=plR hb (pl.take i) ++ [bytesN len,pl[i]]:=by
   unfold plR
   rw[List.map_append,List.flatten_append,←hll]
   simp
  rw[e1]
  refine ih.append (m:=2) ⟨rfl,by omega,fun j lb hj => ?_⟩ (rowsA_length _ _ _ _ _ i (by have:=hpl.lt (by omega); omega)) (by omega)
  cases j with
  | zero =>
   obtain rfl:bytesN len=lb:=Option.some.inj hj
   exact⟨by rw[bytesN_length]; omega,_,_,_,_,_,rfl,bytesAt_whole (bytesN len)⟩
  | succ j =>
   cases j with
   | zero =>
    obtain rfl:pl[i]=lb:=Option.some.inj hj
    exact⟨hl,_,_,_,_,_,rfl,hbt⟩
   | succ j=>cases hj
theorem map_vw1(H:Hl){ps:List AV}(h:Rows1 ps):ps.map (vw1 H)=ps:=by
 have:∀ p∈ps,vw1 H p=p:=by
  intro p hp
  obtain⟨cs,o,n,c,e,rfl,_⟩:=h p hp
  rfl
 rw[List.map_congr_left this,List.map_id'']
 intro a;rfl
theorem keep32{xs:List AV}(h:xs.length=32):ops0.ext (ops0.spl (z8 32) 0 xs) 0 32=xs:=by
 rw[spl_all (by rw[z8_length,h]),nExt,List.drop_zero,List.take_of_length_le (by omega)]
theorem lab_lt{l:List UInt8}(h:ops0.cmp .gtr (ops0.ofn (ops0.slen l)) (Int.ofNat 64)=true):64<l.length:=by
 rw[nOfn,nSlen,nGtr] at h;exact of_decide_eq_true h
theorem lab_le{l:List UInt8}(h:ops0.cmp .gtr (ops0.ofn (ops0.slen l)) (Int.ofNat 64)=false):¬ 64<l.length:=by
 rw[nOfn,nSlen,nGtr] at h;exact of_decide_eq_false h
theorem tag41{key l:List UInt8}(hk:key.length=32){ps:List AV}{o n:Nat}(c:Nat)(e:Bool)(h:PTag ps o n) :
  CallTo Tryd.prog 13 [.agg (key.map by8),.str l,.ros ps o n c e] [] (.agg ((tagL key l (partsL ps o n)).map by8)) [] []:=by
 refine call_n cnN1_ok ln41_ok (tabOne_ok ok13) (tabOne_self 13 vf13) (n:=200) (g:=kdYes) (m:=fun _=>0) [] ?_ (by simp) (by show AV.agg _=_;rw[renL_flat (flat_by8 _)]) (by simp)
 rw[vc41]
 refine Br.mk (fun hl => ?_) (fun hl => ?_)
 ·have hl:=lab_lt hl
  refine⟨?_,rfl⟩
  rw[z8_eq]
  unfold tagL
  rw[if_pos hl]
 ·have hl:=lab_le hl
  obtain⟨⟨hr1,pl,hpl⟩,hroom,htot⟩:=h
  have hpe:partsL ps o n=pl:=hpl.parts
  have hge:=textL_ge (partsL ps o n)
  rw[hpe,hpl.1] at hge
  rw[hpe] at htot
  have hkl:(key.map by8).length=32:=by rw[List.length_map,hk]
  have e1:ops0.ext (key.map by8) 0 32=key.map by8:=by rw[nExt,List.drop_zero,List.take_of_length_le (by omega)]
  have e2:MF.head (NF.toMF nf0) (key.map by8) l=(headL key l).map by8:=by
   show(headL (bytesA (key.map by8)) l).map by8=_
   rw[bytesA_by8]
  have e3:ops0.add (ops0.slen l) 33=(headL key l).length:=by rw[nPlus,nSlen,headL_length,hk]
  have e4:TF.rows tf0 ((headL key l).map by8) (headL key l).length (headL key l).length ps o n=rowsA ((headL key l).map by8) (headL key l).length (headL key l).length ps o n:=rfl
  rw[e1,e2,e3,e4]
  have hhl:=headL_length key l
  have hrows:=rowsA_rows (flat_by8 (headL key l)) (headL key l).length (headL key l).length o n hr1
  have hparts:=rows_parts (headL key l) (by omega) (headL key l).length hpl (by omega) n (Nat.le_refl n)
  rw[List.take_of_length_le (by rw[hpl.1]; omega)] at hparts
  rw[map_vw1 _ hrows]
  have e5:KF.sum (AF.toKF (NF.toAF nf0)) (rdP (rowsA ((headL key l).map by8) (headL key l).length (headL key l).length ps o n) 0 (2*n+1))=(streamF 136 6 32 (headL key l++textL pl)).map by8:=by
   show(streamF 136 6 32 (rdP _ 0 (2*n+1))).map by8=_
   have:rdP (rowsA ((headL key l).map by8) (headL key l).length (headL key l).length ps o n) 0 (2*n+1)=headL key l++textL pl:=by
    unfold rdP
    rw[hparts.parts,plR_flat]
   rw[this]
  rw[e5]
  have hsl:((streamF 136 6 32 (headL key l++textL pl)).map by8).length=32:=by rw[List.length_map,streamF_length]
  rw[keep32 hsl]
  refine Chk.mk (by rw[nLe,nLen]; exact decide_eq_true (by omega)) ⟨⟨⟨key,hk,rfl⟩,by omega⟩,⟨rfl,rfl,rfl,flat_by8 _,z8_flat _,⟨_,rfl,rfl⟩,⟨hr1,pl,hpl⟩,by omega⟩,⟨hrows,_,hparts⟩,
   Chk.mk (by rw[nEq,nLen]; exact decide_eq_true hsl) (Chk.mk (by rw[nLe,nLen,spl_all (by rw[z8_length,hsl])]; exact decide_eq_true (by omega)) ⟨?_,rfl⟩)⟩
  unfold tagL
  rw[if_neg hl,hpe]
theorem tag40{key l:List UInt8}(hk:key.length=32){ps:List AV}{o n:Nat}(c:Nat)(e:Bool)(h:PTag ps o n) :
  CallTo Tryd.prog 16 [.agg (key.map by8),.str l,.ros ps o n c e] [] (.agg ((tagL key l (partsL ps o n)).map by8)) [] []:=by
 refine call_n cnN1_ok ln40_ok (tabOne_ok ok16) (tabOne_self 16 vf16) (n:=200) (g:=kdYes) (m:=fun _=>0) [] ?_ (by simp) (by show AV.agg _=_;rw[renL_flat (flat_by8 _)]) (by simp)
 rw[vc40]
 refine Br.mk (fun hl => ?_) (fun hl => ?_)
 ·have hl:=lab_lt hl
  refine⟨?_,rfl⟩
  rw[z8_eq]
  unfold tagL
  rw[if_pos hl]
 ·have hl:=lab_le hl
  obtain⟨hpps,hroom,htot⟩:=h
  have hkl:(key.map by8).length=32:=by rw[List.length_map,hk]
  have e1:ops0.ext (key.map by8) 0 32=key.map by8:=by rw[nExt,List.drop_zero,List.take_of_length_le (by omega)]
  have e2:MF.head (NF.toMF nf0) (key.map by8) l=(headL key l).map by8:=by
   show(headL (bytesA (key.map by8)) l).map by8=_
   rw[bytesA_by8]
  have e3:ops0.add (ops0.slen l) 33=(headL key l).length:=by rw[nPlus,nSlen,headL_length,hk]
  have hhl:=headL_length key l
  have e4:TF.txt tf0 ((headL key l).map by8) ps o n=(headL key l++textL (partsL ps o n)).map by8:=by rw[List.map_append]; rfl
  have e6:TF.len tf0 (headL key l).length ps o n=(headL key l++textL (partsL ps o n)).length:=by rw[List.length_append]; rfl
  rw[e1,e2,e3,e4,e6]
  have e5:KF.sum (AF.toKF (NF.toAF nf0)) (rdB ((headL key l++textL (partsL ps o n)).map by8) 0 (headL key l++textL (partsL ps o n)).length)=(streamF 136 6 32 (headL key l++textL (partsL ps o n))).map by8:=by
   show(streamF 136 6 32 (rdB _ 0 _)).map by8=_
   rw[rdB_eq (bytesAt_whole _)]
  rw[e5]
  have hsl:((streamF 136 6 32 (headL key l++textL (partsL ps o n))).map by8).length=32:=by rw[List.length_map,streamF_length]
  rw[keep32 hsl]
  refine Chk.mk (by rw[nLe,nLen]; exact decide_eq_true (by omega)) ⟨⟨⟨key,hk,rfl⟩,by omega⟩,⟨rfl,rfl,rfl,hroom,flat_by8 _,z8_flat _,by omega,⟨_,rfl,rfl⟩,hpps,htot⟩,⟨flat_by8 _,by simp,by rw[List.length_append]; omega,_,bytesAt_whole _⟩,
   Chk.mk (by rw[nEq,nLen]; exact decide_eq_true hsl) (Chk.mk (by rw[nLe,nLen,spl_all (by rw[z8_length,hsl])]; exact decide_eq_true (by omega)) ⟨?_,rfl⟩)⟩
  unfold tagL
  rw[if_neg hl]
end
end Go.Proofs.Vm

namespace Go.Proofs.Vm
set_option maxRecDepth 100000
open Go.Vm
noncomputable section
structure GF where
 tag:List AV→List UInt8→List (List UInt8)→List AV
def gf0:GF:=⟨fun ks l pl=>(tagL (bytesA ks) l pl).map by8⟩
def cnT(S:GF):CnF:=fun f vals H=>match f,vals with
 | 13,[.agg ks,.str l,x]=>match vw2 H x with
  | .ros ps o n _ _=>some (PKey ks∧PTag ps o n,.ok (.agg (S.tag ks l (partsL ps o n))) H [])
  | _=>none
 | 16,[.agg ks,.str l,x]=>match vw2 H x with
  | .ros ps o n _ _=>some (PKey ks∧PTag ps o n,.ok (.agg (S.tag ks l (partsL ps o n))) H [])
  | _=>none
 | _,_=>none
structure NG extends NF where
 toGF:GF
def ng0:NG := { nf0 with toGF:=gf0 }
def cnN2(S:NG):CnF:=cnOr (cnT S.toGF) (cnN1 S.toNF)
structure WF where
 msk:List AV→List AV→Nat→Nat→List AV
 acc:Nat→List AV→Nat→List AV→Nat→Nat→Nat
def xorL(a b:List UInt8):List UInt8:=List.zipWith (fun x y=>x ^^^ y) a b
def accN(z:Nat)(a b:List UInt8):Nat→Nat
 | 0=>z
 | i+1=>accN z a b i ||| ((a.getD i 0).toNat ^^^ (b.getD i 0).toNat)
def wf0:WF:=⟨fun ms pc off len=>(xorL (bytesA ms) (rdB pc off len)).map by8,fun z pa oa pb ob m=>accN z (rdB pa oa m) (rdB pb ob m) m⟩
def P37(ms pc:List AV)(off len m:Nat):Prop:=flatL pc∧m=len∧len<1099511627776∧(∃ lb,BytesAt pc off len lb)∧∃ mb:List UInt8,mb.length=len∧ms=mb.map by8
noncomputable def lp37:VC:=vp [1,1,1,0,1,0,0] vf24.body
def fr37(x7:AV)(pc:List AV)(off len cap:Nat)(ex:Bool)(i:Nat):Fr := [.top,.top,.top,.top,.top,.top,.top,x7,.top,.top,.top,.top,.top,.top,.top,.top,.top,.top,.top,.top,.top,.top,.top,.top,.top,.ros pc off len cap ex,.int .i64 (Int.ofNat len),.int .i64 (Int.ofNat i),.top,.top,.top,.top,.top,.top,.top,.top,.top,.top,.top,.top,.top]
def mk37:List Bool := [true,true,true,true,true,true,true,false,true,true,true,true,true,true,true,true,true,true,true,true,true,true,true,true,true,false,false,false,true,true,true,true,true,true,true,true,true,true,true,true,true]
def ln37(F:WF):LnF:=fun n0 b fr H=>match slot fr 7,slot fr 25,H with
 | .slc 2 0 m c 1,.ros pc off len cap ex,[.cells ks,.cells hd,.cells ms]=>some (n0=0∧VCis b lp37∧forget mk37 fr=fr37 (.slc 2 0 m c 1) pc off len cap ex 0∧P37 ms pc off len m,
   .ok (.exit 0) (fr37 (.slc 2 0 m c 1) pc off len cap ex len) [.cells ks,.cells hd,.cells (F.msk ms pc off len)])
 | .nils,.ros pc off len cap ex,[.cells ks,.cells hd]=>some (n0=0∧VCis b lp37∧forget mk37 fr=fr37 .nils pc off len cap ex 0∧len=0,
   .ok (.exit 0) (fr37 .nils pc off len cap ex 0) [.cells ks,.cells hd])
 | _,_,_=>none
def P39(ks hd ms pc:List AV)(off len m:Nat):Prop:=flatL ks∧flatL hd∧flatL pc∧m=len∧len≤65536∧(∃ lb,BytesAt pc off len lb)∧∃ mb:List UInt8,mb.length=len∧ms=mb.map by8
noncomputable def lp39:VC:=vp [1,1,1,1,0,1,0,0] vf9.body
def fr39(x7:AV)(x8:AV)(pc:List AV)(off len cap:Nat)(ex:Bool)(i:Nat):Fr := [.top,.top,.ros pc off len cap ex,.top,.top,.top,.top,x7,x8,.int .i64 (Int.ofNat i),.top,.top,.top,.top,.top,.top,.top,.top,.top,.top,.top,.top,.top,.top,.top,.top,.top,.top,.top,.top,.top,.top,.top,.top,.top,.top,.top,.top,.top,.top,.top,.top,.top]
def mk39:List Bool := [true,true,false,true,true,true,true,false,false,false,true,true,true,true,true,true,true,true,true,true,true,true,true,true,true,true,true,true,true,true,true,true,true,true,true,true,true,true,true,true,true,true,true]
def ln39(F:WF):LnF:=fun n0 b fr H=>match slot fr 7,slot fr 2,H with
 | .slc 2 0 m c 1,.ros pc off len cap ex,[.cells ks,.cells hd,.cells ms]=>some (n0=0∧VCis b lp39∧forget mk39 fr=fr39 (.slc 2 0 m c 1) .nils pc off len cap ex 0∧P39 ks hd ms pc off len m,
   .ok (.exit 0) (fr39 (.slc 2 0 m c 1) (.slc 3 0 len len 1) pc off len cap ex len) [.cells ks,.cells hd,.cells ms,.cells (F.msk ms pc off len)])
 | .nils,.ros pc off len cap ex,[.cells ks,.cells hd]=>some (n0=0∧VCis b lp39∧forget mk39 fr=fr39 .nils .nils pc off len cap ex 0∧len=0,
   .ok (.exit 0) (fr39 .nils .nils pc off len cap ex 0) [.cells ks,.cells hd])
 | _,_,_=>none
def P46(pa:List AV)(oa la:Nat)(pb:List AV)(ob lb m z:Nat):Prop:=m≤la∧m≤lb∧la<137438953472∧z<9223372036854775808∧(∃ al,BytesAt pa oa la al)∧∃ bl,BytesAt pb ob lb bl
noncomputable def lp46:VC:=vp [1,1,0,1,0,0] vf14.body
def fr46(pa:List AV)(oa la ca:Nat)(ea:Bool)(pb:List AV)(ob lb cb:Nat)(eb:Bool)(z m i:Nat):Fr := [.ros pa oa la ca ea,.ros pb ob lb cb eb,.top,.top,.top,.int .i64 (Int.ofNat z),.top,.top,.top,.top,.top,.top,.top,.top,.top,.top,.int .i64 (Int.ofNat m),.int .i64 (Int.ofNat i),.top,.top,.top,.top,.top,.top,.top,.top,.top,.top,.top,.top,.top,.top,.top,.top,.top,.top]
def mk46:List Bool := [false,false,true,true,true,false,true,true,true,true,true,true,true,true,true,true,false,false,true,true,true,true,true,true,true,true,true,true,true,true,true,true,true,true,true,true]
def ln46(F:WF):LnF:=fun n0 b fr H=>match slot fr 0,slot fr 1,slot fr 5,slot fr 16,H with
 | .ros pa oa la ca ea,.ros pb ob lb cb eb,.int .i64 z,.int .i64 m,[]=>some (n0=0∧VCis b lp46∧forget mk46 fr=fr46 pa oa la ca ea pb ob lb cb eb (ops0.nat z) (ops0.nat m) 0∧P46 pa oa la pb ob lb (ops0.nat m) (ops0.nat z),
   .ok (.exit 0) (fr46 pa oa la ca ea pb ob lb cb eb (F.acc (ops0.nat z) pa oa pb ob (ops0.nat m)) (ops0.nat m) (ops0.nat m)) [])
 | _,_,_,_,_=>none
theorem vc47(S:NG)(ks:List AV)(Q:AV→Hl→Prop) :
  (vcall (vcA kdYes (cnN2 S) noLn) ops0 (tabOne 45 vf45) 200 vf45 [.agg ks] [] (endN (fun _=>0) Q)) =
 ((Chk (ops0.le 32 (ops0.len ks))
 ((PPs [(.ros ks 0 32 32 Bool.false)] 0 1) ∧
 (Chk (ops0.eq (ops0.len (KF.sum (AF.toKF (NF.toAF (NG.toNF S))) (rdP [(.ros ks 0 32 32 Bool.false)] 0 1))) 32)
 (Chk (ops0.le 32 (ops0.len (ops0.spl (z8 32) 0 (KF.sum (AF.toKF (NF.toAF (NG.toNF S))) (rdP [(.ros ks 0 32 32 Bool.false)] 0 1)))))
 (Q (.agg (ops0.ext (ops0.spl (z8 32) 0 (KF.sum (AF.toKF (NF.toAF (NG.toNF S))) (rdP [(.ros ks 0 32 32 Bool.false)] 0 1))) 0 32)) [])))))):=by kernel_rfl
theorem vcl37(ks hd ms pc:List AV)(m c off len cap:Nat)(ex:Bool)(i:Nat)(Q:Ex→Fr→Hl→Prop) :
  (vm (vcA kdYes noCn noLn) ops0 noTab 100 0 lp37 (fr37 (.slc 2 0 m c 1) pc off len cap ex i) [.cells ks,.cells hd,.cells ms] [] (bodyX mk37 Q)) =
 ((Br (ops0.cmp .lss (Int.ofNat i) (Int.ofNat len))
 (Chk (ops0.inr (Int.ofNat i) len)
 (∃ n:Int,((Nth pc (ops0.adr off (Int.ofNat i) 1) (.int .u8 n)) ∧
 (Chk (ops0.inr (Int.ofNat i) m)
 (∃ n1:Int,((Nth ms (ops0.adr 0 (Int.ofNat i) 1) (.int .u8 n1)) ∧
 (Chk (ops0.inr (Int.ofNat i) m)
 (Chk (ops0.lt (ops0.adr 0 (Int.ofNat i) 1) (ops0.len ms))
 (Q Ex.norm (tp 7 ((.slc 2 0 m c 1)::tp 17 ((.ros pc off len cap ex)::(.int .i64 (.ofNat len))::(.int .i64 (ops0.bin .add .i64 (Int.ofNat i) (Int.ofNat 1)))::tp 13 ([])))) [(.cells ks),(.cells hd),(.cells (ops0.set ms (ops0.adr 0 (Int.ofNat i) 1) (.int .u8 (ops0.bin .xor .u8 n1 n))))])))))))))
 (Q (Ex.exit 0) (tp 7 ((.slc 2 0 m c 1)::tp 17 ((.ros pc off len cap ex)::(.int .i64 (.ofNat len))::(.int .i64 (.ofNat i))::tp 13 ([])))) [(.cells ks),(.cells hd),(.cells ms)]))):=by kernel_rfl
theorem vcl37n(ks hd pc:List AV)(off cap:Nat)(ex:Bool)(Q:Ex→Fr→Hl→Prop) :
  (vm (vcA kdYes noCn noLn) ops0 noTab 100 0 lp37 (fr37 .nils pc off 0 cap ex 0) [.cells ks,.cells hd] [] (bodyX mk37 Q)) =
 ((Q (Ex.exit 0) (tp 7 (.nils::tp 17 ((.ros pc off 0 cap ex)::(.int .i64 (.ofNat 0))::(.int .i64 (.ofNat 0))::tp 13 ([])))) [(.cells ks),(.cells hd)])):=by kernel_rfl
theorem vcl39(ks hd ms xs pc:List AV)(m c L off len cap:Nat)(ex:Bool)(i:Nat)(Q:Ex→Fr→Hl→Prop) :
  (vm (vcA kdYes noCn noLn) ops0 noTab 100 0 lp39 (fr39 (.slc 2 0 m c 1) (.slc 3 0 L L 1) pc off len cap ex i) [.cells ks,.cells hd,.cells ms,.cells xs] [] (bodyX mk39 Q)) =
 ((Br (ops0.cmp .lss (Int.ofNat i) (ops0.ofn len))
 (Chk (ops0.inr (Int.ofNat i) len)
 (∃ n:Int,((Nth pc (ops0.adr off (Int.ofNat i) 1) (.int .u8 n)) ∧
 (Chk (ops0.inr (Int.ofNat i) m)
 (∃ n1:Int,((Nth ms (ops0.adr 0 (Int.ofNat i) 1) (.int .u8 n1)) ∧
 (Chk (ops0.le (ops0.add 0 (ops0.mul L 1)) (ops0.len xs))
 (Chk (ops0.room L 1 1)
 (Q Ex.norm (tp 2 ((.ros pc off len cap ex)::tp 4 ((.slc 2 0 m c 1)::(.slc 4 0 (ops0.add L 1) (ops0.add L 1) 1)::(.int .i64 (ops0.bin .add .i64 (Int.ofNat i) (Int.ofNat 1)))::tp 33 ([])))) [(.cells ks),(.cells hd),(.cells ms),.dead,(.cells (ops0.app (ops0.ext xs 0 (ops0.mul L 1)) [(.int .u8 (ops0.bin .xor .u8 n n1))]))])))))))))
 (Q (Ex.exit 0) (tp 2 ((.ros pc off len cap ex)::tp 4 ((.slc 2 0 m c 1)::(.slc 3 0 L L 1)::(.int .i64 (.ofNat i))::tp 33 ([])))) [(.cells ks),(.cells hd),(.cells ms),(.cells xs)]))):=by kernel_rfl
theorem vcl39n(ks hd pc:List AV)(off cap:Nat)(ex:Bool)(Q:Ex→Fr→Hl→Prop) :
  (vm (vcA kdYes noCn noLn) ops0 noTab 100 0 lp39 (fr39 .nils .nils pc off 0 cap ex 0) [.cells ks,.cells hd] [] (bodyX mk39 Q)) =
 ((Q (Ex.exit 0) (tp 2 ((.ros pc off 0 cap ex)::tp 4 (.nils :: .nils::(.int .i64 (.ofNat 0))::tp 33 ([])))) [(.cells ks),(.cells hd)])):=by kernel_rfl
theorem vcl46(pa:List AV)(oa la ca:Nat)(ea:Bool)(pb:List AV)(ob lb cb:Nat)(eb:Bool)(z m i:Nat)(Q:Ex→Fr→Hl→Prop) :
  (vm (vcA kdYes noCn noLn) ops0 noTab 100 0 lp46 (fr46 pa oa la ca ea pb ob lb cb eb z m i) [] [] (bodyX mk46 Q)) =
 ((Br (ops0.cmp .lss (Int.ofNat i) (Int.ofNat m))
 (Chk (ops0.inr (Int.ofNat i) la)
 (∃ n:Int,((Nth pa (ops0.adr oa (Int.ofNat i) 1) (.int .u8 n)) ∧
 (Chk (ops0.inr (Int.ofNat i) lb)
 (∃ n1:Int,((Nth pb (ops0.adr ob (Int.ofNat i) 1) (.int .u8 n1)) ∧
 (Q Ex.norm ((.ros pa oa la ca ea)::(.ros pb ob lb cb eb)::tp 3 ((.int .i64 (ops0.bin .or .i64 (Int.ofNat z) (ops0.bin .xor .i64 (ops0.cvt .i64 n) (ops0.cvt .i64 n1))))::tp 10 ((.int .i64 (.ofNat m))::(.int .i64 (ops0.bin .add .i64 (Int.ofNat i) (Int.ofNat 1)))::tp 18 ([])))) [])))))))
 (Q (Ex.exit 0) ((.ros pa oa la ca ea)::(.ros pb ob lb cb eb)::tp 3 ((.int .i64 (.ofNat z))::tp 10 ((.int .i64 (.ofNat m))::(.int .i64 (.ofNat i))::tp 18 ([])))) []))):=by kernel_rfl
theorem vc37(S:NG)(F:WF)(ks pc:List AV)(l:List UInt8)(off len cap:Nat)(ex:Bool)(Q:Nat→Nat→Nat→Nat→List AV→Prop) :
  (vcall (vcA kdYes (cnN2 S) (ln37 F)) ops0 (tabOne 24 vf24) 200 vf24 [.agg ks,.str l,.ros pc off len cap ex] [] (endB Q)) =
 ((Br (ops0.cmp .gtr (ops0.ofn (ops0.slen l)) (Int.ofNat 64))
 False
 (Br (ops0.cmp .gtr (ops0.ofn len) (Int.ofNat 65536))
 False
 (Chk (ops0.le 32 (ops0.len ks))
 (((PKey (ops0.ext ks 0 32)) ∧
 ((List.length l)≤64)) ∧
 ((PPs [(.ros (MF.head (NF.toMF (NG.toNF S)) (ops0.ext ks 0 32) l) 0 (ops0.add (ops0.slen l) 33) (ops0.add (ops0.slen l) 33) Bool.false)] 0 1) ∧
 (Br (inK (ops0.ofn len))
 ((((0:Nat)=0) ∧
 ((VCis lp37 lp37) ∧
 ((((tp 7 ((.slc 2 0 len len 1)::tp 17 ((.ros pc off len cap ex)::(.int .i64 (ops0.ofn len))::(.int .i64 (.ofNat 0))::tp 13 ([])))):Fr)=(tp 7 ((.slc 2 0 len len 1)::tp 17 ((.ros pc off len cap ex)::(.int .i64 (.ofNat len))::(.int .i64 (.ofNat 0))::tp 13 ([]))))) ∧
 (P37 (KF.str (AF.toKF (NF.toAF (NG.toNF S))) (rdP [(.ros (MF.head (NF.toMF (NG.toNF S)) (ops0.ext ks 0 32) l) 0 (ops0.add (ops0.slen l) 33) (ops0.add (ops0.slen l) 33) Bool.false)] 0 1) len) pc off len len)))) ∧
 ((flatL (WF.msk F (KF.str (AF.toKF (NF.toAF (NG.toNF S))) (rdP [(.ros (MF.head (NF.toMF (NG.toNF S)) (ops0.ext ks 0 32) l) 0 (ops0.add (ops0.slen l) 33) (ops0.add (ops0.slen l) 33) Bool.false)] 0 1) len) pc off len)) ∧
 (Q 0 len len 1 (WF.msk F (KF.str (AF.toKF (NF.toAF (NG.toNF S))) (rdP [(.ros (MF.head (NF.toMF (NG.toNF S)) (ops0.ext ks 0 32) l) 0 (ops0.add (ops0.slen l) 33) (ops0.add (ops0.slen l) 33) Bool.false)] 0 1) len) pc off len))))
 ((((0:Nat)=0) ∧
 ((VCis lp37 lp37) ∧
 ((((tp 7 (.nils::tp 17 ((.ros pc off len cap ex)::(.int .i64 (ops0.ofn len))::(.int .i64 (.ofNat 0))::tp 13 ([])))):Fr)=(tp 7 (.nils::tp 17 ((.ros pc off len cap ex)::(.int .i64 (.ofNat len))::(.int .i64 (.ofNat 0))::tp 13 ([]))))) ∧
 ((len:Nat)=0)))) ∧
 False)))))))):=by kernel_rfl
theorem vc37n(S:NG)(F:WF)(ks pc:List AV)(l:List UInt8)(off len cap:Nat)(ex:Bool)(Q:AV→Hl→Prop) :
  (vcall (vcA kdYes (cnN2 S) (ln37 F)) ops0 (tabOne 24 vf24) 200 vf24 [.agg ks,.str l,.ros pc off len cap ex] [] (endN (fun _=>0) Q)) =
 ((Br (ops0.cmp .gtr (ops0.ofn (ops0.slen l)) (Int.ofNat 64))
 (Q .nils [])
 (Br (ops0.cmp .gtr (ops0.ofn len) (Int.ofNat 65536))
 (Q .nils [])
 (Chk (ops0.le 32 (ops0.len ks))
 (((PKey (ops0.ext ks 0 32)) ∧
 ((List.length l)≤64)) ∧
 ((PPs [(.ros (MF.head (NF.toMF (NG.toNF S)) (ops0.ext ks 0 32) l) 0 (ops0.add (ops0.slen l) 33) (ops0.add (ops0.slen l) 33) Bool.false)] 0 1) ∧
 (Br (inK (ops0.ofn len))
 ((((0:Nat)=0) ∧
 ((VCis lp37 lp37) ∧
 ((((tp 7 ((.slc 2 0 len len 1)::tp 17 ((.ros pc off len cap ex)::(.int .i64 (ops0.ofn len))::(.int .i64 (.ofNat 0))::tp 13 ([])))):Fr)=(tp 7 ((.slc 2 0 len len 1)::tp 17 ((.ros pc off len cap ex)::(.int .i64 (.ofNat len))::(.int .i64 (.ofNat 0))::tp 13 ([]))))) ∧
 (P37 (KF.str (AF.toKF (NF.toAF (NG.toNF S))) (rdP [(.ros (MF.head (NF.toMF (NG.toNF S)) (ops0.ext ks 0 32) l) 0 (ops0.add (ops0.slen l) 33) (ops0.add (ops0.slen l) 33) Bool.false)] 0 1) len) pc off len len)))) ∧
 (Q (.slc 2 0 len len 1) []))
 ((((0:Nat)=0) ∧
 ((VCis lp37 lp37) ∧
 ((((tp 7 (.nils::tp 17 ((.ros pc off len cap ex)::(.int .i64 (ops0.ofn len))::(.int .i64 (.ofNat 0))::tp 13 ([])))):Fr)=(tp 7 (.nils::tp 17 ((.ros pc off len cap ex)::(.int .i64 (.ofNat len))::(.int .i64 (.ofNat 0))::tp 13 ([]))))) ∧
 ((len:Nat)=0)))) ∧
 (Q .nils []))))))))):=by kernel_rfl
theorem vc39(S:NG)(F:WF)(ks pc:List AV)(l:List UInt8)(off len cap:Nat)(ex:Bool)(Q:Nat→Nat→Nat→Nat→List AV→Prop) :
  (vcall (vcA kdYes (cnN2 S) (ln39 F)) ops0 (tabOne 9 vf9) 200 vf9 [.agg ks,.str l,.ros pc off len cap ex] [] (endB Q)) =
 ((Br (ops0.cmp .gtr (ops0.ofn (ops0.slen l)) (Int.ofNat 64))
 False
 (Br (ops0.cmp .gtr (ops0.ofn len) (Int.ofNat 65536))
 False
 (Chk (ops0.le 32 (ops0.len ks))
 (((PKey (ops0.ext ks 0 32)) ∧
 ((List.length l)≤64)) ∧
 ((PB (MF.head (NF.toMF (NG.toNF S)) (ops0.ext ks 0 32) l) 0 (ops0.add (ops0.slen l) 33)) ∧
 (Br (inK (ops0.ofn len))
 ((((0:Nat)=0) ∧
 ((VCis lp39 lp39) ∧
 ((((tp 2 ((.ros pc off len cap ex)::tp 4 ((.slc 2 0 len len 1) :: .nils::(.int .i64 (.ofNat 0))::tp 33 ([])))):Fr)=(tp 2 ((.ros pc off len cap ex)::tp 4 ((.slc 2 0 len len 1) :: .nils::(.int .i64 (.ofNat 0))::tp 33 ([]))))) ∧
 (P39 ks (MF.head (NF.toMF (NG.toNF S)) (ops0.ext ks 0 32) l) (KF.str (AF.toKF (NF.toAF (NG.toNF S))) (rdB (MF.head (NF.toMF (NG.toNF S)) (ops0.ext ks 0 32) l) 0 (ops0.add (ops0.slen l) 33)) len) pc off len len)))) ∧
 ((flatL (WF.msk F (KF.str (AF.toKF (NF.toAF (NG.toNF S))) (rdB (MF.head (NF.toMF (NG.toNF S)) (ops0.ext ks 0 32) l) 0 (ops0.add (ops0.slen l) 33)) len) pc off len)) ∧
 (Q 0 len len 1 (WF.msk F (KF.str (AF.toKF (NF.toAF (NG.toNF S))) (rdB (MF.head (NF.toMF (NG.toNF S)) (ops0.ext ks 0 32) l) 0 (ops0.add (ops0.slen l) 33)) len) pc off len))))
 ((((0:Nat)=0) ∧
 ((VCis lp39 lp39) ∧
 ((((tp 2 ((.ros pc off len cap ex)::tp 4 (.nils :: .nils::(.int .i64 (.ofNat 0))::tp 33 ([])))):Fr)=(tp 2 ((.ros pc off len cap ex)::tp 4 (.nils :: .nils::(.int .i64 (.ofNat 0))::tp 33 ([]))))) ∧
 ((len:Nat)=0)))) ∧
 False)))))))):=by kernel_rfl
theorem vc39n(S:NG)(F:WF)(ks pc:List AV)(l:List UInt8)(off len cap:Nat)(ex:Bool)(Q:AV→Hl→Prop) :
  (vcall (vcA kdYes (cnN2 S) (ln39 F)) ops0 (tabOne 9 vf9) 200 vf9 [.agg ks,.str l,.ros pc off len cap ex] [] (endN (fun _=>0) Q)) =
 ((Br (ops0.cmp .gtr (ops0.ofn (ops0.slen l)) (Int.ofNat 64))
 (Q .nils [])
 (Br (ops0.cmp .gtr (ops0.ofn len) (Int.ofNat 65536))
 (Q .nils [])
 (Chk (ops0.le 32 (ops0.len ks))
 (((PKey (ops0.ext ks 0 32)) ∧
 ((List.length l)≤64)) ∧
 ((PB (MF.head (NF.toMF (NG.toNF S)) (ops0.ext ks 0 32) l) 0 (ops0.add (ops0.slen l) 33)) ∧
 (Br (inK (ops0.ofn len))
 ((((0:Nat)=0) ∧
 ((VCis lp39 lp39) ∧
 ((((tp 2 ((.ros pc off len cap ex)::tp 4 ((.slc 2 0 len len 1) :: .nils::(.int .i64 (.ofNat 0))::tp 33 ([])))):Fr)=(tp 2 ((.ros pc off len cap ex)::tp 4 ((.slc 2 0 len len 1) :: .nils::(.int .i64 (.ofNat 0))::tp 33 ([]))))) ∧
 (P39 ks (MF.head (NF.toMF (NG.toNF S)) (ops0.ext ks 0 32) l) (KF.str (AF.toKF (NF.toAF (NG.toNF S))) (rdB (MF.head (NF.toMF (NG.toNF S)) (ops0.ext ks 0 32) l) 0 (ops0.add (ops0.slen l) 33)) len) pc off len len)))) ∧
 (Q (.slc 3 0 len len 1) []))
 ((((0:Nat)=0) ∧
 ((VCis lp39 lp39) ∧
 ((((tp 2 ((.ros pc off len cap ex)::tp 4 (.nils :: .nils::(.int .i64 (.ofNat 0))::tp 33 ([])))):Fr)=(tp 2 ((.ros pc off len cap ex)::tp 4 (.nils :: .nils::(.int .i64 (.ofNat 0))::tp 33 ([]))))) ∧
 ((len:Nat)=0)))) ∧
 (Q .nils []))))))))):=by kernel_rfl
theorem vc46(F:WF)(pa:List AV)(oa la ca:Nat)(ea:Bool)(pb:List AV)(ob lb cb:Nat)(eb:Bool)(Q:AV→Hl→List Nat→Prop) :
  (vcall (vcA kdYes noCn (ln46 F)) ops0 (tabOne 14 vf14) 200 vf14 [.ros pa oa la ca ea,.ros pb ob lb cb eb] [] Q) =
 (((((0:Nat)=0) ∧
 ((VCis lp46 lp46) ∧
 (((((.ros pa oa la ca ea)::(.ros pb ob lb cb eb)::tp 3 ((.int .i64 (ops0.bin .xor .i64 (ops0.ofn la) (ops0.ofn lb)))::tp 10 ((.int .i64 (ops0.mnx Bool.false (ops0.ofn la) (ops0.ofn lb)))::(.int .i64 (.ofNat 0))::tp 18 ([])))):Fr)=((.ros pa oa la ca ea)::(.ros pb ob lb cb eb)::tp 3 ((.int .i64 (.ofNat (ops0.nat (ops0.bin .xor .i64 (ops0.ofn la) (ops0.ofn lb)))))::tp 10 ((.int .i64 (.ofNat (ops0.nat (ops0.mnx Bool.false (ops0.ofn la) (ops0.ofn lb)))))::(.int .i64 (.ofNat 0))::tp 18 ([]))))) ∧
 (P46 pa oa la pb ob lb (ops0.nat (ops0.mnx Bool.false (ops0.ofn la) (ops0.ofn lb))) (ops0.nat (ops0.bin .xor .i64 (ops0.ofn la) (ops0.ofn lb))))))) ∧
 (Br (ops0.cmp .eql (Int.ofNat (WF.acc F (ops0.nat (ops0.bin .xor .i64 (ops0.ofn la) (ops0.ofn lb))) pa oa pb ob (ops0.nat (ops0.mnx Bool.false (ops0.ofn la) (ops0.ofn lb))))) (Int.ofNat 0))
 (Q (.bool Bool.true) [] [])
 (Q (.bool Bool.false) [] [])))):=by kernel_rfl
theorem cnT_ok:CnOK Tryd.prog (cnT gf0):=by
 intro f vals H p x e hp
 unfold cnT at e
 split at e
 ·rename_i ks l y
  split at e<;>cases e
  rename_i ps o n c ex hv
  obtain⟨⟨key,hk,rfl⟩,ht⟩:=hp
  have h:=CallTo.lookV (H:=H) (tag41 (l:=l) hk c ex ht) (.cons (Vw.agg H (Still.flat (flat_by8 key))) (.cons (Vw.str H l) (.cons (Vw.two hv ht.1.1) .nil)))
  rw[backV_flat (flat_by8 _)] at h
  show CallTo _ _ _ _ (.agg ((tagL (bytesA (key.map by8)) l (partsL ps o n)).map by8)) _ _
  rw[bytesA_by8]
  exact h
 ·rename_i ks l y
  split at e<;>cases e
  rename_i ps o n c ex hv
  obtain⟨⟨key,hk,rfl⟩,ht⟩:=hp
  have h:=CallTo.lookV (H:=H) (tag40 (l:=l) hk c ex ht) (.cons (Vw.agg H (Still.flat (flat_by8 key))) (.cons (Vw.str H l) (.cons (Vw.two hv ht.1.1) .nil)))
  rw[backV_flat (flat_by8 _)] at h
  show CallTo _ _ _ _ (.agg ((tagL (bytesA (key.map by8)) l (partsL ps o n)).map by8)) _ _
  rw[bytesA_by8]
  exact h
 ·cases e
theorem cnN2_ok:CnOK Tryd.prog (cnN2 ng0):=cnOr_ok cnT_ok cnN1_ok
theorem partA_whole(lb:List UInt8)(n c:Nat)(h:n=lb.length)(e:Bool):partA (.ros (lb.map by8) 0 n c e)=lb:=by
 subst h
 exact partA_ros (bytesAt_whole lb)
theorem pps_whole(lb:List UInt8)(n c:Nat)(h:n=lb.length)(hl:lb.length<137438953472)(e:Bool):PPs [.ros (lb.map by8) 0 n c e] 0 1:=by
 subst h
 refine⟨fun p hp => ?_,[lb],rfl,by omega,fun j x hx => ?_⟩
 ·obtain rfl:p=_:=List.mem_singleton.1 hp
  exact⟨_,0,_,c,e,rfl,flat_by8 _⟩
 ·cases j with
  | zero =>
   obtain rfl:lb=x:=Option.some.inj hx
   exact⟨by omega,_,0,_,c,e,rfl,bytesAt_whole lb⟩
  | succ j=>cases hx
theorem partsL_one(p:AV):partsL [p] 0 1 = [partA p]:=rfl
theorem ptag_whole(lb:List UInt8)(n c:Nat)(h:n=lb.length)(hl:lb.length<68719476000)(e:Bool):PTag [.ros (lb.map by8) 0 n c e] 0 1:=by
 refine⟨pps_whole lb n c h (by omega) e,fun j hj pc off len cap ex hp => ?_,?_⟩
 ·obtain rfl:j=0:=by omega
  cases hp
  simp[h]
 ·rw[partsL_one,partA_whole lb n c h]
  unfold textL
  simp[bytesN_length]
  omega
theorem key_ext{key:List UInt8}(h:key.length=32):ops0.ext (key.map by8) 0 32=key.map by8:=by
 rw[nExt,List.drop_zero,List.take_of_length_le (by rw[List.length_map]; omega)]
theorem key_len{key:List UInt8}(h:key.length=32):ops0.le 32 (ops0.len (key.map by8))=true:=by
 rw[nLe,nLen]; exact decide_eq_true (by rw[List.length_map]; omega)
theorem gtag_eq(key l:List UInt8)(pl:List (List UInt8)):GF.tag (NG.toGF ng0) (key.map by8) l pl=(tagL key l pl).map by8:=by
 show(tagL (bytesA (key.map by8)) l pl).map by8=_
 rw[bytesA_by8]
theorem res32{xs:List AV}(h:xs.length=32){Q:AV→Hl→Prop}(hq:Q (.agg xs) []):Chk (ops0.eq (ops0.len xs) 32) (Chk (ops0.le 32 (ops0.len (ops0.spl (z8 32) 0 xs))) (Q (.agg (ops0.ext (ops0.spl (z8 32) 0 xs) 0 32)) [])):=by
 rw[keep32 h]
 exact Chk.mk (by rw[nEq,nLen]; exact decide_eq_true h) (Chk.mk (by rw[nLe,nLen,spl_all (by rw[z8_length,h])]; exact decide_eq_true (by omega)) hq)
def sumL(l:List UInt8):List UInt8:=streamF 136 6 32 l
theorem sumL_length(l:List UInt8):(sumL l).length=32:=streamF_length _ _ _ _
theorem hash47{key:List UInt8}(hk:key.length=32):CallTo Tryd.prog 45 [.agg (key.map by8)] [] (.agg ((sumL key).map by8)) [] []:=by
 refine call_n cnN2_ok (noLn_ok _) (tabOne_ok ok45) (tabOne_self 45 vf45) (n:=200) (g:=kdYes) (m:=fun _=>0) [] ?_ (by simp) (by show AV.agg _=_;rw[renL_flat (flat_by8 _)]) (by simp)
 rw[vc47]
 have e1:KF.sum (AF.toKF (NF.toAF (NG.toNF ng0))) (rdP [.ros (key.map by8) 0 32 32 false] 0 1)=(sumL key).map by8:=by
  show(streamF 136 6 32 (rdP _ 0 1)).map by8=_
  have:rdP [.ros (key.map by8) 0 32 32 false] 0 1=key:=by
   show List.flatten [partA (.ros (key.map by8) 0 32 32 false)]=_
   rw[partA_whole key 32 32 hk.symm]
   simp
  rw[this]; rfl
 rw[e1]
 exact Chk.mk (key_len hk) ⟨pps_whole key 32 32 hk.symm (by omega) false,res32 (Q:=fun r H'=>r=AV.agg ((sumL key).map by8)∧H' = []) (by rw[List.length_map,sumL_length]) ⟨rfl,rfl⟩⟩
theorem xorL_length(a b:List UInt8):(xorL a b).length=min a.length b.length:=List.length_zipWith
theorem xorL_snoc{a b:List UInt8}{i:Nat}(ha:i<a.length)(hb:i<b.length):xorL (a.take (i+1)) (b.take (i+1))=xorL (a.take i) (b.take i) ++ [a[i] ^^^ b[i]]:=by
 unfold xorL
 rw[List.take_succ_eq_append_getElem ha,List.take_succ_eq_append_getElem hb,List.zipWith_append (by rw[List.length_take,List.length_take]; omega)]
 rfl
theorem loop37{ks hd:List AV}{pc:List AV}{off len:Nat}(c cap:Nat)(ex:Bool)(hlen:len<1099511627776){lb mb:List UInt8}(hb:BytesAt pc off len lb)(hm:mb.length=len) :
  ∀ lg,LoopTo Tryd.prog 0 lp37 (fr37 (.slc 2 0 len c 1) pc off len cap ex 0) [.cells ks,.cells hd,.cells (mb.map by8)] lg (.exit 0) (fr37 (.slc 2 0 len c 1) pc off len cap ex len) [.cells ks,.cells hd,.cells ((xorL mb lb).map by8)] (List.range 0++lg):=by
 have hl:=hb.1
 have h:=loop_chain (P:=Tryd.prog) (n0:=0) (b:=lp37) (ex := .exit 0) (fr':=fr37 (.slc 2 0 len c 1) pc off len cap ex len) (H' := [.cells ks,.cells hd,.cells ((xorL mb lb).map by8)]) (by intro h;cases h)
  (fun i=>(fr37 (.slc 2 0 len c 1) pc off len cap ex i,[.cells ks,.cells hd,.cells ((xorL (mb.take i) (lb.take i)).map by8++(mb.map by8).drop i)])) len 0 (fun i _ hi => ?_) ?_
 ·simpa[xorL] using h
 ·have hi':i<len:=by omega
  have hxl:(xorL (mb.take i) (lb.take i)).length=i:=by rw[xorL_length,List.length_take,List.length_take]; omega
  have key:∀ Q:Ex→Fr→Hl→Prop,Q .norm (fr37 (.slc 2 0 len c 1) pc off len cap ex (i+1)) [.cells ks,.cells hd,.cells ((xorL (mb.take (i+1)) (lb.take (i+1))).map by8++(mb.map by8).drop (i+1))] →
    vm (vcA kdYes noCn noLn) ops0 noTab 100 0 lp37 (fr37 (.slc 2 0 len c 1) pc off len cap ex i) [.cells ks,.cells hd,.cells ((xorL (mb.take i) (lb.take i)).map by8++(mb.map by8).drop i)] [] (bodyX mk37 Q):=by
   intro Q hQ
   rw[vcl37,nAdd (by omega)]
   simp only[nLss,nInr,nAdr,nLt,nLen,nSet,Nat.zero_add,Nat.mul_one]
   have hms:((xorL (mb.take i) (lb.take i)).map by8++(mb.map by8).drop i)[i]? = some (by8 (mb[i]'(by omega))):=by
    rw[List.getElem?_append_right (by simp[hxl]),List.length_map,hxl,Nat.sub_self,List.getElem?_drop,Nat.add_zero,List.getElem?_map,List.getElem?_eq_getElem (by omega)]
    rfl
   refine Br.t (decide_eq_true hi') (Chk.mk (decide_eq_true hi') ⟨_,Nth.mk (hb.get hi'),Chk.mk (decide_eq_true hi') ⟨_,Nth.mk hms,Chk.mk (decide_eq_true hi') (Chk.mk (decide_eq_true (by simp[hxl,hm]; omega)) ?_)⟩⟩)
   rw[xor_u8]
   have e1:AV.int .u8 (Int.ofNat (mb[i] ^^^ lb[i]).toNat)=by8 (mb[i] ^^^ lb[i]):=rfl
   rw[e1,set_mid _ (mb.map by8) hxl (by rw[List.length_map]; omega)]
   rw[xorL_snoc (by omega) (by omega),List.map_append,List.append_assoc] at hQ
   exact hQ
  exact body_x (noCn_ok _) (noLn_ok _) (noTab_ok _) (n:=100) (g:=kdYes) (bs:=mk37) (key _ ⟨rfl,rfl,rfl⟩) (by simp)
 ·rw[Nat.zero_add]
  show BodyTo _ _ _ (fr37 (.slc 2 0 len c 1) pc off len cap ex len) [.cells ks,.cells hd,.cells ((xorL (mb.take len) (lb.take len)).map by8++(mb.map by8).drop len)] _ _ _
  rw[List.take_of_length_le (by omega),List.take_of_length_le (by omega),List.drop_of_length_le (by rw[List.length_map]; omega),List.append_nil]
  refine body_x (noCn_ok _) (noLn_ok _) (noTab_ok _) (n:=100) (g:=kdYes) (bs:=mk37) ?_ (by simp)
  rw[vcl37]
  exact Br.f (by rw[nLss]; exact decide_eq_false (by omega)) ⟨rfl,rfl,rfl⟩
theorem loop37n(ks hd pc:List AV)(off cap:Nat)(ex:Bool):∀ lg,LoopTo Tryd.prog 0 lp37 (fr37 .nils pc off 0 cap ex 0) [.cells ks,.cells hd] lg (.exit 0) (fr37 .nils pc off 0 cap ex 0) [.cells ks,.cells hd] (List.range 0++lg):=by
 refine loop_chain (P:=Tryd.prog) (n0:=0) (b:=lp37) (ex := .exit 0) (by intro h;cases h) (fun _=>(fr37 .nils pc off 0 cap ex 0,[.cells ks,.cells hd])) 0 0 (fun i _ hi=>by omega) ?_
 refine body_x (noCn_ok _) (noLn_ok _) (noTab_ok _) (n:=100) (g:=kdYes) (bs:=mk37) ?_ (by simp)
 show vm _ _ _ _ _ _ (fr37 .nils pc off 0 cap ex 0) [.cells ks,.cells hd] _ _
 rw[vcl37n]
 exact⟨rfl,rfl,rfl⟩
theorem ln37_ok:LnOK Tryd.prog (ln37 wf0):=by
 intro n0 b fr H p x e hn hp lg
 unfold ln37 at e
 split at e<;>cases e
 ·rename_i m c pc off len cap ex ks hd ms h1 h2
  obtain⟨rfl,hb,hf,hpc,rfl,hlen,⟨lb,hlb⟩,mb,hm,rfl⟩:=hp
  have hb:b=lp37:=hb
  subst hb
  refine LoopTo.pre (Weak.forget (by simp) mk37) ?_ lg
  rw[hf]
  show ∀ lg,LoopTo _ _ _ _ _ _ _ _ [.cells ks,.cells hd,.cells ((xorL (bytesA (mb.map by8)) (rdB pc off m)).map by8)] _
  rw[bytesA_by8,rdB_eq hlb]
  exact loop37 c cap ex hlen hlb hm
 ·rename_i pc off len cap ex ks hd h1 h2
  obtain⟨rfl,hb,hf,rfl⟩:=hp
  have hb:b=lp37:=hb
  subst hb
  refine LoopTo.pre (Weak.forget (by simp) mk37) ?_ lg
  rw[hf]
  exact loop37n ks hd pc off cap ex
theorem fr39_ren{σ:Nat→Option Nat}{φ:Nat→Option (List AV)}(h2:σ 2=some 2)(h4:σ 4=some 3){pc:List AV}(hpc:flatL pc)(m c L off len cap:Nat)(ex:Bool)(i:Nat) :
  forget mk39 (renL σ φ true (fr39 (.slc 2 0 m c 1) (.slc 4 0 L L 1) pc off len cap ex i))=fr39 (.slc 2 0 m c 1) (.slc 3 0 L L 1) pc off len cap ex i:=by
 unfold fr39 mk39
 simp only[renL,ren,h2,h4,forget,renL_flat hpc]
theorem loop39{ks hd:List AV}(hks:flatL ks)(hhd:flatL hd){pc:List AV}(hpc:flatL pc){off len:Nat}(c cap:Nat)(ex:Bool)(hlen:len≤65536){lb mb:List UInt8}(hb:BytesAt pc off len lb)(hm:mb.length=len) :
  ∀ lg,LoopTo Tryd.prog 0 lp39 (fr39 (.slc 2 0 len c 1) (.slc 3 0 0 0 1) pc off len cap ex 0) [.cells ks,.cells hd,.cells (mb.map by8),.cells []] lg (.exit 0) (fr39 (.slc 2 0 len c 1) (.slc 3 0 len len 1) pc off len cap ex len)
   [.cells ks,.cells hd,.cells (mb.map by8),.cells ((xorL mb lb).map by8)] (List.range 0++lg):=by
 have hl:=hb.1
 have h:=loop_chain (P:=Tryd.prog) (n0:=0) (b:=lp39) (ex := .exit 0) (fr':=fr39 (.slc 2 0 len c 1) (.slc 3 0 len len 1) pc off len cap ex len) (H' := [.cells ks,.cells hd,.cells (mb.map by8),.cells ((xorL mb lb).map by8)]) (by intro h;cases h)
  (fun i=>(fr39 (.slc 2 0 len c 1) (.slc 3 0 i i 1) pc off len cap ex i,[.cells ks,.cells hd,.cells (mb.map by8),.cells ((xorL (mb.take i) (lb.take i)).map by8)])) len 0 (fun i _ hi => ?_) ?_
 ·simpa[xorL] using h
 ·have hi':i<len:=by omega
  have hxl:(xorL (mb.take i) (lb.take i)).length=i:=by rw[xorL_length,List.length_take,List.length_take]; omega
  have h1:BodyTo Tryd.prog 0 lp39 (fr39 (.slc 2 0 len c 1) (.slc 3 0 i i 1) pc off len cap ex i) [.cells ks,.cells hd,.cells (mb.map by8),.cells ((xorL (mb.take i) (lb.take i)).map by8)] .norm
    (fr39 (.slc 2 0 len c 1) (.slc 4 0 (i+1) (i+1) 1) pc off len cap ex (i+1)) [.cells ks,.cells hd,.cells (mb.map by8),.dead,.cells ((xorL (mb.take (i+1)) (lb.take (i+1))).map by8)]:=by
   have key:∀ Q:Ex→Fr→Hl→Prop,Q .norm (fr39 (.slc 2 0 len c 1) (.slc 4 0 (i+1) (i+1) 1) pc off len cap ex (i+1)) [.cells ks,.cells hd,.cells (mb.map by8),.dead,.cells ((xorL (mb.take (i+1)) (lb.take (i+1))).map by8)] →
     vm (vcA kdYes noCn noLn) ops0 noTab 100 0 lp39 (fr39 (.slc 2 0 len c 1) (.slc 3 0 i i 1) pc off len cap ex i) [.cells ks,.cells hd,.cells (mb.map by8),.cells ((xorL (mb.take i) (lb.take i)).map by8)] [] (bodyX mk39 Q):=by
    intro Q hQ
    rw[vcl39,nAdd (by omega)]
    simp only[nOfn,nLss,nInr,nAdr,nLe,nLen,nRoom,nPlus,nTimes,Nat.zero_add,Nat.mul_one]
    have hms:(mb.map by8)[i]? = some (by8 (mb[i]'(by omega))):=by
     rw[List.getElem?_map,List.getElem?_eq_getElem (by omega)]; rfl
    refine Br.t (decide_eq_true hi') (Chk.mk (decide_eq_true hi') ⟨_,Nth.mk (hb.get hi'),Chk.mk (decide_eq_true hi') ⟨_,Nth.mk hms,Chk.mk (decide_eq_true (by simp[hxl])) (Chk.mk (decide_eq_true (by omega)) ?_)⟩⟩)
    have e0:ops0.ext ((xorL (mb.take i) (lb.take i)).map by8) 0 i=(xorL (mb.take i) (lb.take i)).map by8:=by rw[nExt,List.drop_zero,List.take_of_length_le (by rw[List.length_map,hxl]; omega)]
    rw[xor_u8,e0,nApp]
    have e1 : [AV.int .u8 (Int.ofNat (lb[i] ^^^ mb[i]).toNat)] = [mb[i] ^^^ lb[i]].map by8:=by rw[UInt8.xor_comm]; rfl
    rw[e1,←List.map_append,←xorL_snoc (by omega) (by omega)]
    exact hQ
   exact body_x (noCn_ok _) (noLn_ok _) (noTab_ok _) (n:=100) (g:=kdYes) (bs:=mk39) (key _ ⟨rfl,rfl,rfl⟩) (by simp)
  have h2:=h1.post (Weak.pick [0,1,2,4] mk39 (by simp) (by simp) (by simp))
  have e5:wkF [0,1,2,4] mk39 (fr39 (.slc 2 0 len c 1) (.slc 4 0 (i+1) (i+1) 1) pc off len cap ex (i+1))=fr39 (.slc 2 0 len c 1) (.slc 3 0 (i+1) (i+1) 1) pc off len cap ex (i+1) :=
   fr39_ren (show pickN [0,1,2,4] 2=some 2 from rfl) (show pickN [0,1,2,4] 4=some 3 from rfl) hpc _ _ _ _ _ _ _ _
  have e6:wkH [0,1,2,4] [.cells ks,.cells hd,.cells (mb.map by8),.dead,.cells ((xorL (mb.take (i+1)) (lb.take (i+1))).map by8)] = [.cells ks,.cells hd,.cells (mb.map by8),.cells ((xorL (mb.take (i+1)) (lb.take (i+1))).map by8)]:=by
   show [renB _ _ true (.cells ks),renB _ _ true (.cells hd),renB _ _ true (.cells _),renB _ _ true (.cells _)]=_
   simp only[renB,renL_flat hks,renL_flat hhd,renL_flat (flat_by8 _)]
  rw[e5,e6] at h2
  exact h2
 ·rw[Nat.zero_add]
  show BodyTo _ _ _ (fr39 (.slc 2 0 len c 1) (.slc 3 0 len len 1) pc off len cap ex len) [.cells ks,.cells hd,.cells (mb.map by8),.cells ((xorL (mb.take len) (lb.take len)).map by8)] _ _ _
  rw[List.take_of_length_le (by omega),List.take_of_length_le (by omega)]
  refine body_x (noCn_ok _) (noLn_ok _) (noTab_ok _) (n:=100) (g:=kdYes) (bs:=mk39) ?_ (by simp)
  rw[vcl39]
  exact Br.f (by rw[nOfn,nLss]; exact decide_eq_false (by omega)) ⟨rfl,rfl,rfl⟩
theorem loop39n(ks hd pc:List AV)(off cap:Nat)(ex:Bool):∀ lg,LoopTo Tryd.prog 0 lp39 (fr39 .nils .nils pc off 0 cap ex 0) [.cells ks,.cells hd] lg (.exit 0) (fr39 .nils .nils pc off 0 cap ex 0) [.cells ks,.cells hd] (List.range 0++lg):=by
 refine loop_chain (P:=Tryd.prog) (n0:=0) (b:=lp39) (ex := .exit 0) (by intro h;cases h) (fun _=>(fr39 .nils .nils pc off 0 cap ex 0,[.cells ks,.cells hd])) 0 0 (fun i _ hi=>by omega) ?_
 refine body_x (noCn_ok _) (noLn_ok _) (noTab_ok _) (n:=100) (g:=kdYes) (bs:=mk39) ?_ (by simp)
 show vm _ _ _ _ _ _ (fr39 .nils .nils pc off 0 cap ex 0) [.cells ks,.cells hd] _ _
 rw[vcl39n]
 exact⟨rfl,rfl,rfl⟩
theorem ln39_ok:LnOK Tryd.prog (ln39 wf0):=by
 intro n0 b fr H p x e hn hp lg
 unfold ln39 at e
 split at e<;>cases e
 ·rename_i m c pc off len cap ex ks hd ms h1 h2
  obtain⟨rfl,hb,hf,hks,hhd,hpc,rfl,hlen,⟨lb,hlb⟩,mb,hm,rfl⟩:=hp
  have hb:b=lp39:=hb
  subst hb
  have hw:=(Weak.forget (n0:=0) (fr:=fr) (H := [.cells ks,.cells hd,.cells (mb.map by8)]) (by simp) mk39)
  rw[hf] at hw
  have hw2:=hw.trans (Weak.void (k:=8) (by simp) 1 rfl)
  show LoopTo _ _ _ _ _ _ _ _ [.cells ks,.cells hd,.cells (mb.map by8),.cells ((xorL (bytesA (mb.map by8)) (rdB pc off m)).map by8)] _
  rw[bytesA_by8,rdB_eq hlb]
  exact LoopTo.pre hw2 (loop39 hks hhd hpc c cap ex hlen hlb hm) lg
 ·rename_i pc off len cap ex ks hd h1 h2
  obtain⟨rfl,hb,hf,rfl⟩:=hp
  have hb:b=lp39:=hb
  subst hb
  refine LoopTo.pre (Weak.forget (by simp) mk39) ?_ lg
  rw[hf]
  exact loop39n ks hd pc off cap ex
def maskL(key l b:List UInt8):List UInt8:=xorL (streamF 168 31 b.length (headL key l)) b
theorem maskL_length(key l b:List UInt8):(maskL key l b).length=b.length:=by
 unfold maskL
 rw[xorL_length,streamF_length]
 omega
theorem inK_nat{n:Nat}:inK (ops0.ofn n)=(decide (1≤n) && decide (n≤65536)):=by
 unfold inK
 rw[nOfn]
 congr 1
 ·by_cases h:1≤n
  ·rw[decide_eq_true h,decide_eq_true (by simp;omega)]
  ·rw[decide_eq_false h,decide_eq_false (by simp;omega)]
 ·by_cases h:n≤65536
  ·rw[decide_eq_true h,decide_eq_true (by simp;omega)]
  ·rw[decide_eq_false h,decide_eq_false (by simp;omega)]
theorem ghead_eq(key l:List UInt8):MF.head (NF.toMF (NG.toNF ng0)) (key.map by8) l=(headL key l).map by8:=by
 show(headL (bytesA (key.map by8)) l).map by8=_
 rw[bytesA_by8]
theorem hadd{key l:List UInt8}(hk:key.length=32):ops0.add (ops0.slen l) 33=(headL key l).length:=by rw[nPlus,nSlen,headL_length,hk]
theorem mask37{key l:List UInt8}(hk:key.length=32)(hl:l.length≤64){pc:List AV}{off len:Nat}(cap:Nat)(ex:Bool){lb:List UInt8}(hf:flatL pc)(hb:BytesAt pc off len lb)(h1:1≤len)(h2:len≤65536) :
  CallTo Tryd.prog 24 [.agg (key.map by8),.str l,.ros pc off len cap ex] [] (.slc 0 0 len len 1) [.cells ((maskL key l lb).map by8)] []:=by
 refine call_b cnN2_ok ln37_ok (tabOne_ok ok24) (tabOne_self 24 vf24) (n:=200) (g:=kdYes) ?_
 rw[vc37]
 have hll:=headL_length key l
 have hbl:=hb.1
 rw[key_ext hk,ghead_eq,hadd hk]
 have e1:rdP [.ros ((headL key l).map by8) 0 (headL key l).length (headL key l).length false] 0 1=headL key l:=by
  show List.flatten [partA _]=_
  rw[partA_whole _ _ _ rfl]; simp
 have e2:KF.str (AF.toKF (NF.toAF (NG.toNF ng0))) (headL key l) len=(streamF 168 31 len (headL key l)).map by8:=rfl
 rw[e1,e2]
 have e3:WF.msk wf0 ((streamF 168 31 len (headL key l)).map by8) pc off len=(maskL key l lb).map by8:=by
  show(xorL (bytesA ((streamF 168 31 len (headL key l)).map by8)) (rdB pc off len)).map by8=_
  rw[bytesA_by8,rdB_eq hb]
  unfold maskL
  rw[hbl]
 rw[e3]
 refine Br.f (by rw[nOfn,nSlen,nGtr]; exact decide_eq_false (by omega)) (Br.f (by rw[nOfn,nGtr]; exact decide_eq_false (by omega)) (Chk.mk (key_len hk) ⟨⟨⟨key,hk,rfl⟩,hl⟩,pps_whole _ _ _ rfl (by omega) false,Br.t ?_ ?_⟩))
 ·rw[inK_nat,decide_eq_true h1,decide_eq_true h2]; rfl
 ·exact⟨⟨rfl,rfl,rfl,hf,rfl,by omega,⟨lb,hb⟩,_,streamF_length _ _ _ _,rfl⟩,flat_by8 _,rfl,rfl,rfl,rfl,rfl⟩
theorem mask37n{key l:List UInt8}(hk:key.length=32){pc:List AV}{off len:Nat}(cap:Nat)(ex:Bool)(h:64<l.length∨len=0∨65536<len) :
  CallTo Tryd.prog 24 [.agg (key.map by8),.str l,.ros pc off len cap ex] [] .nils [] []:=by
 refine call_n cnN2_ok ln37_ok (tabOne_ok ok24) (tabOne_self 24 vf24) (n:=200) (g:=kdYes) (m:=fun _=>0) [] ?_ (by simp) rfl (by simp)
 rw[vc37n]
 refine Br.mk (fun _=>⟨rfl,rfl⟩) (fun h1=>Br.mk (fun _=>⟨rfl,rfl⟩) (fun h2 => ?_))
 have h1:=lab_le h1
 have h2:¬ 65536<len:=by rw[nOfn,nGtr] at h2;exact of_decide_eq_false h2
 have hz:len=0:=by omega
 have hll:=headL_length key l
 rw[key_ext hk,ghead_eq,hadd hk]
 refine Chk.mk (key_len hk) ⟨⟨⟨key,hk,rfl⟩,by omega⟩,pps_whole _ _ _ rfl (by omega) false,Br.f ?_ ?_⟩
 ·rw[inK_nat,hz]; rfl
 ·exact⟨⟨rfl,rfl,rfl,hz⟩,rfl,rfl⟩
theorem mask39{key l:List UInt8}(hk:key.length=32)(hl:l.length≤64){pc:List AV}{off len:Nat}(cap:Nat)(ex:Bool){lb:List UInt8}(hf:flatL pc)(hb:BytesAt pc off len lb)(h1:1≤len)(h2:len≤65536) :
  CallTo Tryd.prog 9 [.agg (key.map by8),.str l,.ros pc off len cap ex] [] (.slc 0 0 len len 1) [.cells ((maskL key l lb).map by8)] []:=by
 refine call_b cnN2_ok ln39_ok (tabOne_ok ok9) (tabOne_self 9 vf9) (n:=200) (g:=kdYes) ?_
 rw[vc39]
 have hll:=headL_length key l
 have hbl:=hb.1
 rw[key_ext hk,ghead_eq,hadd hk]
 have e2:KF.str (AF.toKF (NF.toAF (NG.toNF ng0))) (headL key l) len=(streamF 168 31 len (headL key l)).map by8:=rfl
 rw[rdB_eq (bytesAt_whole (headL key l)),e2]
 have e3:WF.msk wf0 ((streamF 168 31 len (headL key l)).map by8) pc off len=(maskL key l lb).map by8:=by
  show(xorL (bytesA ((streamF 168 31 len (headL key l)).map by8)) (rdB pc off len)).map by8=_
  rw[bytesA_by8,rdB_eq hb]
  unfold maskL
  rw[hbl]
 rw[e3]
 refine Br.f (by rw[nOfn,nSlen,nGtr]; exact decide_eq_false (by omega)) (Br.f (by rw[nOfn,nGtr]; exact decide_eq_false (by omega)) (Chk.mk (key_len hk) ⟨⟨⟨key,hk,rfl⟩,hl⟩,⟨flat_by8 _,by simp,by omega,_,bytesAt_whole _⟩,Br.t ?_ ?_⟩))
 ·rw[inK_nat,decide_eq_true h1,decide_eq_true h2]; rfl
 ·exact⟨⟨rfl,rfl,rfl,flat_by8 _,flat_by8 _,hf,rfl,h2,⟨lb,hb⟩,_,streamF_length _ _ _ _,rfl⟩,flat_by8 _,rfl,rfl,rfl,rfl,rfl⟩
theorem mask39n{key l:List UInt8}(hk:key.length=32){pc:List AV}{off len:Nat}(cap:Nat)(ex:Bool)(h:64<l.length∨len=0∨65536<len) :
  CallTo Tryd.prog 9 [.agg (key.map by8),.str l,.ros pc off len cap ex] [] .nils [] []:=by
 refine call_n cnN2_ok ln39_ok (tabOne_ok ok9) (tabOne_self 9 vf9) (n:=200) (g:=kdYes) (m:=fun _=>0) [] ?_ (by simp) rfl (by simp)
 rw[vc39n]
 refine Br.mk (fun _=>⟨rfl,rfl⟩) (fun h1=>Br.mk (fun _=>⟨rfl,rfl⟩) (fun h2 => ?_))
 have h1:=lab_le h1
 have h2:¬ 65536<len:=by rw[nOfn,nGtr] at h2;exact of_decide_eq_false h2
 have hz:len=0:=by omega
 have hll:=headL_length key l
 rw[key_ext hk,ghead_eq,hadd hk]
 refine Chk.mk (key_len hk) ⟨⟨⟨key,hk,rfl⟩,by omega⟩,⟨flat_by8 _,by simp,by omega,_,bytesAt_whole _⟩,Br.f ?_ ?_⟩
 ·rw[inK_nat,hz]; rfl
 ·exact⟨⟨rfl,rfl,rfl,hz⟩,rfl,rfl⟩
end
end Go.Proofs.Vm

namespace Go.Proofs.Vm
set_option maxRecDepth 100000
open Go.Vm
noncomputable section
structure HF extends NG where
 mask:List AV→List UInt8→List UInt8→List AV
 eq:List UInt8→List UInt8→Bool
 drv:List AV→List UInt8→Int→List AV
 hash:List AV→List AV
def hf0:HF := { ng0 with mask:=fun ks l b=>(maskL (bytesA ks) l b).map by8,eq:=fun a b=>decide (a=b),drv:=fun ks l n=>(tagL (bytesA ks) l [bytesN n.toNat]).map by8,hash:=fun ks=>(sumL (bytesA ks)).map by8 }
def inM(l:List UInt8)(n:Nat):Bool:=decide (l.length≤64) && (decide (1≤n) && decide (n≤65536))
def cnM(S:HF):CnF:=fun f vals H=>match f,vals with
 | 24,[.agg ks,.str l,x]=>match vw1 H x with
  | .ros pc off len _ _=>some (PKey ks∧PB pc off len,.cond (inM l len) (.ok (.slc (size H) 0 len len 1) (join H [.cells (S.mask ks l (rdB pc off len))]) []) (.ok .nils H []))
  | _=>none
 | 9,[.agg ks,.str l,x]=>match vw1 H x with
  | .ros pc off len _ _=>some (PKey ks∧PB pc off len,.cond (inM l len) (.ok (.slc (size H) 0 len len 1) (join H [.cells (S.mask ks l (rdB pc off len))]) []) (.ok .nils H []))
  | _=>none
 | 14,[x,y]=>match vw1 H x,vw1 H y with
  | .ros pa oa la _ _,.ros pb ob lb _ _=>some (PB pa oa la∧PB pb ob lb,.cond (S.eq (rdB pa oa la) (rdB pb ob lb)) (.ok (.bool true) H []) (.ok (.bool false) H []))
  | _,_=>none
 | 45,[.agg ks]=>some (PKey ks,.ok (.agg (S.hash ks)) H [])
 | f,vals=>cnN2 S.toNG f vals H
theorem nXor{a b:Nat}(ha:a<2 ^ 63)(hb:b<2 ^ 63):ops0.bin .xor .i64 (Int.ofNat a) (Int.ofNat b)=Int.ofNat (a ^^^ b):=by
 have h:=Nat.xor_lt_two_pow ha hb
 have e:∀ c:Nat,c<2 ^ 63→(BitVec.ofInt 64 (Int.ofNat c)).toNat=c:=by
  intro c hc
  simp only[BitVec.toNat_ofInt,Int.ofNat_eq_natCast]
  omega
 show IntKind.i64.wrap ((BitVec.ofInt 64 (Int.ofNat a) ^^^ BitVec.ofInt 64 (Int.ofNat b)).toNat:Int)=_
 rw[BitVec.toNat_xor,e a ha,e b hb,i64_wrap (by omega) (by omega)]
 rfl
theorem nOr{a b:Nat}(ha:a<2 ^ 63)(hb:b<2 ^ 63):ops0.bin .or .i64 (Int.ofNat a) (Int.ofNat b)=Int.ofNat (a ||| b):=by
 have h:=Nat.or_lt_two_pow ha hb
 have e:∀ c:Nat,c<2 ^ 63→(BitVec.ofInt 64 (Int.ofNat c)).toNat=c:=by
  intro c hc
  simp only[BitVec.toNat_ofInt,Int.ofNat_eq_natCast]
  omega
 show IntKind.i64.wrap ((BitVec.ofInt 64 (Int.ofNat a) ||| BitVec.ofInt 64 (Int.ofNat b)).toNat:Int)=_
 rw[BitVec.toNat_or,e a ha,e b hb,i64_wrap (by omega) (by omega)]
 rfl
theorem accN_lt{z:Nat}(hz:z<2 ^ 63)(a b:List UInt8):∀ i,accN z a b i<2 ^ 63
 | 0=>hz
 | i+1=>by
  unfold accN
  refine Nat.or_lt_two_pow (accN_lt hz a b i) (Nat.xor_lt_two_pow ?_ ?_)
  ·have:=(a.getD i 0).toNat_lt;omega
  ·have:=(b.getD i 0).toNat_lt;omega
theorem or_zero{a b:Nat}:a ||| b=0↔a=0∧b=0:=by
 constructor
 ·intro h
  have h1:a≤a ||| b:=Nat.left_le_or
  have h2:b≤a ||| b:=Nat.right_le_or
  omega
 ·rintro⟨rfl,rfl⟩; rfl
theorem nxor_zero{a b:Nat}:a ^^^ b=0↔a=b:=by
 constructor
 ·intro h
  have:a ^^^ b ^^^ b=b:=by rw[h,Nat.zero_xor]
  rwa [Nat.xor_assoc,Nat.xor_self,Nat.xor_zero] at this
 ·rintro rfl;exact Nat.xor_self _
theorem accN_zero(z:Nat)(a b:List UInt8):∀ i,accN z a b i=0↔z=0∧∀ j,j<i→a.getD j 0=b.getD j 0
 | 0=>by simp[accN]
 | i+1=>by
  unfold accN
  rw[or_zero,accN_zero z a b i,nxor_zero]
  constructor
  ·rintro⟨⟨h1,h2⟩,h3⟩
   refine⟨h1,fun j hj => ?_⟩
   rcases Nat.lt_or_eq_of_le (Nat.le_of_lt_succ hj) with h|h
   ·exact h2 j h
   ·subst h;exact UInt8.toNat_inj.1 h3
  ·rintro⟨h1,h2⟩
   exact⟨⟨h1,fun j hj=>h2 j (by omega)⟩,by rw[h2 i (by omega)]⟩
theorem loop46{pa:List AV}{oa la:Nat}(ca:Nat)(ea:Bool){pb:List AV}{ob lb:Nat}(cb:Nat)(eb:Bool){m z:Nat}(h1:m≤la)(h2:m≤lb)(h3:la<137438953472)(hz:z<2 ^ 63){al bl:List UInt8}(ha:BytesAt pa oa la al)(hb:BytesAt pb ob lb bl) :
  ∀ lg,LoopTo Tryd.prog 0 lp46 (fr46 pa oa la ca ea pb ob lb cb eb z m 0) [] lg (.exit 0) (fr46 pa oa la ca ea pb ob lb cb eb (accN z al bl m) m m) [] (List.range 0++lg):=by
 refine loop_chain (P:=Tryd.prog) (n0:=0) (b:=lp46) (ex := .exit 0) (by intro h;cases h) (fun i=>(fr46 pa oa la ca ea pb ob lb cb eb (accN z al bl i) m i,[])) m 0 (fun i _ hi => ?_) ?_
 ·have hi':i<m:=by omega
  have hla:=ha.1
  have hlb:=hb.1
  have key:∀ Q:Ex→Fr→Hl→Prop,Q .norm (fr46 pa oa la ca ea pb ob lb cb eb (accN z al bl (i+1)) m (i+1)) [] →
    vm (vcA kdYes noCn noLn) ops0 noTab 100 0 lp46 (fr46 pa oa la ca ea pb ob lb cb eb (accN z al bl i) m i) [] [] (bodyX mk46 Q):=by
   intro Q hQ
   rw[vcl46,nAdd (by omega)]
   simp only[nLss,nInr,nAdr,Nat.mul_one]
   refine Br.t (decide_eq_true hi') (Chk.mk (decide_eq_true (by omega)) ⟨_,Nth.mk (ha.get (by omega)),Chk.mk (decide_eq_true (by omega)) ⟨_,Nth.mk (hb.get (by omega)),?_⟩⟩)
   have c1:∀ c:UInt8,ops0.cvt .i64 (Int.ofNat c.toNat)=Int.ofNat c.toNat:=fun c=>nCi (by have:=c.toNat_lt;omega)
   have c2:∀ c:UInt8,c.toNat<2 ^ 63:=fun c=>by have:=c.toNat_lt;omega
   rw[c1,c1,nXor (c2 _) (c2 _),nOr (accN_lt hz _ _ _) (Nat.xor_lt_two_pow (c2 _) (c2 _))]
   have e1:al.getD i 0=al[i]'(by omega):=by rw[List.getD_eq_getElem?_getD,List.getElem?_eq_getElem (by omega)]; rfl
   have e2:bl.getD i 0=bl[i]'(by omega):=by rw[List.getD_eq_getElem?_getD,List.getElem?_eq_getElem (by omega)]; rfl
   have e3:accN z al bl (i+1)=accN z al bl i ||| ((al[i]'(by omega)).toNat ^^^ (bl[i]'(by omega)).toNat):=by rw[←e1,←e2]; rfl
   rw[e3] at hQ
   exact hQ
  exact body_x (noCn_ok _) (noLn_ok _) (noTab_ok _) (n:=100) (g:=kdYes) (bs:=mk46) (key _ ⟨rfl,rfl,rfl⟩) (by simp)
 ·rw[Nat.zero_add]
  refine body_x (noCn_ok _) (noLn_ok _) (noTab_ok _) (n:=100) (g:=kdYes) (bs:=mk46) ?_ (by simp)
  show vm _ _ _ _ _ _ (fr46 pa oa la ca ea pb ob lb cb eb (accN z al bl m) m m) [] _ _
  rw[vcl46]
  exact Br.f (by rw[nLss]; exact decide_eq_false (by omega)) ⟨rfl,rfl,rfl⟩
theorem BytesAt.le{pc:List AV}{off len:Nat}{lb:List UInt8}(h:BytesAt pc off len lb){m:Nat}(hm:m≤len):BytesAt pc off m (lb.take m):=by
 refine⟨by rw[List.length_take,h.1]; omega,?_⟩
 have:=congrArg (List.take m) h.2
 rw[List.take_take,Nat.min_eq_left hm,←List.map_take] at this
 exact this
theorem accN_take(z:Nat)(a b:List UInt8)(m:Nat):∀ i,i≤m→accN z (a.take m) (b.take m) i=accN z a b i
 | 0,_=>rfl
 | i+1,h=>by
  unfold accN
  rw[accN_take z a b m i (by omega)]
  have e:∀ c:List UInt8,(c.take m).getD i 0=c.getD i 0:=by
   intro c
   rw[List.getD_eq_getElem?_getD,List.getD_eq_getElem?_getD,List.getElem?_take,if_pos (by omega)]
  rw[e,e]
theorem ln46_ok:LnOK Tryd.prog (ln46 wf0):=by
 intro n0 b fr H p x e hn hp lg
 unfold ln46 at e
 split at e<;>cases e
 rename_i pa oa la ca ea pb ob lb cb eb z m h1 h2 h3 h4
 obtain⟨rfl,hb,hf,g1,g2,g3,g4,⟨al,hal⟩,bl,hbl⟩:=hp
 have hb:b=lp46:=hb
 subst hb
 refine LoopTo.pre (Weak.forget (by simp) mk46) ?_ lg
 rw[hf]
 have:=loop46 ca ea cb eb g1 g2 g3 g4 hal hbl
 have e:WF.acc wf0 (ops0.nat z) pa oa pb ob (ops0.nat m)=accN (ops0.nat z) al bl (ops0.nat m):=by
  show accN _ (rdB pa oa _) (rdB pb ob _) _=_
  rw[rdB_eq (hal.le g1),rdB_eq (hbl.le g2),accN_take _ _ _ _ _ (Nat.le_refl _)]
 show ∀ lg,LoopTo _ _ _ _ _ _ _ (fr46 pa oa la ca ea pb ob lb cb eb (WF.acc wf0 (ops0.nat z) pa oa pb ob (ops0.nat m)) (ops0.nat m) (ops0.nat m)) _ _
 rw[e]
 exact this
theorem equal46{pa:List AV}{oa la:Nat}(ca:Nat)(ea:Bool){pb:List AV}{ob lb:Nat}(cb:Nat)(eb:Bool){al bl:List UInt8}(ha:BytesAt pa oa la al)(hb:BytesAt pb ob lb bl)(hla:la<137438953472)(hlb:lb<137438953472) :
  CallTo Tryd.prog 14 [.ros pa oa la ca ea,.ros pb ob lb cb eb] [] (.bool (decide (al=bl))) [] []:=by
 refine call_x (noCn_ok _) ln46_ok (tabOne_ok ok14) (tabOne_self 14 vf14) (n:=200) (g:=kdYes) ?_
 rw[vc46]
 have hx:ops0.bin .xor .i64 (ops0.ofn la) (ops0.ofn lb)=Int.ofNat (la ^^^ lb):=by rw[nOfn,nOfn,nXor (by omega) (by omega)]
 have hm:ops0.mnx false (ops0.ofn la) (ops0.ofn lb)=Int.ofNat (min la lb):=by
  show(if Int.ofNat lb<Int.ofNat la then Int.ofNat lb else Int.ofNat la)=_
  rcases Nat.lt_or_ge lb la with h|h
  ·rw[if_pos (by simp;omega),Nat.min_eq_right (by omega)]
  ·rw[if_neg (by simp;omega),Nat.min_eq_left h]
 rw[hx,hm,nNat,nNat]
 have hz:la ^^^ lb<2 ^ 63:=Nat.xor_lt_two_pow (by omega) (by omega)
 have e:WF.acc wf0 (la ^^^ lb) pa oa pb ob (min la lb)=accN (la ^^^ lb) al bl (min la lb):=by
  show accN _ (rdB pa oa _) (rdB pb ob _) _=_
  rw[rdB_eq (ha.le (by omega)),rdB_eq (hb.le (by omega)),accN_take _ _ _ _ _ (Nat.le_refl _)]
 rw[e]
 refine⟨⟨rfl,rfl,rfl,by omega,by omega,hla,hz,⟨al,ha⟩,bl,hb⟩,?_⟩
 have key:accN (la ^^^ lb) al bl (min la lb)=0↔al=bl:=by
  rw[accN_zero,nxor_zero]
  have h1:=ha.1
  have h2:=hb.1
  constructor
  ·rintro⟨g1,g2⟩
   apply List.ext_getElem (by omega)
   intro i hi hj
   have:=g2 i (by omega)
   rw[List.getD_eq_getElem?_getD,List.getD_eq_getElem?_getD,List.getElem?_eq_getElem hi,List.getElem?_eq_getElem hj] at this
   exact this
  ·rintro rfl
   exact⟨by omega,fun _ _=>rfl⟩
 refine Br.mk (fun h => ?_) (fun h => ?_)
 ·have h:accN (la ^^^ lb) al bl (min la lb)=0:=by
   have:=nEql (a:=accN (la ^^^ lb) al bl (min la lb)) (b:=0)
   rw[this] at h
   exact of_decide_eq_true h
  exact⟨by rw[decide_eq_true (key.1 h)],rfl,rfl⟩
 ·have h:¬ accN (la ^^^ lb) al bl (min la lb)=0:=by
   have:=nEql (a:=accN (la ^^^ lb) al bl (min la lb)) (b:=0)
   rw[this] at h
   exact of_decide_eq_false h
  exact⟨by rw[decide_eq_false (fun k=>h (key.2 k))],rfl,rfl⟩
theorem inM_true{l:List UInt8}{n:Nat}(h:inM l n=true):l.length≤64∧1≤n∧n≤65536:=by
 simpa only[inM,Bool.and_eq_true,decide_eq_true_eq] using h
theorem inM_false{l:List UInt8}{n:Nat}(h:inM l n=false):64<l.length∨n=0∨65536<n:=by
 have:¬ (l.length≤64∧1≤n∧n≤65536):=by
  intro hk
  have:inM l n=true:=by simpa only[inM,Bool.and_eq_true,decide_eq_true_eq] using hk
  rw[this] at h;cases h
 omega
theorem cnM_ok:CnOK Tryd.prog (cnM hf0):=by
 intro f vals H p x e hp
 unfold cnM at e
 split at e
 ·rename_i ks l y
  split at e<;>cases e
  rename_i pc off len cap ex hv
  obtain⟨⟨key,hk,rfl⟩,hf,ho,hl,lb,hb⟩:=hp
  have hws:Vws H [.agg (key.map by8),.str l,y] [.agg (key.map by8),.str l,.ros pc off len cap ex] := .cons (Vw.agg H (Still.flat (flat_by8 key))) (.cons (Vw.str H l) (.cons (Vw.one hv hf) .nil))
  cases hm:inM l len with
  | true =>
   obtain⟨m1,m2,m3⟩:=inM_true hm
   simp only[CRes.fin,hm]
   have h:=CallTo.lookS (mask37 hk m1 cap ex hf hb m2 m3) (flat_by8 _) hws
   show CallTo _ _ _ _ _ (join H [.cells ((maskL (bytesA (key.map by8)) l (rdB pc off len)).map by8)]) _
   rw[bytesA_by8,rdB_eq hb]
   exact h
  | false =>
   simp only[CRes.fin,hm]
   exact CallTo.lookV (mask37n hk cap ex (inM_false hm)) hws
 ·rename_i ks l y
  split at e<;>cases e
  rename_i pc off len cap ex hv
  obtain⟨⟨key,hk,rfl⟩,hf,ho,hl,lb,hb⟩:=hp
  have hws:Vws H [.agg (key.map by8),.str l,y] [.agg (key.map by8),.str l,.ros pc off len cap ex] := .cons (Vw.agg H (Still.flat (flat_by8 key))) (.cons (Vw.str H l) (.cons (Vw.one hv hf) .nil))
  cases hm:inM l len with
  | true =>
   obtain⟨m1,m2,m3⟩:=inM_true hm
   simp only[CRes.fin,hm]
   have h:=CallTo.lookS (mask39 hk m1 cap ex hf hb m2 m3) (flat_by8 _) hws
   show CallTo _ _ _ _ _ (join H [.cells ((maskL (bytesA (key.map by8)) l (rdB pc off len)).map by8)]) _
   rw[bytesA_by8,rdB_eq hb]
   exact h
  | false =>
   simp only[CRes.fin,hm]
   exact CallTo.lookV (mask39n hk cap ex (inM_false hm)) hws
 ·rename_i y z
  split at e<;>cases e
  rename_i pa oa la ca ea pb ob lb cb eb h1 h2
  obtain⟨⟨hf,ho,hl,al,hal⟩,hf',ho',hl',bl,hbl⟩:=hp
  have h:=CallTo.lookV (H:=H) (equal46 ca ea cb eb hal hbl hl hl') (.cons (Vw.one h1 hf) (.cons (Vw.one h2 hf') .nil))
  have e1:HF.eq hf0 (rdB pa oa la) (rdB pb ob lb)=decide (al=bl):=by
   show decide (rdB pa oa la=rdB pb ob lb)=_
   rw[rdB_eq hal,rdB_eq hbl]
  cases hd:decide (al=bl) with
  | true =>
   rw[hd] at h
   rw[hd] at e1
   simp only[CRes.fin,e1]
   exact h
  | false =>
   rw[hd] at h
   rw[hd] at e1
   simp only[CRes.fin,e1]
   exact h
 ·rename_i ks
  cases e
  obtain⟨key,hk,rfl⟩:=hp
  have h:=CallTo.lookV (H:=H) (hash47 hk) (.cons (Vw.agg H (Still.flat (flat_by8 key))) .nil)
  rw[backV_flat (flat_by8 _)] at h
  show CallTo _ _ _ _ (.agg ((sumL (bytesA (key.map by8))).map by8)) _ _
  rw[bytesA_by8]
  exact h
 ·exact cnN2_ok _ _ _ _ _ e hp
theorem hmask_eq(key l b:List UInt8):HF.mask hf0 (key.map by8) l b=(maskL key l b).map by8:=by
 show(maskL (bytesA (key.map by8)) l b).map by8=_
 rw[bytesA_by8]
theorem htag_eq(key l:List UInt8)(pl:List (List UInt8)):GF.tag (NG.toGF (HF.toNG hf0)) (key.map by8) l pl=(tagL key l pl).map by8:=gtag_eq key l pl
theorem pkey(key:List UInt8)(h:key.length=32):PKey (key.map by8):=⟨key,h,rfl⟩
theorem pb_whole(lb:List UInt8)(n:Nat)(h:n=lb.length)(hl:lb.length<137438953472):PB (lb.map by8) 0 n:=by
 subst h
 exact⟨flat_by8 _,by simp,hl,lb,bytesAt_whole lb⟩
theorem by8_ints(l:List UInt8):l.map by8=(l.map fun b=>Int.ofNat b.toNat).map (AV.int .u8):=by
 rw[List.map_map]; rfl
theorem ints_inj{l m:List UInt8}(h:(l.map fun b=>Int.ofNat b.toNat)=m.map fun b=>Int.ofNat b.toNat):l=m:=by
 apply List.ext_getElem?
 intro i
 have:=congrArg (fun x=>x[i]?) h
 simp only[List.getElem?_map] at this
 cases h1:l[i]? <;> cases h2:m[i]? <;> simp_all
 exact UInt8.toNat_inj.1 (by omega)
theorem ext32{xs:List AV}(h:xs.length=32):ops0.ext xs 0 32=xs:=by rw[nExt,List.drop_zero,List.take_of_length_le (by omega)]
theorem eq32{xs:List AV}(h:xs.length=32):ops0.eq (ops0.len xs) 32=true:=by rw[nEq,nLen]; exact decide_eq_true h
end
end Go.Proofs.Vm

namespace Go.Proofs.Vm
set_option maxRecDepth 100000
open Go.Vm
noncomputable section
theorem ckle{a b:Nat}{r:Prop}(h:a≤b)(k:r):Chk (ops0.le a b) r:=Chk.mk (by rw[nLe]; exact decide_eq_true h) k
theorem ckeq{a b:Nat}{r:Prop}(h:a=b)(k:r):Chk (ops0.eq a b) r:=Chk.mk (by rw[nEq]; exact decide_eq_true h) k
theorem ckroom{a b c:Nat}{r:Prop}(h:(a+b+1)*(c+1)≤1099511627776)(k:r):Chk (ops0.room a b c) r:=Chk.mk (by rw[nRoom]; exact decide_eq_true h) k
theorem by8_str(l:List UInt8):l.map by8=List.map (fun b=>AV.int .u8 ((b.toNat:Nat):Int)) l:=List.map_congr_left (fun b _=>rfl)
theorem rdW{l:List UInt8}{n:Nat}(h:l.length=n):rdB (l.map by8) 0 n=l:=by subst h;exact rdB_eq (bytesAt_whole l)
theorem xor_twice{a b:List UInt8}(h:a.length=b.length):xorL a (xorL a b)=b:=by
 unfold xorL
 apply List.ext_getElem
 ·simp[h]
 ·intro i h1 h2
  simp only[List.getElem_zipWith]
  rw[←UInt8.xor_assoc,UInt8.xor_self,UInt8.zero_xor]
theorem mask_twice(key l b:List UInt8):maskL key l (maskL key l b)=b:=by
 have h:(maskL key l b).length=b.length:=maskL_length _ _ _
 show xorL (streamF 168 31 (maskL key l b).length (headL key l)) (xorL (streamF 168 31 b.length (headL key l)) b)=b
 rw[h]
 exact xor_twice (streamF_length _ _ _ _)
theorem heq_eq(a b:List UInt8):HF.eq hf0 a b=decide (a=b):=rfl
theorem hhash_eq(key:List UInt8):HF.hash hf0 (key.map by8)=(sumL key).map by8:=by
 show(sumL (bytesA (key.map by8))).map by8=_
 rw[bytesA_by8]
end
end Go.Proofs.Vm

namespace Go.Proofs.Vm
set_option maxRecDepth 100000
open Go.Vm
noncomputable section
structure XF where
 rows:List AV→Nat→Nat→List AV
theorem ptag_two{pa:List AV}{oa la:Nat}(ca:Nat)(ea:Bool){pb:List AV}{ob lb:Nat}(cb:Nat)(eb:Bool){al bl:List UInt8}(hfa:flatL pa)(ha:BytesAt pa oa la al)(hoa:oa+la≤pa.length)(hla:la≤1048576)
  (hfb:flatL pb) (hb:BytesAt pb ob lb bl) (hob:ob+lb≤pb.length) (hlb:lb≤1048576):PTag [.ros pa oa la ca ea,.ros pb ob lb cb eb] 0 2:=by
 have h1:=ha.1
 have h2:=hb.1
 refine⟨⟨fun p hp => ?_,[al,bl],rfl,by omega,fun j x hx => ?_⟩,fun j hj pc off len cap ex hp => ?_,?_⟩
 ·simp only[List.mem_cons,List.not_mem_nil,or_false] at hp
  rcases hp with rfl|rfl
  ·exact⟨_,_,_,_,_,rfl,hfa⟩
  ·exact⟨_,_,_,_,_,rfl,hfb⟩
 ·cases j with
  | zero =>
   obtain rfl:al=x:=Option.some.inj hx
   exact⟨by omega,_,_,_,_,_,rfl,ha⟩
  | succ j =>
   cases j with
   | zero =>
    obtain rfl:bl=x:=Option.some.inj hx
    exact⟨by omega,_,_,_,_,_,rfl,hb⟩
   | succ j=>cases hx
 ·cases j with
  | zero=>cases hp;exact hoa
  | succ j =>
   cases j with
   | zero=>cases hp;exact hob
   | succ j=>omega
 ·have e:partsL [.ros pa oa la ca ea,.ros pb ob lb cb eb] 0 2 = [al,bl]:=by
   show [partA (.ros pa oa la ca ea),partA (.ros pb ob lb cb eb)]=_
   rw[partA_ros ha,partA_ros hb]
  rw[e]
  unfold textL
  simp[bytesN_length]
  omega
theorem stream_split(l:List UInt8)(n m:Nat):∃ t,streamF 168 31 (n+m) l=streamF 168 31 n l++t:=by
 refine⟨(streamF 168 31 (n+m) l).drop n,?_⟩
 have h:(streamF 168 31 (n+m) l).take n=streamF 168 31 n l:=letL_take 168 n (n+m) _ (by omega)
 rw[←h,List.take_append_drop]
theorem xor_zeros(l:List UInt8):xorL l (List.replicate l.length 0)=l:=by
 unfold xorL
 apply List.ext_getElem
 ·simp
 ·intro i h1 h2
  simp only[List.getElem_zipWith,List.getElem_replicate]
  exact UInt8.xor_zero
theorem mask_zeros(key l:List UInt8)(n:Nat):maskL key l (List.replicate n 0)=streamF 168 31 n (headL key l):=by
 have h:=streamF_length 168 31 n (headL key l)
 unfold maskL
 rw[List.length_replicate]
 conv=>lhs;arg 2;rw[←h]
 exact xor_zeros _
theorem mask_as(key l b:List UInt8):maskL key l b=xorL (maskL key l (List.replicate b.length 0)) b:=by
 rw[mask_zeros]; rfl
theorem mask_app(key l a b:List UInt8):∃ t,maskL key l (a++b)=maskL key l a++t:=by
 obtain⟨t,ht⟩:=stream_split (headL key l) a.length b.length
 refine⟨xorL t b,?_⟩
 unfold maskL
 rw[List.length_append,ht]
 unfold xorL
 rw[List.zipWith_append (streamF_length _ _ _ _)]
end
end Go.Proofs.Vm

namespace Go.Proofs.Vm
set_option maxRecDepth 100000
open Go.Vm
noncomputable section
end
end Go.Proofs.Vm

namespace Go.Proofs.Vm
set_option maxRecDepth 100000
open Go.Vm
noncomputable section
def ShAt(cs:List AV)(o n:Nat)(L:List (List UInt8)):Prop:=L.length=n∧∀ (i:Nat) (x:List UInt8),L[i]? = some x→x.length=32∧(cs.drop (o+i*32)).take 32=x.map by8
def PSh(cs:List AV)(o n:Nat):Prop:=flatL cs∧o+n*32≤cs.length∧n<1099511627776∧∃ L,ShAt cs o n L
def zero32:List UInt8:=List.replicate 32 0
def joinL(L:List (List UInt8)):List UInt8:=L.foldl xorL zero32
def shA(cs:List AV)(o n:Nat):List (List UInt8):=(List.range n).map fun i=>bytesA ((cs.drop (o+i*32)).take 32)
structure JX where
 xr:List AV→List AV→List AV
 jn:List AV→Nat→Nat→List AV
theorem add1{k:Nat}(h:k<9223372036854775807):ops0.bin .add .i64 (Int.ofNat k) (Int.ofNat 1)=Int.ofNat (k+1):=nAdd (by omega)
theorem shA_eq{cs:List AV}{o n:Nat}{L:List (List UInt8)}(h:ShAt cs o n L):shA cs o n=L:=by
 unfold shA
 apply List.ext_getElem?
 intro i
 rw[List.getElem?_map]
 rcases Nat.lt_or_ge i n with hi|hi
 ·have hl:i<L.length:=by rw[h.1]; exact hi
  obtain⟨_,h2⟩:=h.2 i L[i] (List.getElem?_eq_getElem hl)
  rw[List.getElem?_range hi,Option.map_some,h2,bytesA_by8,List.getElem?_eq_getElem hl]
 ·rw[List.getElem?_eq_none (by simpa using hi),List.getElem?_eq_none (by rw[h.1]; exact hi)]
  rfl
def upto(L:List (List UInt8))(j:Nat):List UInt8:=joinL (L.take j)
theorem spl32{x:List UInt8}(h:x.length=32):ops0.spl (z8 32) 0 (x.map by8)=x.map by8:=by
 rw[nSpl,List.take_zero,List.nil_append,List.drop_of_length_le (by rw[z8_length,List.length_map]; omega),List.append_nil]
end
end Go.Proofs.Vm

namespace Go.Proofs.Vm
set_option maxRecDepth 100000
open Go.Vm
noncomputable section
structure JY where
 sec:List AV→List AV→Int→List AV
 hsh:List AV→List AV→Int→List AV
theorem flat0{l:List UInt8}:cutV 0 (.agg (l.map by8)) = .agg (l.map by8):=by
 unfold cutV
 rw[ren,renL_flat (flat_by8 _)]
theorem vwA(H:Hl)(l:List UInt8):Vw H (.agg (l.map by8)) (.agg (l.map by8)):=Vw.agg H (Still.flat (flat_by8 l))
end
end Go.Proofs.Vm

namespace Go.Proofs.Vm
set_option maxRecDepth 100000
open Go.Vm
noncomputable section
structure JZ where
 out:List AV→List AV→Int→List AV
 wnt:List AV→List AV→Int→List AV
theorem flat_len{L:List (List UInt8)}(h:∀ x,x∈L→x.length=32):L.flatten.length=L.length*32:=by
 induction L with
 | nil=>rfl
 | cons y L ih =>
  have:=ih fun x hx=>h x (List.mem_cons_of_mem _ hx)
  rw[List.flatten_cons,List.length_append,this,h y List.mem_cons_self,List.length_cons]
  omega
theorem sh_drop(rest:List AV):∀ (L:List (List UInt8)) (i:Nat) (x:List UInt8),(∀ x,x∈L→x.length=32)→L[i]? = some x→((L.flatten.map by8++rest).drop (i*32)).take 32=x.map by8
 | [],i,x,_,hx=>by cases hx
 | y::L,i,x,h,hx=>by
  have hy:=h y List.mem_cons_self
  have hym:(y.map by8).length=32:=by rw[List.length_map,hy]
  rw[List.flatten_cons,List.map_append,List.append_assoc]
  cases i with
  | zero =>
   cases hx
   rw[Nat.zero_mul,List.drop_zero,List.take_append_of_le_length (by omega),List.take_of_length_le (by omega)]
  | succ i =>
   have ih:=sh_drop rest L i x (fun x hx=>h x (List.mem_cons_of_mem _ hx)) hx
   have e0:(y.map by8++(L.flatten.map by8++rest)).drop 32=L.flatten.map by8++rest:=by
    rw[List.drop_append_of_le_length (by omega),List.drop_of_length_le (by omega),List.nil_append]
   rw[show(i+1)*32=32+i*32 by omega,←List.drop_drop,e0]
   exact ih
theorem sh_flat{L:List (List UInt8)}(h:∀ x,x∈L→x.length=32)(rest:List AV):ShAt (L.flatten.map by8++rest) 0 L.length L :=
 ⟨rfl,fun i x hx=>⟨h x (List.mem_of_getElem? hx),by rw[Nat.zero_add]; exact sh_drop rest L i x h hx⟩⟩
theorem psh_flat{L:List (List UInt8)}(h:∀ x,x∈L→x.length=32)(hn:L.length<1099511627776){n:Nat}(hl:n=L.length):PSh (L.flatten.map by8) 0 n:=by
 subst hl
 have e:=sh_flat h []
 rw[List.append_nil] at e
 exact⟨flat_by8 _,by rw[List.length_map,flat_len h]; omega,hn,L,e⟩
theorem zero_xor{a:List UInt8}(h:a.length=32):xorL zero32 a=a:=by
 unfold xorL zero32
 apply List.ext_getElem
 ·simp[h]
 ·intro i h1 h2
  simp only[List.getElem_zipWith,List.getElem_replicate,UInt8.zero_xor]
theorem z8_drop(a b:Nat):(z8 a).drop b=z8 (a - b):=by unfold z8;rw[List.drop_replicate]
theorem spl_ws{a b:List UInt8}(ha:a.length=32)(hb:b.length=32):ops0.spl (a.map by8) 0 (b.map by8)=b.map by8:=by
 rw[nSpl,List.take_zero,List.nil_append,List.drop_of_length_le (by rw[List.length_map,List.length_map]; omega),List.append_nil]
end
end Go.Proofs.Vm

namespace Go.Proofs.Vm
set_option maxRecDepth 100000
open Go.Vm
noncomputable section
structure JW where
 out:List AV→Int→List AV
end
end Go.Proofs.Vm

namespace Go.Proofs.Vm
set_option maxRecDepth 100000
open Go.Vm
noncomputable section
def b1(k:Nat):List AV := .int .u8 (Int.ofNat k)::z8 31
structure JS where
 spl:List AV→List AV→Int→List AV
 inN:Int→Bool
theorem intEx2{x:List UInt8}{r t:Prop}(h:r):∃ l:List Int,(x.map by8=List.map (AV.int .u8) l)∧∃ l1:List Int,(x.map by8=List.map (AV.int .u8) l1)∧Br (ops0.eqi l l1) r t :=
 ⟨_,by8_ints x,_,by8_ints x,Br.t (by rw[nEqi]; exact decide_eq_true rfl) h⟩
theorem neEx{x y:List UInt8}(hne:¬ x=y){r t:Prop}(h:t):∃ l:List Int,(x.map by8=List.map (AV.int .u8) l)∧∃ l1:List Int,(y.map by8=List.map (AV.int .u8) l1)∧Br (ops0.eqi l l1) r t :=
 ⟨_,by8_ints x,_,by8_ints y,Br.f (by rw[nEqi]; exact decide_eq_false fun h=>hne (ints_inj h)) h⟩
theorem eq32'{x:List UInt8}(h:x.length=32):ops0.eq (ops0.len (x.map by8)) 32=true:=eq32 (by rw[List.length_map,h])
theorem ext32'{x:List UInt8}(h:x.length=32):ops0.ext (x.map by8) 0 32=x.map by8:=ext32 (by rw[List.length_map,h])
end
end Go.Proofs.Vm

namespace Go.Proofs.Vm
set_option maxRecDepth 100000
open Go.Vm
noncomputable section
noncomputable def vf19:VF:=⟨92,[(.tmp 8),(.tmp 9)],compile Tryd.prog (Tryd.f19.body.getD .skip)⟩
theorem ok19:FnOK Tryd.prog 19 vf19 := .of Tryd.func19 (by kernel_rfl) (by kernel_rfl)
noncomputable def vf8:VF:=⟨98,[(.tmp 0)],compile Tryd.prog (Tryd.f8.body.getD .skip)⟩
theorem ok8:FnOK Tryd.prog 8 vf8 := .of Tryd.func8 (by kernel_rfl) (by kernel_rfl)
noncomputable def vf20:VF:=⟨68,[(.cell 6 101),(.tmp 7),(.tmp 8)],compile Tryd.prog (Tryd.f20.body.getD .skip)⟩
theorem ok20:FnOK Tryd.prog 20 vf20 := .of Tryd.func20 (by kernel_rfl) (by kernel_rfl)
noncomputable def vf36:VF:=⟨24,[(.tmp 4)],compile Tryd.prog (Tryd.f36.body.getD .skip)⟩
theorem ok36:FnOK Tryd.prog 36 vf36 := .of Tryd.func36 (by kernel_rfl) (by kernel_rfl)
noncomputable def vf34:VF:=⟨15,[(.tmp 6)],compile Tryd.prog (Tryd.f34.body.getD .skip)⟩
theorem ok34:FnOK Tryd.prog 34 vf34 := .of Tryd.func34 (by kernel_rfl) (by kernel_rfl)
noncomputable def vf35:VF:=⟨26,[(.tmp 2)],compile Tryd.prog (Tryd.f35.body.getD .skip)⟩
theorem ok35:FnOK Tryd.prog 35 vf35 := .of Tryd.func35 (by kernel_rfl) (by kernel_rfl)
noncomputable def vf37:VF:=⟨35,[(.tmp 2)],compile Tryd.prog (Tryd.f37.body.getD .skip)⟩
theorem ok37:FnOK Tryd.prog 37 vf37 := .of Tryd.func37 (by kernel_rfl) (by kernel_rfl)
noncomputable def vf38:VF:=⟨4,[(.tmp 2)],compile Tryd.prog (Tryd.f38.body.getD .skip)⟩
theorem ok38:FnOK Tryd.prog 38 vf38 := .of Tryd.func38 (by kernel_rfl) (by kernel_rfl)
noncomputable def vf39:VF:=⟨8,[(.tmp 4)],compile Tryd.prog (Tryd.f39.body.getD .skip)⟩
theorem ok39:FnOK Tryd.prog 39 vf39 := .of Tryd.func39 (by kernel_rfl) (by kernel_rfl)
noncomputable def vf40:VF:=⟨12,[(.tmp 4)],compile Tryd.prog (Tryd.f40.body.getD .skip)⟩
theorem ok40:FnOK Tryd.prog 40 vf40 := .of Tryd.func40 (by kernel_rfl) (by kernel_rfl)
noncomputable def vf41:VF:=⟨12,[(.cell 6 32)],compile Tryd.prog (Tryd.f41.body.getD .skip)⟩
theorem ok41:FnOK Tryd.prog 41 vf41 := .of Tryd.func41 (by kernel_rfl) (by kernel_rfl)
noncomputable def vf42:VF:=⟨12,[(.tmp 6)],compile Tryd.prog (Tryd.f42.body.getD .skip)⟩
theorem ok42:FnOK Tryd.prog 42 vf42 := .of Tryd.func42 (by kernel_rfl) (by kernel_rfl)
noncomputable def vf18:VF:=⟨9,[(.cell 2 32)],compile Tryd.prog (Tryd.f18.body.getD .skip)⟩
theorem ok18:FnOK Tryd.prog 18 vf18 := .of Tryd.func18 (by kernel_rfl) (by kernel_rfl)
noncomputable def vf43:VF:=⟨9,[(.cell 4 32)],compile Tryd.prog (Tryd.f43.body.getD .skip)⟩
theorem ok43:FnOK Tryd.prog 43 vf43 := .of Tryd.func43 (by kernel_rfl) (by kernel_rfl)
noncomputable def vf23:VF:=⟨36,[(.tmp 2)],compile Tryd.prog (Tryd.f23.body.getD .skip)⟩
theorem ok23:FnOK Tryd.prog 23 vf23 := .of Tryd.func23 (by kernel_rfl) (by kernel_rfl)
noncomputable def vf44:VF:=⟨27,[(.cell 2 101),(.cell 3 32),(.tmp 4)],compile Tryd.prog (Tryd.f44.body.getD .skip)⟩
theorem ok44:FnOK Tryd.prog 44 vf44 := .of Tryd.func44 (by kernel_rfl) (by kernel_rfl)
noncomputable def vf17:VF:=⟨16,[(.cell 2 32)],compile Tryd.prog (Tryd.f17.body.getD .skip)⟩
theorem ok17:FnOK Tryd.prog 17 vf17 := .of Tryd.func17 (by kernel_rfl) (by kernel_rfl)
noncomputable def vf55:VF:=⟨19,[],compile Tryd.prog (Tryd.f55.body.getD .skip)⟩
theorem ok55:FnOK Tryd.prog 55 vf55 := .of Tryd.func55 (by kernel_rfl) (by kernel_rfl)
noncomputable def vf56:VF:=⟨51,[],compile Tryd.prog (Tryd.f56.body.getD .skip)⟩
theorem ok56:FnOK Tryd.prog 56 vf56 := .of Tryd.func56 (by kernel_rfl) (by kernel_rfl)
noncomputable def vf57:VF:=⟨21,[],compile Tryd.prog (Tryd.f57.body.getD .skip)⟩
theorem ok57:FnOK Tryd.prog 57 vf57 := .of Tryd.func57 (by kernel_rfl) (by kernel_rfl)
noncomputable def vf58:VF:=⟨8,[],compile Tryd.prog (Tryd.f58.body.getD .skip)⟩
theorem ok58:FnOK Tryd.prog 58 vf58 := .of Tryd.func58 (by kernel_rfl) (by kernel_rfl)
noncomputable def vf47:VF:=⟨27,[(.tmp 4)],compile Tryd.prog (Tryd.f47.body.getD .skip)⟩
theorem ok47:FnOK Tryd.prog 47 vf47 := .of Tryd.func47 (by kernel_rfl) (by kernel_rfl)
noncomputable def vf59:VF:=⟨28,[],compile Tryd.prog (Tryd.f59.body.getD .skip)⟩
theorem ok59:FnOK Tryd.prog 59 vf59 := .of Tryd.func59 (by kernel_rfl) (by kernel_rfl)
noncomputable def vf61:VF:=⟨9,[(.tmp 4)],compile Tryd.prog (Tryd.f61.body.getD .skip)⟩
theorem ok61:FnOK Tryd.prog 61 vf61 := .of Tryd.func61 (by kernel_rfl) (by kernel_rfl)
noncomputable def vf62:VF:=⟨5,[(.tmp 2)],compile Tryd.prog (Tryd.f62.body.getD .skip)⟩
theorem ok62:FnOK Tryd.prog 62 vf62 := .of Tryd.func62 (by kernel_rfl) (by kernel_rfl)
noncomputable def vf71:VF:=⟨19,[(.tmp 4)],compile Tryd.prog (Tryd.f71.body.getD .skip)⟩
theorem ok71:FnOK Tryd.prog 71 vf71 := .of Tryd.func71 (by kernel_rfl) (by kernel_rfl)
end
end Go.Proofs.Vm

namespace Go.Proofs.Vm
set_option maxRecDepth 100000
open Go.Vm
noncomputable section
def onionW:List UInt8 := [111,110,105,111,110]
def tagW:List UInt8 := [116,97,103]
theorem vc95(F:HF)(ks ns:List AV)(Q:AV→Hl→Prop) :
  (vcall (vcA kdYes (cnM F) noLn) ops0 (tabOne 43 vf43) 200 vf43 [.agg ks,.agg ns] [] (endN (fun _=>0) Q)) =
 ((Chk (ops0.le 32 (ops0.len ks))
 (Chk (ops0.le 32 (ops0.len ns))
 (((PKey (ops0.ext ks 0 32)) ∧
 (PTag [(.ros ns 0 32 32 Bool.false)] 0 1)) ∧
 (Chk (ops0.eq (ops0.len (GF.tag (NG.toGF (HF.toNG F)) (ops0.ext ks 0 32) [111,110,105,111,110] [(partA (.ros ns 0 32 32 Bool.false))])) 32)
 (Chk (ops0.le 32 (ops0.len (ops0.spl (z8 32) 0 (GF.tag (NG.toGF (HF.toNG F)) (ops0.ext ks 0 32) [111,110,105,111,110] [(partA (.ros ns 0 32 32 Bool.false))]))))
 (Q (.agg (ops0.ext (ops0.spl (z8 32) 0 (GF.tag (NG.toGF (HF.toNG F)) (ops0.ext ks 0 32) [111,110,105,111,110] [(partA (.ros ns 0 32 32 Bool.false))])) 0 32)) []))))))):=by kernel_rfl
theorem vc88(F:HF)(ks pc hs:List AV)(off len cap:Nat)(e:Bool)(Q:AV→Hl→Prop) :
  (vcall (vcA kdYes (cnM F) noLn) ops0 (tabOne 41 vf41) 200 vf41 [.agg ks,.ros pc off len cap e,.agg hs] [] (endN (fun _=>0) Q)) =
 ((Chk (ops0.le 32 (ops0.len ks))
 (Chk (ops0.le 32 (ops0.len hs))
 (((PKey (ops0.ext ks 0 32)) ∧
 (PTag [(.ros pc off len cap e),(.ros hs 0 32 32 Bool.false)] 0 2)) ∧
 (Chk (ops0.eq (ops0.len (GF.tag (NG.toGF (HF.toNG F)) (ops0.ext ks 0 32) [116,97,103] [(partA (.ros pc off len cap e)),(partA (.ros hs 0 32 32 Bool.false))])) 32)
 (Chk (ops0.le 32 (ops0.len (ops0.spl (z8 32) 0 (GF.tag (NG.toGF (HF.toNG F)) (ops0.ext ks 0 32) [116,97,103] [(partA (.ros pc off len cap e)),(partA (.ros hs 0 32 32 Bool.false))]))))
 (Q (.agg (ops0.ext (ops0.spl (z8 32) 0 (GF.tag (NG.toGF (HF.toNG F)) (ops0.ext ks 0 32) [116,97,103] [(partA (.ros pc off len cap e)),(partA (.ros hs 0 32 32 Bool.false))])) 0 32)) []))))))):=by kernel_rfl
def atL(key nonce:List UInt8):List UInt8:=tagL key onionW [nonce]
def btagL(key body hash:List UInt8):List UInt8:=tagL key tagW [body,hash]
theorem call95{key nonce:List UInt8}(hk:key.length=32)(hn:nonce.length=32):CallTo Tryd.prog 43 [.agg (key.map by8),.agg (nonce.map by8)] [] (.agg ((atL key nonce).map by8)) [] []:=by
 refine call_n cnM_ok (noLn_ok _) (tabOne_ok ok43) (tabOne_self 43 vf43) (n:=200) (g:=kdYes) (m:=fun _=>0) [] ?_ (Nat.le_refl 0) flat0 (fun b hb=>by simp at hb)
 have ht:GF.tag (NG.toGF (HF.toNG hf0)) (key.map by8) [111,110,105,111,110] [nonce]=(atL key nonce).map by8:=gtag_eq _ _ _
 have hl:(atL key nonce).length=32:=tagL_length _ _ _
 rw[vc95,ext32' hk,partA_whole nonce 32 32 hn.symm,ht,spl32 hl,ext32' hl]
 exact Chk.mk (key_len hk) (Chk.mk (key_len hn) ⟨⟨pkey key hk,ptag_whole nonce 32 32 hn.symm (by omega) _⟩,Chk.mk (eq32' hl) (Chk.mk (key_len hl) ⟨rfl,rfl⟩)⟩)
theorem call88{key body hash:List UInt8}(hk:key.length=32)(hh:hash.length=32){pc:List AV}{off len:Nat}(cap:Nat)(e:Bool)(hf:flatL pc)(hb:BytesAt pc off len body)(ho:off+len≤pc.length)(hl:len≤1048576) :
  CallTo Tryd.prog 41 [.agg (key.map by8),.ros pc off len cap e,.agg (hash.map by8)] [] (.agg ((btagL key body hash).map by8)) [] []:=by
 refine call_n cnM_ok (noLn_ok _) (tabOne_ok ok41) (tabOne_self 41 vf41) (n:=200) (g:=kdYes) (m:=fun _=>0) [] ?_ (Nat.le_refl 0) flat0 (fun b hb=>by simp at hb)
 have ht:GF.tag (NG.toGF (HF.toNG hf0)) (key.map by8) [116,97,103] [body,hash]=(btagL key body hash).map by8:=gtag_eq _ _ _
 have hl2:(btagL key body hash).length=32:=tagL_length _ _ _
 have a2:BytesAt (hash.map by8) 0 32 hash:=by have:=bytesAt_whole hash;rw[hh] at this;exact this
 rw[vc88,ext32' hk,partA_ros hb,partA_whole hash 32 32 hh.symm,ht,spl32 hl2,ext32' hl2]
 exact Chk.mk (key_len hk) (Chk.mk (key_len hh) ⟨⟨pkey key hk,ptag_two cap e 32 false hf hb ho hl (flat_by8 _) a2 (by rw[List.length_map]; omega) (by omega)⟩,Chk.mk (eq32' hl2) (Chk.mk (key_len hl2) ⟨rfl,rfl⟩)⟩)
end
end Go.Proofs.Vm

namespace Go.Proofs.Vm
set_option maxRecDepth 100000
open Go.Vm
noncomputable section
def PBd(pc:List AV)(off len:Nat):Prop:=flatL pc∧off+len≤pc.length∧len≤1048576∧∃ lb,BytesAt pc off len lb
structure OY where
 att:List AV→List AV→List AV
 btg:List AV→List UInt8→List AV→List AV
def of1:OY:=⟨fun k n=>(atL (bytesA k) (bytesA n)).map by8,fun k b h=>(btagL (bytesA k) b (bytesA h)).map by8⟩
def cnO1(O:OY)(F:HF):CnF:=cnOr (fun f vals H=>match f,vals with
 | 43,[.agg ks,.agg ns]=>some (PKey ks∧PKey ns,.ok (.agg (O.att ks ns)) H [])
 | 41,[.agg ks,x,.agg hs]=>match vw1 H x with
  | .ros pc off len _ _=>some (PKey ks∧PKey hs∧PBd pc off len,.ok (.agg (O.btg ks (rdB pc off len) hs)) H [])
  | _=>none
 | _,_=>none) (cnM F)
theorem cnO1_ok:CnOK Tryd.prog (cnO1 of1 hf0):=by
 refine cnOr_ok ?_ cnM_ok
 intro f vals H p x e hp
 dsimp only at e
 split at e
 ·rename_i ks ns
  cases e
  obtain⟨⟨k,hk,rfl⟩,⟨n,hn,rfl⟩⟩:=hp
  have h:=CallTo.lookV (H:=H) (call95 hk hn) (.cons (vwA H k) (.cons (vwA H n) .nil))
  rw[backV_flat (flat_by8 _)] at h
  show CallTo _ _ _ _ (.agg ((atL (bytesA (k.map by8)) (bytesA (n.map by8))).map by8)) _ _
  rw[bytesA_by8,bytesA_by8]
  exact h
 ·rename_i ks y hs
  split at e<;>cases e
  rename_i pc off len c ex hv
  obtain⟨⟨k,hk,rfl⟩,⟨n,hn,rfl⟩,hf,ho,hl,lb,hb⟩:=hp
  have h:=CallTo.lookV (H:=H) (call88 hk hn c ex hf hb ho hl) (.cons (vwA H k) (.cons (Vw.one hv hf) (.cons (vwA H n) .nil)))
  rw[backV_flat (flat_by8 _)] at h
  show CallTo _ _ _ _ (.agg ((btagL (bytesA (k.map by8)) (rdB pc off len) (bytesA (n.map by8))).map by8)) _ _
  rw[bytesA_by8,bytesA_by8,rdB_eq hb]
  exact h
 ·cases e
end
end Go.Proofs.Vm

namespace Go.Proofs.Vm
set_option maxRecDepth 100000
open Go.Vm
noncomputable section
def P65(cs:List AV)(o n:Nat)(ns:List AV):Prop:=PSh cs o n∧n<4294967296∧PKey ns
noncomputable def lp65:VC:=vp [1,1,0,1,0,0] vf36.body
def fr65(cs:List AV)(o n c:Nat)(e:Bool)(x:AV)(i:Int):Fr := [.top,.top,.top,.ptr 0 0,.top,x,.top,.top,.ros cs o n c e,.int .i64 (Int.ofNat n),.int .i64 i,.top,.top,.top,.top,.top,.top,.top,.top,.top,.top,.top,.top,.top]
def mk65:List Bool := [true,true,true,false,true,false,true,true,false,false,false,true,true,true,true,true,true,true,true,true,true,true,true,true]
structure KX where
 non:List AV→Nat→List AV
 keys:List AV→List AV→Nat→Nat→List AV
theorem vcl65a(O:OY)(F:HF)(ns cs:List AV)(o n c:Nat)(e:Bool)(i:Int)(Q:Ex→Fr→Hl→Prop) :
  (vm (vcA kdYes (cnO1 O F) noLn) ops0 noTab 100 0 lp65 (fr65 cs o n c e .nils i) [.cells ns] [] (bodyX mk65 Q)) =
 ((Br (ops0.cmp .lss i (Int.ofNat n))
 (Chk (ops0.inr i n)
 (Chk (ops0.le (ops0.add (ops0.adr o i 32) 32) (ops0.len cs))
 (Chk (ops0.eq (ops0.len (ops0.ext cs (ops0.adr o i 32) 32)) 32)
 (Chk (ops0.le 32 (ops0.len (ops0.spl (z8 32) 0 (ops0.ext cs (ops0.adr o i 32) 32))))
 (Chk (ops0.le 32 (ops0.len ns))
 (((PKey (ops0.ext (ops0.spl (z8 32) 0 (ops0.ext cs (ops0.adr o i 32) 32)) 0 32)) ∧
 (PKey (ops0.ext ns 0 32))) ∧
 (Chk (ops0.eq (ops0.len (OY.att O (ops0.ext (ops0.spl (z8 32) 0 (ops0.ext cs (ops0.adr o i 32) 32)) 0 32) (ops0.ext ns 0 32))) 32)
 (Chk (ops0.le 32 (ops0.len (ops0.spl (z8 32) 0 (OY.att O (ops0.ext (ops0.spl (z8 32) 0 (ops0.ext cs (ops0.adr o i 32) 32)) 0 32) (ops0.ext ns 0 32)))))
 (Chk (ops0.le 32 (ops0.len ns))
 ((PKey (ops0.ext ns 0 32)) ∧
 (Chk (ops0.eq (ops0.len (HF.hash F (ops0.ext ns 0 32))) 32)
 (Chk (ops0.le 32 (ops0.len ns))
 (Q Ex.norm (tp 3 ((.ptr 0 0) :: .top::(.slc 2 0 1 1 32)::tp 2 ((.ros cs o n c e)::(.int .i64 (.ofNat n))::(.int .i64 (ops0.bin .add .i64 i (Int.ofNat 1)))::tp 13 ([])))) [(.cells (ops0.spl ns 0 (HF.hash F (ops0.ext ns 0 32)))),(.cells (ops0.spl (z8 32) 0 (ops0.ext cs (ops0.adr o i 32) 32))),(.cells (ops0.ext (ops0.spl (z8 32) 0 (OY.att O (ops0.ext (ops0.spl (z8 32) 0 (ops0.ext cs (ops0.adr o i 32) 32)) 0 32) (ops0.ext ns 0 32))) 0 32))])))))))))))))
 (Q (Ex.exit 0) (tp 3 ((.ptr 0 0) :: .top :: .nils::tp 2 ((.ros cs o n c e)::(.int .i64 (.ofNat n))::(.int .i64 i)::tp 13 ([])))) [(.cells ns)]))):=by kernel_rfl
theorem vcl65b(O:OY)(F:HF)(ns os cs:List AV)(o n c:Nat)(e:Bool)(N:Nat)(i:Int)(Q:Ex→Fr→Hl→Prop) :
  (vm (vcA kdYes (cnO1 O F) noLn) ops0 noTab 100 0 lp65 (fr65 cs o n c e (.slc 1 0 N N 32) i) [.cells ns,.cells os] [] (bodyX mk65 Q)) =
 ((Br (ops0.cmp .lss i (Int.ofNat n))
 (Chk (ops0.inr i n)
 (Chk (ops0.le (ops0.add (ops0.adr o i 32) 32) (ops0.len cs))
 (Chk (ops0.eq (ops0.len (ops0.ext cs (ops0.adr o i 32) 32)) 32)
 (Chk (ops0.le 32 (ops0.len (ops0.spl (z8 32) 0 (ops0.ext cs (ops0.adr o i 32) 32))))
 (Chk (ops0.le 32 (ops0.len ns))
 (((PKey (ops0.ext (ops0.spl (z8 32) 0 (ops0.ext cs (ops0.adr o i 32) 32)) 0 32)) ∧
 (PKey (ops0.ext ns 0 32))) ∧
 (Chk (ops0.eq (ops0.len (OY.att O (ops0.ext (ops0.spl (z8 32) 0 (ops0.ext cs (ops0.adr o i 32) 32)) 0 32) (ops0.ext ns 0 32))) 32)
 (Chk (ops0.le (ops0.add 0 (ops0.mul N 32)) (ops0.len os))
 (Chk (ops0.le 32 (ops0.len (ops0.spl (z8 32) 0 (OY.att O (ops0.ext (ops0.spl (z8 32) 0 (ops0.ext cs (ops0.adr o i 32) 32)) 0 32) (ops0.ext ns 0 32)))))
 (Chk (ops0.room N 1 32)
 (Chk (ops0.le 32 (ops0.len ns))
 ((PKey (ops0.ext ns 0 32)) ∧
 (Chk (ops0.eq (ops0.len (HF.hash F (ops0.ext ns 0 32))) 32)
 (Chk (ops0.le 32 (ops0.len ns))
 (Q Ex.norm (tp 3 ((.ptr 0 0) :: .top::(.slc 3 0 (ops0.add N 1) (ops0.add N 1) 32)::tp 2 ((.ros cs o n c e)::(.int .i64 (.ofNat n))::(.int .i64 (ops0.bin .add .i64 i (Int.ofNat 1)))::tp 13 ([])))) [(.cells (ops0.spl ns 0 (HF.hash F (ops0.ext ns 0 32)))),.dead,(.cells (ops0.spl (z8 32) 0 (ops0.ext cs (ops0.adr o i 32) 32))),(.cells (ops0.app (ops0.ext os 0 (ops0.mul N 32)) (ops0.ext (ops0.spl (z8 32) 0 (OY.att O (ops0.ext (ops0.spl (z8 32) 0 (ops0.ext cs (ops0.adr o i 32) 32)) 0 32) (ops0.ext ns 0 32))) 0 32)))])))))))))))))))
 (Q (Ex.exit 0) (tp 3 ((.ptr 0 0) :: .top::(.slc 1 0 N N 32)::tp 2 ((.ros cs o n c e)::(.int .i64 (.ofNat n))::(.int .i64 i)::tp 13 ([])))) [(.cells ns),(.cells os)]))):=by kernel_rfl
def nonL(n:List UInt8):Nat→List UInt8
 | 0=>n
 | i+1=>sumL (nonL n i)
def keysL(L:List (List UInt8))(n:List UInt8)(i:Nat):List (List UInt8):=(List.range i).map fun j=>atL (L.getD j []) (nonL n j)
theorem non_32{n:List UInt8}(h:n.length=32):∀ i,(nonL n i).length=32
 | 0=>h
 | i+1=>sumL_length _
theorem at_32(k n:List UInt8):(atL k n).length=32:=tagL_length _ _ _
theorem keys_32(L:List (List UInt8))(n:List UInt8)(i:Nat):∀ x,x∈keysL L n i→x.length=32:=by
 intro x hx
 obtain⟨j,_,rfl⟩:=List.mem_map.1 hx
 exact at_32 _ _
theorem keys_length(L:List (List UInt8))(n:List UInt8)(i:Nat):(keysL L n i).length=i:=by unfold keysL;rw[List.length_map,List.length_range]
theorem keys_succ{L:List (List UInt8)}{n k:List UInt8}{i:Nat}(h:L[i]? = some k):keysL L n (i+1)=keysL L n i ++ [atL k (nonL n i)]:=by
 unfold keysL
 rw[List.range_succ,List.map_append]
 simp[h]
theorem att_eq(k n:List UInt8):of1.att (k.map by8) (n.map by8)=(atL k n).map by8:=by
 show(atL (bytesA _) (bytesA _)).map by8=_
 rw[bytesA_by8,bytesA_by8]
def kx0:KX:=⟨fun ns n=>(nonL (bytesA ns) n).map by8,fun ns cs o n=>(keysL (shA cs o n) (bytesA ns) n).flatten.map by8⟩
def isZ(n:Nat):Bool:=decide (n=0)
end
end Go.Proofs.Vm
