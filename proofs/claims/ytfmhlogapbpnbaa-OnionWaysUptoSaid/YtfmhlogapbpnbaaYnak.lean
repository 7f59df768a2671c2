/-
  MAC, PART 5: laws of layer 4: masks; cut another way; equal bytes.
-/
import Derived.Test.YtfmhlogapbpnbaaYnaj
import Derived.Test.YtfmhlogapbpnbaaYnac
import Derived.Test.YtfmhlogapbpnbaaProg
import Derived.KernelRfl
import Derived.Test.YtfmhlogapbpnbaaYnad
set_option linter.unusedVariables false
set_option linter.unusedSimpArgs false
set_option linter.unusedSectionVars false

namespace Go.Proofs.Vm
set_option maxRecDepth 100000
open Go.Vm
noncomputable section
theorem extW{l:List UInt8}{n:Nat}(h:l.length=n):ops0.ext (l.map by8) 0 (ops0.mul n 1)=l.map by8:=by rw[nExt,qbw,Nat.mul_one,List.drop_zero,List.take_of_length_le (by rw[List.length_map]; omega)]
theorem rdW{l:List UInt8}{n:Nat}(h:l.length=n):rdB (l.map by8) 0 n=l:=by subst h;exact qch (qax l)
theorem qxt(a b:List UInt8):HF.eq hf0 a b=decide (a=b):=rfl
theorem qic(key:List UInt8):HF.hash hf0 (key.map by8)=(sumL key).map by8:=by
 show(sumL (qag (key.map by8))).map by8=_
 rw[qab]
theorem qol(l:List UInt8):KF.sum (AF.toKF (NF.toAF (NG.toNF (HF.toNG hf0)))) l=(sumL l).map by8:=rfl
theorem sum32(l:List UInt8):((sumL l).map by8).length=32:=by rw[List.length_map,qbu]
end
end Go.Proofs.Vm

namespace Go.Proofs.Vm
set_option maxRecDepth 100000
open Go.Vm
noncomputable section
structure XF where
 rows:List AV->Nat->Nat->List AV
theorem qo8{pa:List AV}{oa la:Nat}(ca:Nat)(ea:Bool){pb:List AV}{ob lb:Nat}(cb:Nat)(eb:Bool){al bl:List UInt8}(hfa:flatL pa)(ha:qan pa oa la al)(hoa:oa+la<=pa.length)(hla:la<=1048576)
  (hfb:flatL pb) (hb:qan pb ob lb bl) (hob:ob+lb<=pb.length) (hlb:lb<=1048576):PTag [.ros pa oa la ca ea,.ros pb ob lb cb eb] 0 2:=by
 have h1:=ha.1
 have h2:=hb.1
 refine⟨⟨fun p hp => ?_,[al,bl],rfl,by omega,fun j x hx => ?_⟩,fun j hj pc off len cap ex hp => ?_,?_⟩
 ·simp only[List.mem_cons,List.not_mem_nil,or_false] at hp
  rcases hp with rfl|rfl
  ·exact⟨_,_,_,_,_,rfl,hfa⟩
  ·exact⟨_,_,_,_,_,rfl,hfb⟩
 ·cases j with
  | zero =>
   obtain rfl:al=x:=Option.some.inj hx
   exact⟨by omega,_,_,_,_,_,rfl,ha⟩
  | succ j =>
   cases j with
   | zero =>
    obtain rfl:bl=x:=Option.some.inj hx
    exact⟨by omega,_,_,_,_,_,rfl,hb⟩
   | succ j=>cases hx
 ·cases j with
  | zero=>cases hp;exact hoa
  | succ j =>
   cases j with
   | zero=>cases hp;exact hob
   | succ j=>omega
 ·have e:qa6 [.ros pa oa la ca ea,.ros pb ob lb cb eb] 0 2 = [al,bl]:=by
   show [partA (.ros pa oa la ca ea),partA (.ros pb ob lb cb eb)]=_
   rw[qdp ha,qdp hb]
  rw[e]
  unfold textL
  simp[qbh]
  omega
theorem qmq(l:List UInt8)(n m:Nat):∃ t,qas 168 31 (n+m) l=qas 168 31 n l++t:=by
 refine⟨(qas 168 31 (n+m) l).drop n,?_⟩
 have h:(qas 168 31 (n+m) l).take n=qas 168 31 n l:=qnc 168 n (n+m) _ (by omega)
 rw[<-h,List.take_append_drop]
theorem qt2(l:List UInt8):xorL l (List.replicate l.length 0)=l:=by
 unfold xorL
 apply List.ext_getElem
 ·simp
 ·intro i h1 h2
  simp only[List.getElem_zipWith,List.getElem_replicate]
  exact UInt8.xor_zero
theorem qjx(key l:List UInt8)(n:Nat):maskL key l (List.replicate n 0)=qas 168 31 n (headL key l):=by
 have h:=qa7 168 31 n (headL key l)
 unfold maskL
 rw[List.length_replicate]
 conv=>lhs;arg 2;rw[<-h]
 exact qt2 _
theorem qoq(key l b:List UInt8):maskL key l b=xorL (maskL key l (List.replicate b.length 0)) b:=by
 rw[qjx]; rfl
theorem qv0(key l a b:List UInt8):∃ t,maskL key l (a++b)=maskL key l a++t:=by
 obtain⟨t,ht⟩:=qmq (headL key l) a.length b.length
 refine⟨xorL t b,?_⟩
 unfold maskL
 rw[List.length_append,ht]
 unfold xorL
 rw[List.zipWith_append (qa7 _ _ _ _)]
end
end Go.Proofs.Vm

namespace Go.Proofs.Vm
set_option maxRecDepth 100000
open Go.Vm
noncomputable section
end
end Go.Proofs.Vm

namespace Go.Proofs.Vm
set_option maxRecDepth 100000
open Go.Vm
noncomputable section
def ShAt(cs:List AV)(o n:Nat)(L:List (List UInt8)):Prop:=L.length=n/\∀ (i:Nat) (x:List UInt8),L[i]? = some x->x.length=32/\(cs.drop (o+i*32)).take 32=x.map by8
def PSh(cs:List AV)(o n:Nat):Prop:=flatL cs/\o+n*32<=cs.length/\n<1099511627776/\∃ L,ShAt cs o n L
def qiw:List UInt8:=List.replicate 32 0
def joinL(L:List (List UInt8)):List UInt8:=L.foldl xorL qiw
def shA(cs:List AV)(o n:Nat):List (List UInt8):=(List.range n).map fun i=>qag ((cs.drop (o+i*32)).take 32)
structure JX where
 xr:List AV->List AV->List AV
 jn:List AV->Nat->Nat->List AV
def mixL(s t:List UInt8)(k:Nat):List UInt8:=xorL (s.take k) (t.take k)++s.drop k
theorem qw7(s t:List UInt8):mixL s t 0=s:=by unfold mixL xorL;simp
theorem qoz(l:List UInt8)(k:Nat)(v:UInt8):(l.map by8).set k (by8 v)=(l.set k v).map by8:=by rw[List.map_set]
theorem nth8{l:List UInt8}{k:Nat}{b:UInt8}(h:l[k]? = some b):Nth (l.map by8) k (.int .u8 (Int.ofNat b.toNat)):=Nth.mk (by rw[List.getElem?_map,h]; rfl)
theorem add1{k:Nat}(h:k<9223372036854775807):ops0.bin .add .i64 (Int.ofNat k) (Int.ofNat 1)=Int.ofNat (k+1):=nAdd (by omega)
theorem qcr{cs:List AV}{o n:Nat}{L:List (List UInt8)}(h:ShAt cs o n L):shA cs o n=L:=by
 unfold shA
 apply List.ext_getElem?
 intro i
 rw[List.getElem?_map]
 rcases Nat.lt_or_ge i n with hi|hi
 ·have hl:i<L.length:=by rw[h.1]; exact hi
  obtain⟨_,h2⟩:=h.2 i L[i] (List.getElem?_eq_getElem hl)
  rw[List.getElem?_range hi,Option.map_some,h2,qab,List.getElem?_eq_getElem hl]
 ·rw[List.getElem?_eq_none (by simpa using hi),List.getElem?_eq_none (by rw[h.1]; exact hi)]
  rfl
def upto(L:List (List UInt8))(j:Nat):List UInt8:=joinL (L.take j)
theorem spl32{x:List UInt8}(h:x.length=32):ops0.spl (z8 32) 0 (x.map by8)=x.map by8:=by
 rw[nSpl,List.take_zero,List.nil_append,List.drop_of_length_le (by rw[qer,List.length_map]; omega),List.append_nil]
end
end Go.Proofs.Vm

namespace Go.Proofs.Vm
set_option maxRecDepth 100000
open Go.Vm
noncomputable section
structure JY where
 sec:List AV->List AV->Int->List AV
 hsh:List AV->List AV->Int->List AV
theorem flat0{l:List UInt8}:cutV 0 (.agg (l.map by8)) = .agg (l.map by8):=by
 unfold cutV
 rw[ren,qaa (qac _)]
theorem vwA(H:Hl)(l:List UInt8):Vw H (.agg (l.map by8)) (.agg (l.map by8)):=Vw.agg H (Still.flat (qac l))
end
end Go.Proofs.Vm

namespace Go.Proofs.Vm
set_option maxRecDepth 100000
open Go.Vm
noncomputable section
structure JZ where
 out:List AV->List AV->Int->List AV
 wnt:List AV->List AV->Int->List AV
theorem qdb{L:List (List UInt8)}(h:∀ x,x∈L->x.length=32):L.flatten.length=L.length*32:=by
 induction L with
 | nil=>rfl
 | cons y L ih =>
  have:=ih fun x hx=>h x (List.mem_cons_of_mem _ hx)
  rw[List.flatten_cons,List.length_append,this,h y List.mem_cons_self,List.length_cons]
  omega
theorem qlu(rest:List AV):∀ (L:List (List UInt8)) (i:Nat) (x:List UInt8),(∀ x,x∈L->x.length=32)->L[i]? = some x->((L.flatten.map by8++rest).drop (i*32)).take 32=x.map by8
 | [],i,x,_,hx=>by cases hx
 | y::L,i,x,h,hx=>by
  have hy:=h y List.mem_cons_self
  have hym:(y.map by8).length=32:=by rw[List.length_map,hy]
  rw[List.flatten_cons,List.map_append,List.append_assoc]
  cases i with
  | zero =>
   cases hx
   rw[Nat.zero_mul,List.drop_zero,List.take_append_of_le_length (by omega),List.take_of_length_le (by omega)]
  | succ i =>
   have ih:=qlu rest L i x (fun x hx=>h x (List.mem_cons_of_mem _ hx)) hx
   have e0:(y.map by8++(L.flatten.map by8++rest)).drop 32=L.flatten.map by8++rest:=by
    rw[List.drop_append_of_le_length (by omega),List.drop_of_length_le (by omega),List.nil_append]
   rw[show(i+1)*32=32+i*32 by omega,<-List.drop_drop,e0]
   exact ih
theorem q0w{L:List (List UInt8)}(h:∀ x,x∈L->x.length=32)(rest:List AV):ShAt (L.flatten.map by8++rest) 0 L.length L :=
 ⟨rfl,fun i x hx=>⟨h x (List.mem_of_getElem? hx),by rw[Nat.zero_add]; exact qlu rest L i x h hx⟩⟩
theorem qp7{L:List (List UInt8)}(h:∀ x,x∈L->x.length=32)(hn:L.length<1099511627776){n:Nat}(hl:n=L.length):PSh (L.flatten.map by8) 0 n:=by
 subst hl
 have e:=q0w h []
 rw[List.append_nil] at e
 exact⟨qac _,by rw[List.length_map,qdb h]; omega,hn,L,e⟩
theorem zero_xor{a:List UInt8}(h:a.length=32):xorL qiw a=a:=by
 unfold xorL qiw
 apply List.ext_getElem
 ·simp[h]
 ·intro i h1 h2
  simp only[List.getElem_zipWith,List.getElem_replicate,UInt8.zero_xor]
theorem qgg{a b:List UInt8}(ha:a.length=32)(hb:b.length=32):ops0.spl (a.map by8) 0 (b.map by8)=b.map by8:=by
 rw[nSpl,List.take_zero,List.nil_append,List.drop_of_length_le (by rw[List.length_map,List.length_map]; omega),List.append_nil]
end
end Go.Proofs.Vm

namespace Go.Proofs.Vm
set_option maxRecDepth 100000
open Go.Vm
noncomputable section
structure JW where
 out:List AV->Int->List AV
end
end Go.Proofs.Vm

namespace Go.Proofs.Vm
set_option maxRecDepth 100000
open Go.Vm
noncomputable section
def b1(k:Nat):List AV := .int .u8 (Int.ofNat k)::z8 31
structure JS where
 spl:List AV->List AV->Int->List AV
 inN:Int->Bool
theorem eq32'{x:List UInt8}(h:x.length=32):ops0.eq (ops0.len (x.map by8)) 32=true:=eq32 (by rw[List.length_map,h])
theorem qa5{x:List UInt8}(h:x.length=32):ops0.ext (x.map by8) 0 32=x.map by8:=ext32 (by rw[List.length_map,h])
end
end Go.Proofs.Vm

namespace Go.Proofs.Vm
set_option maxRecDepth 100000
open Go.Vm
noncomputable section
noncomputable def vf20:VF:=⟨46,[(.tmp 8)],qaf Try.prog (Try.f20.body.getD .skip)⟩
theorem ok20:FnOK Try.prog 20 vf20 := .of Try.func20 (by kernel_rfl) (by kernel_rfl)
noncomputable def vf21:VF:=⟨95,[(.tmp 10)],qaf Try.prog (Try.f21.body.getD .skip)⟩
theorem ok21:FnOK Try.prog 21 vf21 := .of Try.func21 (by kernel_rfl) (by kernel_rfl)
noncomputable def vf22:VF:=⟨49,[(.tmp 8)],qaf Try.prog (Try.f22.body.getD .skip)⟩
theorem ok22:FnOK Try.prog 22 vf22 := .of Try.func22 (by kernel_rfl) (by kernel_rfl)
noncomputable def vf23:VF:=⟨105,[(.tmp 8)],qaf Try.prog (Try.f23.body.getD .skip)⟩
theorem ok23:FnOK Try.prog 23 vf23 := .of Try.func23 (by kernel_rfl) (by kernel_rfl)
noncomputable def vf60:VF:=⟨92,[(.tmp 8),(.tmp 9)],qaf Try.prog (Try.f60.body.getD .skip)⟩
theorem ok60:FnOK Try.prog 60 vf60 := .of Try.func60 (by kernel_rfl) (by kernel_rfl)
noncomputable def vf61:VF:=⟨149,[(.tmp 8),(.tmp 9)],qaf Try.prog (Try.f61.body.getD .skip)⟩
theorem ok61:FnOK Try.prog 61 vf61 := .of Try.func61 (by kernel_rfl) (by kernel_rfl)
noncomputable def vf62:VF:=⟨98,[(.tmp 0)],qaf Try.prog (Try.f62.body.getD .skip)⟩
theorem ok62:FnOK Try.prog 62 vf62 := .of Try.func62 (by kernel_rfl) (by kernel_rfl)
noncomputable def vf63:VF:=⟨68,[(.cell 6 101),(.tmp 7),(.tmp 8)],qaf Try.prog (Try.f63.body.getD .skip)⟩
theorem ok63:FnOK Try.prog 63 vf63 := .of Try.func63 (by kernel_rfl) (by kernel_rfl)
noncomputable def vf64:VF:=⟨70,[(.cell 6 101),(.tmp 7),(.tmp 8)],qaf Try.prog (Try.f64.body.getD .skip)⟩
theorem ok64:FnOK Try.prog 64 vf64 := .of Try.func64 (by kernel_rfl) (by kernel_rfl)
noncomputable def vf65:VF:=⟨24,[(.tmp 4)],qaf Try.prog (Try.f65.body.getD .skip)⟩
theorem ok65:FnOK Try.prog 65 vf65 := .of Try.func65 (by kernel_rfl) (by kernel_rfl)
noncomputable def vf82:VF:=⟨15,[(.tmp 6)],qaf Try.prog (Try.f82.body.getD .skip)⟩
theorem ok82:FnOK Try.prog 82 vf82 := .of Try.func82 (by kernel_rfl) (by kernel_rfl)
noncomputable def vf83:VF:=⟨26,[(.tmp 2)],qaf Try.prog (Try.f83.body.getD .skip)⟩
theorem ok83:FnOK Try.prog 83 vf83 := .of Try.func83 (by kernel_rfl) (by kernel_rfl)
noncomputable def vf84:VF:=⟨35,[(.tmp 2)],qaf Try.prog (Try.f84.body.getD .skip)⟩
theorem ok84:FnOK Try.prog 84 vf84 := .of Try.func84 (by kernel_rfl) (by kernel_rfl)
noncomputable def vf85:VF:=⟨4,[(.tmp 2)],qaf Try.prog (Try.f85.body.getD .skip)⟩
theorem ok85:FnOK Try.prog 85 vf85 := .of Try.func85 (by kernel_rfl) (by kernel_rfl)
noncomputable def vf86:VF:=⟨8,[(.tmp 4)],qaf Try.prog (Try.f86.body.getD .skip)⟩
theorem ok86:FnOK Try.prog 86 vf86 := .of Try.func86 (by kernel_rfl) (by kernel_rfl)
noncomputable def vf87:VF:=⟨12,[(.tmp 4)],qaf Try.prog (Try.f87.body.getD .skip)⟩
theorem ok87:FnOK Try.prog 87 vf87 := .of Try.func87 (by kernel_rfl) (by kernel_rfl)
noncomputable def vf88:VF:=⟨12,[(.cell 6 32)],qaf Try.prog (Try.f88.body.getD .skip)⟩
theorem ok88:FnOK Try.prog 88 vf88 := .of Try.func88 (by kernel_rfl) (by kernel_rfl)
noncomputable def vf89:VF:=⟨12,[(.tmp 6)],qaf Try.prog (Try.f89.body.getD .skip)⟩
theorem ok89:FnOK Try.prog 89 vf89 := .of Try.func89 (by kernel_rfl) (by kernel_rfl)
noncomputable def vf90:VF:=⟨41,[(.tmp 2)],qaf Try.prog (Try.f90.body.getD .skip)⟩
theorem ok90:FnOK Try.prog 90 vf90 := .of Try.func90 (by kernel_rfl) (by kernel_rfl)
noncomputable def vf91:VF:=⟨25,[(.tmp 4)],qaf Try.prog (Try.f91.body.getD .skip)⟩
theorem ok91:FnOK Try.prog 91 vf91 := .of Try.func91 (by kernel_rfl) (by kernel_rfl)
noncomputable def vf92:VF:=⟨43,[(.tmp 4)],qaf Try.prog (Try.f92.body.getD .skip)⟩
theorem ok92:FnOK Try.prog 92 vf92 := .of Try.func92 (by kernel_rfl) (by kernel_rfl)
noncomputable def vf93:VF:=⟨12,[(.cell 6 32)],qaf Try.prog (Try.f93.body.getD .skip)⟩
theorem ok93:FnOK Try.prog 93 vf93 := .of Try.func93 (by kernel_rfl) (by kernel_rfl)
noncomputable def vf94:VF:=⟨9,[(.cell 2 32)],qaf Try.prog (Try.f94.body.getD .skip)⟩
theorem ok94:FnOK Try.prog 94 vf94 := .of Try.func94 (by kernel_rfl) (by kernel_rfl)
noncomputable def vf95:VF:=⟨9,[(.cell 4 32)],qaf Try.prog (Try.f95.body.getD .skip)⟩
theorem ok95:FnOK Try.prog 95 vf95 := .of Try.func95 (by kernel_rfl) (by kernel_rfl)
noncomputable def vf96:VF:=⟨36,[(.tmp 2)],qaf Try.prog (Try.f96.body.getD .skip)⟩
theorem ok96:FnOK Try.prog 96 vf96 := .of Try.func96 (by kernel_rfl) (by kernel_rfl)
noncomputable def vf97:VF:=⟨27,[(.cell 2 101),(.cell 3 32),(.tmp 4)],qaf Try.prog (Try.f97.body.getD .skip)⟩
theorem ok97:FnOK Try.prog 97 vf97 := .of Try.func97 (by kernel_rfl) (by kernel_rfl)
noncomputable def vf98:VF:=⟨16,[(.cell 2 32)],qaf Try.prog (Try.f98.body.getD .skip)⟩
theorem ok98:FnOK Try.prog 98 vf98 := .of Try.func98 (by kernel_rfl) (by kernel_rfl)
noncomputable def vf99:VF:=⟨9,[(.cell 4 32)],qaf Try.prog (Try.f99.body.getD .skip)⟩
theorem ok99:FnOK Try.prog 99 vf99 := .of Try.func99 (by kernel_rfl) (by kernel_rfl)
noncomputable def vf100:VF:=⟨51,[(.cell 2 101),(.cell 3 32),(.tmp 4)],qaf Try.prog (Try.f100.body.getD .skip)⟩
theorem ok100:FnOK Try.prog 100 vf100 := .of Try.func100 (by kernel_rfl) (by kernel_rfl)
noncomputable def vf105:VF:=⟨19,[],qaf Try.prog (Try.f105.body.getD .skip)⟩
theorem ok105:FnOK Try.prog 105 vf105 := .of Try.func105 (by kernel_rfl) (by kernel_rfl)
noncomputable def vf106:VF:=⟨51,[],qaf Try.prog (Try.f106.body.getD .skip)⟩
theorem ok106:FnOK Try.prog 106 vf106 := .of Try.func106 (by kernel_rfl) (by kernel_rfl)
noncomputable def vf107:VF:=⟨21,[],qaf Try.prog (Try.f107.body.getD .skip)⟩
theorem ok107:FnOK Try.prog 107 vf107 := .of Try.func107 (by kernel_rfl) (by kernel_rfl)
noncomputable def vf108:VF:=⟨8,[],qaf Try.prog (Try.f108.body.getD .skip)⟩
theorem ok108:FnOK Try.prog 108 vf108 := .of Try.func108 (by kernel_rfl) (by kernel_rfl)
noncomputable def vf109:VF:=⟨22,[(.tmp 4)],qaf Try.prog (Try.f109.body.getD .skip)⟩
theorem ok109:FnOK Try.prog 109 vf109 := .of Try.func109 (by kernel_rfl) (by kernel_rfl)
noncomputable def vf110:VF:=⟨27,[(.tmp 4)],qaf Try.prog (Try.f110.body.getD .skip)⟩
theorem ok110:FnOK Try.prog 110 vf110 := .of Try.func110 (by kernel_rfl) (by kernel_rfl)
noncomputable def vf111:VF:=⟨28,[],qaf Try.prog (Try.f111.body.getD .skip)⟩
theorem ok111:FnOK Try.prog 111 vf111 := .of Try.func111 (by kernel_rfl) (by kernel_rfl)
noncomputable def vf113:VF:=⟨9,[(.tmp 4)],qaf Try.prog (Try.f113.body.getD .skip)⟩
theorem ok113:FnOK Try.prog 113 vf113 := .of Try.func113 (by kernel_rfl) (by kernel_rfl)
noncomputable def vf114:VF:=⟨5,[(.tmp 2)],qaf Try.prog (Try.f114.body.getD .skip)⟩
theorem ok114:FnOK Try.prog 114 vf114 := .of Try.func114 (by kernel_rfl) (by kernel_rfl)
noncomputable def vf115:VF:=⟨20,[(.tmp 2)],qaf Try.prog (Try.f115.body.getD .skip)⟩
theorem ok115:FnOK Try.prog 115 vf115 := .of Try.func115 (by kernel_rfl) (by kernel_rfl)
noncomputable def vf116:VF:=⟨19,[(.tmp 4)],qaf Try.prog (Try.f116.body.getD .skip)⟩
theorem ok116:FnOK Try.prog 116 vf116 := .of Try.func116 (by kernel_rfl) (by kernel_rfl)
end
end Go.Proofs.Vm

namespace Go.Proofs.Vm
set_option maxRecDepth 100000
open Go.Vm
noncomputable section
def qkl:List UInt8 := [111,110,105,111,110]
def tagW:List UInt8 := [116,97,103]
theorem vc95(F:HF)(ks ns:List AV)(Q:AV->Hl->Prop) :
  (vcall (vcA kdYes (cnM F) noLn) ops0 (qah 95 vf95) 200 vf95 [.agg ks,.agg ns] [] (endN (fun _=>0) Q)) =
 ((Chk (ops0.le 32 (ops0.len ks))
 (Chk (ops0.le 32 (ops0.len ns))
 (((PKey (ops0.ext ks 0 32)) /\
 (PTag [(.ros ns 0 32 32 Bool.false)] 0 1)) /\
 (Chk (ops0.eq (ops0.len (GF.tag (NG.toGF (HF.toNG F)) (ops0.ext ks 0 32) [111,110,105,111,110] [(partA (.ros ns 0 32 32 Bool.false))])) 32)
 (Chk (ops0.le 32 (ops0.len (ops0.spl (z8 32) 0 (GF.tag (NG.toGF (HF.toNG F)) (ops0.ext ks 0 32) [111,110,105,111,110] [(partA (.ros ns 0 32 32 Bool.false))]))))
 (Q (.agg (ops0.ext (ops0.spl (z8 32) 0 (GF.tag (NG.toGF (HF.toNG F)) (ops0.ext ks 0 32) [111,110,105,111,110] [(partA (.ros ns 0 32 32 Bool.false))])) 0 32)) []))))))):=by kernel_rfl
theorem vc99(F:HF)(ks ns:List AV)(Q:AV->Hl->Prop) :
  (vcall (vcA kdYes (cnM F) noLn) ops0 (qah 99 vf99) 200 vf99 [.agg ks,.agg ns] [] (endN (fun _=>0) Q)) =
 ((Chk (ops0.le 32 (ops0.len ks))
 (Chk (ops0.le 32 (ops0.len ns))
 (((PKey (ops0.ext ks 0 32)) /\
 (PTag [(.ros ns 0 32 32 Bool.false)] 0 1)) /\
 (Chk (ops0.eq (ops0.len (GF.tag (NG.toGF (HF.toNG F)) (ops0.ext ks 0 32) [111,110,105,111,110] [(partA (.ros ns 0 32 32 Bool.false))])) 32)
 (Chk (ops0.le 32 (ops0.len (ops0.spl (z8 32) 0 (GF.tag (NG.toGF (HF.toNG F)) (ops0.ext ks 0 32) [111,110,105,111,110] [(partA (.ros ns 0 32 32 Bool.false))]))))
 (Q (.agg (ops0.ext (ops0.spl (z8 32) 0 (GF.tag (NG.toGF (HF.toNG F)) (ops0.ext ks 0 32) [111,110,105,111,110] [(partA (.ros ns 0 32 32 Bool.false))])) 0 32)) []))))))):=by kernel_rfl
theorem vc88(F:HF)(ks pc hs:List AV)(off len cap:Nat)(e:Bool)(Q:AV->Hl->Prop) :
  (vcall (vcA kdYes (cnM F) noLn) ops0 (qah 88 vf88) 200 vf88 [.agg ks,.ros pc off len cap e,.agg hs] [] (endN (fun _=>0) Q)) =
 ((Chk (ops0.le 32 (ops0.len ks))
 (Chk (ops0.le 32 (ops0.len hs))
 (((PKey (ops0.ext ks 0 32)) /\
 (PTag [(.ros pc off len cap e),(.ros hs 0 32 32 Bool.false)] 0 2)) /\
 (Chk (ops0.eq (ops0.len (GF.tag (NG.toGF (HF.toNG F)) (ops0.ext ks 0 32) [116,97,103] [(partA (.ros pc off len cap e)),(partA (.ros hs 0 32 32 Bool.false))])) 32)
 (Chk (ops0.le 32 (ops0.len (ops0.spl (z8 32) 0 (GF.tag (NG.toGF (HF.toNG F)) (ops0.ext ks 0 32) [116,97,103] [(partA (.ros pc off len cap e)),(partA (.ros hs 0 32 32 Bool.false))]))))
 (Q (.agg (ops0.ext (ops0.spl (z8 32) 0 (GF.tag (NG.toGF (HF.toNG F)) (ops0.ext ks 0 32) [116,97,103] [(partA (.ros pc off len cap e)),(partA (.ros hs 0 32 32 Bool.false))])) 0 32)) []))))))):=by kernel_rfl
theorem vc93(F:HF)(ks pc hs:List AV)(off len cap:Nat)(e:Bool)(Q:AV->Hl->Prop) :
  (vcall (vcA kdYes (cnM F) noLn) ops0 (qah 93 vf93) 200 vf93 [.agg ks,.ros pc off len cap e,.agg hs] [] (endN (fun _=>0) Q)) =
 ((Chk (ops0.le 32 (ops0.len ks))
 (Chk (ops0.le 32 (ops0.len hs))
 (((PKey (ops0.ext ks 0 32)) /\
 (PTag [(.ros pc off len cap e),(.ros hs 0 32 32 Bool.false)] 0 2)) /\
 (Chk (ops0.eq (ops0.len (GF.tag (NG.toGF (HF.toNG F)) (ops0.ext ks 0 32) [116,97,103] [(partA (.ros pc off len cap e)),(partA (.ros hs 0 32 32 Bool.false))])) 32)
 (Chk (ops0.le 32 (ops0.len (ops0.spl (z8 32) 0 (GF.tag (NG.toGF (HF.toNG F)) (ops0.ext ks 0 32) [116,97,103] [(partA (.ros pc off len cap e)),(partA (.ros hs 0 32 32 Bool.false))]))))
 (Q (.agg (ops0.ext (ops0.spl (z8 32) 0 (GF.tag (NG.toGF (HF.toNG F)) (ops0.ext ks 0 32) [116,97,103] [(partA (.ros pc off len cap e)),(partA (.ros hs 0 32 32 Bool.false))])) 0 32)) []))))))):=by kernel_rfl
def atL(key nonce:List UInt8):List UInt8:=tagL key qkl [nonce]
def btagL(key body hash:List UInt8):List UInt8:=tagL key tagW [body,hash]
theorem q4c{key nonce:List UInt8}(hk:key.length=32)(hn:nonce.length=32):CallTo Try.prog 95 [.agg (key.map by8),.agg (nonce.map by8)] [] (.agg ((atL key nonce).map by8)) [] []:=by
 refine qb7 qna (qai _) (qaj ok95) (qad 95 vf95) (n:=200) (g:=kdYes) (m:=fun _=>0) [] ?_ (Nat.le_refl 0) flat0 (fun b hb=>by simp at hb)
 have ht:GF.tag (NG.toGF (HF.toNG hf0)) (key.map by8) [111,110,105,111,110] [nonce]=(atL key nonce).map by8:=qhe _ _ _
 have hl:(atL key nonce).length=32:=qcw _ _ _
 rw[vc95,qa5 hk,qb8 nonce 32 32 hn.symm,ht,spl32 hl,qa5 hl]
 exact Chk.mk (qbk hk) (Chk.mk (qbk hn) ⟨⟨pkey key hk,qfu nonce 32 32 hn.symm (by omega) _⟩,Chk.mk (eq32' hl) (Chk.mk (qbk hl) ⟨rfl,rfl⟩)⟩)
theorem q3b{key nonce:List UInt8}(hk:key.length=32)(hn:nonce.length=32):CallTo Try.prog 99 [.agg (key.map by8),.agg (nonce.map by8)] [] (.agg ((atL key nonce).map by8)) [] []:=by
 refine qb7 qna (qai _) (qaj ok99) (qad 99 vf99) (n:=200) (g:=kdYes) (m:=fun _=>0) [] ?_ (Nat.le_refl 0) flat0 (fun b hb=>by simp at hb)
 have ht:GF.tag (NG.toGF (HF.toNG hf0)) (key.map by8) [111,110,105,111,110] [nonce]=(atL key nonce).map by8:=qhe _ _ _
 have hl:(atL key nonce).length=32:=qcw _ _ _
 rw[vc99,qa5 hk,qb8 nonce 32 32 hn.symm,ht,spl32 hl,qa5 hl]
 exact Chk.mk (qbk hk) (Chk.mk (qbk hn) ⟨⟨pkey key hk,qfu nonce 32 32 hn.symm (by omega) _⟩,Chk.mk (eq32' hl) (Chk.mk (qbk hl) ⟨rfl,rfl⟩)⟩)
theorem q2l{key body hash:List UInt8}(hk:key.length=32)(hh:hash.length=32){pc:List AV}{off len:Nat}(cap:Nat)(e:Bool)(hf:flatL pc)(hb:qan pc off len body)(ho:off+len<=pc.length)(hl:len<=1048576) :
  CallTo Try.prog 88 [.agg (key.map by8),.ros pc off len cap e,.agg (hash.map by8)] [] (.agg ((btagL key body hash).map by8)) [] []:=by
 refine qb7 qna (qai _) (qaj ok88) (qad 88 vf88) (n:=200) (g:=kdYes) (m:=fun _=>0) [] ?_ (Nat.le_refl 0) flat0 (fun b hb=>by simp at hb)
 have ht:GF.tag (NG.toGF (HF.toNG hf0)) (key.map by8) [116,97,103] [body,hash]=(btagL key body hash).map by8:=qhe _ _ _
 have hl2:(btagL key body hash).length=32:=qcw _ _ _
 have a2:qan (hash.map by8) 0 32 hash:=by have:=qax hash;rw[hh] at this;exact this
 rw[vc88,qa5 hk,qdp hb,qb8 hash 32 32 hh.symm,ht,spl32 hl2,qa5 hl2]
 exact Chk.mk (qbk hk) (Chk.mk (qbk hh) ⟨⟨pkey key hk,qo8 cap e 32 false hf hb ho hl (qac _) a2 (by rw[List.length_map]; omega) (by omega)⟩,Chk.mk (eq32' hl2) (Chk.mk (qbk hl2) ⟨rfl,rfl⟩)⟩)
theorem q1q{key body hash:List UInt8}(hk:key.length=32)(hh:hash.length=32){pc:List AV}{off len:Nat}(cap:Nat)(e:Bool)(hf:flatL pc)(hb:qan pc off len body)(ho:off+len<=pc.length)(hl:len<=1048576) :
  CallTo Try.prog 93 [.agg (key.map by8),.ros pc off len cap e,.agg (hash.map by8)] [] (.agg ((btagL key body hash).map by8)) [] []:=by
 refine qb7 qna (qai _) (qaj ok93) (qad 93 vf93) (n:=200) (g:=kdYes) (m:=fun _=>0) [] ?_ (Nat.le_refl 0) flat0 (fun b hb=>by simp at hb)
 have ht:GF.tag (NG.toGF (HF.toNG hf0)) (key.map by8) [116,97,103] [body,hash]=(btagL key body hash).map by8:=qhe _ _ _
 have hl2:(btagL key body hash).length=32:=qcw _ _ _
 have a2:qan (hash.map by8) 0 32 hash:=by have:=qax hash;rw[hh] at this;exact this
 rw[vc93,qa5 hk,qdp hb,qb8 hash 32 32 hh.symm,ht,spl32 hl2,qa5 hl2]
 exact Chk.mk (qbk hk) (Chk.mk (qbk hh) ⟨⟨pkey key hk,qo8 cap e 32 false hf hb ho hl (qac _) a2 (by rw[List.length_map]; omega) (by omega)⟩,Chk.mk (eq32' hl2) (Chk.mk (qbk hl2) ⟨rfl,rfl⟩)⟩)
end
end Go.Proofs.Vm

namespace Go.Proofs.Vm
set_option maxRecDepth 100000
open Go.Vm
noncomputable section
def PBd(pc:List AV)(off len:Nat):Prop:=flatL pc/\off+len<=pc.length/\len<=1048576/\∃ lb,qan pc off len lb
structure OY where
 att:List AV->List AV->List AV
 btg:List AV->List UInt8->List AV->List AV
def of1:OY:=⟨fun k n=>(atL (qag k) (qag n)).map by8,fun k b h=>(btagL (qag k) b (qag h)).map by8⟩
def cnO1(O:OY)(F:HF):CnF:=cnOr (fun f vals H=>match f,vals with
 | 95,[.agg ks,.agg ns]=>some (PKey ks/\PKey ns,.ok (.agg (O.att ks ns)) H [])
 | 99,[.agg ks,.agg ns]=>some (PKey ks/\PKey ns,.ok (.agg (O.att ks ns)) H [])
 | 88,[.agg ks,x,.agg hs]=>match vw1 H x with
  | .ros pc off len _ _=>some (PKey ks/\PKey hs/\PBd pc off len,.ok (.agg (O.btg ks (rdB pc off len) hs)) H [])
  | _=>none
 | 93,[.agg ks,x,.agg hs]=>match vw1 H x with
  | .ros pc off len _ _=>some (PKey ks/\PKey hs/\PBd pc off len,.ok (.agg (O.btg ks (rdB pc off len) hs)) H [])
  | _=>none
 | _,_=>none) (cnM F)
theorem qd8:CnOK Try.prog (cnO1 of1 hf0):=by
 refine qfl ?_ qna
 intro f vals H p x e hp
 dsimp only at e
 split at e
 ·rename_i ks ns
  cases e
  obtain⟨⟨k,hk,rfl⟩,⟨n,hn,rfl⟩⟩:=hp
  have h:=CallTo.lookV (H:=H) (q4c hk hn) (.cons (vwA H k) (.cons (vwA H n) .nil))
  rw[qbo (qac _)] at h
  show CallTo _ _ _ _ (.agg ((atL (qag (k.map by8)) (qag (n.map by8))).map by8)) _ _
  rw[qab,qab]
  exact h
 ·rename_i ks ns
  cases e
  obtain⟨⟨k,hk,rfl⟩,⟨n,hn,rfl⟩⟩:=hp
  have h:=CallTo.lookV (H:=H) (q3b hk hn) (.cons (vwA H k) (.cons (vwA H n) .nil))
  rw[qbo (qac _)] at h
  show CallTo _ _ _ _ (.agg ((atL (qag (k.map by8)) (qag (n.map by8))).map by8)) _ _
  rw[qab,qab]
  exact h
 ·rename_i ks y hs
  split at e<;>cases e
  rename_i pc off len c ex hv
  obtain⟨⟨k,hk,rfl⟩,⟨n,hn,rfl⟩,hf,ho,hl,lb,hb⟩:=hp
  have h:=CallTo.lookV (H:=H) (q2l hk hn c ex hf hb ho hl) (.cons (vwA H k) (.cons (Vw.one hv hf) (.cons (vwA H n) .nil)))
  rw[qbo (qac _)] at h
  show CallTo _ _ _ _ (.agg ((btagL (qag (k.map by8)) (rdB pc off len) (qag (n.map by8))).map by8)) _ _
  rw[qab,qab,qch hb]
  exact h
 ·rename_i ks y hs
  split at e<;>cases e
  rename_i pc off len c ex hv
  obtain⟨⟨k,hk,rfl⟩,⟨n,hn,rfl⟩,hf,ho,hl,lb,hb⟩:=hp
  have h:=CallTo.lookV (H:=H) (q1q hk hn c ex hf hb ho hl) (.cons (vwA H k) (.cons (Vw.one hv hf) (.cons (vwA H n) .nil)))
  rw[qbo (qac _)] at h
  show CallTo _ _ _ _ (.agg ((btagL (qag (k.map by8)) (rdB pc off len) (qag (n.map by8))).map by8)) _ _
  rw[qab,qab,qch hb]
  exact h
 ·cases e
end
end Go.Proofs.Vm

namespace Go.Proofs.Vm
set_option maxRecDepth 100000
open Go.Vm
noncomputable section
def P65(cs:List AV)(o n:Nat)(ns:List AV):Prop:=PSh cs o n/\n<4294967296/\PKey ns
noncomputable def lp65:VC:=vp [1,1,0,1,0,0] vf65.body
def fr65(cs:List AV)(o n c:Nat)(e:Bool)(x:AV)(i:Int):Fr := [.top,.top,.top,.ptr 0 0,.top,x,.top,.top,.ros cs o n c e,.int .i64 (Int.ofNat n),.int .i64 i,.top,.top,.top,.top,.top,.top,.top,.top,.top,.top,.top,.top,.top]
def mk65:List Bool := [true,true,true,false,true,false,true,true,false,false,false,true,true,true,true,true,true,true,true,true,true,true,true,true]
noncomputable def lp91:VC:=vp [1,1,0,1,0,0] vf91.body
def fr91(cs:List AV)(o n c:Nat)(e:Bool)(x:AV)(i:Int):Fr := [.ros cs o n c e,.top,.top,.ptr 0 0,.top,x,.int .i64 i,.top,.top,.top,.top,.top,.top,.top,.top,.top,.top,.top,.top,.top,.top,.top,.top,.top,.top]
def mk91:List Bool := [false,true,true,false,true,false,false,true,true,true,true,true,true,true,true,true,true,true,true,true,true,true,true,true,true]
structure KX where
 non:List AV->Nat->List AV
 keys:List AV->List AV->Nat->Nat->List AV
def ln91(Z:KX)(z:Nat->Bool):LnF:=fun n0 b fr H=>match slot fr 0,slot fr 5,H with
 | .ros cs o n c e,.nils,[.cells ns] =>
  some (n0=0/\VCis b lp91/\forget mk91 fr=fr91 cs o n c e .nils 0/\P65 cs o n ns,.cond (z n) (.ok (.exit 0) (fr91 cs o n c e .nils 0) [.cells ns]) (.ok (.exit 0) (fr91 cs o n c e (.slc 1 0 n n 32) n) [.cells (Z.non ns n),.cells (Z.keys ns cs o n)]))
 | _,_,_=>none
theorem qxy(O:OY)(F:HF)(ns cs:List AV)(o n c:Nat)(e:Bool)(i:Int)(Q:Ex->Fr->Hl->Prop) :
  (vm (vcA kdYes (cnO1 O F) noLn) ops0 noTab 100 0 lp65 (fr65 cs o n c e .nils i) [.cells ns] [] (bodyX mk65 Q)) =
 ((Br (ops0.cmp .lss i (Int.ofNat n))
 (Chk (ops0.inr i n)
 (Chk (ops0.le (ops0.add (ops0.adr o i 32) 32) (ops0.len cs))
 (Chk (ops0.eq (ops0.len (ops0.ext cs (ops0.adr o i 32) 32)) 32)
 (Chk (ops0.le 32 (ops0.len (ops0.spl (z8 32) 0 (ops0.ext cs (ops0.adr o i 32) 32))))
 (Chk (ops0.le 32 (ops0.len ns))
 (((PKey (ops0.ext (ops0.spl (z8 32) 0 (ops0.ext cs (ops0.adr o i 32) 32)) 0 32)) /\
 (PKey (ops0.ext ns 0 32))) /\
 (Chk (ops0.eq (ops0.len (OY.att O (ops0.ext (ops0.spl (z8 32) 0 (ops0.ext cs (ops0.adr o i 32) 32)) 0 32) (ops0.ext ns 0 32))) 32)
 (Chk (ops0.le 32 (ops0.len (ops0.spl (z8 32) 0 (OY.att O (ops0.ext (ops0.spl (z8 32) 0 (ops0.ext cs (ops0.adr o i 32) 32)) 0 32) (ops0.ext ns 0 32)))))
 (Chk (ops0.le 32 (ops0.len ns))
 ((PKey (ops0.ext ns 0 32)) /\
 (Chk (ops0.eq (ops0.len (HF.hash F (ops0.ext ns 0 32))) 32)
 (Chk (ops0.le 32 (ops0.len ns))
 (Q Ex.norm (tp 3 ((.ptr 0 0) :: .top::(.slc 2 0 1 1 32)::tp 2 ((.ros cs o n c e)::(.int .i64 (.ofNat n))::(.int .i64 (ops0.bin .add .i64 i (Int.ofNat 1)))::tp 13 ([])))) [(.cells (ops0.spl ns 0 (HF.hash F (ops0.ext ns 0 32)))),(.cells (ops0.spl (z8 32) 0 (ops0.ext cs (ops0.adr o i 32) 32))),(.cells (ops0.ext (ops0.spl (z8 32) 0 (OY.att O (ops0.ext (ops0.spl (z8 32) 0 (ops0.ext cs (ops0.adr o i 32) 32)) 0 32) (ops0.ext ns 0 32))) 0 32))])))))))))))))
 (Q (Ex.exit 0) (tp 3 ((.ptr 0 0) :: .top :: .nils::tp 2 ((.ros cs o n c e)::(.int .i64 (.ofNat n))::(.int .i64 i)::tp 13 ([])))) [(.cells ns)]))):=by kernel_rfl
theorem qym(O:OY)(F:HF)(ns os cs:List AV)(o n c:Nat)(e:Bool)(N:Nat)(i:Int)(Q:Ex->Fr->Hl->Prop) :
  (vm (vcA kdYes (cnO1 O F) noLn) ops0 noTab 100 0 lp65 (fr65 cs o n c e (.slc 1 0 N N 32) i) [.cells ns,.cells os] [] (bodyX mk65 Q)) =
 ((Br (ops0.cmp .lss i (Int.ofNat n))
 (Chk (ops0.inr i n)
 (Chk (ops0.le (ops0.add (ops0.adr o i 32) 32) (ops0.len cs))
 (Chk (ops0.eq (ops0.len (ops0.ext cs (ops0.adr o i 32) 32)) 32)
 (Chk (ops0.le 32 (ops0.len (ops0.spl (z8 32) 0 (ops0.ext cs (ops0.adr o i 32) 32))))
 (Chk (ops0.le 32 (ops0.len ns))
 (((PKey (ops0.ext (ops0.spl (z8 32) 0 (ops0.ext cs (ops0.adr o i 32) 32)) 0 32)) /\
 (PKey (ops0.ext ns 0 32))) /\
 (Chk (ops0.eq (ops0.len (OY.att O (ops0.ext (ops0.spl (z8 32) 0 (ops0.ext cs (ops0.adr o i 32) 32)) 0 32) (ops0.ext ns 0 32))) 32)
 (Chk (ops0.le (ops0.add 0 (ops0.mul N 32)) (ops0.len os))
 (Chk (ops0.le 32 (ops0.len (ops0.spl (z8 32) 0 (OY.att O (ops0.ext (ops0.spl (z8 32) 0 (ops0.ext cs (ops0.adr o i 32) 32)) 0 32) (ops0.ext ns 0 32)))))
 (Chk (ops0.room N 1 32)
 (Chk (ops0.le 32 (ops0.len ns))
 ((PKey (ops0.ext ns 0 32)) /\
 (Chk (ops0.eq (ops0.len (HF.hash F (ops0.ext ns 0 32))) 32)
 (Chk (ops0.le 32 (ops0.len ns))
 (Q Ex.norm (tp 3 ((.ptr 0 0) :: .top::(.slc 3 0 (ops0.add N 1) (ops0.add N 1) 32)::tp 2 ((.ros cs o n c e)::(.int .i64 (.ofNat n))::(.int .i64 (ops0.bin .add .i64 i (Int.ofNat 1)))::tp 13 ([])))) [(.cells (ops0.spl ns 0 (HF.hash F (ops0.ext ns 0 32)))),.dead,(.cells (ops0.spl (z8 32) 0 (ops0.ext cs (ops0.adr o i 32) 32))),(.cells (ops0.app (ops0.ext os 0 (ops0.mul N 32)) (ops0.ext (ops0.spl (z8 32) 0 (OY.att O (ops0.ext (ops0.spl (z8 32) 0 (ops0.ext cs (ops0.adr o i 32) 32)) 0 32) (ops0.ext ns 0 32))) 0 32)))])))))))))))))))
 (Q (Ex.exit 0) (tp 3 ((.ptr 0 0) :: .top::(.slc 1 0 N N 32)::tp 2 ((.ros cs o n c e)::(.int .i64 (.ofNat n))::(.int .i64 i)::tp 13 ([])))) [(.cells ns),(.cells os)]))):=by kernel_rfl
theorem qye(O:OY)(F:HF)(ns cs:List AV)(o n c:Nat)(e:Bool)(i:Int)(Q:Ex->Fr->Hl->Prop) :
  (vm (vcA kdYes (cnO1 O F) noLn) ops0 noTab 100 0 lp91 (fr91 cs o n c e .nils i) [.cells ns] [] (bodyX mk91 Q)) =
 ((Br (ops0.cmp .lss i (ops0.ofn n))
 (Chk (ops0.inr i n)
 (Chk (ops0.le (ops0.add (ops0.adr o i 32) 32) (ops0.len cs))
 (Chk (ops0.le 32 (ops0.len ns))
 (((PKey (ops0.ext cs (ops0.adr o i 32) 32)) /\
 (PKey (ops0.ext ns 0 32))) /\
 (Chk (ops0.eq (ops0.len (OY.att O (ops0.ext cs (ops0.adr o i 32) 32) (ops0.ext ns 0 32))) 32)
 (Chk (ops0.le 32 (ops0.len (ops0.spl (z8 32) 0 (OY.att O (ops0.ext cs (ops0.adr o i 32) 32) (ops0.ext ns 0 32)))))
 (Chk (ops0.le 32 (ops0.len ns))
 ((PB ns 0 32) /\
 (Chk (ops0.eq (ops0.len (KF.sum (AF.toKF (NF.toAF (NG.toNF (HF.toNG F)))) (rdB ns 0 32))) 32)
 (Chk (ops0.le 32 (ops0.len ns))
 (Q Ex.norm ((.ros cs o n c e)::tp 2 ((.ptr 0 0) :: .top::(.slc 1 0 1 1 32)::(.int .i64 (ops0.bin .add .i64 i (Int.ofNat 1)))::tp 18 ([]))) [(.cells (ops0.spl ns 0 (KF.sum (AF.toKF (NF.toAF (NG.toNF (HF.toNG F)))) (rdB ns 0 32)))),(.cells (ops0.ext (ops0.spl (z8 32) 0 (OY.att O (ops0.ext cs (ops0.adr o i 32) 32) (ops0.ext ns 0 32))) 0 32))])))))))))))
 (Q (Ex.exit 0) ((.ros cs o n c e)::tp 2 ((.ptr 0 0) :: .top :: .nils::(.int .i64 i)::tp 18 ([]))) [(.cells ns)]))):=by kernel_rfl
theorem qxn(O:OY)(F:HF)(ns os cs:List AV)(o n c:Nat)(e:Bool)(N:Nat)(i:Int)(Q:Ex->Fr->Hl->Prop) :
  (vm (vcA kdYes (cnO1 O F) noLn) ops0 noTab 100 0 lp91 (fr91 cs o n c e (.slc 1 0 N N 32) i) [.cells ns,.cells os] [] (bodyX mk91 Q)) =
 ((Br (ops0.cmp .lss i (ops0.ofn n))
 (Chk (ops0.inr i n)
 (Chk (ops0.le (ops0.add (ops0.adr o i 32) 32) (ops0.len cs))
 (Chk (ops0.le 32 (ops0.len ns))
 (((PKey (ops0.ext cs (ops0.adr o i 32) 32)) /\
 (PKey (ops0.ext ns 0 32))) /\
 (Chk (ops0.eq (ops0.len (OY.att O (ops0.ext cs (ops0.adr o i 32) 32) (ops0.ext ns 0 32))) 32)
 (Chk (ops0.le (ops0.add 0 (ops0.mul N 32)) (ops0.len os))
 (Chk (ops0.le 32 (ops0.len (ops0.spl (z8 32) 0 (OY.att O (ops0.ext cs (ops0.adr o i 32) 32) (ops0.ext ns 0 32)))))
 (Chk (ops0.room N 1 32)
 (Chk (ops0.le 32 (ops0.len ns))
 ((PB ns 0 32) /\
 (Chk (ops0.eq (ops0.len (KF.sum (AF.toKF (NF.toAF (NG.toNF (HF.toNG F)))) (rdB ns 0 32))) 32)
 (Chk (ops0.le 32 (ops0.len ns))
 (Q Ex.norm ((.ros cs o n c e)::tp 2 ((.ptr 0 0) :: .top::(.slc 2 0 (ops0.add N 1) (ops0.add N 1) 32)::(.int .i64 (ops0.bin .add .i64 i (Int.ofNat 1)))::tp 18 ([]))) [(.cells (ops0.spl ns 0 (KF.sum (AF.toKF (NF.toAF (NG.toNF (HF.toNG F)))) (rdB ns 0 32)))),.dead,(.cells (ops0.app (ops0.ext os 0 (ops0.mul N 32)) (ops0.ext (ops0.spl (z8 32) 0 (OY.att O (ops0.ext cs (ops0.adr o i 32) 32) (ops0.ext ns 0 32))) 0 32)))])))))))))))))
 (Q (Ex.exit 0) ((.ros cs o n c e)::tp 2 ((.ptr 0 0) :: .top::(.slc 1 0 N N 32)::(.int .i64 i)::tp 18 ([]))) [(.cells ns),(.cells os)]))):=by kernel_rfl
theorem vc91(O:OY)(F:HF)(Z:KX)(z:Nat->Bool)(cs ns:List AV)(o n c:Nat)(e:Bool)(Q:Nat->Nat->Nat->Nat->List AV->Prop) :
  (vcall (vcA kdYes (cnO1 O F) (ln91 Z z)) ops0 (qah 91 vf91) 200 vf91 [.ros cs o n c e,.agg ns] [] (fun r H lg=>match r with
    | .nils=>Q 1 0 0 0 []
    | r=>endB Q r H lg)) =
 (((((0:Nat)=0) /\
 ((VCis lp91 lp91) /\
 (((((.ros cs o n c e)::tp 2 ((.ptr 0 0) :: .top :: .nils::(.int .i64 (.ofNat 0))::tp 18 ([]))):Fr)=((.ros cs o n c e)::tp 2 ((.ptr 0 0) :: .top :: .nils::(.int .i64 (.ofNat 0))::tp 18 ([])))) /\
 (P65 cs o n ns)))) /\
 (Br (z n)
 (Q 1 0 0 0 [])
 ((flatL (KX.keys Z ns cs o n)) /\
 (Q 0 n n 32 (KX.keys Z ns cs o n)))))):=by kernel_rfl
def nonL(n:List UInt8):Nat->List UInt8
 | 0=>n
 | i+1=>sumL (nonL n i)
def keysL(L:List (List UInt8))(n:List UInt8)(i:Nat):List (List UInt8):=(List.range i).map fun j=>atL (L.getD j []) (nonL n j)
theorem qpz{n:List UInt8}(h:n.length=32):∀ i,(nonL n i).length=32
 | 0=>h
 | i+1=>qbu _
theorem at_32(k n:List UInt8):(atL k n).length=32:=qcw _ _ _
theorem qex(L:List (List UInt8))(n:List UInt8)(i:Nat):∀ x,x∈keysL L n i->x.length=32:=by
 intro x hx
 obtain⟨j,_,rfl⟩:=List.mem_map.1 hx
 exact at_32 _ _
theorem qcm(L:List (List UInt8))(n:List UInt8)(i:Nat):(keysL L n i).length=i:=by unfold keysL;rw[List.length_map,List.length_range]
theorem qg5{L:List (List UInt8)}{n k:List UInt8}{i:Nat}(h:L[i]? = some k):keysL L n (i+1)=keysL L n i ++ [atL k (nonL n i)]:=by
 unfold keysL
 rw[List.range_succ,List.map_append]
 simp[h]
theorem qgj(k n:List UInt8):of1.att (k.map by8) (n.map by8)=(atL k n).map by8:=by
 show(atL (qag _) (qag _)).map by8=_
 rw[qab,qab]
theorem qw6{σ:Nat->Option Nat}{φ:Nat->Option (List AV)}(h0:σ 0=some 0){cs:List AV}(hcs:flatL cs)(o n c:Nat)(e:Bool)(x:AV)(i:Int) :
  forget mk91 (renL σ φ true (fr91 cs o n c e x i))=fr91 cs o n c e (ren σ φ true x) i:=by
 unfold fr91 mk91
 simp only[renL,ren,h0,forget,qaa hcs]
theorem q0e{cs:List AV}{o n:Nat}{L:List (List UInt8)}{nn:List UInt8}(c:Nat)(e:Bool)(ho:o+n*32<=cs.length)(h:ShAt cs o n L)(hnn:nn.length=32)(hj:0<n) :
  qap Try.prog 0 lp91 (fr91 cs o n c e .nils (Int.ofNat 0)) [.cells (nn.map by8)] .norm (fr91 cs o n c e (.slc 1 0 1 1 32) (Int.ofNat 1)) [.cells ((nonL nn 1).map by8),.cells ((keysL L nn 1).flatten.map by8)]:=by
 have hl:0<L.length:=by rw[h.1]; exact hj
 have hx:=List.getElem?_eq_getElem hl
 obtain⟨h1,h2⟩:=h.2 0 L[0] hx
 rw[qg5 hx]
 generalize L[0]=x at h1 h2
 refine qa2 qd8 (qai _) (qak _) (n:=100) (g:=kdYes) (bs:=mk91) ?_ (by simp)
 have e1:ops0.ext cs (o+0*32) 32=x.map by8:=by rw[nExt]; exact h2
 have ha:=at_32 x nn
 have e3:((keysL L nn 0 ++ [atL x (nonL nn 0)]).flatten).map by8=(atL x nn).map by8:=by simp[keysL,nonL]
 rw[qye,nAdr,e1,qa5 hnn,qgj,spl32 ha,qa5 ha,rdW hnn,qol,qgg hnn (qbu _),add1 (by omega),nOfn,nLss,nInr,e3]
 refine Br.t (decide_eq_true hj) (Chk.mk (decide_eq_true hj) (Chk.mk (by rw[nLe,nPlus,nLen]; exact decide_eq_true (by omega)) (Chk.mk (qbk hnn) ⟨⟨pkey x h1,pkey nn hnn⟩,Chk.mk (eq32' ha) (Chk.mk (qbk ha) (Chk.mk (qbk hnn) ⟨qbz nn 32 hnn.symm (by omega),Chk.mk (eq32 (sum32 _)) (Chk.mk (qbk hnn) ⟨rfl,rfl,rfl⟩)⟩))⟩)))
theorem qzu{cs:List AV}{o n j:Nat}{L:List (List UInt8)}{nn:List UInt8}(c:Nat)(e:Bool)(hcs:flatL cs)(ho:o+n*32<=cs.length)(hn:n<4294967296)(h:ShAt cs o n L)(hnn:nn.length=32)(hj:j<n) :
  qap Try.prog 0 lp91 (fr91 cs o n c e (.slc 1 0 j j 32) (Int.ofNat j)) [.cells ((nonL nn j).map by8),.cells ((keysL L nn j).flatten.map by8)] .norm (fr91 cs o n c e (.slc 1 0 (j+1) (j+1) 32) (Int.ofNat (j+1)))
   [.cells ((nonL nn (j+1)).map by8),.cells ((keysL L nn (j+1)).flatten.map by8)]:=by
 have hl:j<L.length:=by rw[h.1]; exact hj
 have hx:=List.getElem?_eq_getElem hl
 obtain⟨h1,h2⟩:=h.2 j L[j] hx
 rw[qg5 hx]
 generalize L[j]=x at h1 h2
 have hm:=qpz hnn j
 have hm1:(nonL nn (j+1))=sumL (nonL nn j):=rfl
 rw[hm1]
 generalize nonL nn j=m at hm
 have ha:=at_32 x m
 have hA:((keysL L nn j).flatten.map by8).length=j*32:=by rw[List.length_map,qdb (qex L nn j),qcm]
 have e3:((keysL L nn j ++ [atL x m]).flatten).map by8=(keysL L nn j).flatten.map by8++(atL x m).map by8:=by rw[List.flatten_append,List.map_append]; simp
 rw[e3]
 generalize (keysL L nn j).flatten=l at hA
 have hb:qap Try.prog 0 lp91 (fr91 cs o n c e (.slc 1 0 j j 32) (Int.ofNat j)) [.cells (m.map by8),.cells (l.map by8)] .norm (fr91 cs o n c e (.slc 2 0 (j+1) (j+1) 32) (Int.ofNat (j+1))) [.cells ((sumL m).map by8),.dead,.cells (l.map by8++(atL x m).map by8)]:=by
  refine qa2 qd8 (qai _) (qak _) (n:=100) (g:=kdYes) (bs:=mk91) ?_ (by simp)
  have e1:ops0.ext cs (o+j*32) 32=x.map by8:=by rw[nExt]; exact h2
  have ee:ops0.ext (l.map by8) 0 (ops0.mul j 32)=l.map by8:=by rw[nExt,qbw,List.drop_zero,List.take_of_length_le (by omega)]
  rw[qxn,nAdr,e1,qa5 hm,qgj,spl32 ha,qa5 ha,ee,rdW hm,qol,qgg hm (qbu _),add1 (by omega),nOfn,nLss,nInr,nApp]
  refine Br.t (decide_eq_true hj) (Chk.mk (decide_eq_true hj) (Chk.mk (by rw[nLe,nPlus,nLen]; exact decide_eq_true (by omega)) (Chk.mk (qbk hm) ⟨⟨pkey x h1,pkey m hm⟩,Chk.mk (eq32' ha) (Chk.mk ?_ (Chk.mk (qbk ha) (Chk.mk ?_ (Chk.mk (qbk hm) ⟨qbz m 32 hm.symm (by omega),Chk.mk (eq32 (sum32 _)) (Chk.mk (qbk hm) ⟨rfl,rfl,rfl⟩)⟩))))⟩)))
  ·rw[nLe,nPlus,qbw,nLen]; exact decide_eq_true (by omega)
  ·rw[nRoom]; exact decide_eq_true (by omega)
 have h3:=hb.post (Weak.pickV [0,2] mk91 2 (by simp) (by simp) (by simp))
 rw[qw6 (show pickN [0,2] 0=some 0 from rfl) hcs] at h3
 have e4:pickH (viewF [.cells ((sumL m).map by8),.dead,.cells (l.map by8++(atL x m).map by8)] [0,2] 2) [0,2] [.cells ((sumL m).map by8),.dead,.cells (l.map by8++(atL x m).map by8)] = [.cells ((sumL m).map by8),.cells (l.map by8++(atL x m).map by8)]:=by
  show [renB _ _ true (.cells ((sumL m).map by8)),renB _ _ true (.cells (l.map by8++(atL x m).map by8))]=_
  simp only[renB,qee,qaa (qac _)]
 have p2:pickN [0,2] 2=some 1:=rfl
 rw[e4] at h3
 simp only[ren,p2] at h3
 exact h3
def kx0:KX:=⟨fun ns n=>(nonL (qag ns) n).map by8,fun ns cs o n=>(keysL (shA cs o n) (qag ns) n).flatten.map by8⟩
def isZ(n:Nat):Bool:=decide (n=0)
theorem q0p:LnOK Try.prog (ln91 kx0 isZ):=by
 intro n0 b fr H p x e hn0 hp lg
 unfold ln91 at e
 split at e<;>cases e
 rename_i cs o n c e ns h1 h2
 obtain⟨rfl,hb,hf,⟨hcs,ho,_,L,hL⟩,hn,⟨nn,hnn,rfl⟩⟩:=hp
 have hb:b=lp91:=hb
 subst hb
 cases n with
 | zero =>
  refine qam.pre (Weak.forget (by simp) mk91) ?_ lg
  rw[hf]
  refine qal (P:=Try.prog) (n0:=0) (b:=lp91) (ex := .exit 0) (fr':=fr91 cs o 0 c e .nils (Int.ofNat 0)) (H' := [.cells (nn.map by8)]) (by intro h;cases h) (fun _=>(fr91 cs o 0 c e .nils (Int.ofNat 0),[.cells (nn.map by8)])) 0 0 (fun j h1 h2=>by omega) ?_
  refine qa2 qd8 (qai _) (qak _) (n:=100) (g:=kdYes) (bs:=mk91) ?_ (by simp)
  rw[qye,nOfn,nLss]
  exact Br.f (decide_eq_false (by omega)) ⟨rfl,rfl,rfl⟩
 | succ m =>
  have e1:kx0.non (nn.map by8) (m+1)=(nonL nn (m+1)).map by8:=by
   show(nonL (qag _) _).map by8=_
   rw[qab]
  have e2:kx0.keys (nn.map by8) cs o (m+1)=(keysL L nn (m+1)).flatten.map by8:=by
   show(keysL (shA cs o (m+1)) (qag _) _).flatten.map by8=_
   rw[qab,qcr hL]
  have hz:isZ (m+1)=false:=rfl
  rw[e1,e2,hz]
  refine qam.pre (Weak.forget (by simp) mk91) ?_ lg
  rw[hf]
  have h:=qal (P:=Try.prog) (n0:=0) (b:=lp91) (ex := .exit 0) (fr':=fr91 cs o (m+1) c e (.slc 1 0 (m+1) (m+1) 32) (Int.ofNat (m+1))) (H' := [.cells ((nonL nn (m+1)).map by8),.cells ((keysL L nn (m+1)).flatten.map by8)]) (by intro h;cases h)
   (fun i=>match i with
    | 0=>(fr91 cs o (m+1) c e .nils (Int.ofNat 0),[.cells (nn.map by8)])
    | k+1=>(fr91 cs o (m+1) c e (.slc 1 0 (k+1) (k+1) 32) (Int.ofNat (k+1)),[.cells ((nonL nn (k+1)).map by8),.cells ((keysL L nn (k+1)).flatten.map by8)])) (m+1) 0 (fun i _ hi => ?_) ?_
  ·exact h
  ·cases i with
   | zero=>exact q0e c e ho hL hnn (by omega)
   | succ k=>exact qzu c e hcs ho hn hL hnn (by omega)
  ·rw[Nat.zero_add]
   refine qa2 qd8 (qai _) (qak _) (n:=100) (g:=kdYes) (bs:=mk91) ?_ (by simp)
   show vm _ _ _ _ _ _ (fr91 cs o (m+1) c e (.slc 1 0 (m+1) (m+1) 32) (Int.ofNat (m+1))) [.cells ((nonL nn (m+1)).map by8),.cells ((keysL L nn (m+1)).flatten.map by8)] _ _
   rw[qxn,nOfn,nLss]
   exact Br.f (decide_eq_false (by omega)) ⟨rfl,rfl,rfl⟩
theorem q34{cs:List AV}{o n:Nat}{nn:List UInt8}{L:List (List UInt8)}(c:Nat)(e:Bool)(hP:PSh cs o n)(hL:ShAt cs o n L)(h1:1<=n)(hn:n<4294967296)(hnn:nn.length=32) :
  CallTo Try.prog 91 [.ros cs o n c e,.agg (nn.map by8)] [] (.slc 0 0 n n 32) [.cells ((keysL L nn n).flatten.map by8)] []:=by
 have e2:kx0.keys (nn.map by8) cs o n=(keysL L nn n).flatten.map by8:=by
  show(keysL (shA cs o n) (qag _) _).flatten.map by8=_
  rw[qab,qcr hL]
 have hz:isZ n=false:=decide_eq_false (by omega)
 refine qfm qd8 q0p (qaj ok91) (qad 91 vf91) (n:=200) (g:=kdYes) ?_
 have hv:vcall (vcA kdYes (cnO1 of1 hf0) (ln91 kx0 isZ)) ops0 (qah 91 vf91) 200 vf91 [.ros cs o n c e,.agg (nn.map by8)] [] (fun r H lg=>match r with
  | .nils=>False
  | r=>endB (fun o' m' c' sz' cs'=>o'=0/\m'=n/\c'=n/\sz'=32/\cs'=(keysL L nn n).flatten.map by8) r H lg):=by
  have h:=vc91 of1 hf0 kx0 isZ cs (nn.map by8) o n c e (fun o' m' c' sz' cs'=>o'=0/\m'=n/\c'=n/\sz'=32/\cs'=(keysL L nn n).flatten.map by8)
  rw[hz,e2] at h
  have h2:(vcall (vcA kdYes (cnO1 of1 hf0) (ln91 kx0 isZ)) ops0 (qah 91 vf91) 200 vf91 [.ros cs o n c e,.agg (nn.map by8)] [] (fun r H lg=>match r with
   | .nils=>(1=0/\0=n/\0=n/\0=32/\([]:List AV)=(keysL L nn n).flatten.map by8)
   | r=>endB (fun o' m' c' sz' cs'=>o'=0/\m'=n/\c'=n/\sz'=32/\cs'=(keysL L nn n).flatten.map by8) r H lg)):=by
   rw[h]
   exact⟨⟨rfl,rfl,rfl,hP,hn,pkey nn hnn⟩,qac _,rfl,rfl,rfl,rfl,rfl⟩
  have e3:((1:Nat)=0/\0=n/\0=n/\(0:Nat)=32/\([]:List AV)=(keysL L nn n).flatten.map by8)=False:=eq_false fun h=>by omega
  rw[e3] at h2
  exact h2
 have ee:(fun(r:AV) (H:Hl) (lg:List Nat)=>match r with
  | .nils=>False
  | r=>endB (fun o' m' c' sz' cs'=>o'=0/\m'=n/\c'=n/\sz'=32/\cs'=(keysL L nn n).flatten.map by8) r H lg)=endB (fun o' m' c' sz' cs'=>o'=0/\m'=n/\c'=n/\sz'=32/\cs'=(keysL L nn n).flatten.map by8):=by
  funext r H lg
  cases r<;>rfl
 rw[ee] at hv
 exact hv
end
end Go.Proofs.Vm

namespace Go.Vm
set_option maxRecDepth 100000
noncomputable section
theorem qbl(b:Bool)(r:Prop):Chk b r=(b=true/\r):=by cases b<;>simp[Chk]
theorem br_tt(r s:Prop):Br true r s=r:=rfl
theorem br_ff(r s:Prop):Br false r s=s:=rfl
theorem br_if(b:Bool)(r s:Prop):Br b r s=((b=true->r)/\(b=false->s)):=by cases b<;>simp[Br]
theorem qy2(cs:List AV)(i:Nat)(v:AV):Nth cs i v=(cs[i]? = some v):=by unfold Nth;rw[qb5]
def kdS:Kd->Bool:=fun k=>match k with
 | .slc=>false
 | _=>true
end
end Go.Vm

namespace Go.Proofs.Vm
set_option maxRecDepth 100000
open Go.Vm
noncomputable section
def ln65(Z:KX)(z:Nat->Bool):LnF:=fun n0 b fr H=>match slot fr 8,slot fr 5,H with
 | .ros cs o n c e,.nils,[.cells ns] =>
  some (n0=0/\VCis b lp65/\forget mk65 fr=fr65 cs o n c e .nils 0/\P65 cs o n ns,.cond (z n) (.ok (.exit 0) (fr65 cs o n c e .nils 0) [.cells ns]) (.ok (.exit 0) (fr65 cs o n c e (.slc 1 0 n n 32) n) [.cells (Z.non ns n),.cells (Z.keys ns cs o n)]))
 | _,_,_=>none
theorem vc65(O:OY)(F:HF)(Z:KX)(z:Nat->Bool)(cs ns:List AV)(o n c:Nat)(e:Bool)(Q:Nat->Nat->Nat->Nat->List AV->Prop) :
  (vcall (vcA kdYes (cnO1 O F) (ln65 Z z)) ops0 (qah 65 vf65) 200 vf65 [.ros cs o n c e,.agg ns] [] (fun r H lg=>match r with
    | .nils=>Q 1 0 0 0 []
    | r=>endB Q r H lg)) =
 (((((0:Nat)=0) /\
 ((VCis lp65 lp65) /\
 ((((tp 3 ((.ptr 0 0) :: .top :: .nils::tp 2 ((.ros cs o n c e)::(.int .i64 (ops0.ofn n))::(.int .i64 (.ofNat 0))::tp 13 ([])))):Fr)=(tp 3 ((.ptr 0 0) :: .top :: .nils::tp 2 ((.ros cs o n c e)::(.int .i64 (.ofNat n))::(.int .i64 (.ofNat 0))::tp 13 ([]))))) /\
 (P65 cs o n ns)))) /\
 (Br (z n)
 (Q 1 0 0 0 [])
 ((flatL (KX.keys Z ns cs o n)) /\
 (Q 0 n n 32 (KX.keys Z ns cs o n)))))):=by kernel_rfl
theorem qql{σ:Nat->Option Nat}{φ:Nat->Option (List AV)}(h0:σ 0=some 0){cs:List AV}(hcs:flatL cs)(o n c:Nat)(e:Bool)(x:AV)(i:Int) :
  forget mk65 (renL σ φ true (fr65 cs o n c e x i))=fr65 cs o n c e (ren σ φ true x) i:=by
 unfold fr65 mk65
 simp only[renL,ren,h0,forget,qaa hcs]
theorem qz9{cs:List AV}{o n:Nat}{L:List (List UInt8)}{nn:List UInt8}(c:Nat)(e:Bool)(hcs:flatL cs)(ho:o+n*32<=cs.length)(h:ShAt cs o n L)(hnn:nn.length=32)(hj:0<n) :
  qap Try.prog 0 lp65 (fr65 cs o n c e .nils (Int.ofNat 0)) [.cells (nn.map by8)] .norm (fr65 cs o n c e (.slc 1 0 1 1 32) (Int.ofNat 1)) [.cells ((nonL nn 1).map by8),.cells ((keysL L nn 1).flatten.map by8)]:=by
 have hl:0<L.length:=by rw[h.1]; exact hj
 have hx:=List.getElem?_eq_getElem hl
 obtain⟨h1,h2⟩:=h.2 0 L[0] hx
 rw[qg5 hx]
 generalize L[0]=x at h1 h2
 have ha:=at_32 x nn
 have hs:=qbu nn
 have hb:qap Try.prog 0 lp65 (fr65 cs o n c e .nils (Int.ofNat 0)) [.cells (nn.map by8)] .norm (fr65 cs o n c e (.slc 2 0 1 1 32) (Int.ofNat 1)) [.cells ((sumL nn).map by8),.cells (x.map by8),.cells ((atL x nn).map by8)]:=by
  refine qa2 qd8 (qai _) (qak _) (n:=100) (g:=kdYes) (bs:=mk65) ?_ (by simp)
  have e1:ops0.ext cs (o+0*32) 32=x.map by8:=by rw[nExt]; exact h2
  rw[qxy,nAdr,e1,qa5 hnn,spl32 h1,qa5 h1,qgj,spl32 ha,qa5 ha,qic,qgg hnn hs,add1 (by omega)]
  simp only[qbl,nLss,nInr,nLe,nPlus,nLen,nEq,List.length_map,ha,hs,h1,hnn,decide_eq_true_eq]
  refine Br.t (decide_eq_true hj) ?_
  repeat' with_reducible apply And.intro
  all_goals first|trivial|omega|exact pkey _ h1|exact pkey _ hnn|rfl
 have h3:=hb.post (Weak.pickV [0,2] mk65 2 (by simp) (by simp) (by simp))
 rw[qql (show pickN [0,2] 0=some 0 from rfl) hcs] at h3
 have e4:pickH (viewF [.cells ((sumL nn).map by8),.cells (x.map by8),.cells ((atL x nn).map by8)] [0,2] 2) [0,2] [.cells ((sumL nn).map by8),.cells (x.map by8),.cells ((atL x nn).map by8)] = [.cells ((nonL nn 1).map by8),.cells ((keysL L nn 0 ++ [atL x (nonL nn 0)]).flatten.map by8)]:=by
  show [renB _ _ true (.cells ((sumL nn).map by8)),renB _ _ true (.cells ((atL x nn).map by8))]=_
  simp only[renB,qaa (qac _)]
  simp[nonL,keysL]
 have p2:pickN [0,2] 2=some 1:=rfl
 rw[e4] at h3
 simp only[ren,p2] at h3
 exact h3
theorem qzz{cs:List AV}{o n j:Nat}{L:List (List UInt8)}{nn:List UInt8}(c:Nat)(e:Bool)(hcs:flatL cs)(ho:o+n*32<=cs.length)(hn:n<4294967296)(h:ShAt cs o n L)(hnn:nn.length=32)(hj:j<n) :
  qap Try.prog 0 lp65 (fr65 cs o n c e (.slc 1 0 j j 32) (Int.ofNat j)) [.cells ((nonL nn j).map by8),.cells ((keysL L nn j).flatten.map by8)] .norm (fr65 cs o n c e (.slc 1 0 (j+1) (j+1) 32) (Int.ofNat (j+1)))
   [.cells ((nonL nn (j+1)).map by8),.cells ((keysL L nn (j+1)).flatten.map by8)]:=by
 have hl:j<L.length:=by rw[h.1]; exact hj
 have hx:=List.getElem?_eq_getElem hl
 obtain⟨h1,h2⟩:=h.2 j L[j] hx
 rw[qg5 hx]
 generalize L[j]=x at h1 h2
 have hm:=qpz hnn j
 have hm1:(nonL nn (j+1))=sumL (nonL nn j):=rfl
 rw[hm1]
 generalize nonL nn j=m at hm
 have ha:=at_32 x m
 have hs:=qbu m
 have hA:((keysL L nn j).flatten.map by8).length=j*32:=by rw[List.length_map,qdb (qex L nn j),qcm]
 have e3:((keysL L nn j ++ [atL x m]).flatten).map by8=(keysL L nn j).flatten.map by8++(atL x m).map by8:=by rw[List.flatten_append,List.map_append]; simp
 rw[e3]
 generalize (keysL L nn j).flatten=l at hA
 have hb:qap Try.prog 0 lp65 (fr65 cs o n c e (.slc 1 0 j j 32) (Int.ofNat j)) [.cells (m.map by8),.cells (l.map by8)] .norm (fr65 cs o n c e (.slc 3 0 (j+1) (j+1) 32) (Int.ofNat (j+1))) [.cells ((sumL m).map by8),.dead,.cells (x.map by8),.cells (l.map by8++(atL x m).map by8)]:=by
  refine qa2 qd8 (qai _) (qak _) (n:=100) (g:=kdYes) (bs:=mk65) ?_ (by simp)
  have e1:ops0.ext cs (o+j*32) 32=x.map by8:=by rw[nExt]; exact h2
  have ee:ops0.ext (l.map by8) 0 (ops0.mul j 32)=l.map by8:=by rw[nExt,qbw,List.drop_zero,List.take_of_length_le (by omega)]
  rw[List.length_map] at hA
  rw[qym,nAdr,e1,qa5 hm,spl32 h1,qa5 h1,qgj,spl32 ha,qa5 ha,ee,qic,qgg hm hs,add1 (by omega)]
  simp only[qbl,nLss,nInr,nLe,nPlus,qbw,nLen,nEq,nApp,nRoom,List.length_map,ha,hs,h1,hm,hA,decide_eq_true_eq]
  refine Br.t (decide_eq_true hj) ?_
  repeat' with_reducible apply And.intro
  all_goals first|trivial|omega|exact pkey _ h1|exact pkey _ hm|rfl
 have h3:=hb.post (Weak.pickV [0,3] mk65 2 (by simp) (by simp) (by simp))
 rw[qql (show pickN [0,3] 0=some 0 from rfl) hcs] at h3
 have e4:pickH (viewF [.cells ((sumL m).map by8),.dead,.cells (x.map by8),.cells (l.map by8++(atL x m).map by8)] [0,3] 2) [0,3] [.cells ((sumL m).map by8),.dead,.cells (x.map by8),.cells (l.map by8++(atL x m).map by8)] = [.cells ((sumL m).map by8),.cells (l.map by8++(atL x m).map by8)]:=by
  show [renB _ _ true (.cells ((sumL m).map by8)),renB _ _ true (.cells (l.map by8++(atL x m).map by8))]=_
  simp only[renB,qee,qaa (qac _)]
 have p2:pickN [0,3] 3=some 1:=rfl
 rw[e4] at h3
 simp only[ren,p2] at h3
 exact h3
theorem q0m:LnOK Try.prog (ln65 kx0 isZ):=by
 intro n0 b fr H p x e hn0 hp lg
 unfold ln65 at e
 split at e<;>cases e
 rename_i cs o n c e ns h1 h2
 obtain⟨rfl,hb,hf,⟨hcs,ho,_,L,hL⟩,hn,⟨nn,hnn,rfl⟩⟩:=hp
 have hb:b=lp65:=hb
 subst hb
 cases n with
 | zero =>
  refine qam.pre (Weak.forget (by simp) mk65) ?_ lg
  rw[hf]
  refine qal (P:=Try.prog) (n0:=0) (b:=lp65) (ex := .exit 0) (fr':=fr65 cs o 0 c e .nils (Int.ofNat 0)) (H' := [.cells (nn.map by8)]) (by intro h;cases h) (fun _=>(fr65 cs o 0 c e .nils (Int.ofNat 0),[.cells (nn.map by8)])) 0 0 (fun j h1 h2=>by omega) ?_
  refine qa2 qd8 (qai _) (qak _) (n:=100) (g:=kdYes) (bs:=mk65) ?_ (by simp)
  rw[qxy,nLss]
  exact Br.f (decide_eq_false (by omega)) ⟨rfl,rfl,rfl⟩
 | succ m =>
  have e1:kx0.non (nn.map by8) (m+1)=(nonL nn (m+1)).map by8:=by
   show(nonL (qag _) _).map by8=_
   rw[qab]
  have e2:kx0.keys (nn.map by8) cs o (m+1)=(keysL L nn (m+1)).flatten.map by8:=by
   show(keysL (shA cs o (m+1)) (qag _) _).flatten.map by8=_
   rw[qab,qcr hL]
  have hz:isZ (m+1)=false:=rfl
  rw[e1,e2,hz]
  refine qam.pre (Weak.forget (by simp) mk65) ?_ lg
  rw[hf]
  have h:=qal (P:=Try.prog) (n0:=0) (b:=lp65) (ex := .exit 0) (fr':=fr65 cs o (m+1) c e (.slc 1 0 (m+1) (m+1) 32) (Int.ofNat (m+1))) (H' := [.cells ((nonL nn (m+1)).map by8),.cells ((keysL L nn (m+1)).flatten.map by8)]) (by intro h;cases h)
   (fun i=>match i with
    | 0=>(fr65 cs o (m+1) c e .nils (Int.ofNat 0),[.cells (nn.map by8)])
    | k+1=>(fr65 cs o (m+1) c e (.slc 1 0 (k+1) (k+1) 32) (Int.ofNat (k+1)),[.cells ((nonL nn (k+1)).map by8),.cells ((keysL L nn (k+1)).flatten.map by8)])) (m+1) 0 (fun i _ hi => ?_) ?_
  ·exact h
  ·cases i with
   | zero=>exact qz9 c e hcs ho hL hnn (by omega)
   | succ k=>exact qzz c e hcs ho hn hL hnn (by omega)
  ·rw[Nat.zero_add]
   refine qa2 qd8 (qai _) (qak _) (n:=100) (g:=kdYes) (bs:=mk65) ?_ (by simp)
   show vm _ _ _ _ _ _ (fr65 cs o (m+1) c e (.slc 1 0 (m+1) (m+1) 32) (Int.ofNat (m+1))) [.cells ((nonL nn (m+1)).map by8),.cells ((keysL L nn (m+1)).flatten.map by8)] _ _
   rw[qym,nLss]
   exact Br.f (decide_eq_false (by omega)) ⟨rfl,rfl,rfl⟩
theorem q3s{cs:List AV}{o n:Nat}{nn:List UInt8}{L:List (List UInt8)}(c:Nat)(e:Bool)(hP:PSh cs o n)(hL:ShAt cs o n L)(h1:1<=n)(hn:n<4294967296)(hnn:nn.length=32) :
  CallTo Try.prog 65 [.ros cs o n c e,.agg (nn.map by8)] [] (.slc 0 0 n n 32) [.cells ((keysL L nn n).flatten.map by8)] []:=by
 have e2:kx0.keys (nn.map by8) cs o n=(keysL L nn n).flatten.map by8:=by
  show(keysL (shA cs o n) (qag _) _).flatten.map by8=_
  rw[qab,qcr hL]
 have hz:isZ n=false:=decide_eq_false (by omega)
 refine qfm qd8 q0m (qaj ok65) (qad 65 vf65) (n:=200) (g:=kdYes) ?_
 have hv:vcall (vcA kdYes (cnO1 of1 hf0) (ln65 kx0 isZ)) ops0 (qah 65 vf65) 200 vf65 [.ros cs o n c e,.agg (nn.map by8)] [] (fun r H lg=>match r with
  | .nils=>False
  | r=>endB (fun o' m' c' sz' cs'=>o'=0/\m'=n/\c'=n/\sz'=32/\cs'=(keysL L nn n).flatten.map by8) r H lg):=by
  have h:=vc65 of1 hf0 kx0 isZ cs (nn.map by8) o n c e (fun o' m' c' sz' cs'=>o'=0/\m'=n/\c'=n/\sz'=32/\cs'=(keysL L nn n).flatten.map by8)
  rw[hz,e2] at h
  have h2:(vcall (vcA kdYes (cnO1 of1 hf0) (ln65 kx0 isZ)) ops0 (qah 65 vf65) 200 vf65 [.ros cs o n c e,.agg (nn.map by8)] [] (fun r H lg=>match r with
   | .nils=>(1=0/\0=n/\0=n/\0=32/\([]:List AV)=(keysL L nn n).flatten.map by8)
   | r=>endB (fun o' m' c' sz' cs'=>o'=0/\m'=n/\c'=n/\sz'=32/\cs'=(keysL L nn n).flatten.map by8) r H lg)):=by
   rw[h]
   exact⟨⟨rfl,rfl,rfl,hP,hn,pkey nn hnn⟩,qac _,rfl,rfl,rfl,rfl,rfl⟩
  have e3:((1:Nat)=0/\0=n/\0=n/\(0:Nat)=32/\([]:List AV)=(keysL L nn n).flatten.map by8)=False:=eq_false fun h=>by omega
  rw[e3] at h2
  exact h2
 have ee:(fun(r:AV) (H:Hl) (lg:List Nat)=>match r with
  | .nils=>False
  | r=>endB (fun o' m' c' sz' cs'=>o'=0/\m'=n/\c'=n/\sz'=32/\cs'=(keysL L nn n).flatten.map by8) r H lg)=endB (fun o' m' c' sz' cs'=>o'=0/\m'=n/\c'=n/\sz'=32/\cs'=(keysL L nn n).flatten.map by8):=by
  funext r H lg
  cases r<;>rfl
 rw[ee] at hv
 exact hv
end
end Go.Proofs.Vm

namespace Go.Proofs.Vm
set_option maxRecDepth 100000
open Go.Vm
noncomputable section
def byF(n o:Nat)(f:Nat->Int):List AV:=(List.range n).map fun i => .int .u8 (f (o+i))
def hopF(f:Nat->Int):List AV := .int .i64 (f 0) :: .int .i64 (f 1) :: .int .i64 (f 2)::(byF 32 3 f++(.int .i64 (f 35)::(byF 32 36 f++(.int .i64 (f 68)::byF 32 69 f))))
def tabH(f:Nat):Option VF:=match f with
 | 82=>some vf82
 | 83=>some vf83
 | 90=>some vf90
 | _=>none
theorem vc83(f:Nat->Int)(Q:AV->Hl->Prop) :
  (vcall (vcA kdFit noCn noLn) ops0 tabH 200 vf83 [.agg (hopF f)] [] (endN (fun _=>0) Q)) =
 ((Br (ops0.cmp .geq (f 0) (Int.ofNat 0))
 (Br (ops0.cmp .leq (f 0) (Int.ofNat 65535))
 (Br (ops0.cmp .geq (f 1) (Int.ofNat 0))
 (Br (ops0.cmp .geq (f 35) (Int.ofNat 0))
 (Br (ops0.cmp .geq (f 2) (Int.ofNat 0))
 (Br (ops0.cmp .leq (f 2) (Int.ofNat 2147483647))
 (Br (ops0.cmp .geq (f 68) (Int.ofNat 0))
 (Br (ops0.cmp .leq (f 68) (Int.ofNat 2147483647))
 (Q (.bool Bool.true) [])
 (Q (.bool Bool.false) []))
 (Q (.bool Bool.false) []))
 (Q (.bool Bool.false) []))
 (Q (.bool Bool.false) []))
 (Q (.bool Bool.false) []))
 (Q (.bool Bool.false) []))
 (Q (.bool Bool.false) []))
 (Q (.bool Bool.false) []))):=by kernel_rfl
theorem vc90(f:Nat->Int)(Q:AV->Hl->Prop) :
  (vcall (vcA kdFit noCn noLn) ops0 tabH 200 vf90 [.agg (hopF f)] [] (endN (fun _=>0) Q)) =
 ((Br (ops0.cmp .geq (f 0) (Int.ofNat 0))
 (Br (ops0.cmp .leq (f 0) (Int.ofNat 65535))
 (Br (ops0.cmp .geq (f 1) (Int.ofNat 0))
 (Br (ops0.cmp .geq (f 35) (Int.ofNat 0))
 (Br (ops0.cmp .geq (f 2) (Int.ofNat 0))
 (Br (ops0.cmp .leq (f 2) (Int.ofNat 2147483647))
 (Br (ops0.cmp .geq (f 68) (Int.ofNat 0))
 (Br (ops0.cmp .leq (f 68) (Int.ofNat 2147483647))
 (Q (.bool Bool.true) [])
 (Q (.bool Bool.false) []))
 (Q (.bool Bool.false) []))
 (Q (.bool Bool.false) []))
 (Q (.bool Bool.false) []))
 (Q (.bool Bool.false) []))
 (Q (.bool Bool.false) []))
 (Q (.bool Bool.false) []))
 (Q (.bool Bool.false) []))):=by kernel_rfl
theorem nGeq'{a:Int}{b:Nat}:ops0.cmp .geq a (Int.ofNat b)=decide (a>=Int.ofNat b):=rfl
theorem nLeq'{a:Int}{b:Nat}:ops0.cmp .leq a (Int.ofNat b)=decide (a<=Int.ofNat b):=rfl
theorem nLss'{a:Int}{b:Nat}:ops0.cmp .lss a (Int.ofNat b)=decide (a<Int.ofNat b):=rfl
theorem nEql'{a:Int}{b:Nat}:ops0.cmp .eql a (Int.ofNat b)=decide (a=Int.ofNat b):=by
 show(a == Int.ofNat b)=_
 by_cases h:a=Int.ofNat b
 ·rw[decide_eq_true h,h]; simp
 ·rw[decide_eq_false h]; exact beq_eq_false_iff_ne.2 h
structure Hop where
 ch:Int
 am:Int
 ex:Int
 sec:List UInt8
 tot:Int
 set:List UInt8
 idx:Int
 shr:List UInt8
structure Hop.L32(h:Hop):Prop where
 sec:h.sec.length=32
 set:h.set.length=32
 shr:h.shr.length=32
def Hop.may(h:Hop):Bool:=decide (0<=h.ch/\h.ch<=65535/\0<=h.am/\0<=h.tot/\0<=h.ex/\h.ex<=2147483647/\0<=h.idx/\h.idx<=2147483647)
def hopC(h:Hop):List AV := .int .i64 h.ch :: .int .i64 h.am :: .int .i64 h.ex::(h.sec.map by8++(.int .i64 h.tot::(h.set.map by8++(.int .i64 h.idx::h.shr.map by8))))
def b8F(l:List UInt8)(i:Nat):Int:=Int.ofNat (l.getD i 0).toNat
def hopFn(h:Hop)(i:Nat):Int :=
 if i<3 then(if i=0 then h.ch else if i=1 then h.am else h.ex)
 else if i<35 then b8F h.sec (i - 3)
 else if i=35 then h.tot
 else if i<68 then b8F h.set (i - 36)
 else if i=68 then h.idx else b8F h.shr (i - 69)
theorem qh0{l:List UInt8}{n o:Nat}{f:Nat->Int}(hl:l.length=n)(h:∀ i,i<n->f (o+i)=b8F l i):byF n o f=l.map by8:=by
 apply List.ext_getElem?
 intro i
 unfold byF
 rw[List.getElem?_map,List.getElem?_map]
 by_cases hi:i<n
 ·rw[List.getElem?_range hi,List.getElem?_eq_getElem (by omega)]
  simp only[Option.map_some]
  rw[h i hi]
  unfold b8F by8
  rw[List.getD_eq_getElem?_getD,List.getElem?_eq_getElem (by omega)]
  rfl
 ·rw[List.getElem?_eq_none (by rw[List.length_range]; omega),List.getElem?_eq_none (by omega)]
  rfl
theorem qgn{l:List UInt8}{n:Nat}(hl:l.length=n):byF n 0 (b8F l)=l.map by8:=qh0 hl fun i _=>by rw[Nat.zero_add]
theorem qpx{h:Hop}(hl:h.L32):hopC h=hopF (hopFn h):=by
 have e1:byF 32 3 (hopFn h)=h.sec.map by8:=qh0 hl.sec fun i hi=>by
  unfold hopFn
  rw[if_neg (by omega),if_pos (by omega),show 3+i - 3=i by omega]
 have e2:byF 32 36 (hopFn h)=h.set.map by8:=qh0 hl.set fun i hi=>by
  unfold hopFn
  rw[if_neg (by omega),if_neg (by omega),if_neg (by omega),if_pos (by omega),show 36+i - 36=i by omega]
 have e3:byF 32 69 (hopFn h)=h.shr.map by8:=qh0 hl.shr fun i hi=>by
  unfold hopFn
  rw[if_neg (by omega),if_neg (by omega),if_neg (by omega),if_neg (by omega),if_neg (by omega),show 69+i - 69=i by omega]
 unfold hopF
 rw[e1,e2,e3]
 rfl
def hopOf(hc:List AV):Hop:=⟨intA (hc.getD 0 .top),intA (hc.getD 1 .top),intA (hc.getD 2 .top),qag ((hc.drop 3).take 32),intA (hc.getD 35 .top),qag ((hc.drop 36).take 32),intA (hc.getD 68 .top),qag ((hc.drop 69).take 32)⟩
theorem qkt{h:Hop}(hl:h.L32):hopOf (hopC h)=h:=by
 obtain⟨ch,am,ex,sec,tot,set,idx,shr⟩:=h
 obtain⟨h1,h2,h3⟩:=hl
 dsimp only at h1 h2 h3
 have l1:(sec.map by8).length=32:=by rw[List.length_map,h1]
 have l2:(set.map by8).length=32:=by rw[List.length_map,h2]
 have l3:(shr.map by8).length=32:=by rw[List.length_map,h3]
 have a3:(hopC ⟨ch,am,ex,sec,tot,set,idx,shr⟩).drop 3=sec.map by8++(.int .i64 tot::(set.map by8++(.int .i64 idx::shr.map by8))):=rfl
 have a35:(hopC ⟨ch,am,ex,sec,tot,set,idx,shr⟩).drop 35 = .int .i64 tot::(set.map by8++(.int .i64 idx::shr.map by8)):=by
  have:(hopC ⟨ch,am,ex,sec,tot,set,idx,shr⟩).drop 35=((hopC ⟨ch,am,ex,sec,tot,set,idx,shr⟩).drop 3).drop 32:=by rw[List.drop_drop]
  rw[this,a3,<-l1,List.drop_left]
 have a36:(hopC ⟨ch,am,ex,sec,tot,set,idx,shr⟩).drop 36=set.map by8++(.int .i64 idx::shr.map by8):=by
  have:(hopC ⟨ch,am,ex,sec,tot,set,idx,shr⟩).drop 36=((hopC ⟨ch,am,ex,sec,tot,set,idx,shr⟩).drop 35).drop 1:=by rw[List.drop_drop]
  rw[this,a35]
  rfl
 have a68:(hopC ⟨ch,am,ex,sec,tot,set,idx,shr⟩).drop 68 = .int .i64 idx::shr.map by8:=by
  have:(hopC ⟨ch,am,ex,sec,tot,set,idx,shr⟩).drop 68=((hopC ⟨ch,am,ex,sec,tot,set,idx,shr⟩).drop 36).drop 32:=by rw[List.drop_drop]
  rw[this,a36,<-l2,List.drop_left]
 have a69:(hopC ⟨ch,am,ex,sec,tot,set,idx,shr⟩).drop 69=shr.map by8:=by
  have:(hopC ⟨ch,am,ex,sec,tot,set,idx,shr⟩).drop 69=((hopC ⟨ch,am,ex,sec,tot,set,idx,shr⟩).drop 68).drop 1:=by rw[List.drop_drop]
  rw[this,a68]
  rfl
 have g:∀ (cs:List AV) (i:Nat) x r,cs.drop i=x::r->cs.getD i .top=x:=by
  intro cs i x r h
  rw[List.getD_eq_getElem?_getD]
  have:cs[i]? = (cs.drop i)[0]? := by rw[List.getElem?_drop,Nat.add_zero]
  rw[this,h]; rfl
 unfold hopOf
 rw[a3,a36,a69,g _ 35 _ _ a35,g _ 68 _ _ a68]
 rw[show(sec.map by8++(AV.int .i64 tot::(set.map by8++(.int .i64 idx::shr.map by8)))).take 32=sec.map by8 by rw[<-l1,List.take_left],
  show(set.map by8++(AV.int .i64 idx::shr.map by8)).take 32=set.map by8 by rw[<-l2,List.take_left],List.take_of_length_le (by omega),qab,qab,qab]
 rfl
theorem qa8{h:Hop}(hl:h.L32):(hopC h).length=101:=by
 obtain⟨h1,h2,h3⟩:=hl
 unfold hopC
 simp only[List.length_cons,List.length_append,List.length_map,h1,h2,h3]
theorem qcn(h:Hop):flatL (hopC h):=by
 unfold hopC
 intro a ha
 simp only[List.mem_cons,List.mem_append,List.mem_map] at ha
 rcases ha with rfl|rfl|rfl|⟨b,_,rfl⟩|rfl|⟨b,_,rfl⟩|rfl|⟨b,_,rfl⟩<;>rfl
def PHop(hc:List AV):Prop:=∃ h:Hop,h.L32/\hc=hopC h
theorem may_t{h:Hop}(k:0<=h.ch/\h.ch<=65535/\0<=h.am/\0<=h.tot/\0<=h.ex/\h.ex<=2147483647/\0<=h.idx/\h.idx<=2147483647):AV.bool true = .bool h.may:=congrArg AV.bool (Eq.symm (decide_eq_true k))
theorem may_f{h:Hop}(k:¬ (0<=h.ch/\h.ch<=65535/\0<=h.am/\0<=h.tot/\0<=h.ex/\h.ex<=2147483647/\0<=h.idx/\h.idx<=2147483647)):AV.bool false = .bool h.may:=congrArg AV.bool (Eq.symm (decide_eq_false k))
theorem qsw:∀ f vf,tabH f=some vf->FnOK Try.prog f vf:=by
 intro f vf h
 unfold tabH at h
 split at h<;>cases h
 ·exact ok82
 ·exact ok83
 ·exact ok90
theorem qx7{h:Hop}(hl:h.L32):CallTo Try.prog 83 [.agg (hopC h)] [] (.bool h.may) [] []:=by
 rw[qpx hl]
 refine qb7 (qa3 _) (qai _) qsw (show tabH 83=some vf83 from rfl) (n:=200) (g:=kdFit) (m:=fun _=>0) [] ?_ (Nat.le_refl 0) rfl (fun b hb=>by simp at hb)
 have e0:hopFn h 0=h.ch:=rfl
 have e1:hopFn h 1=h.am:=rfl
 have e2:hopFn h 2=h.ex:=rfl
 have e3:hopFn h 35=h.tot:=rfl
 have e4:hopFn h 68=h.idx:=rfl
 rw[vc83,e0,e1,e2,e3,e4]
 simp only[nGeq',nLeq',br_if,decide_eq_true_eq,decide_eq_false_iff_not]
 simp only[Int.ofNat_eq_natCast]
 repeat' first|with_reducible apply And.intro|with_reducible intro
 all_goals first|trivial|(refine may_t (h:=h) ?_;omega)|(refine may_f (h:=h) ?_;omega)
theorem qx0{h:Hop}(hl:h.L32):CallTo Try.prog 90 [.agg (hopC h)] [] (.bool h.may) [] []:=by
 rw[qpx hl]
 refine qb7 (qa3 _) (qai _) qsw (show tabH 90=some vf90 from rfl) (n:=200) (g:=kdFit) (m:=fun _=>0) [] ?_ (Nat.le_refl 0) rfl (fun b hb=>by simp at hb)
 have e0:hopFn h 0=h.ch:=rfl
 have e1:hopFn h 1=h.am:=rfl
 have e2:hopFn h 2=h.ex:=rfl
 have e3:hopFn h 35=h.tot:=rfl
 have e4:hopFn h 68=h.idx:=rfl
 rw[vc90,e0,e1,e2,e3,e4]
 simp only[nGeq',nLeq',br_if,decide_eq_true_eq,decide_eq_false_iff_not]
 simp only[Int.ofNat_eq_natCast]
 repeat' first|with_reducible apply And.intro|with_reducible intro
 all_goals first|trivial|(refine may_t (h:=h) ?_;omega)|(refine may_f (h:=h) ?_;omega)
end
end Go.Proofs.Vm

namespace Go.Proofs.Vm
set_option maxRecDepth 100000
open Go.Vm
noncomputable section
def tabP(f:Nat):Option VF:=match f with
 | 87=>some vf87
 | 106=>some vf106
 | 107=>some vf107
 | 108=>some vf108
 | 92=>some vf92
 | 109=>some vf109
 | _=>none
def hiA(n:Nat)(x:Int):List AV:=(List.range n).map fun i => .int .u8 (ops0.cvt .u8 (ops0.shf .shr .i64 x (Int.ofNat (8*(n - 1 - i)))))
def partF(f g:Nat->Int):List AV :=
 hiA 2 (f 0)++(hiA 8 (f 1)++(hiA 4 (f 2)++(byF 32 3 f++(hiA 8 (f 35)++(byF 32 36 f++(hiA 4 (f 68)++(byF 32 69 f++(byF 32 0 g++z8 102))))))))
theorem vc87(f g:Nat->Int)(Q:Nat->Nat->Nat->Nat->List AV->Prop):(vcall (vcA kdFit noCn noLn) ops0 tabP 400 vf87 [.agg (hopF f),.agg (byF 32 0 g)] [] (endB Q))=(flatL (partF f g)/\Q 0 256 256 1 (partF f g)):=by kernel_rfl
theorem vc92(f g:Nat->Int)(Q:Nat->Nat->Nat->Nat->List AV->Prop):(vcall (vcA kdFit noCn noLn) ops0 tabP 400 vf92 [.agg (hopF f),.agg (byF 32 0 g)] [] (endB Q))=(flatL (partF f g)/\Q 0 256 256 1 (partF f g)):=by kernel_rfl
theorem qsl:∀ f vf,tabP f=some vf->FnOK Try.prog f vf:=by
 intro f vf h
 unfold tabP at h
 split at h<;>cases h
 ·exact ok87
 ·exact ok106
 ·exact ok107
 ·exact ok108
 ·exact ok92
 ·exact ok109
def hiL(n x:Nat):List UInt8:=(List.range n).map fun i=>UInt8.ofNat (x / 2 ^ (8*(n - 1 - i)))
theorem qc1(n x:Nat):(hiL n x).length=n:=by unfold hiL;rw[List.length_map,List.length_range]
def partL(h:Hop)(next:List UInt8):List UInt8 :=
 hiL 2 h.ch.toNat++(hiL 8 h.am.toNat++(hiL 4 h.ex.toNat++(h.sec++(hiL 8 h.tot.toNat++(h.set++(hiL 4 h.idx.toNat++(h.shr++(next++List.replicate 102 0))))))))
theorem qbb{h:Hop}(hl:h.L32){next:List UInt8}(hn:next.length=32):(partL h next).length=256:=by
 obtain⟨h1,h2,h3⟩:=hl
 unfold partL
 simp only[List.length_append,qc1,h1,h2,h3,hn,List.length_replicate]
theorem shrI(k s:Nat)(h:s<=64):ops0.cvt .u8 (ops0.shf .shr .i64 (Int.ofNat k) (Int.ofNat s))=Int.ofNat (UInt8.ofNat (k / 2 ^ s)).toNat:=by
 have e1:ops0.shf .shr .i64 (Int.ofNat k) (Int.ofNat s)=Int.ofNat (k / 2 ^ s):=by
  show(Int.ofNat k).fdiv (2 ^ (Nat.min (Int.ofNat s).toNat 64))=_
  have:Nat.min (Int.ofNat s).toNat 64=s:=Nat.min_eq_left h
  rw[this]
  have e2:(2:Int) ^ s=Int.ofNat (2 ^ s):=by simp
  rw[e2]
  exact Int.fdiv_eq_ediv_of_nonneg _ (Int.natCast_nonneg _)
 rw[e1]
 generalize k / 2 ^ s=q
 show IntKind.u8.wrap (Int.ofNat q)=_
 simp[IntKind.wrap,IntKind.bits,IntKind.signed]
theorem qmx{n:Nat}{x:Int}(hx:0<=x)(hn:n<=8):hiA n x=(hiL n x.toNat).map by8:=by
 obtain⟨k,rfl⟩:∃ k:Nat,x=Int.ofNat k:=⟨x.toNat,(Int.toNat_of_nonneg hx).symm⟩
 unfold hiA hiL
 rw[List.map_map]
 apply List.map_congr_left
 intro i _
 show AV.int .u8 _=AV.int .u8 _
 rw[shrI _ _ (by omega)]
 rfl
def Hop.pos(h:Hop):Prop:=0<=h.ch/\0<=h.am/\0<=h.ex/\0<=h.tot/\0<=h.idx
theorem Hop.may_pos{h:Hop}(k:h.may=true):h.pos:=by
 have k:=of_decide_eq_true k
 exact⟨by omega,by omega,by omega,by omega,by omega⟩
theorem qoy{h:Hop}(hl:h.L32)(hp:h.pos){next:List UInt8}(hn:next.length=32):partF (hopFn h) (b8F next)=(partL h next).map by8:=by
 obtain⟨p1,p2,p3,p4,p5⟩:=hp
 have e0:hopFn h 0=h.ch:=rfl
 have e1:hopFn h 1=h.am:=rfl
 have e2:hopFn h 2=h.ex:=rfl
 have e3:hopFn h 35=h.tot:=rfl
 have e4:hopFn h 68=h.idx:=rfl
 have s1:byF 32 3 (hopFn h)=h.sec.map by8:=qh0 hl.sec fun i hi=>by
  unfold hopFn
  rw[if_neg (by omega),if_pos (by omega),show 3+i - 3=i by omega]
 have s2:byF 32 36 (hopFn h)=h.set.map by8:=qh0 hl.set fun i hi=>by
  unfold hopFn
  rw[if_neg (by omega),if_neg (by omega),if_neg (by omega),if_pos (by omega),show 36+i - 36=i by omega]
 have s3:byF 32 69 (hopFn h)=h.shr.map by8:=qh0 hl.shr fun i hi=>by
  unfold hopFn
  rw[if_neg (by omega),if_neg (by omega),if_neg (by omega),if_neg (by omega),if_neg (by omega),show 69+i - 69=i by omega]
 unfold partF partL
 rw[e0,e1,e2,e3,e4,s1,s2,s3,qgn hn,qmx p1 (by decide),qmx p2 (by decide),qmx p3 (by decide),qmx p4 (by decide),qmx p5 (by decide),z8_eq]
 simp only[List.map_append]
theorem q3e{h:Hop}(hl:h.L32)(hp:h.pos){next:List UInt8}(hn:next.length=32):CallTo Try.prog 87 [.agg (hopC h),.agg (next.map by8)] [] (.slc 0 0 256 256 1) [.cells ((partL h next).map by8)] []:=by
 rw[qpx hl,<-qgn hn]
 refine qfm (qa3 _) (qai _) qsl (show tabP 87=some vf87 from rfl) (n:=400) (g:=kdFit) ?_
 rw[vc87,qoy hl hp hn]
 exact⟨qac _,rfl,rfl,rfl,rfl,rfl⟩
theorem qxq{h:Hop}(hl:h.L32)(hp:h.pos){next:List UInt8}(hn:next.length=32):CallTo Try.prog 92 [.agg (hopC h),.agg (next.map by8)] [] (.slc 0 0 256 256 1) [.cells ((partL h next).map by8)] []:=by
 rw[qpx hl,<-qgn hn]
 refine qfm (qa3 _) (qai _) qsl (show tabP 92=some vf92 from rfl) (n:=400) (g:=kdFit) ?_
 rw[vc92,qoy hl hp hn]
 exact⟨qac _,rfl,rfl,rfl,rfl,rfl⟩
end
end Go.Proofs.Vm

namespace Go.Proofs.Vm
set_option maxRecDepth 100000
open Go.Vm
noncomputable section
def tabA(f:Nat):Option VF:=match f with
 | 113=>some vf113
 | 114=>some vf114
 | 116=>some vf116
 | _=>none
def tabR(f:Nat):Option VF:=match f with
 | 97=>some vf97
 | 106=>some vf106
 | 111=>some vf111
 | 112=>some vf112
 | 100=>some vf100
 | 115=>some vf115
 | 98=>some vf98
 | _=>none
def PHp(hc:List AV):Prop:=∃ h:Hop,h.L32/\h.pos/\hc=hopC h
structure RW where
 any:List AV->Nat->Bool
 may:List AV->Bool
 part:List AV->List AV->List AV
def cnR(W:RW):CnF:=fun f vals H=>match f,vals with
 | 113,[.ros pc off 102 c e,.fn 114 [] []]=>some (PB pc off 102,.cond (W.any pc off) (.ok (.bool true) H []) (.ok (.bool false) H []))
 | 83,[.agg hc]=>some (PHop hc,.cond (W.may hc) (.ok (.bool true) H []) (.ok (.bool false) H []))
 | 90,[.agg hc]=>some (PHop hc,.cond (W.may hc) (.ok (.bool true) H []) (.ok (.bool false) H []))
 | 92,[.agg hc,.agg ns]=>some (PHp hc/\PKey ns,.ok (.slc (size H) 0 256 256 1) (join H [.cells (W.part hc ns)]) [])
 | _,_=>none
def brAny(f:Nat->Int)(r s:Prop):List Nat->Prop
 | []=>s
 | i::is=>Br (ops0.cmp .neq (f i) (Int.ofNat 0)) r (brAny f r s is)
theorem vc113(f:Nat->Int)(c:Nat)(e:Bool)(Q:AV->Hl->Prop):(vcall (vcA kdFit noCn noLn) ops0 tabA 400 vf113 [.ros (byF 102 0 f) 0 102 c e,.fn 114 [] []] [] (endN (fun _=>0) Q))=brAny f (Q (.bool true) []) (Q (.bool false) []) (List.range 102):=by kernel_rfl
def orP(f:Nat->Int)(o n:Nat):Int:=(List.range n).foldl (fun x i=>ops0.bin .or .i64 (ops0.shf .shl .i64 x (Int.ofNat 8)) (ops0.cvt .i64 (f (o+i)))) (Int.ofNat 0)
def adP(f:Nat->Int)(o n:Nat):Int:=(List.range n).foldl (fun x i=>ops0.bin .add .i64 (ops0.bin .mul .i64 x (Int.ofNat 256)) (ops0.cvt .i64 (f (o+i)))) (Int.ofNat 0)
def hopP(nu:Nat->Nat->Int)(f:Nat->Int):List AV := .int .i64 (nu 0 2) :: .int .i64 (nu 2 8) :: .int .i64 (nu 10 4)::(byF 32 14 f++(.int .i64 (nu 46 8)::(byF 32 54 f++(.int .i64 (nu 86 4)::byF 32 90 f))))
def hop0:Hop:=⟨0,0,0,qiw,0,qiw,0,qiw⟩
def noHop:AV := .tup [.agg (hopC hop0),.agg (qiw.map by8),.bool false]
theorem vc97(W:RW)(f:Nat->Int)(Q:AV->Hl->Prop):(vcall (vcA kdFit (cnR W) noLn) ops0 tabR 600 vf97 [.ros (byF 256 0 f) 0 256 256 false] [] (endN (fun _=>0) Q)) =
 (PB (byF 256 0 f) 154 102/\Br (W.any (byF 256 0 f) 154) (Q noHop []) (PHop (hopP (orP f) f)/\Br (W.may (hopP (orP f) f)) (Q (.tup [.agg (hopP (orP f) f),.agg (byF 32 122 f),.bool true]) []) (Q noHop []))):=by kernel_rfl
theorem vc100(W:RW)(f:Nat->Int)(Q:AV->Hl->Prop):(vcall (vcA kdFit (cnR W) noLn) ops0 tabR 600 vf100 [.ros (byF 256 0 f) 0 256 256 false] [] (endN (fun _=>0) Q)) =
 (PHop (hopP (adP f) f)/\Br (W.may (hopP (adP f) f))
  ((PHp (hopP (adP f) f)/\PKey (byF 32 122 f))/\Chk (ops0.le 256 (ops0.len (W.part (hopP (adP f) f) (byF 32 122 f))))
   (∃ l:List UInt8,(ops0.ext (W.part (hopP (adP f) f) (byF 32 122 f)) 0 256=List.map (fun b=>AV.int .u8 ((b.toNat:Nat):Int)) l)/\∃ l1:List UInt8,(byF 256 0 f=List.map (fun b=>AV.int .u8 ((b.toNat:Nat):Int)) l1) /\
    Br (ops0.eqs l l1) (Q (.tup [.agg (hopP (adP f) f),.agg (byF 32 122 f),.bool true]) []) (Q noHop [])))
  (Q noHop [])):=by kernel_rfl
theorem q0c:∀ f vf,tabA f=some vf->FnOK Try.prog f vf:=by
 intro f vf h
 unfold tabA at h
 split at h<;>cases h
 ·exact ok113
 ·exact ok114
 ·exact ok116
theorem qu3:∀ f vf,tabR f=some vf->FnOK Try.prog f vf:=by
 intro f vf h
 unfold tabR at h
 split at h<;>cases h
 ·exact ok97
 ·exact ok106
 ·exact ok111
 ·exact ok112
 ·exact ok100
 ·exact ok115
 ·exact ok98
def nuL(b:List UInt8):Nat:=b.foldl (fun x c=>x*256+c.toNat) 0
def sg(n:Nat):Int:=IntKind.i64.wrap (n:Int)
theorem qlx(b:List UInt8)(c:UInt8):nuL (b ++ [c])=nuL b*256+c.toNat:=by unfold nuL;rw[List.foldl_append]; rfl
theorem qr0:∀ (b:List UInt8) (x m:Nat),x<m->b.foldl (fun x c=>x*256+c.toNat) x<m*256 ^ b.length
 | [],x,m,h=>by simpa using h
 | c::b,x,m,h=>by
  have h1:=c.toNat_lt
  have:=qr0 b (x*256+c.toNat) (m*256) (by omega)
  rw[List.foldl_cons,List.length_cons,Nat.pow_succ,Nat.mul_comm (256 ^ b.length) 256,<-Nat.mul_assoc]
  exact this
theorem q4o(b:List UInt8):nuL b<256 ^ b.length:=by
 have:=qr0 b 0 1 (by omega)
 rwa [Nat.one_mul] at this
theorem qh6(z:Int):(IntKind.i64.wrap z) % 18446744073709551616=z % 18446744073709551616:=by
 simp[IntKind.wrap,IntKind.bits,IntKind.signed]
 omega
theorem qht{y z:Int}(h:y % 18446744073709551616=z % 18446744073709551616):IntKind.i64.wrap y=IntKind.i64.wrap z:=by
 simp[IntKind.wrap,IntKind.bits,IntKind.signed]
 omega
theorem qve(c:UInt8):ops0.cvt .i64 (Int.ofNat c.toNat)=Int.ofNat c.toNat:=nCi (by have:=c.toNat_lt;omega)
theorem qwj(n:Nat)(c:UInt8):ops0.bin .add .i64 (ops0.bin .mul .i64 (sg n) (Int.ofNat 256)) (Int.ofNat c.toNat)=sg (n*256+c.toNat):=by
 show IntKind.i64.wrap (IntKind.i64.wrap (IntKind.i64.wrap (n:Int)*Int.ofNat 256)+Int.ofNat c.toNat)=IntKind.i64.wrap _
 apply qht
 have h1:=qh6 (IntKind.i64.wrap (n:Int)*Int.ofNat 256)
 have h2:=qh6 (n:Int)
 generalize IntKind.i64.wrap (n:Int)=a at h1 h2 ⊢
 generalize IntKind.i64.wrap (a*Int.ofNat 256)=b at h1 ⊢
 simp only[Int.ofNat_eq_natCast] at h1 ⊢
 omega
theorem qwt(n:Nat)(c:UInt8):ops0.bin .or .i64 (ops0.shf .shl .i64 (sg n) (Int.ofNat 8)) (Int.ofNat c.toNat)=sg (n*256+c.toNat):=by
 have e1:ops0.shf .shl .i64 (sg n) (Int.ofNat 8)=sg (n*256):=by
  show IntKind.i64.wrap (IntKind.i64.wrap (n:Int)*2 ^ (Nat.min (Int.ofNat 8).toNat 64))=IntKind.i64.wrap _
  have:(2:Int) ^ (Nat.min (Int.ofNat 8).toNat 64)=256:=rfl
  rw[this]
  apply qht
  have h2:=qh6 (n:Int)
  generalize IntKind.i64.wrap (n:Int)=a at h2 ⊢
  omega
 rw[e1]
 show IntKind.i64.wrap ((BitVec.ofInt 64 (sg (n*256)) ||| BitVec.ofInt 64 (Int.ofNat c.toNat)).toNat)=IntKind.i64.wrap _
 apply qht
 have hc:=c.toNat_lt
 have hb:(BitVec.ofInt 64 (sg (n*256)) ||| BitVec.ofInt 64 (Int.ofNat c.toNat))=BitVec.ofNat 64 (n*256+c.toNat):=by
  have a1:BitVec.ofInt 64 (sg (n*256))=BitVec.ofNat 64 (n*256):=by
   apply BitVec.eq_of_toNat_eq
   rw[BitVec.toNat_ofInt,BitVec.toNat_ofNat]
   have:=qh6 ((n*256:Nat):Int)
   show(IntKind.i64.wrap ((n*256:Nat):Int) % ((2 ^ 64:Nat):Int)).toNat=n*256 % 2 ^ 64
   omega
  have a2:BitVec.ofInt 64 (Int.ofNat c.toNat)=BitVec.ofNat 64 c.toNat:=rfl
  rw[a1,a2]
  apply BitVec.eq_of_toNat_eq
  rw[BitVec.toNat_or,BitVec.toNat_ofNat,BitVec.toNat_ofNat,BitVec.toNat_ofNat]
  have e2:n*256 % 2 ^ 64=(n % 2 ^ 56)*2 ^ 8:=Nat.mul_mod_mul_right 256 n (2 ^ 56)
  have e3:c.toNat % 2 ^ 64=c.toNat:=Nat.mod_eq_of_lt (Nat.lt_trans hc (by decide))
  have hq:n % 2 ^ 56<72057594037927936:=Nat.mod_lt n (by decide)
  have e4:(n*256+c.toNat) % 2 ^ 64=(n % 2 ^ 56)*2 ^ 8+c.toNat:=by
   rw[Nat.add_mod,e2,e3]
   generalize n % 2 ^ 56=q at hq
   exact Nat.mod_eq_of_lt (show q*256+c.toNat<18446744073709551616 by omega)
  rw[e2,e3,e4,Nat.mul_comm]
  exact(Nat.two_pow_add_eq_or_of_lt (by omega) _).symm
 rw[hb,BitVec.toNat_ofNat]
 omega
theorem qlv(st:Int->Int->Int)(hst:∀ (n:Nat) (c:UInt8),st (sg n) (Int.ofNat c.toNat)=sg (n*256+c.toNat)){b:List UInt8}{f:Nat->Int}{o:Nat}:∀ n,n<=b.length->(∀ i,i<n->f (o+i)=b8F b i) ->
  (List.range n).foldl (fun x i=>st x (ops0.cvt .i64 (f (o+i)))) (Int.ofNat 0)=sg (nuL (b.take n))
 | 0,_,_=>by
  rw[List.take_zero]
  show Int.ofNat 0=IntKind.i64.wrap ((0:Nat):Int)
  rfl
 | n+1,hn,h=>by
  rw[List.range_succ,List.foldl_append,qlv st hst n (by omega) (fun i hi=>h i (by omega))]
  simp only[List.foldl_cons,List.foldl_nil]
  rw[h n (by omega)]
  have e:b8F b n=Int.ofNat (b[n]'(by omega)).toNat:=by
   unfold b8F
   rw[List.getD_eq_getElem?_getD,List.getElem?_eq_getElem (by omega)]; rfl
  rw[e,qve,hst,List.take_succ_eq_append_getElem (by omega),qlx]
theorem qr2{b:List UInt8}{o n:Nat}(h:o+n<=b.length):∀ i,i<n->b8F b (o+i)=b8F ((b.drop o).take n) i:=by
 intro i hi
 unfold b8F
 rw[List.getD_eq_getElem?_getD,List.getD_eq_getElem?_getD,List.getElem?_take,if_pos hi,List.getElem?_drop]
theorem qm8{b:List UInt8}{o n:Nat}(h:o+n<=b.length):orP (b8F b) o n=sg (nuL ((b.drop o).take n)):=by
 have hl:((b.drop o).take n).length=n:=by rw[List.length_take,List.length_drop]; omega
 have:=qlv (fun x y=>ops0.bin .or .i64 (ops0.shf .shl .i64 x (Int.ofNat 8)) y) qwt (b:=(b.drop o).take n) (f:=b8F b) (o:=o) n (by omega) (fun i hi=>qr2 h i hi)
 rw[List.take_of_length_le (by omega)] at this
 exact this
theorem qni{b:List UInt8}{o n:Nat}(h:o+n<=b.length):adP (b8F b) o n=sg (nuL ((b.drop o).take n)):=by
 have hl:((b.drop o).take n).length=n:=by rw[List.length_take,List.length_drop]; omega
 have:=qlv (fun x y=>ops0.bin .add .i64 (ops0.bin .mul .i64 x (Int.ofNat 256)) y) qwj (b:=(b.drop o).take n) (f:=b8F b) (o:=o) n (by omega) (fun i hi=>qr2 h i hi)
 rw[List.take_of_length_le (by omega)] at this
 exact this
def sl(b:List UInt8)(o n:Nat):List UInt8:=(b.drop o).take n
def readH(b:List UInt8):Hop:=⟨sg (nuL (sl b 0 2)),sg (nuL (sl b 2 8)),sg (nuL (sl b 10 4)),sl b 14 32,sg (nuL (sl b 46 8)),sl b 54 32,sg (nuL (sl b 86 4)),sl b 90 32⟩
def readN(b:List UInt8):List UInt8:=sl b 122 32
def readZ(b:List UInt8):Bool:=(b.drop 154).any fun c=>c != 0
def qbt(b:List UInt8):Bool := !readZ b && (readH b).may
theorem qbc{b:List UInt8}{o n:Nat}(h:o+n<=b.length):(sl b o n).length=n:=by unfold sl;rw[List.length_take,List.length_drop]; omega
theorem qdl{b:List UInt8}(h:b.length=256):(readH b).L32:=⟨qbc (by omega),qbc (by omega),qbc (by omega)⟩
theorem qk4{b:List UInt8}(h:b.length=256):(readN b).length=32:=qbc (by omega)
theorem qh1{b:List UInt8}{o n:Nat}(h:o+n<=b.length):byF n o (b8F b)=(sl b o n).map by8:=qh0 (qbc h) (qr2 h)
theorem qz6{b:List UInt8}(h:b.length=256):hopP (orP (b8F b)) (b8F b)=hopC (readH b):=by
 unfold hopP
 rw[qm8 (by omega),qm8 (by omega),qm8 (by omega),qm8 (by omega),qm8 (by omega),qh1 (by omega),qh1 (by omega),qh1 (by omega)]
 rfl
theorem q03{b:List UInt8}(h:b.length=256):hopP (adP (b8F b)) (b8F b)=hopC (readH b):=by
 unfold hopP
 rw[qni (by omega),qni (by omega),qni (by omega),qni (by omega),qni (by omega),qh1 (by omega),qh1 (by omega),qh1 (by omega)]
 rfl
theorem qpp{f:Nat->Int}{r s:Prop}{b:List UInt8}:∀ (is:List Nat),(∀ i,i∈is->f i=b8F b i)->(brAny f r s is↔if(is.any fun i=>b.getD i 0 != 0) then r else s)
 | [],_=>by simp[brAny]
 | i::is,h=>by
  have ih:=qpp (f:=f) (r:=r) (s:=s) (b:=b) is (fun j hj=>h j (List.mem_cons_of_mem _ hj))
  have e:ops0.cmp .neq (f i) (Int.ofNat 0)=(b.getD i 0 != 0):=by
   rw[h i (List.mem_cons_self ..)]
   unfold b8F
   rw[nNeq]
   by_cases hz:b.getD i 0=0
   ·rw[hz]; rfl
   ·have:(b.getD i 0).toNat≠0:=fun h=>hz (UInt8.toNat_inj.1 h)
    rw[decide_eq_true this]
    exact(bne_iff_ne.2 hz).symm
  show Br _ r (brAny f r s is)↔_
  rw[e,List.any_cons]
  cases hb:(b.getD i 0 != 0)
  ·rw[br_ff,Bool.false_or]; exact ih
  ·rw[br_tt,Bool.true_or,if_pos rfl]
theorem qu2(b:List UInt8):((List.range b.length).any fun i=>b.getD i 0 != 0)=b.any fun c=>c != 0:=by
 rw[Bool.eq_iff_iff,List.any_eq_true,List.any_eq_true]
 constructor
 ·rintro⟨i,hi,h⟩
  have hi:=List.mem_range.1 hi
  exact⟨b[i],List.getElem_mem hi,by rw[List.getD_eq_getElem?_getD,List.getElem?_eq_getElem hi] at h;exact h⟩
 ·rintro⟨c,hc,h⟩
  obtain⟨i,hi,rfl⟩:=List.mem_iff_getElem.1 hc
  exact⟨i,List.mem_range.2 hi,by rw[List.getD_eq_getElem?_getD,List.getElem?_eq_getElem hi]; exact h⟩
theorem qzv{b:List UInt8}(h:b.length=102)(c:Nat)(e:Bool):CallTo Try.prog 113 [.ros (b.map by8) 0 102 c e,.fn 114 [] []] [] (.bool (b.any fun c=>c != 0)) [] []:=by
 rw[<-qgn h]
 refine qb7 (qa3 _) (qai _) q0c (show tabA 113=some vf113 from rfl) (n:=400) (g:=kdFit) (m:=fun _=>0) [] ?_ (Nat.le_refl 0) rfl (fun b hb=>by simp at hb)
 rw[vc113,qpp (b:=b) _ (fun i _=>rfl),<-h,qu2]
 cases b.any fun c=>c != 0<;>exact⟨rfl,rfl⟩
theorem VLe.sub{pc:List AV}{off len cap:Nat}{e:Bool}(h:off+len<=pc.length):VLe (.ros pc off len cap e) (.ros ((pc.drop off).take len) 0 len cap e):=by
 intro ρ w v hv
 cases hv with
 | ros _ _ _ _ _ B F ao cap' vs hlt hp hl ho hc hr hcap hlen he ha =>
  have hne:((pc.drop off).take len) ≠ []->pc ≠ []:=fun hn h0=>hn (by rw[h0]; simp)
  refine .ros _ 0 len cap e B (F+off) ao cap' ((vs.drop off).take len) (fun hn=>hlt (hne hn)) (fun hn b F' => ?_) (by simp[hl]) (fun v hv=>ho v (List.mem_of_mem_drop (List.mem_of_mem_take hv))) (fun i v hi => ?_) (fun i a v hi hv => ?_) hcap hlen he (fun h0 => ?_)
  ·exact fun hl=>absurd hl (hp (hne hn) b F')
  ·rw[List.getElem?_take] at hi
   split at hi
   ·rw[List.getElem?_drop] at hi
    have:=hc _ v hi
    rw[Nat.add_assoc]
    exact this
   ·cases hi
  ·rw[List.getElem?_take] at hi hv
   split at hi
   ·rename_i h1
    rw[if_pos h1,List.getElem?_drop] at hv
    rw[List.getElem?_drop] at hi
    exact hr _ a v hi hv
   ·cases hi
  ·rw[ha h0,Nat.add_zero]
end
end Go.Proofs.Vm

namespace Go.Proofs.Vm
set_option maxRecDepth 100000
open Go.Vm
noncomputable section
theorem VLe.trans{a b c:AV}(h:VLe a b)(k:VLe b c):VLe a c:=fun ρ w v hv=>k ρ w v (h ρ w v hv)
theorem Vw.le{H:Hl}{x y z:AV}(h:Vw H x y)(k:VLe y z):Vw H x z:=VLe.trans h k
theorem Vw.bytes{H:Hl}{x:AV}{pc:List AV}{off len cap:Nat}{e:Bool}{lb:List UInt8}(hv:vw1 H x = .ros pc off len cap e)(hf:flatL pc)(ho:off+len<=pc.length)(hb:qan pc off len lb):Vw H x (.ros (lb.map by8) 0 len cap e):=by
 have h:=Vw.le (Vw.one hv hf) (VLe.sub ho)
 rw[hb.2] at h
 exact h
def rw0:RW:=⟨fun pc off=>(rdB pc off 102).any fun c=>c != 0,fun hc=>(hopOf hc).may,fun hc ns=>(partL (hopOf hc) (qag ns)).map by8⟩
theorem qkh{h:Hop}(hl:h.L32):rw0.may (hopC h)=h.may:=by
 show(hopOf (hopC h)).may=_
 rw[qkt hl]
theorem qim{h:Hop}(hl:h.L32)(next:List UInt8):rw0.part (hopC h) (next.map by8)=(partL h next).map by8:=by
 show(partL (hopOf (hopC h)) (qag _)).map by8=_
 rw[qkt hl,qab]
theorem vwHop(H:Hl)(h:Hop):Vw H (.agg (hopC h)) (.agg (hopC h)):=Vw.agg H (Still.flat (qcn h))
theorem qxh:CnOK Try.prog (cnR rw0):=by
 intro f vals H p x e hp
 unfold cnR at e
 split at e
 ·rename_i pc off c e2
  cases e
  obtain⟨hf,ho,_,lb,hb⟩:=hp
  have h:=CallTo.lookV (H:=H) (qzv (b:=lb) hb.1 c e2) (.cons (Vw.bytes (x := .ros pc off 102 c e2) rfl hf ho hb) (.cons (Vw.same fun _ _=>rfl) .nil))
  have e1:rw0.any pc off=lb.any fun c=>c != 0:=by
   show(rdB pc off 102).any _=_
   rw[qch hb]
  rw[e1]
  generalize (lb.any fun c=>c != 0)=z at h
  cases z<;>exact h
 ·rename_i hc
  cases e
  obtain⟨h,hl,rfl⟩:=hp
  have h1:=CallTo.lookV (H:=H) (qx7 hl) (.cons (vwHop H h) .nil)
  rw[qkh hl]
  generalize h.may=z at h1
  cases z<;>exact h1
 ·rename_i hc
  cases e
  obtain⟨h,hl,rfl⟩:=hp
  have h1:=CallTo.lookV (H:=H) (qx0 hl) (.cons (vwHop H h) .nil)
  rw[qkh hl]
  generalize h.may=z at h1
  cases z<;>exact h1
 ·rename_i hc ns
  cases e
  obtain⟨⟨h,hl,hpos,rfl⟩,⟨n,hn,rfl⟩⟩:=hp
  rw[qim hl]
  exact CallTo.lookS (qxq hl hpos hn) (qac _) (.cons (vwHop H h) (.cons (vwA H n) .nil))
 ·cases e
theorem qpn(n x:Nat):hiL (n+1) x=hiL n (x / 256) ++ [UInt8.ofNat x]:=by
 unfold hiL
 rw[List.range_succ,List.map_append]
 congr 1
 ·apply List.map_congr_left
  intro i hi
  have hi:=List.mem_range.1 hi
  rw[Nat.div_div_eq_div_mul,show 8*(n+1 - 1 - i)=8+8*(n - 1 - i) by omega,Nat.pow_add]
 ·simp
theorem qsg:∀ (n:Nat) (b:List UInt8),b.length=n->hiL n (nuL b)=b
 | 0,b,h=>by
  have:b = []:=List.eq_nil_of_length_eq_zero h
  subst this;rfl
 | n+1,b,h=>by
  have hb:b ≠ []:=fun h0=>by rw[h0] at h;simp at h
  have e:=List.dropLast_concat_getLast hb
  rw[qpn]
  have hl:b.dropLast.length=n:=by rw[List.length_dropLast]; omega
  have hc:=(b.getLast hb).toNat_lt
  have e2:nuL b=nuL b.dropLast*256+(b.getLast hb).toNat:=by rw[<-qlx,e]
  have e3:nuL b / 256=nuL b.dropLast:=by omega
  have e4:UInt8.ofNat (nuL b)=b.getLast hb:=by
   apply UInt8.toNat_inj.1
   rw[UInt8.toNat_ofNat']
   omega
  rw[e3,e4,qsg n _ hl,e]
theorem qqr{n:Nat}(h:n<9223372036854775808):sg n=(n:Int):=by
 show IntKind.i64.wrap (n:Int)=_
 exact qcv (by omega) (by omega)
theorem sg_nn{n:Nat}(h:n<18446744073709551616)(h0:0<=sg n):(sg n).toNat=n:=by
 by_cases hs:n<9223372036854775808
 ·rw[qqr hs]; omega
 ·exfalso
  have h1:sg n=(n:Int) - 18446744073709551616:=by
   show IntKind.i64.wrap (n:Int)=_
   simp[IntKind.wrap,IntKind.bits,IntKind.signed]
   omega
  omega
theorem qe8(b:List UInt8)(o n:Nat):b.drop o=sl b o n++b.drop (o+n):=by
 unfold sl
 rw[<-List.drop_drop,List.take_append_drop]
theorem qfh{b:List UInt8}{o n:Nat}(h:o+n<=b.length)(hn:n<=8)(h0:0<=sg (nuL (sl b o n))):hiL n (sg (nuL (sl b o n))).toNat=sl b o n:=by
 have hl:=qbc h
 have h1:=q4o (sl b o n)
 rw[hl] at h1
 have h2:256 ^ n<=256 ^ 8:=Nat.pow_le_pow_right (by decide) hn
 have h3:(256:Nat) ^ 8=18446744073709551616:=rfl
 rw[sg_nn (by omega) h0,qsg n _ hl]
theorem qut{l:List UInt8}{n:Nat}(hl:l.length=n):(l.any fun c=>c != 0)=false↔l=List.replicate n 0:=by
 constructor
 ·intro h
  rw[List.eq_replicate_iff]
  refine⟨hl,fun b hb => ?_⟩
  have:=List.any_eq_false.1 h b hb
  simpa using this
 ·rintro rfl
  rw[List.any_eq_false]
  intro b hb
  rw[(List.mem_replicate.1 hb).2]
  simp
theorem qng{b:List UInt8}(hb:b.length=256)(hm:(readH b).may=true):(partL (readH b) (readN b)=b)↔readZ b=false:=by
 obtain⟨p1,p2,p3,p4,p5⟩:=Hop.may_pos hm
 have e:b=sl b 0 2++(sl b 2 8++(sl b 10 4++(sl b 14 32++(sl b 46 8++(sl b 54 32++(sl b 86 4++(sl b 90 32++(sl b 122 32++b.drop 154)))))))):=by
  have h0:b=b.drop 0:=rfl
  rw[<-qe8 b 122 32,<-qe8 b 90 32,<-qe8 b 86 4,<-qe8 b 54 32,<-qe8 b 46 8,<-qe8 b 14 32,<-qe8 b 10 4,<-qe8 b 2 8,<-qe8 b 0 2]
  rfl
 have e2:partL (readH b) (readN b)=sl b 0 2++(sl b 2 8++(sl b 10 4++(sl b 14 32++(sl b 46 8++(sl b 54 32++(sl b 86 4++(sl b 90 32++(sl b 122 32++List.replicate 102 0)))))))):=by
  unfold partL
  rw[show hiL 2 (readH b).ch.toNat=sl b 0 2 from qfh (by omega) (by omega) p1,show hiL 8 (readH b).am.toNat=sl b 2 8 from qfh (by omega) (by omega) p2,show hiL 4 (readH b).ex.toNat=sl b 10 4 from qfh (by omega) (by omega) p3,
   show hiL 8 (readH b).tot.toNat=sl b 46 8 from qfh (by omega) (by omega) p4,show hiL 4 (readH b).idx.toNat=sl b 86 4 from qfh (by omega) (by omega) p5]
  rfl
 have hz:(b.drop 154).length=102:=by rw[List.length_drop]; omega
 rw[e2]
 generalize b.drop 154=z at e hz
 have hz2:readZ b=z.any fun c=>c != 0:=by
  have:b.drop 154=z:=by
   have h1:(sl b 0 2++(sl b 2 8++(sl b 10 4++(sl b 14 32++(sl b 46 8++(sl b 54 32++(sl b 86 4++(sl b 90 32++sl b 122 32))))))))++z=b.take 154++b.drop 154:=by
    rw[List.take_append_drop]
    simp only[List.append_assoc]
    exact e.symm
   exact(List.append_inj_right' h1 (by rw[List.length_drop]; omega)).symm
  unfold readZ
  rw[this]
 have key:∀ (r:List UInt8),sl b 0 2++(sl b 2 8++(sl b 10 4++(sl b 14 32++(sl b 46 8++(sl b 54 32++(sl b 86 4++(sl b 90 32++(sl b 122 32++r))))))))=b↔r=z:=by
  intro r
  constructor
  ·intro h
   have h2:=h.trans e
   generalize sl b 0 2=a1,sl b 2 8=a2,sl b 10 4=a3,sl b 14 32=a4,sl b 46 8=a5,sl b 54 32=a6,sl b 86 4=a7,sl b 90 32=a8,sl b 122 32=a9 at h2
   exact List.append_cancel_left (List.append_cancel_left (List.append_cancel_left (List.append_cancel_left (List.append_cancel_left (List.append_cancel_left (List.append_cancel_left (List.append_cancel_left (List.append_cancel_left h2))))))))
  ·rintro rfl
   exact e.symm
 rw[hz2,key,qut hz]
 exact⟨Eq.symm,Eq.symm⟩
def rdRes(b:List UInt8):AV:=if qbt b then .tup [.agg (hopC (readH b)),.agg ((readN b).map by8),.bool true] else noHop
theorem qqi(h:Hop)(n:List UInt8)(z:Bool):cutV 0 (.tup [.agg (hopC h),.agg (n.map by8),.bool z]) = .tup [.agg (hopC h),.agg (n.map by8),.bool z]:=by
 unfold cutV
 simp only[ren,renL,qaa (qcn h),qaa (qac n)]
theorem qts(b:List UInt8):cutV 0 (rdRes b)=rdRes b:=by
 unfold rdRes
 split
 ·exact qqi _ _ _
 ·exact qqi _ _ _
theorem q2z{b:List UInt8}(hb:b.length=256):CallTo Try.prog 97 [.ros (b.map by8) 0 256 256 false] [] (rdRes b) [] []:=by
 refine qb7 qxh (qai _) qu3 (show tabR 97=some vf97 from rfl) (n:=600) (g:=kdFit) (m:=fun _=>0) [] ?_ (Nat.le_refl 0) (qts b) (fun b hb=>by simp at hb)
 rw[<-qgn hb,vc97,qz6 hb,qgn hb,qh1 (by omega),qkh (qdl hb)]
 have hz:qan (b.map by8) 154 102 (b.drop 154):=⟨by rw[List.length_drop]; omega,by rw[<-List.map_drop,List.take_of_length_le (by rw[List.length_map,List.length_drop]; omega)]⟩
 have ha:rw0.any (b.map by8) 154=readZ b:=by
  show(rdB (b.map by8) 154 102).any _=_
  rw[qch hz]
  rfl
 rw[ha]
 refine⟨⟨qac _,by rw[List.length_map]; omega,by omega,_,hz⟩,Br.mk (fun h => ?_) (fun h=>⟨⟨_,qdl hb,rfl⟩,Br.mk (fun hm => ?_) (fun hm => ?_)⟩)⟩
 ·unfold rdRes qbt
  rw[h]
  exact⟨rfl,rfl⟩
 ·unfold rdRes qbt
  rw[h,hm]
  exact⟨rfl,rfl⟩
 ·unfold rdRes qbt
  rw[h,hm]
  exact⟨rfl,rfl⟩
theorem qy1{b:List UInt8}(hb:b.length=256):CallTo Try.prog 100 [.ros (b.map by8) 0 256 256 false] [] (rdRes b) [] []:=by
 refine qb7 qxh (qai _) qu3 (show tabR 100=some vf100 from rfl) (n:=600) (g:=kdFit) (m:=fun _=>0) [] ?_ (Nat.le_refl 0) (qts b) (fun b hb=>by simp at hb)
 rw[<-qgn hb,vc100,q03 hb,qgn hb,qh1 (by omega),qkh (qdl hb),qim (qdl hb)]
 have hpl:(partL (readH b) (sl b 122 32)).length=256:=qbb (qdl hb) (qbc (by omega))
 refine⟨⟨_,qdl hb,rfl⟩,Br.mk (fun hm=>⟨⟨⟨_,qdl hb,Hop.may_pos hm,rfl⟩,⟨_,qbc (by omega),rfl⟩⟩,Chk.mk (by rw[nLe,nLen,List.length_map,hpl]; rfl) ?_⟩) (fun hm => ?_)⟩
 ·rw[nExt,List.drop_zero,List.take_of_length_le (by rw[List.length_map,hpl]; omega)]
  refine⟨partL (readH b) (sl b 122 32),List.map_congr_left (fun b _=>rfl),b,List.map_congr_left (fun b _=>rfl),?_⟩
  rw[nEqs]
  have hpr:=qng hb hm
  refine Br.mk (fun h => ?_) (fun h => ?_)
  ·have h:=hpr.1 (of_decide_eq_true h)
   unfold rdRes qbt
   rw[h,hm]
   exact⟨rfl,rfl⟩
  ·have h:readZ b=true:=by
    have h2:¬ (partL (readH b) (sl b 122 32)=b):=of_decide_eq_false h
    cases hr:readZ b with
    | true=>rfl
    | false=>exact absurd (hpr.2 hr) h2
   unfold rdRes qbt
   rw[h]
   exact⟨rfl,rfl⟩
 ·unfold rdRes qbt
  rw[hm,Bool.and_false]
  exact⟨rfl,rfl⟩
end
end Go.Proofs.Vm

namespace Go.Proofs.Vm
set_option maxRecDepth 100000
open Go.Vm
noncomputable section
def tabB(f:Nat):Option VF:=match f with
 | 98=>some vf98
 | _=>none
structure OZ where
 keys:List AV->List AV->Nat->Nat->List AV
 ok:List AV->Nat->Bool
 hop:List AV->Nat->List AV
 nxt:List AV->Nat->List AV
 may:List AV->Bool
 part:List AV->List AV->List AV
 cut:List AV->Nat->List AV
def cnO2(Z:OZ)(O:OY)(F:HF):CnF:=cnOr (fun f vals H=>match f,vals with
 | 65,[x,.agg ns]=>match vw1 H x with
  | .ros cs o n _ _=>some (P65 cs o n ns/\1<=n,.ok (.slc (size H) 0 n n 32) (join H [.cells (Z.keys ns cs o n)]) [])
  | _=>none
 | 91,[x,.agg ns]=>match vw1 H x with
  | .ros cs o n _ _=>some (P65 cs o n ns/\1<=n,.ok (.slc (size H) 0 n n 32) (join H [.cells (Z.keys ns cs o n)]) [])
  | _=>none
 | 97,[x]=>match vw1 H x with
  | .ros pc off 256 c _=>some (PB pc off 256/\256<=c,.cond (Z.ok pc off) (.ok (.tup [.agg (Z.hop pc off),.agg (Z.nxt pc off),.bool true]) H []) (.ok noHop H []))
  | _=>none
 | 100,[x]=>match vw1 H x with
  | .ros pc off 256 c _=>some (PB pc off 256/\256<=c,.cond (Z.ok pc off) (.ok (.tup [.agg (Z.hop pc off),.agg (Z.nxt pc off),.bool true]) H []) (.ok noHop H []))
  | _=>none
 | 98,[x]=>match vw1 H x with
  | .ros pc off 32 c _=>some (PB pc off 32,.ok (.agg (Z.cut pc off)) H [])
  | _=>none
 | 83,[.agg hc]=>some (PHop hc,.cond (Z.may hc) (.ok (.bool true) H []) (.ok (.bool false) H []))
 | 90,[.agg hc]=>some (PHop hc,.cond (Z.may hc) (.ok (.bool true) H []) (.ok (.bool false) H []))
 | 87,[.agg hc,.agg ns]=>some (PHp hc/\PKey ns,.ok (.slc (size H) 0 256 256 1) (join H [.cells (Z.part hc ns)]) [])
 | 92,[.agg hc,.agg ns]=>some (PHp hc/\PKey ns,.ok (.slc (size H) 0 256 256 1) (join H [.cells (Z.part hc ns)]) [])
 | _,_=>none) (cnO1 O F)
theorem vc98(f:Nat->Int)(c:Nat)(e:Bool)(Q:AV->Hl->Prop):(vcall (vcA kdFit noCn noLn) ops0 tabB 200 vf98 [.ros (byF 32 0 f) 0 32 c e] [] (endN (fun _=>0) Q))=Q (.agg (byF 32 0 f)) []:=by kernel_rfl
theorem qy9:∀ f vf,tabB f=some vf->FnOK Try.prog f vf:=by
 intro f vf h
 unfold tabB at h
 split at h<;>cases h
 exact ok98
theorem q2d{b:List UInt8}(hb:b.length=32)(c:Nat)(e:Bool):CallTo Try.prog 98 [.ros (b.map by8) 0 32 c e] [] (.agg (b.map by8)) [] []:=by
 refine qb7 (qa3 _) (qai _) qy9 (show tabB 98=some vf98 from rfl) (n:=200) (g:=kdFit) (m:=fun _=>0) [] ?_ (Nat.le_refl 0) flat0 (fun b hb=>by simp at hb)
 rw[<-qgn hb,vc98]
 exact⟨rfl,rfl⟩
theorem VLe.cap{cs:List AV}{o n c c':Nat}{e:Bool}(h:c'<=c):VLe (.ros cs o n c e) (.ros cs o n c' false):=by
 intro ρ w v hv
 cases hv with
 | ros _ _ _ _ _ B F ao cap' vs hlt hp hl ho hc hr hcap hlen he ha =>
  exact .ros cs o n c' false B F ao cap' vs hlt hp hl ho hc hr (by omega) hlen (fun h=>by cases h) ha
def oz0:OZ where
 keys ns cs o n:=(keysL (shA cs o n) (qag ns) n).flatten.map by8
 ok pc off:=qbt (rdB pc off 256)
 hop pc off:=hopC (readH (rdB pc off 256))
 nxt pc off:=(readN (rdB pc off 256)).map by8
 may:=rw0.may
 part:=rw0.part
 cut pc off:=(rdB pc off 32).map by8
theorem qrz(H:Hl)(h:Hop)(n:List UInt8)(z:Bool):backV [] H.length (.tup [.agg (hopC h),.agg (n.map by8),.bool z]) = .tup [.agg (hopC h),.agg (n.map by8),.bool z]:=by
 unfold backV
 simp only[ren,renL,qaa (qcn h),qaa (qac n)]
theorem qs2{f:Nat}{b:List UInt8}(hc:CallTo Try.prog f [.ros (b.map by8) 0 256 256 false] [] (rdRes b) [] []){H:Hl}{x:AV}(hv:Vws H [x] [.ros (b.map by8) 0 256 256 false]) :
  CallTo Try.prog f [x] H (CRes.cond (qbt b) (.ok (.tup [.agg (hopC (readH b)),.agg ((readN b).map by8),.bool true]) H []) (.ok noHop H [])).fin.1 H []:=by
 have h:=CallTo.lookV (H:=H) hc hv
 unfold rdRes at h
 cases hr:qbt b with
 | true =>
  rw[hr,if_pos rfl,qrz] at h
  exact h
 | false =>
  rw[hr,if_neg (by simp)] at h
  unfold noHop at h
  rw[qrz] at h
  exact h
theorem qbf:CnOK Try.prog (cnO2 oz0 of1 hf0):=by
 refine qfl ?_ qd8
 intro f vals H p x e hp
 dsimp only at e
 split at e
 ·rename_i y ns
  split at e<;>cases e
  rename_i cs o n c ex hv
  obtain⟨⟨hP,hn,nn,hnn,rfl⟩,h1⟩:=hp
  have hP0:=hP
  obtain⟨hcs,ho,_,L,hL⟩:=hP
  have h:=CallTo.lookS (q3s c ex hP0 hL h1 hn hnn) (qac _) (.cons (Vw.one hv hcs) (.cons (vwA H nn) .nil))
  show CallTo _ _ _ _ _ (join H [.cells ((keysL (shA cs o n) (qag (nn.map by8)) n).flatten.map by8)]) _
  rw[qab,qcr hL]
  exact h
 ·rename_i y ns
  split at e<;>cases e
  rename_i cs o n c ex hv
  obtain⟨⟨hP,hn,nn,hnn,rfl⟩,h1⟩:=hp
  have hP0:=hP
  obtain⟨hcs,ho,_,L,hL⟩:=hP
  have h:=CallTo.lookS (q34 c ex hP0 hL h1 hn hnn) (qac _) (.cons (Vw.one hv hcs) (.cons (vwA H nn) .nil))
  show CallTo _ _ _ _ _ (join H [.cells ((keysL (shA cs o n) (qag (nn.map by8)) n).flatten.map by8)]) _
  rw[qab,qcr hL]
  exact h
 ·rename_i y
  split at e<;>cases e
  rename_i pc off c ex hv
  obtain⟨⟨hf,ho,_,lb,hb⟩,hc⟩:=hp
  have h:=qs2 (q2z (b:=lb) hb.1) (.cons (Vw.le (Vw.bytes hv hf ho hb) (VLe.cap hc)) .nil)
  show CallTo _ _ _ _ (CRes.cond (qbt (rdB pc off 256)) (.ok (.tup [.agg (hopC (readH (rdB pc off 256))),.agg ((readN (rdB pc off 256)).map by8),.bool true]) H []) (.ok noHop H [])).fin.1
   (CRes.cond (qbt (rdB pc off 256)) (.ok (.tup [.agg (hopC (readH (rdB pc off 256))),.agg ((readN (rdB pc off 256)).map by8),.bool true]) H []) (.ok noHop H [])).fin.2.1 (CRes.cond (qbt (rdB pc off 256)) (.ok (.tup [.agg (hopC (readH (rdB pc off 256))),.agg ((readN (rdB pc off 256)).map by8),.bool true]) H []) (.ok noHop H [])).fin.2.2
  rw[qch hb]
  cases hr:qbt lb with
  | true=>rw[hr] at h;exact h
  | false=>rw[hr] at h;exact h
 ·rename_i y
  split at e<;>cases e
  rename_i pc off c ex hv
  obtain⟨⟨hf,ho,_,lb,hb⟩,hc⟩:=hp
  have h:=qs2 (qy1 (b:=lb) hb.1) (.cons (Vw.le (Vw.bytes hv hf ho hb) (VLe.cap hc)) .nil)
  show CallTo _ _ _ _ (CRes.cond (qbt (rdB pc off 256)) (.ok (.tup [.agg (hopC (readH (rdB pc off 256))),.agg ((readN (rdB pc off 256)).map by8),.bool true]) H []) (.ok noHop H [])).fin.1
   (CRes.cond (qbt (rdB pc off 256)) (.ok (.tup [.agg (hopC (readH (rdB pc off 256))),.agg ((readN (rdB pc off 256)).map by8),.bool true]) H []) (.ok noHop H [])).fin.2.1 (CRes.cond (qbt (rdB pc off 256)) (.ok (.tup [.agg (hopC (readH (rdB pc off 256))),.agg ((readN (rdB pc off 256)).map by8),.bool true]) H []) (.ok noHop H [])).fin.2.2
  rw[qch hb]
  cases hr:qbt lb with
  | true=>rw[hr] at h;exact h
  | false=>rw[hr] at h;exact h
 ·rename_i y
  split at e<;>cases e
  rename_i pc off c ex hv
  obtain⟨hf,ho,_,lb,hb⟩:=hp
  have h:=CallTo.lookV (H:=H) (q2d (b:=lb) hb.1 c ex) (.cons (Vw.bytes hv hf ho hb) .nil)
  rw[qbo (qac _)] at h
  show CallTo _ _ _ _ (.agg ((rdB pc off 32).map by8)) _ _
  rw[qch hb]
  exact h
 ·rename_i hc
  cases e
  obtain⟨h,hl,rfl⟩:=hp
  have h1:=CallTo.lookV (H:=H) (qx7 hl) (.cons (vwHop H h) .nil)
  show CallTo _ _ _ _ (CRes.cond (rw0.may (hopC h)) (.ok (.bool true) H []) (.ok (.bool false) H [])).fin.1 (CRes.cond (rw0.may (hopC h)) (.ok (.bool true) H []) (.ok (.bool false) H [])).fin.2.1 (CRes.cond (rw0.may (hopC h)) (.ok (.bool true) H []) (.ok (.bool false) H [])).fin.2.2
  rw[qkh hl]
  generalize h.may=z at h1
  cases z<;>exact h1
 ·rename_i hc
  cases e
  obtain⟨h,hl,rfl⟩:=hp
  have h1:=CallTo.lookV (H:=H) (qx0 hl) (.cons (vwHop H h) .nil)
  show CallTo _ _ _ _ (CRes.cond (rw0.may (hopC h)) (.ok (.bool true) H []) (.ok (.bool false) H [])).fin.1 (CRes.cond (rw0.may (hopC h)) (.ok (.bool true) H []) (.ok (.bool false) H [])).fin.2.1 (CRes.cond (rw0.may (hopC h)) (.ok (.bool true) H []) (.ok (.bool false) H [])).fin.2.2
  rw[qkh hl]
  generalize h.may=z at h1
  cases z<;>exact h1
 ·rename_i hc ns
  cases e
  obtain⟨⟨h,hl,hpos,rfl⟩,⟨n,hn,rfl⟩⟩:=hp
  show CallTo _ _ _ _ _ (join H [.cells (rw0.part (hopC h) (n.map by8))]) _
  rw[qim hl]
  exact CallTo.lookS (q3e hl hpos hn) (qac _) (.cons (vwHop H h) (.cons (vwA H n) .nil))
 ·rename_i hc ns
  cases e
  obtain⟨⟨h,hl,hpos,rfl⟩,⟨n,hn,rfl⟩⟩:=hp
  show CallTo _ _ _ _ _ (join H [.cells (rw0.part (hopC h) (n.map by8))]) _
  rw[qim hl]
  exact CallTo.lookS (qxq hl hpos hn) (qac _) (.cons (vwHop H h) (.cons (vwA H n) .nil))
 ·cases e
end
end Go.Proofs.Vm

namespace Go.Proofs.Vm
set_option maxRecDepth 100000
open Go.Vm
noncomputable section
def hopZ:List AV:=hopC hop0
def tabL(f:Nat):Option VF:=match f with
 | 63=>some vf63
 | 64=>some vf64
 | 86=>some vf86
 | 89=>some vf89
 | 96=>some vf96
 | 110=>some vf110
 | _=>none
def endPl(R:AV->Prop)(Q:Nat->Nat->Nat->Nat->List AV->List AV->Prop):AV->Hl->List Nat->Prop:=fun r H _=>match r with
 | .tup [.agg hc,.slc b o n c sz,.int .i64 0]=>match nth H b with
  | some (.cells cs)=>flatL cs/\flatL hc/\Q o n c sz cs hc
  | _=>False
 | r=>R r
theorem vc63n(ks pk hs:List AV)(o n c:Nat)(e:Bool)(Q:AV->Hl->Prop) :
  (vcall (vcA kdYes noCn noLn) ops0 tabL 400 vf63 [.agg ks,.ros pk o n c e,.agg hs] [] (endN (fun _=>0) Q)) =
 ((Br (ops0.cmp .neq (ops0.ofn n) (Int.ofNat 2112))
 (Q (.tup [(.agg hopZ),.nils,(.int .i64 (.ofNat 10))]) [])
 (Chk (ops0.le 32 n)
 (Chk (ops0.le (ops0.add o 32) (ops0.len pk))
 (Chk (ops0.inb (Int.ofNat 64) n)
 (Chk (ops0.eq (ops0.len (ops0.ext pk o 32)) 32)
 (Chk (ops0.le 32 (ops0.len ks))
 (Chk (ops0.le 32 (ops0.len (ops0.spl (z8 32) 0 (ops0.ext pk o 32))))
 False)))))))):=by kernel_rfl
theorem vc64n(ks pk hs:List AV)(o n c:Nat)(e:Bool)(Q:AV->Hl->Prop) :
  (vcall (vcA kdYes noCn noLn) ops0 tabL 400 vf64 [.agg ks,.ros pk o n c e,.agg hs] [] (endN (fun _=>0) Q)) =
 ((Br (ops0.cmp .neq (ops0.ofn n) (Int.ofNat 2112))
 (Q (.tup [(.agg hopZ),.nils,(.int .i64 (.ofNat 10))]) [])
 (Chk (ops0.inb (Int.ofNat 32) c)
 False))):=by kernel_rfl
theorem vc63(Z:OZ)(O:OY)(F:HF)(ks pk hs:List AV)(R:AV->Prop)(Q:Nat->Nat->Nat->Nat->List AV->List AV->Prop) :
  (vcall (vcA kdS (cnO2 Z O F) noLn) ops0 tabL 400 vf63 [.agg ks,.ros pk 0 2112 2112 false,.agg hs] [] (endPl R Q)) =
 ((Chk (ops0.le 32 (ops0.len pk))
 (Chk (ops0.eq (ops0.len (ops0.ext pk 0 32)) 32)
 (Chk (ops0.le 32 (ops0.len ks))
 (Chk (ops0.le 32 (ops0.len (ops0.spl (z8 32) 0 (ops0.ext pk 0 32))))
 (((PKey (ops0.ext ks 0 32)) /\
 (PKey (ops0.ext (ops0.spl (z8 32) 0 (ops0.ext pk 0 32)) 0 32))) /\
 (Chk (ops0.eq (ops0.len (OY.att O (ops0.ext ks 0 32) (ops0.ext (ops0.spl (z8 32) 0 (ops0.ext pk 0 32)) 0 32))) 32)
 (Chk (ops0.le 32 (ops0.len (ops0.spl (z8 32) 0 (OY.att O (ops0.ext ks 0 32) (ops0.ext (ops0.spl (z8 32) 0 (ops0.ext pk 0 32)) 0 32)))))
 (Chk (ops0.le 32 (ops0.len hs))
 (((PKey (ops0.ext (ops0.spl (z8 32) 0 (OY.att O (ops0.ext ks 0 32) (ops0.ext (ops0.spl (z8 32) 0 (ops0.ext pk 0 32)) 0 32))) 0 32)) /\
 ((PKey (ops0.ext hs 0 32)) /\
 (PBd pk 64 2048))) /\
 (Chk (ops0.eq (ops0.len (OY.btg O (ops0.ext (ops0.spl (z8 32) 0 (OY.att O (ops0.ext ks 0 32) (ops0.ext (ops0.spl (z8 32) 0 (ops0.ext pk 0 32)) 0 32))) 0 32) (rdB pk 64 2048) (ops0.ext hs 0 32))) 32)
 (Chk (ops0.le 32 (ops0.len (ops0.spl (z8 32) 0 (OY.btg O (ops0.ext (ops0.spl (z8 32) 0 (OY.att O (ops0.ext ks 0 32) (ops0.ext (ops0.spl (z8 32) 0 (ops0.ext pk 0 32)) 0 32))) 0 32) (rdB pk 64 2048) (ops0.ext hs 0 32)))))
 (((PB (ops0.spl (z8 32) 0 (OY.btg O (ops0.ext (ops0.spl (z8 32) 0 (OY.att O (ops0.ext ks 0 32) (ops0.ext (ops0.spl (z8 32) 0 (ops0.ext pk 0 32)) 0 32))) 0 32) (rdB pk 64 2048) (ops0.ext hs 0 32))) 0 32) /\
 (PB pk 32 32)) /\
 (Br (HF.eq F (rdB (ops0.spl (z8 32) 0 (OY.btg O (ops0.ext (ops0.spl (z8 32) 0 (OY.att O (ops0.ext ks 0 32) (ops0.ext (ops0.spl (z8 32) 0 (ops0.ext pk 0 32)) 0 32))) 0 32) (rdB pk 64 2048) (ops0.ext hs 0 32))) 0 32) (rdB pk 32 32))
 (Chk (ops0.le 32 (ops0.len (ops0.spl (z8 32) 0 (OY.att O (ops0.ext ks 0 32) (ops0.ext (ops0.spl (z8 32) 0 (ops0.ext pk 0 32)) 0 32)))))
 (Chk (ops0.le 2112 (ops0.len pk))
 (Chk (ops0.le 2048 (ops0.len (ops0.app [] (ops0.ext pk 64 2048))))
 (Chk (ops0.le 32 (ops0.len (ops0.ext (ops0.spl (z8 32) 0 (OY.att O (ops0.ext ks 0 32) (ops0.ext (ops0.spl (z8 32) 0 (ops0.ext pk 0 32)) 0 32))) 0 32)))
 (((PKey (ops0.ext (ops0.ext (ops0.spl (z8 32) 0 (OY.att O (ops0.ext ks 0 32) (ops0.ext (ops0.spl (z8 32) 0 (ops0.ext pk 0 32)) 0 32))) 0 32) 0 32)) /\
 (PB (ops0.app (ops0.ext (ops0.app [] (ops0.ext pk 64 2048)) 0 2048) (z8 256)) 0 2304)) /\
 (((PB (HF.mask F (ops0.ext (ops0.ext (ops0.spl (z8 32) 0 (OY.att O (ops0.ext ks 0 32) (ops0.ext (ops0.spl (z8 32) 0 (ops0.ext pk 0 32)) 0 32))) 0 32) 0 32) [98,111,100,121] (rdB (ops0.app (ops0.ext (ops0.app [] (ops0.ext pk 64 2048)) 0 2048) (z8 256)) 0 2304)) 0 256) /\
 (256<=2304)) /\
 (Br (OZ.ok Z (HF.mask F (ops0.ext (ops0.ext (ops0.spl (z8 32) 0 (OY.att O (ops0.ext ks 0 32) (ops0.ext (ops0.spl (z8 32) 0 (ops0.ext pk 0 32)) 0 32))) 0 32) 0 32) [98,111,100,121] (rdB (ops0.app (ops0.ext (ops0.app [] (ops0.ext pk 64 2048)) 0 2048) (z8 256)) 0 2304)) 0)
 (Chk (ops0.eq (ops0.len (OZ.hop Z (HF.mask F (ops0.ext (ops0.ext (ops0.spl (z8 32) 0 (OY.att O (ops0.ext ks 0 32) (ops0.ext (ops0.spl (z8 32) 0 (ops0.ext pk 0 32)) 0 32))) 0 32) 0 32) [98,111,100,121] (rdB (ops0.app (ops0.ext (ops0.app [] (ops0.ext pk 64 2048)) 0 2048) (z8 256)) 0 2304)) 0)) 101)
 (Chk (ops0.eq (ops0.len (OZ.nxt Z (HF.mask F (ops0.ext (ops0.ext (ops0.spl (z8 32) 0 (OY.att O (ops0.ext ks 0 32) (ops0.ext (ops0.spl (z8 32) 0 (ops0.ext pk 0 32)) 0 32))) 0 32) 0 32) [98,111,100,121] (rdB (ops0.app (ops0.ext (ops0.app [] (ops0.ext pk 64 2048)) 0 2048) (z8 256)) 0 2304)) 0)) 32)
 (∃ n:Int,((Nth (ops0.spl hopZ 0 (OZ.hop Z (HF.mask F (ops0.ext (ops0.ext (ops0.spl (z8 32) 0 (OY.att O (ops0.ext ks 0 32) (ops0.ext (ops0.spl (z8 32) 0 (ops0.ext pk 0 32)) 0 32))) 0 32) 0 32) [98,111,100,121] (rdB (ops0.app (ops0.ext (ops0.app [] (ops0.ext pk 64 2048)) 0 2048) (z8 256)) 0 2304)) 0)) 0 (.int .i64 n)) /\
 (Br (ops0.cmp .eql n (Int.ofNat 0))
 (Chk (ops0.le 101 (ops0.len (ops0.spl hopZ 0 (OZ.hop Z (HF.mask F (ops0.ext (ops0.ext (ops0.spl (z8 32) 0 (OY.att O (ops0.ext ks 0 32) (ops0.ext (ops0.spl (z8 32) 0 (ops0.ext pk 0 32)) 0 32))) 0 32) 0 32) [98,111,100,121] (rdB (ops0.app (ops0.ext (ops0.app [] (ops0.ext pk 64 2048)) 0 2048) (z8 256)) 0 2304)) 0))))
 (Chk (ops0.eq (ops0.len (ops0.ext (ops0.spl hopZ 0 (OZ.hop Z (HF.mask F (ops0.ext (ops0.ext (ops0.spl (z8 32) 0 (OY.att O (ops0.ext ks 0 32) (ops0.ext (ops0.spl (z8 32) 0 (ops0.ext pk 0 32)) 0 32))) 0 32) 0 32) [98,111,100,121] (rdB (ops0.app (ops0.ext (ops0.app [] (ops0.ext pk 64 2048)) 0 2048) (z8 256)) 0 2304)) 0)) 0 101)) 101)
 (Chk (ops0.le 101 (ops0.len (ops0.spl hopZ 0 (ops0.ext (ops0.spl hopZ 0 (OZ.hop Z (HF.mask F (ops0.ext (ops0.ext (ops0.spl (z8 32) 0 (OY.att O (ops0.ext ks 0 32) (ops0.ext (ops0.spl (z8 32) 0 (ops0.ext pk 0 32)) 0 32))) 0 32) 0 32) [98,111,100,121] (rdB (ops0.app (ops0.ext (ops0.app [] (ops0.ext pk 64 2048)) 0 2048) (z8 256)) 0 2304)) 0)) 0 101))))
 (R (.tup [(.agg (ops0.ext (ops0.spl hopZ 0 (ops0.ext (ops0.spl hopZ 0 (OZ.hop Z (HF.mask F (ops0.ext (ops0.ext (ops0.spl (z8 32) 0 (OY.att O (ops0.ext ks 0 32) (ops0.ext (ops0.spl (z8 32) 0 (ops0.ext pk 0 32)) 0 32))) 0 32) 0 32) [98,111,100,121] (rdB (ops0.app (ops0.ext (ops0.app [] (ops0.ext pk 64 2048)) 0 2048) (z8 256)) 0 2304)) 0)) 0 101)) 0 101)),.nils,(.int .i64 (.ofNat 0))])))))
 (Chk (ops0.le 101 (ops0.len (ops0.spl hopZ 0 (OZ.hop Z (HF.mask F (ops0.ext (ops0.ext (ops0.spl (z8 32) 0 (OY.att O (ops0.ext ks 0 32) (ops0.ext (ops0.spl (z8 32) 0 (ops0.ext pk 0 32)) 0 32))) 0 32) 0 32) [98,111,100,121] (rdB (ops0.app (ops0.ext (ops0.app [] (ops0.ext pk 64 2048)) 0 2048) (z8 256)) 0 2304)) 0))))
 (Chk (ops0.le 32 (ops0.len (ops0.spl (z8 32) 0 (ops0.ext pk 0 32))))
 ((PKey (ops0.ext (ops0.spl (z8 32) 0 (ops0.ext pk 0 32)) 0 32)) /\
 (Chk (ops0.le 32 (ops0.len (ops0.spl (z8 32) 0 (OZ.nxt Z (HF.mask F (ops0.ext (ops0.ext (ops0.spl (z8 32) 0 (OY.att O (ops0.ext ks 0 32) (ops0.ext (ops0.spl (z8 32) 0 (ops0.ext pk 0 32)) 0 32))) 0 32) 0 32) [98,111,100,121] (rdB (ops0.app (ops0.ext (ops0.app [] (ops0.ext pk 64 2048)) 0 2048) (z8 256)) 0 2304)) 0))))
 (Chk (ops0.le 32 (ops0.len (HF.hash F (ops0.ext (ops0.spl (z8 32) 0 (ops0.ext pk 0 32)) 0 32))))
 (Chk (ops0.le 32 (ops0.len (ops0.ext (ops0.spl (z8 32) 0 (OZ.nxt Z (HF.mask F (ops0.ext (ops0.ext (ops0.spl (z8 32) 0 (OY.att O (ops0.ext ks 0 32) (ops0.ext (ops0.spl (z8 32) 0 (ops0.ext pk 0 32)) 0 32))) 0 32) 0 32) [98,111,100,121] (rdB (ops0.app (ops0.ext (ops0.app [] (ops0.ext pk 64 2048)) 0 2048) (z8 256)) 0 2304)) 0)) 0 32)))
 (Chk (ops0.le 32 (ops0.len (HF.hash F (ops0.ext (ops0.spl (z8 32) 0 (ops0.ext pk 0 32)) 0 32))))
 (Chk (ops0.le 32 (ops0.len (ops0.app [] (ops0.ext (HF.hash F (ops0.ext (ops0.spl (z8 32) 0 (ops0.ext pk 0 32)) 0 32)) 0 32))))
 (Chk (ops0.le 32 (ops0.len (ops0.ext (ops0.spl (z8 32) 0 (OZ.nxt Z (HF.mask F (ops0.ext (ops0.ext (ops0.spl (z8 32) 0 (OY.att O (ops0.ext ks 0 32) (ops0.ext (ops0.spl (z8 32) 0 (ops0.ext pk 0 32)) 0 32))) 0 32) 0 32) [98,111,100,121] (rdB (ops0.app (ops0.ext (ops0.app [] (ops0.ext pk 64 2048)) 0 2048) (z8 256)) 0 2304)) 0)) 0 32)))
 (Chk (ops0.le 64 (ops0.len (ops0.app (ops0.ext (ops0.app [] (ops0.ext (HF.hash F (ops0.ext (ops0.spl (z8 32) 0 (ops0.ext pk 0 32)) 0 32)) 0 32)) 0 32) (ops0.ext (ops0.ext (ops0.spl (z8 32) 0 (OZ.nxt Z (HF.mask F (ops0.ext (ops0.ext (ops0.spl (z8 32) 0 (OY.att O (ops0.ext ks 0 32) (ops0.ext (ops0.spl (z8 32) 0 (ops0.ext pk 0 32)) 0 32))) 0 32) 0 32) [98,111,100,121] (rdB (ops0.app (ops0.ext (ops0.app [] (ops0.ext pk 64 2048)) 0 2048) (z8 256)) 0 2304)) 0)) 0 32) 0 32))))
 (Chk (ops0.le 2304 (ops0.len (HF.mask F (ops0.ext (ops0.ext (ops0.spl (z8 32) 0 (OY.att O (ops0.ext ks 0 32) (ops0.ext (ops0.spl (z8 32) 0 (ops0.ext pk 0 32)) 0 32))) 0 32) 0 32) [98,111,100,121] (rdB (ops0.app (ops0.ext (ops0.app [] (ops0.ext pk 64 2048)) 0 2048) (z8 256)) 0 2304))))
 (Chk (ops0.eq (ops0.len (ops0.ext (ops0.spl hopZ 0 (OZ.hop Z (HF.mask F (ops0.ext (ops0.ext (ops0.spl (z8 32) 0 (OY.att O (ops0.ext ks 0 32) (ops0.ext (ops0.spl (z8 32) 0 (ops0.ext pk 0 32)) 0 32))) 0 32) 0 32) [98,111,100,121] (rdB (ops0.app (ops0.ext (ops0.app [] (ops0.ext pk 64 2048)) 0 2048) (z8 256)) 0 2304)) 0)) 0 101)) 101)
 (Chk (ops0.le 101 (ops0.len (ops0.spl hopZ 0 (ops0.ext (ops0.spl hopZ 0 (OZ.hop Z (HF.mask F (ops0.ext (ops0.ext (ops0.spl (z8 32) 0 (OY.att O (ops0.ext ks 0 32) (ops0.ext (ops0.spl (z8 32) 0 (ops0.ext pk 0 32)) 0 32))) 0 32) 0 32) [98,111,100,121] (rdB (ops0.app (ops0.ext (ops0.app [] (ops0.ext pk 64 2048)) 0 2048) (z8 256)) 0 2304)) 0)) 0 101))))
 ((flatL (ops0.app (ops0.ext (ops0.app (ops0.ext (ops0.app [] (ops0.ext (HF.hash F (ops0.ext (ops0.spl (z8 32) 0 (ops0.ext pk 0 32)) 0 32)) 0 32)) 0 32) (ops0.ext (ops0.ext (ops0.spl (z8 32) 0 (OZ.nxt Z (HF.mask F (ops0.ext (ops0.ext (ops0.spl (z8 32) 0 (OY.att O (ops0.ext ks 0 32) (ops0.ext (ops0.spl (z8 32) 0 (ops0.ext pk 0 32)) 0 32))) 0 32) 0 32) [98,111,100,121] (rdB (ops0.app (ops0.ext (ops0.app [] (ops0.ext pk 64 2048)) 0 2048) (z8 256)) 0 2304)) 0)) 0 32) 0 32)) 0 64) (ops0.ext (HF.mask F (ops0.ext (ops0.ext (ops0.spl (z8 32) 0 (OY.att O (ops0.ext ks 0 32) (ops0.ext (ops0.spl (z8 32) 0 (ops0.ext pk 0 32)) 0 32))) 0 32) 0 32) [98,111,100,121] (rdB (ops0.app (ops0.ext (ops0.app [] (ops0.ext pk 64 2048)) 0 2048) (z8 256)) 0 2304)) 256 2048))) /\
 ((flatL (ops0.ext (ops0.spl hopZ 0 (ops0.ext (ops0.spl hopZ 0 (OZ.hop Z (HF.mask F (ops0.ext (ops0.ext (ops0.spl (z8 32) 0 (OY.att O (ops0.ext ks 0 32) (ops0.ext (ops0.spl (z8 32) 0 (ops0.ext pk 0 32)) 0 32))) 0 32) 0 32) [98,111,100,121] (rdB (ops0.app (ops0.ext (ops0.app [] (ops0.ext pk 64 2048)) 0 2048) (z8 256)) 0 2304)) 0)) 0 101)) 0 101)) /\
 (Q 0 2112 2112 1 (ops0.app (ops0.ext (ops0.app (ops0.ext (ops0.app [] (ops0.ext (HF.hash F (ops0.ext (ops0.spl (z8 32) 0 (ops0.ext pk 0 32)) 0 32)) 0 32)) 0 32) (ops0.ext (ops0.ext (ops0.spl (z8 32) 0 (OZ.nxt Z (HF.mask F (ops0.ext (ops0.ext (ops0.spl (z8 32) 0 (OY.att O (ops0.ext ks 0 32) (ops0.ext (ops0.spl (z8 32) 0 (ops0.ext pk 0 32)) 0 32))) 0 32) 0 32) [98,111,100,121] (rdB (ops0.app (ops0.ext (ops0.app [] (ops0.ext pk 64 2048)) 0 2048) (z8 256)) 0 2304)) 0)) 0 32) 0 32)) 0 64) (ops0.ext (HF.mask F (ops0.ext (ops0.ext (ops0.spl (z8 32) 0 (OY.att O (ops0.ext ks 0 32) (ops0.ext (ops0.spl (z8 32) 0 (ops0.ext pk 0 32)) 0 32))) 0 32) 0 32) [98,111,100,121] (rdB (ops0.app (ops0.ext (ops0.app [] (ops0.ext pk 64 2048)) 0 2048) (z8 256)) 0 2304)) 256 2048)) (ops0.ext (ops0.spl hopZ 0 (ops0.ext (ops0.spl hopZ 0 (OZ.hop Z (HF.mask F (ops0.ext (ops0.ext (ops0.spl (z8 32) 0 (OY.att O (ops0.ext ks 0 32) (ops0.ext (ops0.spl (z8 32) 0 (ops0.ext pk 0 32)) 0 32))) 0 32) 0 32) [98,111,100,121] (rdB (ops0.app (ops0.ext (ops0.app [] (ops0.ext pk 64 2048)) 0 2048) (z8 256)) 0 2304)) 0)) 0 101)) 0 101))))))))))))))))))))))
 (R (.tup [(.agg hopZ),.nils,(.int .i64 (.ofNat 10))])))))))))
 (R (.tup [(.agg hopZ),.nils,(.int .i64 (.ofNat 70))])))))))))))))))):=by kernel_rfl
theorem vc64(Z:OZ)(O:OY)(F:HF)(ks pk hs:List AV)(R:AV->Prop)(Q:Nat->Nat->Nat->Nat->List AV->List AV->Prop) :
  (vcall (vcA kdS (cnO2 Z O F) noLn) ops0 tabL 400 vf64 [.agg ks,.ros pk 0 2112 2112 false,.agg hs] [] (endPl R Q)) =
 (((PB pk 0 32) /\
 ((PB pk 32 32) /\
 (Chk (ops0.eq (ops0.len (OZ.cut Z pk 0)) 32)
 (Chk (ops0.eq (ops0.len (OZ.cut Z pk 32)) 32)
 (Chk (own (.agg (OZ.cut Z pk 32)))
 (Chk (nm 3 (.ros pk 32 32 2080 Bool.false))
 (Chk (nmB 3 (.cells ks))
 (Chk (nmB 3 (.cells hs))
 (Chk (ownB (.cells ks))
 (Chk (ownB (.cells hs))
 (Chk (own (.agg (OZ.cut Z pk 0)))
 (Chk (nm 3 (.ros pk 0 32 2112 Bool.false))
 (Chk (nmB 3 (.cells ks))
 (Chk (nmB 3 (.cells hs))
 (Chk (ownB (.cells ks))
 (Chk (ownB (.cells hs))
 (Chk (own (.agg (OZ.cut Z pk 32)))
 (Chk (nm 3 (.ros pk 32 32 2080 Bool.false))
 (Chk (nmB 3 (.cells ks))
 (Chk (nmB 3 (.cells hs))
 (Chk (ownB (.cells ks))
 (Chk (ownB (.cells hs))
 (Chk (own (.agg (OZ.cut Z pk 0)))
 (Chk (nm 3 (.ros pk 0 32 2112 Bool.false))
 (Chk (nmB 3 (.cells ks))
 (Chk (nmB 3 (.cells hs))
 (Chk (ownB (.cells ks))
 (Chk (ownB (.cells hs))
 (Chk (ops0.le 32 (ops0.len ks))
 (Chk (ops0.le 32 (ops0.len (ops0.spl (z8 32) 0 (OZ.cut Z pk 0))))
 (((PKey (ops0.ext ks 0 32)) /\
 (PKey (ops0.ext (ops0.spl (z8 32) 0 (OZ.cut Z pk 0)) 0 32))) /\
 (Chk (ops0.eq (ops0.len (OY.att O (ops0.ext ks 0 32) (ops0.ext (ops0.spl (z8 32) 0 (OZ.cut Z pk 0)) 0 32))) 32)
 (Chk (ops0.le 32 (ops0.len (ops0.spl (z8 32) 0 (OY.att O (ops0.ext ks 0 32) (ops0.ext (ops0.spl (z8 32) 0 (OZ.cut Z pk 0)) 0 32)))))
 (Chk (ops0.le 32 (ops0.len hs))
 (((PKey (ops0.ext (ops0.spl (z8 32) 0 (OY.att O (ops0.ext ks 0 32) (ops0.ext (ops0.spl (z8 32) 0 (OZ.cut Z pk 0)) 0 32))) 0 32)) /\
 ((PKey (ops0.ext hs 0 32)) /\
 (PBd pk 64 2048))) /\
 (Chk (ops0.le 32 (ops0.len (ops0.spl (z8 32) 0 (OZ.cut Z pk 32))))
 (Chk (ops0.eq (ops0.len (OY.btg O (ops0.ext (ops0.spl (z8 32) 0 (OY.att O (ops0.ext ks 0 32) (ops0.ext (ops0.spl (z8 32) 0 (OZ.cut Z pk 0)) 0 32))) 0 32) (rdB pk 64 2048) (ops0.ext hs 0 32))) 32)
 (Chk (ops0.eq (ops0.len (ops0.ext (ops0.spl (z8 32) 0 (OZ.cut Z pk 32)) 0 32)) 32)
 (Chk (ops0.le 32 (ops0.len (OY.btg O (ops0.ext (ops0.spl (z8 32) 0 (OY.att O (ops0.ext ks 0 32) (ops0.ext (ops0.spl (z8 32) 0 (OZ.cut Z pk 0)) 0 32))) 0 32) (rdB pk 64 2048) (ops0.ext hs 0 32))))
 (Chk (ops0.le 32 (ops0.len (ops0.ext (ops0.spl (z8 32) 0 (OZ.cut Z pk 32)) 0 32)))
 (∃ l:(List Int),((((ops0.ext (OY.btg O (ops0.ext (ops0.spl (z8 32) 0 (OY.att O (ops0.ext ks 0 32) (ops0.ext (ops0.spl (z8 32) 0 (OZ.cut Z pk 0)) 0 32))) 0 32) (rdB pk 64 2048) (ops0.ext hs 0 32)) 0 32):(List AV))=(List.map (.int .u8) l)) /\
 (∃ l1:(List Int),((((ops0.ext (ops0.ext (ops0.spl (z8 32) 0 (OZ.cut Z pk 32)) 0 32) 0 32):(List AV))=(List.map (.int .u8) l1)) /\
 (Br (ops0.eqi l l1)
 (Chk (ops0.le 32 (ops0.len (ops0.spl (z8 32) 0 (OY.att O (ops0.ext ks 0 32) (ops0.ext (ops0.spl (z8 32) 0 (OZ.cut Z pk 0)) 0 32)))))
 (Chk (ops0.le 2112 (ops0.len pk))
 (Chk (ops0.le 2048 (ops0.len (ops0.ext pk 64 2048)))
 (((PKey (ops0.ext (ops0.spl (z8 32) 0 (OY.att O (ops0.ext ks 0 32) (ops0.ext (ops0.spl (z8 32) 0 (OZ.cut Z pk 0)) 0 32))) 0 32)) /\
 (PB (ops0.app (ops0.ext (ops0.ext pk 64 2048) 0 2048) (z8 256)) 0 2304)) /\
 (((PB (HF.mask F (ops0.ext (ops0.spl (z8 32) 0 (OY.att O (ops0.ext ks 0 32) (ops0.ext (ops0.spl (z8 32) 0 (OZ.cut Z pk 0)) 0 32))) 0 32) [98,111,100,121] (rdB (ops0.app (ops0.ext (ops0.ext pk 64 2048) 0 2048) (z8 256)) 0 2304)) 0 256) /\
 (256<=2304)) /\
 (Br (OZ.ok Z (HF.mask F (ops0.ext (ops0.spl (z8 32) 0 (OY.att O (ops0.ext ks 0 32) (ops0.ext (ops0.spl (z8 32) 0 (OZ.cut Z pk 0)) 0 32))) 0 32) [98,111,100,121] (rdB (ops0.app (ops0.ext (ops0.ext pk 64 2048) 0 2048) (z8 256)) 0 2304)) 0)
 (Chk (ops0.eq (ops0.len (OZ.hop Z (HF.mask F (ops0.ext (ops0.spl (z8 32) 0 (OY.att O (ops0.ext ks 0 32) (ops0.ext (ops0.spl (z8 32) 0 (OZ.cut Z pk 0)) 0 32))) 0 32) [98,111,100,121] (rdB (ops0.app (ops0.ext (ops0.ext pk 64 2048) 0 2048) (z8 256)) 0 2304)) 0)) 101)
 (Chk (ops0.eq (ops0.len (OZ.nxt Z (HF.mask F (ops0.ext (ops0.spl (z8 32) 0 (OY.att O (ops0.ext ks 0 32) (ops0.ext (ops0.spl (z8 32) 0 (OZ.cut Z pk 0)) 0 32))) 0 32) [98,111,100,121] (rdB (ops0.app (ops0.ext (ops0.ext pk 64 2048) 0 2048) (z8 256)) 0 2304)) 0)) 32)
 (∃ n:Int,((Nth (ops0.spl hopZ 0 (OZ.hop Z (HF.mask F (ops0.ext (ops0.spl (z8 32) 0 (OY.att O (ops0.ext ks 0 32) (ops0.ext (ops0.spl (z8 32) 0 (OZ.cut Z pk 0)) 0 32))) 0 32) [98,111,100,121] (rdB (ops0.app (ops0.ext (ops0.ext pk 64 2048) 0 2048) (z8 256)) 0 2304)) 0)) 0 (.int .i64 n)) /\
 (Br (ops0.cmp .eql n (Int.ofNat 0))
 (Chk (ops0.le 101 (ops0.len (ops0.spl hopZ 0 (OZ.hop Z (HF.mask F (ops0.ext (ops0.spl (z8 32) 0 (OY.att O (ops0.ext ks 0 32) (ops0.ext (ops0.spl (z8 32) 0 (OZ.cut Z pk 0)) 0 32))) 0 32) [98,111,100,121] (rdB (ops0.app (ops0.ext (ops0.ext pk 64 2048) 0 2048) (z8 256)) 0 2304)) 0))))
 (Chk (ops0.eq (ops0.len (ops0.ext (ops0.spl hopZ 0 (OZ.hop Z (HF.mask F (ops0.ext (ops0.spl (z8 32) 0 (OY.att O (ops0.ext ks 0 32) (ops0.ext (ops0.spl (z8 32) 0 (OZ.cut Z pk 0)) 0 32))) 0 32) [98,111,100,121] (rdB (ops0.app (ops0.ext (ops0.ext pk 64 2048) 0 2048) (z8 256)) 0 2304)) 0)) 0 101)) 101)
 (Chk (ops0.le 101 (ops0.len (ops0.spl hopZ 0 (ops0.ext (ops0.spl hopZ 0 (OZ.hop Z (HF.mask F (ops0.ext (ops0.spl (z8 32) 0 (OY.att O (ops0.ext ks 0 32) (ops0.ext (ops0.spl (z8 32) 0 (OZ.cut Z pk 0)) 0 32))) 0 32) [98,111,100,121] (rdB (ops0.app (ops0.ext (ops0.ext pk 64 2048) 0 2048) (z8 256)) 0 2304)) 0)) 0 101))))
 (R (.tup [(.agg (ops0.ext (ops0.spl hopZ 0 (ops0.ext (ops0.spl hopZ 0 (OZ.hop Z (HF.mask F (ops0.ext (ops0.spl (z8 32) 0 (OY.att O (ops0.ext ks 0 32) (ops0.ext (ops0.spl (z8 32) 0 (OZ.cut Z pk 0)) 0 32))) 0 32) [98,111,100,121] (rdB (ops0.app (ops0.ext (ops0.ext pk 64 2048) 0 2048) (z8 256)) 0 2304)) 0)) 0 101)) 0 101)),.nils,(.int .i64 (.ofNat 0))])))))
 (Chk (ops0.le 32 (ops0.len (ops0.spl (z8 32) 0 (OZ.cut Z pk 0))))
 ((PB (ops0.spl (z8 32) 0 (OZ.cut Z pk 0)) 0 32) /\
 (Chk (ops0.eq (ops0.len (KF.sum (AF.toKF (NF.toAF (NG.toNF (HF.toNG F)))) (rdB (ops0.spl (z8 32) 0 (OZ.cut Z pk 0)) 0 32))) 32)
 (Chk (ops0.le 32 (ops0.len (ops0.spl (z8 32) 0 (OZ.cut Z pk 0))))
 (Chk (ops0.le 101 (ops0.len (ops0.spl hopZ 0 (OZ.hop Z (HF.mask F (ops0.ext (ops0.spl (z8 32) 0 (OY.att O (ops0.ext ks 0 32) (ops0.ext (ops0.spl (z8 32) 0 (OZ.cut Z pk 0)) 0 32))) 0 32) [98,111,100,121] (rdB (ops0.app (ops0.ext (ops0.ext pk 64 2048) 0 2048) (z8 256)) 0 2304)) 0))))
 (Chk (ops0.le 32 (ops0.len (ops0.spl (ops0.spl (z8 32) 0 (OZ.cut Z pk 0)) 0 (KF.sum (AF.toKF (NF.toAF (NG.toNF (HF.toNG F)))) (rdB (ops0.spl (z8 32) 0 (OZ.cut Z pk 0)) 0 32)))))
 (Chk (ops0.le 32 (ops0.len (ops0.spl (ops0.spl (z8 32) 0 (OZ.cut Z pk 0)) 0 (KF.sum (AF.toKF (NF.toAF (NG.toNF (HF.toNG F)))) (rdB (ops0.spl (z8 32) 0 (OZ.cut Z pk 0)) 0 32)))))
 (Chk (ops0.le 32 (ops0.len (ops0.spl (z8 32) 0 (OZ.nxt Z (HF.mask F (ops0.ext (ops0.spl (z8 32) 0 (OY.att O (ops0.ext ks 0 32) (ops0.ext (ops0.spl (z8 32) 0 (OZ.cut Z pk 0)) 0 32))) 0 32) [98,111,100,121] (rdB (ops0.app (ops0.ext (ops0.ext pk 64 2048) 0 2048) (z8 256)) 0 2304)) 0))))
 (Chk (ops0.le 32 (ops0.len (ops0.ext (ops0.spl (ops0.spl (z8 32) 0 (OZ.cut Z pk 0)) 0 (KF.sum (AF.toKF (NF.toAF (NG.toNF (HF.toNG F)))) (rdB (ops0.spl (z8 32) 0 (OZ.cut Z pk 0)) 0 32))) 0 32)))
 (Chk (ops0.le 32 (ops0.len (ops0.spl (z8 32) 0 (OZ.nxt Z (HF.mask F (ops0.ext (ops0.spl (z8 32) 0 (OY.att O (ops0.ext ks 0 32) (ops0.ext (ops0.spl (z8 32) 0 (OZ.cut Z pk 0)) 0 32))) 0 32) [98,111,100,121] (rdB (ops0.app (ops0.ext (ops0.ext pk 64 2048) 0 2048) (z8 256)) 0 2304)) 0))))
 (Chk (ops0.le 64 (ops0.len (ops0.app (ops0.ext (ops0.ext (ops0.spl (ops0.spl (z8 32) 0 (OZ.cut Z pk 0)) 0 (KF.sum (AF.toKF (NF.toAF (NG.toNF (HF.toNG F)))) (rdB (ops0.spl (z8 32) 0 (OZ.cut Z pk 0)) 0 32))) 0 32) 0 32) (ops0.ext (ops0.spl (z8 32) 0 (OZ.nxt Z (HF.mask F (ops0.ext (ops0.spl (z8 32) 0 (OY.att O (ops0.ext ks 0 32) (ops0.ext (ops0.spl (z8 32) 0 (OZ.cut Z pk 0)) 0 32))) 0 32) [98,111,100,121] (rdB (ops0.app (ops0.ext (ops0.ext pk 64 2048) 0 2048) (z8 256)) 0 2304)) 0)) 0 32))))
 (Chk (ops0.le 2304 (ops0.len (HF.mask F (ops0.ext (ops0.spl (z8 32) 0 (OY.att O (ops0.ext ks 0 32) (ops0.ext (ops0.spl (z8 32) 0 (OZ.cut Z pk 0)) 0 32))) 0 32) [98,111,100,121] (rdB (ops0.app (ops0.ext (ops0.ext pk 64 2048) 0 2048) (z8 256)) 0 2304))))
 (Chk (ops0.eq (ops0.len (ops0.ext (ops0.spl hopZ 0 (OZ.hop Z (HF.mask F (ops0.ext (ops0.spl (z8 32) 0 (OY.att O (ops0.ext ks 0 32) (ops0.ext (ops0.spl (z8 32) 0 (OZ.cut Z pk 0)) 0 32))) 0 32) [98,111,100,121] (rdB (ops0.app (ops0.ext (ops0.ext pk 64 2048) 0 2048) (z8 256)) 0 2304)) 0)) 0 101)) 101)
 (Chk (ops0.le 101 (ops0.len (ops0.spl hopZ 0 (ops0.ext (ops0.spl hopZ 0 (OZ.hop Z (HF.mask F (ops0.ext (ops0.spl (z8 32) 0 (OY.att O (ops0.ext ks 0 32) (ops0.ext (ops0.spl (z8 32) 0 (OZ.cut Z pk 0)) 0 32))) 0 32) [98,111,100,121] (rdB (ops0.app (ops0.ext (ops0.ext pk 64 2048) 0 2048) (z8 256)) 0 2304)) 0)) 0 101))))
 ((flatL (ops0.app (ops0.ext (ops0.app (ops0.ext (ops0.ext (ops0.spl (ops0.spl (z8 32) 0 (OZ.cut Z pk 0)) 0 (KF.sum (AF.toKF (NF.toAF (NG.toNF (HF.toNG F)))) (rdB (ops0.spl (z8 32) 0 (OZ.cut Z pk 0)) 0 32))) 0 32) 0 32) (ops0.ext (ops0.spl (z8 32) 0 (OZ.nxt Z (HF.mask F (ops0.ext (ops0.spl (z8 32) 0 (OY.att O (ops0.ext ks 0 32) (ops0.ext (ops0.spl (z8 32) 0 (OZ.cut Z pk 0)) 0 32))) 0 32) [98,111,100,121] (rdB (ops0.app (ops0.ext (ops0.ext pk 64 2048) 0 2048) (z8 256)) 0 2304)) 0)) 0 32)) 0 64) (ops0.ext (HF.mask F (ops0.ext (ops0.spl (z8 32) 0 (OY.att O (ops0.ext ks 0 32) (ops0.ext (ops0.spl (z8 32) 0 (OZ.cut Z pk 0)) 0 32))) 0 32) [98,111,100,121] (rdB (ops0.app (ops0.ext (ops0.ext pk 64 2048) 0 2048) (z8 256)) 0 2304)) 256 2048))) /\
 ((flatL (ops0.ext (ops0.spl hopZ 0 (ops0.ext (ops0.spl hopZ 0 (OZ.hop Z (HF.mask F (ops0.ext (ops0.spl (z8 32) 0 (OY.att O (ops0.ext ks 0 32) (ops0.ext (ops0.spl (z8 32) 0 (OZ.cut Z pk 0)) 0 32))) 0 32) [98,111,100,121] (rdB (ops0.app (ops0.ext (ops0.ext pk 64 2048) 0 2048) (z8 256)) 0 2304)) 0)) 0 101)) 0 101)) /\
 (Q 0 2112 2112 1 (ops0.app (ops0.ext (ops0.app (ops0.ext (ops0.ext (ops0.spl (ops0.spl (z8 32) 0 (OZ.cut Z pk 0)) 0 (KF.sum (AF.toKF (NF.toAF (NG.toNF (HF.toNG F)))) (rdB (ops0.spl (z8 32) 0 (OZ.cut Z pk 0)) 0 32))) 0 32) 0 32) (ops0.ext (ops0.spl (z8 32) 0 (OZ.nxt Z (HF.mask F (ops0.ext (ops0.spl (z8 32) 0 (OY.att O (ops0.ext ks 0 32) (ops0.ext (ops0.spl (z8 32) 0 (OZ.cut Z pk 0)) 0 32))) 0 32) [98,111,100,121] (rdB (ops0.app (ops0.ext (ops0.ext pk 64 2048) 0 2048) (z8 256)) 0 2304)) 0)) 0 32)) 0 64) (ops0.ext (HF.mask F (ops0.ext (ops0.spl (z8 32) 0 (OY.att O (ops0.ext ks 0 32) (ops0.ext (ops0.spl (z8 32) 0 (OZ.cut Z pk 0)) 0 32))) 0 32) [98,111,100,121] (rdB (ops0.app (ops0.ext (ops0.ext pk 64 2048) 0 2048) (z8 256)) 0 2304)) 256 2048)) (ops0.ext (ops0.spl hopZ 0 (ops0.ext (ops0.spl hopZ 0 (OZ.hop Z (HF.mask F (ops0.ext (ops0.spl (z8 32) 0 (OY.att O (ops0.ext ks 0 32) (ops0.ext (ops0.spl (z8 32) 0 (OZ.cut Z pk 0)) 0 32))) 0 32) [98,111,100,121] (rdB (ops0.app (ops0.ext (ops0.ext pk 64 2048) 0 2048) (z8 256)) 0 2304)) 0)) 0 101)) 0 101)))))))))))))))))))))))
 (R (.tup [(.agg hopZ),.nils,(.int .i64 (.ofNat 10))]))))))))
 (R (.tup [(.agg hopZ),.nils,(.int .i64 (.ofNat 70))])))))))))))))))))))))))))))))))))))))))))))))))):=by kernel_rfl
def bodyW:List UInt8 := [98,111,100,121]
theorem qg9{p:List UInt8}{o n:Nat}:ops0.ext (p.map by8) o n=(sl p o n).map by8:=by
 rw[nExt,<-List.map_drop,<-List.map_take]
 rfl
theorem rd_sl{p:List UInt8}{o n:Nat}:rdB (p.map by8) o n=sl p o n:=by
 unfold rdB
 rw[<-List.map_drop,<-List.map_take,qab]
 rfl
theorem qba{p:List UInt8}{n:Nat}(h:p.length=n):sl p 0 n=p:=by
 unfold sl
 rw[List.drop_zero,List.take_of_length_le (by omega)]
theorem qj2(k b h:List UInt8):of1.btg (k.map by8) b (h.map by8)=(btagL k b h).map by8:=by
 show(btagL (qag _) _ (qag _)).map by8=_
 rw[qab,qab]
theorem qiu(k b h:List UInt8):(btagL k b h).length=32:=qcw _ _ _
theorem qhm(a b:List UInt8):ops0.app (a.map by8) (b.map by8)=(a++b).map by8:=by rw[nApp,List.map_append]
theorem qs4(a:List AV):ops0.app [] a=a:=by rw[nApp,List.nil_append]
theorem qil:hop0.L32:=⟨rfl,rfl,rfl⟩
theorem qfg{h:Hop}(hl:h.L32):ops0.spl hopZ 0 (hopC h)=hopC h:=by
 rw[nSpl,List.take_zero,List.nil_append,List.drop_of_length_le (by rw[qa8 hl,show hopZ.length=101 from qa8 qil]; omega),List.append_nil]
theorem qhg{h:Hop}(hl:h.L32):ops0.ext (hopC h) 0 101=hopC h:=by
 rw[nExt,List.drop_zero,List.take_of_length_le (by rw[qa8 hl]; omega)]
theorem oz_ok(b:List UInt8)(o:Nat):oz0.ok (b.map by8) o=qbt (sl b o 256):=by
 show qbt (rdB _ _ _)=_
 rw[rd_sl]
theorem qxd(b:List UInt8)(o:Nat):oz0.hop (b.map by8) o=hopC (readH (sl b o 256)):=by
 show hopC (readH (rdB _ _ _))=_
 rw[rd_sl]
theorem qxf(b:List UInt8)(o:Nat):oz0.nxt (b.map by8) o=(readN (sl b o 256)).map by8:=by
 show(readN (rdB _ _ _)).map by8=_
 rw[rd_sl]
theorem quw{h:Hop}{R:Int->Prop}(k:R h.ch):∃ n:Int,Nth (hopC h) 0 (.int .i64 n)/\R n:=⟨h.ch,rfl,k⟩
theorem qmp{g:Kd->Bool}{C:CnF}(hC:CnOK Try.prog C){E:LnF}(hE:LnOK Try.prog E){T:Nat->Option VF}(hT:∀ f vf,T f=some vf->FnOK Try.prog f vf){f n:Nat}{vf:VF}(hf:T f=some vf){vals:List AV}{r0:AV}
  (hr:cutV 0 r0=r0) (h:vcall (vcA g C E) ops0 T n vf vals [] (endPl (fun r=>r=r0) fun _ _ _ _ _ _=>False)):CallTo Try.prog f vals [] r0 [] []:=by
 obtain⟨r,H',lg,hc,e⟩:=qcu hC hE hT hf h
 have e:r=r0:=by
  unfold endPl at e
  split at e
  ·split at e
   ·exact e.2.2.elim
   ·exact e.elim
  ·exact e
 subst e
 have:=hc.cut 0 (Nat.le_refl 0) (Nat.zero_le _) (lg0 := []) (fun b hb=>by simp at hb)
 rw[hr] at this
 exact this
theorem ql6{g:Kd->Bool}{C:CnF}(hC:CnOK Try.prog C){E:LnF}(hE:LnOK Try.prog E){T:Nat->Option VF}(hT:∀ f vf,T f=some vf->FnOK Try.prog f vf){f n:Nat}{vf:VF}(hf:T f=some vf){vals:List AV}{o m c sz:Nat}{cs hc:List AV}
  (h:vcall (vcA g C E) ops0 T n vf vals [] (endPl (fun _=>False) fun o' m' c' sz' cs' hc'=>o'=o/\m'=m/\c'=c/\sz'=sz/\cs'=cs/\hc'=hc)):CallTo Try.prog f vals [] (.tup [.agg hc,.slc 0 o m c sz,.int .i64 0]) [.cells cs] []:=by
 obtain⟨r,H',lg,hcall,e⟩:=qcu hC hE hT hf h
 unfold endPl at e
 split at e
 ·rename_i hc' b o' m' c' sz'
  split at e
  ·rename_i cs' hb
   obtain⟨hfl,hfh,rfl,rfl,rfl,rfl,rfl,rfl⟩:=e
   rw[qb5] at hb
   have hlt:b<H'.length:=(List.getElem?_eq_some_iff.1 hb).1
   have h1:=hcall.pick [b] (by simp) (by simpa using hlt) (by simp) (lg0 := []) (by simp)
   have e1:ren (pickN [b]) Go.Vm.noView true (.tup [.agg hc',.slc b o' m' c' sz',.int .i64 0]) = .tup [.agg hc',.slc 0 o' m' c' sz',.int .i64 0]:=by
    simp only[ren,renL,qaa hfh,qhu]
   have e2:wkH [b] H' = [.cells cs']:=by
    unfold wkH pickH
    simp only[List.map_cons,List.map_nil,hb,renB,qaa hfl]
   rw[e1,e2] at h1
   exact h1
  ·exact e.elim
 ·exact e.elim
theorem qgh(h:Hop)(e:Int):cutV 0 (.tup [.agg (hopC h),.nils,.int .i64 e]) = .tup [.agg (hopC h),.nils,.int .i64 e]:=by
 unfold cutV
 simp only[ren,renL,qaa (qcn h)]
theorem qhv:∀ f vf,tabL f=some vf->FnOK Try.prog f vf:=by
 intro f vf h
 unfold tabL at h
 split at h<;>cases h
 ·exact ok63
 ·exact ok64
 ·exact ok86
 ·exact ok89
 ·exact ok96
 ·exact ok110
def lkL(key p:List UInt8):List UInt8:=atL key (sl p 0 32)
def allL(key p:List UInt8):List UInt8:=maskL (lkL key p) bodyW (sl p 64 2048++List.replicate 256 0)
def tagOK(key p hash:List UInt8):Bool:=decide (btagL (lkL key p) (sl p 64 2048) hash=sl p 32 32)
def hdL(key p:List UInt8):List UInt8:=sl (allL key p) 0 256
def nextL(key p:List UInt8):List UInt8:=sumL (sl p 0 32)++(readN (hdL key p)++sl (allL key p) 256 2048)
theorem qe9{key p:List UInt8}(hp:p.length=2112):(allL key p).length=2304:=by
 unfold allL
 rw[qbd,List.length_append,qbc (by omega),List.length_replicate]
theorem qf0{key p:List UInt8}(hp:p.length=2112):(hdL key p).length=256:=qbc (by rw[qe9 hp]; omega)
theorem qfp{key p:List UInt8}(hp:p.length=2112):(nextL key p).length=2112:=by
 unfold nextL
 rw[List.length_append,List.length_append,qbu,qk4 (qf0 hp),qbc (by rw[qe9 hp]; omega)]
theorem qi0(n:Nat)(l:List UInt8):nmL n (l.map by8)=true:=by
 induction l with
 | nil=>rfl
 | cons b l ih=>simp only[List.map_cons,nmL,by8,nm]; exact ih
theorem qhd(l:List UInt8):ownL (l.map by8)=true:=by
 induction l with
 | nil=>rfl
 | cons b l ih=>simp only[List.map_cons,ownL,by8,own]; exact ih
theorem qvc(l:List UInt8):own (.agg (l.map by8))=true:=by simp only[own]; exact qhd l
theorem qyt(n:Nat)(l:List UInt8)(a b c:Nat)(e:Bool):nm n (.ros (l.map by8) a b c e)=true:=by simp only[nm]; exact qi0 n l
theorem nmB8(n:Nat)(l:List UInt8):nmB n (.cells (l.map by8))=true:=qi0 n l
theorem ownB8(l:List UInt8):ownB (.cells (l.map by8))=true:=qhd l
theorem qyh(b:List UInt8)(o:Nat):oz0.cut (b.map by8) o=(sl b o 32).map by8:=by
 show(rdB _ _ _).map by8=_
 rw[rd_sl]
theorem qxo{key p hash:List UInt8}(hk:key.length=32)(hp:p.length=2112)(hh:hash.length=32)(R:AV->Prop)(Q:Nat->Nat->Nat->Nat->List AV->List AV->Prop)
  (h1:tagOK key p hash=false->R (.tup [.agg (hopC hop0),.nils,.int .i64 70]))
  (h2:tagOK key p hash=true->qbt (hdL key p)=false->R (.tup [.agg (hopC hop0),.nils,.int .i64 10]))
  (h3:tagOK key p hash=true->qbt (hdL key p)=true->(readH (hdL key p)).ch=0->R (.tup [.agg (hopC (readH (hdL key p))),.nils,.int .i64 0]))
  (h4:tagOK key p hash=true->qbt (hdL key p)=true->(readH (hdL key p)).ch≠0->Q 0 2112 2112 1 ((nextL key p).map by8) (hopC (readH (hdL key p)))) :
  vcall (vcA kdS (cnO2 oz0 of1 hf0) noLn) ops0 tabL 400 vf63 [.agg (key.map by8),.ros (p.map by8) 0 2112 2112 false,.agg (hash.map by8)] [] (endPl R Q):=by
 have l0:(sl p 0 32).length=32:=qbc (by omega)
 have l1:(sl p 32 32).length=32:=qbc (by omega)
 have l2:(sl p 64 2048).length=2048:=qbc (by omega)
 have l3:=at_32 key (sl p 0 32)
 have l4:=qiu (atL key (sl p 0 32)) (sl p 64 2048) hash
 have l5:=qe9 (key:=key) hp
 have l6:=qf0 (key:=key) hp
 have l7:=qdl l6
 have l8:=qk4 l6
 have l9:=qbu (sl p 0 32)
 have la:(sl (allL key p) 256 2048).length=2048:=qbc (by omega)
 have lb:(sl p 64 2048++List.replicate 256 0).length=2304:=by rw[List.length_append,l2,List.length_replicate]
 have lc:(sumL (sl p 0 32)++readN (hdL key p)).length=64:=by rw[List.length_append,l9,l8]
 have em:maskL (atL key (sl p 0 32)) [98,111,100,121] (sl p 64 2048++List.replicate 256 0)=allL key p:=rfl
 have eh:sl (allL key p) 0 256=hdL key p:=rfl
 have s1:=qba hk
 have s2:=qba hh
 have s3:=qba l0
 have s4:=qba l2
 have s5:=qba l3
 have s6:=qba l4
 have s7:=qba l8
 have s8:=qba l9
 have s9:=qba lb
 have sa:=qba lc
 rw[vc63]
 simp only[qg9,rd_sl,s1,s2,s3,s4,s5,s6,s7,s8,s9,sa,spl32 l0,spl32 l3,spl32 l4,spl32 l8,qgj,qj2,qxt,qs4,z8_eq 256,qhm,qej,em,oz_ok,qxd,qxf,eh,qfg l7,qhg l7,qic]
 simp only[qbl,nLe,nLen,nEq,List.length_map,decide_eq_true_eq,qa8 l7,l0,l1,l2,l3,l4,l5,l8,l9,la,lb,lc,hk,hp,hh,List.length_append,List.length_replicate]
 simp only[Nat.reduceLeDiff,Nat.le_refl,true_and,and_true]
 have b1:qan (p.map by8) 64 2048 (sl p 64 2048):=⟨l2,by rw[<-List.map_drop,<-List.map_take]; rfl⟩
 have b2:qan (p.map by8) 32 32 (sl p 32 32):=⟨l1,by rw[<-List.map_drop,<-List.map_take]; rfl⟩
 have b3:qan ((allL key p).map by8) 0 256 (hdL key p):=⟨l6,by rw[<-List.map_drop,<-List.map_take]; rfl⟩
 have lp:(p.map by8).length=2112:=by rw[List.length_map,hp]
 have la2:((allL key p).map by8).length=2304:=by rw[List.length_map,l5]
 refine⟨⟨pkey _ hk,pkey _ l0⟩,⟨pkey _ l3,pkey _ hh,qac _,by omega,by omega,_,b1⟩,⟨qbz _ 32 l4.symm (by omega),qac _,by omega,by omega,_,b2⟩,Br.mk (fun ht=>⟨⟨pkey _ l3,qbz _ 2304 lb.symm (by omega)⟩,⟨qac _,by omega,by omega,_,b3⟩,Br.mk (fun hr=>quw ?_) (fun hr=>h2 ht hr)⟩) (fun ht=>h1 ht)⟩
 rw[nEql']
 refine Br.mk (fun hc=>h3 ht hr (of_decide_eq_true hc)) (fun hc=>⟨pkey _ l0,qac _,qcn _,?_⟩)
 have:=h4 ht hr (of_decide_eq_false hc)
 unfold nextL at this
 rw[<-List.append_assoc] at this
 exact this
theorem qpj{key p hash:List UInt8}(hk:key.length=32)(hp:p.length=2112)(hh:hash.length=32)(R:AV->Prop)(Q:Nat->Nat->Nat->Nat->List AV->List AV->Prop)
  (h1:tagOK key p hash=false->R (.tup [.agg (hopC hop0),.nils,.int .i64 70]))
  (h2:tagOK key p hash=true->qbt (hdL key p)=false->R (.tup [.agg (hopC hop0),.nils,.int .i64 10]))
  (h3:tagOK key p hash=true->qbt (hdL key p)=true->(readH (hdL key p)).ch=0->R (.tup [.agg (hopC (readH (hdL key p))),.nils,.int .i64 0]))
  (h4:tagOK key p hash=true->qbt (hdL key p)=true->(readH (hdL key p)).ch≠0->Q 0 2112 2112 1 ((nextL key p).map by8) (hopC (readH (hdL key p)))) :
  vcall (vcA kdS (cnO2 oz0 of1 hf0) noLn) ops0 tabL 400 vf64 [.agg (key.map by8),.ros (p.map by8) 0 2112 2112 false,.agg (hash.map by8)] [] (endPl R Q):=by
 have l0:(sl p 0 32).length=32:=qbc (by omega)
 have l1:(sl p 32 32).length=32:=qbc (by omega)
 have l2:(sl p 64 2048).length=2048:=qbc (by omega)
 have l3:=at_32 key (sl p 0 32)
 have l4:=qiu (atL key (sl p 0 32)) (sl p 64 2048) hash
 have l5:=qe9 (key:=key) hp
 have l6:=qf0 (key:=key) hp
 have l7:=qdl l6
 have l8:=qk4 l6
 have l9:=qbu (sl p 0 32)
 have la:(sl (allL key p) 256 2048).length=2048:=qbc (by omega)
 have lb:(sl p 64 2048++List.replicate 256 0).length=2304:=by rw[List.length_append,l2,List.length_replicate]
 have lc:(sumL (sl p 0 32)++readN (hdL key p)).length=64:=by rw[List.length_append,l9,l8]
 have em:maskL (atL key (sl p 0 32)) [98,111,100,121] (sl p 64 2048++List.replicate 256 0)=allL key p:=rfl
 have eh:sl (allL key p) 0 256=hdL key p:=rfl
 have s1:=qba hk
 have s2:=qba hh
 have s3:=qba l0
 have s4:=qba l2
 have s5:=qba l3
 have s6:=qba l4
 have s7:=qba l8
 have s8:=qba l9
 have s9:=qba lb
 have sa:=qba lc
 rw[vc64]
 simp only[qyh,qvc,qyt,nmB8,ownB8,qg9,rd_sl,spl32 l1,qba l1,qgg l0 l9,s1,s2,s3,s4,s5,s6,s7,s8,s9,sa,spl32 l0,spl32 l3,spl32 l4,spl32 l8,qgj,qj2,qxt,qs4,z8_eq 256,qhm,qej,em,oz_ok,qxd,qxf,eh,qfg l7,qhg l7,qic,qol]
 simp only[qbl,nLe,nLen,nEq,List.length_map,decide_eq_true_eq,qa8 l7,l0,l1,l2,l3,l4,l5,l8,l9,la,lb,lc,hk,hp,hh,List.length_append,List.length_replicate]
 simp only[Nat.reduceLeDiff,Nat.le_refl,true_and,and_true]
 have b1:qan (p.map by8) 64 2048 (sl p 64 2048):=⟨l2,by rw[<-List.map_drop,<-List.map_take]; rfl⟩
 have b2:qan (p.map by8) 32 32 (sl p 32 32):=⟨l1,by rw[<-List.map_drop,<-List.map_take]; rfl⟩
 have b3:qan ((allL key p).map by8) 0 256 (hdL key p):=⟨l6,by rw[<-List.map_drop,<-List.map_take]; rfl⟩
 have lp:(p.map by8).length=2112:=by rw[List.length_map,hp]
 have la2:((allL key p).map by8).length=2304:=by rw[List.length_map,l5]
 have b0:qan (p.map by8) 0 32 (sl p 0 32):=⟨l0,by rw[<-List.map_drop,<-List.map_take]; rfl⟩
 refine⟨⟨qac _,by omega,by omega,_,b0⟩,⟨qac _,by omega,by omega,_,b2⟩,⟨pkey _ hk,pkey _ l0⟩,⟨pkey _ l3,pkey _ hh,qac _,by omega,by omega,_,b1⟩,_,qfw _,_,qfw _,?_⟩
 rw[nEqi]
 refine Br.mk (fun ht => ?_) (fun ht=>h1 (decide_eq_false fun h=>of_decide_eq_false ht (by rw[<-h]; rfl)))
 have ht:tagOK key p hash=true:=decide_eq_true (qwx (of_decide_eq_true ht))
 refine⟨⟨pkey _ l3,qbz _ 2304 lb.symm (by omega)⟩,⟨qac _,by omega,by omega,_,b3⟩,Br.mk (fun hr=>quw ?_) (fun hr=>h2 ht hr)⟩
 rw[nEql']
 refine Br.mk (fun hc=>h3 ht hr (of_decide_eq_true hc)) (fun hc=>⟨qbz _ 32 l0.symm (by omega),qac _,qcn _,?_⟩)
 have:=h4 ht hr (of_decide_eq_false hc)
 unfold nextL at this
 rw[<-List.append_assoc] at this
 exact this
theorem qz1{ks hs pc:List AV}{off len cap:Nat}{e:Bool}(hne:len≠2112):CallTo Try.prog 63 [.agg ks,.ros pc off len cap e,.agg hs] [] (.tup [.agg (hopC hop0),.nils,.int .i64 10]) [] []:=by
 refine qb7 (qa3 _) (qai _) qhv (show tabL 63=some vf63 from rfl) (n:=400) (g:=kdYes) (m:=fun _=>0) [] ?_ (Nat.le_refl 0) (qgh _ _) (fun b hb=>by simp at hb)
 rw[vc63n,nOfn,nNeq]
 exact Br.t (decide_eq_true hne) ⟨rfl,rfl⟩
theorem qzi{ks hs pc:List AV}{off len cap:Nat}{e:Bool}(hne:len≠2112):CallTo Try.prog 64 [.agg ks,.ros pc off len cap e,.agg hs] [] (.tup [.agg (hopC hop0),.nils,.int .i64 10]) [] []:=by
 refine qb7 (qa3 _) (qai _) qhv (show tabL 64=some vf64 from rfl) (n:=400) (g:=kdYes) (m:=fun _=>0) [] ?_ (Nat.le_refl 0) (qgh _ _) (fun b hb=>by simp at hb)
 rw[vc64n,nOfn,nNeq]
 exact Br.t (decide_eq_true hne) ⟨rfl,rfl⟩
def peelL(key p hash:List UInt8):Int × Hop × List UInt8 :=
 if tagOK key p hash=false then(70,hop0,[])
 else if qbt (hdL key p)=false then(10,hop0,[])
 else if(readH (hdL key p)).ch=0 then(0,readH (hdL key p),[])
 else(0,readH (hdL key p),nextL key p)
theorem q1e{key p hash:List UInt8}(hk:key.length=32)(hp:p.length=2112)(hh:hash.length=32)(hn:(peelL key p hash).2.2 = []) :
  CallTo Try.prog 63 [.agg (key.map by8),.ros (p.map by8) 0 2112 2112 false,.agg (hash.map by8)] [] (.tup [.agg (hopC (peelL key p hash).2.1),.nils,.int .i64 (peelL key p hash).1]) [] []:=by
 refine qmp qbf (qai _) qhv (show tabL 63=some vf63 from rfl) (n:=400) (g:=kdS) (qgh _ _) (qxo hk hp hh _ _ (fun h => ?_) (fun h1 h2 => ?_) (fun h1 h2 h3 => ?_) (fun h1 h2 h3 => ?_))
 ·unfold peelL;rw[if_pos h]
 ·unfold peelL;rw[if_neg (by rw[h1]; simp),if_pos h2]
 ·unfold peelL;rw[if_neg (by rw[h1]; simp),if_neg (by rw[h2]; simp),if_pos h3]
 ·unfold peelL at hn
  rw[if_neg (by rw[h1]; simp),if_neg (by rw[h2]; simp),if_neg h3] at hn
  have hl:=qfp (key:=key) hp
  have hn:nextL key p = []:=hn
  rw[hn] at hl
  cases hl
theorem qzd{key p hash:List UInt8}(hk:key.length=32)(hp:p.length=2112)(hh:hash.length=32)(hn:(peelL key p hash).2.2 = []) :
  CallTo Try.prog 64 [.agg (key.map by8),.ros (p.map by8) 0 2112 2112 false,.agg (hash.map by8)] [] (.tup [.agg (hopC (peelL key p hash).2.1),.nils,.int .i64 (peelL key p hash).1]) [] []:=by
 refine qmp qbf (qai _) qhv (show tabL 64=some vf64 from rfl) (n:=400) (g:=kdS) (qgh _ _) (qpj hk hp hh _ _ (fun h => ?_) (fun h1 h2 => ?_) (fun h1 h2 h3 => ?_) (fun h1 h2 h3 => ?_))
 ·unfold peelL;rw[if_pos h]
 ·unfold peelL;rw[if_neg (by rw[h1]; simp),if_pos h2]
 ·unfold peelL;rw[if_neg (by rw[h1]; simp),if_neg (by rw[h2]; simp),if_pos h3]
 ·unfold peelL at hn
  rw[if_neg (by rw[h1]; simp),if_neg (by rw[h2]; simp),if_neg h3] at hn
  have hl:=qfp (key:=key) hp
  have hn:nextL key p = []:=hn
  rw[hn] at hl
  cases hl
theorem q0f{key p hash:List UInt8}(hk:key.length=32)(hp:p.length=2112)(hh:hash.length=32)(hn:(peelL key p hash).2.2 ≠ []) :
  CallTo Try.prog 63 [.agg (key.map by8),.ros (p.map by8) 0 2112 2112 false,.agg (hash.map by8)] [] (.tup [.agg (hopC (peelL key p hash).2.1),.slc 0 0 2112 2112 1,.int .i64 0]) [.cells ((peelL key p hash).2.2.map by8)] []:=by
 have key':∀ (f:Prop),(tagOK key p hash=true/\qbt (hdL key p)=true/\(readH (hdL key p)).ch≠0->f)->f:=by
  intro f h
  unfold peelL at hn
  split at hn
  ·exact absurd rfl hn
  ·rename_i h1
   split at hn
   ·exact absurd rfl hn
   ·rename_i h2
    split at hn
    ·exact absurd rfl hn
    ·rename_i h3
     exact h ⟨by simpa using h1,by simpa using h2,h3⟩
 refine ql6 qbf (qai _) qhv (show tabL 63=some vf63 from rfl) (n:=400) (g:=kdS) (qxo hk hp hh _ _ (fun h => ?_) (fun h1 h2 => ?_) (fun h1 h2 h3 => ?_) (fun h1 h2 h3 => ?_))
 ·exact key' _ fun⟨a,_,_⟩=>by rw[h] at a;cases a
 ·exact key' _ fun⟨_,a,_⟩=>by rw[h2] at a;cases a
 ·exact key' _ fun⟨_,_,a⟩=>absurd h3 a
 ·unfold peelL;rw[if_neg (by rw[h1]; simp),if_neg (by rw[h2]; simp),if_neg h3]; exact⟨rfl,rfl,rfl,rfl,rfl,rfl⟩
theorem qy0{key p hash:List UInt8}(hk:key.length=32)(hp:p.length=2112)(hh:hash.length=32)(hn:(peelL key p hash).2.2 ≠ []) :
  CallTo Try.prog 64 [.agg (key.map by8),.ros (p.map by8) 0 2112 2112 false,.agg (hash.map by8)] [] (.tup [.agg (hopC (peelL key p hash).2.1),.slc 0 0 2112 2112 1,.int .i64 0]) [.cells ((peelL key p hash).2.2.map by8)] []:=by
 have key':∀ (f:Prop),(tagOK key p hash=true/\qbt (hdL key p)=true/\(readH (hdL key p)).ch≠0->f)->f:=by
  intro f h
  unfold peelL at hn
  split at hn
  ·exact absurd rfl hn
  ·rename_i h1
   split at hn
   ·exact absurd rfl hn
   ·rename_i h2
    split at hn
    ·exact absurd rfl hn
    ·rename_i h3
     exact h ⟨by simpa using h1,by simpa using h2,h3⟩
 refine ql6 qbf (qai _) qhv (show tabL 64=some vf64 from rfl) (n:=400) (g:=kdS) (qpj hk hp hh _ _ (fun h => ?_) (fun h1 h2 => ?_) (fun h1 h2 h3 => ?_) (fun h1 h2 h3 => ?_))
 ·exact key' _ fun⟨a,_,_⟩=>by rw[h] at a;cases a
 ·exact key' _ fun⟨_,a,_⟩=>by rw[h2] at a;cases a
 ·exact key' _ fun⟨_,_,a⟩=>absurd h3 a
 ·unfold peelL;rw[if_neg (by rw[h1]; simp),if_neg (by rw[h2]; simp),if_neg h3]; exact⟨rfl,rfl,rfl,rfl,rfl,rfl⟩
end
end Go.Proofs.Vm
