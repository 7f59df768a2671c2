/-
  A VERIFIED SYMBOLIC MACHINE, PART Q: the machine's code for an operation, and that it is sound.
-/
import Derived.Test.YtfmhlogapbpnbaaYnab
set_option linter.unusedVariables false
set_option linter.unusedSimpArgs false
set_option linter.unusedSectionVars false

namespace Go.Vm
set_option maxRecDepth 100000
def kdOf:TypeDesc->Kd
 | .int k => .int k
 | .bool => .bool
 | .string => .str
 | .slice _ => .slc
 | .float k => .flt k
 | _ => .any
def qp6(P:Program)(t:TypeId):Option (IntKind × Nat) :=
 match P.underlying t with
 | some (.array n e)=>match P.underlying e,P.info? e with
  | some (.int kd),some i=>if i.size=1 then some (kd,n) else none
  | _,_=>none
 | _=>none
def qr3(P:Program)(t:TypeId):Option (IntKind × Nat) :=
 match P.underlying t with
 | some (.int kd)=>some (kd,1)
 | _=>match qp6 P t,P.info? t with
  | some (kd,n),some j=>if j.size=n then some (kd,n) else none
  | _,_=>none
def qqj(P:Program):List Field->Option (List (Nat × IntKind × Nat))
 | []=>some []
 | f::fs=>match qr3 P f.type,qqj P fs with
  | some (kd,n),some segs=>if f.name = "_" then none else some ((f.offset,kd,n)::segs)
  | _,_=>none
def rowOf(P:Program)(t:TypeId):Option (Nat × List (Nat × IntKind × Nat)) :=
 match P.underlying t,P.info? t with
 | some (.array _ _),_=>match qp6 P t with
  | some (kd,n)=>some (n,[(0,kd,n)])
  | none=>none
 | some (.struct fs),some i=>if P.stoodInHeld t=false then match qqj P fs.toList with
   | some segs=>some (i.size,segs)
   | none=>none
  else none
 | _,_=>none
theorem qmb{P:Program}{t:TypeId}{kd:IntKind}{n:Nat}(h:qp6 P t=some (kd,n)):∃ e i,P.underlying t=some (.array n e)/\P.underlying e=some (.int kd)/\P.info? e=some i/\i.size=1:=by
 unfold qp6 at h
 split at h
 ·rename_i m e he
  split at h
  ·rename_i k i hk hi
   split at h
   ·rename_i h1
    cases h
    exact⟨e,i,he,hk,hi,h1⟩
   ·cases h
  ·cases h
 ·cases h
theorem qsh{P:Program}{t:TypeId}{kd:IntKind}{n:Nat}(h:qr3 P t=some (kd,n)):IntsT P t kd n:=by
 unfold qr3 at h
 split at h
 ·rename_i k hk;cases h;exact .inl ⟨hk,rfl⟩
 ·split at h
  ·rename_i k m j h1 h2
   split at h
   ·rename_i hs
    cases h
    obtain⟨e,i,a,b,c,d⟩:=qmb h1
    exact .inr ⟨e,i,j,a,b,c,d,h2,hs⟩
   ·cases h
  ·cases h
theorem qup{P:Program}{fs:List Field}{segs:List (Nat × IntKind × Nat)}(h:qqj P fs=some segs):Segs P fs segs:=by
 induction fs generalizing segs with
 | nil=>cases h;exact .nil
 | cons f fs ih =>
  unfold qqj at h
  split at h
  ·rename_i kd n sg h1 h2
   split at h
   ·cases h
   ·rename_i hn
    cases h
    exact .cons f fs kd n sg hn (qsh h1) (ih h2)
  ·cases h
theorem qps{P:Program}{t:TypeId}{n:Nat}{segs:List (Nat × IntKind × Nat)}(h:rowOf P t=some (n,segs)):RowT P t n segs:=by
 unfold rowOf at h
 split at h
 ·split at h
  ·rename_i kd m hi
   cases h
   obtain⟨e,i,a,b,c,d⟩:=qmb hi
   exact .arr t e kd n i a b c d
  ·cases h
 ·rename_i fs i ht _
  split at h
  ·rename_i hp
   split at h
   ·rename_i sg hs
    cases h
    exact .str t fs _ _ ht hp (qup hs)
   ·cases h
  ·cases h
 ·cases h
def binOf(op:BinOp)(kd:IntKind):Option VOp :=
 match op with
 | .add | .sub | .mul | .and | .or | .xor | .andNot=>some (.bin op kd)
 | .quo | .rem=>some (.div op kd)
 | .shl | .shr=>some (.shf op kd)
 | .eql | .neq | .lss | .leq | .gtr | .geq=>some (.cmp op)
def flOf(op:BinOp)(kd:FloatKind):Option VOp :=
 match op with
 | .add | .sub | .mul | .quo=>some (.fbin op kd)
 | .eql | .neq | .lss | .leq | .gtr | .geq=>some (.fcmp op kd)
 | _=>none
def negOf(op:BinOp):Option Bool :=
 match op with
 | .eql=>some false
 | .neq=>some true
 | _=>none
def extOf(P:Program)(f:Nat):Option Bool :=
 match P.funcs[f]? with
 | some fn=>match fn.body.isNone with
  | true=>if(fn.name == "runtime.NumGoroutine")=false then
    if fn.name = "math.Float64bits" /\ fn.origin = "" then some true
    else if fn.name = "math.Float64frombits" /\ fn.origin = "" then some false else none
   else none
  | false=>none
 | none=>none
theorem ql3(fn:Func)(h1:fn.name = "math.Float64bits")(h2:fn.origin = ""):Extern.findNext fn=none/\Extern.find fn=some Extern.MathFloatBits.float64bits:=by
 unfold Extern.findNext Extern.find
 simp only[h1,h2]
 exact⟨by kernel_rfl,by kernel_rfl⟩
theorem qm7(fn:Func)(h1:fn.name = "math.Float64frombits")(h2:fn.origin = ""):Extern.findNext fn=none/\Extern.find fn=some Extern.MathFloatBits.float64frombits:=by
 unfold Extern.findNext Extern.find
 simp only[h1,h2]
 exact⟨by kernel_rfl,by kernel_rfl⟩
theorem qpu{P:Program}{f:Nat}{b:Bool}(h:extOf P f=some b):∃ fn,P.funcs[f]? = some fn/\(fn.name == "runtime.NumGoroutine")=false/\fn.body.isNone=true/\Extern.findNext fn=none /\
  Extern.find fn=some (match b with|true=>Extern.MathFloatBits.float64bits|false=>Extern.MathFloatBits.float64frombits):=by
 unfold extOf at h
 split at h
 ·rename_i fn hf
  split at h
  ·rename_i hb
   split at h
   ·rename_i hn
    split at h
    ·rename_i hx
     cases h
     exact⟨fn,hf,hn,hb,(ql3 fn hx.1 hx.2).1,(ql3 fn hx.1 hx.2).2⟩
    ·split at h
     ·rename_i hx
      cases h
      exact⟨fn,hf,hn,hb,(qm7 fn hx.1 hx.2).1,(qm7 fn hx.1 hx.2).2⟩
     ·cases h
   ·cases h
  ·cases h
 ·cases h
def qtb(P:Program)(c:Call):Option (VOp × List Operand) :=
 match c.callee,c.args.toList,c.argTypes.toList with
 | .builtin .len,[x],[t]=>match P.underlying t with
  | some (.slice _)=>some (.len,[x])
  | some .string=>some (.lenT,[x])
  | some (.array n _)=>some (.lenA n,[x])
  | _=>none
 | .builtin .cap,[x],[t]=>match P.underlying t with
  | some (.slice _)=>some (.capN,[x])
  | _=>none
 | .builtin .append,[x,y],[t,u]=>match P.underlying t,P.underlying u with
  | some (.slice e),some d=>match P.info? e with
   | some j=>match j.zero with
    | some z=>if z.cells.size=j.size then match d with
      | .slice _=>some (.app j.size j.bytes,[x,y])
      | .string=>some (.app j.size j.bytes,[x,y])
      | .int _=>match toAVs z.cells.toList with
       | some zl=>some (.app0 j.size j.bytes zl,[x,y])
       | none=>none
      | _=>none
     else none
    | none=>none
   | none=>none
  | _,_=>none
 | .builtin .copy,[x,y],[t,_]=>match P.underlying t with
  | some (.slice e)=>match P.info? e with
   | some j=>some (.cpy j.size,[x,y])
   | none=>none
  | _=>none
 | .builtin .min,[x,y],_=>some (.mnx false,[x,y])
 | .builtin .max,[x,y],_=>some (.mnx true,[x,y])
 | .value (.func f),[x],_=>match extOf P f with
  | some true=>some (.f2b,[x])
  | some false=>some (.b2f,[x])
  | none=>some (.call f,[x])
 | .value (.func f),xs,_=>some (.call f,xs)
 | .value x,xs,_=>some (.callv,x::xs)
 | _,_,_=>none
def copOf(P:Program):Op->Option (VOp × List Operand)
 | .move x=>some (.mov,[x])
 | .assign x=>some (.mov,[x])
 | .pick c x y=>some (.pick,[c,x,y])
 | .alloc e=>match P.info? e with
  | some i=>match i.zero with
   | some z=>match toAVs z.cells.toList with
    | some zs=>some (.alloc zs,[])
    | none=>none
   | none=>none
  | none=>none
 | .box _ x=>some (.box,[x])
 | .load t x=>match P.underlying t,P.info? t with
  | some d,some i=>match qd4 d with
   | true=>some (.ldn i.size,[x])
   | false=>some (.ld1 (kdOf d),[x])
  | _,_=>none
 | .store t x y=>match P.underlying t,P.info? t with
  | some d,some i=>match qd4 d with
   | true=>some (.stn i.size,[x,y])
   | false=>if i.size=1 then some (.st1,[x,y]) else none
  | _,_=>none
 | .nilCheck x=>some (.nilc,[x])
 | .binOp op t x y _=>match P.underlying t with
  | some (.int kd)=>match binOf op kd with
   | some v=>some (v,[x,y])
   | none=>none
  | some (.float kd)=>match flOf op kd with
   | some v=>some (v,[x,y])
   | none=>none
  | some .string=>match negOf op with
   | some b=>some (.scmp b,[x,y])
   | none=>none
  | some .bool=>match negOf op with
   | some b=>some (.bcmp b,[x,y])
   | none=>none
  | _=>match negOf op,rowOf P t with
   | some b,some (n,segs)=>if P.eqGuardType P.depth t=false then some (.acmp b n segs,[x,y]) else none
   | _,_=>none
 | .unOp u t x=>match u,P.underlying t with
  | .not,_=>some (.not,[x])
  | .neg,some (.int kd)=>some (.bin .sub kd,[.const (.int kd 0),x])
  | .xor,some (.int kd)=>some (.bin .xor kd,[.const (.int kd (qnf kd)),x])
  | _,_=>none
 | .index t x y=>match P.underlying t with
  | some (.array n e)=>match P.underlying e,P.info? e with
   | some d,some i=>match qd4 d with
    | true=>none
    | false=>if i.size=1 then some (.ixV n (kdOf d),[x,y]) else none
   | _,_=>none
  | _=>none
 | .convert s t x=>match P.underlying s,P.underlying t with
  | some _,some (.int kd)=>some (.cvt kd,[x])
  | some (.int _),some (.float kd)=>some (.i2f kd,[x])
  | some (.float k1),some (.float k2)=>if k1=k2 then some (.fmov k2,[x]) else none
  | some .string,some (.slice e)=>match P.underlying e with
   | some (.int .u8)=>some (.s2b,[x])
   | _=>none
  | some (.slice e),some .string=>match P.underlying e with
   | some (.int .u8)=>some (.b2s,[x])
   | _=>none
  | some (.slice _),some (.slice e)=>if s=t then match P.underlying e with
    | some (.int .u8)=>some (.frz,[x])
    | _=>none
   else none
  | _,_=>none
 | .sliceToArrayPointer t x=>match P.underlying t with
  | some (.array n _)=>if n≠0 then some (.s2a n,[x]) else none
  | _=>none
 | .makeInterface t x=>match P.underlying t with
  | some (.interface _)=>none
  | some _=>some (.mkif t,[x])
  | none=>none
 | .makeFunc (.func f) xs ys=>some (.mkfn f xs.size,xs.toList++ys.toList)
 | .makeSlice t x y=>match P.underlying t with
  | some (.slice e)=>match P.info? e with
   | some j=>match j.zero with
    | some z=>match toAVs z.cells.toList with
     | some zs=>if z.cells.size=j.size then some (.mksl zs j.bytes,[x,y]) else none
     | none=>none
    | none=>none
   | none=>none
  | _=>none
 | .slice t x lo hi mx=>match P.underlying t with
  | some (.slice e)=>match P.info? e with
   | some i=>some (.slS i.size lo.isSome hi.isSome mx.isSome,slOps x lo hi mx)
   | none=>none
  | some (.array n e)=>match P.info? e,mx with
   | some i,none=>some (.slA n i.size lo.isSome hi.isSome,slOps x lo hi none)
   | _,_=>none
  | _=>none
 | .fieldAddr s x f=>match P.underlying s with
  | some (.struct fs)=>match fs[f]? with
   | some fd=>match P.info? fd.type with
    | some i=>if i.size≠0 then some (.fld fd.offset,[x]) else none
    | none=>none
   | none=>none
  | _=>none
 | .field s x f=>match P.underlying s with
  | some (.struct fs)=>match fs[f]? with
   | some fd=>match P.underlying fd.type,P.info? fd.type with
    | some d,some i=>match qd4 d with
     | true=>some (.fldn fd.offset i.size,[x])
     | false=>some (.fldv fd.offset (kdOf d),[x])
    | _,_=>none
   | none=>none
  | _=>none
 | .indexAddr t x y=>match P.underlying t with
  | some (.array n e)=>match P.info? e with
   | some i=>some (.ixA n i.size,[x,y])
   | none=>none
  | some (.slice e)=>match P.info? e with
   | some i=>some (.ixS i.size,[x,y])
   | none=>none
  | _=>none
 | .build t parts=>match P.underlying t,P.info? t with
  | some (.struct fs),some i=>match i.zero with
   | some z=>match toAVs z.cells.toList,qcg (qlr P fs) (parts.toList.map (·.1)) with
    | some zs,some pl=>if(fs.toList.all fun f=>(P.info? f.type).isSome)=true then some (.mk zs pl,parts.toList.map (·.2)) else none
    | _,_=>none
   | none=>none
  | some (.array _ e),some i=>match i.zero,P.info? e with
   | some z,some j=>match toAVs z.cells.toList,qcg (fun i=>some (i*j.size,j.size)) (parts.toList.map (·.1)) with
    | some zs,some pl=>some (.mk zs pl,parts.toList.map (·.2))
    | _,_=>none
   | _,_=>none
  | _,_=>none
 | .buildSlice t len parts=>match P.underlying t with
  | some (.slice e)=>match P.info? e with
   | some j=>if len*j.size<=2 ^ 24 then match j.zero with
     | some z=>match toAVs ((Array.range (len*j.size)).map ((if len*j.size=0 then #[] else z.cells)[·% (if len*j.size=0 then(#[]:Array Value) else z.cells).size]!)).toList,qcg (fun i=>some (i*j.size,j.size)) (parts.toList.map (·.1)) with
      | some zs,some pl=>match P.underlying e,Nat.ble 2 parts.size with
       | some (.int .u8),true=>some (.mko zs len j.size pl,parts.toList.map (·.2))
       | _,_=>some (.mks zs len pl,parts.toList.map (·.2))
      | _,_=>none
     | none=>none
    else none
   | none=>none
  | _=>none
 | .extract x i=>some (.ext i,[x])
 | .call c=>qtb P c
 | _=>none
section
variable {R:Type}{A:Alg R}{holds:R->Prop}(good:A.Good holds){P:Program}{o:Oper}{avs:List AV}{H:Hl}{cf:CallF R}{k:ExK R}(hcf:qf7 P holds cf)
include good hcf
theorem qq7{c:Call}(ho:o.op = .call c){vo:VOp}{xs:List Operand}(hc:qtb P c=some (vo,xs))(h:holds (ex A ops0 cf H vo avs k)) :
  DoesX P o (qf8 vo) xs avs H fun r H' t f=>holds (k r H' t f):=by
 obtain⟨ca,args,types⟩:=c
 obtain⟨args⟩:=args
 obtain⟨types⟩:=types
 simp only[qtb] at hc
 split at hc
 ·rename_i x t
  split at hc<;>first|cases hc|skip
  ·rename_i e he;exact(s_len good ho he h).x
  ·rename_i he;exact(q3z good ho he h).x
  ·rename_i n e he;exact(q3i ho he h good).x
 ·rename_i x t
  split at hc<;>cases hc
  rename_i e he
  exact(q4w good ho he h).x
 ·rename_i x y t u
  split at hc<;>first|cases hc|skip
  rename_i e d he hd
  split at hc<;>first|cases hc|skip
  rename_i j hj
  split at hc<;>first|cases hc|skip
  rename_i z hz
  split at hc<;>first|cases hc|skip
  rename_i hs
  split at hc<;>first|cases hc|skip
  ·rename_i e';exact(s_app good ho ⟨he,hj,hz,hs,.inl ⟨e',hd⟩⟩ h).x
  ·exact(s_app good ho ⟨he,hj,hz,hs,.inr hd⟩ h).x
  ·split at hc<;>first|cases hc|skip
   rename_i zl hzl
   exact(q3j good ho ⟨he,hj,hz,hs,⟨_,hd⟩,hzl⟩ h).x
 ·rename_i x y t u
  split at hc<;>first|cases hc|skip
  rename_i e he
  split at hc<;>first|cases hc|skip
  rename_i j hj
  exact(s_cpy good ho he hj h).x
 ·cases hc;exact(s_mnx good (mx:=false) ho h).x
 ·cases hc;exact(s_mnx good (mx:=true) ho h).x
 ·rename_i f x
  split at hc<;>cases hc
  ·rename_i he
   obtain⟨fn,h1,h2,h3,h4,h5⟩:=qpu he
   exact(s_f2b good ho h1 h2 h3 h4 h5 h).x
  ·rename_i he
   obtain⟨fn,h1,h2,h3,h4,h5⟩:=qpu he
   exact(s_b2f good ho h1 h2 h3 h4 h5 h).x
  ·exact qxx hcf ho h
 ·cases hc;exact qxx hcf ho h
 ·cases hc;exact qzh good hcf ho h
 ·cases hc
theorem qqq{vo:VOp}{xs:List Operand}(hc:copOf P o.op=some (vo,xs))(h:holds (ex A ops0 cf H vo avs k)) :
  DoesX P o (qf8 vo) xs avs H fun r H' t f=>holds (k r H' t f):=by
 generalize hop:o.op=op at hc
 cases op with
 | move x=>cases hc;exact(s_mov good (.inl hop) h).x
 | assign x=>cases hc;exact(s_mov good (.inr hop) h).x
 | pick c x y=>cases hc;exact(q1j good hop h).x
 | alloc e =>
  simp only[copOf] at hc
  split at hc<;>first|cases hc|skip
  rename_i i hi
  split at hc<;>first|cases hc|skip
  rename_i z hz
  split at hc<;>first|cases hc|skip
  rename_i zs hs
  exact(qz0 good hop hi hz hs h).x
 | box e x=>cases hc;exact(s_box good hop h).x
 | load t x =>
  simp only[copOf] at hc
  split at hc<;>first|cases hc|skip
  rename_i d i hd hi
  split at hc<;>first|cases hc|skip
  ·rename_i ha;exact(s_ldn good hop hd ha hi h).x
  ·rename_i ha;exact(s_ld1 good hop hd ha h).x
 | store t x y =>
  simp only[copOf] at hc
  split at hc<;>first|cases hc|skip
  rename_i d i hd hi
  split at hc<;>first|cases hc|skip
  ·exact(s_stn good hop hi h).x
  ·split at hc<;>first|cases hc|skip
   rename_i h1
   exact(s_st1 good hop hi h1 h).x
 | nilCheck x=>cases hc;exact(q4z good hop h).x
 | binOp op t x y yt =>
  simp only[copOf] at hc
  split at hc
  ·rename_i kd ht
   split at hc<;>first|cases hc|skip
   rename_i v hv
   unfold binOf at hv
   split at hv<;>cases hv<;>first
    | exact(s_bin good hop (by simp) h).x
    | exact(s_div good hop (by simp) h).x
    | exact(s_shf good hop (by simp) h).x
    | exact(s_cmp good hop (by simp) h).x
  ·rename_i kd ht
   split at hc<;>first|cases hc|skip
   rename_i v hv
   unfold flOf at hv
   split at hv<;>cases hv<;>first
    | exact(q4e good hop h).x
    | exact(q23 good hop (by simp) h).x
  ·rename_i ht
   split at hc<;>first|cases hc|skip
   rename_i b hb
   unfold negOf at hb
   split at hb<;>cases hb
   ·exact(qxg good (neg:=false) hop h).x
   ·exact(qxg good (neg:=true) hop h).x
  ·rename_i ht
   split at hc<;>first|cases hc|skip
   rename_i b hb
   unfold negOf at hb
   split at hb<;>cases hb
   ·exact(qyd good (neg:=false) hop ht h).x
   ·exact(qyd good (neg:=true) hop ht h).x
  ·split at hc<;>first|cases hc|skip
   rename_i b n segs hb hr
   split at hc<;>first|cases hc|skip
   rename_i hg
   unfold negOf at hb
   split at hb<;>cases hb
   ·exact(qyb good (neg:=false) hop (qps hr) hg h).x
   ·exact(qyb good (neg:=true) hop (qps hr) hg h).x
 | unOp u t x =>
  simp only[copOf] at hc
  split at hc<;>first|cases hc|skip
  ·exact(s_not good hop h).x
  ·exact(s_neg good hop h).x
  ·exact(s_com good hop h).x
 | index t x y =>
  simp only[copOf] at hc
  split at hc<;>first|cases hc|skip
  rename_i n e ht
  split at hc<;>first|cases hc|skip
  rename_i d i hd hi
  split at hc<;>first|cases hc|skip
  rename_i ha
  split at hc<;>first|cases hc|skip
  rename_i h1
  exact(s_ixV good hop ht hd ha hi h1 h).x
 | convert s t x =>
  simp only[copOf] at hc
  split at hc
  ·rename_i d kd hs ht;cases hc;exact(s_cvt good hop hs ht h).x
  ·rename_i k1 kd hs ht;cases hc;exact(s_i2f good hop hs ht h).x
  ·rename_i k1 k2 hs ht
   split at hc<;>first|cases hc|skip
   rename_i e
   subst e
   exact(q4i good hop hs ht h).x
  ·rename_i e hs ht
   split at hc<;>first|cases hc|skip
   rename_i he
   exact(s_s2b good hop hs ht he h).x
  ·rename_i e hs ht
   split at hc<;>first|cases hc|skip
   rename_i he
   exact(s_b2s good hop hs he ht h).x
  ·rename_i e1 e hs ht
   split at hc<;>first|cases hc|skip
   rename_i e2
   subst e2
   split at hc<;>first|cases hc|skip
   rename_i he
   exact(s_frz good hop ht he h).x
  ·cases hc
 | sliceToArrayPointer t x =>
  simp only[copOf] at hc
  split at hc<;>first|cases hc|skip
  rename_i n e ht
  split at hc<;>first|cases hc|skip
  rename_i hn
  exact(s_s2a good hop ht hn h).x
 | makeInterface t x =>
  simp only[copOf] at hc
  split at hc<;>first|cases hc|skip
  rename_i d hd ht
  exact(q2a good hop ht (fun ms e=>hd ms e) h).x
 | makeFunc f xs ys =>
  cases f<;>first|cases hc|skip
  exact(q3q hop h).x
 | makeSlice t x y =>
  simp only[copOf] at hc
  split at hc<;>first|cases hc|skip
  rename_i e he
  split at hc<;>first|cases hc|skip
  rename_i j hj
  split at hc<;>first|cases hc|skip
  rename_i z hz
  split at hc<;>first|cases hc|skip
  rename_i zs hs
  split at hc<;>first|cases hc|skip
  rename_i hsz
  exact(q15 good hop he hj hz hs hsz h).x
 | slice t x lo hi mx =>
  simp only[copOf] at hc
  split at hc
  ·rename_i e he
   split at hc<;>first|cases hc|skip
   rename_i i hi'
   exact(s_slS good hop he hi' h).x
  ·rename_i n e he
   split at hc<;>first|cases hc|skip
   rename_i i hi'
   exact(s_slA good hop he hi' h).x
  ·cases hc
 | fieldAddr s x f =>
  simp only[copOf] at hc
  split at hc<;>first|cases hc|skip
  rename_i fs hs
  split at hc<;>first|cases hc|skip
  rename_i fd hf
  split at hc<;>first|cases hc|skip
  rename_i i hi
  split at hc<;>first|cases hc|skip
  rename_i h0
  exact(s_fld good hop hs hf hi h0 h).x
 | field s x f =>
  simp only[copOf] at hc
  split at hc<;>first|cases hc|skip
  rename_i fs hs
  split at hc<;>first|cases hc|skip
  rename_i fd hf
  split at hc<;>first|cases hc|skip
  rename_i d i hd hi
  split at hc<;>first|cases hc|skip
  ·rename_i ha;exact(q27 good hop hs hf hd ha hi h).x
  ·rename_i ha;exact(q4x good hop hs hf hd ha h).x
 | indexAddr t x y =>
  simp only[copOf] at hc
  split at hc
  ·rename_i n e he
   split at hc<;>first|cases hc|skip
   rename_i i hi
   exact(s_ixA good hop he hi h).x
  ·rename_i e he
   split at hc<;>first|cases hc|skip
   rename_i i hi
   exact(s_ixS good hop he hi h).x
  ·cases hc
 | build t parts =>
  simp only[copOf] at hc
  split at hc
  ·rename_i fs i ht hi
   split at hc<;>first|cases hc|skip
   rename_i z hz
   split at hc<;>first|cases hc|skip
   rename_i zs pl hs hp
   split at hc<;>first|cases hc|skip
   rename_i hall
   exact(s_mkS good hop ht hi hz hs (fun f hf=>Option.isSome_iff_exists.1 (List.all_eq_true.1 hall f hf)) hp h).x
  ·rename_i n e i ht hi
   split at hc<;>first|cases hc|skip
   rename_i z j hz hj
   split at hc<;>first|cases hc|skip
   rename_i zs pl hs hp
   exact(s_mkA good hop ht hi hz hs hj hp h).x
  ·cases hc
 | buildSlice t len parts =>
  simp only[copOf] at hc
  split at hc<;>first|cases hc|skip
  rename_i e he
  split at hc<;>first|cases hc|skip
  rename_i j hj
  split at hc<;>first|cases hc|skip
  rename_i hsm
  split at hc<;>first|cases hc|skip
  rename_i z hz
  split at hc<;>first|cases hc|skip
  rename_i zs pl hs hp
  split at hc<;>cases hc
  ·exact(s_mko good hop he hj hsm hz _ rfl hs hp h).x
  ·exact(s_mks good hop he hj hsm hz _ rfl hs hp h).x
 | extract x i=>cases hc;exact(s_ext good hop h).x
 | call c=>exact qq7 good hcf hop hc h
 | _=>cases hc
end
end Go.Vm

namespace Go.Vm
set_option maxRecDepth 100000
def badO:VO:=⟨none,none,.bad,[]⟩
def voOf(P:Program)(all:Array Oper)(o:Oper):VO :=
 match copOf P o.op with
 | some (vo,xs)=>match qjl xs with
  | some as=>match o.guard with
   | none=>⟨o.dst,none,vo,as⟩
   | some (g,want)=>match (all[g]?).bind (·.dst) with
    | some d=>⟨o.dst,some (d,want),vo,as⟩
    | none=>badO
  | none=>badO
 | none=>badO
def vosOf(P:Program)(all:Array Oper):List VO:=all.toList.map (voOf P all)
structure GuardOK(all:Array Oper)(o:Oper)(v:VO):Prop where
 dst:v.dst=o.dst
 guard:(o.guard=none/\v.guard=none)∨∃ g want d,o.guard=some (g,want)/\(all[g]?).bind (·.dst)=some d/\v.guard=some (d,want)
theorem qtp(P:Program)(all:Array Oper)(o:Oper):voOf P all o=badO∨(GuardOK all o (voOf P all o)/\∃ xs,copOf P o.op=some ((voOf P all o).op,xs)/\qjl xs=some (voOf P all o).args):=by
 unfold voOf
 split
 ·rename_i vo xs hc
  split
  ·rename_i as ha
   split
   ·rename_i hg
    exact .inr ⟨⟨rfl,.inl ⟨hg,rfl⟩⟩,xs,hc,ha⟩
   ·rename_i g want hg
    split
    ·rename_i d hd
     exact .inr ⟨⟨rfl,.inr ⟨g,want,d,hg,hd,rfl⟩⟩,xs,hc,ha⟩
    ·exact .inl rfl
  ·exact .inl rfl
 ·exact .inl rfl
def qhx:List Arg->List Nat
 | [] => []
 | .t n::as=>n::qhx as
 | .c _::as=>qhx as
def qfa(v:VO):List Nat :=
 match v.guard with
 | some (d,_)=>d::qhx v.args
 | none=>qhx v.args
def hasO:Option Nat->List Nat->Bool
 | some d,l=>has d l
 | none,_=>false
def sameO:Option Nat->Option Nat->Bool
 | some d,some e=>Nat.beq d e
 | _,_=>false
def qeu(u v:VO):Bool:=hasO u.dst (qfa v) || sameO u.dst v.dst || hasO v.dst (qfa u)
def qfv(bef:List Nat)(i:Nat)(u:VO):Nat->List VO->Bool
 | _,[]=>true
 | j,v::vs=>match qeu u v with
  | true=>match (slotN bef j).testBit i with
   | true=>qfv bef i u (j+1) vs
   | false=>false
  | false=>qfv bef i u (j+1) vs
def qlz(bef:List Nat):Nat->List VO->Bool
 | _,[]=>true
 | i,u::vs=>match qfv bef i u (i+1) vs with
  | true=>qlz bef (i+1) vs
  | false=>false
theorem qnw(n:Nat)(l:List Nat):has n l=true↔n∈l:=by
 induction l with
 | nil=>simp[has]
 | cons x l ih =>
  unfold has
  cases h:Nat.beq x n
  ·have hx:x≠n:=by intro e;subst e;simp[Nat.beq_refl] at h
   simp only[ih,List.mem_cons]
   exact⟨.inr,fun h=>h.resolve_left (fun e=>hx e.symm)⟩
  ·have hx:=Nat.eq_of_beq_eq_true h
   subst hx;simp
theorem qwv(l m:List Nat):meet l m=true↔∃ x,x∈l/\x∈m:=by
 induction l with
 | nil=>simp[meet]
 | cons x l ih =>
  unfold meet
  cases h:has x m
  ·have hx:x ∉ m:=fun hm=>by have:=(qnw x m).2 hm;simp[h] at this
   simp only[ih,List.mem_cons]
   constructor
   ·rintro⟨y,a,b⟩; exact⟨y,.inr a,b⟩
   ·rintro⟨y,a|a,b⟩
    ·subst a;exact absurd b hx
    ·exact⟨y,a,b⟩
  ·have:=(qnw x m).1 h
   simp only[true_iff]
   exact⟨x,by simp,this⟩
theorem qvu(n:Nat)(l:List Nat):over n l=true↔∃ x,x∈l/\n<=x:=by
 induction l with
 | nil=>simp[over]
 | cons x l ih =>
  unfold over
  cases h:Nat.blt x n
  ·have hx:n<=x:=by
    rcases Nat.lt_or_ge x n with h'|h'
    ·have:=(qcb _ _).2 h';simp[h] at this
    ·exact h'
   simp only[true_iff]
   exact⟨x,by simp,hx⟩
  ·have hx:x<n:=(qcb _ _).1 h
   simp only[ih,List.mem_cons]
   constructor
   ·rintro⟨y,a,b⟩; exact⟨y,.inr a,b⟩
   ·rintro⟨y,a|a,b⟩
    ·subst a;omega
    ·exact⟨y,a,b⟩
theorem qqa(l:List Nat)(i:Nat):slotN l i=l[i]?.getD 0:=by
 induction l generalizing i with
 | nil=>simp[slotN]
 | cons x l ih=>cases i<;>simp[slotN,ih]
theorem qi6{bef:List Nat}{i:Nat}{u:VO}:∀ {vs:List VO} {j:Nat},qfv bef i u j vs=true->∀ k v,vs[k]? = some v->qeu u v=true->(slotN bef (j+k)).testBit i=true
 | [],_,_,k,v,hv,_=>by simp at hv
 | x::vs,j,h,k,v,hv,hc=>by
  unfold qfv at h
  cases k with
  | zero =>
   simp at hv;subst hv
   rw[hc] at h
   simp only at h
   split at h
   ·assumption
   ·cases h
  | succ k =>
   have:qfv bef i u (j+1) vs=true:=by
    split at h
    ·split at h
     ·exact h
     ·cases h
    ·exact h
   have:=qi6 this k v (by simpa using hv) hc
   rw[show j+(k+1)=j+1+k by omega]; exact this
theorem qkk{bef:List Nat}:∀ {vs:List VO} {i:Nat},qlz bef i vs=true->∀ j k u v,vs[j]? = some u->vs[k]? = some v->j<k->qeu u v=true->(slotN bef (i+k)).testBit (i+j)=true
 | [],_,_,j,k,u,v,hu,_,_,_=>by simp at hu
 | x::vs,i,h,j,k,u,v,hu,hv,hjk,hc=>by
  unfold qlz at h
  split at h
  ·rename_i h1
   cases k with
   | zero=>omega
   | succ k =>
    cases j with
    | zero =>
     simp at hu;subst hu
     have:=qi6 h1 k v (by simpa using hv) hc
     rw[show i+(k+1)=i+1+k by omega]; exact this
    | succ j =>
     have:=qkk h j k u v (by simpa using hu) (by simpa using hv) (by omega) hc
     rw[show i+(k+1)=i+1+k by omega,show i+(j+1)=i+1+j by omega]; exact this
  ·cases h
structure Tr where
 fr:Nat->Fr
 H:Nat->Hl
 r:Nat->AV
 T:Nat->List Nat
 F:Nat->List Nat
 run:Nat->Bool
structure StepAt(P:Program)(all:Array Oper)(o:Oper)(v:VO)(t:Tr)(j:Nat):Prop where
 gd:GuardOK all o v
 fr:t.fr (j+1)=setD (t.fr j) v.dst (t.r j)
 grow:(t.H j).length<=(t.H (j+1)).length
 keep:∀ b,b ∉ t.T j->(t.H (j+1))[b]? = (t.H j)[b]?
 in_:∀ b,b∈t.T j->b<(t.H (j+1)).length
 ran:t.run j=true->qeq (t.fr j) v.guard = .run/\∃ tch xs,t.T j=tch++news (t.H j).length (t.H (j+1)).length/\copOf P o.op=some (v.op,xs)/\qjl xs=some v.args /\
  StepX P o (qf8 v.op) xs (evs (t.fr j) v.args) (t.H j) (t.r j) (t.H (j+1)) tch (t.F j) /\
  (allT (scL (evs (t.fr j) v.args) (t.H j) (t.r j) (t.H (j+1)))=true->StepX P o false xs (evs (t.fr j) v.args) (t.H j) (t.r j) (t.H (j+1)) tch (t.F j))
 passed:t.run j=false->qeq (t.fr j) v.guard = .pass/\t.r j = .tup []/\t.T j = []/\t.H (j+1)=t.H j
noncomputable def oksOf(v:VO)(t:Tr)(j:Nat):List Bool:=scL (evs (t.fr j) v.args) (t.H j) (t.r j) (t.H (j+1))
noncomputable def recs(vs:Nat->VO)(t:Tr):Nat->List Rec
 | 0 => []
 | n+1=>if t.run n=true then note n (t.T n) (t.F n) (limOf (vs n).op (t.H n).length (oksOf (vs n) t n)) (recs vs t n) else recs vs t n
theorem qko{vs:Nat->VO}{t u:Tr}{n:Nat}(h:∀ j,j<n->t.run j=u.run j/\t.T j=u.T j/\t.F j=u.F j/\t.H j=u.H j/\t.fr j=u.fr j/\t.r j=u.r j/\t.H (j+1)=u.H (j+1)):recs vs t n=recs vs u n:=by
 induction n with
 | zero=>rfl
 | succ n ih =>
  obtain⟨a,b,c,d,e,f,g⟩:=h n (by omega)
  simp only[recs,oksOf,a,b,c,d,e,f,g,ih (fun j hj=>h j (by omega))]
theorem StepAt.congr{P:Program}{all:Array Oper}{o:Oper}{v:VO}{t u:Tr}{j:Nat}(h:StepAt P all o v t j)(h1:u.fr j=t.fr j)(h2:u.fr (j+1)=t.fr (j+1))(h3:u.H j=t.H j)(h4:u.H (j+1)=t.H (j+1))
  (h5:u.r j=t.r j) (h6:u.T j=t.T j) (h7:u.F j=t.F j) (h8:u.run j=t.run j):StepAt P all o v u j:=by
 obtain⟨a0,a,b,c,d,e,f⟩:=h
 rw[<-h1,<-h2,<-h5] at a
 rw[<-h3,<-h4] at b
 rw[<-h3,<-h4,<-h6] at c
 rw[<-h4,<-h6] at d
 rw[<-h1,<-h3,<-h4,<-h5,<-h6,<-h7,<-h8] at e
 rw[<-h1,<-h3,<-h4,<-h5,<-h6,<-h8] at f
 exact⟨a0,a,b,c,d,e,f⟩
def Tr.ext(t:Tr)(i:Nat)(fr:Fr)(H:Hl)(r:AV)(T F:List Nat)(run:Bool):Tr where
 fr k:=if k=i+1 then fr else t.fr k
 H k:=if k=i+1 then H else t.H k
 r k:=if k=i then r else t.r k
 T k:=if k=i then T else t.T k
 F k:=if k=i then F else t.F k
 run k:=if k=i then run else t.run k
theorem Tr.ext_old{P:Program}{all:Array Oper}{o:Oper}{v:VO}{t:Tr}{i j:Nat}{fr:Fr}{H:Hl}{r:AV}{T F:List Nat}{run:Bool}(hj:j<i)(h:StepAt P all o v t j):StepAt P all o v (t.ext i fr H r T F run) j :=
 h.congr (by simp[Tr.ext]; omega) (by simp[Tr.ext]; omega) (by simp[Tr.ext]; omega) (by simp[Tr.ext]; omega) (by simp[Tr.ext]; omega) (by simp[Tr.ext]; omega) (by simp[Tr.ext]; omega) (by simp[Tr.ext]; omega)
section
variable {R:Type}{A:Alg R}{holds:R->Prop}(good:A.Good holds){P:Program}{cf:CallF R}(hcf:qf7 P holds cf)
include good hcf
theorem qjv{k:Fr->Hl->List Nat->List Rec->R}(all:Array Oper)(vf:Nat->VO)(hvf:∀ j o,all[j]? = some o->vf j=voOf P all o)(H0:Hl)(lg0:List Nat) :
    ∀ (os:List Oper) (i:Nat) (t:Tr) (lg:List Nat),(∀ j,os[j]? = all[i+j]?)->(∀ j o,j<i->all[j]? = some o->StepAt P all o (vf j) t j) ->
      (∀ b,b∈lg0->b∈lg)->(∀ b,b<H0.length->b ∉ lg->(t.H i)[b]? = H0[b]?)->H0.length<=(t.H i).length ->
      holds (vops A ops0 cf i (os.map (voOf P all)) (t.fr i) (t.H i) lg (recs vf t i) k) ->
      ∃ t' lg',t'.fr 0=t.fr 0/\t'.H 0=t.H 0/\(∀ j o,j<i+os.length->all[j]? = some o->StepAt P all o (vf j) t' j)/\(∀ b,b∈lg0->b∈lg') /\
        (∀ b,b<H0.length->b ∉ lg'->(t'.H (i+os.length))[b]? = H0[b]?)/\H0.length<=(t'.H (i+os.length)).length /\
        holds (k (t'.fr (i+os.length)) (t'.H (i+os.length)) lg' (recs vf t' (i+os.length)))
  | [],i,t,lg,_,hold,hlg,hkeep,hgrow,h=>⟨t,lg,rfl,rfl,by simpa using hold,hlg,by simpa using hkeep,by simpa using hgrow,h⟩
  | o::os,i,t,lg,hos,hold,hlg,hkeep,hgrow,h=>by
    have ho:all[i]? = some o:=by have:=hos 0;simpa using this.symm
    have hv:vf i=voOf P all o:=hvf i o ho
    have hos':∀ j,os[j]? = all[i+1+j]? := fun j=>by
      have:=hos (j+1)
      rw[show i+(j+1)=i+1+j by omega] at this
      simpa using this
    simp only[List.map_cons] at h
    rw[<-hv] at h
    have hlen:i+(o::os).length=i+1+os.length:=by simp;omega
    rw[hlen]
    generalize hgd:qeq (t.fr i) (vf i).guard=gd at *
    have fin:∀ (fr':Fr) (H':Hl) (r:AV) (T F:List Nat) (run:Bool) (lg':List Nat),StepAt P all o (vf i) (t.ext i fr' H' r T F run) i->(∀ b,b∈lg->b∈lg')->(∀ b,b<H0.length->b ∉ lg'->H'[b]? = H0[b]?)->H0.length<=H'.length ->
        holds (vops A ops0 cf (i+1) (os.map (voOf P all)) fr' H' lg' (recs vf (t.ext i fr' H' r T F run) (i+1)) k) ->
        ∃ t' lg',t'.fr 0=t.fr 0/\t'.H 0=t.H 0/\(∀ j o,j<i+1+os.length->all[j]? = some o->StepAt P all o (vf j) t' j)/\(∀ b,b∈lg0->b∈lg') /\
          (∀ b,b<H0.length->b ∉ lg'->(t'.H (i+1+os.length))[b]? = H0[b]?)/\H0.length<=(t'.H (i+1+os.length)).length /\
          holds (k (t'.fr (i+1+os.length)) (t'.H (i+1+os.length)) lg' (recs vf t' (i+1+os.length))):=by
      intro fr' H' r T F run lg' hst hsub hk hg h
      have e1:(t.ext i fr' H' r T F run).fr (i+1)=fr':=by simp[Tr.ext]
      have e2:(t.ext i fr' H' r T F run).H (i+1)=H':=by simp[Tr.ext]
      obtain⟨t',lg2,a,b,c,d,e,f,g⟩:=qjv all vf hvf H0 lg0 os (i+1) (t.ext i fr' H' r T F run) lg' hos' (fun j o' hj ho'=>by
          rcases Nat.lt_or_ge j i with h'|h'
          · exact Tr.ext_old h' (hold j o' h' ho')
          · have:j=i:=by omega
            subst this
            rw[ho] at ho';cases ho'
            exact hst) (fun b hb=>hsub b (hlg b hb)) (by rw[e2]; exact hk) (by rw[e2]; exact hg) (by rw[e1,e2]; exact h)
      refine⟨t',lg2,a.trans (by simp[Tr.ext]),b.trans (by simp[Tr.ext]),c,d,e,f,g⟩
    unfold vops at h
    rw[hgd] at h
    cases gd with
    | bad=>exact(good.fail h).elim
    | pass =>
      have hgk:GuardOK all o (vf i):=by
        rcases qtp P all o with hb|hb
        · rw[hv,hb] at hgd;cases hgd
        · rw[hv]; exact hb.1
      refine fin (setD (t.fr i) (vf i).dst (.tup [])) (t.H i) (.tup []) [] [] false lg ⟨hgk,?_,?_,?_,?_,?_,?_⟩ (fun b hb=>hb) hkeep hgrow ?_
      · simp[Tr.ext]
      · simp[Tr.ext]
      · intro b _;simp[Tr.ext]
      · intro b hb;simp[Tr.ext] at hb
      · intro hr;simp[Tr.ext] at hr
      · intro _;refine⟨?_,?_,?_,?_⟩<;>simp[Tr.ext,hgd]
      · have e:recs vf (t.ext i (setD (t.fr i) (vf i).dst (.tup [])) (t.H i) (.tup []) [] [] false) (i+1)=recs vf t i:=by
          have:recs vf (t.ext i (setD (t.fr i) (vf i).dst (.tup [])) (t.H i) (.tup []) [] [] false) i=recs vf t i:=qko (fun j hj=>by refine⟨?_,?_,?_,?_,?_,?_,?_⟩<;>simp[Tr.ext]<;>omega)
          simp only[recs,this]
          simp[Tr.ext]
        rw[e]; exact h
    | run =>
      obtain⟨hgk,xs,hc,ha⟩:GuardOK all o (vf i)/\∃ xs,copOf P o.op=some ((vf i).op,xs)/\qjl xs=some (vf i).args:=by
        rcases qtp P all o with hb|hb
        · rw[hv,hb] at h
          exact(good.fail h).elim
        · rw[hv]; exact hb
      obtain⟨r,H',tch,ft,h,hs,hs2⟩:=qqq good hcf hc h
      rw[qay,qay,qbx,qbx] at h
      refine fin (setD (t.fr i) (vf i).dst r) H' r (tch++news (t.H i).length H'.length) ft true (tch++lg) ⟨hgk,?_,?_,?_,?_,?_,?_⟩ (fun b hb=>List.mem_append_right _ hb) ?_ (Nat.le_trans hgrow hs.grow) ?_
      · simp[Tr.ext]
      · simpa[Tr.ext] using hs.grow
      · intro b hb
        simp only[Tr.ext,if_true,List.mem_append,qe1] at hb ⊢
        rw[if_neg (by omega)]
        rcases Nat.lt_or_ge b (t.H i).length with h'|h'
        · exact hs.keep b h' fun hb'=>hb (.inl hb')
        · have:H'.length<=b:=by
            rcases Nat.lt_or_ge b H'.length with h2|h2
            · exact absurd (.inr ⟨h',h2⟩) hb
            · exact h2
          rw[List.getElem?_eq_none h',List.getElem?_eq_none this]
      · intro b hb
        simp only[Tr.ext,if_true,List.mem_append,qe1] at hb ⊢
        rcases hb with hb|hb
        · exact Nat.lt_of_lt_of_le (hs.old b hb) hs.grow
        · exact hb.2
      · intro _
        refine⟨by simpa[Tr.ext] using hgd,tch,xs,?_,hc,ha,?_,?_⟩
        · simp[Tr.ext]
        · simpa[Tr.ext] using hs
        · simpa[Tr.ext] using hs2
      · intro hr;simp[Tr.ext] at hr
      · intro b hb hn
        rw[List.mem_append] at hn
        rw[hs.keep b (Nat.lt_of_lt_of_le hb hgrow) (fun h'=>hn (.inl h'))]
        exact hkeep b hb fun h'=>hn (.inr h')
      · have e : recs vf (t.ext i (setD (t.fr i) (vf i).dst r) H' r (tch ++ news (t.H i).length H'.length) ft true) (i + 1) =
            note i (tch++news (t.H i).length H'.length) ft (limOf (vf i).op (t.H i).length (scL (evs (t.fr i) (vf i).args) (t.H i) r H')) (recs vf t i):=by
          have:recs vf (t.ext i (setD (t.fr i) (vf i).dst r) H' r (tch++news (t.H i).length H'.length) ft true) i=recs vf t i:=qko (fun j hj=>by refine⟨?_,?_,?_,?_,?_,?_,?_⟩<;>simp[Tr.ext]<;>omega)
          simp only[recs,this,oksOf]
          simp[Tr.ext]
        rw[e]; exact h
end
end Go.Vm

namespace Go.Vm
set_option maxRecDepth 100000
theorem qi3(fr:Fr)(d:Nat)(v:AV)(t:Nat):(fr.set d v)[t]? = if d=t then(if t<fr.length then some v else none) else fr[t]? := by
 by_cases h:d=t
 ·subst h
  simp only[if_true]
  by_cases hl:d<fr.length
  ·simp[hl]
  ·simp[hl]
 ·rw[if_neg h,List.getElem?_set_ne h]
theorem VRels.set{ρ:Rho}{w:World}{as:List AV}{vs:List Value}(h:VRels ρ w as vs)(i:Nat){a:AV}{v:Value}(hv:VRel ρ w a v):VRels ρ w (as.set i a) (vs.set i v) :=
 ⟨by simp[h.len],fun j b u hb hu=>by
  by_cases hj:i=j
  ·subst hj
   have hl:=h.len
   by_cases h1:i<as.length
   ·rw[List.getElem?_set_self h1] at hb
    rw[List.getElem?_set_self (by omega)] at hu
    cases hb;cases hu;exact hv
   ·rw[List.getElem?_eq_none (by simp;omega)] at hb;cases hb
  ·rw[List.getElem?_set_ne hj] at hb hu
   exact h.at_ j b u hb hu⟩
theorem qqb{ρ:Rho}{w:World}{fr:Fr}{a:Act}(h:FRel ρ w fr a.tmps)(d:Option Nat){x:AV}{v:Value}(hv:VRel ρ w x v):FRel ρ w (setD fr d x) (a.put d v).tmps:=by
 cases d with
 | none=>exact h
 | some d =>
  have:=VRels.set h d hv
  simp only[setD,Act.put,qdm,FRel]
  rw[Array.toList_setIfInBounds]
  exact this
theorem qj7(a:Act)(d:Option Nat)(v:Value):(a.put d v).defers=a.defers:=by cases d<;>rfl
theorem qj6{f g:Fr}{t:Nat}(h:f[t]? = g[t]?):slot f t=slot g t:=by rw[qn3,qn3,h]
theorem qiq{f g:Fr}:∀ {as:List Arg},(∀ t,t∈qhx as->f[t]? = g[t]?)->evs f as=evs g as
 | [],_=>rfl
 | .t n::as,h=>by
  simp only[evs,ev]
  rw[qj6 (h n (by simp[qhx])),qiq (fun t ht=>h t (by simp[qhx,ht]))]
 | .c v::as,h=>by
  simp only[evs,ev]
  rw[qiq (fun t ht=>h t (by simpa[qhx] using ht))]
theorem qnh{ρ:Rho}{w:World}{fr:Fr}{a:Act}{all:Array Oper}{o:Oper}{v:VO}(hf:FRel ρ w fr a.tmps)(hg:GuardOK all o v) :
  (qeq fr v.guard = .run->Region.wanted o (yielded all a.tmps)=true)/\(qeq fr v.guard = .pass->Region.wanted o (yielded all a.tmps)=false):=by
 rcases hg.guard with ⟨e1,e2⟩|⟨gi,want,d,e1,e2,e3⟩
 ·rw[e2]
  refine⟨fun _=>by simp[Region.wanted,e1],fun h=>by cases h⟩
 ·rw[e3]
  have hsl:=qgf hf d
  have hy:∀ b,a.tmps.getD d undef = .bool b->yielded all a.tmps gi=some b:=by
   intro b hb
   have h3:a.tmps[d]? = some (.bool b):=by
    rw[Array.getD_eq_getD_getElem?] at hb
    cases h3:a.tmps[d]? with
    | none=>rw[h3] at hb;cases hb
    | some v=>rw[h3] at hb;exact congrArg some hb
   simp[yielded,e2,h3]
  have hn:a.tmps.getD d undef = .tuple #[]->yielded all a.tmps gi=none:=by
   intro hb
   unfold yielded
   rw[e2]
   simp only[Option.bind_some]
   have h3:a.tmps[d]? = some (.tuple #[])∨a.tmps[d]? = none:=by
    rw[Array.getD_eq_getD_getElem?] at hb
    cases h3:a.tmps[d]? with
    | none=>exact .inr rfl
    | some v=>rw[h3] at hb;exact .inl (congrArg some hb)
   rcases h3 with h3|h3<;>rw[h3]
  have hw:Region.wanted o (yielded all a.tmps)=(yielded all a.tmps gi == some want):=by simp[Region.wanted,e1]
  rw[hw]
  simp only[qeq]
  generalize hx:slot fr d=x at hsl
  cases x with
  | bool b =>
   rw[hy b (qca hsl)]
   cases b<;>cases want<;>simp
  | tup l =>
   cases l with
   | nil =>
    have:a.tmps.getD d undef = .tuple #[]:=by
     generalize a.tmps.getD d undef=v at hsl
     cases hsl with
     | tup _ vs hl _ =>
      have:vs = []:=List.eq_nil_of_length_eq_zero (by simpa using hl)
      subst this;rfl
    rw[hn this]
    cases want<;>simp
   | cons=>cases want<;>constructor<;>intro h<;>cases h
  | _=>cases want<;>constructor<;>intro h<;>cases h
structure Inv(n:Nat)(vf:Nat->VO)(t:Tr)(ρ0:Rho)(w0:World)(ds:List Deferred)(D:Nat->Prop)(a:Act)(w:World):Prop where
 ex:∃ (ρ:Rho) (fr:Fr) (g:Hp),HRel ρ w g/\FRel ρ w fr a.tmps/\(∀ m,Ext m ρ0 w0 ρ w) /\
  (∀ s p,p<=n->(∀ j,j<n->(vf j).dst=some s->(D j↔j<p))->fr[s]? = (t.fr p)[s]?) /\
  (∀ b p,p<=n->(∀ j,j<n->t.run j=true->b∈t.T j->(D j↔j<p))->g b=(t.H p)[b]?)
 defers:a.defers=ds
structure Settled(n:Nat)(vf:Nat->VO)(t:Tr)(B:Nat->Nat->Prop):Prop where
 slots:∀ i j,i<j->j<n->qeu (vf i) (vf j)=true->B i j
 blocks:∀ i j,i<j->j<n->t.run i=true->t.run j=true ->
  (∃ b,(b∈t.T i/\b∈t.T j)∨(b∈t.T i/\b∈t.F j)∨(b∈t.F i/\b∈t.T j)∨((qf8 (vf i).op=true/\allT (oksOf (vf i) t i)=false)/\(t.H i).length<=b/\b∈t.T j))->B i j
theorem qg0(u v:VO):qeu u v=true↔(∃ d,u.dst=some d/\d∈qfa v)∨(∃ d,u.dst=some d/\v.dst=some d)∨∃ d,v.dst=some d/\d∈qfa u:=by
 have h1:∀ (o:Option Nat) l,hasO o l=true↔∃ d,o=some d/\d∈l:=by
  intro o l
  cases o with
  | none=>simp[hasO]
  | some d=>simp[hasO,qnw]
 have h2:∀ (o p:Option Nat),sameO o p=true↔∃ d,o=some d/\p=some d:=by
  intro o p
  cases o<;>cases p<;>simp[sameO]
  exact eq_comm
 simp only[qeu,Bool.or_eq_true,h1,h2,or_assoc]
theorem lens{n:Nat}{P:Program}{all:Array Oper}{vf:Nat->VO}{t:Tr}(hn:n=all.size)(hst:∀ j o,j<n->all[j]? = some o->StepAt P all o (vf j) t j) :
  ∀ d i,i+d<=n->(t.H i).length<=(t.H (i+d)).length
 | 0,i,_=>Nat.le_refl _
 | d+1,i,h=>by
  have hl:i+d<all.size:=by omega
  have:=(hst (i+d) all[i+d] (by omega) (by simp[hl])).grow
  exact Nat.le_trans (lens hn hst d i (by omega)) this
section
variable {P:Program}{all:Array Oper}{vf:Nat->VO}{t:Tr}{n:Nat}{ρ0:Rho}{w0:World}{ds:List Deferred}{B:Nat->Nat->Prop}
 (hn:n=all.size) (hst:∀ j o,j<n->all[j]? = some o->StepAt P all o (vf j) t j) (hB:Settled n vf t B)
include hn hst
theorem q2p{i j:Nat}(hij:i<=j)(hj:j<=n):(t.H i).length<=(t.H j).length:=by
 have:=lens hn hst (j - i) i (by omega)
 rwa [show i+(j - i)=j by omega] at this
include hB
theorem qqh{Q:Exit->Act->World->Prop}{D:Nat->Prop}{a:Act}{w:World}{j:Nat}(hj:j<n)(hnot:¬ D j)(hbef:∀ i,i<j->B i j->D i)(hclosed:∀ i,i<n->D i->∀ k,k<i->B k i->D k)
  (h:Inv n vf t ρ0 w0 ds D a w) {K:Act->World->Prop} (hK:∀ a' w',Inv n vf t ρ0 w0 ds (fun i=>D i∨i=j) a' w'->K a' w'):wpOp P all Q j K a w:=by
 have hjs:j<all.size:=by omega
 have ho:all[j]? = some all[j]:=by simp[hjs]
 generalize all[j]=o at ho
 have hs:=hst j o hj ho
 obtain⟨⟨ρ,fr,g,hg,hf,hext,hS,hH⟩,hds⟩:=h
 have ahead:∀ s,(s∈qfa (vf j)∨(vf j).dst=some s)->∀ i,i<n->(vf i).dst=some s->(D i↔i<j):=by
  intro s hs' i hi hd
  rcases Nat.lt_trichotomy i j with hlt|heq|hgt
  ·refine⟨fun _=>hlt,fun _=>hbef i hlt (hB.slots i j hlt hj ((qg0 _ _).2 ?_))⟩
   rcases hs' with hs'|hs'
   ·exact .inl ⟨s,hd,hs'⟩
   ·exact .inr (.inl ⟨s,hd,hs'⟩)
  ·subst heq;exact⟨fun hD=>absurd hD hnot,fun h=>absurd h (Nat.lt_irrefl _)⟩
  ·refine⟨fun hD=>absurd (hclosed i hi hD j hgt (hB.slots j i hgt hi ((qg0 _ _).2 ?_))) hnot,fun h=>absurd h (Nat.lt_asymm hgt)⟩
   rcases hs' with hs'|hs'
   ·exact .inr (.inr ⟨s,hd,hs'⟩)
   ·exact .inr (.inl ⟨s,hs',hd⟩)
 have hread:∀ s,s∈qfa (vf j)->fr[s]? = (t.fr j)[s]? := fun s hs'=>hS s j (by omega) (ahead s (.inl hs'))
 have after:∀ (x:AV),t.r j=x->∀ s p,p<=n->(∀ i,i<n->(vf i).dst=some s->((D i∨i=j)↔i<p))->(setD fr (vf j).dst x)[s]? = (t.fr p)[s]? := by
  intro x hx s p hp hw
  by_cases hd:(vf j).dst=some s
  ·have hjp:j<p:=(hw j hj hd).1 (.inr rfl)
   have e0:fr[s]? = (t.fr j)[s]? := hS s j (by omega) (ahead s (.inr hd))
   have e1:(setD fr (vf j).dst x)[s]? = (t.fr (j+1))[s]? := by
    rw[hs.fr,hd,hx]
    simp only[setD,qdm]
    have hl:s<fr.length↔s<(t.fr j).length:=by
     have h1:=List.getElem?_eq_none_iff (l:=fr) (i:=s)
     have h2:=List.getElem?_eq_none_iff (l:=t.fr j) (i:=s)
     rw[e0] at h1
     have:=h1.symm.trans h2
     omega
    rw[qi3,qi3]
    simp only[if_true]
    by_cases h:s<fr.length
    ·rw[if_pos h,if_pos (hl.1 h)]
    ·rw[if_neg h,if_neg (fun h'=>h (hl.2 h'))]
   rw[e1]
   have mid:∀ d,j+1+d<=p->(t.fr (j+1+d))[s]? = (t.fr (j+1))[s]? := by
    intro d
    induction d with
    | zero=>intro _;rfl
    | succ d ih =>
     intro hd'
     have hlt:j+1+d<all.size:=by omega
     have hst':=hst (j+1+d) all[j+1+d] (by omega) (by simp[hlt])
     rw[show j+1+(d+1)=(j+1+d)+1 by omega,hst'.fr]
     have hne:(vf (j+1+d)).dst≠some s:=by
      intro e
      have hD:D (j+1+d)∨j+1+d=j:=(hw (j+1+d) (by omega) e).2 (by omega)
      rcases hD with hD|hD
      ·have:=(ahead s (.inr hd) (j+1+d) (by omega) e).1 hD
       omega
      ·omega
     cases hdd:(vf (j+1+d)).dst with
     | none=>exact ih (by omega)
     | some d2 =>
      simp only[setD,qdm]
      rw[qi3,if_neg (by intro e;subst e;exact hne hdd)]
      exact ih (by omega)
   have:=mid (p - (j+1)) (by omega)
   rw[show j+1+(p - (j+1))=p by omega] at this
   exact this.symm
  ·have e:(setD fr (vf j).dst x)[s]? = fr[s]? := by
    cases hdd:(vf j).dst with
    | none=>rfl
    | some d2 =>
     simp only[setD,qdm]
     rw[qi3,if_neg (by intro e;subst e;exact hd hdd)]
   rw[e]
   refine hS s p hp fun i hi hdi => ?_
   have:=hw i hi hdi
   have hne:i≠j:=by intro e;subst e;exact hd hdi
   constructor
   ·intro hD;exact this.1 (.inl hD)
   ·intro hp'
    rcases this.2 hp' with h'|h'
    ·exact h'
    ·exact absurd h' hne
 have hgs:∀ d want,(vf j).guard=some (d,want)->d∈qfa (vf j):=by
  intro d want e;simp[qfa,e]
 have hguard:qeq fr (vf j).guard=qeq (t.fr j) (vf j).guard:=by
  cases hgd:(vf j).guard with
  | none=>rfl
  | some dw =>
   obtain⟨d,want⟩:=dw
   simp only[qeq,qj6 (hread d (hgs d want hgd))]
 have hw:=qnh hf hs.gd
 unfold wpOp
 rw[ho]
 simp only
 cases hrun:t.run j with
 | false =>
  obtain⟨p1,p2,p3,p4⟩:=hs.passed hrun
  rw[hguard] at hw
  rw[hw.2 p1]
  simp only[Bool.false_eq_true,if_false]
  refine hK _ _ ⟨⟨ρ,setD fr (vf j).dst (.tup []),g,hg,?_,hext,after _ p2,?_⟩,by rw[qj7]; exact hds⟩
  ·rw[<-hs.gd.dst]; exact qqb hf _ (qfd ρ w)
  ·intro b p hp hwr
   refine hH b p hp fun i hi hr hb => ?_
   have:=hwr i hi hr hb
   have hne:i≠j:=by intro e;subst e;rw[hrun] at hr;cases hr
   constructor
   ·intro hD;exact this.1 (.inl hD)
   ·intro hp'
    rcases this.2 hp' with h'|h'
    ·exact h'
    ·exact absurd h' hne
 | true =>
  obtain⟨p1,tch,xs,hT,hc,ha,hsx1,hsx2⟩:=hs.ran hrun
  obtain⟨cl,hcl,hsx⟩:∃ cl:Bool,(cl=true->qf8 (vf j).op=true/\allT (oksOf (vf j) t j)=false)/\StepX P o cl xs (evs (t.fr j) (vf j).args) (t.H j) (t.r j) (t.H (j+1)) tch (t.F j):=by
   cases hok:allT (oksOf (vf j) t j) with
   | true=>exact⟨false,⟨fun h=>(by cases h),hsx2 hok⟩⟩
   | false=>exact⟨qf8 (vf j).op,⟨fun h=>⟨h,rfl⟩,hsx1⟩⟩
  rw[hguard] at hw
  rw[hw.1 p1]
  simp only[if_true]
  refine .inl ?_
  have bl:∀ b,(b∈t.T j∨b∈t.F j∨(cl=true/\(t.H j).length<=b))->∀ i,i<n->t.run i=true->b∈t.T i->(D i↔i<j):=by
   intro b hb i hi hr hbi
   rcases Nat.lt_trichotomy i j with hlt|heq|hgt
   ·refine⟨fun _=>hlt,fun _ => ?_⟩
    rcases hb with hb|hb|⟨hb1,hb2⟩
    ·exact hbef i hlt (hB.blocks i j hlt hj hr hrun ⟨b,.inl ⟨hbi,hb⟩⟩)
    ·exact hbef i hlt (hB.blocks i j hlt hj hr hrun ⟨b,.inr (.inl ⟨hbi,hb⟩)⟩)
    ·have h1:i<all.size:=by omega
     have h2:=(hst i all[i] hi (by simp[h1])).in_ b hbi
     have h3:=q2p hn hst (i:=i+1) (j:=j) (by omega) (by omega)
     omega
   ·subst heq;exact⟨fun hD=>absurd hD hnot,fun h=>absurd h (Nat.lt_irrefl _)⟩
   ·refine⟨fun hD=>absurd (hclosed i hi hD j hgt ?_) hnot,fun h=>absurd h (Nat.lt_asymm hgt)⟩
    rcases hb with hb|hb|⟨hb1,hb2⟩
    ·exact hB.blocks j i hgt hi hrun hr ⟨b,.inl ⟨hb,hbi⟩⟩
    ·exact hB.blocks j i hgt hi hrun hr ⟨b,.inr (.inr (.inl ⟨hb,hbi⟩))⟩
    ·exact hB.blocks j i hgt hi hrun hr ⟨b,.inr (.inr (.inr ⟨hcl hb1,hb2,hbi⟩))⟩
  have hargs:VRels ρ w (evs (t.fr j) (vf j).args) (xs.map a.eval):=by
   rw[<-qiq (f:=fr) (g:=t.fr j)]
   ·exact qwz hf ha
   ·intro s hs'
    refine hread s ?_
    unfold qfa
    split
    ·exact List.mem_cons_of_mem _ hs'
    ·exact hs'
  refine hsx.does ρ w a g hargs (fun b hb=>hH b j (by omega) (bl b (.inr (.inl hb)))) (fun b hb=>hH b j (by omega) (bl b (.inl (by rw[hT]; exact List.mem_append_left _ hb)))) ?_ hg K Q ?_
  ·intro b hb hor
   rw[hH b j (by omega) (bl b ?_),List.getElem?_eq_none hb]
   rcases hor with hc'|hlt
   ·exact .inr (.inr ⟨hc',hb⟩)
   ·exact .inl (by rw[hT]; exact List.mem_append_right _ ((qe1 _ _ _).2 ⟨hb,hlt⟩))
  ·rintro v w' ⟨ρ',h1,h2,h3⟩
   rw[<-hT] at h1
   refine hK _ _ ⟨⟨ρ',setD fr (vf j).dst (t.r j),_,h1,?_,fun m=>(hext m).trans (h3 m),after _ rfl,?_⟩,by rw[qj7]; exact hds⟩
   ·rw[<-hs.gd.dst]; exact qqb (qix h3 hf) _ h2
   ·intro b p hp hwr
    by_cases hb:b∈t.T j
    ·have hjp:j<p:=(hwr j hj hrun hb).1 (.inr rfl)
     rw[show upd g (t.H (j+1)) (t.T j) b=(t.H (j+1))[b]? by simp[upd,hb]]
     have mid:∀ d,j+1+d<=p->(t.H (j+1+d))[b]? = (t.H (j+1))[b]? := by
      intro d
      induction d with
      | zero=>intro _;rfl
      | succ d ih =>
       intro hd'
       have hlt:j+1+d<all.size:=by omega
       have hst':=hst (j+1+d) all[j+1+d] (by omega) (by simp[hlt])
       rw[show j+1+(d+1)=(j+1+d)+1 by omega,hst'.keep b ?_]
       ·exact ih (by omega)
       ·intro hbd
        have hr:t.run (j+1+d)=true:=by
         cases hr:t.run (j+1+d) with
         | true=>rfl
         | false=>rw[(hst'.passed hr).2.2.1] at hbd;cases hbd
        have hD:D (j+1+d)∨j+1+d=j:=(hwr (j+1+d) (by omega) hr hbd).2 (by omega)
        rcases hD with hD|hD
        ·have:=(bl b (.inl hb) (j+1+d) (by omega) hr hbd).1 hD
         omega
        ·omega
     have:=mid (p - (j+1)) (by omega)
     rw[show j+1+(p - (j+1))=p by omega] at this
     exact this.symm
    ·rw[show upd g (t.H (j+1)) (t.T j) b=g b by simp[upd,hb]]
     refine hH b p hp fun i hi hr hbi => ?_
     have:=hwr i hi hr hbi
     have hne:i≠j:=by intro e;subst e;exact hb hbi
     constructor
     ·intro hD;exact this.1 (.inl hD)
     ·intro hp'
      rcases this.2 hp' with h'|h'
      ·exact h'
      ·exact absurd h' hne
end
end Go.Vm

namespace Go.Vm
set_option maxRecDepth 100000
structure Goes(W:(Exit->Act->World->Prop)->Act->World->Prop)(n0:Nat)(fr:Fr)(H:Hl)(lg:List Nat)(e:Exit)(fr':Fr)(H':Hl)(lg':List Nat):Prop where
 grow:n0<=H'.length
 sub:∀ b,b∈lg->b∈lg'
 keep:∀ b,b<n0->b ∉ lg'->H'[b]? = H[b]?
 does:∀ (ρ:Rho) (w:World) (a:Act) (Q:Exit->Act->World->Prop),HRel ρ w (fun b=>H[b]?)->FRel ρ w fr a.tmps ->
  (∀ (a':Act) (w':World) (ρ':Rho),HRel ρ' w' (fun b=>H'[b]?)->FRel ρ' w' fr' a'.tmps->a'.defers=a.defers->Ext n0 ρ w ρ' w'->Q e a' w')->W Q a w
theorem Goes.trans{W V X:(Exit->Act->World->Prop)->Act->World->Prop}{n0:Nat}{fr fr' fr'':Fr}{H H' H'':Hl}{lg lg' lg'':List Nat}{e e':Exit}
  (h:Goes W n0 fr H lg e fr' H' lg') (k:Goes V n0 fr' H' lg' e' fr'' H'' lg'')
  (hX:∀ Q a w,W (fun e1 a1 w1=>(e1=e/\V Q a1 w1)) a w->X Q a w):Goes X n0 fr H lg e' fr'' H'' lg'' where
 grow:=k.grow
 sub b hb:=k.sub b (h.sub b hb)
 keep b hb hn:=(k.keep b hb hn).trans (h.keep b hb fun h'=>hn (k.sub b h'))
 does ρ w a Q hg hf hQ:=hX Q a w (h.does ρ w a _ hg hf fun a' w' ρ' h1 h2 h3 h4 =>
  ⟨rfl,k.does ρ' w' a' Q h1 h2 fun a'' w'' ρ'' g1 g2 g3 g4=>hQ a'' w'' ρ'' g1 g2 (g3.trans h3) (h4.trans g4)⟩)
theorem Goes.weak{W X:(Exit->Act->World->Prop)->Act->World->Prop}{n0:Nat}{fr fr':Fr}{H H':Hl}{lg lg':List Nat}{e e':Exit}(h:Goes W n0 fr H lg e fr' H' lg')
  (hX:∀ (Q:Exit->Act->World->Prop) a w,W (fun e1 a1 w1=>e1=e/\Q e' a1 w1) a w->X Q a w):Goes X n0 fr H lg e' fr' H' lg' where
 grow:=h.grow
 sub:=h.sub
 keep:=h.keep
 does ρ w a Q hg hf hQ:=hX Q a w (h.does ρ w a _ hg hf fun a' w' ρ' h1 h2 h3 h4=>⟨rfl,hQ a' w' ρ' h1 h2 h3 h4⟩)
theorem qmu(on:Edge->Bool)(acc:Array Nat):∀ (es:List Edge) (s i:Nat),(es.foldl (fun s e=>if on e then s ||| 2 ^ e.on ||| acc.getD e.on 0 else s) s).testBit i=true ->
  s.testBit i=true∨∃ e,e∈es/\on e=true/\(i=e.on∨(acc.getD e.on 0).testBit i=true)
 | [],s,i,h => .inl h
 | e::es,s,i,h=>by
  simp only[List.foldl_cons] at h
  rcases qmu on acc es _ i h with h'|⟨e',h1,h2,h3⟩
  ·split at h'
   ·rename_i hon
    rw[Nat.testBit_or,Nat.testBit_or] at h'
    simp only[Bool.or_eq_true] at h'
    rcases h' with (h'|h')|h'
    ·exact .inl h'
    ·rw[Nat.testBit_two_pow] at h'
     exact .inr ⟨e,by simp,hon,.inl (of_decide_eq_true h').symm⟩
    ·exact .inr ⟨e,by simp,hon,.inr h'⟩
   ·exact .inl h'
  ·exact .inr ⟨e',List.mem_cons_of_mem _ h1,h2,h3⟩
theorem qor(ops:Array Oper)(j i:Nat)(h:((Region.before ops).getD j 0).testBit i=true) :
  ∃ o e,ops[j]? = some o/\e∈o.after/\Region.binds .any e=true/\(i=e.on∨(e.on<j/\((Region.before ops).getD e.on 0).testBit i=true)):=by
 have key:∀ (l:List Oper) (d:Nat) (acc:Array Nat),acc.size=d->(∀ k,l[k]? = ops[d+k]?) ->
   (∀ j i,(acc.getD j 0).testBit i=true->∃ o e,ops[j]? = some o/\e∈o.after/\Region.binds .any e=true/\(i=e.on∨(e.on<j/\(acc.getD e.on 0).testBit i=true))) ->
   let r:=l.foldl (fun acc o=>acc.push (o.after.foldl (fun s e=>if Region.binds .any e then s ||| 2 ^ e.on ||| acc.getD e.on 0 else s) 0)) acc
   ∀ j i,(r.getD j 0).testBit i=true->∃ o e,ops[j]? = some o/\e∈o.after/\Region.binds .any e=true/\(i=e.on∨(e.on<j/\(r.getD e.on 0).testBit i=true)):=by
  intro l
  induction l with
  | nil=>intro d acc _ _ h;exact h
  | cons o l ih =>
   intro d acc hd hl hacc
   simp only[List.foldl_cons]
   have h0:ops[d]? = some o:=by have:=hl 0;simpa using this.symm
   refine ih (d+1) _ (by simp[hd]) (fun k=>by have:=hl (k+1); rw[show d+(k+1)=d+1+k by omega] at this;simpa using this) ?_
   intro j i hji
   rcases Nat.lt_trichotomy j d with hlt|heq|hgt
   ·have e1:∀ (x:Nat),j<acc.size->(acc.push x).getD j 0=acc.getD j 0:=by
     intro x hx
     rw[Array.getD_eq_getD_getElem?,Array.getD_eq_getD_getElem?,Array.getElem?_push_lt hx]
     simp[hx]
    rw[e1 _ (by omega)] at hji
    obtain⟨o',e,a,b,c,f⟩:=hacc j i hji
    refine⟨o',e,a,b,c,?_⟩
    rcases f with f|⟨f,g⟩
    ·exact .inl f
    ·refine .inr ⟨f,?_⟩
     have he:e.on<acc.size:=by omega
     rw[Array.getD_eq_getD_getElem?,Array.getElem?_push_lt he]
     rw[Array.getD_eq_getD_getElem?] at g
     simpa[he] using g
   ·subst heq
    have e1:∀ x,(acc.push x).getD j 0=x:=by
     intro x
     rw[Array.getD_eq_getD_getElem?,<-hd,Array.getElem?_push_size]
     rfl
    rw[e1,<-Array.foldl_toList] at hji
    rcases qmu (Region.binds .any) acc _ _ i hji with h'|⟨e,h1,h2,h3⟩
    ·simp at h'
    ·refine⟨o,e,h0,by simpa using h1,h2,?_⟩
     rcases h3 with h3|h3
     ·exact .inl h3
     ·have he:e.on<acc.size:=by
       rcases Nat.lt_or_ge e.on acc.size with h|h
       ·exact h
       ·rw[Array.getD_eq_getD_getElem?,Array.getElem?_eq_none h] at h3;simp at h3
      refine .inr ⟨by omega,?_⟩
      rw[Array.getD_eq_getD_getElem?,Array.getElem?_push_lt he]
      rw[Array.getD_eq_getD_getElem?] at h3
      simpa[he] using h3
   ·have e1:∀ x,(acc.push x).getD j 0=0:=by
     intro x
     rw[Array.getD_eq_getD_getElem?,Array.getElem?_eq_none (by simp;omega)]
     rfl
    rw[e1] at hji
    simp at hji
 have:=key ops.toList 0 #[] rfl (fun k=>by simp) (fun j i h=>by simp at h) j i
 unfold Region.before at h ⊢
 rw[<-Array.foldl_toList] at h ⊢
 exact this h
def qlj:Nat->List Oper->Bool
 | _,[]=>true
 | j,o::os=>(o.after.all fun e => !(Region.binds .any e) || decide (e.on<j)) && qlj (j+1) os
theorem qkg:∀ {os:List Oper} {j:Nat},qlj j os=true->∀ k o,os[k]? = some o->∀ e,e∈o.after->Region.binds .any e=true->e.on<j+k
 | [],_,_,k,o,ho,_,_,_=>by simp at ho
 | x::os,j,h,k,o,ho,e,he,hb=>by
  simp only[qlj,Bool.and_eq_true] at h
  cases k with
  | zero =>
   simp at ho;subst ho
   have:=Array.all_eq_true_iff_forall_mem.1 h.1 e he
   simp[hb] at this
   omega
  | succ k =>
   have:=qkg h.2 k o (by simpa using ho) e he hb
   omega
def regOf(P:Program)(ops:Array Oper)(draw:Bool):VC :=
 match draw with
 | false => .reg false [] (vosOf P ops)
 | true=>match (P.follows .mixedOrders || !Region.departs ops) && qlj 0 ops.toList && qlz (Region.before ops).toList 0 (vosOf P ops) with
  | true => .reg true (Region.before ops).toList (vosOf P ops)
  | false => .reg false [] [badO]
theorem qj0(i:Nat)(t f:List Nat)(l:Option (Nat × List Bool))(rs:List Rec):(note i t f l rs=rs/\t = []/\f = []/\l=none)∨note i t f l rs=(i,t,f,l)::rs:=by
 unfold note
 split
 ·exact .inl ⟨rfl,rfl,rfl,rfl⟩
 ·exact .inr rfl
def overO(l:Option (Nat × List Bool))(T:List Nat):Bool :=
 match l with
 | none=>false
 | some (n,oks)=>over n T && !(allT oks)
section
variable {R:Type}{A:Alg R}{holds:R->Prop}(good:A.Good holds)
include good
theorem qkf{r:R}:∀ {l:List Bool},holds (qum A l r)->allT l=true/\holds r
 | [],h=>⟨rfl,h⟩
 | b::bs,h=>by
  obtain⟨h1,h2⟩:=good.chk _ _ h
  obtain⟨h3,h4⟩:=qkf h2
  subst h1
  exact⟨h3,h4⟩
theorem qnj{bef:Nat}{T F:List Nat}{i:Nat}{t f:List Nat}{l:Option (Nat × List Bool)}{rest:List Rec}{r:R}(h:holds (qdj A bef T F ((i,t,f,l)::rest) r)):holds (qdj A bef T F rest r) /\
  ((meet t T || meet t F || meet f T || overO l T)=true->bef.testBit i=true):=by
 unfold qdj at h
 split at h
 ·rename_i hc
  split at h
  ·rename_i hb;exact⟨h,fun _=>hb⟩
  ·exact(good.fail h).elim
 ·rename_i hc
  split at h
  ·refine⟨h,fun h' => ?_⟩
   rw[hc] at h'
   cases h'
  ·rename_i n oks
   split at h
   ·rename_i ho
    refine⟨h,fun h' => ?_⟩
    rw[hc] at h'
    simp only[overO,ho,Bool.false_and,Bool.or_false] at h'
    cases h'
   ·rename_i ho
    split at h
    ·rename_i hb;exact⟨h,fun _=>hb⟩
    ·obtain⟨h1,h2⟩:=qkf good h
     refine⟨h2,fun h' => ?_⟩
     rw[hc] at h'
     simp only[overO,h1,Bool.not_true,Bool.and_false,Bool.or_false] at h'
     cases h'
theorem qf3{vf:Nat->VO}{t:Tr}{bef:Nat}{T F:List Nat}{r:R}:∀ {n:Nat},holds (qdj A bef T F (recs vf t n) r)->holds r/\∀ i,i<n->t.run i=true ->
  (meet (t.T i) T || meet (t.T i) F || meet (t.F i) T || overO (limOf (vf i).op (t.H i).length (oksOf (vf i) t i)) T)=true->bef.testBit i=true
 | 0,h=>⟨h,fun i hi _ _=>by omega⟩
 | n+1,h=>by
  unfold recs at h
  by_cases hn:t.run n=true
  ·rw[if_pos hn] at h
   rcases qj0 n (t.T n) (t.F n) (limOf (vf n).op (t.H n).length (oksOf (vf n) t n)) (recs vf t n) with ⟨e,e1,e2,e3⟩|e
   ·rw[e] at h
    obtain⟨k1,k2⟩:=qf3 h
    refine⟨k1,fun i hi hr hc => ?_⟩
    by_cases hin:i=n
    ·subst hin
     rw[e1,e2,e3] at hc
     cases hc
    ·exact k2 i (by omega) hr hc
   ·rw[e] at h
    obtain⟨h1,h2⟩:=qnj good h
    obtain⟨k1,k2⟩:=qf3 h1
    refine⟨k1,fun i hi hr hc => ?_⟩
    by_cases hin:i=n
    ·subst hin;exact h2 hc
    ·exact k2 i (by omega) hr hc
  ·rw[if_neg hn] at h
   obtain⟨k1,k2⟩:=qf3 h
   refine⟨k1,fun i hi hr hc => ?_⟩
   by_cases hin:i=n
   ·subst hin;exact absurd hr hn
   ·exact k2 i (by omega) hr hc
omit good in
theorem qth(vf:Nat->VO)(t:Tr)(T F:List Nat)(i:Nat):(∃ b,(b∈t.T i/\b∈T)∨(b∈t.T i/\b∈F)∨(b∈t.F i/\b∈T)∨((qf8 (vf i).op=true/\allT (oksOf (vf i) t i)=false)/\(t.H i).length<=b/\b∈T)) ->
  (meet (t.T i) T || meet (t.T i) F || meet (t.F i) T || overO (limOf (vf i).op (t.H i).length (oksOf (vf i) t i)) T)=true:=by
 rintro⟨b,hb⟩
 simp only[Bool.or_eq_true,qwv,or_assoc]
 rcases hb with hb|hb|hb|⟨⟨h1,h4⟩,h2,h3⟩
 ·exact .inl ⟨b,hb⟩
 ·exact .inr (.inl ⟨b,hb⟩)
 ·exact .inr (.inr (.inl ⟨b,hb⟩))
 ·refine .inr (.inr (.inr ?_))
  simp only[limOf,h1,overO,h4,Bool.not_false,Bool.and_true,qvu]
  exact⟨b,h3,h2⟩
theorem qia{vf:Nat->VO}{t:Tr}{bef:List Nat}{r:R}:∀ {n:Nat},holds (qkn A bef (recs vf t n) r)->holds r/\∀ i j,i<j->j<n->t.run i=true->t.run j=true ->
  (∃ b,(b∈t.T i/\b∈t.T j)∨(b∈t.T i/\b∈t.F j)∨(b∈t.F i/\b∈t.T j)∨((qf8 (vf i).op=true/\allT (oksOf (vf i) t i)=false)/\(t.H i).length<=b/\b∈t.T j))->(slotN bef j).testBit i=true
 | 0,h=>⟨h,fun i j _ hj _ _ _=>by omega⟩
 | n+1,h=>by
  unfold recs at h
  by_cases hn:t.run n=true
  ·rw[if_pos hn] at h
   rcases qj0 n (t.T n) (t.F n) (limOf (vf n).op (t.H n).length (oksOf (vf n) t n)) (recs vf t n) with ⟨e,e1,e2,e3⟩|e
   ·rw[e] at h
    obtain⟨k1,k2⟩:=qia h
    refine⟨k1,fun i j hij hj hri hrj hc => ?_⟩
    by_cases hjn:j=n
    ·subst hjn
     obtain⟨b,hb⟩:=hc
     rw[e1,e2] at hb
     simp at hb
    ·exact k2 i j hij (by omega) hri hrj hc
   ·rw[e] at h
    unfold qkn at h
    obtain⟨h1,h2⟩:=qf3 good h
    obtain⟨k1,k2⟩:=qia h1
    refine⟨k1,fun i j hij hj hri hrj hc => ?_⟩
    by_cases hjn:j=n
    ·subst hjn
     exact h2 i hij hri (qth vf t _ _ i hc)
    ·exact k2 i j hij (by omega) hri hrj hc
  ·rw[if_neg hn] at h
   obtain⟨k1,k2⟩:=qia h
   refine⟨k1,fun i j hij hj hri hrj hc => ?_⟩
   by_cases hjn:j=n
   ·subst hjn;exact absurd hrj hn
   ·exact k2 i j hij (by omega) hri hrj hc
end
def cnt(p:Nat->Bool):Nat->Nat
 | 0=>0
 | n+1=>cnt p n+(if p n then 1 else 0)
theorem qmw{p q:Nat->Bool}{n:Nat}(h:∀ i,i<n->p i=q i):cnt p n=cnt q n:=by
 induction n with
 | zero=>rfl
 | succ n ih=>simp only[cnt,ih (fun i hi=>h i (by omega)),h n (by omega)]
theorem qvr{p q:Nat->Bool}{n i:Nat}(hi:i<n)(hp:p i=true)(hq:q i=false)(h:∀ j,j≠i->p j=q j):cnt p n=cnt q n+1:=by
 induction n with
 | zero=>omega
 | succ n ih =>
  by_cases hin:i=n
  ·subst hin
   simp only[cnt,hp,hq,if_true,Bool.false_eq_true,if_false]
   rw[qmw (p:=p) (q:=q) (fun j hj=>h j (by omega))]
  ·simp only[cnt,ih (by omega),h n (by omega)]
   omega
theorem qvv{p:Nat->Bool}{n:Nat}(h:cnt p n=0):∀ i,i<n->p i=false:=by
 induction n with
 | zero=>intro i hi;omega
 | succ n ih =>
  simp only[cnt] at h
  intro i hi
  by_cases hin:i=n
  ·subst hin
   cases hp:p i
   ·rfl
   ·simp[hp] at h
  ·exact ih (by omega) i (by omega)
theorem q01(n:Nat):cnt (fun _=>true) n=n:=by
 induction n with
 | zero=>rfl
 | succ n ih=>simp[cnt,ih]
section
variable {P:Program}{all:Array Oper}{vf:Nat->VO}{t:Tr}{n:Nat}{ρ0:Rho}{w0:World}{ds:List Deferred}{Q:Exit->Act->World->Prop}
 (hn:n=all.size) (hst:∀ j o,j<n->all[j]? = some o->StepAt P all o (vf j) t j)
include hn hst
omit hn hst in
theorem qgi{D D':Nat->Prop}(h:∀ i,i<n->(D i↔D' i)){a:Act}{w:World}(hi:Inv n vf t ρ0 w0 ds D a w):Inv n vf t ρ0 w0 ds D' a w:=by
 obtain⟨⟨ρ,fr,g,h1,h2,h3,h4,h5⟩,h6⟩:=hi
 exact⟨⟨ρ,fr,g,h1,h2,h3,fun s p hp hw=>h4 s p hp fun j hj hd=>(h j hj).trans (hw j hj hd),fun b p hp hw=>h5 b p hp fun j hj hr hb=>(h j hj).trans (hw j hj hr hb)⟩,h6⟩
theorem qpk(hB:Settled n vf t fun i j=>i<j)(hQ:∀ a w,Inv n vf t ρ0 w0 ds (fun _=>True) a w->Q .normal a w) :
  ∀ (d p:Nat) (a:Act) (w:World),p+d=n->Inv n vf t ρ0 w0 ds (fun i=>i<p) a w->wpOps P all Q (List.range' p d) a w
 | 0,p,a,w,hp,h=>hQ a w (qgi (fun i hi=>⟨fun _=>trivial,fun _=>by omega⟩) h)
 | d+1,p,a,w,hp,h=>by
  rw[List.range'_succ,wpOps_cons]
  refine qqh hn hst hB (D:=fun i=>i<p) (j:=p) (by omega) (Nat.lt_irrefl _) (fun i hi _=>hi) (fun i _ hi k hk _=>Nat.lt_trans hk hi) h fun a' w' h' => ?_
  exact qpk hB hQ d (p+1) a' w' (by omega) (qgi (fun i _=>by constructor<;>intro h<;>omega) h')
theorem qy5{bef:List Nat}(hbef:bef=(Region.before all).toList)(he:∀ j o,all[j]? = some o->∀ e,e∈o.after->Region.binds .any e=true->e.on<j)(hB:Settled n vf t fun i j=>(slotN bef j).testBit i=true)
  (hQ:∀ a w,Inv n vf t ρ0 w0 ds (fun _=>True) a w->Q .normal a w) :
  ∀ (fuel:Nat) (listed:Array Bool) (a:Act) (w:World),listed.size=n->cnt (fun i => !listed.getD i true) n=fuel ->
   (∀ j o,all[j]? = some o->listed.getD j false=true->∀ e,e∈o.after->Region.binds .any e=true->listed.getD e.on false=true) ->
   Inv n vf t ρ0 w0 ds (fun i=>listed.getD i false=true) a w->wpAny P .any all Q fuel listed a w:=by
 have hbits:∀ (listed:Array Bool),(∀ j o,all[j]? = some o->listed.getD j false=true->∀ e,e∈o.after->Region.binds .any e=true->listed.getD e.on false=true) ->
   ∀ (j:Nat) (o:Oper),all[j]? = some o->(∀ e,e∈o.after->Region.binds .any e=true->listed.getD e.on false=true)->∀ i,(slotN bef j).testBit i=true->listed.getD i false=true:=by
  intro listed hcl j
  induction j using Nat.strongRecOn with
  | _ j ih =>
   intro o ho hall i hi
   have:((Region.before all).getD j 0).testBit i=true:=by
    rw[qqa,hbef] at hi
    rw[Array.getD_eq_getD_getElem?]
    simpa using hi
   obtain⟨o',e,h1,h2,h3,h4⟩:=qor all j i this
   rw[ho] at h1;cases h1
   have hl:=hall e h2 h3
   rcases h4 with h4|⟨h4,h5⟩
   ·rw[h4]; exact hl
   ·have hes:e.on<all.size:=by
     have:=(Array.getElem?_eq_some_iff.1 ho).1
     omega
    refine ih e.on h4 all[e.on] (by simp[hes]) (hcl e.on all[e.on] (by simp[hes]) hl) i ?_
    rw[qqa,hbef]
    rw[Array.getD_eq_getD_getElem?] at h5
    simpa using h5
 have hf:∀ (listed:Array Bool) (j:Nat),listed.size=n->j<n->listed.getD j false=listed.getD j true:=by
  intro listed j hs hj
  rw[Array.getD_eq_getD_getElem?,Array.getD_eq_getD_getElem?]
  have:j<listed.size:=by omega
  simp[this]
 have hdone:∀ (listed:Array Bool),listed.size=n->Region.ready .any all listed = []->∀ j,j<n->listed.getD j false=true:=by
  intro listed hs hr j
  induction j using Nat.strongRecOn with
  | _ j ih =>
   intro hj
   cases hc:listed.getD j false with
   | true=>rfl
   | false =>
    have hjs:j<all.size:=by omega
    have:j∈Region.ready .any all listed:=by
     refine mem_ready.2 ⟨by rw[<-hf listed j hs hj]; exact hc,all[j],by simp[hjs],fun e h1 h2 => ?_⟩
     have:=he j all[j] (by simp[hjs]) e h1 h2
     exact ih e.on this (by omega)
    rw[hr] at this;cases this
 intro fuel
 induction fuel with
 | zero =>
  intro listed a w hs hc hcl hi
  have hall:∀ j,j<n->listed.getD j false=true:=fun j hj=>by
   have:=qvv hc j hj
   rw[hf listed j hs hj]
   simpa using this
  refine⟨?_,hQ a w (qgi (fun j hj=>⟨fun _=>trivial,fun _=>hall j hj⟩) hi)⟩
  apply List.eq_nil_iff_forall_not_mem.2
  intro j hj
  obtain⟨h1,o,ho,_⟩:=mem_ready.1 hj
  have hjn:j<n:=by
   have:=(Array.getElem?_eq_some_iff.1 ho).1
   omega
  have:=hall j hjn
  rw[hf listed j hs hjn] at this
  rw[h1] at this;cases this
 | succ fuel ih =>
  intro listed a w hs hc hcl hi
  refine⟨fun hr=>hQ a w (qgi (fun j hj=>⟨fun _=>trivial,fun _=>hdone listed hs hr j hj⟩) hi),fun j hj => ?_⟩
  obtain⟨h1,o,ho,hall⟩:=mem_ready.1 hj
  have hjn:j<n:=by
   have:=(Array.getElem?_eq_some_iff.1 ho).1
   omega
  have hjl:listed.getD j false=false:=by rw[hf listed j hs hjn]; exact h1
  refine qqh hn hst hB (j:=j) hjn (by rw[hjl]; simp) (fun i _ hb=>hbits listed hcl j o ho hall i hb) ?_ hi fun a' w' h' => ?_
  ·intro i hin hil k _ hb
   have his:i<all.size:=by omega
   exact hbits listed hcl i all[i] (by simp[his]) (hcl i all[i] (by simp[his]) hil) k hb
  ·have hset:∀ i d,i<n->(listed.setIfInBounds j true).getD i d=if i=j then true else listed.getD i d:=by
    intro i d hi'
    have:j<listed.size:=by omega
    by_cases h:i=j
    ·subst h
     simp[this]
    ·rw[if_neg h]
     exact getD_set_ne d (fun e=>h e.symm)
   refine ih _ a' w' (by simp[hs]) ?_ ?_ ?_
   ·have:=qvr (p:=fun i => !listed.getD i true) (q:=fun i => !(listed.setIfInBounds j true).getD i true) hjn (by simp[<-hf listed j hs hjn,hjl]) (by simp[hset j true hjn]) (fun i hi'=>by
     simp only[getD_set_ne true (fun e=>hi' e.symm)])
    omega
   ·intro i o' ho' hil e h2 h3
    have hin:i<n:=by
     have:=(Array.getElem?_eq_some_iff.1 ho').1
     omega
    refine getD_set_true ?_
    rw[hset i false hin] at hil
    split at hil
    ·rename_i e';subst e'
     rw[ho] at ho';cases ho'
     exact hall e h2 h3
    ·exact hcl i o' ho' hil e h2 h3
   ·refine qgi (fun i hi' => ?_) h'
    rw[hset i false hi']
    by_cases h:i=j
    ·subst h;simp
    ·simp[h]
end
end Go.Vm

namespace Go.Vm
set_option maxRecDepth 100000
def qaf(P:Program):Code->VC
 | .skip => .skip
 | .ret => .ret
 | .exit id => .exit id
 | .region _ ops draw=>regOf P ops draw
 | .seq a b => .seq (qaf P a) (qaf P b)
 | .cond c a b=>match argOf c with
  | some x => .cond x (qaf P a) (qaf P b)
  | none => .reg false [] [badO]
 | .block id b => .block id (qaf P b)
 | .loop b => .loop (qaf P b)
 | _ => .reg false [] [badO]
def qdt:Ex->Exit
 | .norm => .normal
 | .ret => .ret
 | .exit id => .exit id
def qd6(P:Program)(c:Code)(Q:Exit->Act->World->Prop)(a:Act)(w:World):Prop :=
 ∀ (b:Frame) (k:List Item) (cs:List Frame),∃ e a' w',Q e a' w'/\Arrives P (lone (b.at a (.code c :: .inLoop c::k)) cs w) b k cs e a' w'
theorem qd6.wp{P:Program}{c:Code}{Q:Exit->Act->World->Prop}{a:Act}{w:World}(h:qd6 P c Q a w):(Code.loop c).wp P Q a w:=fun b k cs =>
 let ⟨e,a',w',hq,harr⟩:=h b k cs
 ⟨e,a',w',hq,.of_steps (.one step_loop) harr⟩
theorem qd6.step{P:Program}{c:Code}{Q:Exit->Act->World->Prop}{a:Act}{w:World}(h:c.wp P (Exit.then (qd6 P c Q) Q) a w):qd6 P c Q a w:=by
 intro b k cs
 obtain⟨e,a₁,w₁,hq,harr⟩:=h b (.inLoop c::k) cs
 cases e with
 | normal =>
  obtain⟨e₂,a₂,w₂,hq₂,harr₂⟩:=hq b k cs
  exact⟨e₂,a₂,w₂,hq₂,.of_steps (Steps.trans harr (.one step_inLoop)) harr₂⟩
 | exit id=>exact⟨_,a₁,w₁,hq,.pass (x := .inLoop c) rfl (fun _ _ => .inl (by simp)) harr⟩
 | goto l=>exact⟨_,a₁,w₁,hq,.pass (x := .inLoop c) rfl (fun _ _ => .inl (by simp)) harr⟩
 | ret=>exact⟨_,a₁,w₁,hq,.pass (x := .inLoop c) rfl (fun _ _ => .inl (by simp)) harr⟩
 | panic ch=>exact⟨_,a₁,w₁,hq,.pass (x := .inLoop c) rfl (fun _ _ => .inl (by simp)) harr⟩
 | outgrown=>exact⟨_,a₁,w₁,hq,.pass (x := .inLoop c) rfl (fun _ _ => .inl (by simp)) harr⟩
def qam(P:Program)(n0:Nat)(b:VC)(fr:Fr)(H:Hl)(lg:List Nat)(ex:Ex)(fr':Fr)(H':Hl)(lg':List Nat):Prop :=
 ∀ c,qaf P c=b->Goes (qd6 P c) n0 fr H lg (qdt ex) fr' H' lg'
structure Alg.Fine{R:Type}(A:Alg R)(P:Program)(holds:R->Prop):Prop extends A.Good holds where
 call:qf7 P holds A.call
 loop:∀ n0 b fr H lg k u,n0<=H.length->holds (A.loop n0 b fr H lg k u)->holds (u ())∨∃ ex fr' H' lg',qam P n0 b fr H lg ex fr' H' lg'/\holds (k ex fr' H' lg')
theorem qte{n:Nat}{vf:Nat->VO}{t:Tr}{ρ0:Rho}{w0:World}{ds:List Deferred}{a:Act}{w:World}(h:Inv n vf t ρ0 w0 ds (fun _=>True) a w) :
  ∃ ρ,HRel ρ w (fun b=>(t.H n)[b]?)/\FRel ρ w (t.fr n) a.tmps/\(∀ m,Ext m ρ0 w0 ρ w)/\a.defers=ds:=by
 obtain⟨⟨ρ,fr,g,h1,h2,h3,h4,h5⟩,h6⟩:=h
 have e1:fr=t.fr n:=List.ext_getElem? fun s=>h4 s n (Nat.le_refl _) fun j hj _=>⟨fun _=>hj,fun _=>trivial⟩
 have e2:g=fun b=>(t.H n)[b]? := funext fun b=>h5 b n (Nat.le_refl _) fun j hj _ _=>⟨fun _=>hj,fun _=>trivial⟩
 subst e1;subst e2
 exact⟨ρ,h1,h2,h3,h6⟩
def RegWp(P:Program)(all:Array Oper)(draw:Bool)(Q:Exit->Act->World->Prop)(a:Act)(w:World):Prop :=
 match draw with
 | false=>wpOps P all Q (List.range all.size) a w
 | true=>∀ t,wpOps P all Q (Region.schedule (P.follows .mixedOrders) all t) a { w with drawn:=w.drawn+1 }
theorem qqw{P:Program}{o:Oper}{a:Act}{next next':Act->World->Prop}{Q Q':Exit->Act->World->Prop}(hn:∀ a w,next a w->next' a w)(hq:∀ e a w,Q e a w->Q' e a w){r:Result Next}(h:o.upon P a next Q r):o.upon P a next' Q' r:=by
 unfold Oper.upon at h ⊢
 split at h
 ·exact hn _ _ h
 ·exact hn _ _ h
 ·exact hn _ _ h
 ·refine Calls.mono h ?_
  intro e w hh
  cases e with
  | returned v=>exact hn _ _ hh
  | panicked c=>exact hq _ _ _ hh
  | outgrown=>exact let ⟨a,w,k⟩:=hh;⟨a,w,hq _ _ _ k⟩
 ·exact Rows.mono h fun v w' k=>hn _ _ k
 ·exact hq _ _ _ h
 ·exact h.elim
theorem qea{P:Program}{all:Array Oper}{Q Q':Exit->Act->World->Prop}(hq:∀ e a w,Q e a w->Q' e a w):∀ (l:List Nat) (a:Act) (w:World),wpOps P all Q l a w->wpOps P all Q' l a w
 | [],a,w,h=>hq _ _ _ h
 | i::rest,a,w,h=>by
  simp only[wpOps] at h ⊢
  split at h
  ·exact qea hq rest a w h
  ·split at h
   ·rename_i hw
    rw[if_pos hw]
    rcases h with h|⟨h1,a1,w1,h2⟩
    ·exact .inl (qqw (fun a w k=>qea hq rest a w k) hq h)
    ·exact .inr ⟨h1,a1,w1,hq _ _ _ h2⟩
   ·rename_i hw
    rw[if_neg hw]
    exact qea hq rest _ w h
theorem RegWp.mono{P:Program}{all:Array Oper}{draw:Bool}{Q Q':Exit->Act->World->Prop}{a:Act}{w:World}(h:RegWp P all draw Q a w)(hq:∀ e a w,Q e a w->Q' e a w):RegWp P all draw Q' a w:=by
 cases draw with
 | false=>exact qea hq _ a w h
 | true=>exact fun t=>qea hq _ a _ (h t)
section
variable {R:Type}{A:Alg R}{holds:R->Prop}{P:Program}{cf:CallF R}(good:A.Good holds)(hcf:qf7 P holds cf)
include good
theorem qrp{i:Nat}{fr:Fr}{H:Hl}{lg:List Nat}{rs:List Rec}{k:Fr->Hl->List Nat->List Rec->R}(h:holds (vops A ops0 cf i [badO] fr H lg rs k)):False:=good.fail h
include hcf
theorem qjy{all:Array Oper}{draw:Bool}{n0:Nat}{fr:Fr}{H:Hl}{lg:List Nat}{k:Fr->Hl->List Nat->R}(hn0:n0<=H.length)
  (h:∀ d bef vs,regOf P all draw = .reg d bef vs->holds (vops A ops0 cf 0 vs fr H lg [] fun fr H lg rs=>match d with
   | false=>k fr H lg
   | true=>qkn A bef rs (k fr H lg))) :
  ∃ fr' H' lg',Goes (RegWp P all draw) n0 fr H lg .normal fr' H' lg'/\holds (k fr' H' lg'):=by
 let vf:Nat->VO:=fun j=>(vosOf P all).getD j badO
 have hvf:∀ j o,all[j]? = some o->vf j=voOf P all o:=by
  intro j o ho
  simp[vf,vosOf,List.getD_eq_getElem?_getD,ho]
 let t0:Tr:=⟨fun _=>fr,fun _=>H,fun _ => .top,fun _ => [],fun _ => [],fun _=>false⟩
 have main:∀ (k':Fr->Hl->List Nat->List Rec->R),holds (vops A ops0 cf 0 (vosOf P all) fr H lg [] k')->∃ t lg',t.fr 0=fr/\t.H 0=H/\(∀ j o,j<all.size->all[j]? = some o->StepAt P all o (vf j) t j) /\
   (∀ b,b∈lg->b∈lg')/\(∀ b,b<H.length->b ∉ lg'->(t.H all.size)[b]? = H[b]?)/\H.length<=(t.H all.size).length/\holds (k' (t.fr all.size) (t.H all.size) lg' (recs vf t all.size)):=by
  intro k' hk'
  have:=qjv good hcf all vf hvf H lg all.toList 0 t0 lg (fun j=>by simp) (fun j o hj=>by omega) (fun b hb=>hb) (fun b _ _=>rfl) (Nat.le_refl _) hk'
  simpa using this
 have start:∀ (t:Tr) (ρ:Rho) (w w1:World) (a:Act) (D:Nat->Prop),t.fr 0=fr->t.H 0=H->(∀ j o,j<all.size->all[j]? = some o->StepAt P all o (vf j) t j)->(∀ j,j<all.size->¬ D j) ->
   HRel ρ w1 (fun b=>H[b]?)->FRel ρ w1 fr a.tmps->(∀ m,Ext m ρ w ρ w1)->Inv all.size vf t ρ w a.defers D a w1:=by
  intro t ρ w w1 a D h1 h2 hst hD hg hf hE
  refine⟨⟨ρ,fr,_,hg,hf,hE,fun s p hp hw => ?_,fun b p hp hw => ?_⟩,rfl⟩
  ·
   have mid:∀ d,d<=p->(t.fr d)[s]? = fr[s]? := by
    intro d
    induction d with
    | zero=>intro _;rw[h1]
    | succ d ih =>
     intro hd
     have hlt:d<all.size:=by omega
     have hst':=hst d all[d] hlt (by simp[hlt])
     rw[hst'.fr]
     have hne:(vf d).dst≠some s:=fun e=>hD d hlt ((hw d hlt e).2 (by omega))
     cases hdd:(vf d).dst with
     | none=>exact ih (by omega)
     | some d2 =>
      simp only[setD,qdm]
      rw[qi3,if_neg (by intro e;subst e;exact hne hdd)]
      exact ih (by omega)
   exact(mid p (Nat.le_refl _)).symm
  ·have mid:∀ d,d<=p->(t.H d)[b]? = H[b]? := by
    intro d
    induction d with
    | zero=>intro _;rw[h2]
    | succ d ih =>
     intro hd
     have hlt:d<all.size:=by omega
     have hst':=hst d all[d] hlt (by simp[hlt])
     rw[hst'.keep b ?_]
     ·exact ih (by omega)
     ·intro hb
      have hr:t.run d=true:=by
       cases hr:t.run d with
       | true=>rfl
       | false=>rw[(hst'.passed hr).2.2.1] at hb;cases hb
      exact hD d hlt ((hw d hlt hr hb).2 (by omega))
   exact(mid p (Nat.le_refl _)).symm
 cases draw with
 | false =>
  have h:=h false [] (vosOf P all) rfl
  obtain⟨t,lg',t1,t2,hst,s1,s2,s3,h⟩:=main _ h
  refine⟨t.fr all.size,t.H all.size,lg',⟨Nat.le_trans hn0 s3,s1,fun b hb hn=>s2 b (by omega) hn,?_⟩,h⟩
  intro ρ w a Q hg hf hQ
  show wpOps P all Q (List.range all.size) a w
  rw[List.range_eq_range']
  refine qpk (vf:=vf) (t:=t) (ρ0:=ρ) (w0:=w) (ds:=a.defers) rfl hst ⟨fun i j hij _ _=>hij,fun i j hij _ _ _ _=>hij⟩ ?_ all.size 0 a w (by omega) ?_
  ·intro a' w' hi
   obtain⟨ρ',g1,g2,g3,g4⟩:=qte hi
   exact hQ a' w' ρ' g1 g2 g4 (g3 n0)
  ·exact start t ρ w w a _ t1 t2 hst (fun j _=>by omega) hg hf (fun m=>Ext.refl m ρ w)
 | true =>
  unfold regOf at h
  simp only at h
  split at h
  ·rename_i hok
   simp only[Bool.and_eq_true] at hok
   have h:=h true _ _ rfl
   obtain⟨t,lg',t1,t2,hst,s1,s2,s3,h⟩:=main _ h
   obtain⟨h,hr⟩:=qia good h
   refine⟨t.fr all.size,t.H all.size,lg',⟨Nat.le_trans hn0 s3,s1,fun b hb hn=>s2 b (by omega) hn,?_⟩,h⟩
   intro ρ w a Q hg hf hQ
   show ∀ t,wpOps P all Q (Region.schedule (P.follows .mixedOrders) all t) a { w with drawn:=w.drawn+1 }
   intro tp
   have hsch:Region.schedule (P.follows .mixedOrders) all tp=Region.linearise .any all tp:=by
    unfold Region.schedule
    rw[if_pos hok.1.1]
   rw[hsch]
   unfold Region.linearise
   have hv:∀ j,j<all.size->(vosOf P all)[j]? = some (vf j):=by
    intro j hj
    simp[vf,vosOf,List.getD_eq_getElem?_getD,hj]
   refine wpAny_sound all.size tp _ a _ ?_
   refine qy5 (vf:=vf) (t:=t) (ρ0:=ρ) (w0:=w) (ds:=a.defers) rfl hst rfl (fun j o ho e h1 h2=>by
     have:=qkg hok.1.2 j o (by simpa using ho) e h1 h2
     omega) ⟨fun i j hij hj hc => ?_,fun i j hij hj hri hrj hc=>hr i j hij hj hri hrj hc⟩ ?_ all.size _ a _ (by simp) ?_ ?_ ?_
   ·have:=qkk hok.2 i j _ _ (hv i (by omega)) (hv j hj) hij hc
    simpa using this
   ·intro a' w' hi
    obtain⟨ρ',g1,g2,g3,g4⟩:=qte hi
    exact hQ a' w' ρ' g1 g2 g4 (g3 n0)
   ·rw[qmw (q:=fun _=>true) (fun i hi=>by simp[hi])]
    exact q01 _
   ·intro j o _ hl
    exfalso
    rw[Array.getD_eq_getD_getElem?] at hl
    rcases Nat.lt_or_ge j all.size with h'|h'
    ·simp[h'] at hl
    ·rw[Array.getElem?_eq_none (by simpa using h')] at hl;cases hl
   ·refine start t ρ w _ a _ t1 t2 hst ?_ (hg.drew _) (qix (qb1 ρ w _) hf) (qb1 ρ w _)
    intro j hj
    rw[Array.getD_eq_getD_getElem?]
    simp[hj]
  ·have h:=h false [] [badO] rfl
   exact(qrp good h).elim
theorem qms{id:Nat}{all:Array Oper}{draw:Bool}{n0:Nat}{fr:Fr}{H:Hl}{lg:List Nat}{k:Fr->Hl->List Nat->R}(hn0:n0<=H.length)
  (h:∀ d bef vs,regOf P all draw = .reg d bef vs->holds (vops A ops0 cf 0 vs fr H lg [] fun fr H lg rs=>match d with
   | false=>k fr H lg
   | true=>qkn A bef rs (k fr H lg))) :
  ∃ fr' H' lg',Goes ((Code.region id all draw).wp P) n0 fr H lg .normal fr' H' lg'/\holds (k fr' H' lg') :=
 let ⟨fr',H',lg',hg,hk⟩:=qjy good hcf hn0 h
 ⟨fr',H',lg',hg.weak fun Q a w hw=>by
  have hw2:RegWp P all draw Q a w:=hw.mono (fun e1 a1 w1 hq=>by obtain⟨rfl,h⟩:=hq;exact h)
  cases draw with
  | false=>exact wp_region hw2
  | true=>exact wp_region_draw hw2,hk⟩
end
end Go.Vm

namespace Go.Vm
set_option maxRecDepth 100000
def resOf(P:Program):List ResultVar->Option (List RV)
 | []=>some []
 | .tmp t::rs=>match resOf P rs with
  | some xs=>some (.tmp t::xs)
  | none=>none
 | .cell a ty::rs=>match resOf P rs,P.underlying ty,P.info? ty with
  | some xs,some d,some i=>match qd4 d with
   | true=>some (.cell a i.size::xs)
   | false=>some (.cell1 a (kdOf d)::xs)
  | _,_,_=>none
structure FnOK(P:Program)(f:Nat)(vf:VF):Prop where
 ex:∃ fn c,P.funcs[f]? = some fn/\fn.body=some c/\(fn.name == "runtime.NumGoroutine")=false/\qaf P c=vf.body/\fn.ntmps=vf.ntmps/\resOf P fn.results.toList=some vf.results
theorem FnOK.real{P:Program}{f:Nat}{vf:VF}(h:FnOK P f vf)(args:Array Value)(w:World):(callFunc f args).run P w = .ok (.enter f args) w:=by
 obtain⟨fn,c,h1,h2,h3,_⟩:=h.ex
 have h3:fn.name ≠ "runtime.NumGoroutine" := by simpa using h3
 simp[callFunc,h1,h2,h3]
def qjz(tmps:Array Value):ResultVar->Sem Value
 | .tmp t=>pure (tmps.getD t undef)
 | .cell a t=>do loadVar t (<-asAddr (tmps.getD a undef))
section
variable {R:Type}{A:Alg R}{holds:R->Prop}{P:Program}(good:A.Good holds)
include good
theorem qd2{fr:Fr}{H:Hl}:∀ {rvs:List ResultVar} {rv:List RV} {k:List AV->R},resOf P rvs=some rv->holds (results A ops0 rv fr H k) ->
  ∃ vs,holds (k vs)/\∀ (ρ:Rho) (w:World) (tmps:Array Value),HRel ρ w (fun b=>H[b]?)->FRel ρ w fr tmps ->
   ∃ us:List Value,(rvs.mapM (qjz tmps)).run P w = .ok us w/\VRels ρ w vs us
 | [],rv,k,hr,h=>by
  cases hr
  exact⟨[],h,fun ρ w tmps _ _=>⟨[],by simp,.nil⟩⟩
 | .tmp t::rs,rv,k,hr,h=>by
  simp only[resOf] at hr
  split at hr<;>first|cases hr|skip
  rename_i xs hx
  obtain⟨vs,h,hv⟩:=qd2 hx (show holds (results A ops0 xs fr H fun vs=>k (slot fr t::vs)) from h)
  refine⟨_,h,fun ρ w tmps hg hf => ?_⟩
  obtain⟨us,h1,h2⟩:=hv ρ w tmps hg hf
  exact⟨_,by simp only[List.mapM_cons,qjz,Sem.run_bind,Sem.run_pure,Result.andThen_ok,h1],.cons (qgf hf t) h2⟩
 | .cell t ty::rs,rv,k,hr,h=>by
  simp only[resOf] at hr
  split at hr<;>first|cases hr|skip
  rename_i xs d i hx hd hi
  split at hr<;>cases hr
  ·rename_i ha
   unfold results at h
   split at h
   ·rename_i b o hs
    obtain⟨cs,hb,h⟩:=qby good h
    obtain⟨hle,h⟩:=good.chk _ _ h
    have hle:o+i.size<=cs.length:=by simpa[ops0] using hle
    obtain⟨vs,h,hv⟩:=qd2 hx h
    refine⟨_,h,fun ρ w tmps hg hf => ?_⟩
    obtain⟨us,h1,h2⟩:=hv ρ w tmps hg hf
    have hp:=qgf hf t
    rw[hs] at hp
    obtain⟨B,F,c,e,lo,hi',hl,hve,hc,hsz,hfz,hli⟩:=qel hg hb hp
    obtain⟨ws,hwl,hwc,hwl2,hwo⟩:=(Lies.sub hli o i.size).values
    have hlen:((cs.drop o).take i.size).length=i.size:=by simp;omega
    have hrun:=qom hd ha hi (B:=B) (X:=F+o) (w:=w) (vs:=ws) (by omega) (fun j v hv=>by rw[qfq hc]; exact hwc j v hv)
    refine⟨.agg ws.toArray::us,?_,.cons (qci hwl hwl2) h2⟩
    simp only[List.mapM_cons,qjz,Sem.run_bind,hve,asAddr,Sem.run_pure,Result.andThen_ok,hrun,h1]
   ·exact(good.fail h).elim
  ·rename_i ha
   unfold results at h
   split at h
   ·rename_i b o hs
    obtain⟨cs,hb,h⟩:=qby good h
    obtain⟨x,hx',h⟩:=good.get _ _ _ _ h
    obtain⟨vs,h,hv⟩:=qd2 hx h
    refine⟨_,h,fun ρ w tmps hg hf => ?_⟩
    obtain⟨us,h1,h2⟩:=hv ρ w tmps hg hf
    have hp:=qgf hf t
    rw[hs] at hp
    obtain⟨B,F,c,e,lo,hi',hl,hve,hc,hsz,hfz,hli⟩:=qel hg hb hp
    obtain⟨v,hvc,_,hvr⟩:=hli o x hx'
    have hrun:=qnx hd ha ⟨B,F+o,none⟩ w (v:=v) (by rw[qfq hc]; exact hvc)
    refine⟨v::us,?_,.cons hvr h2⟩
    simp only[List.mapM_cons,qjz,Sem.run_bind,hve,asAddr,Sem.run_pure,Result.andThen_ok,hrun,h1]
   ·exact(good.fail h).elim
omit good in
theorem qws{ρ:Rho}{w:World}{vs:List AV}{us:List Value}(h:VRels ρ w vs us):VRel ρ w (pack vs) (if h:us.toArray.size=1 then us.toArray[0] else .tuple us.toArray):=by
 have hl:=h.len
 rcases vs with _|⟨x,_|⟨y,vs⟩⟩
 ·have:us = []:=List.eq_nil_of_length_eq_zero (by simpa using hl)
  subst this
  exact .tup [] [] rfl (fun i a v ha _=>by simp at ha)
 ·rcases us with _|⟨u,_|⟨v,us⟩⟩
  ·simp at hl
  ·exact h.one
  ·simp at hl
 ·rcases us with _|⟨u,_|⟨v,us⟩⟩
  ·simp at hl
  ·simp at hl
  ·exact .tup _ _ h.len h.at_
theorem qke{fn:Func}{rv:List RV}{fr:Fr}{H:Hl}{k:List AV->R}(hr:resOf P fn.results.toList=some rv)(h:holds (results A ops0 rv fr H k)) :
  ∃ vs,holds (k vs)/\∀ (ρ:Rho) (w:World) (tmps:Array Value),HRel ρ w (fun b=>H[b]?)->FRel ρ w fr tmps->∃ v,(Go.results fn tmps).run P w = .ok v w/\VRel ρ w (pack vs) v:=by
 obtain⟨vs,h,hv⟩:=qd2 good hr h
 refine⟨vs,h,fun ρ w tmps hg hf => ?_⟩
 obtain⟨us,h1,h2⟩:=hv ρ w tmps hg hf
 refine⟨_,?_,qws h2⟩
 have hm:(fn.results.mapM (qjz tmps)).run P w = .ok us.toArray w:=by
  rw[Array.mapM_eq_mapM_toList,Sem.run_map,h1]
  rfl
 show((fn.results.mapM (qjz tmps) >>= fun vs=>pure (if h:vs.size=1 then vs[0] else .tuple vs)):Sem Value).run P w=_
 rw[Sem.run_bind,hm]
 rfl
end
theorem q30(n:Nat):pad n=List.replicate n (.tup []):=by
 induction n with
 | zero=>rfl
 | succ n ih=>simp[pad,ih,List.replicate_succ]
theorem qxk{ρ:Rho}{w:World}{vals:List AV}{us:List Value}(h:VRels ρ w vals us)(n:Nat) :
  FRel ρ w (join vals (pad (n - size vals))) (us.toArray++Array.replicate (n - us.toArray.size) undef):=by
 have hl:=h.len
 rw[qbx,q30,qay]
 have:(us.toArray++Array.replicate (n - us.toArray.size) undef).toList=us++List.replicate (n - vals.length) undef:=by
  simp[hl]
 unfold FRel
 rw[this]
 refine h.append ⟨by simp,fun i a v ha hv => ?_⟩
 rw[List.getElem?_replicate] at ha hv
 split at ha
 ·rename_i hi
  rw[if_pos hi] at hv
  cases ha;cases hv
  exact qfd ρ w
 ·cases ha
section
variable {R:Type}{A:Alg R}{holds:R->Prop}{P:Program}(fine:A.Fine P holds){T:Nat->Option VF}(hT:∀ f vf,T f=some vf->FnOK P f vf)
include fine
theorem qfr{f:Nat}{vf:VF}(hfn:FnOK P f vf){vals:List AV}{H:Hl}{k:AV->Hl->List Nat->R}{n:Nat}
  (ih:∀ c n0 fr H lg (k:Ex->Fr->Hl->List Nat->R),n0<=H.length->holds (vm A ops0 T n n0 (qaf P c) fr H lg k)->∃ ex fr' H' lg',Goes (c.wp P) n0 fr H lg (qdt ex) fr' H' lg'/\holds (k ex fr' H' lg'))
  (h:holds (vcall A ops0 T n vf vals H k)):∃ r H' lg,CallTo P f vals H r H' lg/\holds (k r H' lg):=by
 have hreal:=hfn.real
 obtain⟨fn,c,hf,hb,hname,hcomp,hnt,hres⟩:=hfn.ex
 unfold vcall at h
 rw[<-hcomp,<-hnt] at h
 obtain⟨ex,fr',H',lg',hg,h⟩:=ih c (size H) _ H [] _ (by rw[qay]; exact Nat.le_refl _) h
 have fin:∀ e,(e = .normal∨e = .ret)->qdt ex=e->holds (results A ops0 vf.results fr' H' fun vs=>k (pack vs) H' lg')->∃ r H' lg,CallTo P f vals H r H' lg/\holds (k r H' lg):=by
  intro e he hee h
  obtain⟨vs,h,hv⟩:=qke fine.toGood hres h
  refine⟨_,_,_,⟨hreal,by have:=hg.grow;rwa [qay] at this,fun b hb hn=>hg.keep b (by rw[qay]; exact hb) hn,?_⟩,h⟩
  intro ρ w us hgw hvs
  refine calls_of_wp hf hb ?_
  refine hg.does ρ w _ _ hgw (qxk hvs _) fun a' w' ρ' g1 g2 g3 g4 => ?_
  obtain⟨v,h1,h2⟩:=hv ρ' w' a'.tmps g1 g2
  rw[qay] at g4
  rw[hee]
  rcases he with rfl|rfl
  ·exact⟨g3,v,h1,v,ρ',rfl,g1,h2,g4⟩
  ·exact⟨g3,v,h1,v,ρ',rfl,g1,h2,g4⟩
 cases ex with
 | norm=>exact fin .normal (.inl rfl) rfl h
 | ret=>exact fin .ret (.inr rfl) rfl h
 | exit id=>exact(fine.fail h).elim
include hT
theorem qdy:∀ (n:Nat),
  (∀ c n0 fr H lg (k:Ex->Fr->Hl->List Nat->R),n0<=H.length->holds (vm A ops0 T n n0 (qaf P c) fr H lg k)->∃ ex fr' H' lg',Goes (c.wp P) n0 fr H lg (qdt ex) fr' H' lg'/\holds (k ex fr' H' lg')) /\
  (∀ c n0 fr H lg (k:Ex->Fr->Hl->List Nat->R),n0<=H.length->holds (vm A ops0 T n n0 (.loop (qaf P c)) fr H lg k)->∃ ex fr' H' lg',Goes (qd6 P c) n0 fr H lg (qdt ex) fr' H' lg'/\holds (k ex fr' H' lg'))
 | 0=>⟨fun c n0 fr H lg k _ h=>(fine.fail h).elim,fun c n0 fr H lg k _ h=>(fine.fail h).elim⟩
 | n+1=>by
  obtain⟨ihS,ihL⟩:=qdy n
  have hcf:qf7 P holds (fun f vals H k=>match T f with
    | none=>A.call f vals H k
    | some vf=>vm A ops0 T n (size H) vf.body (join vals (pad (vf.ntmps - size vals))) H [] fun ex fr H' lg=>match ex with
     | .exit _=>A.fail
     | _=>results A ops0 vf.results fr H' fun vs=>k (pack vs) H' lg):=by
   intro f vals H k h
   simp only at h
   split at h
   ·exact fine.call f vals H k h
   ·rename_i vf hvf
    exact qfr fine (hT f vf hvf) ihS h
  have L:∀ c n0 fr H lg (k:Ex->Fr->Hl->List Nat->R),n0<=H.length->holds (vm A ops0 T (n+1) n0 (.loop (qaf P c)) fr H lg k)->∃ ex fr' H' lg',Goes (qd6 P c) n0 fr H lg (qdt ex) fr' H' lg'/\holds (k ex fr' H' lg'):=by
   intro c n0 fr H lg k hn0 h
   unfold vm at h
   rcases fine.loop _ _ _ _ _ _ _ hn0 h with h|⟨ex,fr',H',lg',h1,h2⟩
   ·obtain⟨ex,fr',H',lg',hg,h⟩:=ihS c n0 fr H lg _ hn0 h
    cases ex with
    | norm =>
     obtain⟨ex2,fr2,H2,lg2,hg2,h⟩:=ihL c n0 fr' H' lg' k hg.grow h
     exact⟨ex2,fr2,H2,lg2,hg.trans hg2 fun Q a w hw=>qd6.step (wp_mono hw (by rintro e a w ⟨rfl,h⟩; exact h)),h⟩
    | ret=>exact⟨.ret,fr',H',lg',hg.weak fun Q a w hw=>qd6.step (wp_mono hw (by rintro e a w ⟨rfl,h⟩; exact h)),h⟩
    | exit id=>exact⟨.exit id,fr',H',lg',hg.weak fun Q a w hw=>qd6.step (wp_mono hw (by rintro e a w ⟨rfl,h⟩; exact h)),h⟩
   ·exact⟨ex,fr',H',lg',h1 c rfl,h2⟩
  refine⟨?_,L⟩
  intro c n0 fr H lg k hn0 h
  cases c with
  | skip=>exact⟨.norm,fr,H,lg,⟨hn0,fun b hb=>hb,fun b _ _=>rfl,fun ρ w a Q h1 h2 hQ=>wp_skip (hQ a w ρ h1 h2 rfl (Ext.refl _ _ _))⟩,h⟩
  | ret=>exact⟨.ret,fr,H,lg,⟨hn0,fun b hb=>hb,fun b _ _=>rfl,fun ρ w a Q h1 h2 hQ=>wp_ret (hQ a w ρ h1 h2 rfl (Ext.refl _ _ _))⟩,h⟩
  | exit id=>exact⟨.exit id,fr,H,lg,⟨hn0,fun b hb=>hb,fun b _ _=>rfl,fun ρ w a Q h1 h2 hQ=>wp_exit (hQ a w ρ h1 h2 rfl (Ext.refl _ _ _))⟩,h⟩
  | region id ops draw =>
   obtain⟨fr',H',lg',hg,h⟩:=qms fine.toGood hcf (id:=id) (all:=ops) (draw:=draw) (n0:=n0) (fr:=fr) (H:=H) (lg:=lg) (k:=fun fr H lg=>k .norm fr H lg) hn0 (fun d bef vs e=>by
    have h:holds (vm A ops0 T (n+1) n0 (regOf P ops draw) fr H lg k):=h
    rw[e] at h
    exact h)
   exact⟨.norm,fr',H',lg',hg,h⟩
  | seq x y =>
   obtain⟨ex,fr',H',lg',hg,h⟩:=ihS x n0 fr H lg _ hn0 h
   cases ex with
   | norm =>
    obtain⟨ex2,fr2,H2,lg2,hg2,h⟩:=ihS y n0 fr' H' lg' k hg.grow h
    exact⟨ex2,fr2,H2,lg2,hg.trans hg2 fun Q a w hw=>wp_seq (wp_mono hw (by rintro e a w ⟨rfl,h⟩; exact h)),h⟩
   | ret=>exact⟨.ret,fr',H',lg',hg.weak fun Q a w hw=>wp_seq (wp_mono hw (by rintro e a w ⟨rfl,h⟩; exact h)),h⟩
   | exit id=>exact⟨.exit id,fr',H',lg',hg.weak fun Q a w hw=>wp_seq (wp_mono hw (by rintro e a w ⟨rfl,h⟩; exact h)),h⟩
  | cond c x y =>
   simp only[qaf] at h
   cases hc:argOf c with
   | none=>rw[hc] at h;exact(fine.fail h).elim
   | some z =>
    rw[hc] at h
    have h:holds (match ev fr z with
     | .bool true=>vm A ops0 T n n0 (qaf P x) fr H lg k
     | .bool false=>vm A ops0 T n n0 (qaf P y) fr H lg k
     | _=>A.fail):=h
    split at h
    ·rename_i hev
     obtain⟨ex,fr',H',lg',hg,h⟩:=ihS x n0 fr H lg k hn0 h
     refine⟨ex,fr',H',lg',⟨hg.grow,hg.sub,hg.keep,fun ρ w a Q h1 h2 hQ => ?_⟩,h⟩
     have:=qje h2 hc
     rw[hev] at this
     exact wp_cond_true (qca this) (hg.does ρ w a Q h1 h2 hQ)
    ·rename_i hev
     obtain⟨ex,fr',H',lg',hg,h⟩:=ihS y n0 fr H lg k hn0 h
     refine⟨ex,fr',H',lg',⟨hg.grow,hg.sub,hg.keep,fun ρ w a Q h1 h2 hQ => ?_⟩,h⟩
     have:=qje h2 hc
     rw[hev] at this
     exact wp_cond_false (qca this) (hg.does ρ w a Q h1 h2 hQ)
    ·exact(fine.fail h).elim
  | block id x =>
   replace h:=ihS x n0 fr H lg _ hn0 h
   obtain⟨ex,fr',H',lg',hg,h⟩:=h
   cases ex with
   | norm=>exact⟨.norm,fr',H',lg',hg.weak fun Q a w hw=>wp_block (wp_mono hw (by rintro e a w ⟨rfl,h⟩; exact h)),h⟩
   | ret=>exact⟨.ret,fr',H',lg',hg.weak fun Q a w hw=>wp_block (wp_mono hw (by rintro e a w ⟨rfl,h⟩; exact h)),h⟩
   | exit j =>
    simp only at h
    split at h
    ·rename_i hj
     have hj:=Nat.eq_of_beq_eq_true hj
     subst hj
     exact⟨.norm,fr',H',lg',hg.weak fun Q a w hw=>wp_block (wp_mono hw (by rintro e a w ⟨rfl,h⟩; simpa[qdt,Exit.inBlock] using h)),h⟩
    ·rename_i hj
     have hj:j≠id:=by intro e;subst e;simp[Nat.beq_refl] at hj
     exact⟨.exit j,fr',H',lg',hg.weak fun Q a w hw=>wp_block (wp_mono hw (by rintro e a w ⟨rfl,h⟩; simpa[qdt,Exit.inBlock,hj] using h)),h⟩
  | loop x =>
   obtain⟨ex,fr',H',lg',hg,h⟩:=L x n0 fr H lg k hn0 h
   exact⟨ex,fr',H',lg',hg.weak fun Q a w hw=>qd6.wp (by
    have:(fun e1 a1 w1=>e1=qdt ex/\Q (qdt ex) a1 w1)=fun e1 a1 w1=>e1=qdt ex/\Q e1 a1 w1:=by
     funext e1 a1 w1
     exact propext ⟨fun⟨a,b⟩=>⟨a,a ▸ b⟩,fun⟨a,b⟩=>⟨a,a ▸ b⟩⟩
    rw[this] at hw
    intro b k cs
    obtain⟨e,a',w',hq,harr⟩:=hw b k cs
    exact⟨e,a',w',hq.2,harr⟩),h⟩
  | _=>exact(fine.fail h).elim
theorem qdi{n:Nat}{f:Nat}{vf:VF}(hfn:FnOK P f vf){vals:List AV}{H:Hl}{k:AV->Hl->List Nat->R}(h:holds (vcall A ops0 T n vf vals H k)) :
  ∃ r H' lg,CallTo P f vals H r H' lg/\holds (k r H' lg) :=
 qfr fine hfn (qdy fine hT n).1 h
end
end Go.Vm

namespace Go.Vm
set_option maxRecDepth 100000
noncomputable section
def qdw(kd:IntKind):List AV->Option (List Int)
 | []=>some []
 | .int k n::cs=>match sameK k kd,qdw kd cs with
  | true,some l=>some (n::l)
  | _,_=>none
 | _=>none
def qmg:List AV->Option (List UInt8)
 | []=>some []
 | .int .u8 (.ofNat m)::cs=>match Nat.blt m 256,qmg cs with
  | true,some l=>some (UInt8.ofNat m::l)
  | _,_=>none
 | _=>none
theorem qb6{kd:IntKind}:∀ {cs:List AV} {l:List Int},qdw kd cs=some l->cs=l.map (AV.int kd)
 | [],l,h=>by cases h;rfl
 | c::cs,l,h=>by
  cases c with
  | int k n =>
   simp only[qdw] at h
   split at h<;>first|cases h|skip
   rename_i h1 h2
   rw[qcp h1,qb6 h2]
   rfl
  | _=>cases h
theorem qmt:∀ {cs:List AV} {l:List UInt8},qmg cs=some l->cs=l.map (fun b=>AV.int .u8 b.toNat)
 | [],l,h=>by cases h;rfl
 | c::cs,l,h=>by
  cases c with
  | int k n =>
   cases k with
   | u8 =>
    cases n with
    | ofNat m =>
     simp only[qmg] at h
     split at h<;>first|cases h|skip
     rename_i h1 h2
     have h1:=(qcb _ _).1 h1
     rw[qmt h2]
     simp only[List.map_cons]
     congr 2
     have:(UInt8.ofNat m).toNat=m:=by simp[UInt8.toNat_ofNat']; omega
     rw[this]
     rfl
    | negSucc m=>cases h
   | _=>cases h
  | _=>cases h
def stdA(R:Type)(ff:R)(call:CallF R):Alg R where
 fail:=ff
 chk b r:=match b with
  | true=>r
  | false=>ff
 br b r s:=match b with
  | true=>r
  | false=>s
 get _ cs i k:=match nth cs i with
  | some v=>k v
  | none=>ff
 flo o k:=match o with
  | some r=>k r
  | none=>ff
 fit _ _ _ _ s:=s
 ints kd cs k:=match qdw kd cs with
  | some l=>k l
  | none=>ff
 byts cs k:=match qmg cs with
  | some l=>k l
  | none=>ff
 call:=call
 loop _ _ _ _ _ _ u:=u ()
theorem qg7{R:Type}{ff:R}{call:CallF R}{P:Program}{holds:R->Prop}(h0:¬ holds ff)(hc:qf7 P holds call):(stdA R ff call).Fine P holds where
 fail:=h0
 chk b r h:=by
  cases b with
  | true=>exact⟨rfl,h⟩
  | false=>exact absurd h h0
 br b r s h:=by
  cases b with
  | true=>exact .inl ⟨rfl,h⟩
  | false=>exact .inr ⟨rfl,h⟩
 get kd cs i k h:=by
  have h:holds (match nth cs i with
   | some v=>k v
   | none=>ff):=h
  rw[qb5] at h
  split at h
  ·rename_i v e;exact⟨v,e,h⟩
  ·exact absurd h h0
 fit l n c r s h := .inr h
 flo o k h:=by
  cases o with
  | some r=>exact⟨r,rfl,h⟩
  | none=>exact absurd h h0
 ints kd cs k h:=by
  have h:holds (match qdw kd cs with
   | some l=>k l
   | none=>ff):=h
  split at h
  ·rename_i l e;exact⟨l,qb6 e,h⟩
  ·exact absurd h h0
 byts cs k h:=by
  have h:holds (match qmg cs with
   | some l=>k l
   | none=>ff):=h
  split at h
  ·rename_i l e;exact⟨l,qmt e,h⟩
  ·exact absurd h h0
 call:=hc
 loop n0 b fr H lg k u _ h := .inl h
abbrev Con:=Nat->List AV->Hl->Option (AV × Hl × List Nat)
def ConOK(P:Program)(C:Con):Prop:=∀ f vals H r H' lg,C f vals H=some (r,H',lg)->CallTo P f vals H r H' lg
def conF{R:Type}(ff:R)(C:Con):CallF R:=fun f vals H k=>match C f vals H with
 | some (r,H',lg)=>k r H' lg
 | none=>ff
theorem qk3{R:Type}{ff:R}{P:Program}{holds:R->Prop}(h0:¬ holds ff){C:Con}(hC:ConOK P C):qf7 P holds (conF ff C):=by
 intro f vals H k h
 unfold conF at h
 split at h
 ·rename_i r H' lg e;exact⟨r,H',lg,hC _ _ _ _ _ _ e,h⟩
 ·exact absurd h h0
def noCon:Con:=fun _ _ _=>none
theorem qbe(P:Program):ConOK P noCon:=fun _ _ _ _ _ _ h=>by cases h
def vfOf(P:Program)(fn:Func):Option VF :=
 match fn.body,resOf P fn.results.toList with
 | some c,some rv=>some ⟨fn.ntmps,rv,qaf P c⟩
 | _,_=>none
theorem FnOK.of{P:Program}{f:Nat}{fn:Func}{vf:VF}(h1:P.funcs[f]? = some fn)(h2:(fn.name == "runtime.NumGoroutine")=false)(h3:vfOf P fn=some vf):FnOK P f vf:=by
 unfold vfOf at h3
 split at h3
 ·rename_i c rv hb hr
  cases h3
  exact⟨fn,c,h1,hb,h2,rfl,rfl,hr⟩
 ·cases h3
abbrev Tab:=List (Option VF)
def tabF(t:Tab)(f:Nat):Option VF:=match nth t f with
 | some v=>v
 | none=>none
end
end Go.Vm

namespace Go.Vm
set_option maxRecDepth 100000
noncomputable section
abbrev Out:=AV × Hl × List Nat
def optA(C:Con):Alg (Option Out):=stdA (Option Out) none (conF none C)
def outK:AV->Hl->List Nat->Option Out:=fun r H lg=>some (r,H,lg)
theorem qpl{P:Program}{C:Con}(hC:ConOK P C){T:Nat->Option VF}(hT:∀ f vf,T f=some vf->FnOK P f vf){f n:Nat}{vf:VF}(hf:T f=some vf){vals:List AV}{H H':Hl}{r:AV}{lg:List Nat}
  (h:vcall (optA C) ops0 T n vf vals H outK=some (r,H',lg)):CallTo P f vals H r H' lg:=by
 have hfine:(optA C).Fine P (fun x=>x=some (r,H',lg)):=qg7 (by simp) (qk3 (by simp) hC)
 obtain⟨r1,H1,lg1,hc,e⟩:=qdi hfine hT (hT f vf hf) (holds:=fun x=>x=some (r,H',lg)) h
 cases e
 exact hc
def opsW(β σ:BinOp->Int->Int->Int):Ops := { ops0 with
  bin:=fun op k x y=>match k with
    | .u64=>β op x y
    | k=>bin0 op k x y
  shf:=fun op k x y=>match k with
    | .u64=>σ op x y
    | k=>shf0 op k x y }
theorem qou:opsW (fun op=>bin0 op .u64) (fun op=>shf0 op .u64)=ops0:=by
 have h1:(opsW (fun op=>bin0 op .u64) (fun op=>shf0 op .u64)).bin=ops0.bin:=by
  funext op k x y
  cases k<;>rfl
 have h2:(opsW (fun op=>bin0 op .u64) (fun op=>shf0 op .u64)).shf=ops0.shf:=by
  funext op k x y
  cases k<;>rfl
 show { ops0 with bin:=(opsW (fun op=>bin0 op .u64) (fun op=>shf0 op .u64)).bin,shf:=(opsW (fun op=>bin0 op .u64) (fun op=>shf0 op .u64)).shf }=ops0
 rw[h1,h2]
end
end Go.Vm

namespace Go.Vm
set_option maxRecDepth 100000
noncomputable section
mutual
def ren(σ:Nat->Option Nat)(φ:Nat->Option (List AV))(kp:Bool):AV->AV
 | .ptr b o=>match σ b with
  | some c => .ptr c o
  | none => .top
 | .slc b o len cap sz=>match σ b with
  | some c => .slc c o len cap sz
  | none=>match φ b with
   | some cs => .ros cs o len cap false
   | none => .top
 | .ros cs o len cap e=>match kp with
  | true => .ros (renL σ φ true cs) o len cap e
  | false=>match cs with
   | [] => .ros [] o len cap e
   | _ => .top
 | .rop cs o=>match kp with
  | true => .rop (renL σ φ true cs) o
  | false => .top
 | .agg cs => .agg (renL σ φ kp cs)
 | .tup cs => .tup (renL σ φ kp cs)
 | .fn f xs ys => .fn f (renL σ φ kp xs) (renL σ φ kp ys)
 | .ifc t v => .ifc t (ren σ φ kp v)
 | .top => .top
 | .bool b => .bool b
 | .int k n => .int k n
 | .flt k n => .flt k n
 | .str s => .str s
 | .nilp => .nilp
 | .nils => .nils
 | .nilf => .nilf
 | .nili => .nili
def renL(σ:Nat->Option Nat)(φ:Nat->Option (List AV))(kp:Bool):List AV->List AV
 | [] => []
 | x::xs=>ren σ φ kp x::renL σ φ kp xs
end
theorem qek(σ:Nat->Option Nat)(φ:Nat->Option (List AV))(kp:Bool)(cs:List AV)(i:Nat):(renL σ φ kp cs)[i]? = (cs[i]?).map (ren σ φ kp):=by
 induction cs generalizing i with
 | nil=>simp[renL]
 | cons x cs ih=>cases i<;>simp[renL,ih]
theorem qbs(σ:Nat->Option Nat)(φ:Nat->Option (List AV))(kp:Bool)(cs:List AV):(renL σ φ kp cs).length=cs.length:=by
 induction cs with
 | nil=>simp[renL]
 | cons x cs ih=>simp[renL,ih]
theorem qh5(σ:Nat->Option Nat)(φ:Nat->Option (List AV))(kp:Bool)(cs:List AV):renL σ φ kp cs = []↔cs = []:=by
 cases cs<;>simp[renL]
structure Views(ρ ρ':Rho)(w:World)(σ:Nat->Option Nat)(φ:Nat->Option (List AV)):Prop where
 at_:∀ b cs,σ b=none->φ b=some cs->(ρ b = .void/\cs = [])∨ρ b = .dead∨∃ B F,∃ vs:List Value,ρ b = .live B F/\B<w.heap.size/\(∀ c F',ρ' c ≠ .live B F')/\vs.length=cs.length/\(∀ v∈vs,vone v=true) /\
  (∀ i v,vs[i]? = some v->w.cell? ⟨B,F+i,none⟩=some v)/\(∀ (i:Nat) (a:AV) (v:Value),cs[i]? = some a->vs[i]? = some v->VRel ρ' w a v)
 dead:∀ b cs,φ b=some cs->ρ b ≠ .dead
theorem qhn{ρ ρ':Rho}{w:World}{σ:Nat->Option Nat}{φ:Nat->Option (List AV)}{kp:Bool}(hσ:∀ b c,σ b=some c->ρ' c=ρ b)(hown:kp=true->∀ c B F,ρ' c = .live B F->∃ b F',ρ b = .live B F')(hφ:Views ρ ρ' w σ φ){a:AV}{v:Value}
  (h:VRel ρ w a v):VRel ρ' w (ren σ φ kp a) v:=by
 have hlist:∀ (cs:List AV) (vs:List Value),(∀ (i:Nat) (a:AV) (v:Value),cs[i]? = some a->vs[i]? = some v->VRel ρ' w (ren σ φ kp a) v) ->
   ∀ (i:Nat) (a:AV) (v:Value),(renL σ φ kp cs)[i]? = some a->vs[i]? = some v->VRel ρ' w a v:=by
  intro cs vs h i a v ha hv
  rw[qek] at ha
  obtain⟨x,hx,e⟩:=Option.map_eq_some_iff.1 ha
  subst e
  exact h i x v hx hv
 induction h with
 | top v=>exact .top v
 | bool b=>exact .bool b
 | int k n=>exact .int k n
 | flt k n=>exact .flt k n
 | str s=>exact .str s
 | nilp=>exact .nilp
 | ptr b o v h0 h1 hs h =>
  simp only[ren]
  split
  ·rename_i c hc
   have e:=hσ b c hc
   exact .ptr c o v (by rw[e]; exact h0) (by rw[e]; exact h1) hs (by rw[e]; exact h)
  ·exact .top v
 | nils=>exact .nils
 | slc b o len cap sz v h0 hs hv h =>
  simp only[ren]
  split
  ·rename_i c hc
   have e:=hσ b c hc
   exact .slc c o len cap sz v (by rw[e]; exact h0) hs (by rw[e]; exact hv) (by rw[e]; exact h)
  ·rename_i hc
   split
   ·rename_i cs hcs
    rcases hφ.at_ b cs hc hcs with ⟨g0,g1⟩|g|⟨B,F,vs,g1,g2,g3,g4,g5,g6,g7⟩
    ·obtain⟨ao,rfl,rfl,rfl⟩:=hv g0
     subst g1
     exact .ros [] o 0 0 false 0 0 ao 0 [] (fun h=>absurd rfl h) (fun h=>absurd rfl h) rfl (by simp) (by simp) (by simp) (Nat.le_refl _) (Nat.le_refl _) (fun h=>by cases h) (fun h=>absurd rfl h)
    ·exact absurd g (hφ.dead b cs hcs)
    ·obtain⟨ao,cap',k1,k2,rfl,k4,k5⟩:=h B F g1
     exact .ros cs o len cap false B F ao cap' vs (fun _=>g2) (fun _=>g3) g4 g5 g6 g7 k1 k2 (fun h=>by cases h) k4
   ·exact .top v
 | ros cells off len cap exact B F ao cap' vs hlt hp hl ho hc hr hcap hlen he ha ih =>
  simp only[ren]
  split
  ·refine .ros _ off len cap exact B F ao cap' vs (fun hn=>hlt fun h=>hn ((qh5 σ φ true cells).2 h)) (fun hn c F' hl' => ?_) (by rw[qbs]; exact hl) ho hc (hlist _ _ ih) hcap hlen he ha
   obtain⟨b,F2,hb⟩:=hown rfl c B F' hl'
   exact hp (fun h=>hn ((qh5 σ φ true cells).2 h)) b F2 hb
  ·split
   ·exact .ros [] off len cap exact B F ao cap' vs (fun h=>absurd rfl h) (fun h=>absurd rfl h) hl ho hc (by simp) hcap hlen he ha
   ·exact .top _
 | rop cells off B F vs hlt hp hl ho hc hr ih =>
  simp only[ren]
  split
  ·refine .rop _ off B F vs (fun hn=>hlt fun h=>hn ((qh5 σ φ true cells).2 h)) (fun hn c F' hl' => ?_) (by rw[qbs]; exact hl) ho hc (hlist _ _ ih)
   obtain⟨b,F2,hb⟩:=hown rfl c B F' hl'
   exact hp (fun h=>hn ((qh5 σ φ true cells).2 h)) b F2 hb
  ·exact .top _
 | agg cs vs hl ho hr ih=>simp only[ren]; exact .agg _ vs (by rw[qbs]; exact hl) ho (hlist _ _ ih)
 | tup cs vs hl hr ih=>simp only[ren]; exact .tup _ vs (by rw[qbs]; exact hl) (hlist _ _ ih)
 | fn f xs ys us vs hl hl' hr hr' ih ih' =>
  simp only[ren]
  exact .fn f _ _ us vs (by rw[qbs]; exact hl) (by rw[qbs]; exact hl') (hlist _ _ ih) (hlist _ _ ih')
 | nilf=>exact .nilf
 | ifc t a v h ih=>simp only[ren]; exact .ifc t _ v ih
 | nili=>exact .nili
theorem qle{ρ ρ':Rho}{w:World}{σ:Nat->Option Nat}{φ:Nat->Option (List AV)}{kp:Bool}(hσ:∀ b c,σ b=some c->ρ' c=ρ b)(hown:kp=true->∀ c B F,ρ' c = .live B F->∃ b F',ρ b = .live B F')(hφ:Views ρ ρ' w σ φ){as:List AV}{vs:List Value}
  (h:VRels ρ w as vs):VRels ρ' w (renL σ φ kp as) vs :=
 ⟨by rw[qbs]; exact h.len,fun i a v ha hv=>by
  rw[qek] at ha
  obtain⟨x,hx,e⟩:=Option.map_eq_some_iff.1 ha
  subst e
  exact qhn hσ hown hφ (h.at_ i x v hx hv)⟩
def noView:Nat->Option (List AV):=fun _=>none
theorem qd9(ρ ρ':Rho)(w:World)(σ:Nat->Option Nat):Views ρ ρ' w σ noView:=⟨fun b cs _ h=>(by cases h),fun b cs h=>(by cases h)⟩
def renB(σ:Nat->Option Nat)(φ:Nat->Option (List AV))(kp:Bool):Blk->Blk
 | .dead => .dead
 | .cells cs => .cells (renL σ φ kp cs)
def qaq(b:Nat):Nat->List Nat->Option Nat
 | _,[]=>none
 | c,x::xs=>match Nat.beq x b with
  | true=>some c
  | false=>qaq b (c+1) xs
theorem qaw{b:Nat}:∀ {l:List Nat} {c d:Nat},qaq b c l=some d->c<=d/\l[d - c]? = some b
 | [],_,_,h=>by cases h
 | x::xs,c,d,h=>by
  unfold qaq at h
  split at h
  ·rename_i e
   have e:=Nat.eq_of_beq_eq_true e
   cases h
   simp[e]
  ·obtain⟨h1,h2⟩:=qaw h
   refine⟨by omega,?_⟩
   rw[show d - c=(d - (c+1))+1 by omega]
   simpa using h2
theorem qdr{b:Nat}:∀ {l:List Nat} {c:Nat},qaq b c l=none->b ∉ l
 | [],_,_=>by simp
 | x::xs,c,h=>by
  unfold qaq at h
  split at h
  ·cases h
  ·rename_i e
   have hx:x≠b:=by intro e';subst e';simp[Nat.beq_refl] at e
   have:=qdr h
   simp only[List.mem_cons,not_or]
   exact⟨fun e'=>hx e'.symm,this⟩
theorem qhr{l:List Nat}(hn:l.Nodup){b c:Nat}(h:l[c]? = some b):qaq b 0 l=some c:=by
 cases hp:qaq b 0 l with
 | none=>exact absurd (List.mem_of_getElem? h) (qdr hp)
 | some d =>
  have:=(qaw hp).2
  rw[Nat.sub_zero] at this
  obtain⟨h1,e1⟩:=List.getElem?_eq_some_iff.1 h
  obtain⟨h2,e2⟩:=List.getElem?_eq_some_iff.1 this
  have hp:=List.pairwise_iff_getElem.1 hn
  have:c=d:=by
   rcases Nat.lt_trichotomy c d with h|h|h
   ·exact absurd (e1.trans e2.symm) (hp c d h1 h2 h)
   ·exact h
   ·exact absurd (e2.trans e1.symm) (hp d c h2 h1 h)
  rw[this]
def pickN(ids:List Nat):Nat->Option Nat:=fun b=>qaq b 0 ids
def pickR(ids:List Nat)(ρ:Rho):Rho:=fun c=>match ids[c]? with
 | some b=>ρ b
 | none => .unborn
def pickH(φ:Nat->Option (List AV))(ids:List Nat)(H:Hl):Hl:=ids.map fun b=>match H[b]? with
 | some k=>renB (pickN ids) φ true k
 | none => .dead
theorem qem{ids:List Nat}{ρ:Rho}{b c:Nat}(h:pickN ids b=some c):pickR ids ρ c=ρ b:=by
 have:=(qaw h).2
 rw[Nat.sub_zero] at this
 simp[pickR,this]
theorem qbj{ids:List Nat}{ρ:Rho}{c B F:Nat}(h:pickR ids ρ c = .live B F):∃ b,ids[c]? = some b/\ρ b = .live B F:=by
 unfold pickR at h
 split at h
 ·rename_i b hb;exact⟨b,hb,h⟩
 ·cases h
theorem HRel.pick{ρ:Rho}{w:World}{H:Hl}(hg:HRel ρ w (fun b=>H[b]?)){ids:List Nat}(hn:ids.Nodup)(hlt:∀ b,b∈ids->b<H.length){φ:Nat->Option (List AV)}(hφ:Views ρ (pickR ids ρ) w (pickN ids) φ) :
  HRel (pickR ids ρ) w (fun c=>(pickH φ ids H)[c]?) where
 unborn c h:=by
  simp only[pickH,List.getElem?_map,Option.map_eq_none_iff] at h
  simp[pickR,h]
 dead c h:=by
  simp only[pickH,List.getElem?_map] at h
  obtain⟨b,hb,e⟩:=Option.map_eq_some_iff.1 h
  have hbl:=hlt b (List.mem_of_getElem? hb)
  have hH:H[b]? = some H[b]:=by simp[hbl]
  rw[hH] at e
  have e:renB (pickN ids) φ true H[b] = .dead:=e
  have hd:H[b]? = some .dead:=by
   rw[hH]
   cases hk:H[b] with
   | dead=>rfl
   | cells cs=>rw[hk] at e;cases e
  simp only[pickR,hb]
  exact hg.dead b hd
 inj c c' B F F' h h':=by
  obtain⟨b,hb,e⟩:=qbj h
  obtain⟨b',hb',e'⟩:=qbj h'
  have:=hg.inj b b' B F F' e e'
  subst this
  have h1:=qhr hn hb
  have h2:=qhr hn hb'
  rw[h1] at h2
  exact Option.some.inj h2
 live c cs h:=by
  simp only[pickH,List.getElem?_map] at h
  obtain⟨b,hb,e⟩:=Option.map_eq_some_iff.1 h
  have hbl:=hlt b (List.mem_of_getElem? hb)
  have hH:H[b]? = some H[b]:=by simp[hbl]
  rw[hH] at e
  have e:renB (pickN ids) φ true H[b] = .cells cs:=e
  cases hk:H[b] with
  | dead=>rw[hk] at e;cases e
  | cells cs0 =>
   rw[hk] at e hH
   have e:renL (pickN ids) φ true cs0=cs:=by cases e;rfl
   subst e
   have hr:pickR ids ρ c=ρ b:=by simp[pickR,hb]
   rcases hg.live b cs0 hH with ⟨h1,h2⟩|⟨B,F,cc,el,lo,hi,h1,h2,h3,h4,h5⟩
   ·subst h2;exact .inl ⟨hr.trans h1,by simp[renL]⟩
   ·refine .inr ⟨B,F,cc,el,lo,hi,hr.trans h1,h2,by rw[qbs]; exact h3,h4,fun i a ha => ?_⟩
    rw[qek] at ha
    obtain⟨x,hx,e⟩:=Option.map_eq_some_iff.1 ha
    subst e
    obtain⟨v,g1,g2,g3⟩:=h5 i x hx
    exact⟨v,g1,g2,qhn (fun b c=>qem) (fun _ c B F h=>let ⟨b,_,e⟩:=qbj h;⟨b,F,e⟩) hφ g3⟩
 marks c B F cc e lo hi h1 h2:=by
  obtain⟨b,_,h⟩:=qbj h1
  exact hg.marks b B F cc e lo hi h h2
end
end Go.Vm

namespace Go.Vm
set_option maxRecDepth 100000
noncomputable section
def cutH(m:Nat)(H:Hl):Hl:=pickH noView (List.range m) H
def cutV(m:Nat)(r:AV):AV:=ren (pickN (List.range m)) noView true r
theorem qit(m:Nat)(ρ:Rho)(b:Nat):pickR (List.range m) ρ b=if b<m then ρ b else .unborn:=by
 unfold pickR
 by_cases h:b<m
 ·simp[h]
 ·simp[h]
theorem CallTo.cut{P:Program}{f:Nat}{vals:List AV}{H H':Hl}{r:AV}{lg lg0:List Nat}(hc:CallTo P f vals H r H' lg)(m:Nat)(h1:H.length<=m)(h2:m<=H'.length)
  (hk:∀ b,b<H.length->b ∉ lg0->(cutH m H')[b]? = H[b]?):CallTo P f vals H (cutV m r) (cutH m H') lg0 where
 real:=hc.real
 grow:=by simpa[cutH,pickH] using h1
 keep:=hk
 does ρ w us hg hv:=(hc.does ρ w us hg hv).mono fun e w' h=>by
  obtain⟨v,ρ',rfl,g1,g2,g3⟩:=h
  refine⟨v,pickR (List.range m) ρ',rfl,g1.pick List.nodup_range (fun b hb=>Nat.lt_of_lt_of_le (List.mem_range.1 hb) h2) (qd9 _ _ _ _),
   qhn (fun b c=>qem) (fun _ c B F h=>let ⟨b,_,e⟩:=qbj h;⟨b,F,e⟩) (qd9 _ _ _ _) g2,⟨g3.size,g3.os,g3.tape,g3.output,g3.keep,fun b hb hn => ?_,fun b B F hl => ?_,g3.rows⟩⟩
  ·rw[qit,if_pos (by omega)]
   exact g3.slot b hb hn
  ·rw[qit] at hl
   split at hl
   ·exact g3.fresh b B F hl
   ·cases hl
def cutK(m:Nat):AV->Hl->List Nat->Option Out:=fun r H _=>match Nat.ble m (size H) with
 | true=>some (cutV m r,cutH m H,[])
 | false=>none
theorem qb3{P:Program}{C:Con}(hC:ConOK P C){T:Nat->Option VF}(hT:∀ f vf,T f=some vf->FnOK P f vf){f n:Nat}{vf:VF}(hf:T f=some vf){vals:List AV}{H H0:Hl}{r0:AV}(m:Nat)(lg0:List Nat)
  (h:vcall (optA C) ops0 T n vf vals H (cutK m)=some (r0,H0,[])) (h1:H.length<=m) (hk:∀ b,b<H.length->b ∉ lg0->H0[b]? = H[b]?):CallTo P f vals H r0 H0 lg0:=by
 have hfine:(optA C).Fine P (fun x=>x=some (r0,H0,[])):=qg7 (by simp) (qk3 (by simp) hC)
 obtain⟨r,H',lg,hc,e⟩:=qdi hfine hT (hT f vf hf) (holds:=fun x=>x=some (r0,H0,[])) h
 unfold cutK at e
 split at e<;>cases e
 rename_i hm
 rw[qay] at hm
 exact hc.cut m h1 (Nat.le_of_ble_eq_true hm) hk
def viewF(H:Hl)(ids:List Nat):Nat->Nat->Option (List AV)
 | 0,_=>none
 | n+1,b=>match H[b]? with
  | some (.cells cs)=>some (renL (pickN ids) (viewF H ids n) true cs)
  | _=>none
theorem qif{ρ:Rho}{w:World}{H:Hl}(hg:HRel ρ w (fun b=>H[b]?)){ids:List Nat}:∀ n,Views ρ (pickR ids ρ) w (pickN ids) (viewF H ids n)
 | 0=>⟨fun b cs _ h=>(by cases h),fun b cs h=>(by cases h)⟩
 | n+1=>by
  have ih:=qif hg (ids:=ids) n
  refine⟨fun b cs hb h => ?_,fun b cs h => ?_⟩
  ·unfold viewF at h
   split at h<;>first|cases h|skip
   rename_i cs0 hH
   rcases hg.live b cs0 hH with ⟨h1,h2⟩|⟨B,F,c,el,lo,hi,h1,h2,h3,h4,h5⟩
   ·subst h2;exact .inl ⟨h1,by simp[renL]⟩
   ·refine .inr (.inr ?_)
    obtain⟨vs,k1,k2,k3,k4⟩:=Lies.values (show Lies ρ w cs0 F c from h5)
    refine⟨B,F,vs,h1,hg.lt h1,fun c' F' hl => ?_,by rw[qbs]; exact k1,k4,fun i v hv => ?_,fun i a v ha hv => ?_⟩
    ·obtain⟨b',hb',e⟩:=qbj hl
     have:=hg.inj b b' B F F' h1 e
     subst this
     exact qdr hb (List.mem_of_getElem? hb')
    ·rw[qfq h2]; exact k2 i v hv
    ·rw[qek] at ha
     obtain⟨x,hx,e⟩:=Option.map_eq_some_iff.1 ha
     subst e
     obtain⟨u,q1,_,q3⟩:=k3 i x hx
     have:v=u:=by
      simp only[Nat.zero_add,List.getElem?_toArray] at q1
      exact Option.some.inj (hv.symm.trans q1)
     subst this
     exact qhn (fun b c=>qem) (fun _ c B F h=>let ⟨b,_,e⟩:=qbj h;⟨b,F,e⟩) ih q3
  ·unfold viewF at h
   split at h<;>first|cases h|skip
   rename_i cs0 hH
   rcases hg.live b cs0 hH with ⟨h1,h2⟩|⟨B,F,c,el,lo,hi,h1,h2,h3,h4,h5⟩<;>rw[h1]<;>simp
def backN(ids:List Nat)(n:Nat):Nat->Option Nat:=fun c=>match ids[c]? with
 | some b=>some b
 | none=>some (n+(c - ids.length))
def backV(ids:List Nat)(n:Nat)(r:AV):AV:=ren (backN ids n) noView false r
def backB(ids:List Nat)(n:Nat)(k:Blk):Blk:=renB (backN ids n) noView false k
def backR(ids:List Nat)(n:Nat)(ρ ρ0:Rho):Rho:=fun b=>match qaq b 0 ids with
 | some c=>ρ0 c
 | none=>if b<n then ρ b else ρ0 (ids.length+(b - n))
def oldH(ids:List Nat)(n:Nat)(H H0:Hl):Hl:=(List.range n).map fun b=>match qaq b 0 ids with
 | some c=>backB ids n (H0[c]?.getD .dead)
 | none=>H[b]?.getD .dead
def backH(ids:List Nat)(H H0:Hl):Hl:=oldH ids H.length H H0++(H0.drop ids.length).map (backB ids H.length)
def backL(ids:List Nat)(lg:List Nat):List Nat:=lg.filterMap fun c=>ids[c]?
theorem qck(ids:List Nat)(H H0:Hl)(b:Nat):(backH ids H H0)[b]? = if b<H.length then(match qaq b 0 ids with
  | some c=>some (backB ids H.length (H0[c]?.getD .dead))
  | none=>H[b]?) else(H0[ids.length+(b - H.length)]?).map (backB ids H.length):=by
 unfold backH
 by_cases h:b<H.length
 ·rw[if_pos h,List.getElem?_append_left (by simpa[oldH] using h)]
  simp only[oldH,List.getElem?_map,List.getElem?_range h,Option.map_some]
  cases qaq b 0 ids with
  | some c=>rfl
  | none=>simp[h]
 ·rw[if_neg h,List.getElem?_append_right (by simpa[oldH] using h)]
  simp[oldH]
theorem CallTo.frame{P:Program}{f:Nat}{vals:List AV}{H H0:Hl}{r0:AV}{lg0:List Nat}(ids:List Nat)(n:Nat)(hn:ids.Nodup)(hlt:∀ b,b∈ids->b<H.length)
  (hc:CallTo P f (renL (pickN ids) (viewF H ids n) true vals) (pickH (viewF H ids n) ids H) r0 H0 lg0)
  (hk:∀ b c,qaq b 0 ids=some c->c ∉ lg0->some (backB ids H.length (H0[c]?.getD .dead))=H[b]?) :
  CallTo P f vals H (backV ids H.length r0) (backH ids H H0) (backL ids lg0) where
 real:=hc.real
 grow:=by simp[backH,oldH]
 keep b hb hn':=by
  rw[qck,if_pos hb]
  split
  ·rename_i c hp
   refine hk b c hp fun h=>hn' ?_
   have:=(qaw hp).2
   rw[Nat.sub_zero] at this
   exact List.mem_filterMap.2 ⟨c,h,this⟩
  ·rfl
 does ρ w us hg hv:=by
  have hV:=qif hg (ids:=ids) n
  have hlen:(pickH (viewF H ids n) ids H).length=ids.length:=by simp[pickH]
  refine(hc.does (pickR ids ρ) w us (hg.pick hn hlt hV) (qle (fun b c=>qem) (fun _ c B F h=>let ⟨b,_,e⟩:=qbj h;⟨b,F,e⟩) hV hv)).mono fun e w' h => ?_
  obtain⟨v,ρ0,rfl,g1,g2,g3⟩:=h
  rw[hlen] at g3
  have grow:ids.length<=H0.length:=by have:=hc.grow;rwa [hlen] at this
  have name:∀ c b,backN ids H.length c=some b->backR ids H.length ρ ρ0 b=ρ0 c:=by
   intro c b h
   unfold backN at h
   split at h
   ·rename_i b' hb'
    cases h
    simp[backR,qhr hn hb']
   ·rename_i hb'
    cases h
    have hcl:ids.length<=c:=by simpa using hb'
    have hp:qaq (H.length+(c - ids.length)) 0 ids=none:=by
     cases hp:qaq (H.length+(c - ids.length)) 0 ids with
     | none=>rfl
     | some d =>
      have:=(qaw hp).2
      have:=hlt _ (List.mem_of_getElem? this)
      omega
    simp only[backR,hp]
    rw[if_neg (by omega),show ids.length+(H.length+(c - ids.length) - H.length)=c by omega]
  have own:∀ b B F,backR ids H.length ρ ρ0 b = .live B F->(∃ c,ρ0 c = .live B F/\(qaq b 0 ids=some c∨(qaq b 0 ids=none/\H.length<=b/\c=ids.length+(b - H.length))))∨(b<H.length/\qaq b 0 ids=none/\ρ b = .live B F):=by
   intro b B F h
   unfold backR at h
   split at h
   ·rename_i c hp;exact .inl ⟨c,h,.inl hp⟩
   ·rename_i hp
    split at h
    ·rename_i hb;exact .inr ⟨hb,hp,h⟩
    ·rename_i hb;exact .inl ⟨_,h,.inr ⟨hp,by omega,rfl⟩⟩
  have far:∀ c B F b F',ρ0 c = .live B F->ρ b = .live B F'->qaq b 0 ids=none->False:=by
   intro c B F b F' h1 h2 h3
   rcases g3.fresh c B F h1 with h|⟨c',F2,h⟩
   ·have:=hg.lt h2;omega
   ·obtain⟨b',hb',e⟩:=qbj h
    have:=hg.inj b b' B F' F2 h2 e
    subst this
    exact qdr h3 (List.mem_of_getElem? hb')
  have unown:∀ b B F,b<H.length->qaq b 0 ids=none->ρ b = .live B F->∀ c F',pickR ids ρ c ≠ .live B F':=by
   intro b B F hb hp hl c F' h
   obtain⟨b',hb',e⟩:=qbj h
   have:=hg.inj b b' B F F' hl e
   subst this
   exact qdr hp (List.mem_of_getElem? hb')
  have E:Ext H.length ρ w (backR ids H.length ρ ρ0) w':=by
   refine⟨g3.size,g3.os,g3.tape,g3.output,fun B hB hu=>g3.keep B hB fun c F h => ?_,fun b hb hn' => ?_,fun b B F hl => ?_,g3.rows⟩
   ·obtain⟨b,_,e⟩:=qbj h
    exact hu b F e
   ·unfold backR
    split
    ·rename_i c hp
     have hpr:=qem (ρ:=ρ) hp
     have hc':c<ids.length:=by
      have:=(qaw hp).2
      rw[Nat.sub_zero] at this
      exact(List.getElem?_eq_some_iff.1 this).1
     rw[<-hpr]
     exact g3.slot c hc' (by rw[hpr]; exact hn')
    ·rw[if_pos hb]; exact .inl rfl
   ·rcases own b B F hl with ⟨c,h,_⟩|⟨_,_,h⟩
    ·rcases g3.fresh c B F h with h'|⟨c',F',h'⟩
     ·exact .inl h'
     ·obtain⟨b',_,e⟩:=qbj h'
      exact .inr ⟨b',F',e⟩
    ·exact .inr ⟨b,F,h⟩
  have renv:∀ {a:AV} {v:Value},VRel ρ0 w' a v->VRel (backR ids H.length ρ ρ0) w' (ren (backN ids H.length) noView false a) v:=fun h =>
   qhn (fun b c=>name b c) (fun h=>by cases h) (qd9 _ _ _ _) h
  have monov:∀ {a:AV} {v:Value},VRel ρ w a v->VRel (backR ids H.length ρ ρ0) w' a v:=fun h =>
   h.mono E fun b hb=>by
    rcases Nat.lt_or_ge b H.length with h'|h'
    ·exact h'
    ·exact absurd (hg.unborn b (List.getElem?_eq_none h')) hb
  refine⟨v,backR ids H.length ρ ρ0,rfl,⟨fun b h => ?_,fun b h => ?_,fun b b' B F F' h h' => ?_,fun b cs h => ?_,fun b B F c e lo hi h h' => ?_⟩,renv g2,E⟩
  case refine_5 =>
   rcases own b B F h with ⟨c',h1,_⟩|⟨h1,h2,h3⟩
   ·exact g1.marks c' B F c e lo hi h1 h'
   ·rw[g3.keep B (hg.lt h3) (unown b B F h1 h2 h3)] at h'
    exact hg.marks b B F c e lo hi h3 h'
  ·simp only[qck] at h
   unfold backR
   split at h
   ·rename_i hb
    split at h
    ·cases h
    ·rw[if_pos hb]
     exact hg.unborn b h
   ·rename_i hb
    have hp:qaq b 0 ids=none:=by
     cases hp:qaq b 0 ids with
     | none=>rfl
     | some d =>
      have:=(qaw hp).2
      have:=hlt _ (List.mem_of_getElem? this)
      omega
    rw[hp]
    simp only
    rw[if_neg hb]
    exact g1.unborn _ (by simpa using h)
  ·simp only[qck] at h
   unfold backR
   split at h
   ·rename_i hb
    split at h
    ·rename_i c hp
     have hc':c<H0.length:=by
      have:=(qaw hp).2
      rw[Nat.sub_zero] at this
      have:=(List.getElem?_eq_some_iff.1 this).1
      omega
     simp only[hc',List.getElem?_eq_getElem,Option.getD_some,Option.some.injEq] at h
     apply g1.dead
     rw[List.getElem?_eq_getElem hc']
     cases hk':H0[c] with
     | dead=>rfl
     | cells cs=>rw[hk'] at h;cases h
    ·rw[if_pos hb]
     exact hg.dead b h
   ·rename_i hb
    have hp:qaq b 0 ids=none:=by
     cases hp:qaq b 0 ids with
     | none=>rfl
     | some d =>
      have:=(qaw hp).2
      have:=hlt _ (List.mem_of_getElem? this)
      omega
    rw[hp]
    simp only
    rw[if_neg hb]
    obtain⟨k,hk1,hk2⟩:=Option.map_eq_some_iff.1 h
    apply g1.dead
    rw[hk1]
    cases k with
    | dead=>rfl
    | cells cs=>cases hk2
  ·rcases own b B F h with ⟨c,h1,h2⟩|⟨h1,h2,h3⟩
   ·rcases own b' B F' h' with ⟨c',k1,k2⟩|⟨k1,k2,k3⟩
    ·have:=g1.inj c c' B F F' h1 k1
     subst this
     rcases h2 with h2|⟨h2,h3,h4⟩
     ·rcases k2 with k2|⟨k2,k3,k4⟩
      ·have a1:=(qaw h2).2
       have a2:=(qaw k2).2
       rw[a1] at a2
       exact Option.some.inj a2
      ·have a1:=(qaw h2).2
       rw[Nat.sub_zero] at a1
       have:=(List.getElem?_eq_some_iff.1 a1).1
       omega
     ·rcases k2 with k2|⟨k2,k3,k4⟩
      ·have a1:=(qaw k2).2
       rw[Nat.sub_zero] at a1
       have:=(List.getElem?_eq_some_iff.1 a1).1
       omega
      ·omega
    ·exact(far c B F b' F' h1 k3 k2).elim
   ·rcases own b' B F' h' with ⟨c',k1,k2⟩|⟨k1,k2,k3⟩
    ·exact(far c' B F' b F k1 h3 h2).elim
    ·exact hg.inj b b' B F F' h3 k3
  ·
   have key:∀ c k,H0[c]? = some k->backB ids H.length k = .cells cs->backR ids H.length ρ ρ0 b=ρ0 c ->
     (backR ids H.length ρ ρ0 b = .void/\cs = [])∨∃ B F cc elem lo hi,backR ids H.length ρ ρ0 b = .live B F/\w'.heap[B]? = some (.cells cc elem (lo,hi))/\F+cs.length<=cc.size /\
      (∀ j,F<=j->j<cc.size->¬ (lo<=j/\j<hi))/\(∀ i a,cs[i]? = some a->∃ v,cc[F+i]? = some v/\vone v=true/\VRel (backR ids H.length ρ ρ0) w' a v):=by
    intro c k hk1 hk2 hr
    cases k with
    | dead=>cases hk2
    | cells cs0 =>
     have e:renL (backN ids H.length) noView false cs0=cs:=by cases hk2;rfl
     subst e
     rcases g1.live c cs0 hk1 with ⟨h1,h2⟩|⟨B,F,cc,el,lo,hi,h1,h2,h3,h4,h5⟩
     ·subst h2;exact .inl ⟨hr.trans h1,by simp[renL]⟩
     ·refine .inr ⟨B,F,cc,el,lo,hi,hr.trans h1,h2,by rw[qbs]; exact h3,h4,fun i a ha => ?_⟩
      rw[qek] at ha
      obtain⟨x,hx,e⟩:=Option.map_eq_some_iff.1 ha
      subst e
      obtain⟨v,q1,q2,q3⟩:=h5 i x hx
      exact⟨v,q1,q2,renv q3⟩
   simp only[qck] at h
   split at h
   ·rename_i hb
    split at h
    ·rename_i c hp
     have hc':c<H0.length:=by
      have:=(qaw hp).2
      rw[Nat.sub_zero] at this
      have:=(List.getElem?_eq_some_iff.1 this).1
      omega
     simp only[hc',List.getElem?_eq_getElem,Option.getD_some,Option.some.injEq] at h
     exact key c H0[c] (List.getElem?_eq_getElem hc') h (by simp[backR,hp])
    ·rename_i hp
     have hr:backR ids H.length ρ ρ0 b=ρ b:=by simp[backR,hp,hb]
     rcases hg.live b cs h with ⟨h1,h2⟩|⟨B,F,cc,el,lo,hi,h1,h2,h3,h4,h5⟩
     ·exact .inl ⟨hr.trans h1,h2⟩
     ·refine .inr ⟨B,F,cc,el,lo,hi,hr.trans h1,?_,h3,h4,fun i a ha => ?_⟩
      ·rw[g3.keep B (hg.lt h1) (unown b B F hb hp h1)]
       exact h2
      ·obtain⟨v,q1,q2,q3⟩:=h5 i a ha
       exact⟨v,q1,q2,monov q3⟩
   ·rename_i hb
    have hp:qaq b 0 ids=none:=by
     cases hp:qaq b 0 ids with
     | none=>rfl
     | some d =>
      have:=(qaw hp).2
      have:=hlt _ (List.mem_of_getElem? this)
      omega
    obtain⟨k,hk1,hk2⟩:=Option.map_eq_some_iff.1 h
    exact key _ k hk1 hk2 (by simp[backR,hp,hb])
theorem CallTo.pure{P:Program}{f:Nat}{vals:List AV}{r0:AV}{lg:List Nat}(n:Nat){H:Hl}(hc:CallTo P f (renL (pickN []) (viewF H [] n) true vals) [] r0 [] lg):CallTo P f vals H (backV [] H.length r0) H []:=by
 have h:=CallTo.frame (H:=H) (vals:=vals) [] n List.nodup_nil (fun b hb=>by cases hb) hc (fun b c hp=>by cases hp)
 have e1:backH [] H []=H:=by
  apply List.ext_getElem?
  intro b
  rw[qck]
  by_cases hb:b<H.length
  ·rw[if_pos hb]; rfl
  ·rw[if_neg hb,List.getElem?_eq_none (Nat.le_of_not_lt hb)]; simp
 have e2:backL [] lg = []:=by simp[backL]
 rw[e1,e2] at h
 exact h
end
end Go.Vm

namespace Go.Vm
set_option maxRecDepth 100000
noncomputable section
structure Weak(n0:Nat)(fr:Fr)(H:Hl)(fr':Fr)(H':Hl):Prop where
 grow:n0<=H'.length
 does:∀ (ρ:Rho) (w:World),HRel ρ w (fun b=>H[b]?)->∃ ρ',HRel ρ' w (fun b=>H'[b]?)/\Ext n0 ρ w ρ' w/\∀ tmps,FRel ρ w fr tmps->FRel ρ' w fr' tmps
theorem Weak.refl{n0:Nat}{fr:Fr}{H:Hl}(h:n0<=H.length):Weak n0 fr H fr H:=⟨h,fun ρ w hg=>⟨ρ,hg,Ext.refl _ _ _,fun _ h=>h⟩⟩
def forget:List Bool->Fr->Fr
 | true::bs,_::fr => .top::forget bs fr
 | false::bs,x::fr=>x::forget bs fr
 | _,fr=>fr
theorem qdh{ρ:Rho}{w:World}:∀ {bs:List Bool} {fr:Fr} {vs:List Value},VRels ρ w fr vs->VRels ρ w (forget bs fr) vs
 | [],fr,vs,h=>by cases fr<;>exact h
 | true::bs,[],vs,h=>h
 | false::bs,[],vs,h=>h
 | true::bs,x::fr,vs,h=>by
  cases vs with
  | nil=>have:=h.len;simp at this
  | cons v vs=>exact .cons (.top v) (qdh h.tail)
 | false::bs,x::fr,vs,h=>by
  cases vs with
  | nil=>have:=h.len;simp at this
  | cons v vs=>exact .cons h.head (qdh h.tail)
def wkF(ids:List Nat)(bs:List Bool)(fr:Fr):Fr:=forget bs (renL (pickN ids) noView true fr)
def wkH(ids:List Nat)(H:Hl):Hl:=pickH noView ids H
theorem Weak.pick{n0:Nat}{fr:Fr}{H:Hl}(ids:List Nat)(bs:List Bool)(hn:ids.Nodup)(hlt:∀ b,b∈ids->b<H.length)(h0:∀ b,b<n0->ids[b]? = some b) :
  Weak n0 fr H (wkF ids bs fr) (wkH ids H) where
 grow:=by
  simp only[wkH,pickH,List.length_map]
  rcases Nat.eq_zero_or_pos n0 with h|h
  ·omega
  ·have:=(List.getElem?_eq_some_iff.1 (h0 (n0 - 1) (by omega))).1
   omega
 does ρ w hg:=by
  refine⟨pickR ids ρ,hg.pick hn hlt (qd9 _ _ _ _),⟨Nat.le_refl _,rfl,rfl,rfl,fun _ _ _=>rfl,fun b hb _ => .inl ?_,fun b B F hl => ?_,fun _ _=>rfl⟩,fun tmps h => ?_⟩
  ·simp[pickR,h0 b hb]
  ·obtain⟨b',_,e⟩:=qbj hl
   exact .inr ⟨b',F,e⟩
  ·exact qdh (qle (fun b c=>qem) (fun _ c B F h=>let ⟨b,_,e⟩:=qbj h;⟨b,F,e⟩) (qd9 _ _ _ _) h)
theorem Weak.forget{n0:Nat}{fr:Fr}{H:Hl}(h:n0<=H.length)(bs:List Bool):Weak n0 fr H (forget bs fr) H:=⟨h,fun ρ w hg=>⟨ρ,hg,Ext.refl _ _ _,fun _ h=>qdh h⟩⟩
theorem Goes.post{W:(Exit->Act->World->Prop)->Act->World->Prop}{n0:Nat}{fr fr1 fr2:Fr}{H H1 H2:Hl}{lg lg1:List Nat}{e:Exit}(h:Goes W n0 fr H lg e fr1 H1 lg1)(k:Weak n0 fr1 H1 fr2 H2):Goes W n0 fr H lg e fr2 H2 (List.range n0++lg1) where
 grow:=k.grow
 sub b hb:=List.mem_append_right _ (h.sub b hb)
 keep b hb hn:=absurd (List.mem_append_left _ (List.mem_range.2 hb)) hn
 does ρ w a Q hg hf hQ:=h.does ρ w a Q hg hf fun a' w' ρ' h1 h2 h3 h4=>by
  obtain⟨ρ2,g1,g2,g3⟩:=k.does ρ' w' h1
  exact hQ a' w' ρ2 g1 (g3 _ h2) h3 (h4.trans g2)
theorem Goes.pre{W:(Exit->Act->World->Prop)->Act->World->Prop}{n0:Nat}{fr fr1 fr2:Fr}{H H1 H2:Hl}{lg lg2:List Nat}{e:Exit}(k:Weak n0 fr H fr1 H1)(h:Goes W n0 fr1 H1 lg e fr2 H2 lg2):Goes W n0 fr H lg e fr2 H2 (List.range n0++lg2) where
 grow:=h.grow
 sub b hb:=List.mem_append_right _ (h.sub b hb)
 keep b hb hn:=absurd (List.mem_append_left _ (List.mem_range.2 hb)) hn
 does ρ w a Q hg hf hQ:=by
  obtain⟨ρ1,g1,g2,g3⟩:=k.does ρ w hg
  exact h.does ρ1 w a Q g1 (g3 _ hf) fun a' w' ρ' h1 h2 h3 h4=>hQ a' w' ρ' h1 h2 h3 (g2.trans h4)
theorem Goes.log{W:(Exit->Act->World->Prop)->Act->World->Prop}{n0:Nat}{fr fr1:Fr}{H H1:Hl}{lg lg1 lg2:List Nat}{e:Exit}(h:Goes W n0 fr H lg e fr1 H1 lg1)(hs:∀ b,b∈lg->b∈lg2)
  (hk:∀ b,b<n0->b ∉ lg2->H1[b]? = H[b]?):Goes W n0 fr H lg e fr1 H1 lg2:=⟨h.grow,hs,hk,h.does⟩
def qap(P:Program)(n0:Nat)(b:VC)(fr:Fr)(H:Hl)(ex:Ex)(fr':Fr)(H':Hl):Prop :=
 ∀ c,qaf P c=b->∃ lg',Goes (c.wp P) n0 fr H [] (qdt ex) fr' H' lg'
abbrev OutC:=Ex × Fr × Hl × List Nat
def optC(C:Con):Alg (Option OutC):=stdA (Option OutC) none (conF none C)
def bodyF(bs:List Bool):Ex->Fr->Hl->List Nat->Option OutC:=fun ex fr H _=>some (ex,forget bs fr,H,[])
theorem qbg{P:Program}{C:Con}(hC:ConOK P C){T:Nat->Option VF}(hT:∀ f vf,T f=some vf->FnOK P f vf){n n0:Nat}{b:VC}{fr fr':Fr}{H H':Hl}{ex:Ex}{bs:List Bool}
  (h:vm (optC C) ops0 T n n0 b fr H [] (bodyF bs)=some (ex,fr',H',[])) (h0:n0<=H.length):qap P n0 b fr H ex fr' H':=by
 intro c hc
 subst hc
 have hfine:(optC C).Fine P (fun x=>x=some (ex,fr',H',[])):=qg7 (by simp) (qk3 (by simp) hC)
 obtain⟨ex1,fr1,H1,lg1,hg,e⟩:=(qdy hfine hT n).1 c n0 fr H [] _ h0 h
 unfold bodyF at e
 simp only[Option.some.injEq,Prod.mk.injEq,and_true] at e
 obtain⟨e1,e2,e3⟩:=e
 subst e1;subst e2;subst e3
 exact⟨_,hg.post (Weak.forget hg.grow bs)⟩
def noTab(_:Nat):Option VF:=none
theorem qak(P:Program):∀ f vf,noTab f=some vf->FnOK P f vf:=fun _ _ h=>by cases h
def qah(f:Nat)(vf:VF)(g:Nat):Option VF:=match Nat.beq g f with
 | true=>some vf
 | false=>none
theorem qaj{P:Program}{f:Nat}{vf:VF}(h:FnOK P f vf):∀ g v,qah f vf g=some v->FnOK P g v:=by
 intro g v e
 unfold qah at e
 split at e<;>cases e
 rename_i hb
 have:=Nat.eq_of_beq_eq_true hb
 subst this
 exact h
theorem qad(f:Nat)(vf:VF):qah f vf f=some vf:=by simp[qah,Nat.beq_refl]
theorem qal{P:Program}{n0:Nat}{b:VC}{ex:Ex}{fr':Fr}{H':Hl}(hex:ex ≠ .norm)(S:Nat->Fr × Hl):∀ (d i:Nat),(∀ j,i<=j->j<i+d->qap P n0 b (S j).1 (S j).2 .norm (S (j+1)).1 (S (j+1)).2) ->
  qap P n0 b (S (i+d)).1 (S (i+d)).2 ex fr' H'->∀ lg,qam P n0 b (S i).1 (S i).2 lg ex fr' H' (List.range n0++lg):=by
 have logs:∀ {W n0 fr H lg e fr1 H1 lg1},Goes W n0 fr H [] e fr1 H1 lg1->Goes W n0 fr H lg e fr1 H1 (List.range n0++lg):=by
  intro W n0 fr H lg e fr1 H1 lg1 h
  exact⟨h.grow,fun b hb=>List.mem_append_right _ hb,fun b hb hn=>absurd (List.mem_append_left _ (List.mem_range.2 hb)) hn,h.does⟩
 intro d
 induction d with
 | zero =>
  intro i _ hend lg c hc
  obtain⟨lg1,hg⟩:=hend c hc
  have h1:Goes (qd6 P c) n0 (S i).1 (S i).2 [] (qdt ex) fr' H' lg1:=hg.weak fun Q a w hw=>qd6.step (wp_mono hw (by
   rintro e a w ⟨rfl,h⟩
   cases ex with
   | norm=>exact absurd rfl hex
   | ret=>exact h
   | exit id=>exact h))
  exact logs h1
 | succ d ih =>
  intro i hround hend lg c hc
  have hl:=ih (i+1) (fun j h1 h2=>hround j (by omega) (by omega)) (by rw[show i+1+d=i+(d+1) by omega]; exact hend) (List.range n0++lg)
  obtain⟨lg1,hg⟩:=hround i (Nat.le_refl _) (by omega) c hc
  have h1:Goes (c.wp P) n0 (S i).1 (S i).2 lg .normal (S (i+1)).1 (S (i+1)).2 (List.range n0++lg):=logs hg
  exact(h1.trans (hl c hc) fun Q a w hw=>qd6.step (wp_mono hw (by rintro e a w ⟨rfl,h⟩; exact h))).log (fun b hb=>List.mem_append_right _ hb)
   (fun b hb hn=>absurd (List.mem_append_left _ (List.mem_range.2 hb)) hn)
theorem qam.pre{P:Program}{n0:Nat}{b:VC}{fr fr1 fr':Fr}{H H1 H':Hl}{ex:Ex}(k:Weak n0 fr H fr1 H1)(h:∀ lg,qam P n0 b fr1 H1 lg ex fr' H' (List.range n0++lg)):∀ lg,qam P n0 b fr H lg ex fr' H' (List.range n0++lg) :=
 fun lg c hc=>(Goes.pre k (h lg c hc)).log (fun b hb=>List.mem_append_right _ hb) (fun b hb hn=>absurd (List.mem_append_left _ (List.mem_range.2 hb)) hn)
structure Lent where
 n0:Nat
 b:VC
 fr:Fr
 H:Hl
 ex:Ex
 fr':Fr
 H':Hl
def Lent.OK(P:Program)(e:Lent):Prop:=∀ lg,qam P e.n0 e.b e.fr e.H lg e.ex e.fr' e.H' (List.range e.n0++lg)
def propL(C:Con)(E:Fr->Hl->Option Lent):Alg Prop := { stdA Prop False (conF False C) with
  loop:=fun n0 b fr H lg k u=>match E fr H with
    | some e=>n0=e.n0/\b=e.b/\fr=e.fr/\H=e.H/\k e.ex e.fr' e.H' (List.range e.n0++lg)
    | none=>u () }
theorem qq3{P:Program}{C:Con}(hC:ConOK P C){E:Fr->Hl->Option Lent}(hE:∀ fr H e,E fr H=some e->e.OK P):(propL C E).Fine P (fun p=>p) :=
  have h:=qg7 (R:=Prop) (ff:=False) (holds:=fun p=>p) (P:=P) (fun h=>h) (qk3 (ff:=False) (fun h=>h) hC)
  { fail:=h.fail,chk:=h.chk,br:=h.br,get:=h.get,flo:=h.flo,fit:=h.fit,ints:=h.ints,byts:=h.byts,call:=h.call
    loop:=fun n0 b fr H lg k u _ hh=>by
      have hh:match E fr H with
        | some e=>n0=e.n0/\b=e.b/\fr=e.fr/\H=e.H/\k e.ex e.fr' e.H' (List.range e.n0++lg)
        | none=>u ():=hh
      split at hh
      · rename_i e he
        obtain⟨rfl,rfl,rfl,rfl,hk⟩:=hh
        exact .inr ⟨_,_,_,_,hE _ _ e he lg,hk⟩
      · exact .inl hh }
theorem qeb{P:Program}{C:Con}(hC:ConOK P C){E:Fr->Hl->Option Lent}(hE:∀ fr H e,E fr H=some e->e.OK P){T:Nat->Option VF}(hT:∀ f vf,T f=some vf->FnOK P f vf){f n:Nat}{vf:VF}(hf:T f=some vf){vals:List AV}{H H0:Hl}{r0:AV}(m:Nat)(lg0:List Nat)
  (h:vcall (propL C E) ops0 T n vf vals H (fun r H lg=>cutK m r H lg=some (r0,H0,[]))) (h1:H.length<=m) (hk:∀ b,b<H.length->b ∉ lg0->H0[b]? = H[b]?):CallTo P f vals H r0 H0 lg0:=by
 obtain⟨r,H',lg,hc,e⟩:=qdi (qq3 hC hE) hT (hT f vf hf) (holds:=fun p=>p) h
 unfold cutK at e
 split at e<;>cases e
 rename_i hm
 rw[qay] at hm
 exact hc.cut m h1 (Nat.le_of_ble_eq_true hm) hk
end
end Go.Vm

namespace Go.Vm
set_option maxRecDepth 100000
noncomputable section
def flat:AV->Bool
 | .int _ _ | .bool _ | .flt _ _ | .str _ | .nilp | .nils | .nilf | .nili | .top=>true
 | _=>false
def flatL(cs:List AV):Prop:=∀ a,a∈cs->flat a=true
theorem qvw{σ:Nat->Option Nat}{φ:Nat->Option (List AV)}{kp:Bool}{a:AV}(h:flat a=true):ren σ φ kp a=a:=by
 cases a<;>first|rfl|cases h
theorem qaa{σ:Nat->Option Nat}{φ:Nat->Option (List AV)}{kp:Bool}{cs:List AV}(h:flatL cs):renL σ φ kp cs=cs:=by
 induction cs with
 | nil=>rfl
 | cons x cs ih=>simp only[renL,qvw (h x (by simp)),ih (fun a ha=>h a (by simp[ha]))]
theorem qaz(k:IntKind)(l:List Int):flatL (l.map (AV.int k)):=by
 intro a ha
 obtain⟨n,_,rfl⟩:=List.mem_map.1 ha
 rfl
theorem qa0{xs ys:List AV}(h:flatL xs)(k:flatL ys):flatL (xs++ys):=by
 intro a ha
 rcases List.mem_append.1 ha with ha|ha
 ·exact h a ha
 ·exact k a ha
theorem CallTo.one{P:Program}{f:Nat}{vals vals0:List AV}{r:AV}{cs cs':List AV}{H:Hl}{b:Nat}{lg:List Nat}(hc:CallTo P f vals0 [.cells cs] r [.cells cs'] lg)(hb:H[b]? = some (.cells cs))(h1:flatL cs)(h2:flatL cs')
  (h3:∀ φ,renL (pickN [b]) φ true vals=vals0):CallTo P f vals H (backV [b] H.length r) (put H b (.cells cs')) [b]:=by
 have hbl:=(List.getElem?_eq_some_iff.1 hb).1
 have e1:pickH (viewF H [b] 0) [b] H = [.cells cs]:=by
  simp only[pickH,List.map_cons,List.map_nil,hb,renB,qaa h1]
 have hc':CallTo P f (renL (pickN [b]) (viewF H [b] 0) true vals) (pickH (viewF H [b] 0) [b] H) r [.cells cs'] [0]:=by
  rw[e1,h3]
  exact⟨hc.real,hc.grow,fun i hi hn=>(by simp at hi hn;omega),hc.does⟩
 have h:=CallTo.frame [b] 0 (by simp) (fun i hi=>by simp at hi;subst hi;exact hbl) hc' (fun i c hp hn=>by
  have:=(qaw hp).2
  rw[Nat.sub_zero] at this
  have:=(List.getElem?_eq_some_iff.1 this).1
  simp at this hn
  omega)
 have e2:backH [b] H [.cells cs']=put H b (.cells cs'):=by
  apply List.ext_getElem?
  intro i
  rw[qck,qdm]
  by_cases hi:i<H.length
  ·rw[if_pos hi]
   by_cases hib:b=i
   ·subst hib
    have hp:qaq b 0 [b]=some 0:=by simp[qaq,Nat.beq_refl]
    rw[hp]
    simp only[List.getElem?_cons_zero,Option.getD_some,backB,renB,qaa h2]
    rw[List.getElem?_set_self hi]
   ·have hp:qaq i 0 [b]=none:=by
     have:Nat.beq b i=false:=by
      cases h:Nat.beq b i
      ·rfl
      ·exact absurd (Nat.eq_of_beq_eq_true h) hib
     simp[qaq,this]
    rw[hp,List.getElem?_set_ne hib]
  ·rw[if_neg hi]
   have t1:([Blk.cells cs']:Hl)[[b].length+(i - H.length)]? = none:=List.getElem?_eq_none (by simp)
   have t2:(H.set b (.cells cs'))[i]? = none:=List.getElem?_eq_none (by rw[List.length_set]; omega)
   rw[t1,t2]
   rfl
 have e3:backL [b] [0] = [b]:=by simp[backL]
 rw[e2,e3] at h
 exact h
theorem CallTo.look{P:Program}{f:Nat}{vals vals0:List AV}{r:AV}{cs:List AV}{H:Hl}{b:Nat}{lg:List Nat}(hc:CallTo P f vals0 [.cells cs] r [.cells cs] lg)(hb:H[b]? = some (.cells cs))(h1:flatL cs)
  (h3:∀ φ,renL (pickN [b]) φ true vals=vals0):CallTo P f vals H (backV [b] H.length r) H []:=by
 have h:=CallTo.one hc hb h1 h1 h3
 have e:put H b (.cells cs)=H:=by
  rw[qdm]
  apply List.ext_getElem?
  intro i
  by_cases hi:b=i
  ·subst hi
   rw[List.getElem?_set_self (List.getElem?_eq_some_iff.1 hb).1,hb]
  ·rw[List.getElem?_set_ne hi]
 rw[e] at h
 exact⟨h.real,h.grow,fun _ _ _=>rfl,h.does⟩
theorem CallTo.three{P:Program}{f:Nat}{vals vals0:List AV}{r:AV}{cs cs' xs ys:List AV}{H:Hl}{b c d:Nat}{lg:List Nat}(hc:CallTo P f vals0 [.cells cs,.cells xs,.cells ys] r [.cells cs',.cells xs,.cells ys] lg)
  (hb:H[b]? = some (.cells cs)) (hx:H[c]? = some (.cells xs)) (hy:H[d]? = some (.cells ys)) (hbc:b≠c) (hbd:b≠d) (hcd:c≠d) (h1:flatL cs) (h2:flatL cs') (hxf:flatL xs) (hyf:flatL ys)
  (h3:∀ φ,renL (pickN [b,c,d]) φ true vals=vals0):CallTo P f vals H (backV [b,c,d] H.length r) (put H b (.cells cs')) [b]:=by
 have lb:=(List.getElem?_eq_some_iff.1 hb).1
 have lc:=(List.getElem?_eq_some_iff.1 hx).1
 have ld:=(List.getElem?_eq_some_iff.1 hy).1
 have beqf:∀ {x y:Nat},x≠y->Nat.beq x y=false:=by
  intro x y h
  cases e:Nat.beq x y
  ·rfl
  ·exact absurd (Nat.eq_of_beq_eq_true e) h
 have pb:qaq b 0 [b,c,d]=some 0:=by simp[qaq,Nat.beq_refl]
 have pc:qaq c 0 [b,c,d]=some 1:=by simp[qaq,Nat.beq_refl,beqf hbc]
 have pd:qaq d 0 [b,c,d]=some 2:=by simp[qaq,Nat.beq_refl,beqf hbd,beqf hcd]
 have e1:pickH (viewF H [b,c,d] 0) [b,c,d] H = [.cells cs,.cells xs,.cells ys]:=by
  simp only[pickH,List.map_cons,List.map_nil,hb,hx,hy,renB,qaa h1,qaa hxf,qaa hyf]
 have hc':CallTo P f (renL (pickN [b,c,d]) (viewF H [b,c,d] 0) true vals) (pickH (viewF H [b,c,d] 0) [b,c,d] H) r [.cells cs',.cells xs,.cells ys] [0]:=by
  rw[e1,h3]
  refine⟨hc.real,hc.grow,fun i hi hn => ?_,hc.does⟩
  match i,hi,hn with
  | 0,_,hn=>exact absurd (List.mem_singleton.2 rfl) hn
  | 1,_,_=>rfl
  | 2,_,_=>rfl
 have key:∀ i k,qaq i 0 [b,c,d]=some k->(k=0/\i=b)∨(k=1/\i=c)∨(k=2/\i=d):=by
  intro i k hp
  have:=(qaw hp).2
  rw[Nat.sub_zero] at this
  match k,this with
  | 0,h=>simp at h;exact .inl ⟨rfl,h.symm⟩
  | 1,h=>simp at h;exact .inr (.inl ⟨rfl,h.symm⟩)
  | 2,h=>simp at h;exact .inr (.inr ⟨rfl,h.symm⟩)
  | k+3,h=>simp at h
 have h:=CallTo.frame [b,c,d] 0 (by simp[hbc,hbd,hcd]) (fun i hi=>by
   simp only[List.mem_cons,List.not_mem_nil,or_false] at hi
   rcases hi with rfl|rfl|rfl<;>assumption) hc' (fun i k hp hn=>by
  rcases key i k hp with ⟨rfl,rfl⟩|⟨rfl,rfl⟩|⟨rfl,rfl⟩
  ·exact absurd (List.mem_singleton.2 rfl) hn
  ·simp[backB,renB,qaa hxf,hx]
  ·simp[backB,renB,qaa hyf,hy])
 have e2:backH [b,c,d] H [.cells cs',.cells xs,.cells ys]=put H b (.cells cs'):=by
  apply List.ext_getElem?
  intro i
  rw[qck,qdm]
  by_cases hi:i<H.length
  ·rw[if_pos hi]
   cases hp:qaq i 0 [b,c,d] with
   | some k =>
    rcases key i k hp with ⟨rfl,rfl⟩|⟨rfl,rfl⟩|⟨rfl,rfl⟩
    ·rw[List.getElem?_set_self hi]
     simp[backB,renB,qaa h2]
    ·rw[List.getElem?_set_ne hbc,hx]
     simp[backB,renB,qaa hxf]
    ·rw[List.getElem?_set_ne hbd,hy]
     simp[backB,renB,qaa hyf]
   | none =>
    have:b≠i:=fun e=>by subst e;rw[pb] at hp;cases hp
    rw[List.getElem?_set_ne this]
  ·rw[if_neg hi]
   have t1:([Blk.cells cs',.cells xs,.cells ys]:Hl)[[b,c,d].length+(i - H.length)]? = none:=List.getElem?_eq_none (by simp)
   have t2:(H.set b (.cells cs'))[i]? = none:=List.getElem?_eq_none (by rw[List.length_set]; omega)
   rw[t1,t2]
   rfl
 have e3:backL [b,c,d] [0] = [b]:=by simp[backL]
 rw[e2,e3] at h
 exact h
theorem CallTo.new{P:Program}{f:Nat}{vals:List AV}{o:Nat}{cs:List AV}{H:Hl}{lg:List Nat}(hc:CallTo P f vals [] (.ptr 0 o) [.cells cs] lg)(h1:flatL cs)(h3:∀ φ,renL (pickN []) φ true vals=vals) :
  CallTo P f vals H (.ptr (size H) o) (join H [.cells cs]) []:=by
 have hc':CallTo P f (renL (pickN []) (viewF H [] 0) true vals) (pickH (viewF H [] 0) [] H) (.ptr 0 o) [.cells cs] lg:=by
  rw[h3]; exact hc
 have h:=CallTo.frame (H:=H) (vals:=vals) [] 0 List.nodup_nil (fun b hb=>by cases hb) hc' (fun b c hp=>by cases hp)
 have e1:backH [] H [.cells cs]=join H [.cells cs]:=by
  apply List.ext_getElem?
  intro b
  rw[qck,qbx]
  by_cases hb:b<H.length
  ·rw[if_pos hb,List.getElem?_append_left hb]; rfl
  ·rw[if_neg hb,List.getElem?_append_right (by omega)]
   simp only[List.length_nil,Nat.zero_add]
   cases b - H.length with
   | zero=>simp[backB,renB,qaa h1]
   | succ d=>simp
 have e2:backL [] lg = []:=by simp[backL]
 have e3:backV [] H.length (.ptr 0 o) = .ptr (size H) o:=by simp[backV,ren,backN,qay]
 rw[e1,e2,e3] at h
 exact h
end
end Go.Vm
