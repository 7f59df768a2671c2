/-
  KECCAK ON NUMBERS, so that the kernel can reckon it: words, states.
-/
import Derived.Test.YtfmhlogapbpnbaaYnak
import Derived.Test.YtfmhlogapbpnbaaYnam
import Derived.Test.YtfmhlogapbpnbaaYnaj
import Derived.Test.YtfmhlogapbpnbaaRows
import Derived.ProofKit
import Derived.OpenShut
import Derived.JoinedCond
import Derived.Test.YtfmhlogapbpnbaaYnaf
set_option linter.unusedVariables false
set_option linter.unusedSimpArgs false
set_option linter.unusedSectionVars false

namespace Go.Proofs.Vm
set_option maxRecDepth 100000
open Go.Vm
def W64:Nat:=18446744073709551616
def xN(a b:Nat):Nat:=(a ^^^ b) % W64
def nN(a b:Nat):Nat:=(a ^^^ (a &&& b)) % W64
def rN(a k:Nat):Nat:=((a <<< k) % W64) ||| ((a >>> (64 - k)) % W64)
theorem w64:W64=2 ^ 64:=rfl
theorem qj4(a:Nat):(toB (Int.ofNat a)).toNat=a % 2 ^ 64:=by
 have h:toB (Int.ofNat a)=BitVec.ofNat 64 a:=BitVec.ofInt_natCast 64 a
 rw[h,BitVec.toNat_ofNat]
theorem xN_eq(a b:Nat):bin0 .xor .u64 (Int.ofNat a) (Int.ofNat b)=Int.ofNat (xN a b):=by
 rw[qjm,BitVec.toNat_xor,qj4,qj4,<-Nat.xor_mod_two_pow]
 rfl
theorem nN_eq(a b:Nat):bin0 .andNot .u64 (Int.ofNat a) (Int.ofNat b)=Int.ofNat (nN a b):=by
 have h:=(toB (Int.ofNat a) &&& ~~~ toB (Int.ofNat b)).isLt
 have e:bin0 .andNot .u64 (Int.ofNat a) (Int.ofNat b)=IntKind.u64.wrap ((toB (Int.ofNat a) &&& ~~~ toB (Int.ofNat b)).toNat:Int):=rfl
 have e2:(toB (Int.ofNat a) &&& ~~~ toB (Int.ofNat b))=(toB (Int.ofNat a) ^^^ (toB (Int.ofNat a) &&& toB (Int.ofNat b))):=by
  ext i
  simp only[BitVec.getElem_and,BitVec.getElem_not,BitVec.getElem_xor]
  cases (toB (Int.ofNat a))[i]<;>cases (toB (Int.ofNat b))[i]<;>rfl
 rw[e,qgv]
 have e3:((toB (Int.ofNat a) &&& ~~~ toB (Int.ofNat b)).toNat:Int)=Int.ofNat (nN a b):=by
  rw[e2,BitVec.toNat_xor,BitVec.toNat_and,qj4,qj4,<-Nat.and_mod_two_pow,<-Nat.xor_mod_two_pow]
  rfl
 rw[e3]
 have:nN a b<18446744073709551616:=Nat.mod_lt _ (by unfold W64;omega)
 simp only[Int.ofNat_eq_natCast]
 omega
theorem rN_eq(a k:Nat)(hk:k<=64):rotl (Int.ofNat a) k=Int.ofNat (rN a k):=by
 have m1:Nat.min ((k:Int)).toNat 64=k:=by
  rw[Int.toNat_natCast]
  exact Nat.min_eq_left hk
 have m2:Nat.min ((64:Int) - k).toNat 64=64 - k:=by
  rw[show((64:Int) - k).toNat=64 - k by omega]
  exact Nat.min_eq_left (by omega)
 have e1:shf0 .shl .u64 (Int.ofNat a) k=Int.ofNat ((a <<< k) % W64):=by
  show IntKind.u64.wrap (Int.ofNat a*2 ^ (Nat.min ((k:Int)).toNat 64))=_
  rw[qgv,Nat.shiftLeft_eq,m1]
  simp only[Int.ofNat_eq_natCast]
  push_cast
  rfl
 have e2:shf0 .shr .u64 (Int.ofNat a) (64 - k)=Int.ofNat (a >>> (64 - k)):=by
  show(Int.ofNat a).fdiv (2 ^ (Nat.min ((64:Int) - k).toNat 64))=_
  rw[m2,Nat.shiftRight_eq_div_pow]
  simp only[Int.ofNat_eq_natCast]
  push_cast
  rw[Int.fdiv_eq_ediv_of_nonneg _ (by exact_mod_cast Nat.zero_le (2 ^ (64 - k)))]
 unfold rotl
 rw[e1,e2]
 generalize hx:(a <<< k) % W64=x
 generalize hy:a >>> (64 - k)=y
 have lx:x<2 ^ 64:=by rw[<-hx]; exact Nat.mod_lt _ (by unfold W64;omega)
 have e:bin0 .or .u64 (Int.ofNat x) (Int.ofNat y)=IntKind.u64.wrap ((toB (Int.ofNat x) ||| toB (Int.ofNat y)).toNat:Int):=rfl
 rw[e,qgv,BitVec.toNat_or,qj4,qj4,Nat.mod_eq_of_lt lx]
 have:=Nat.or_lt_two_pow lx (Nat.mod_lt y (show 0<2 ^ 64 by omega))
 unfold rN
 rw[hx,hy,w64]
 simp only[Int.ofNat_eq_natCast]
 omega
def mixN(s:List Nat)(c:Nat):List Nat :=
 match s with
 | [s0,s1,s2,s3,s4,s5,s6,s7,s8,s9,s10,s11,s12,s13,s14,s15,s16,s17,s18,s19,s20,s21,s22,s23,s24] =>
  let k0:=xN (xN (xN (xN s0 s5) s10) s15) s20
  let k1:=xN (xN (xN (xN s1 s6) s11) s16) s21
  let k2:=xN (xN (xN (xN s2 s7) s12) s17) s22
  let k3:=xN (xN (xN (xN s3 s8) s13) s18) s23
  let k4:=xN (xN (xN (xN s4 s9) s14) s19) s24
  let d0:=xN k4 (rN k1 1)
  let d1:=xN k0 (rN k2 1)
  let d2:=xN k1 (rN k3 1)
  let d3:=xN k2 (rN k4 1)
  let d4:=xN k3 (rN k0 1)
  let b0:=rN (xN s0 d0) 0
  let b10:=rN (xN s1 d1) 1
  let b20:=rN (xN s2 d2) 62
  let b5:=rN (xN s3 d3) 28
  let b15:=rN (xN s4 d4) 27
  let b16:=rN (xN s5 d0) 36
  let b1:=rN (xN s6 d1) 44
  let b11:=rN (xN s7 d2) 6
  let b21:=rN (xN s8 d3) 55
  let b6:=rN (xN s9 d4) 20
  let b7:=rN (xN s10 d0) 3
  let b17:=rN (xN s11 d1) 10
  let b2:=rN (xN s12 d2) 43
  let b12:=rN (xN s13 d3) 25
  let b22:=rN (xN s14 d4) 39
  let b23:=rN (xN s15 d0) 41
  let b8:=rN (xN s16 d1) 45
  let b18:=rN (xN s17 d2) 15
  let b3:=rN (xN s18 d3) 21
  let b13:=rN (xN s19 d4) 8
  let b14:=rN (xN s20 d0) 18
  let b24:=rN (xN s21 d1) 2
  let b9:=rN (xN s22 d2) 61
  let b19:=rN (xN s23 d3) 56
  let b4:=rN (xN s24 d4) 14
  [xN (xN b0 (nN b2 b1)) c,xN b1 (nN b3 b2),xN b2 (nN b4 b3),xN b3 (nN b0 b4),xN b4 (nN b1 b0),xN b5 (nN b7 b6),xN b6 (nN b8 b7),xN b7 (nN b9 b8),xN b8 (nN b5 b9),xN b9 (nN b6 b5),xN b10 (nN b12 b11),xN b11 (nN b13 b12),xN b12 (nN b14 b13),xN b13 (nN b10 b14),xN b14 (nN b11 b10),xN b15 (nN b17 b16),xN b16 (nN b18 b17),xN b17 (nN b19 b18),xN b18 (nN b15 b19),xN b19 (nN b16 b15),xN b20 (nN b22 b21),xN b21 (nN b23 b22),xN b22 (nN b24 b23),xN b23 (nN b20 b24),xN b24 (nN b21 b20)]
 | _ => []
theorem q0g(S:List Nat)(c:Nat):rnd (S.map Int.ofNat) (Int.ofNat c)=(mixN S c).map Int.ofNat:=by
 have r0:=fun a=>rN_eq a 0 (by omega)
 by_cases h:S.length=25
 ·match S,h with
  | [s0,s1,s2,s3,s4,s5,s6,s7,s8,s9,s10,s11,s12,s13,s14,s15,s16,s17,s18,s19,s20,s21,s22,s23,s24],_ =>
   simp only[rnd,mixW,mixN,List.map,xN_eq,nN_eq,rN_eq _ 0 (by omega),rN_eq _ 1 (by omega),rN_eq _ 62 (by omega),rN_eq _ 28 (by omega),rN_eq _ 27 (by omega),rN_eq _ 36 (by omega),rN_eq _ 44 (by omega),rN_eq _ 6 (by omega),rN_eq _ 55 (by omega),rN_eq _ 20 (by omega),rN_eq _ 3 (by omega),rN_eq _ 10 (by omega),rN_eq _ 43 (by omega),rN_eq _ 25 (by omega),rN_eq _ 39 (by omega),rN_eq _ 41 (by omega),rN_eq _ 45 (by omega),rN_eq _ 15 (by omega),rN_eq _ 21 (by omega),rN_eq _ 8 (by omega),rN_eq _ 18 (by omega),rN_eq _ 2 (by omega),rN_eq _ 61 (by omega),rN_eq _ 56 (by omega),rN_eq _ 14 (by omega)]
 ·have e1:mixN S c = []:=by
   unfold mixN
   split
   ·simp at h
   ·rfl
  have e2:rnd (S.map Int.ofNat) (Int.ofNat c) = []:=by
   unfold rnd mixW
   split
   ·rename_i he
    have:=congrArg List.length he
    rw[List.length_map] at this
    exact absurd this h
   ·rfl
  rw[e1,e2]
  rfl
def qfb{α:Type}(x:Nat)(k:Nat->α):α:=Nat.rec (k 0) (fun m _=>k (Nat.succ m)) x
theorem qmv{α:Type}(x:Nat)(k:Nat->α):qfb x k=k x:=by cases x<;>rfl
def qqk{α:Type}:List Nat->(List Nat->α)->α
 | [],k=>k []
 | x::xs,k=>qfb x fun y=>qqk xs fun ys=>k (y::ys)
theorem qml{α:Type}:∀ (l:List Nat) (k:List Nat->α),qqk l k=k l
 | [],k=>rfl
 | x::xs,k=>by
  show qfb x _=_
  rw[qmv,qml xs]
def loopN:List Nat->List Nat->List Nat
 | [],s=>s
 | c::cs,s=>qqk (mixN s c) (loopN cs)
def rcsN:List Nat:=rcs.map Int.toNat
def stN(s:List Nat):List Nat:=loopN rcsN s
theorem qk6:∀ (cs s:List Nat),loopN cs s=cs.foldl mixN s
 | [],s=>rfl
 | c::cs,s=>by
  show qqk _ _=_
  rw[qml,qk6 cs]
  rfl
theorem qse(s:List Int):∀ i,i<=24->st s i=(rcs.take i).foldl rnd s
 | 0,_=>rfl
 | i+1,h=>by
  have hl:i<rcs.length:=by rw[show rcs.length=24 from rfl]; omega
  show rnd (st s i) (rcs.getD i 0)=_
  rw[qse s i (by omega),List.take_add_one,List.getElem?_eq_getElem hl,List.foldl_append,List.getD_eq_getElem?_getD,List.getElem?_eq_getElem hl]
  rfl
theorem qpg:∀ (cs s:List Nat),(cs.map Int.ofNat).foldl rnd (s.map Int.ofNat)=(cs.foldl mixN s).map Int.ofNat
 | [],s=>rfl
 | c::cs,s=>by
  show(cs.map Int.ofNat).foldl rnd (rnd (s.map Int.ofNat) (Int.ofNat c))=_
  rw[q0g,qpg cs]
  rfl
theorem qty(S:List Nat):st (S.map Int.ofNat) 24=(stN S).map Int.ofNat:=by
 have e:rcs=rcsN.map Int.ofNat:=by decide
 rw[qse _ 24 (Nat.le_refl _),show rcs.take 24=rcs from rfl,e,qpg]
 unfold stN
 rw[qk6]
end Go.Proofs.Vm

namespace Go.Proofs.Vm
set_option maxRecDepth 100000
open Go.Vm
def encB:List UInt8->Nat
 | []=>0
 | b::l=>b.toNat+256*encB l
theorem qll:∀ l:List UInt8,encB l<256 ^ l.length
 | []=>by simp[encB]
 | b::l=>by
  have h:=qll l
  have hb:=b.toNat_lt
  show b.toNat+256*encB l<256 ^ (l.length+1)
  rw[Nat.pow_succ]
  omega
theorem qbp:∀ a b:List UInt8,encB (a++b)=encB a+256 ^ a.length*encB b
 | [],b=>by simp[encB]
 | x::a,b=>by
  show x.toNat+256*encB (a++b)=x.toNat+256*encB a+256 ^ (a.length+1)*encB b
  rw[qbp a b,Nat.pow_succ,Nat.mul_add,Nat.mul_comm (256 ^ a.length) 256,Nat.mul_assoc]
  omega
theorem qgo(l:List UInt8)(n:Nat)(h:n<=l.length):encB (l.take n)=encB l % 256 ^ n:=by
 have e:=qbp (l.take n) (l.drop n)
 rw[List.take_append_drop,List.length_take,Nat.min_eq_left h] at e
 have h2:=qll (l.take n)
 rw[List.length_take,Nat.min_eq_left h] at h2
 rw[e,Nat.add_mul_mod_self_left,Nat.mod_eq_of_lt h2]
theorem qmi(l:List UInt8)(n:Nat)(h:n<=l.length):encB (l.drop n)=encB l / 256 ^ n:=by
 have e:=qbp (l.take n) (l.drop n)
 rw[List.take_append_drop,List.length_take,Nat.min_eq_left h] at e
 have h2:=qll (l.take n)
 rw[List.length_take,Nat.min_eq_left h] at h2
 rw[e,Nat.add_mul_div_left _ _ (Nat.pow_pos (by omega)),Nat.div_eq_of_lt h2,Nat.zero_add]
theorem qsd(n:Nat):256 ^ n=2 ^ (8*n):=by rw[Nat.pow_mul]
theorem qtu{a n:Nat}(x:Nat)(h:a<2 ^ n):a+2 ^ n*x=a ^^^ (x <<< n):=by
 have e1:(a ^^^ (x <<< n)) % 2 ^ n=a:=by
  rw[Nat.xor_mod_two_pow,Nat.mod_eq_of_lt h,Nat.shiftLeft_eq,Nat.mul_mod_left,Nat.xor_zero]
 have e2:(a ^^^ (x <<< n)) / 2 ^ n=x:=by
  rw[<-Nat.shiftRight_eq_div_pow,Nat.shiftRight_xor_distrib,Nat.shiftRight_eq_div_pow,Nat.div_eq_of_lt h,Nat.zero_xor,Nat.shiftRight_eq_div_pow,Nat.shiftLeft_eq,Nat.mul_div_cancel _ (Nat.two_pow_pos n)]
 have:=Nat.div_add_mod (a ^^^ (x <<< n)) (2 ^ n)
 rw[e1,e2] at this
 omega
theorem qm1(l:List UInt8)(b:UInt8):encB (l ++ [b])=encB l ^^^ (b.toNat <<< (8*l.length)):=by
 have h:=qll l
 rw[qsd] at h
 rw[qbp,<-qtu _ h,qsd]
 show encB l+2 ^ (8*l.length)*(b.toNat+256*0)=_
 rw[Nat.mul_zero,Nat.add_zero]
def xorS:List Nat->Nat->List Nat
 | [],_ => []
 | a::s,N=>((a ^^^ N) % W64)::xorS s (N / W64)
def addN:List Nat->Nat->Nat->List Nat
 | [],_,_ => []
 | a::s,p,b=>if p<8 then((a ^^^ (b <<< (8*p))) % W64)::s else a::addN s (p - 8) b
def encS:List Nat->Nat
 | []=>0
 | a::s=>a+W64*encS s
def allW(S:List Nat):Prop:=∀ x,x∈S->x<W64
theorem qk8:0<W64:=by unfold W64;omega
theorem qjj:∀ (S:List Nat) (p b:Nat),addB (S.map Int.ofNat) p (Int.ofNat b)=(addN S p b).map Int.ofNat
 | [],p,b=>by simp[addB,addN]
 | a::S,p,b=>by
  have hshl:∀ k:Nat,k<8->shf0 .shl .u64 (Int.ofNat b) ((8*k:Nat):Int)=Int.ofNat ((b <<< (8*k)) % W64):=by
   intro k hk
   show IntKind.u64.wrap (Int.ofNat b*2 ^ (Nat.min (((8*k:Nat):Int)).toNat 64))=_
   rw[Int.toNat_natCast,show Nat.min (8*k) 64=8*k from Nat.min_eq_left (by omega),qgv,Nat.shiftLeft_eq]
   simp only[Int.ofNat_eq_natCast]
   push_cast
   rfl
  by_cases hp:p<8
  ·have e1:p / 8=0:=by omega
   have e2:p % 8=p:=by omega
   unfold addB addN
   rw[if_pos hp,e1,e2,hshl p hp]
   show(bin0 .xor .u64 (Int.ofNat a) (Int.ofNat ((b <<< (8*p)) % W64)))::S.map Int.ofNat=_
   rw[xN_eq]
   unfold xN
   rw[w64,Nat.xor_mod_two_pow,Nat.mod_mod,<-Nat.xor_mod_two_pow]
   rfl
  ·have e1:p / 8=(p - 8) / 8+1:=by omega
   have e2:p % 8=(p - 8) % 8:=by omega
   have ih:=qjj S (p - 8) b
   unfold addB at ih
   unfold addB addN
   rw[if_neg hp,e1,e2]
   show Int.ofNat a::(S.map Int.ofNat).set ((p - 8) / 8) (bin0 .xor .u64 ((S.map Int.ofNat).getD ((p - 8) / 8) 0) _)=_
   rw[ih]
   rfl
theorem qtq(a b:Nat):(a ^^^ b) / W64=a / W64 ^^^ b / W64:=by
 rw[w64,<-Nat.shiftRight_eq_div_pow,<-Nat.shiftRight_eq_div_pow,<-Nat.shiftRight_eq_div_pow,Nat.shiftRight_xor_distrib]
theorem qn4(a b:Nat):(a ^^^ b) % W64=(a % W64 ^^^ b % W64) % W64:=by
 rw[w64,<-Nat.xor_mod_two_pow,Nat.mod_mod]
theorem qgk:∀ (S:List Nat) (N p b:Nat),b<256->addN (xorS S N) p b=xorS S (N ^^^ (b <<< (8*p)))
 | [],N,p,b,_=>rfl
 | a::S,N,p,b,hb=>by
  show addN (((a ^^^ N) % W64)::xorS S (N / W64)) p b=((a ^^^ (N ^^^ (b <<< (8*p)))) % W64)::xorS S ((N ^^^ (b <<< (8*p))) / W64)
  unfold addN
  by_cases hp:p<8
  ·rw[if_pos hp]
   have hx:(b <<< (8*p)) / W64=0:=by
    apply Nat.div_eq_of_lt
    rw[Nat.shiftLeft_eq,w64]
    have h1:2 ^ (8*p)<=2 ^ 56:=Nat.pow_le_pow_right (by omega) (by omega)
    have h2:b*2 ^ (8*p)<=b*2 ^ 56:=Nat.mul_le_mul_left b h1
    omega
   have e1:((a ^^^ N) % W64 ^^^ b <<< (8*p)) % W64=(a ^^^ (N ^^^ b <<< (8*p))) % W64:=by
    rw[qn4,Nat.mod_mod,<-qn4,Nat.xor_assoc]
   rw[e1,qtq,hx,Nat.xor_zero]
  ·rw[if_neg hp]
   have e0:b <<< (8*p)=b <<< (8*(p - 8))*W64:=by
    rw[Nat.shiftLeft_eq,Nat.shiftLeft_eq,w64,Nat.mul_assoc,<-Nat.pow_add]
    congr 2
    omega
   have e1:(a ^^^ (N ^^^ b <<< (8*p))) % W64=(a ^^^ N) % W64:=by
    rw[<-Nat.xor_assoc,qn4 (a ^^^ N),e0,Nat.mul_mod_left,Nat.xor_zero,Nat.mod_mod]
   have e2:(N ^^^ b <<< (8*p)) / W64=N / W64 ^^^ b <<< (8*(p - 8)):=by
    rw[qtq,e0,Nat.mul_div_cancel _ qk8]
   rw[e1,e2,qgk S _ _ _ hb]
theorem qmh:∀ (S:List Nat),allW S->xorS S 0=S
 | [],_=>rfl
 | a::S,h=>by
  show((a ^^^ 0) % W64)::xorS S (0 / W64)=_
  rw[Nat.xor_zero,Nat.mod_eq_of_lt (h a (by simp)),Nat.zero_div,qmh S fun x hx=>h x (by simp[hx])]
theorem qun(S:List Nat)(c:Nat):allW (mixN S c):=by
 have hx:∀ a b,xN a b<W64:=fun a b=>Nat.mod_lt _ qk8
 unfold mixN
 split
 ·intro x h
  simp only[List.mem_cons,List.not_mem_nil,or_false] at h
  rcases h with rfl|rfl|rfl|rfl|rfl|rfl|rfl|rfl|rfl|rfl|rfl|rfl|rfl|rfl|rfl|rfl|rfl|rfl|rfl|rfl|rfl|rfl|rfl|rfl|rfl<;>exact hx _ _
 ·intro x h;cases h
theorem qs5(S:List Nat):allW (stN S):=by
 unfold stN
 rw[qk6]
 have:∀ (cs s:List Nat),allW s->allW (cs.foldl mixN s):=by
  intro cs
  induction cs with
  | nil=>exact fun s h=>h
  | cons c cs ih=>exact fun s h=>ih _ (qun _ _)
 obtain⟨c,cs,e⟩:∃ c cs,rcsN=c::cs:=⟨_,_,rfl⟩
 rw[e]
 exact this cs (mixN S c) (qun S c)
theorem qjb{rate:Nat}{S:List Nat}(hS:allW S):∀ (n:Nat) (c:List UInt8),c.length=n->n<rate->takeL rate (S.map Int.ofNat,0) c=((xorS S (encB c)).map Int.ofNat,n)
 | 0,c,h,_=>by
  have:c = []:=List.eq_nil_of_length_eq_zero h
  subst this
  show(S.map Int.ofNat,0)=((xorS S 0).map Int.ofNat,0)
  rw[qmh S hS]
 | n+1,c,h,hn=>by
  have hb:c ≠ []:=fun h0=>by rw[h0] at h;cases h
  have e:=List.dropLast_concat_getLast hb
  have hl:c.dropLast.length=n:=by rw[List.length_dropLast]; omega
  have ih:=qjb (rate:=rate) hS n c.dropLast hl (by omega)
  rw[<-e,qm1,hl]
  unfold takeL at ih ⊢
  rw[List.foldl_append,ih]
  show tk rate ((xorS S (encB c.dropLast)).map Int.ofNat,n) (c.getLast hb)=_
  unfold tk
  rw[if_neg (by show ¬ (n+1=rate); omega)]
  show(addB ((xorS S (encB c.dropLast)).map Int.ofNat) n (Int.ofNat (c.getLast hb).toNat),n+1)=_
  rw[qjj,qgk _ _ _ _ (c.getLast hb).toNat_lt]
theorem qrq{rate:Nat}{S:List Nat}(hS:allW S)(hr:0<rate){c:List UInt8}(h:c.length=rate):takeL rate (S.map Int.ofNat,0) c=((stN (xorS S (encB c))).map Int.ofNat,0):=by
 have hb:c ≠ []:=fun h0=>by rw[h0] at h;simp at h;omega
 have e:=List.dropLast_concat_getLast hb
 have hl:c.dropLast.length=rate - 1:=by rw[List.length_dropLast]; omega
 have ih:=qjb (rate:=rate) hS (rate - 1) c.dropLast hl (by omega)
 rw[<-e,qm1,hl]
 unfold takeL at ih ⊢
 rw[List.foldl_append,ih]
 show tk rate ((xorS S (encB c.dropLast)).map Int.ofNat,rate - 1) (c.getLast hb)=_
 unfold tk
 rw[if_pos (by show rate - 1+1=rate;omega)]
 show(st (addB ((xorS S (encB c.dropLast)).map Int.ofNat) (rate - 1) (Int.ofNat (c.getLast hb).toNat)) 24,0)=_
 rw[qjj,qgk _ _ _ _ (c.getLast hb).toNat_lt,qty]
def absN(rate:Nat):Nat->List Nat->Nat->List Nat
 | 0,S,_=>S
 | k+1,S,M=>absN rate k (stN (xorS S (M % 256 ^ rate))) (M / 256 ^ rate)
theorem quk{rate:Nat}(hr:0<rate):∀ (k:Nat) (S:List Nat) (l:List UInt8),allW S->rate*k<=l.length->l.length<rate*(k+1) ->
  takeL rate (S.map Int.ofNat,0) l=((xorS (absN rate k S (encB l)) (encB l / 256 ^ (rate*k))).map Int.ofNat,l.length - rate*k)
 | 0,S,l,h,h1,h2=>by
  rw[qjb h l.length l rfl (by omega),Nat.mul_zero,Nat.pow_zero,Nat.div_one,Nat.sub_zero]
  rfl
 | k+1,S,l,h,h1,h2=>by
  have e1:rate*(k+1)=rate*k+rate:=Nat.mul_succ _ _
  have e2:rate*(k+1+1)=rate*(k+1)+rate:=Nat.mul_succ _ _
  have hl:rate<=l.length:=by omega
  have hsplit:takeL rate (S.map Int.ofNat,0) l=takeL rate (takeL rate (S.map Int.ofNat,0) (l.take rate)) (l.drop rate):=by
   unfold takeL
   rw[<-List.foldl_append,List.take_append_drop]
  have hd:(l.drop rate).length=l.length - rate:=List.length_drop
  rw[hsplit,qrq h hr (by rw[List.length_take]; omega),quk hr k _ _ (qs5 _) (by omega) (by omega),qgo l rate hl,qmi l rate hl,Nat.div_div_eq_div_mul,<-Nat.pow_add,hd]
  have e3:rate+rate*k=rate*(k+1):=by omega
  have e4:l.length - rate - rate*k=l.length - rate*(k+1):=by omega
  rw[e3,e4]
  rfl
def zerN:List Nat:=List.replicate 25 0
theorem q05:allW zerN:=fun x hx=>by rw[(List.mem_replicate.1 hx).2]; exact qk8
def qfi(rate e k M len:Nat):List Nat:=stN (xorS (absN rate k zerN M) ((M / 256 ^ (rate*k)) ^^^ (e <<< (8*(len - rate*k))) ^^^ (128 <<< (8*(rate - 1)))))
theorem qtr{rate:Nat}(hr:0<rate)(e:UInt8){k:Nat}{l:List UInt8}(h1:rate*k<=l.length)(h2:l.length<rate*(k+1)):qc8 rate e l=(qfi rate e.toNat k (encB l) l.length).map Int.ofNat:=by
 have hz:zer=zerN.map Int.ofNat:=by decide
 unfold qc8 fin
 rw[hz,quk hr k zerN l q05 h1 h2]
 show st (addB (addB ((xorS (absN rate k zerN (encB l)) (encB l / 256 ^ (rate*k))).map Int.ofNat) (l.length - rate*k) (Int.ofNat e.toNat)) (rate - 1) (Int.ofNat 128)) 24=_
 rw[qjj,qgk _ _ _ _ e.toNat_lt,qjj,qgk _ _ _ _ (by omega),qty]
 rfl
theorem qxb:∀ (S:List Nat) (p:Nat),allW S->outB (S.map Int.ofNat) p=Int.ofNat ((encS S / 256 ^ p) % 256)
 | [],p,_=>by
  have h0:∀ y:Int,shf0 .shr .u64 0 y=0:=by
   intro y
   show Int.fdiv 0 (2 ^ (Nat.min y.toNat 64))=0
   exact Int.zero_fdiv _
  show IntKind.u8.wrap (shf0 .shr .u64 0 _)=Int.ofNat ((0 / 256 ^ p) % 256)
  rw[h0,Nat.zero_div]
  rfl
 | a::S,p,h=>by
  have ha:=h a (by simp)
  by_cases hp:p<8
  ·have e1:p / 8=0:=by omega
   have e2:p % 8=p:=by omega
   unfold outB
   rw[e1,e2]
   show IntKind.u8.wrap (Int.fdiv (Int.ofNat a) (2 ^ (Nat.min (((8*p:Nat):Int)).toNat 64)))=Int.ofNat (((a+W64*encS S) / 256 ^ p) % 256)
   rw[Int.toNat_natCast,show Nat.min (8*p) 64=8*p from Nat.min_eq_left (by omega)]
   have e3:Int.fdiv (Int.ofNat a) (2 ^ (8*p))=Int.ofNat (a / 2 ^ (8*p)):=by
    simp only[Int.ofNat_eq_natCast]
    push_cast
    rw[Int.fdiv_eq_ediv_of_nonneg _ (by exact_mod_cast Nat.zero_le (2 ^ (8*p)))]
   have e4:(a+W64*encS S) / 256 ^ p % 256=a / 256 ^ p % 256:=by
    have hw:W64*encS S=256 ^ p*(256*(256 ^ (7 - p)*encS S)):=by
     rw[<-Nat.mul_assoc,<-Nat.mul_assoc,<-Nat.pow_succ,<-Nat.pow_add,show p+1+(7 - p)=8 by omega]
     rfl
    rw[hw,Nat.add_mul_div_left _ _ (Nat.pow_pos (by omega)),Nat.add_mul_mod_self_left]
   rw[e3,e4,qsd]
   have hwr:∀ n:Nat,IntKind.u8.wrap (Int.ofNat n)=Int.ofNat (n % 256):=by
    intro n
    simp[IntKind.wrap,IntKind.bits,IntKind.signed]
   exact hwr _
  ·have e1:p / 8=(p - 8) / 8+1:=by omega
   have e2:p % 8=(p - 8) % 8:=by omega
   have ih:=qxb S (p - 8) fun x hx=>h x (by simp[hx])
   unfold outB at ih ⊢
   rw[e1,e2]
   show IntKind.u8.wrap (shf0 .shr .u64 ((S.map Int.ofNat).getD ((p - 8) / 8) 0) _)=Int.ofNat (((a+W64*encS S) / 256 ^ p) % 256)
   rw[ih]
   have e3:(a+W64*encS S) / 256 ^ p=encS S / 256 ^ (p - 8):=by
    have hp8:256 ^ p=W64*256 ^ (p - 8):=by
     have:W64=256 ^ 8:=rfl
     rw[this,<-Nat.pow_add,show 8+(p - 8)=p by omega]
    rw[hp8,<-Nat.div_div_eq_div_mul,Nat.add_mul_div_left _ _ qk8,Nat.div_eq_of_lt ha,Nat.zero_add]
   rw[e3]
theorem qk9{rate:Nat}{S:List Nat}(hS:allW S):∀ (n p:Nat),p+n<=rate->encB (letL rate n (S.map Int.ofNat,p))=(encS S / 256 ^ p) % 256 ^ n
 | 0,p,_=>by rw[Nat.pow_zero,Nat.mod_one]; rfl
 | n+1,p,h=>by
  have hp:¬ p=rate:=by omega
  have e1:lt0 rate (S.map Int.ofNat,p)=UInt8.ofNat ((encS S / 256 ^ p) % 256):=by
   unfold lt0
   rw[if_neg hp]
   show UInt8.ofNat (outB (S.map Int.ofNat) p).toNat=_
   rw[qxb S p hS]
   rfl
  have e2:lt1 rate (S.map Int.ofNat,p)=(S.map Int.ofNat,p+1):=by
   unfold lt1
   rw[if_neg hp]
  show(lt0 rate (S.map Int.ofNat,p)).toNat+256*encB (letL rate n (lt1 rate (S.map Int.ofNat,p)))=_
  have ep:256 ^ (n+1)=256*256 ^ n:=by rw[Nat.pow_succ,Nat.mul_comm]
  rw[e1,e2,qk9 hS n (p+1) (by omega),UInt8.toNat_ofNat',ep,Nat.mod_mul,Nat.div_div_eq_div_mul,<-Nat.pow_succ]
  have:encS S / 256 ^ p % 256 % 2 ^ 8=encS S / 256 ^ p % 256:=Nat.mod_mod _ _
  rw[this]
def sqN(rate:Nat):Nat->Nat->List Nat->Nat
 | 0,n,S=>encS S % 256 ^ n
 | k+1,n,S=>encS S % 256 ^ rate+256 ^ rate*sqN rate k n (stN S)
theorem qva(rate:Nat):∀ (a b:Nat) (x:List Int × Nat),letL rate (a+b) x=letL rate a x++letL rate b (ltN rate a x)
 | 0,b,x=>by rw[Nat.zero_add]; rfl
 | a+1,b,x=>by
  rw[show a+1+b=(a+b)+1 by omega]
  show lt0 rate x::letL rate (a+b) (lt1 rate x)=_
  rw[qva rate a b]
  rfl
theorem qqo{rate:Nat}{s:List Int}:∀ (n p:Nat),p+n<=rate->ltN rate n (s,p)=(s,p+n)
 | 0,p,_=>rfl
 | n+1,p,h=>by
  show ltN rate n (lt1 rate (s,p))=_
  have e:lt1 rate (s,p)=(s,p+1):=by unfold lt1;rw[if_neg (show ¬ p=rate by omega)]
  rw[e,qqo n (p+1) (by omega),show p+1+n=p+(n+1) by omega]
theorem qw1{rate:Nat}(hr:0<rate)(s:List Int):∀ n,letL rate n (s,rate)=letL rate n (st s 24,0)
 | 0=>rfl
 | n+1=>by
  show lt0 rate (s,rate)::letL rate n (lt1 rate (s,rate))=lt0 rate (st s 24,0)::letL rate n (lt1 rate (st s 24,0))
  have e1:lt1 rate (s,rate)=(st s 24,1):=by unfold lt1;rw[if_pos rfl]
  have e2:lt1 rate (st s 24,0)=(st s 24,1):=by unfold lt1;rw[if_neg (show ¬ 0=rate by omega)]
  have e3:lt0 rate (s,rate)=lt0 rate (st s 24,0):=by unfold lt0;rw[if_pos rfl,if_neg (show ¬ 0=rate by omega)]
  rw[e1,e2,e3]
theorem qxp{rate:Nat}(hr:0<rate):∀ (k n:Nat) (S:List Nat),allW S->n<=rate->encB (letL rate (rate*k+n) (S.map Int.ofNat,0))=sqN rate k n S
 | 0,n,S,h,hn=>by
  rw[Nat.mul_zero,Nat.zero_add,qk9 h n 0 (by omega),Nat.pow_zero,Nat.div_one]
  rfl
 | k+1,n,S,h,hn=>by
  rw[show rate*(k+1)+n=rate+(rate*k+n) by rw[Nat.mul_succ]; omega,qva,qqo rate 0 (by omega),Nat.zero_add,qw1 hr,qty,qbp,qdg,qxp hr k n _ (qs5 _) hn,qk9 h rate 0 (by omega),Nat.pow_zero,Nat.div_one]
  rfl
theorem qih{rate:Nat}(hr:0<rate)(e:UInt8){k m r:Nat}{l:List UInt8}(h1:rate*k<=l.length)(h2:l.length<rate*(k+1))(h3:r<=rate) :
  encB (qas rate e (rate*m+r) l)=sqN rate m r (qfi rate e.toNat k (encB l) l.length):=by
 unfold qas
 rw[qtr hr e h1 h2]
 exact qxp hr m r _ (qs5 _) h3
end Go.Proofs.Vm

namespace Go.Proofs.Vm
set_option maxRecDepth 100000
open Go.Vm
section
def hdE(lab ll key:Nat):Nat:=ll+256*(lab+256 ^ ll*key)
def tag1E(lab ll key b bl k:Nat):Nat:=sqN 136 0 32 (qfi 136 6 k (hdE lab ll key+256 ^ (ll+33)*(bl+256 ^ 8*b)) (ll+33+(8+bl)))
def tag2E(lab ll key b bl c cl k:Nat):Nat:=sqN 136 0 32 (qfi 136 6 k (hdE lab ll key+256 ^ (ll+33)*(bl+256 ^ 8*(b+256 ^ bl*(cl+256 ^ 8*c)))) (ll+33+(8+(bl+(8+cl)))))
def strE(lab ll key m r:Nat):Nat:=sqN 168 m r (qfi 168 31 0 (hdE lab ll key) (ll+33))
theorem hd_E(key l:List UInt8)(h:l.length<256):encB (headL key l)=hdE (encB l) l.length (encB key):=by
 unfold headL hdE
 show(UInt8.ofNat l.length).toNat+256*encB (l++key)=_
 rw[qbp,UInt8.toNat_ofNat',Nat.mod_eq_of_lt (by omega)]
theorem qkv(k:Nat)(h:k<18446744073709551616):encB (qar k)=k:=by
 unfold qar
 simp only[encB,UInt8.toNat_ofNat']
 omega
theorem qet(k:Nat):(qar k).length=8:=rfl
theorem qsi{key l b:List UInt8}{k:Nat}(hk:key.length=32)(hl:l.length<=64)(hb:b.length<18446744073709551616)(h1:136*k<=l.length+33+(8+b.length))(h2:l.length+33+(8+b.length)<136*(k+1)) :
  encB (tagL key l [b])=tag1E (encB l) l.length (encB key) (encB b) b.length k:=by
 have hlen:(headL key l++textL [b]).length=l.length+33+(8+b.length):=by
  rw[List.length_append,qa9,hk]
  unfold textL
  simp only[List.map_cons,List.map_nil,List.flatten_cons,List.flatten_nil,List.append_nil,List.length_append,qet]
 have henc:encB (headL key l++textL [b])=hdE (encB l) l.length (encB key)+256 ^ (l.length+33)*(b.length+256 ^ 8*encB b):=by
  rw[qbp,hd_E _ _ (by omega),qa9,hk]
  unfold textL
  simp only[List.map_cons,List.map_nil,List.flatten_cons,List.flatten_nil,List.append_nil]
  rw[qbp,qkv _ hb,qet]
 unfold tagL
 rw[if_neg (by omega)]
 have:=qih (rate:=136) (by omega) 6 (k:=k) (m:=0) (r:=32) (l:=headL key l++textL [b]) (by omega) (by omega) (by omega)
 rw[henc,hlen] at this
 exact this
theorem qr4{key l b c:List UInt8}{k:Nat}(hk:key.length=32)(hl:l.length<=64)(hb:b.length<18446744073709551616)(hc:c.length<18446744073709551616)(h1:136*k<=l.length+33+(8+(b.length+(8+c.length))))(h2:l.length+33+(8+(b.length+(8+c.length)))<136*(k+1)) :
  encB (tagL key l [b,c])=tag2E (encB l) l.length (encB key) (encB b) b.length (encB c) c.length k:=by
 have hlen:(headL key l++textL [b,c]).length=l.length+33+(8+(b.length+(8+c.length))):=by
  rw[List.length_append,qa9,hk]
  unfold textL
  simp only[List.map_cons,List.map_nil,List.flatten_cons,List.flatten_nil,List.append_nil,List.length_append,qet]
  omega
 have henc:encB (headL key l++textL [b,c])=hdE (encB l) l.length (encB key)+256 ^ (l.length+33)*(b.length+256 ^ 8*(encB b+256 ^ b.length*(c.length+256 ^ 8*encB c))):=by
  rw[qbp,hd_E _ _ (by omega),qa9,hk]
  unfold textL
  simp only[List.map_cons,List.map_nil,List.flatten_cons,List.flatten_nil,List.append_nil]
  rw[List.append_assoc,qbp,qkv _ hb,qet,qbp,qbp,qkv _ hc,qet]
 unfold tagL
 rw[if_neg (by omega)]
 have:=qih (rate:=136) (by omega) 6 (k:=k) (m:=0) (r:=32) (l:=headL key l++textL [b,c]) (by omega) (by omega) (by omega)
 rw[henc,hlen] at this
 exact this
theorem str_E{key l:List UInt8}{m r:Nat}(hk:key.length=32)(hl:l.length<=64)(hr:r<=168):encB (maskL key l (zs (168*m+r)))=strE (encB l) l.length (encB key) m r:=by
 have hlen:(headL key l).length=l.length+33:=by rw[qa9,hk]
 unfold zs
 rw[qjx]
 have:=qih (rate:=168) (by omega) 31 (k:=0) (m:=m) (r:=r) (l:=headL key l) (by omega) (by omega) hr
 rw[hd_E _ _ (by omega),hlen] at this
 exact this
theorem qlh:∀ (a b:List UInt8),a.length=b.length->encB (xorL a b)=encB a ^^^ encB b
 | [],[],_=>rfl
 | x::a,y::b,h=>by
  have ih:=qlh a b (by simpa using h)
  show(x ^^^ y).toNat+256*encB (xorL a b)=(x.toNat+256*encB a) ^^^ (y.toNat+256*encB b)
  have e:∀ (z n:Nat),z<256->z+256*n=z ^^^ (n <<< 8):=fun z n hz=>qtu (n:=8) n hz
  rw[e _ _ x.toNat_lt,e _ _ y.toNat_lt,e _ _ (x ^^^ y).toNat_lt,ih,UInt8.toNat_xor,Nat.shiftLeft_xor_distrib]
  rw[Nat.xor_assoc,Nat.xor_assoc,<-Nat.xor_assoc y.toNat,Nat.xor_comm y.toNat,Nat.xor_assoc]
theorem qlg(n:Nat):encB (zs n)=0:=by
 unfold zs
 induction n with
 | zero=>rfl
 | succ n ih =>
  rw[List.replicate_succ]
  show(0:UInt8).toNat+256*encB (List.replicate n 0)=0
  rw[ih]
  rfl
def pre0:List UInt8:=hiL 2 5++(hiL 8 9++(hiL 4 0++(zs 32++(hiL 8 0++(zs 32++(hiL 4 0++zs 32))))))
def pre1:List UInt8:=hiL 2 0++(hiL 8 8++(hiL 4 0++(zs 32++(hiL 8 0++(zs 32++(hiL 4 0++zs 32))))))
def onE:Nat:=encB qkl
def tgE:Nat:=encB tagW
def bdE:Nat:=encB bodyW
def ky(k:UInt8):Nat:=encB (keyN k)
def finE:Bool :=
 qfb (tag1E onE 5 (ky 1) (ky 3) 32 0) fun K0 =>
 qfb (sqN 136 0 32 (qfi 136 6 0 (ky 3) 32)) fun n1 =>
 qfb (tag1E onE 5 (ky 2) n1 32 0) fun K1 =>
 qfb (tag1E onE 5 (ky 2) (ky 3) 32 0) fun KX =>
 qfb (strE bdE 4 K0 13 120) fun T0 =>
 qfb (strE bdE 4 K1 12 32) fun T1 =>
 qfb ((T1 ^^^ encB pre1) % 256 ^ 1792+256 ^ 1792*(T0 / 256 ^ 2048)) fun B1 =>
 qfb (tag2E tgE 3 K1 B1 2048 (ky 4) 32 15) fun t1 =>
 qfb ((T0 % 256 ^ 2048) ^^^ (encB pre0+256 ^ 122*t1+256 ^ 256*(B1 % 256 ^ 1792))) fun B0 =>
 Nat.beq (tag2E tgE 3 K0 B0 2048 (ky 4) 32 15) (tag2E tgE 3 KX B0 2048 (ky 4) 32 15)
theorem qyr:finE=false:=by kernel_rfl
theorem qz2{K0 n1 K1 KX T0 T1 B1 t1 B0:Nat}(h1:K0=tag1E onE 5 (ky 1) (ky 3) 32 0)(h2:n1=sqN 136 0 32 (qfi 136 6 0 (ky 3) 32))(h3:K1=tag1E onE 5 (ky 2) n1 32 0)(h4:KX=tag1E onE 5 (ky 2) (ky 3) 32 0)
  (h5:T0=strE bdE 4 K0 13 120) (h6:T1=strE bdE 4 K1 12 32) (h7:B1=(T1 ^^^ encB pre1) % 256 ^ 1792+256 ^ 1792*(T0 / 256 ^ 2048)) (h8:t1=tag2E tgE 3 K1 B1 2048 (ky 4) 32 15)
  (h9:B0=(T0 % 256 ^ 2048) ^^^ (encB pre0+256 ^ 122*t1+256 ^ 256*(B1 % 256 ^ 1792))):finE=Nat.beq (tag2E tgE 3 K0 B0 2048 (ky 4) 32 15) (tag2E tgE 3 KX B0 2048 (ky 4) 32 15):=by
 unfold finE
 rw[qmv,<-h1,qmv,<-h2,qmv,<-h3,qmv,<-h4,qmv,<-h5,qmv,<-h6,qmv,<-h7,qmv,<-h8,qmv,<-h9]
theorem qco(k:UInt8):(keyN k).length=32:=by unfold keyN;simp
theorem qp2:pre0.length=122:=by unfold pre0;simp only[List.length_append,qc1,qao]
theorem qwr:pre1.length=122:=by unfold pre1;simp only[List.length_append,qc1,qao]
theorem qp9(nx:List UInt8):partL (lvHop 5 9) nx=pre0++(nx++zs 102):=by
 unfold pre0
 simp only[List.append_assoc]
 rfl
theorem qpy(nx:List UInt8):partL (lvHop 0 8) nx=pre1++(nx++zs 102):=by
 unfold pre1
 simp only[List.append_assoc]
 rfl
theorem qt9:tagOK (keyN 2) (qcy [lvHop 5 9,lvHop 0 8] [keyN 1,keyN 2] (keyN 3) (keyN 4)) (keyN 4)=false:=by
 have n3:=qco 3
 have n4:=qco 4
 have n2:=qco 2
 have n1:=qco 1
 have hh:∀ h,h ∈ [lvHop 5 9,lvHop 0 8]->h.L32:=by
  intro h hm
  simp only[List.mem_cons,List.not_mem_nil,or_false] at hm
  rcases hm with rfl|rfl<;>exact⟨by simp[lvHop],by simp[lvHop],by simp[lvHop]⟩
 obtain⟨K0,hK0⟩:∃ K0,K0=atL (keyN 1) (keyN 3):=⟨_,rfl⟩
 obtain⟨K1,hK1⟩:∃ K1,K1=atL (keyN 2) (sumL (keyN 3)):=⟨_,rfl⟩
 obtain⟨KX,hKX⟩:∃ KX,KX=atL (keyN 2) (keyN 3):=⟨_,rfl⟩
 have hK:keysL [keyN 1,keyN 2] (keyN 3) 2 = [K0,K1]:=by rw[hK0,hK1]; rfl
 have l0:K0.length=32:=by rw[hK0]; exact at_32 _ _
 have l1:K1.length=32:=by rw[hK1]; exact at_32 _ _
 have lX:KX.length=32:=by rw[hKX]; exact at_32 _ _
 obtain⟨b1,c1⟩:=qcq (L := [K0,K1]) (hs := [lvHop 5 9,lvHop 0 8]) (hash:=keyN 4) (n:=2) (by omega) hh 1
 obtain⟨b2,c2⟩:=qcq (L := [K0,K1]) (hs := [lvHop 5 9,lvHop 0 8]) (hash:=keyN 4) (n:=2) (by omega) hh 2
 have hB1:bsB [K0,K1] [lvHop 5 9,lvHop 0 8] (keyN 4) 2 1=(maskL K1 bodyW (partL (lvHop 0 8) (zs 32)++(zs 2048).take 1792)).take (2048 - (fillL [K0,K1] 1).length)++fillL [K0,K1] 1:=qoa
 have hB2:bsB [K0,K1] [lvHop 5 9,lvHop 0 8] (keyN 4) 2 2=maskL K0 bodyW (partL (lvHop 5 9) (bsT [K0,K1] [lvHop 5 9,lvHop 0 8] (keyN 4) 2 1)++(bsB [K0,K1] [lvHop 5 9,lvHop 0 8] (keyN 4) 2 1).take 1792):=qk5 0
 have hT1:bsT [K0,K1] [lvHop 5 9,lvHop 0 8] (keyN 4) 2 1=btagL K1 (bsB [K0,K1] [lvHop 5 9,lvHop 0 8] (keyN 4) 2 1) (keyN 4):=qlw 0
 have hT2:bsT [K0,K1] [lvHop 5 9,lvHop 0 8] (keyN 4) 2 2=btagL K0 (bsB [K0,K1] [lvHop 5 9,lvHop 0 8] (keyN 4) 2 2) (keyN 4):=qlw 1
 have hF:fillL [K0,K1] 1=(keyT K0).drop 2048:=by
  have h:=qt4 (L := [K0,K1]) (i:=0) (by omega)
  rw[qyf 0 _ rfl] at h
  have hz:=q1c (a:=(keyT K0).drop 2048) (n:=256) (by rw[List.length_drop,qb9])
  exact h.trans hz
 have lF:(fillL [K0,K1] 1).length=256:=by rw[hF,List.length_drop,qb9]
 rw[lF] at hB1
 have hP:qcy [lvHop 5 9,lvHop 0 8] [keyN 1,keyN 2] (keyN 3) (keyN 4)=keyN 3++(bsT [K0,K1] [lvHop 5 9,lvHop 0 8] (keyN 4) 2 2++bsB [K0,K1] [lvHop 5 9,lvHop 0 8] (keyN 4) 2 2):=by
  rw[<-hK,<-List.append_assoc]
  rfl
 rw[hP]
 generalize bsB [K0,K1] [lvHop 5 9,lvHop 0 8] (keyN 4) 2 1=B1 at *
 generalize bsB [K0,K1] [lvHop 5 9,lvHop 0 8] (keyN 4) 2 2=B0 at *
 generalize bsT [K0,K1] [lvHop 5 9,lvHop 0 8] (keyN 4) 2 1=t1 at *
 generalize bsT [K0,K1] [lvHop 5 9,lvHop 0 8] (keyN 4) 2 2=t0 at *
 have q1:sl (keyN 3++(t0++B0)) 0 32=keyN 3:=qc5 n3
 have q2:sl (keyN 3++(t0++B0)) 32 32=t0:=by rw[qau n3 (by omega)]; exact qc5 c2
 have q3:sl (keyN 3++(t0++B0)) 64 2048=B0:=by rw[qau n3 (by omega),qau c2 (by omega)]; exact qba b2
 unfold tagOK lkL
 rw[q1,q2,q3,<-hKX,hT2]
 refine decide_eq_false fun he => ?_
 have he:=congrArg encB he
 have lon:qkl.length=5:=rfl
 have ltg:tagW.length=3:=rfl
 have lbd:bodyW.length=4:=rfl
 have e0:encB K0=tag1E onE 5 (ky 1) (ky 3) 32 0:=by
  have h:=qsi (key:=keyN 1) (l:=qkl) (b:=keyN 3) (k:=0) n1 (by omega) (by omega) (by omega) (by omega)
  rw[n3,lon] at h
  rw[hK0]
  exact h
 have eX:encB KX=tag1E onE 5 (ky 2) (ky 3) 32 0:=by
  have h:=qsi (key:=keyN 2) (l:=qkl) (b:=keyN 3) (k:=0) n2 (by omega) (by omega) (by omega) (by omega)
  rw[n3,lon] at h
  rw[hKX]
  exact h
 have en:encB (sumL (keyN 3))=sqN 136 0 32 (qfi 136 6 0 (ky 3) 32):=by
  have h:=qih (rate:=136) (by omega) 6 (k:=0) (m:=0) (r:=32) (l:=keyN 3) (by omega) (by omega) (by omega)
  rw[n3] at h
  exact h
 have e1:encB K1=tag1E onE 5 (ky 2) (encB (sumL (keyN 3))) 32 0:=by
  have ls:=qbu (keyN 3)
  have h:=qsi (key:=keyN 2) (l:=qkl) (b:=sumL (keyN 3)) (k:=0) n2 (by omega) (by omega) (by omega) (by omega)
  rw[ls,lon] at h
  rw[hK1]
  exact h
 have eT0:encB (keyT K0)=strE bdE 4 (encB K0) 13 120:=str_E (m:=13) (r:=120) l0 (by omega) (by omega)
 have eT1:encB (maskL K1 bodyW (zs 2048))=strE bdE 4 (encB K1) 12 32:=str_E (m:=12) (r:=32) l1 (by omega) (by omega)
 have eB1:encB B1=(strE bdE 4 (encB K1) 12 32 ^^^ encB pre1) % 256 ^ 1792+256 ^ 1792*(encB (keyT K0) / 256 ^ 2048):=by
  have lp:(partL (lvHop 0 8) (zs 32)++(zs 2048).take 1792).length=2048:=by
   rw[qpy,List.length_append,List.length_append,List.length_append,qwr,qao,qao,List.length_take,qao]
   rfl
  have ez:(zs 2048).take 1792=zs 1792:=by unfold zs;rw[List.take_replicate]; rfl
  have ep:encB (partL (lvHop 0 8) (zs 32)++(zs 2048).take 1792)=encB pre1:=by
   rw[qbp,ez,qlg,Nat.mul_zero,Nat.add_zero,qpy,qbp,qbp,qlg,qlg,Nat.mul_zero,Nat.mul_zero,Nat.add_zero]
  have lm:(maskL K1 bodyW (partL (lvHop 0 8) (zs 32)++(zs 2048).take 1792)).length=2048:=by rw[qbd,lp]
  have ez2:List.replicate 2048 (0:UInt8)=zs 2048:=by unfold zs;with_reducible rfl
  have hm:encB (maskL K1 bodyW (partL (lvHop 0 8) (zs 32)++(zs 2048).take 1792))=strE bdE 4 (encB K1) 12 32 ^^^ encB pre1:=by
   rw[qoq,lp,ez2,qlh _ _ (by rw[qbd,qao,lp]),eT1,ep]
  have l17:((maskL K1 bodyW (partL (lvHop 0 8) (zs 32)++(zs 2048).take 1792)).take (2048 - 256)).length=1792:=by rw[List.length_take,lm]; rfl
  rw[hB1,qbp,l17,show 2048 - 256=1792 from rfl,qgo _ _ (by omega),hm,hF,qmi _ _ (by rw[qb9]; omega)]
 have et1:encB t1=tag2E tgE 3 (encB K1) (encB B1) 2048 (ky 4) 32 15:=by
  have h:=qr4 (key:=K1) (l:=tagW) (b:=B1) (c:=keyN 4) (k:=15) l1 (by omega) (by omega) (by omega) (by omega) (by omega)
  rw[b1,n4,ltg] at h
  rw[hT1]
  exact h
 have eB0:encB B0=(encB (keyT K0) % 256 ^ 2048) ^^^ (encB pre0+256 ^ 122*encB t1+256 ^ 256*(encB B1 % 256 ^ 1792)):=by
  have lp:(partL (lvHop 5 9) t1).length=256:=by
   rw[qp9,List.length_append,List.length_append,qp2,c1,qao]
  have lx:(partL (lvHop 5 9) t1++B1.take 1792).length=2048:=by rw[List.length_append,lp,List.length_take,b1]; rfl
  have ltk:((keyT K0).take 2048).length=2048:=by rw[List.length_take,qb9]; rfl
  have h1:xorL (keyT K0) (partL (lvHop 5 9) t1++B1.take 1792)=xorL ((keyT K0).take 2048) (partL (lvHop 5 9) t1++B1.take 1792):=(qg2 (by omega)).symm
  have ep:encB (partL (lvHop 5 9) t1)=encB pre0+256 ^ 122*encB t1:=by
   rw[qp9,qbp,qbp,qlg,Nat.mul_zero,Nat.add_zero,qp2]
  rw[hB2,qjt _ _ (by omega),h1,qlh _ _ (by omega),qgo _ _ (by rw[qb9]; omega),qbp,ep,lp,qgo _ _ (by omega)]
 have ea:encB (btagL K0 B0 (keyN 4))=tag2E tgE 3 (encB K0) (encB B0) 2048 (ky 4) 32 15:=by
  have h:=qr4 (key:=K0) (l:=tagW) (b:=B0) (c:=keyN 4) (k:=15) l0 (by omega) (by omega) (by omega) (by omega) (by omega)
  rw[b2,n4,ltg] at h
  exact h
 have eb:encB (btagL KX B0 (keyN 4))=tag2E tgE 3 (encB KX) (encB B0) 2048 (ky 4) 32 15:=by
  have h:=qr4 (key:=KX) (l:=tagW) (b:=B0) (c:=keyN 4) (k:=15) lX (by omega) (by omega) (by omega) (by omega) (by omega)
  rw[b2,n4,ltg] at h
  exact h
 have hfin:=qz2 e0 en e1 eX eT0 rfl eB1 et1 eB0
 rw[qyr,<-ea,<-eb,he] at hfin
 rw[Nat.beq_refl] at hfin
 cases hfin
end
end Go.Proofs.Vm

namespace Go.Proofs.Vm
set_option maxRecDepth 100000
open Go.Vm
noncomputable section
theorem lookB{P:Program}{f:Nat}{vals vals0:List AV}{r0:AV}{cs:List AV}{H:Hl}{lg:List Nat}(hc:CallTo P f vals0 [] r0 [.cells cs] lg)(h1:flatL cs)(h:Vws H vals vals0) :
  CallTo P f vals H (backV [] H.length r0) (join H [.cells cs]) []:=by
 have hc':CallTo P f (renL (pickN []) (viewF H [] 3) true vals) (pickH (viewF H [] 3) [] H) r0 [.cells cs] lg:=hc.le fun ρ w us hv=>qnn h hv
 have h:=CallTo.frame (H:=H) (vals:=vals) [] 3 List.nodup_nil (fun b hb=>by cases hb) hc' (fun b c hp=>by cases hp)
 have e1:backH [] H [.cells cs]=join H [.cells cs]:=by
  apply List.ext_getElem?
  intro b
  rw[qck,qbx]
  by_cases hb:b<H.length
  ·rw[if_pos hb,List.getElem?_append_left hb]; rfl
  ·rw[if_neg hb,List.getElem?_append_right (by omega)]
   simp only[List.length_nil,Nat.zero_add]
   cases b - H.length with
   | zero=>simp[backB,renB,qaa h1]
   | succ d=>simp
 have e2:backL [] lg = []:=by simp[backL]
 rw[e1,e2] at h
 exact h
theorem q0q(H:Hl)(z:Int):backV [] H.length (.tup [.slc 0 0 2112 2112 1,.int .i64 z]) = .tup [.slc (size H) 0 2112 2112 1,.int .i64 z]:=by
 unfold backV
 simp[ren,renL,backN,qay]
theorem q0v(H:Hl)(h:Hop)(z:Int):backV [] H.length (.tup [.agg (hopC h),.slc 0 0 2112 2112 1,.int .i64 z]) = .tup [.agg (hopC h),.slc (size H) 0 2112 2112 1,.int .i64 z]:=by
 unfold backV
 simp[ren,renL,backN,qay,qaa (qcn h)]
theorem qsq(H:Hl)(h:Hop)(z:Int):backV [] H.length (.tup [.agg (hopC h),.nils,.int .i64 z]) = .tup [.agg (hopC h),.nils,.int .i64 z]:=by
 unfold backV
 simp only[ren,renL,qaa (qcn h)]
def peelX(key p hash:List UInt8):Int × Hop × List UInt8:=if p.length=2112 then peelL key p hash else(10,hop0,[])
def bz0:BZ where
 gd hc n kn:=goodB (hsOf hc n) n kn
 bl ks ko hc n ns hs:=(qcy (hsOf hc n) (shA ks ko n) (qag ns) (qag hs)).map by8
 go ks b hs:=decide ((peelX (qag ks) b (qag hs)).2.2 ≠ [])
 hp ks b hs:=hopC (peelX (qag ks) b (qag hs)).2.1
 nx ks b hs:=(peelX (qag ks) b (qag hs)).2.2.map by8
 er ks b hs:=(peelX (qag ks) b (qag hs)).1
theorem qft{hs:List Hop}{n kn:Nat}:goodB hs n kn=true↔1<=n/\n<=8/\kn=n/\okHs hs n=true:=by
 unfold goodB
 simp only[Bool.and_eq_true,decide_eq_true_eq,and_assoc]
theorem arg60{ks hc:List AV}{n ko kn:Nat}{ns hsx:List AV}(h:P60 ks ko kn hc n ns hsx)(hg:goodB (hsOf hc n) n kn=true):∃ (hs:List Hop) (L:List (List UInt8)) (nn hash:List UInt8),hsOf hc n=hs/\shA ks ko n=L/\ns=nn.map by8/\hsx=hash.map by8/\Arg60 ks hc n hs L nn hash ko/\kn=n:=by
 obtain⟨hk,hP,⟨nn,hnn,rfl⟩,⟨hash,hh,rfl⟩⟩:=h
 have hP0:=hP
 obtain⟨hf,hn,hs,hp⟩:=hP
 obtain⟨g1,g2,rfl,g4⟩:=qft.1 hg
 have hk0:=hk
 obtain⟨kf,kl,kn2,L,hL⟩:=hk
 have e:=qcs hp
 exact⟨hs,L,nn,hash,e,qcr hL,rfl,rfl,⟨kf,hP0,hp,hk0,hL,hnn,hh,g1,g2,by rw[<-e]; exact g4⟩,rfl⟩
theorem qkm {f : Nat} (hv : ∀ {ks hc : List AV} {n : Nat} (c : Nat) (e : Bool) {hs : List Hop} {L : List (List UInt8)} {nn hash : List UInt8} {ko : Nat} (kc : Nat) (ke : Bool), Arg60 ks hc n hs L nn hash ko ->
      CallTo Try.prog f [.ros ks ko n kc ke,.ros hc 0 n c e,.agg (nn.map by8),.agg (hash.map by8)] [] (.tup [.slc 0 0 2112 2112 1,.int .i64 0]) [.cells ((qcy hs L nn hash).map by8)] [])
    (hb:∀ {ks hc:List AV} {nn hash:List UInt8} {n:Nat} {hs:List Hop} (c:Nat) (e:Bool) {ko kn:Nat} (kc:Nat) (ke:Bool),flatL ks->PHs hc n->HpAt hc n hs->kn<1099511627776->goodB hs n kn=false ->
      CallTo Try.prog f [.ros ks ko kn kc ke,.ros hc 0 n c e,.agg (nn.map by8),.agg (hash.map by8)] [] (.tup [.nils,.int .i64 1]) [] [])
    {H:Hl} {x y:AV} {ks hc ns hsx:List AV} {ko kn kc n c:Nat} {ke e:Bool} (hx:vw1 H x = .ros ks ko kn kc ke) (hy:vw1 H y = .ros hc 0 n c e) (hP:P60 ks ko kn hc n ns hsx) :
    CallTo Try.prog f [x,y,.agg ns,.agg hsx] H (CRes.cond (bz0.gd hc n kn) (.ok (.tup [.slc (size H) 0 2112 2112 1,.int .i64 0]) (join H [.cells (bz0.bl ks ko hc n ns hsx)]) []) (.ok (.tup [.nils,.int .i64 1]) H [])).fin.1
      (CRes.cond (bz0.gd hc n kn) (.ok (.tup [.slc (size H) 0 2112 2112 1,.int .i64 0]) (join H [.cells (bz0.bl ks ko hc n ns hsx)]) []) (.ok (.tup [.nils,.int .i64 1]) H [])).fin.2.1 (CRes.cond (bz0.gd hc n kn) (.ok (.tup [.slc (size H) 0 2112 2112 1,.int .i64 0]) (join H [.cells (bz0.bl ks ko hc n ns hsx)]) []) (.ok (.tup [.nils,.int .i64 1]) H [])).fin.2.2:=by
  have hP0:=hP
  obtain⟨hk,hh,hn,ha⟩:=hP
  cases hg:goodB (hsOf hc n) n kn with
  | true =>
    obtain⟨hs,L,nn,hash,e1,e2,rfl,rfl,harg,rfl⟩:=arg60 hP0 hg
    have hz:bz0.gd hc kn kn=true:=hg
    rw[hz]
    have h:=lookB (H:=H) (hv c e kc ke harg) (qac _) (.cons (Vw.one hx hk.1) (.cons (Vw.one hy hh.1) (.cons (vwA H nn) (.cons (vwA H hash) .nil))))
    rw[q0q] at h
    have eb:bz0.bl ks ko hc kn (nn.map by8) (hash.map by8)=(qcy hs L nn hash).map by8:=by
      show(qcy (hsOf hc kn) (shA ks ko kn) (qag _) (qag _)).map by8=_
      rw[e1,e2,qab,qab]
    rw[eb]
    exact h
  | false =>
    have hz:bz0.gd hc n kn=false:=hg
    rw[hz]
    obtain⟨nn,hnn,rfl⟩:=hn
    obtain⟨hash,hha,rfl⟩:=ha
    have hh0:=hh
    obtain⟨hf,_,hs,hp⟩:=hh
    rw[qcs hp] at hg
    exact CallTo.lookV (H:=H) (hb c e kc ke hk.1 hh0 hp hk.2.2.1 hg) (.cons (Vw.one hx hk.1) (.cons (Vw.one hy hf) (.cons (vwA H nn) (.cons (vwA H hash) .nil))))
theorem qmy{f:Nat}(hn:∀ {ks hs pc:List AV} {off len cap:Nat} {e:Bool},len≠2112->CallTo Try.prog f [.agg ks,.ros pc off len cap e,.agg hs] [] (.tup [.agg (hopC hop0),.nils,.int .i64 10]) [] [])
  (hv:∀ {key p hash:List UInt8},key.length=32->p.length=2112->hash.length=32->(peelL key p hash).2.2 = []->CallTo Try.prog f [.agg (key.map by8),.ros (p.map by8) 0 2112 2112 false,.agg (hash.map by8)] [] (.tup [.agg (hopC (peelL key p hash).2.1),.nils,.int .i64 (peelL key p hash).1]) [] [])
  (hs:∀ {key p hash:List UInt8},key.length=32->p.length=2112->hash.length=32->(peelL key p hash).2.2 ≠ []->CallTo Try.prog f [.agg (key.map by8),.ros (p.map by8) 0 2112 2112 false,.agg (hash.map by8)] [] (.tup [.agg (hopC (peelL key p hash).2.1),.slc 0 0 2112 2112 1,.int .i64 0]) [.cells ((peelL key p hash).2.2.map by8)] [])
  {H:Hl} {x:AV} {ks pc hsx:List AV} {off len c:Nat} {e:Bool} (hx:vw1 H x = .ros pc off len c e) (hP:P63 ks pc off len hsx) (hc:len<=c) :
  CallTo Try.prog f [.agg ks,x,.agg hsx] H (CRes.cond (bz0.go ks (rdB pc off len) hsx) (.ok (.tup [.agg (bz0.hp ks (rdB pc off len) hsx),.slc (size H) 0 2112 2112 1,.int .i64 0]) (join H [.cells (bz0.nx ks (rdB pc off len) hsx)]) []) (.ok (.tup [.agg (bz0.hp ks (rdB pc off len) hsx),.nils,.int .i64 (bz0.er ks (rdB pc off len) hsx)]) H [])).fin.1
   (CRes.cond (bz0.go ks (rdB pc off len) hsx) (.ok (.tup [.agg (bz0.hp ks (rdB pc off len) hsx),.slc (size H) 0 2112 2112 1,.int .i64 0]) (join H [.cells (bz0.nx ks (rdB pc off len) hsx)]) []) (.ok (.tup [.agg (bz0.hp ks (rdB pc off len) hsx),.nils,.int .i64 (bz0.er ks (rdB pc off len) hsx)]) H [])).fin.2.1
   (CRes.cond (bz0.go ks (rdB pc off len) hsx) (.ok (.tup [.agg (bz0.hp ks (rdB pc off len) hsx),.slc (size H) 0 2112 2112 1,.int .i64 0]) (join H [.cells (bz0.nx ks (rdB pc off len) hsx)]) []) (.ok (.tup [.agg (bz0.hp ks (rdB pc off len) hsx),.nils,.int .i64 (bz0.er ks (rdB pc off len) hsx)]) H [])).fin.2.2:=by
 obtain⟨⟨key,hk,rfl⟩,⟨hf,ho,_,lb,hb⟩,⟨hash,hh,rfl⟩⟩:=hP
 rw[qch hb]
 have e1:bz0.go (key.map by8) lb (hash.map by8)=decide ((peelX key lb hash).2.2 ≠ []):=by
  show decide ((peelX (qag _) lb (qag _)).2.2 ≠ [])=_
  rw[qab,qab]
 have e2:bz0.hp (key.map by8) lb (hash.map by8)=hopC (peelX key lb hash).2.1:=by
  show hopC (peelX (qag _) lb (qag _)).2.1=_
  rw[qab,qab]
 have e3:bz0.nx (key.map by8) lb (hash.map by8)=(peelX key lb hash).2.2.map by8:=by
  show(peelX (qag _) lb (qag _)).2.2.map by8=_
  rw[qab,qab]
 have e4:bz0.er (key.map by8) lb (hash.map by8)=(peelX key lb hash).1:=by
  show(peelX (qag _) lb (qag _)).1=_
  rw[qab,qab]
 rw[e1,e2,e3,e4]
 by_cases hl:len=2112
 ·subst hl
  have ep:peelX key lb hash=peelL key lb hash:=if_pos hb.1
  rw[ep]
  have hvw:=Vw.le (Vw.bytes hx hf ho hb) (VLe.cap hc)
  by_cases hnx:(peelL key lb hash).2.2 = []
  ·have hd:decide ((peelL key lb hash).2.2 ≠ [])=false:=decide_eq_false (fun h=>h hnx)
   rw[hd]
   have h:=CallTo.lookV (H:=H) (hv hk hb.1 hh hnx) (.cons (vwA H key) (.cons hvw (.cons (vwA H hash) .nil)))
   rw[qsq] at h
   exact h
  ·rw[decide_eq_true hnx]
   have h:=lookB (H:=H) (hs hk hb.1 hh hnx) (qac _) (.cons (vwA H key) (.cons hvw (.cons (vwA H hash) .nil)))
   rw[q0v] at h
   exact h
 ·have ep:peelX key lb hash=(10,hop0,[]):=if_neg (by rw[hb.1]; exact hl)
  rw[ep]
  have h:=CallTo.lookV (H:=H) (hn (ks:=key.map by8) (hs:=hash.map by8) (pc:=pc) (off:=off) (cap:=c) (e:=e) hl) (.cons (vwA H key) (.cons (Vw.one hx hf) (.cons (vwA H hash) .nil)))
  rw[qsq] at h
  exact h
theorem qu4:CnOK Try.prog (cnO4 bz0 oz0 of1 hf0):=by
 refine qfl ?_ qbf
 intro f vals H p x e hp
 dsimp only at e
 split at e
 ·split at e<;>cases e
  rename_i hx hy
  exact qkm (fun c e _ _ _ _ _ kc ke h=>q0z c e kc ke h) (fun c e _ _ kc ke h1 h2 h3 h4 h5=>qzt c e kc ke h1 h2 h3 h4 h5) hx hy hp
 ·split at e<;>cases e
  rename_i hx hy
  exact qkm (fun c e _ _ _ _ _ kc ke h=>qyu c e kc ke h) (fun c e _ _ kc ke h1 h2 h3 h4 h5=>q02 c e kc ke h1 h2 h3 h4 h5) hx hy hp
 ·split at e<;>cases e
  rename_i hx
  exact qmy qz1 q1e q0f hx hp.1 hp.2
 ·split at e<;>cases e
  rename_i hx
  exact qmy qzi qzd qy0 hx hp.1 hp.2
 ·cases e
end
end Go.Proofs.Vm

namespace Go.Proofs.Vm
set_option maxRecDepth 100000
open Go.Vm
noncomputable section
abbrev lh0:Hop:=lvHop 5 9
abbrev lh1:Hop:=lvHop 0 8
abbrev lvPk(i:Nat):List UInt8:=pktL [keyN 1,keyN 2] [lh0,lh1] (keyN 3) (keyN 4) i
theorem lh32:∀ h,h ∈ [lh0,lh1]->h.L32:=by
 intro h hm
 simp only[List.mem_cons,List.not_mem_nil,or_false] at hm
 rcases hm with rfl|rfl<;>exact⟨by simp[lvHop],by simp[lvHop],by simp[lvHop]⟩
theorem lh64:∀ h,h ∈ [lh0,lh1]->h.i64:=by
 intro h hm
 simp only[List.mem_cons,List.not_mem_nil,or_false] at hm
 rcases hm with rfl|rfl<;>exact⟨by simp[lvHop],by simp[lvHop]⟩
theorem lhok:okHs [lh0,lh1] 2=true:=by decide
theorem lv_hp:HpAt lvH 2 [lh0,lh1]:=by
 refine⟨rfl,fun i h hx => ?_⟩
 have l0:=qa8 (lh32 lh0 (by simp))
 have l1:=qa8 (lh32 lh1 (by simp))
 match i,hx with
 | 0,hx =>
  cases hx
  refine⟨lh32 _ (by simp),?_⟩
  unfold lvH
  rw[List.drop_zero]
  exact qe7 l0
 | 1,hx =>
  cases hx
  refine⟨lh32 _ (by simp),?_⟩
  unfold lvH
  rw[Nat.one_mul,qgm l0,List.take_of_length_le (Nat.le_of_eq l1)]
theorem q1a:flatL lvH:=by
 unfold lvH
 intro a ha
 rcases List.mem_append.1 ha with h|h
 ·exact qcn _ a h
 ·exact qcn _ a h
theorem lv_sh:ShAt lvK 0 2 [keyN 1,keyN 2]:=by
 have h:=qnp (K := [keyN 1,keyN 2]) (by
  intro x hx
  simp only[List.mem_cons,List.not_mem_nil,or_false] at hx
  rcases hx with rfl|rfl<;>exact qco _)
 have e : [keyN 1,keyN 2].flatten=keyN 1++keyN 2:=by simp
 rw[e] at h
 exact h
theorem q2o:P60 lvK 0 2 lvH 2 lk3 lk4 :=
 ⟨⟨qac _,by unfold lvK;rw[List.length_map,List.length_append,qco,qco]; omega,by omega,_,lv_sh⟩,⟨q1a,by omega,_,lv_hp⟩,pkey _ (qco 3),pkey _ (qco 4)⟩
theorem qu9{i:Nat}(hi:i<2):peelL ([keyN 1,keyN 2].getD i []) (lvPk i) (keyN 4)=(0,[lh0,lh1].getD i hop0,if i+1=2 then [] else lvPk (i+1))/\(lvPk i).length=2112 :=
 qp3 (qco 3) (by show 2<=8;omega) lh32 lh64 lhok hi
theorem nm_h(n:Nat)(c a:Int):nmB n (.cells (hopC (lvHop c a)))=true:=by kernel_rfl
theorem own_h(c a:Int):ownB (.cells (hopC (lvHop c a)))=true:=by kernel_rfl
theorem q35(c a:Int)(b:Nat):own (.tup [.agg (hopC (lvHop c a)),.slc b 0 2112 2112 1,.int .i64 0])=true:=by kernel_rfl
theorem qx1(c a z:Int):own (.tup [.agg (hopC (lvHop c a)),.nils,.int .i64 z])=true:=by kernel_rfl
set_option maxRecDepth 100000 in
theorem q42:CallTo Try.prog 62 [] [] (.bool true) [] []:=by
 obtain⟨p0,l0⟩:=qu9 (i:=0) (by omega)
 obtain⟨p1,l1⟩:=qu9 (i:=1) (by omega)
 have ehs:hsOf lvH 2 = [lh0,lh1]:=qcs lv_hp
 have eg:bz0.gd lvH 2 2=true:=by
  show goodB (hsOf lvH 2) 2 2=true
  rw[ehs]
  decide
 have eP:lvP bz0=(lvPk 0).map by8:=by
  show(qcy (hsOf lvH 2) (shA lvK 0 2) (qag ((keyN 3).map by8)) (qag ((keyN 4).map by8))).map by8=_
  rw[ehs,qcr lv_sh,qab,qab,<-qhb]
 have x0:peelX (keyN 1) (lvPk 0) (keyN 4)=(0,lh0,lvPk 1):=by
  unfold peelX
  rw[if_pos l0]
  exact p0
 have x1:peelX (keyN 2) (lvPk 1) (keyN 4)=(0,lh1,[]):=by
  unfold peelX
  rw[if_pos l1]
  exact p1
 have x2:peelX (keyN 2) (lvPk 0) (keyN 4)=(70,lvHop 0 0,[]):=by
  unfold peelX
  rw[if_pos l0]
  unfold peelL
  rw[show lvPk 0=qcy [lh0,lh1] [keyN 1,keyN 2] (keyN 3) (keyN 4) from qhb _ _ _ _,qt9,if_pos rfl]
  rfl
 have r0:rdB ((lvPk 0).map by8) 0 2112=lvPk 0:=rdW l0
 have r1:rdB ((lvPk 1).map by8) 0 2112=lvPk 1:=rdW l1
 have go:∀ k b,bz0.go ((keyN k).map by8) b lk4=decide ((peelX (keyN k) b (keyN 4)).2.2 ≠ []):=by
  intro k b
  show decide ((peelX (qag _) b (qag ((keyN 4).map by8))).2.2 ≠ [])=_
  rw[qab,qab]
 have hp:∀ k b,bz0.hp ((keyN k).map by8) b lk4=hopC (peelX (keyN k) b (keyN 4)).2.1:=by
  intro k b
  show hopC (peelX (qag _) b (qag ((keyN 4).map by8))).2.1=_
  rw[qab,qab]
 have nx:∀ k b,bz0.nx ((keyN k).map by8) b lk4=(peelX (keyN k) b (keyN 4)).2.2.map by8:=by
  intro k b
  show(peelX (qag _) b (qag ((keyN 4).map by8))).2.2.map by8=_
  rw[qab,qab]
 have er:∀ k b,bz0.er ((keyN k).map by8) b lk4=(peelX (keyN k) b (keyN 4)).1:=by
  intro k b
  show(peelX (qag _) b (qag ((keyN 4).map by8))).1=_
  rw[qab,qab]
 have ek1:lk1=(keyN 1).map by8:=rfl
 have ek2:lk2=(keyN 2).map by8:=rfl
 have eQ:lvQ bz0=(lvPk 1).map by8:=by
  unfold lvQ
  rw[eP,r0,ek1,nx,x0]
 have hne:lvPk 1 ≠ []:=fun h=>by rw[h] at l1;cases l1
 have g0:bz0.go lk1 (lvPk 0) lk4=true:=by rw[ek1,go,x0]; exact decide_eq_true hne
 have g1:bz0.go lk2 (lvPk 1) lk4=false:=by rw[ek2,go,x1]; rfl
 have g2:bz0.go lk2 (lvPk 0) lk4=false:=by rw[ek2,go,x2]; rfl
 have h0:bz0.hp lk1 (lvPk 0) lk4=hopC lh0:=by rw[ek1,hp,x0]
 have h1:bz0.hp lk2 (lvPk 1) lk4=hopC lh1:=by rw[ek2,hp,x1]
 have h2:bz0.hp lk2 (lvPk 0) lk4=hopC (lvHop 0 0):=by rw[ek2,hp,x2]
 have z1:bz0.er lk2 (lvPk 1) lk4=0:=by rw[ek2,er,x1]
 have z2:bz0.er lk2 (lvPk 0) lk4=70:=by rw[ek2,er,x2]
 have s0:=qfg (lh32 lh0 (by simp))
 have s1:=qfg (lh32 lh1 (by simp))
 have c0:=qa8 (lh32 lh0 (by simp))
 have c1:=qa8 (lh32 lh1 (by simp))
 have c2:(hopC (lvHop 0 0)).length=101:=qa8 (h:=lvHop 0 0) ⟨by simp[lvHop],by simp[lvHop],by simp[lvHop]⟩
 have pb0:PB ((lvPk 0).map by8) 0 2112:=qbz _ 2112 l0.symm (by omega)
 have pb1:PB ((lvPk 1).map by8) 0 2112:=qbz _ 2112 l1.symm (by omega)
 have k1:PKey lk1:=pkey _ (qco 1)
 have k2:PKey lk2:=pkey _ (qco 2)
 have k4:PKey lk4:=pkey _ (qco 4)
 have htab:∀ f vf,tabW f=some vf->FnOK Try.prog f vf:=by
  intro f vf h
  unfold tabW at h
  split at h<;>cases h
  ·exact ok62
  ·exact ok94
 have hv:=vc62 bz0 oz0 of1 hf0 (fun r=>r = .bool true)
 rw[eP,eQ,r0,r1,eg,g0,g1,g2,h0,h1,h2,z1,z2,s0,s1] at hv
 have nA:∀ n,nmB n (.cells ((lvPk 0).map by8))=true:=fun n=>nmB8 n _
 have nB:∀ n,nmB n (.cells ((lvPk 1).map by8))=true:=fun n=>nmB8 n _
 have oA:ownB (.cells ((lvPk 0).map by8))=true:=ownB8 _
 have oB:ownB (.cells ((lvPk 1).map by8))=true:=ownB8 _
 have nH0:∀ n,nmB n (.cells (hopC lh0))=true:=fun n=>nm_h n 5 9
 have nH1:∀ n,nmB n (.cells (hopC lh1))=true:=fun n=>nm_h n 0 8
 have oH0:ownB (.cells (hopC lh0))=true:=own_h 5 9
 have oH1:ownB (.cells (hopC lh1))=true:=own_h 0 8
 have oT0:∀ b,own (.tup [.agg (hopC lh0),.slc b 0 2112 2112 1,.int .i64 (Int.ofNat 0)])=true:=fun b=>q35 5 9 b
 have oT1:own (.tup [.agg (hopC lh1),.nils,.int .i64 0])=true:=qx1 0 8 0
 have oT2:own (.tup [.agg (hopC (lvHop 0 0)),.nils,.int .i64 70])=true:=qx1 0 0 70
 have m0:Nth (hopC lh0) 0 (.int .i64 5):=rfl
 have m1:Nth (hopC lh0) 1 (.int .i64 9):=rfl
 have m2:Nth (hopC lh1) 1 (.int .i64 8):=rfl
 generalize (lvPk 0).map by8=A at *
 generalize (lvPk 1).map by8=B at *
 generalize hopC lh0=H0 at *
 generalize hopC lh1=H1 at *
 generalize hopC (lvHop 0 0)=H2 at *
 have hq:=hv.mpr (by
  simp only[br_tt,br_ff,qbl,nLen,nEq,c0,c1,c2,decide_eq_true_eq,nA,nB,oA,oB,nH0,nH1,oH0,oH1,oT0,oT1,oT2,true_and]
  refine⟨q2o,⟨⟨k1,pb0,k4⟩,Nat.le_refl _⟩,⟨⟨k2,pb1,k4⟩,Nat.le_refl _⟩,⟨⟨k2,pb0,k4⟩,Nat.le_refl _⟩,?_⟩
  refine Br.t rfl (Br.t rfl ⟨5,m0,Br.t rfl ⟨9,m1,Br.t rfl ⟨8,m2,Br.t rfl ?_⟩⟩⟩)
  first|exact True.intro|rfl)
 obtain⟨r,H',lg,hc,rfl⟩:=qcu qu4 (qai _) htab (show tabW 62=some vf62 from rfl) hq
 exact hc.cut 0 (Nat.le_refl 0) (Nat.zero_le _) (lg0 := []) (fun b hb=>by simp at hb)
end
end Go.Proofs.Vm

namespace Go.Proofs.Vm
set_option maxRecDepth 100000
open Go.Vm
noncomputable section
def cnO5(B:BZ)(Z:OZ)(O:OY)(F:HF):CnF:=cnOr (fun f vals H=>match f,vals with
 | 62,[]=>some (0=0,.ok (.bool true) H [])
 | _,_=>none) (cnO4 B Z O F)
theorem vc20(B:BZ)(Z:OZ)(O:OY)(F:HF)(ks hc ns hs:List AV)(n c:Nat)(e:Bool)(kn kc:Nat)(ke:Bool)(Q:AV->Prop) :
  (vcall (vcA kdS (cnO5 B Z O F) noLn) ops0 (qah 20 vf20) 200 vf20 [.ros ks 0 kn kc ke,.ros hc 0 n c e,.agg ns,.agg hs] [] (fun r _ _=>Q r)) =
 ((Chk (ops0.le (ops0.add 0 (ops0.mul kn 32)) (ops0.len ks))
 (Chk (ops0.room 0 kn 32)
 (Chk (ops0.le (ops0.add 0 (ops0.mul n 101)) (ops0.len hc))
 (Chk (ops0.room 0 n 136)
 (Chk (ops0.le 32 (ops0.len ns))
 (Chk (ops0.le 32 (ops0.len hs))
 ((P60 (ops0.ext ks 0 (ops0.mul kn 32)) 0 kn (ops0.ext hc 0 (ops0.mul n 101)) n (ops0.ext ns 0 32) (ops0.ext hs 0 32)) /\
 (Br (BZ.gd B (ops0.ext hc 0 (ops0.mul n 101)) n kn)
 (Chk (ops0.le 32 (ops0.len ns))
 (Chk (ops0.le 32 (ops0.len hs))
 ((P60 ks 0 kn hc n (ops0.ext ns 0 32) (ops0.ext hs 0 32)) /\
 (Br (BZ.gd B hc n kn)
 (((0:Nat)=0) /\
 (Chk (ops0.le 2112 (ops0.len (BZ.bl B (ops0.ext ks 0 (ops0.mul kn 32)) 0 (ops0.ext hc 0 (ops0.mul n 101)) n (ops0.ext ns 0 32) (ops0.ext hs 0 32))))
 (∃ l:(List UInt8),((((ops0.ext (BZ.bl B (ops0.ext ks 0 (ops0.mul kn 32)) 0 (ops0.ext hc 0 (ops0.mul n 101)) n (ops0.ext ns 0 32) (ops0.ext hs 0 32)) 0 2112):(List AV))=(List.map (fun b=>(AV.int IntKind.u8 (((UInt8.toNat b):Nat):Int))) l)) /\
 (Chk (ops0.le 2112 (ops0.len (BZ.bl B ks 0 hc n (ops0.ext ns 0 32) (ops0.ext hs 0 32))))
 (∃ l1:(List UInt8),((((ops0.ext (BZ.bl B ks 0 hc n (ops0.ext ns 0 32) (ops0.ext hs 0 32)) 0 2112):(List AV))=(List.map (fun b=>(AV.int IntKind.u8 (((UInt8.toNat b):Nat):Int))) l1)) /\
 (Br (ops0.eqs l l1)
 (Q (AV.bool Bool.true))
 (Q (AV.bool Bool.false))))))))))
 (((0:Nat)=0) /\
 (Chk (ops0.le 2112 (ops0.len (BZ.bl B (ops0.ext ks 0 (ops0.mul kn 32)) 0 (ops0.ext hc 0 (ops0.mul n 101)) n (ops0.ext ns 0 32) (ops0.ext hs 0 32))))
 (∃ l:(List UInt8),((((ops0.ext (BZ.bl B (ops0.ext ks 0 (ops0.mul kn 32)) 0 (ops0.ext hc 0 (ops0.mul n 101)) n (ops0.ext ns 0 32) (ops0.ext hs 0 32)) 0 2112):(List AV))=(List.map (fun b=>(AV.int IntKind.u8 (((UInt8.toNat b):Nat):Int))) l)) /\
 (∃ l1:(List UInt8),((([]:(List AV))=(List.map (fun b=>(AV.int IntKind.u8 (((UInt8.toNat b):Nat):Int))) l1)) /\
 (Br (ops0.eqs l l1)
 (Q (AV.bool Bool.false))
 (Q (AV.bool Bool.false)))))))))))))
 (Chk (ops0.le 32 (ops0.len ns))
 (Chk (ops0.le 32 (ops0.len hs))
 ((P60 ks 0 kn hc n (ops0.ext ns 0 32) (ops0.ext hs 0 32)) /\
 (Br (BZ.gd B hc n kn)
 (((0:Nat)=0) /\
 (∃ l:(List UInt8),((([]:(List AV))=(List.map (fun b=>(AV.int IntKind.u8 (((UInt8.toNat b):Nat):Int))) l)) /\
 (Chk (ops0.le 2112 (ops0.len (BZ.bl B ks 0 hc n (ops0.ext ns 0 32) (ops0.ext hs 0 32))))
 (∃ l1:(List UInt8),((((ops0.ext (BZ.bl B ks 0 hc n (ops0.ext ns 0 32) (ops0.ext hs 0 32)) 0 2112):(List AV))=(List.map (fun b=>(AV.int IntKind.u8 (((UInt8.toNat b):Nat):Int))) l1)) /\
 (Br (ops0.eqs l l1)
 (Q (AV.bool Bool.false))
 (Q (AV.bool Bool.false)))))))))
 (((0:Nat)=0) /\
 (∃ l:(List UInt8),((([]:(List AV))=(List.map (fun b=>(AV.int IntKind.u8 (((UInt8.toNat b):Nat):Int))) l)) /\
 (∃ l1:(List UInt8),((([]:(List AV))=(List.map (fun b=>(AV.int IntKind.u8 (((UInt8.toNat b):Nat):Int))) l1)) /\
 (Br (ops0.eqs l l1)
 (Q (AV.bool Bool.true))
 (Q (AV.bool Bool.false))))))))))))))))))))):=by kernel_rfl
theorem qfj:CnOK Try.prog (cnO5 bz0 oz0 of1 hf0):=by
 refine qfl ?_ qu4
 intro f vals H p x e hp
 dsimp only at e
 split at e
 ·cases e
  exact CallTo.lookV (H:=H) q42 .nil
 ·cases e
theorem qv6{ks:List AV}{kn:Nat}(h:ks.length=kn*32):ops0.ext ks 0 (ops0.mul kn 32)=ks:=by rw[nExt,qbw,List.drop_zero,List.take_of_length_le (by omega)]
theorem qw4{hc:List AV}{n:Nat}(h:hc.length=n*101):ops0.ext hc 0 (ops0.mul n 101)=hc:=by rw[nExt,qbw,List.drop_zero,List.take_of_length_le (by omega)]
theorem hp_32{hc:List AV}{n:Nat}{hs:List Hop}(h:HpAt hc n hs):∀ h,h∈hs->h.L32:=fun h0 hm=>let ⟨i,hi⟩:=List.getElem?_of_mem hm;(h.2 i h0 hi).1
theorem qhy{hs:List Hop}{L:List (List UInt8)}{nn hash:List UInt8}(h8:hs.length<=8)(hh:∀ h,h∈hs->h.L32)(hnn:nn.length=32):(qcy hs L nn hash).length=2112:=by
 obtain⟨b1,b2⟩:=qcq (L:=keysL L nn hs.length) (hash:=hash) h8 hh hs.length
 rw[<-qhb]
 unfold pktL
 dsimp only
 rw[Nat.sub_zero,List.length_append,List.length_append,b1,b2]
 show nn.length+_=_
 rw[hnn]
theorem bl_eq{ks hc:List AV}{n ko kn:Nat}{hs:List Hop}{L:List (List UInt8)}(hp:HpAt hc n hs)(hL:ShAt ks ko n L)(nn hash:List UInt8):bz0.bl ks ko hc n (nn.map by8) (hash.map by8)=(qcy hs L nn hash).map by8:=by
 show(qcy (hsOf hc n) (shA ks ko n) (qag _) (qag _)).map by8=_
 rw[qcs hp,qcr hL,qab,qab]
theorem qn2{l:List UInt8}{n:Nat}(h:l.length=n):ops0.ext (l.map by8) 0 n=l.map by8:=by
 rw[nExt,List.drop_zero,List.take_of_length_le (by rw[List.length_map]; omega)]
theorem law20{ks hc:List AV}{n kn:Nat}(c:Nat)(e:Bool)(kc:Nat)(ke:Bool){hs:List Hop}{nn hash:List UInt8}(hk:PSh ks 0 kn)(hkl:ks.length=kn*32)(hkn:kn<=1048576)(hP:PHs hc n)(hp:HpAt hc n hs)(hhl:hc.length=n*101)(hn:n<=1048576)(hnn:nn.length=32)(hh:hash.length=32) :
  ∃ H' lg,CallTo Try.prog 20 [.ros ks 0 kn kc ke,.ros hc 0 n c e,.agg (nn.map by8),.agg (hash.map by8)] [] (.bool true) H' lg:=by
 have hv:=vc20 bz0 oz0 of1 hf0 ks hc (nn.map by8) (hash.map by8) n c e kn kc ke (fun r=>r = .bool true)
 rw[qv6 hkl,qw4 hhl,qa5 hnn,qa5 hh] at hv
 have h60:P60 ks 0 kn hc n (nn.map by8) (hash.map by8):=⟨hk,hP,pkey _ hnn,pkey _ hh⟩
 have hq:=hv.mpr (by
  simp only[qbl,nLe,nPlus,qbw,nLen,nRoom,hkl,hhl,List.length_map,hnn,hh,decide_eq_true_eq,Nat.zero_add,Nat.le_refl,true_and]
  refine⟨by omega,by omega,h60,?_⟩
  cases hg:goodB (hsOf hc n) n kn with
  | true =>
   have hz:bz0.gd hc n kn=true:=hg
   obtain⟨g1,g8,rfl,gok⟩:=qft.1 hg
   obtain⟨L,hL⟩:=hk.2.2.2
   have hbl:=qhy (L:=L) (hash:=hash) (by rw[hp.1]; exact g8) (hp_32 hp) hnn
   rw[hz,bl_eq (kn:=kn) hp hL,qn2 hbl]
   refine⟨h60,?_⟩
   simp only[br_tt,List.length_map,hbl,Nat.le_refl,true_and]
   refine⟨_,rfl,_,rfl,?_⟩
   rw[nEqs]
   exact Br.t (decide_eq_true rfl) (by first|rfl|trivial)
  | false =>
   have hz:bz0.gd hc n kn=false:=hg
   rw[hz]
   refine⟨h60,?_⟩
   simp only[br_ff,true_and]
   refine⟨[],rfl,[],rfl,?_⟩
   rw[nEqs]
   exact Br.t (decide_eq_true rfl) (by first|rfl|trivial))
 obtain⟨r,H',lg,hc2,rfl⟩:=qcu qfj (qai _) (qaj ok20) (qad 20 vf20) hq
 exact⟨H',lg,hc2⟩
end
end Go.Proofs.Vm

namespace Go.Proofs.Vm
set_option maxRecDepth 100000
open Go.Vm Go.ChangeShapes Go.WideShapes Go.ChangeAt Go.RowKit
theorem Try.own:ownKnob Try.prog.godebug=none:=by kernel_rfl
theorem Try.laidOut:laidOutB Try.prog=true:=by kernel_rfl
theorem qg6{H:Type}{enc:TypeId × Value->H}{P:Program}(hl:laidOutB P=true){W W':World}(hb:Below W.heap.size W W'):∀ {ts:List TypeId} {vs:List Value} {ds:List (DataW H)} {ps:List MemPlace},
  (∀ t∈ts,P.readableRec t=true/\t<P.types.size)->DataW.TrodAll enc P W 0 (fun _=>true) true ts vs ds ps->(∀ x∈ps,x.block<W.heap.size)->DataW.TrodAll enc P W' 0 (fun b=>decide (b<W.heap.size)) true ts vs ds ps
 | [],vs,ds,ps,_,h,_=>by
  obtain⟨rfl,rfl,rfl⟩:=trodAll_nil h
  exact trodAll_mk0
 | t::ts,vs,ds,ps,ht,h,hlt=>by
  obtain⟨v,vs1,d,ds1,a,b,rfl,rfl,rfl,h1,h2⟩:=trodAll_cons h
  refine trodAll_cons_mk (Below.trod hl (ht t (by simp)).1 (ht t (by simp)).2 h1 hb (fun x hx=>hlt x (by simp[hx]))) (qg6 hl hb (fun t h=>ht t (by simp[h])) h2 (fun x hx=>hlt x (by simp[hx])))
theorem qh4{H:Type}{enc:TypeId × Value->H}{f:Func}{s:ChangeSpec}{n:Nat}{W:World}{args:Array Value}{ds gs:List (DataW H)}{before:List MemPlace}(hres:f.resultTypes.toList = [4])
  (hts:∀ t∈f.params.toList,Try.prog.readableRec t=true/\t<Try.prog.types.size) (hvars:s.vars = []) (hW:DataW.Whole enc Try.prog f.params.toList s.vars false W args.toList ds gs before)
  (hfn:s.fn H (ds ++ []) = { results := [.lit (.bool true)],args:=ds }) (hcall:Calls Try.prog n args W fun e W'=>e = .returned (.bool true)/\Below W.heap.size W W') :
  Calls Try.prog n args W fun e W'=>∃ v,e = .returned v/\s.post enc Try.prog f false true false false W args v W':=by
 have hW':=hW
 obtain⟨p,q,hA,hV,rfl,hfz,hnd⟩:=hW
 rw[hvars] at hV
 obtain⟨rfl,rfl⟩:=trodVars_none hV
 have hlt:∀ x∈p,x.block<W.heap.size:=fun x hx=>by
  have:=hW'.lt x (by simp[hx])
  simpa using this
 refine hcall.mono fun e W' ⟨he,hb⟩ => ?_
 subst he
 have h2:f.resultTypes.size=1:=by rw[<-Array.length_toList,hres]; rfl
 refine⟨_,rfl,ds,[],p ++ [],[],p,[],hW',?_,?_,?_,hb.frame _,fun h=>by cases h⟩
 ·rw[hfn,hres,h2]
  exact trodAll_cons_mk (shut_bool Try.underlying4 _) trodAll_mk0
 ·rw[hfn]
  exact qg6 Try.laidOut hb hts hA hlt
 ·rw[hfn,hvars]
  exact rfl
theorem qha{n:Nat}{vals:List AV}{H':Hl}{lg:List Nat}(hc:CallTo Try.prog n vals [] (.bool true) H' lg){w:World}{us:List Value}(hv:VRels noRho w vals us) :
  Calls Try.prog n us.toArray w fun e w'=>e = .returned (.bool true)/\Below w.heap.size w w' :=
 (hc.enter hv).mono fun e w' ⟨v,ρ',he,h2,h3⟩=>by
  have:=qca h2
  subst this
  exact⟨he,h3⟩
end Go.Proofs.Vm

namespace Go.Proofs.Vm
set_option maxRecDepth 100000
open Go.Vm Go.ChangeShapes Go.WideShapes Go.ChangeAt Go.RowKit
theorem qvb{H:Type}(d:DataW H):1 <= Ytfmhlogapbpnbaa.Rows.uptoBulk d:=by
 cases d with
 | lit l=>cases l<;>simp[Ytfmhlogapbpnbaa.Rows.uptoBulk]
 | nil=>simp[Ytfmhlogapbpnbaa.Rows.uptoBulk]
 | ptr d=>simp[Ytfmhlogapbpnbaa.Rows.uptoBulk]
 | slice elems spare=>simp[Ytfmhlogapbpnbaa.Rows.uptoBulk]
 | agg parts=>simp[Ytfmhlogapbpnbaa.Rows.uptoBulk]
 | iface t d=>simp[Ytfmhlogapbpnbaa.Rows.uptoBulk]
 | map entries=>simp[Ytfmhlogapbpnbaa.Rows.uptoBulk]
 | held h=>simp[Ytfmhlogapbpnbaa.Rows.uptoBulk]
theorem qdq{H:Type}{d:DataW H}{l:List (DataW H)}(h:d∈l) : Ytfmhlogapbpnbaa.Rows.uptoBulk d <= Ytfmhlogapbpnbaa.Rows.uptoBulkAll l:=by
 induction l with
 | nil=>cases h
 | cons x r ih =>
  simp only[Ytfmhlogapbpnbaa.Rows.uptoBulkAll]
  cases List.mem_cons.1 h with
  | inl e=>subst e;omega
  | inr e=>have:=ih e;omega
theorem qnu{H:Type}(l:List (DataW H)):l.length <= Ytfmhlogapbpnbaa.Rows.uptoBulkAll l:=by
 induction l with
 | nil=>simp[Ytfmhlogapbpnbaa.Rows.uptoBulkAll]
 | cons x r ih=>have:=qvb x;simp only[Ytfmhlogapbpnbaa.Rows.uptoBulkAll,List.length_cons]; omega
theorem qj1{H:Type}(elems spare:List (DataW H)):elems.length <= Ytfmhlogapbpnbaa.Rows.uptoBulk (.slice elems spare):=by
 have h1:=qnu elems
 simp only[Ytfmhlogapbpnbaa.Rows.uptoBulk]
 omega
theorem qzn{n:Int}(h:(Lit.int .u8 n).wf=true):by8 (UInt8.ofNat n.toNat) = .int .u8 n:=by
 have hx:0<=n/\n<=255:=by simpa[Lit.wf,IntKind.min,IntKind.max,IntKind.signed,IntKind.bits] using h
 unfold by8
 congr 1
 rw[UInt8.toNat_ofNat_of_lt' (by show _<256;omega)]
 simp only[Int.ofNat_eq_natCast]
 omega
def intA':Value->Int
 | .int _ n=>n
 | _=>0
set_option maxRecDepth 100000
theorem qb0{W:World}{base:Nat}{t e n:Nat}{k:IntKind}{v:Value}(ht:Try.prog.underlying t=some (.array n e))(he:Try.prog.underlying e=some (.int k))(hc:Try.prog.cellsOf t=n)(hts:Try.prog.cellTypes Try.prog.depth t=some (List.replicate n e))
  (hval:Value.okWide Try.prog W .any base t v):∃ zs:List Int,v = .agg (zs.map (Value.int k)).toArray/\zs.length=n/\∀ z∈zs,k.has z:=by
 simp only[Value.okWide,ht] at hval
 obtain⟨cs,rfl,hsz,ts,h1,_,h3⟩:=hval
 rw[hts] at h1
 cases h1
 rw[hc] at hsz
 have each:∀ (i:Nat) (v:Value),cs[i]? = some v->∃ z,v=Value.int k z/\k.has z:=by
  intro i v hv
  obtain⟨u,hu,hx⟩:=h3 i v hv
  have hue:u=e:=by
   rw[List.getElem?_replicate] at hu
   split at hu<;>cases hu
   rfl
  subst hue
  simp only[Cell.okWide,he,Cell.ok] at hx
  cases v<;>simp_all
 refine⟨cs.toList.map intA',?_,by simp[hsz],?_⟩
 ·congr 1
  apply Array.ext
  ·simp
  ·intro i h1 h2
   have hi:cs[i]? = some cs[i]:=by simp[h1]
   obtain⟨z,hz,_⟩:=each i _ hi
   simp[intA',hz]
 ·intro z hz
  obtain⟨v,hv,rfl⟩:=List.mem_map.1 hz
  obtain⟨i,hi,e⟩:=List.mem_iff_getElem.1 hv
  have hi':cs[i]? = some v:=by
   rw[<-e]
   have:i<cs.size:=by simpa using hi
   simp[this]
  obtain⟨z,hz,hh⟩:=each i v hi'
  rw[hz]
  exact hh
theorem qzy(w:World)(k:IntKind)(zs:List Int):VRel noRho w (.agg (zs.map (AV.int k))) (.agg (zs.map (Value.int k)).toArray):=by
 refine .agg _ _ (by simp) (fun v hv => ?_) (fun i a v ha hv => ?_)
 ·obtain⟨n,_,rfl⟩:=List.mem_map.1 hv
  rfl
 ·rw[List.getElem?_map] at ha hv
  obtain⟨n,hn,rfl⟩:=Option.map_eq_some_iff.1 ha
  rw[hn] at hv
  cases hv
  exact .int _ _
end Go.Proofs.Vm

namespace Go.Proofs.Vm
set_option maxRecDepth 100000
open Go.Vm Go.ChangeShapes Go.WideShapes Go.ChangeAt Go.RowKit
set_option maxRecDepth 100000
theorem qh2{zs:List Int}{n:Nat}(hz:zs.length=n)(hw:∀ z∈zs,IntKind.u8.has z)(W:World):∃ key:List UInt8,key.length=n/\VRel noRho W (.agg (key.map by8)) (.agg (zs.map (Value.int .u8)).toArray):=by
 refine⟨zs.map fun z=>UInt8.ofNat z.toNat,by simp[hz],?_⟩
 have e:(zs.map fun z=>UInt8.ofNat z.toNat).map by8=zs.map (AV.int .u8):=by
  rw[List.map_map]
  apply List.map_congr_left
  intro z hz'
  refine qzn ?_
  have:=hw z hz'
  simp only[Lit.wf]
  simpa[IntKind.has,IntKind.min,IntKind.max,IntKind.signed,IntKind.bits] using this
 rw[e]
 exact qzy W .u8 zs
theorem q0o{W:World}{a:Addr}{v:Value}(h:W.cell? a=some v):a=⟨a.block,a.off,none⟩/\a.block<W.heap.size:=by
 obtain⟨b,o,s⟩:=a
 simp only[World.cell?] at h
 constructor
 ·cases s with
  | none=>rfl
  | some k =>
   exfalso
   split at h<;>simp at h
 ·show b<W.heap.size
  rcases Nat.lt_or_ge b W.heap.size with h'|h'
  ·exact h'
  ·simp[Array.getElem?_eq_none h'] at h
theorem qey{b o i:Nat}:(Addr.add ⟨b,o,none⟩ i)=⟨b,o+i,none⟩:=by
 unfold Addr.add
 by_cases h0:i=0
 ·subst h0;simp
 ·rw[if_neg h0]
end Go.Proofs.Vm

namespace Go.Proofs.Vm
set_option maxRecDepth 100000
open Go.Vm
noncomputable section
end
end Go.Proofs.Vm

namespace Go.Proofs.Vm
set_option maxRecDepth 100000
open Go.Vm Go.ChangeShapes Go.WideShapes Go.ChangeAt Go.RowKit
set_option maxRecDepth 100000
theorem qp4{W:World}{a:Addr}{n m:Nat}{avs:List AV}{vs:List Value}(ha:avs.length=m)(hv:vs.length=m)(hone:∀ v∈vs,vone v=true)
  (hrel:∀ (i:Nat) x v,avs[i]? = some x->vs[i]? = some v->VRel noRho W x v) (hcell:∀ (i:Nat) v,vs[i]? = some v->W.cell? (a.add i)=some v) {cap:Nat} (hcap:n<=cap) (hs:a.spot=none) :
  VRel noRho W (.ros avs 0 n n false) (.slice (some a) n cap):=by
 have hspot:avs ≠ []->a=⟨a.block,a.off,none⟩/\a.block<W.heap.size:=by
  intro hn
  have h0:0<vs.length:=by
   rw[hv,<-ha]
   exact List.length_pos_iff.2 hn
  have h1:=hcell 0 vs[0] (List.getElem?_eq_getElem h0)
  have e0:a.add 0=a:=by simp[Addr.add]
  rw[e0] at h1
  exact q0o h1
 refine .ros avs 0 n n false a.block a.off (some a) cap vs (fun hn=>(hspot hn).2) (fun _ b F' h=>by cases h) (by omega) hone ?_ hrel (by omega) (by omega) (fun h=>by cases h) (fun _=>by obtain⟨b,o,s⟩:=a;cases hs;rfl)
 intro i v hi
 have hlt:i<vs.length:=(List.getElem?_eq_some_iff.1 hi).1
 have hne:avs ≠ []:=by intro e;rw[e] at ha;simp at ha;omega
 have h1:=hcell i v hi
 rw[(hspot hne).1,qey] at h1
 exact h1
theorem qib{α:Type}{n:Nat}{R:Nat->α->Prop}(h:∀ i,i<n->∃ x,R i x):∃ l:List α,l.length=n/\∀ (i:Nat) x,l[i]? = some x->R i x:=by
 induction n with
 | zero=>exact⟨[],rfl,fun i x hx=>by cases hx⟩
 | succ n ih =>
  obtain⟨l,h1,h2⟩:=ih fun i hi=>h i (by omega)
  obtain⟨x,hx⟩:=h n (by omega)
  refine⟨l ++ [x],by simp[h1],fun i y hy => ?_⟩
  rcases Nat.lt_or_ge i n with hi|hi
  ·rw[List.getElem?_append_left (by omega)] at hy
   exact h2 i y hy
  ·have hlt:i<(l ++ [x]).length:=(List.getElem?_eq_some_iff.1 hy).1
   have hin:i=n:=by simp[h1] at hlt;omega
   subst hin
   rw[List.getElem?_append_right (by omega),h1,Nat.sub_self] at hy
   cases hy
   exact hx
theorem qv7{L:List (List UInt8)}(h:∀ x,x∈L->x.length=32){j:Nat}{b:UInt8}(hj:L.flatten[j]? = some b):∃ x,L[j / 32]? = some x/\x[j % 32]? = some b:=by
 have hlt:j<L.flatten.length:=(List.getElem?_eq_some_iff.1 hj).1
 have hi:j / 32<L.length:=by rw[qdb h] at hlt;omega
 have hx:=List.getElem?_eq_getElem hi
 refine⟨L[j / 32],hx,?_⟩
 have hd:=qlu [] L (j / 32) L[j / 32] h hx
 rw[List.append_nil] at hd
 have e1:((L.flatten.map by8).drop (j / 32*32)).take 32=((L.flatten.drop (j / 32*32)).take 32).map by8:=by rw[List.map_take,List.map_drop]
 rw[e1] at hd
 have hd2:(L.flatten.drop (j / 32*32)).take 32=L[j / 32]:=by
  have:=congrArg qag hd
  rwa [qab,qab] at this
 rw[<-hd2,List.getElem?_take,if_pos (by omega),List.getElem?_drop,show j / 32*32+j % 32=j by omega]
 exact hj
end Go.Proofs.Vm

namespace Go.Proofs.Vm
set_option maxRecDepth 100000
open Go.Vm Go.ChangeShapes Go.WideShapes Go.ChangeAt Go.RowKit
set_option maxRecDepth 100000
theorem qhq{α:Type}{N:Nat}:∀ {L:List (List α)},(∀ x,x∈L->x.length=N)->∀ {i:Nat} {x:List α},L[i]? = some x->(L.flatten.drop (i*N)).take N=x
 | [],_,i,x,h=>by cases h
 | y::L,hl,0,x,h=>by
  cases h
  rw[Nat.zero_mul,List.drop_zero,List.flatten_cons]
  exact qe7 (hl _ (by simp))
 | y::L,hl,i+1,x,h=>by
  have hy:=hl y (by simp)
  rw[List.flatten_cons,show(i+1)*N=N+i*N by rw[Nat.succ_mul,Nat.add_comm],<-List.drop_drop,qgm hy]
  exact qhq (fun x hx=>hl x (by simp[hx])) h
theorem qfn{α:Type}{N:Nat}:∀ {L:List (List α)},(∀ x,x∈L->x.length=N)->L.flatten.length=L.length*N
 | [],_=>by simp
 | y::L,hl=>by
  rw[List.flatten_cons,List.length_append,hl y (by simp),qfn (fun x hx=>hl x (by simp[hx])),List.length_cons,Nat.succ_mul,Nat.add_comm]
theorem qsb{α:Type}{N:Nat}{L:List (List α)}(hN:0<N)(h:∀ x,x∈L->x.length=N){j:Nat}{b:α}(hj:L.flatten[j]? = some b):∃ x,L[j / N]? = some x/\x[j % N]? = some b:=by
 have hlt:j<L.flatten.length:=(List.getElem?_eq_some_iff.1 hj).1
 rw[qfn h] at hlt
 have hi:j / N<L.length:=Nat.div_lt_of_lt_mul (by rw[Nat.mul_comm]; exact hlt)
 have hx:=List.getElem?_eq_getElem hi
 refine⟨L[j / N],hx,?_⟩
 have hd:=qhq h hx
 have hm:=Nat.mod_lt j hN
 rw[<-hd,List.getElem?_take,if_pos hm,List.getElem?_drop,Nat.div_add_mod']
 exact hj
def v8(b:UInt8):Value := .int .u8 (Int.ofNat b.toNat)
def hopV(h:Hop):List Value := .int .i64 h.ch :: .int .i64 h.am :: .int .i64 h.ex::(h.sec.map v8++(.int .i64 h.tot::(h.set.map v8++(.int .i64 h.idx::h.shr.map v8))))
theorem qp8(W:World):∀ l:List UInt8,VRels noRho W (l.map by8) (l.map v8)
 | [] => .nil
 | b::l => .cons (.int _ _) (qp8 W l)
theorem qv1(W:World)(h:Hop):VRels noRho W (hopC h) (hopV h) :=
 .cons (.int _ _) (.cons (.int _ _) (.cons (.int _ _) ((qp8 W _).append (.cons (.int _ _) ((qp8 W _).append (.cons (.int _ _) (qp8 W _)))))))
theorem qik{h:Hop}(hl:h.L32):(hopV h).length=101:=by
 obtain⟨h1,h2,h3⟩:=hl
 unfold hopV
 simp only[List.length_cons,List.length_append,List.length_map,h1,h2,h3]
theorem qwa(h:Hop):∀ v,v∈hopV h->vone v=true:=by
 unfold hopV
 intro v hv
 simp only[List.mem_cons,List.mem_append,List.mem_map] at hv
 rcases hv with rfl|rfl|rfl|⟨b,_,rfl⟩|rfl|⟨b,_,rfl⟩|rfl|⟨b,_,rfl⟩<;>rfl
theorem qpm(W:World):∀ hs:List Hop,VRels noRho W (hs.map hopC).flatten (hs.map hopV).flatten
 | [] => .nil
 | h::hs=>by
  rw[List.map_cons,List.map_cons,List.flatten_cons,List.flatten_cons]
  exact(qv1 W h).append (qpm W hs)
section
variable {H:Type}{enc:TypeId × Value->H}{W:World}{base:Nat}{n:Nat}{cs:List Value}{y:DataW H × List MemPlace}
theorem q07{o:Nat}{v:Value}(hl:o<cs.length)(h:(cs.drop o).take 1 = [v]):cs.drop o=v::cs.drop (o+1):=by
 rw[List.drop_eq_getElem_cons hl] at h
 have h3 : [cs[o]] = [v]:=h
 rw[List.drop_eq_getElem_cons hl,(List.cons.inj h3).1]
theorem qjd{t o:Nat}(ht:Try.prog.underlying t=some (.int .i64))(hc:Try.prog.cellsOf t=1)(hl:o<cs.length)(h:DataW.trod enc Try.prog W base (fun _=>true) true n t ((cs.drop o).take (Try.prog.cellsOf t))=some y) :
  ∃ z:Int,cs.drop o = .int .i64 z::cs.drop (o+1)/\z<9223372036854775808:=by
 rw[hc] at h
 obtain⟨z,hz,_,hw⟩:=DataW.trod_int ht h
 have hx : -9223372036854775808<=z/\z<=9223372036854775807:=by simpa[Lit.wf,IntKind.min,IntKind.max,IntKind.signed,IntKind.bits] using hw
 exact⟨z,q07 hl hz,by omega⟩
theorem qoo{t e o:Nat}(ht:Try.prog.underlying t=some (.array 32 e))(he:Try.prog.underlying e=some (.int .u8))(hc:Try.prog.cellsOf t=32)(hce:Try.prog.cellsOf e=1)(hl:o+32<=cs.length)
  (h:DataW.trod enc Try.prog W base (fun _=>true) true n t ((cs.drop o).take (Try.prog.cellsOf t))=some y):∃ x:List UInt8,x.length=32/\cs.drop o=x.map v8++cs.drop (o+32):=by
 rw[hc] at h
 obtain⟨xs,m,_,_,hl1,hl2,hk⟩:=DataW.trod_array ht h
 have cell:∀ k,k<32->∃ b:UInt8,((cs.drop o).take 32)[k]? = some (v8 b):=by
  intro k hk32
  have h2:=hk k hk32
  rw[hce,Nat.mul_one,List.getElem?_eq_getElem (by omega)] at h2
  obtain⟨z,hz,_,hw⟩:=DataW.trod_int he h2
  have hzz:((cs.drop o).take 32)[k]? = some (.int .u8 z):=by
   have:=congrArg (fun l=>l[0]?) hz
   simpa using this
  have hx:0<=z/\z<=255:=by simpa[Lit.wf,IntKind.min,IntKind.max,IntKind.signed,IntKind.bits] using hw
  refine⟨UInt8.ofNat z.toNat,?_⟩
  unfold v8
  rw[hzz,UInt8.toNat_ofNat_of_lt' (by show _<256;omega)]
  congr 2
  simp only[Int.ofNat_eq_natCast]
  omega
 obtain⟨x,hx1,hx2⟩:=qib cell
 have e:(cs.drop o).take 32=x.map v8:=by
  apply List.ext_getElem?
  intro k
  rw[List.getElem?_map]
  by_cases hk32:k<32
  ·rw[List.getElem?_eq_getElem (show k<x.length by omega)]
   exact hx2 k _ (List.getElem?_eq_getElem (by omega))
  ·rw[List.getElem?_eq_none (by rw[List.length_take]; omega),List.getElem?_eq_none (by omega)]
   rfl
 refine⟨x,hx1,?_⟩
 rw[<-e,<-List.drop_drop,List.take_append_drop]
end
theorem qwm{H:Type}{enc:TypeId × Value->H}{W:World}{base n:Nat}{cs:List Value}{y:DataW H × List MemPlace}(hc3:Try.prog.cellsOf 3=1)(hc23:Try.prog.cellsOf 23=32)(hc5:Try.prog.cellsOf 5=1)(hc75:Try.prog.cellsOf 75=101)
  (h:DataW.trod enc Try.prog W base (fun _=>true) true n 75 cs=some y):∃ h:Hop,h.L32/\h.i64/\cs=hopV h:=by
 obtain⟨xs,m,_,_,hl,hlen,hf⟩:=DataW.trod_struct Try.underlying75 h
 rw[hc75] at hl
 have hsz:xs.length=8:=hlen
 have get:∀ i,i<8->∃ y,xs[i]? = some y:=fun i hi=>⟨_,List.getElem?_eq_getElem (by omega)⟩
 obtain⟨y0,g0⟩:=get 0 (by omega)
 obtain⟨y1,g1⟩:=get 1 (by omega)
 obtain⟨y2,g2⟩:=get 2 (by omega)
 obtain⟨y3,g3⟩:=get 3 (by omega)
 obtain⟨y4,g4⟩:=get 4 (by omega)
 obtain⟨y5,g5⟩:=get 5 (by omega)
 obtain⟨y6,g6⟩:=get 6 (by omega)
 obtain⟨y7,g7⟩:=get 7 (by omega)
 obtain⟨z0,e0,b0⟩:=qjd Try.underlying3 hc3 (o:=0) (by omega) ((hf 0 _ rfl).trans g0)
 obtain⟨z1,e1,b1⟩:=qjd Try.underlying3 hc3 (o:=1) (by omega) ((hf 1 _ rfl).trans g1)
 obtain⟨z2,e2,b2⟩:=qjd Try.underlying3 hc3 (o:=2) (by omega) ((hf 2 _ rfl).trans g2)
 obtain⟨x3,l3,e3⟩:=qoo Try.underlying23 Try.underlying5 hc23 hc5 (o:=3) (by omega) ((hf 3 _ rfl).trans g3)
 obtain⟨z4,e4,b4⟩:=qjd Try.underlying3 hc3 (o:=35) (by omega) ((hf 4 _ rfl).trans g4)
 obtain⟨x5,l5,e5⟩:=qoo Try.underlying23 Try.underlying5 hc23 hc5 (o:=36) (by omega) ((hf 5 _ rfl).trans g5)
 obtain⟨z6,e6,b6⟩:=qjd Try.underlying3 hc3 (o:=68) (by omega) ((hf 6 _ rfl).trans g6)
 obtain⟨x7,l7,e7⟩:=qoo Try.underlying23 Try.underlying5 hc23 hc5 (o:=69) (by omega) ((hf 7 _ rfl).trans g7)
 refine⟨⟨z0,z1,z2,x3,z4,x5,z6,x7⟩,⟨l3,l5,l7⟩,⟨b1,b4⟩,?_⟩
 have h0:cs=cs.drop 0:=rfl
 have hend:cs.drop (69+32) = []:=List.drop_of_length_le (by omega)
 rw[h0,e0,e1,e2,e3,e4,e5,e6,e7,hend,List.append_nil]
 rfl
theorem qgq{H:Type}{enc:TypeId × Value->H}{W:World}{base:Nat}{v:Value}{d:DataW H}{p:List MemPlace}(hc3:Try.prog.cellsOf 3=1)(hc23:Try.prog.cellsOf 23=32)(hc5:Try.prog.cellsOf 5=1)(hc75:Try.prog.cellsOf 75=101)
  (hval:Value.okWide Try.prog W .any base 70 v) (h:DataW.Trod enc Try.prog W 0 (fun _=>true) true 70 v d p) (hb : Ytfmhlogapbpnbaa.Rows.uptoBulk d<=1048576) :
  ∃ (hc:List AV) (n c:Nat) (ex:Bool) (hs:List Hop),VRel noRho W (.ros hc 0 n c ex) v/\PHs hc n/\HpAt hc n hs/\(∀ h,h∈hs->h.i64)/\n<=1048576/\hc.length=n*101:=by
 obtain⟨a0,len,cap,rfl⟩:=okWide_slice Try.underlying70 hval
 obtain⟨fuel,hf⟩:=h
 rcases DataW.trod_slice Try.underlying70 hf with ⟨hcs,hx⟩|⟨a,len',cap',elems,rest,n,_,hcs,hx,_,hl,hm,hlen,hel,hsp,hns⟩
 ·simp[Value.cells] at hcs
  obtain⟨rfl,rfl,rfl⟩:=hcs
  have hp:HpAt [] 0 []:=⟨rfl,fun i h hx=>by cases hx⟩
  exact⟨[],0,0,true,[],.ros [] 0 0 0 true 0 0 none 0 [] (fun h=>absurd rfl h) (fun h=>absurd rfl h) rfl (by simp) (by simp) (by simp) (Nat.le_refl _) (Nat.le_refl _) (fun _=>rfl) (fun h=>absurd rfl h),
   ⟨fun a h=>(by cases h),by omega,[],hp⟩,hp,fun h hx=>(by cases hx),by omega,rfl⟩
 ·simp[Value.cells] at hcs
  obtain⟨rfl,rfl,rfl⟩:=hcs
  simp only[Prod.mk.injEq] at hx
  obtain⟨rfl,_⟩:=hx
  have hbl:=Nat.le_trans (qj1 (elems.map (·.1)) (rest.map (·.1))) hb
  rw[List.length_map,hlen] at hbl
  have hspot:a.spot=none:=by
   simp only[Value.okWide,Try.underlying70,Cell.okWide,Cell.ok] at hval
   exact hval.2.2.2.1
  have each:∀ i,i<len->∃ h:Hop,(h.L32/\h.i64)/\∀ (k:Nat) v,(hopV h)[k]? = some v->W.cell? (a.add (i*101+k))=some v:=by
   intro i hi
   have h1:=hel i hi
   rw[hc75,List.getElem?_eq_getElem (by omega),Option.bind_eq_some_iff] at h1
   obtain⟨cs',hcs',hy⟩:=h1
   obtain⟨_,hlc,hcell⟩:=World.cells?_some hcs'
   obtain⟨h,k1,k2,k3⟩:=qwm hc3 hc23 hc5 hc75 hy
   refine⟨h,⟨k1,k2⟩,fun k v hkv => ?_⟩
   have hk101:k<101:=by
    have:=(List.getElem?_eq_some_iff.1 hkv).1
    rw[qik k1] at this
    exact this
   have h3:=hcell k hk101
   rw[k3,hkv] at h3
   have e2:(a.add (i*101)).add k=a.add (i*101+k):=by
    obtain⟨b,o,s⟩:=a
    cases hspot
    rw[qey,qey,qey,Nat.add_assoc]
   rw[e2] at h3
   exact h3
  obtain⟨hs,hL1,hL2⟩:=qib each
  have h32:∀ h,h∈hs->h.L32/\h.i64:=by
   intro x hx
   obtain⟨i,hi⟩:=List.getElem?_of_mem hx
   exact(hL2 i x hi).1
  have lenC:∀ x,x∈hs.map hopC->x.length=101:=by
   intro x hx
   obtain⟨h,hh,rfl⟩:=List.mem_map.1 hx
   exact qa8 (h32 h hh).1
  have lenV:∀ x,x∈hs.map hopV->x.length=101:=by
   intro x hx
   obtain⟨h,hh,rfl⟩:=List.mem_map.1 hx
   exact qik (h32 h hh).1
  have hfl:flatL (hs.map hopC).flatten:=by
   intro x hx
   obtain⟨l,hl,hxl⟩:=List.mem_flatten.1 hx
   obtain⟨h,_,rfl⟩:=List.mem_map.1 hl
   exact qcn h x hxl
  have hp:HpAt (hs.map hopC).flatten len hs:=by
   refine⟨hL1,fun i h hx=>⟨(h32 h (List.mem_of_getElem? hx)).1,?_⟩⟩
   exact qhq lenC (by rw[List.getElem?_map,hx]; rfl)
  refine⟨(hs.map hopC).flatten,len,len,false,hs,qp4 (m:=len*101) (vs:=(hs.map hopV).flatten) (by rw[qfn lenC,List.length_map,hL1]) (by rw[qfn lenV,List.length_map,hL1]) ?_ ?_ ?_ hl hspot,⟨hfl,by omega,hs,hp⟩,hp,fun h hm=>(h32 h hm).2,hbl,by rw[qfn lenC,List.length_map,hL1]⟩
  ·intro x hx
   obtain⟨l,hl,hxl⟩:=List.mem_flatten.1 hx
   obtain⟨h,_,rfl⟩:=List.mem_map.1 hl
   exact qwa h x hxl
  ·intro i x v hx hv
   exact(qpm W hs).at_ i x v hx hv
  ·intro j v hv
   obtain⟨x,hx1,hx2⟩:=qsb (by omega) lenV hv
   rw[List.getElem?_map] at hx1
   obtain⟨h,hh,rfl⟩:=Option.map_eq_some_iff.1 hx1
   have h4:=(hL2 (j / 101) h hh).2 (j % 101) v hx2
   rw[Nat.div_add_mod'] at h4
   exact h4
theorem qg3{H:Type}{enc:TypeId × Value->H}{W:World}{base:Nat}{t e u:TypeId}{v:Value}{d:DataW H}{p:List MemPlace}(ht:Try.prog.underlying t=some (.slice e))(he:Try.prog.underlying e=some (.array 32 u))
  (hu:Try.prog.underlying u=some (.int .u8)) (hc:Try.prog.cellsOf e=32) (hcu:Try.prog.cellsOf u=1) (hval:Value.okWide Try.prog W .any base t v) (h:DataW.Trod enc Try.prog W 0 (fun _=>true) true t v d p)
  (hb : Ytfmhlogapbpnbaa.Rows.uptoBulk d<=1048576):∃ (cs:List AV) (n c:Nat) (ex:Bool),VRel noRho W (.ros cs 0 n c ex) v/\PSh cs 0 n/\n<=1048576/\cs.length=n*32:=by
 obtain⟨a0,len,cap,rfl⟩:=okWide_slice ht hval
 obtain⟨fuel,hf⟩:=h
 rcases DataW.trod_slice ht hf with ⟨hcs,hx⟩|⟨a,len',cap',elems,rest,n,_,hcs,hx,_,hl,hm,hlen,hel,hsp,hns⟩
 ·simp[Value.cells] at hcs
  obtain⟨rfl,rfl,rfl⟩:=hcs
  exact⟨[],0,0,true,.ros [] 0 0 0 true 0 0 none 0 [] (fun h=>absurd rfl h) (fun h=>absurd rfl h) rfl (by simp) (by simp) (by simp) (Nat.le_refl _) (Nat.le_refl _) (fun _=>rfl) (fun h=>absurd rfl h),
   qp7 (L := []) (fun x hx=>by cases hx) (by decide) rfl,by omega,rfl⟩
 ·simp[Value.cells] at hcs
  obtain⟨rfl,rfl,rfl⟩:=hcs
  simp only[Prod.mk.injEq] at hx
  obtain⟨rfl,_⟩:=hx
  have hbl:=Nat.le_trans (qj1 (elems.map (·.1)) (rest.map (·.1))) hb
  rw[List.length_map,hlen] at hbl
  have hspot:a.spot=none:=by
   simp only[Value.okWide,ht,Cell.okWide,Cell.ok] at hval
   exact hval.2.2.2.1
  have each:∀ i,i<len->∃ x:List UInt8,x.length=32/\∀ (k:Nat) b,x[k]? = some b->W.cell? (a.add (i*32+k))=some (.int .u8 (Int.ofNat b.toNat)):=by
   intro i hi
   have h1:=hel i hi
   rw[hc,List.getElem?_eq_getElem (by omega),Option.bind_eq_some_iff] at h1
   obtain⟨cs',hcs',hy⟩:=h1
   obtain⟨xs,m,_,_,hl1,hl2,hk⟩:=DataW.trod_array he hy
   obtain⟨_,hlc,hcell⟩:=World.cells?_some hcs'
   have cell:∀ k,k<32->∃ b:UInt8,cs'[k]? = some (.int .u8 (Int.ofNat b.toNat)):=by
    intro k hk32
    have h2:=hk k hk32
    rw[hcu,Nat.mul_one,List.getElem?_eq_getElem (by omega)] at h2
    obtain⟨z,hz,_,hw⟩:=DataW.trod_int hu h2
    have hzz:cs'[k]? = some (.int .u8 z):=by
     have:=congrArg (fun l=>l[0]?) hz
     simpa using this
    have hx:0<=z/\z<=255:=by simpa[Lit.wf,IntKind.min,IntKind.max,IntKind.signed,IntKind.bits] using hw
    refine⟨UInt8.ofNat z.toNat,?_⟩
    rw[hzz,UInt8.toNat_ofNat_of_lt' (by show _<256;omega)]
    congr 2
    simp only[Int.ofNat_eq_natCast]
    omega
   obtain⟨x,hx1,hx2⟩:=qib cell
   refine⟨x,hx1,fun k b hkb => ?_⟩
   have hk32:k<32:=by
    have:=(List.getElem?_eq_some_iff.1 hkb).1
    omega
   have h3:=hcell k hk32
   rw[hx2 k b hkb] at h3
   have e2:(a.add (i*32)).add k=a.add (i*32+k):=by
    obtain⟨b,o,s⟩:=a
    cases hspot
    rw[qey,qey,qey,Nat.add_assoc]
   rw[e2] at h3
   exact h3
  obtain⟨L,hL1,hL2⟩:=qib each
  have h32:∀ x,x∈L->x.length=32:=by
   intro x hx
   obtain⟨i,hi⟩:=List.getElem?_of_mem hx
   exact(hL2 i x hi).1
  refine⟨L.flatten.map by8,len,len,false,qp4 (m:=L.flatten.length) (vs:=L.flatten.map fun b=>Value.int .u8 (Int.ofNat b.toNat)) (by rw[List.length_map]) (by rw[List.length_map]) ?_ ?_ ?_ hl hspot,qp7 h32 (by omega) hL1.symm,hbl,by rw[List.length_map,qdb h32,hL1]⟩
  ·intro x hx;obtain⟨b,_,rfl⟩:=List.mem_map.1 hx;rfl
  ·intro i x v hx hv
   rw[List.getElem?_map] at hx hv
   obtain⟨b,hb,rfl⟩:=Option.map_eq_some_iff.1 hx
   rw[hb] at hv
   cases hv
   exact .int _ _
  ·intro j v hv
   rw[List.getElem?_map] at hv
   obtain⟨b,hb,rfl⟩:=Option.map_eq_some_iff.1 hv
   obtain⟨x,hx1,hx2⟩:=qv7 h32 hb
   have h4:=(hL2 (j / 32) x hx1).2 (j % 32) b hx2
   rw[show j / 32*32+j % 32=j by omega] at h4
   exact h4
end Go.Proofs.Vm

namespace Go.Proofs.Vm
set_option maxRecDepth 100000
def quj:List Char := [.ofNat 104,.ofNat 97,.ofNat 114,.ofNat 110,.ofNat 101,.ofNat 115,.ofNat 115,.ofNat 32,.ofNat 100,.ofNat 54,.ofNat 52,.ofNat 53,.ofNat 48,.ofNat 50,.ofNat 49,.ofNat 51,.ofNat 48,.ofNat 98,.ofNat 53,.ofNat 98,.ofNat 101,.ofNat 48,.ofNat 48,.ofNat 99,.ofNat 98,.ofNat 48,.ofNat 100,.ofNat 97,.ofNat 57,.ofNat 49,.ofNat 98,.ofNat 102,.ofNat 56,.ofNat 55,.ofNat 97,.ofNat 52,.ofNat 102,.ofNat 48,.ofNat 102,.ofNat 100,.ofNat 51,.ofNat 99,.ofNat 56,.ofNat 102,.ofNat 49,.ofNat 52,.ofNat 102,.ofNat 101,.ofNat 98,.ofNat 50,.ofNat 53,.ofNat 53,.ofNat 99,.ofNat 97,.ofNat 51,.ofNat 57,.ofNat 55,.ofNat 54,.ofNat 57,.ofNat 54,.ofNat 50,.ofNat 55,.ofNat 51,.ofNat 50,.ofNat 102,.ofNat 100,.ofNat 99,.ofNat 56,.ofNat 54,.ofNat 56,.ofNat 100,.ofNat 97,.ofNat 32,.ofNat 99,.ofNat 117,.ofNat 116,.ofNat 32,.ofNat 97,.ofNat 116,.ofNat 32,.ofNat 116,.ofNat 111,.ofNat 108,.ofNat 108,.ofNat 104,.ofNat 111,.ofNat 117,.ofNat 115,.ofNat 101,.ofNat 47,.ofNat 116,.ofNat 111,.ofNat 108,.ofNat 108,.ofNat 104,.ofNat 111,.ofNat 117,.ofNat 115,.ofNat 101,.ofNat 108,.ofNat 97,.ofNat 119,.ofNat 48,.ofNat 51,.ofNat 46,.ofNat 75,.ofNat 101,.ofNat 99,.ofNat 99,.ofNat 97,.ofNat 107,.ofNat 83,.ofNat 117,.ofNat 109,.ofNat 115,.ofNat 32,.ofNat 116,.ofNat 111,.ofNat 108,.ofNat 108,.ofNat 104,.ofNat 111,.ofNat 117,.ofNat 115,.ofNat 101,.ofNat 47,.ofNat 116,.ofNat 111,.ofNat 108,.ofNat 108,.ofNat 104,.ofNat 111,.ofNat 117,.ofNat 115,.ofNat 101,.ofNat 108,.ofNat 97,.ofNat 119,.ofNat 48,.ofNat 51,.ofNat 46,.ofNat 75,.ofNat 101,.ofNat 99,.ofNat 99,.ofNat 97,.ofNat 107,.ofNat 83,.ofNat 116,.ofNat 114,.ofNat 101,.ofNat 97,.ofNat 109,.ofNat 115,.ofNat 32,.ofNat 116,.ofNat 111,.ofNat 108,.ofNat 108,.ofNat 104,.ofNat 111,.ofNat 117,.ofNat 115,.ofNat 101,.ofNat 47,.ofNat 116,.ofNat 111,.ofNat 108,.ofNat 108,.ofNat 104,.ofNat 111,.ofNat 117,.ofNat 115,.ofNat 101,.ofNat 108,.ofNat 97,.ofNat 119,.ofNat 48,.ofNat 51,.ofNat 46,.ofNat 75,.ofNat 101,.ofNat 99,.ofNat 99,.ofNat 97,.ofNat 107,.ofNat 76,.ofNat 101,.ofNat 110,.ofNat 103,.ofNat 116,.ofNat 104,.ofNat 115,.ofNat 32,.ofNat 116,.ofNat 111,.ofNat 108,.ofNat 108,.ofNat 104,.ofNat 111,.ofNat 117,.ofNat 115,.ofNat 101,.ofNat 47,.ofNat 116,.ofNat 111,.ofNat 108,.ofNat 108,.ofNat 104,.ofNat 111,.ofNat 117,.ofNat 115,.ofNat 101,.ofNat 108,.ofNat 97,.ofNat 119,.ofNat 48,.ofNat 51,.ofNat 46,.ofNat 75,.ofNat 101,.ofNat 99,.ofNat 99,.ofNat 97,.ofNat 107,.ofNat 80,.ofNat 105,.ofNat 101,.ofNat 99,.ofNat 101,.ofNat 115,.ofNat 32,.ofNat 116,.ofNat 111,.ofNat 108,.ofNat 108,.ofNat 104,.ofNat 111,.ofNat 117,.ofNat 115,.ofNat 101,.ofNat 47,.ofNat 116,.ofNat 111,.ofNat 108,.ofNat 108,.ofNat 104,.ofNat 111,.ofNat 117,.ofNat 115,.ofNat 101,.ofNat 108,.ofNat 97,.ofNat 119,.ofNat 48,.ofNat 51,.ofNat 46,.ofNat 75,.ofNat 101,.ofNat 99,.ofNat 99,.ofNat 97,.ofNat 107,.ofNat 80,.ofNat 97,.ofNat 114,.ofNat 116,.ofNat 115,.ofNat 32,.ofNat 116,.ofNat 111,.ofNat 108,.ofNat 108,.ofNat 104,.ofNat 111,.ofNat 117,.ofNat 115,.ofNat 101,.ofNat 47,.ofNat 116,.ofNat 111,.ofNat 108,.ofNat 108,.ofNat 104,.ofNat 111,.ofNat 117,.ofNat 115,.ofNat 101,.ofNat 108,.ofNat 97,.ofNat 119,.ofNat 48,.ofNat 51,.ofNat 46,.ofNat 75,.ofNat 101,.ofNat 99,.ofNat 99,.ofNat 97,.ofNat 107,.ofNat 82,.ofNat 111,.ofNat 117,.ofNat 110,.ofNat 100,.ofNat 115,.ofNat 32,.ofNat 116,.ofNat 111,.ofNat 108,.ofNat 108,.ofNat 104,.ofNat 111,.ofNat 117,.ofNat 115,.ofNat 101,.ofNat 47,.ofNat 116,.ofNat 111,.ofNat 108,.ofNat 108,.ofNat 104,.ofNat 111,.ofNat 117,.ofNat 115,.ofNat 101,.ofNat 108,.ofNat 97,.ofNat 119,.ofNat 48,.ofNat 51,.ofNat 46,.ofNat 75,.ofNat 101,.ofNat 99,.ofNat 99,.ofNat 97,.ofNat 107,.ofNat 84,.ofNat 117,.ofNat 114,.ofNat 110,.ofNat 115,.ofNat 32,.ofNat 116,.ofNat 111,.ofNat 108,.ofNat 108,.ofNat 104,.ofNat 111,.ofNat 117,.ofNat 115,.ofNat 101,.ofNat 47,.ofNat 116,.ofNat 111,.ofNat 108,.ofNat 108,.ofNat 104,.ofNat 111,.ofNat 117,.ofNat 115,.ofNat 101,.ofNat 108,.ofNat 97,.ofNat 119,.ofNat 48,.ofNat 52,.ofNat 46,.ofNat 77,.ofNat 97,.ofNat 99,.ofNat 77,.ofNat 97,.ofNat 115,.ofNat 107,.ofNat 115,.ofNat 32,.ofNat 116,.ofNat 111,.ofNat 108,.ofNat 108,.ofNat 104,.ofNat 111,.ofNat 117,.ofNat 115,.ofNat 101,.ofNat 47,.ofNat 116,.ofNat 111,.ofNat 108,.ofNat 108,.ofNat 104,.ofNat 111,.ofNat 117,.ofNat 115,.ofNat 101,.ofNat 108,.ofNat 97,.ofNat 119,.ofNat 48,.ofNat 52,.ofNat 46,.ofNat 77,.ofNat 97,.ofNat 99,.ofNat 80,.ofNat 97,.ofNat 114,.ofNat 116,.ofNat 115,.ofNat 32,.ofNat 116,.ofNat 111,.ofNat 108,.ofNat 108,.ofNat 104,.ofNat 111,.ofNat 117,.ofNat 115,.ofNat 101,.ofNat 47,.ofNat 116,.ofNat 111,.ofNat 108,.ofNat 108,.ofNat 104,.ofNat 111,.ofNat 117,.ofNat 115,.ofNat 101,.ofNat 108,.ofNat 97,.ofNat 119,.ofNat 48,.ofNat 52,.ofNat 46,.ofNat 77,.ofNat 97,.ofNat 99,.ofNat 77,.ofNat 97,.ofNat 115,.ofNat 107,.ofNat 69,.ofNat 97,.ofNat 99,.ofNat 104,.ofNat 32,.ofNat 116,.ofNat 111,.ofNat 108,.ofNat 108,.ofNat 104,.ofNat 111,.ofNat 117,.ofNat 115,.ofNat 101,.ofNat 47,.ofNat 116,.ofNat 111,.ofNat 108,.ofNat 108,.ofNat 104,.ofNat 111,.ofNat 117,.ofNat 115,.ofNat 101,.ofNat 108,.ofNat 97,.ofNat 119,.ofNat 48,.ofNat 52,.ofNat 46,.ofNat 77,.ofNat 97,.ofNat 99,.ofNat 84,.ofNat 97,.ofNat 103,.ofNat 115,.ofNat 32,.ofNat 116,.ofNat 111,.ofNat 108,.ofNat 108,.ofNat 104,.ofNat 111,.ofNat 117,.ofNat 115,.ofNat 101,.ofNat 47,.ofNat 116,.ofNat 111,.ofNat 108,.ofNat 108,.ofNat 104,.ofNat 111,.ofNat 117,.ofNat 115,.ofNat 101,.ofNat 108,.ofNat 97,.ofNat 119,.ofNat 48,.ofNat 52,.ofNat 46,.ofNat 77,.ofNat 97,.ofNat 99,.ofNat 69,.ofNat 113,.ofNat 117,.ofNat 97,.ofNat 108,.ofNat 32,.ofNat 116,.ofNat 111,.ofNat 108,.ofNat 108,.ofNat 104,.ofNat 111,.ofNat 117,.ofNat 115,.ofNat 101,.ofNat 47,.ofNat 116,.ofNat 111,.ofNat 108,.ofNat 108,.ofNat 104,.ofNat 111,.ofNat 117,.ofNat 115,.ofNat 101,.ofNat 108,.ofNat 97,.ofNat 119,.ofNat 48,.ofNat 52,.ofNat 46,.ofNat 77,.ofNat 97,.ofNat 99,.ofNat 66,.ofNat 121,.ofNat 116,.ofNat 101,.ofNat 115,.ofNat 32,.ofNat 116,.ofNat 111,.ofNat 108,.ofNat 108,.ofNat 104,.ofNat 111,.ofNat 117,.ofNat 115,.ofNat 101,.ofNat 47,.ofNat 116,.ofNat 111,.ofNat 108,.ofNat 108,.ofNat 104,.ofNat 111,.ofNat 117,.ofNat 115,.ofNat 101,.ofNat 108,.ofNat 97,.ofNat 119,.ofNat 48,.ofNat 56,.ofNat 46,.ofNat 83,.ofNat 104,.ofNat 97,.ofNat 114,.ofNat 101,.ofNat 83,.ofNat 112,.ofNat 108,.ofNat 105,.ofNat 116,.ofNat 115,.ofNat 32,.ofNat 116,.ofNat 111,.ofNat 108,.ofNat 108,.ofNat 104,.ofNat 111,.ofNat 117,.ofNat 115,.ofNat 101,.ofNat 47,.ofNat 116,.ofNat 111,.ofNat 108,.ofNat 108,.ofNat 104,.ofNat 111,.ofNat 117,.ofNat 115,.ofNat 101,.ofNat 108,.ofNat 97,.ofNat 119,.ofNat 48,.ofNat 56,.ofNat 46,.ofNat 83,.ofNat 104,.ofNat 97,.ofNat 114,.ofNat 101,.ofNat 76,.ofNat 97,.ofNat 119,.ofNat 115,.ofNat 32,.ofNat 116,.ofNat 111,.ofNat 108,.ofNat 108,.ofNat 104,.ofNat 111,.ofNat 117,.ofNat 115,.ofNat 101,.ofNat 47,.ofNat 116,.ofNat 111,.ofNat 108,.ofNat 108,.ofNat 104,.ofNat 111,.ofNat 117,.ofNat 115,.ofNat 101,.ofNat 108,.ofNat 97,.ofNat 119,.ofNat 48,.ofNat 56,.ofNat 46,.ofNat 83,.ofNat 104,.ofNat 97,.ofNat 114,.ofNat 101,.ofNat 80,.ofNat 97,.ofNat 114,.ofNat 116,.ofNat 115,.ofNat 32,.ofNat 116,.ofNat 111,.ofNat 108,.ofNat 108,.ofNat 104,.ofNat 111,.ofNat 117,.ofNat 115,.ofNat 101,.ofNat 47,.ofNat 116,.ofNat 111,.ofNat 108,.ofNat 108,.ofNat 104,.ofNat 111,.ofNat 117,.ofNat 115,.ofNat 101,.ofNat 108,.ofNat 97,.ofNat 119,.ofNat 48,.ofNat 56,.ofNat 46,.ofNat 83,.ofNat 104,.ofNat 97,.ofNat 114,.ofNat 101,.ofNat 83,.ofNat 101,.ofNat 116,.ofNat 115,.ofNat 32,.ofNat 116,.ofNat 111,.ofNat 108,.ofNat 108,.ofNat 104,.ofNat 111,.ofNat 117,.ofNat 115,.ofNat 101,.ofNat 47,.ofNat 116,.ofNat 111,.ofNat 108,.ofNat 108,.ofNat 104,.ofNat 111,.ofNat 117,.ofNat 115,.ofNat 101,.ofNat 108,.ofNat 97,.ofNat 119,.ofNat 48,.ofNat 55,.ofNat 46,.ofNat 79,.ofNat 110,.ofNat 105,.ofNat 111,.ofNat 110,.ofNat 66,.ofNat 117,.ofNat 105,.ofNat 108,.ofNat 100,.ofNat 115,.ofNat 32,.ofNat 116,.ofNat 111,.ofNat 108,.ofNat 108,.ofNat 104,.ofNat 111,.ofNat 117,.ofNat 115,.ofNat 101,.ofNat 47,.ofNat 116,.ofNat 111,.ofNat 108,.ofNat 108,.ofNat 104,.ofNat 111,.ofNat 117,.ofNat 115,.ofNat 101,.ofNat 108,.ofNat 97,.ofNat 119,.ofNat 48,.ofNat 55,.ofNat 46,.ofNat 79,.ofNat 110,.ofNat 105,.ofNat 111,.ofNat 110,.ofNat 84,.ofNat 117,.ofNat 114,.ofNat 110,.ofNat 101,.ofNat 100,.ofNat 32,.ofNat 116,.ofNat 111,.ofNat 108,.ofNat 108,.ofNat 104,.ofNat 111,.ofNat 117,.ofNat 115,.ofNat 101,.ofNat 47,.ofNat 116,.ofNat 111,.ofNat 108,.ofNat 108,.ofNat 104,.ofNat 111,.ofNat 117,.ofNat 115,.ofNat 101,.ofNat 108,.ofNat 97,.ofNat 119,.ofNat 48,.ofNat 55,.ofNat 46,.ofNat 79,.ofNat 110,.ofNat 105,.ofNat 111,.ofNat 110,.ofNat 83,.ofNat 105,.ofNat 122,.ofNat 101,.ofNat 115,.ofNat 32,.ofNat 116,.ofNat 111,.ofNat 108,.ofNat 108,.ofNat 104,.ofNat 111,.ofNat 117,.ofNat 115,.ofNat 101,.ofNat 47,.ofNat 116,.ofNat 111,.ofNat 108,.ofNat 108,.ofNat 104,.ofNat 111,.ofNat 117,.ofNat 115,.ofNat 101,.ofNat 108,.ofNat 97,.ofNat 119,.ofNat 48,.ofNat 55,.ofNat 46,.ofNat 79,.ofNat 110,.ofNat 105,.ofNat 111,.ofNat 110,.ofNat 87,.ofNat 97,.ofNat 121,.ofNat 115]
theorem qv3:Try.prog.initOrder=String.ofList quj:=by kernel_rfl
theorem qua:Try.prog.initOrder.toList=quj:=by rw[qv3]; exact String.toList_ofList
theorem qgd:∃ rest,behindMainWord (wordsSigns Try.prog.initOrder.toList) = "cut".toList::rest :=
 ⟨(behindMainWord (wordsSigns quj)).tail,by rw[qua]; kernel_rfl⟩
theorem qm4(rest:List (List Char)):stripLifts liftWords ("cut".toList::rest)=([], "cut".toList::rest):=by kernel_rfl
theorem qz8{P:Program}{rest:List (List Char)}(h:behindMainWord (wordsSigns P.initOrder.toList) = "cut".toList::rest):P.make=some .cut:=by
 unfold Program.make
 rw[h]
 have e1:("cut".toList == "gc".toList || "cut".toList == "spec".toList)=false:=by kernel_rfl
 have e2:("cut".toList == "cut".toList)=true:=by kernel_rfl
 simp only[e1,e2,Bool.true_or,if_true]
 rfl
theorem qop{P:Program}{rest:List (List Char)}(h:behindMainWord (wordsSigns P.initOrder.toList) = "cut".toList::rest)(h1:P.laysLater=false)(h2:P.bearsReflect=false)(h3:P.doorFits []=true):P.mayEnter=true:=by
 unfold Program.mayEnter
 rw[h]
 simp only[qm4,h1,h2,h3]
 have e2:(List.head? ("cut".toList::rest) == some "cut".toList)=true:=by kernel_rfl
 simp only[e2]
 simp
theorem qku{P:Program}{rest:List (List Char)}(h:behindMainWord (wordsSigns P.initOrder.toList) = "cut".toList::rest):P.liftsFinal=false:=by
 unfold Program.liftsFinal Program.headLifts
 rw[h]
 simp only[qm4]
 have e2:(List.head? ("cut".toList::rest) == some "cut".toList)=true:=by kernel_rfl
 have e3:(List.head? ("cut".toList::rest) == some "carried".toList)=false:=by kernel_rfl
 simp only[e2,e3]
 simp
theorem qof:Try.prog.laysLater=false:=by kernel_rfl
theorem qjr:Try.prog.bearsReflect=false:=by kernel_rfl
theorem qrd:Try.prog.doorFits []=true:=by kernel_rfl
theorem qf2:Try.prog.mayEnter=true:=qgd.elim fun _ h=>qop h qof qjr qrd
theorem qef:Try.prog.liftsFinal=false:=qgd.elim fun _ h=>qku h
theorem qov:Try.prog.make=some .cut:=qgd.elim fun _ h=>qz8 h
theorem qgl{P:Program}{b:Bool}(h:P.liftsFinal=false)(hb:b=false):(b == P.liftsFinal)=true:=by rw[h,hb]; rfl
theorem qkp{P:Program}{m:Make}(h:P.make=some .cut)(hm:m = .cut):(P.make == some m)=true:=by rw[h,hm]; rfl
end Go.Proofs.Vm
