/-
  KECCAK ON NUMBERS, PART 2: the sponge.
-/
import Derived.Test.YtfmhlogapbpnbaaDoorYeal
import Derived.Test.YtfmhlogapbpnbaaDoorYeah
import Derived.Test.YtfmhlogapbpnbaaDoorYeaj
set_option linter.unusedVariables false
set_option linter.unusedSimpArgs false
set_option linter.unusedSectionVars false

namespace Go.Proofs.Vm
set_option maxRecDepth 100000
open Go.Vm
def encB:List UInt8→Nat
 | []=>0
 | b::l=>b.toNat+256*encB l
theorem encB_lt:∀ l:List UInt8,encB l<256 ^ l.length
 | []=>by simp[encB]
 | b::l=>by
  have h:=encB_lt l
  have hb:=b.toNat_lt
  show b.toNat+256*encB l<256 ^ (l.length+1)
  rw[Nat.pow_succ]
  omega
theorem encB_app:∀ a b:List UInt8,encB (a++b)=encB a+256 ^ a.length*encB b
 | [],b=>by simp[encB]
 | x::a,b=>by
  show x.toNat+256*encB (a++b)=x.toNat+256*encB a+256 ^ (a.length+1)*encB b
  rw[encB_app a b,Nat.pow_succ,Nat.mul_add,Nat.mul_comm (256 ^ a.length) 256,Nat.mul_assoc]
  omega
theorem encB_take(l:List UInt8)(n:Nat)(h:n≤l.length):encB (l.take n)=encB l % 256 ^ n:=by
 have e:=encB_app (l.take n) (l.drop n)
 rw[List.take_append_drop,List.length_take,Nat.min_eq_left h] at e
 have h2:=encB_lt (l.take n)
 rw[List.length_take,Nat.min_eq_left h] at h2
 rw[e,Nat.add_mul_mod_self_left,Nat.mod_eq_of_lt h2]
theorem encB_drop(l:List UInt8)(n:Nat)(h:n≤l.length):encB (l.drop n)=encB l / 256 ^ n:=by
 have e:=encB_app (l.take n) (l.drop n)
 rw[List.take_append_drop,List.length_take,Nat.min_eq_left h] at e
 have h2:=encB_lt (l.take n)
 rw[List.length_take,Nat.min_eq_left h] at h2
 rw[e,Nat.add_mul_div_left _ _ (Nat.pow_pos (by omega)),Nat.div_eq_of_lt h2,Nat.zero_add]
theorem pow256(n:Nat):256 ^ n=2 ^ (8*n):=by rw[Nat.pow_mul]
theorem add_xor{a n:Nat}(x:Nat)(h:a<2 ^ n):a+2 ^ n*x=a ^^^ (x <<< n):=by
 have e1:(a ^^^ (x <<< n)) % 2 ^ n=a:=by
  rw[Nat.xor_mod_two_pow,Nat.mod_eq_of_lt h,Nat.shiftLeft_eq,Nat.mul_mod_left,Nat.xor_zero]
 have e2:(a ^^^ (x <<< n)) / 2 ^ n=x:=by
  rw[←Nat.shiftRight_eq_div_pow,Nat.shiftRight_xor_distrib,Nat.shiftRight_eq_div_pow,Nat.div_eq_of_lt h,Nat.zero_xor,Nat.shiftRight_eq_div_pow,Nat.shiftLeft_eq,Nat.mul_div_cancel _ (Nat.two_pow_pos n)]
 have:=Nat.div_add_mod (a ^^^ (x <<< n)) (2 ^ n)
 rw[e1,e2] at this
 omega
theorem encB_snoc(l:List UInt8)(b:UInt8):encB (l ++ [b])=encB l ^^^ (b.toNat <<< (8*l.length)):=by
 have h:=encB_lt l
 rw[pow256] at h
 rw[encB_app,←add_xor _ h,pow256]
 show encB l+2 ^ (8*l.length)*(b.toNat+256*0)=_
 rw[Nat.mul_zero,Nat.add_zero]
def xorS:List Nat→Nat→List Nat
 | [],_ => []
 | a::s,N=>((a ^^^ N) % W64)::xorS s (N / W64)
def addN:List Nat→Nat→Nat→List Nat
 | [],_,_ => []
 | a::s,p,b=>if p<8 then((a ^^^ (b <<< (8*p))) % W64)::s else a::addN s (p - 8) b
def encS:List Nat→Nat
 | []=>0
 | a::s=>a+W64*encS s
def allW(S:List Nat):Prop:=∀ x,x∈S→x<W64
theorem W64_pos:0<W64:=by unfold W64;omega
theorem addN_eq:∀ (S:List Nat) (p b:Nat),addB (S.map Int.ofNat) p (Int.ofNat b)=(addN S p b).map Int.ofNat
 | [],p,b=>by simp[addB,addN]
 | a::S,p,b=>by
  have hshl:∀ k:Nat,k<8→shf0 .shl .u64 (Int.ofNat b) ((8*k:Nat):Int)=Int.ofNat ((b <<< (8*k)) % W64):=by
   intro k hk
   show IntKind.u64.wrap (Int.ofNat b*2 ^ (Nat.min (((8*k:Nat):Int)).toNat 64))=_
   rw[Int.toNat_natCast,show Nat.min (8*k) 64=8*k from Nat.min_eq_left (by omega),wrap_u64,Nat.shiftLeft_eq]
   simp only[Int.ofNat_eq_natCast]
   push_cast
   rfl
  by_cases hp:p<8
  ·have e1:p / 8=0:=by omega
   have e2:p % 8=p:=by omega
   unfold addB addN
   rw[if_pos hp,e1,e2,hshl p hp]
   show(bin0 .xor .u64 (Int.ofNat a) (Int.ofNat ((b <<< (8*p)) % W64)))::S.map Int.ofNat=_
   rw[xN_eq]
   unfold xN
   rw[w64,Nat.xor_mod_two_pow,Nat.mod_mod,←Nat.xor_mod_two_pow]
   rfl
  ·have e1:p / 8=(p - 8) / 8+1:=by omega
   have e2:p % 8=(p - 8) % 8:=by omega
   have ih:=addN_eq S (p - 8) b
   unfold addB at ih
   unfold addB addN
   rw[if_neg hp,e1,e2]
   show Int.ofNat a::(S.map Int.ofNat).set ((p - 8) / 8) (bin0 .xor .u64 ((S.map Int.ofNat).getD ((p - 8) / 8) 0) _)=_
   rw[ih]
   rfl
theorem xor_div(a b:Nat):(a ^^^ b) / W64=a / W64 ^^^ b / W64:=by
 rw[w64,←Nat.shiftRight_eq_div_pow,←Nat.shiftRight_eq_div_pow,←Nat.shiftRight_eq_div_pow,Nat.shiftRight_xor_distrib]
theorem xor_mod(a b:Nat):(a ^^^ b) % W64=(a % W64 ^^^ b % W64) % W64:=by
 rw[w64,←Nat.xor_mod_two_pow,Nat.mod_mod]
theorem xorS_add:∀ (S:List Nat) (N p b:Nat),b<256→addN (xorS S N) p b=xorS S (N ^^^ (b <<< (8*p)))
 | [],N,p,b,_=>rfl
 | a::S,N,p,b,hb=>by
  show addN (((a ^^^ N) % W64)::xorS S (N / W64)) p b=((a ^^^ (N ^^^ (b <<< (8*p)))) % W64)::xorS S ((N ^^^ (b <<< (8*p))) / W64)
  unfold addN
  by_cases hp:p<8
  ·rw[if_pos hp]
   have hx:(b <<< (8*p)) / W64=0:=by
    apply Nat.div_eq_of_lt
    rw[Nat.shiftLeft_eq,w64]
    have h1:2 ^ (8*p)≤2 ^ 56:=Nat.pow_le_pow_right (by omega) (by omega)
    have h2:b*2 ^ (8*p)≤b*2 ^ 56:=Nat.mul_le_mul_left b h1
    omega
   have e1:((a ^^^ N) % W64 ^^^ b <<< (8*p)) % W64=(a ^^^ (N ^^^ b <<< (8*p))) % W64:=by
    rw[xor_mod,Nat.mod_mod,←xor_mod,Nat.xor_assoc]
   rw[e1,xor_div,hx,Nat.xor_zero]
  ·rw[if_neg hp]
   have e0:b <<< (8*p)=b <<< (8*(p - 8))*W64:=by
    rw[Nat.shiftLeft_eq,Nat.shiftLeft_eq,w64,Nat.mul_assoc,←Nat.pow_add]
    congr 2
    omega
   have e1:(a ^^^ (N ^^^ b <<< (8*p))) % W64=(a ^^^ N) % W64:=by
    rw[←Nat.xor_assoc,xor_mod (a ^^^ N),e0,Nat.mul_mod_left,Nat.xor_zero,Nat.mod_mod]
   have e2:(N ^^^ b <<< (8*p)) / W64=N / W64 ^^^ b <<< (8*(p - 8)):=by
    rw[xor_div,e0,Nat.mul_div_cancel _ W64_pos]
   rw[e1,e2,xorS_add S _ _ _ hb]
theorem xorS_zero:∀ (S:List Nat),allW S→xorS S 0=S
 | [],_=>rfl
 | a::S,h=>by
  show((a ^^^ 0) % W64)::xorS S (0 / W64)=_
  rw[Nat.xor_zero,Nat.mod_eq_of_lt (h a (by simp)),Nat.zero_div,xorS_zero S fun x hx=>h x (by simp[hx])]
theorem mixN_ok(S:List Nat)(c:Nat):allW (mixN S c):=by
 have hx:∀ a b,xN a b<W64:=fun a b=>Nat.mod_lt _ W64_pos
 unfold mixN
 split
 ·intro x h
  simp only[List.mem_cons,List.not_mem_nil,or_false] at h
  rcases h with rfl|rfl|rfl|rfl|rfl|rfl|rfl|rfl|rfl|rfl|rfl|rfl|rfl|rfl|rfl|rfl|rfl|rfl|rfl|rfl|rfl|rfl|rfl|rfl|rfl<;>exact hx _ _
 ·intro x h;cases h
theorem stN_ok(S:List Nat):allW (stN S):=by
 unfold stN
 rw[loopN_eq]
 have:∀ (cs s:List Nat),allW s→allW (cs.foldl mixN s):=by
  intro cs
  induction cs with
  | nil=>exact fun s h=>h
  | cons c cs ih=>exact fun s h=>ih _ (mixN_ok _ _)
 obtain⟨c,cs,e⟩:∃ c cs,rcsN=c::cs:=⟨_,_,rfl⟩
 rw[e]
 exact this cs (mixN S c) (mixN_ok S c)
theorem take_part{rate:Nat}{S:List Nat}(hS:allW S):∀ (n:Nat) (c:List UInt8),c.length=n→n<rate→takeL rate (S.map Int.ofNat,0) c=((xorS S (encB c)).map Int.ofNat,n)
 | 0,c,h,_=>by
  have:c = []:=List.eq_nil_of_length_eq_zero h
  subst this
  show(S.map Int.ofNat,0)=((xorS S 0).map Int.ofNat,0)
  rw[xorS_zero S hS]
 | n+1,c,h,hn=>by
  have hb:c ≠ []:=fun h0=>by rw[h0] at h;cases h
  have e:=List.dropLast_concat_getLast hb
  have hl:c.dropLast.length=n:=by rw[List.length_dropLast]; omega
  have ih:=take_part (rate:=rate) hS n c.dropLast hl (by omega)
  rw[←e,encB_snoc,hl]
  unfold takeL at ih ⊢
  rw[List.foldl_append,ih]
  show tk rate ((xorS S (encB c.dropLast)).map Int.ofNat,n) (c.getLast hb)=_
  unfold tk
  rw[if_neg (by show ¬ (n+1=rate); omega)]
  show(addB ((xorS S (encB c.dropLast)).map Int.ofNat) n (Int.ofNat (c.getLast hb).toNat),n+1)=_
  rw[addN_eq,xorS_add _ _ _ _ (c.getLast hb).toNat_lt]
theorem take_block{rate:Nat}{S:List Nat}(hS:allW S)(hr:0<rate){c:List UInt8}(h:c.length=rate):takeL rate (S.map Int.ofNat,0) c=((stN (xorS S (encB c))).map Int.ofNat,0):=by
 have hb:c ≠ []:=fun h0=>by rw[h0] at h;simp at h;omega
 have e:=List.dropLast_concat_getLast hb
 have hl:c.dropLast.length=rate - 1:=by rw[List.length_dropLast]; omega
 have ih:=take_part (rate:=rate) hS (rate - 1) c.dropLast hl (by omega)
 rw[←e,encB_snoc,hl]
 unfold takeL at ih ⊢
 rw[List.foldl_append,ih]
 show tk rate ((xorS S (encB c.dropLast)).map Int.ofNat,rate - 1) (c.getLast hb)=_
 unfold tk
 rw[if_pos (by show rate - 1+1=rate;omega)]
 show(st (addB ((xorS S (encB c.dropLast)).map Int.ofNat) (rate - 1) (Int.ofNat (c.getLast hb).toNat)) 24,0)=_
 rw[addN_eq,xorS_add _ _ _ _ (c.getLast hb).toNat_lt,stN_eq]
def absN(rate:Nat):Nat→List Nat→Nat→List Nat
 | 0,S,_=>S
 | k+1,S,M=>absN rate k (stN (xorS S (M % 256 ^ rate))) (M / 256 ^ rate)
theorem absN_eq{rate:Nat}(hr:0<rate):∀ (k:Nat) (S:List Nat) (l:List UInt8),allW S→rate*k≤l.length→l.length<rate*(k+1) →
  takeL rate (S.map Int.ofNat,0) l=((xorS (absN rate k S (encB l)) (encB l / 256 ^ (rate*k))).map Int.ofNat,l.length - rate*k)
 | 0,S,l,h,h1,h2=>by
  rw[take_part h l.length l rfl (by omega),Nat.mul_zero,Nat.pow_zero,Nat.div_one,Nat.sub_zero]
  rfl
 | k+1,S,l,h,h1,h2=>by
  have e1:rate*(k+1)=rate*k+rate:=Nat.mul_succ _ _
  have e2:rate*(k+1+1)=rate*(k+1)+rate:=Nat.mul_succ _ _
  have hl:rate≤l.length:=by omega
  have hsplit:takeL rate (S.map Int.ofNat,0) l=takeL rate (takeL rate (S.map Int.ofNat,0) (l.take rate)) (l.drop rate):=by
   unfold takeL
   rw[←List.foldl_append,List.take_append_drop]
  have hd:(l.drop rate).length=l.length - rate:=List.length_drop
  rw[hsplit,take_block h hr (by rw[List.length_take]; omega),absN_eq hr k _ _ (stN_ok _) (by omega) (by omega),encB_take l rate hl,encB_drop l rate hl,Nat.div_div_eq_div_mul,←Nat.pow_add,hd]
  have e3:rate+rate*k=rate*(k+1):=by omega
  have e4:l.length - rate - rate*k=l.length - rate*(k+1):=by omega
  rw[e3,e4]
  rfl
def zerN:List Nat:=List.replicate 25 0
theorem zerN_ok:allW zerN:=fun x hx=>by rw[(List.mem_replicate.1 hx).2]; exact W64_pos
def absorbN(rate e k M len:Nat):List Nat:=stN (xorS (absN rate k zerN M) ((M / 256 ^ (rate*k)) ^^^ (e <<< (8*(len - rate*k))) ^^^ (128 <<< (8*(rate - 1)))))
theorem absorb_eq{rate:Nat}(hr:0<rate)(e:UInt8){k:Nat}{l:List UInt8}(h1:rate*k≤l.length)(h2:l.length<rate*(k+1)):absorb rate e l=(absorbN rate e.toNat k (encB l) l.length).map Int.ofNat:=by
 have hz:zer=zerN.map Int.ofNat:=by decide
 unfold absorb fin
 rw[hz,absN_eq hr k zerN l zerN_ok h1 h2]
 show st (addB (addB ((xorS (absN rate k zerN (encB l)) (encB l / 256 ^ (rate*k))).map Int.ofNat) (l.length - rate*k) (Int.ofNat e.toNat)) (rate - 1) (Int.ofNat 128)) 24=_
 rw[addN_eq,xorS_add _ _ _ _ e.toNat_lt,addN_eq,xorS_add _ _ _ _ (by omega),stN_eq]
 rfl
theorem outB_N:∀ (S:List Nat) (p:Nat),allW S→outB (S.map Int.ofNat) p=Int.ofNat ((encS S / 256 ^ p) % 256)
 | [],p,_=>by
  have h0:∀ y:Int,shf0 .shr .u64 0 y=0:=by
   intro y
   show Int.fdiv 0 (2 ^ (Nat.min y.toNat 64))=0
   exact Int.zero_fdiv _
  show IntKind.u8.wrap (shf0 .shr .u64 0 _)=Int.ofNat ((0 / 256 ^ p) % 256)
  rw[h0,Nat.zero_div]
  rfl
 | a::S,p,h=>by
  have ha:=h a (by simp)
  by_cases hp:p<8
  ·have e1:p / 8=0:=by omega
   have e2:p % 8=p:=by omega
   unfold outB
   rw[e1,e2]
   show IntKind.u8.wrap (Int.fdiv (Int.ofNat a) (2 ^ (Nat.min (((8*p:Nat):Int)).toNat 64)))=Int.ofNat (((a+W64*encS S) / 256 ^ p) % 256)
   rw[Int.toNat_natCast,show Nat.min (8*p) 64=8*p from Nat.min_eq_left (by omega)]
   have e3:Int.fdiv (Int.ofNat a) (2 ^ (8*p))=Int.ofNat (a / 2 ^ (8*p)):=by
    simp only[Int.ofNat_eq_natCast]
    push_cast
    rw[Int.fdiv_eq_ediv_of_nonneg _ (by exact_mod_cast Nat.zero_le (2 ^ (8*p)))]
   have e4:(a+W64*encS S) / 256 ^ p % 256=a / 256 ^ p % 256:=by
    have hw:W64*encS S=256 ^ p*(256*(256 ^ (7 - p)*encS S)):=by
     rw[←Nat.mul_assoc,←Nat.mul_assoc,←Nat.pow_succ,←Nat.pow_add,show p+1+(7 - p)=8 by omega]
     rfl
    rw[hw,Nat.add_mul_div_left _ _ (Nat.pow_pos (by omega)),Nat.add_mul_mod_self_left]
   rw[e3,e4,pow256]
   have hwr:∀ n:Nat,IntKind.u8.wrap (Int.ofNat n)=Int.ofNat (n % 256):=by
    intro n
    simp[IntKind.wrap,IntKind.bits,IntKind.signed]
   exact hwr _
  ·have e1:p / 8=(p - 8) / 8+1:=by omega
   have e2:p % 8=(p - 8) % 8:=by omega
   have ih:=outB_N S (p - 8) fun x hx=>h x (by simp[hx])
   unfold outB at ih ⊢
   rw[e1,e2]
   show IntKind.u8.wrap (shf0 .shr .u64 ((S.map Int.ofNat).getD ((p - 8) / 8) 0) _)=Int.ofNat (((a+W64*encS S) / 256 ^ p) % 256)
   rw[ih]
   have e3:(a+W64*encS S) / 256 ^ p=encS S / 256 ^ (p - 8):=by
    have hp8:256 ^ p=W64*256 ^ (p - 8):=by
     have:W64=256 ^ 8:=rfl
     rw[this,←Nat.pow_add,show 8+(p - 8)=p by omega]
    rw[hp8,←Nat.div_div_eq_div_mul,Nat.add_mul_div_left _ _ W64_pos,Nat.div_eq_of_lt ha,Nat.zero_add]
   rw[e3]
theorem let_part{rate:Nat}{S:List Nat}(hS:allW S):∀ (n p:Nat),p+n≤rate→encB (letL rate n (S.map Int.ofNat,p))=(encS S / 256 ^ p) % 256 ^ n
 | 0,p,_=>by rw[Nat.pow_zero,Nat.mod_one]; rfl
 | n+1,p,h=>by
  have hp:¬ p=rate:=by omega
  have e1:lt0 rate (S.map Int.ofNat,p)=UInt8.ofNat ((encS S / 256 ^ p) % 256):=by
   unfold lt0
   rw[if_neg hp]
   show UInt8.ofNat (outB (S.map Int.ofNat) p).toNat=_
   rw[outB_N S p hS]
   rfl
  have e2:lt1 rate (S.map Int.ofNat,p)=(S.map Int.ofNat,p+1):=by
   unfold lt1
   rw[if_neg hp]
  show(lt0 rate (S.map Int.ofNat,p)).toNat+256*encB (letL rate n (lt1 rate (S.map Int.ofNat,p)))=_
  have ep:256 ^ (n+1)=256*256 ^ n:=by rw[Nat.pow_succ,Nat.mul_comm]
  rw[e1,e2,let_part hS n (p+1) (by omega),UInt8.toNat_ofNat',ep,Nat.mod_mul,Nat.div_div_eq_div_mul,←Nat.pow_succ]
  have:encS S / 256 ^ p % 256 % 2 ^ 8=encS S / 256 ^ p % 256:=Nat.mod_mod _ _
  rw[this]
def sqN(rate:Nat):Nat→Nat→List Nat→Nat
 | 0,n,S=>encS S % 256 ^ n
 | k+1,n,S=>encS S % 256 ^ rate+256 ^ rate*sqN rate k n (stN S)
theorem let_add(rate:Nat):∀ (a b:Nat) (x:List Int × Nat),letL rate (a+b) x=letL rate a x++letL rate b (ltN rate a x)
 | 0,b,x=>by rw[Nat.zero_add]; rfl
 | a+1,b,x=>by
  rw[show a+1+b=(a+b)+1 by omega]
  show lt0 rate x::letL rate (a+b) (lt1 rate x)=_
  rw[let_add rate a b]
  rfl
theorem ltN_part{rate:Nat}{s:List Int}:∀ (n p:Nat),p+n≤rate→ltN rate n (s,p)=(s,p+n)
 | 0,p,_=>rfl
 | n+1,p,h=>by
  show ltN rate n (lt1 rate (s,p))=_
  have e:lt1 rate (s,p)=(s,p+1):=by unfold lt1;rw[if_neg (show ¬ p=rate by omega)]
  rw[e,ltN_part n (p+1) (by omega),show p+1+n=p+(n+1) by omega]
theorem let_turn{rate:Nat}(hr:0<rate)(s:List Int):∀ n,letL rate n (s,rate)=letL rate n (st s 24,0)
 | 0=>rfl
 | n+1=>by
  show lt0 rate (s,rate)::letL rate n (lt1 rate (s,rate))=lt0 rate (st s 24,0)::letL rate n (lt1 rate (st s 24,0))
  have e1:lt1 rate (s,rate)=(st s 24,1):=by unfold lt1;rw[if_pos rfl]
  have e2:lt1 rate (st s 24,0)=(st s 24,1):=by unfold lt1;rw[if_neg (show ¬ 0=rate by omega)]
  have e3:lt0 rate (s,rate)=lt0 rate (st s 24,0):=by unfold lt0;rw[if_pos rfl,if_neg (show ¬ 0=rate by omega)]
  rw[e1,e2,e3]
theorem sqN_eq{rate:Nat}(hr:0<rate):∀ (k n:Nat) (S:List Nat),allW S→n≤rate→encB (letL rate (rate*k+n) (S.map Int.ofNat,0))=sqN rate k n S
 | 0,n,S,h,hn=>by
  rw[Nat.mul_zero,Nat.zero_add,let_part h n 0 (by omega),Nat.pow_zero,Nat.div_one]
  rfl
 | k+1,n,S,h,hn=>by
  rw[show rate*(k+1)+n=rate+(rate*k+n) by rw[Nat.mul_succ]; omega,let_add,ltN_part rate 0 (by omega),Nat.zero_add,let_turn hr,stN_eq,encB_app,letL_length,sqN_eq hr k n _ (stN_ok _) hn,let_part h rate 0 (by omega),Nat.pow_zero,Nat.div_one]
  rfl
theorem stream_N{rate:Nat}(hr:0<rate)(e:UInt8){k m r:Nat}{l:List UInt8}(h1:rate*k≤l.length)(h2:l.length<rate*(k+1))(h3:r≤rate) :
  encB (streamF rate e (rate*m+r) l)=sqN rate m r (absorbN rate e.toNat k (encB l) l.length):=by
 unfold streamF
 rw[absorb_eq hr e h1 h2]
 exact sqN_eq hr m r _ (stN_ok _) h3
end Go.Proofs.Vm

namespace Go.Proofs.Vm
set_option maxRecDepth 100000
open Go.Vm
section
def hdE(lab ll key:Nat):Nat:=ll+256*(lab+256 ^ ll*key)
def tag1E(lab ll key b bl k:Nat):Nat:=sqN 136 0 32 (absorbN 136 6 k (hdE lab ll key+256 ^ (ll+33)*(bl+256 ^ 8*b)) (ll+33+(8+bl)))
def tag2E(lab ll key b bl c cl k:Nat):Nat:=sqN 136 0 32 (absorbN 136 6 k (hdE lab ll key+256 ^ (ll+33)*(bl+256 ^ 8*(b+256 ^ bl*(cl+256 ^ 8*c)))) (ll+33+(8+(bl+(8+cl)))))
def strE(lab ll key m r:Nat):Nat:=sqN 168 m r (absorbN 168 31 0 (hdE lab ll key) (ll+33))
theorem hd_E(key l:List UInt8)(h:l.length<256):encB (headL key l)=hdE (encB l) l.length (encB key):=by
 unfold headL hdE
 show(UInt8.ofNat l.length).toNat+256*encB (l++key)=_
 rw[encB_app,UInt8.toNat_ofNat',Nat.mod_eq_of_lt (by omega)]
theorem bytesN_E(k:Nat)(h:k<18446744073709551616):encB (bytesN k)=k:=by
 unfold bytesN
 simp only[encB,UInt8.toNat_ofNat']
 omega
theorem bytesN_len(k:Nat):(bytesN k).length=8:=rfl
theorem tag1_E{key l b:List UInt8}{k:Nat}(hk:key.length=32)(hl:l.length≤64)(hb:b.length<18446744073709551616)(h1:136*k≤l.length+33+(8+b.length))(h2:l.length+33+(8+b.length)<136*(k+1)) :
  encB (tagL key l [b])=tag1E (encB l) l.length (encB key) (encB b) b.length k:=by
 have hlen:(headL key l++textL [b]).length=l.length+33+(8+b.length):=by
  rw[List.length_append,headL_length,hk]
  unfold textL
  simp only[List.map_cons,List.map_nil,List.flatten_cons,List.flatten_nil,List.append_nil,List.length_append,bytesN_len]
 have henc:encB (headL key l++textL [b])=hdE (encB l) l.length (encB key)+256 ^ (l.length+33)*(b.length+256 ^ 8*encB b):=by
  rw[encB_app,hd_E _ _ (by omega),headL_length,hk]
  unfold textL
  simp only[List.map_cons,List.map_nil,List.flatten_cons,List.flatten_nil,List.append_nil]
  rw[encB_app,bytesN_E _ hb,bytesN_len]
 unfold tagL
 rw[if_neg (by omega)]
 have:=stream_N (rate:=136) (by omega) 6 (k:=k) (m:=0) (r:=32) (l:=headL key l++textL [b]) (by omega) (by omega) (by omega)
 rw[henc,hlen] at this
 exact this
theorem tag2_E{key l b c:List UInt8}{k:Nat}(hk:key.length=32)(hl:l.length≤64)(hb:b.length<18446744073709551616)(hc:c.length<18446744073709551616)(h1:136*k≤l.length+33+(8+(b.length+(8+c.length))))(h2:l.length+33+(8+(b.length+(8+c.length)))<136*(k+1)) :
  encB (tagL key l [b,c])=tag2E (encB l) l.length (encB key) (encB b) b.length (encB c) c.length k:=by
 have hlen:(headL key l++textL [b,c]).length=l.length+33+(8+(b.length+(8+c.length))):=by
  rw[List.length_append,headL_length,hk]
  unfold textL
  simp only[List.map_cons,List.map_nil,List.flatten_cons,List.flatten_nil,List.append_nil,List.length_append,bytesN_len]
  omega
 have henc:encB (headL key l++textL [b,c])=hdE (encB l) l.length (encB key)+256 ^ (l.length+33)*(b.length+256 ^ 8*(encB b+256 ^ b.length*(c.length+256 ^ 8*encB c))):=by
  rw[encB_app,hd_E _ _ (by omega),headL_length,hk]
  unfold textL
  simp only[List.map_cons,List.map_nil,List.flatten_cons,List.flatten_nil,List.append_nil]
  rw[List.append_assoc,encB_app,bytesN_E _ hb,bytesN_len,encB_app,encB_app,bytesN_E _ hc,bytesN_len]
 unfold tagL
 rw[if_neg (by omega)]
 have:=stream_N (rate:=136) (by omega) 6 (k:=k) (m:=0) (r:=32) (l:=headL key l++textL [b,c]) (by omega) (by omega) (by omega)
 rw[henc,hlen] at this
 exact this
theorem str_E{key l:List UInt8}{m r:Nat}(hk:key.length=32)(hl:l.length≤64)(hr:r≤168):encB (maskL key l (zs (168*m+r)))=strE (encB l) l.length (encB key) m r:=by
 have hlen:(headL key l).length=l.length+33:=by rw[headL_length,hk]
 unfold zs
 rw[mask_zeros]
 have:=stream_N (rate:=168) (by omega) 31 (k:=0) (m:=m) (r:=r) (l:=headL key l) (by omega) (by omega) hr
 rw[hd_E _ _ (by omega),hlen] at this
 exact this
theorem encB_xor:∀ (a b:List UInt8),a.length=b.length→encB (xorL a b)=encB a ^^^ encB b
 | [],[],_=>rfl
 | x::a,y::b,h=>by
  have ih:=encB_xor a b (by simpa using h)
  show(x ^^^ y).toNat+256*encB (xorL a b)=(x.toNat+256*encB a) ^^^ (y.toNat+256*encB b)
  have e:∀ (z n:Nat),z<256→z+256*n=z ^^^ (n <<< 8):=fun z n hz=>add_xor (n:=8) n hz
  rw[e _ _ x.toNat_lt,e _ _ y.toNat_lt,e _ _ (x ^^^ y).toNat_lt,ih,UInt8.toNat_xor,Nat.shiftLeft_xor_distrib]
  rw[Nat.xor_assoc,Nat.xor_assoc,←Nat.xor_assoc y.toNat,Nat.xor_comm y.toNat,Nat.xor_assoc]
theorem encB_zs(n:Nat):encB (zs n)=0:=by
 unfold zs
 induction n with
 | zero=>rfl
 | succ n ih =>
  rw[List.replicate_succ]
  show(0:UInt8).toNat+256*encB (List.replicate n 0)=0
  rw[ih]
  rfl
def pre0:List UInt8:=hiL 2 5++(hiL 8 9++(hiL 4 0++(zs 32++(hiL 8 0++(zs 32++(hiL 4 0++zs 32))))))
def pre1:List UInt8:=hiL 2 0++(hiL 8 8++(hiL 4 0++(zs 32++(hiL 8 0++(zs 32++(hiL 4 0++zs 32))))))
def onE:Nat:=encB onionW
def tgE:Nat:=encB tagW
def bdE:Nat:=encB bodyW
def ky(k:UInt8):Nat:=encB (keyN k)
def finE:Bool :=
 forceN (tag1E onE 5 (ky 1) (ky 3) 32 0) fun K0 =>
 forceN (sqN 136 0 32 (absorbN 136 6 0 (ky 3) 32)) fun n1 =>
 forceN (tag1E onE 5 (ky 2) n1 32 0) fun K1 =>
 forceN (tag1E onE 5 (ky 2) (ky 3) 32 0) fun KX =>
 forceN (strE bdE 4 K0 13 120) fun T0 =>
 forceN (strE bdE 4 K1 12 32) fun T1 =>
 forceN ((T1 ^^^ encB pre1) % 256 ^ 1792+256 ^ 1792*(T0 / 256 ^ 2048)) fun B1 =>
 forceN (tag2E tgE 3 K1 B1 2048 (ky 4) 32 15) fun t1 =>
 forceN ((T0 % 256 ^ 2048) ^^^ (encB pre0+256 ^ 122*t1+256 ^ 256*(B1 % 256 ^ 1792))) fun B0 =>
 Nat.beq (tag2E tgE 3 K0 B0 2048 (ky 4) 32 15) (tag2E tgE 3 KX B0 2048 (ky 4) 32 15)
theorem finE_no:finE=false:=by kernel_rfl
theorem finE_as{K0 n1 K1 KX T0 T1 B1 t1 B0:Nat}(h1:K0=tag1E onE 5 (ky 1) (ky 3) 32 0)(h2:n1=sqN 136 0 32 (absorbN 136 6 0 (ky 3) 32))(h3:K1=tag1E onE 5 (ky 2) n1 32 0)(h4:KX=tag1E onE 5 (ky 2) (ky 3) 32 0)
  (h5:T0=strE bdE 4 K0 13 120) (h6:T1=strE bdE 4 K1 12 32) (h7:B1=(T1 ^^^ encB pre1) % 256 ^ 1792+256 ^ 1792*(T0 / 256 ^ 2048)) (h8:t1=tag2E tgE 3 K1 B1 2048 (ky 4) 32 15)
  (h9:B0=(T0 % 256 ^ 2048) ^^^ (encB pre0+256 ^ 122*t1+256 ^ 256*(B1 % 256 ^ 1792))):finE=Nat.beq (tag2E tgE 3 K0 B0 2048 (ky 4) 32 15) (tag2E tgE 3 KX B0 2048 (ky 4) 32 15):=by
 unfold finE
 rw[forceN_eq,← h1,forceN_eq,← h2,forceN_eq,← h3,forceN_eq,← h4,forceN_eq,← h5,forceN_eq,← h6,forceN_eq,← h7,forceN_eq,← h8,forceN_eq,← h9]
theorem keyN_len(k:UInt8):(keyN k).length=32:=by unfold keyN;simp
theorem pre0_len:pre0.length=122:=by unfold pre0;simp only[List.length_append,hiL_length,zs_length]
theorem pre1_len:pre1.length=122:=by unfold pre1;simp only[List.length_append,hiL_length,zs_length]
theorem part0_as(nx:List UInt8):partL (lvHop 5 9) nx=pre0++(nx++zs 102):=by
 unfold pre0
 simp only[List.append_assoc]
 rfl
theorem part1_as(nx:List UInt8):partL (lvHop 0 8) nx=pre1++(nx++zs 102):=by
 unfold pre1
 simp only[List.append_assoc]
 rfl
theorem other_tag:tagOK (keyN 2) (buildL [lvHop 5 9,lvHop 0 8] [keyN 1,keyN 2] (keyN 3) (keyN 4)) (keyN 4)=false:=by
 have n3:=keyN_len 3
 have n4:=keyN_len 4
 have n2:=keyN_len 2
 have n1:=keyN_len 1
 have hh:∀ h,h ∈ [lvHop 5 9,lvHop 0 8]→h.L32:=by
  intro h hm
  simp only[List.mem_cons,List.not_mem_nil,or_false] at hm
  rcases hm with rfl|rfl<;>exact⟨by simp[lvHop],by simp[lvHop],by simp[lvHop]⟩
 obtain⟨K0,hK0⟩:∃ K0,K0=atL (keyN 1) (keyN 3):=⟨_,rfl⟩
 obtain⟨K1,hK1⟩:∃ K1,K1=atL (keyN 2) (sumL (keyN 3)):=⟨_,rfl⟩
 obtain⟨KX,hKX⟩:∃ KX,KX=atL (keyN 2) (keyN 3):=⟨_,rfl⟩
 have hK:keysL [keyN 1,keyN 2] (keyN 3) 2 = [K0,K1]:=by rw[hK0,hK1]; rfl
 have l0:K0.length=32:=by rw[hK0]; exact at_32 _ _
 have l1:K1.length=32:=by rw[hK1]; exact at_32 _ _
 have lX:KX.length=32:=by rw[hKX]; exact at_32 _ _
 obtain⟨b1,c1⟩:=bsB_length (L := [K0,K1]) (hs := [lvHop 5 9,lvHop 0 8]) (hash:=keyN 4) (n:=2) (by omega) hh 1
 obtain⟨b2,c2⟩:=bsB_length (L := [K0,K1]) (hs := [lvHop 5 9,lvHop 0 8]) (hash:=keyN 4) (n:=2) (by omega) hh 2
 have hB1:bsB [K0,K1] [lvHop 5 9,lvHop 0 8] (keyN 4) 2 1=(maskL K1 bodyW (partL (lvHop 0 8) (zs 32)++(zs 2048).take 1792)).take (2048 - (fillL [K0,K1] 1).length)++fillL [K0,K1] 1:=bsB_one
 have hB2:bsB [K0,K1] [lvHop 5 9,lvHop 0 8] (keyN 4) 2 2=maskL K0 bodyW (partL (lvHop 5 9) (bsT [K0,K1] [lvHop 5 9,lvHop 0 8] (keyN 4) 2 1)++(bsB [K0,K1] [lvHop 5 9,lvHop 0 8] (keyN 4) 2 1).take 1792):=bsB_succ 0
 have hT1:bsT [K0,K1] [lvHop 5 9,lvHop 0 8] (keyN 4) 2 1=btagL K1 (bsB [K0,K1] [lvHop 5 9,lvHop 0 8] (keyN 4) 2 1) (keyN 4):=bsT_succ 0
 have hT2:bsT [K0,K1] [lvHop 5 9,lvHop 0 8] (keyN 4) 2 2=btagL K0 (bsB [K0,K1] [lvHop 5 9,lvHop 0 8] (keyN 4) 2 2) (keyN 4):=bsT_succ 1
 have hF:fillL [K0,K1] 1=(keyT K0).drop 2048:=by
  have h:=fill_T (L := [K0,K1]) (i:=0) (by omega)
  rw[zs_app 0 _ rfl] at h
  have hz:=xorL_zs (a:=(keyT K0).drop 2048) (n:=256) (by rw[List.length_drop,keyT_length])
  exact h.trans hz
 have lF:(fillL [K0,K1] 1).length=256:=by rw[hF,List.length_drop,keyT_length]
 rw[lF] at hB1
 have hP:buildL [lvHop 5 9,lvHop 0 8] [keyN 1,keyN 2] (keyN 3) (keyN 4)=keyN 3++(bsT [K0,K1] [lvHop 5 9,lvHop 0 8] (keyN 4) 2 2++bsB [K0,K1] [lvHop 5 9,lvHop 0 8] (keyN 4) 2 2):=by
  rw[←hK,←List.append_assoc]
  rfl
 rw[hP]
 generalize bsB [K0,K1] [lvHop 5 9,lvHop 0 8] (keyN 4) 2 1=B1 at *
 generalize bsB [K0,K1] [lvHop 5 9,lvHop 0 8] (keyN 4) 2 2=B0 at *
 generalize bsT [K0,K1] [lvHop 5 9,lvHop 0 8] (keyN 4) 2 1=t1 at *
 generalize bsT [K0,K1] [lvHop 5 9,lvHop 0 8] (keyN 4) 2 2=t0 at *
 have q1:sl (keyN 3++(t0++B0)) 0 32=keyN 3:=sl_here n3
 have q2:sl (keyN 3++(t0++B0)) 32 32=t0:=by rw[sl_skip n3 (by omega)]; exact sl_here c2
 have q3:sl (keyN 3++(t0++B0)) 64 2048=B0:=by rw[sl_skip n3 (by omega),sl_skip c2 (by omega)]; exact sl_all b2
 unfold tagOK lkL
 rw[q1,q2,q3,←hKX,hT2]
 refine decide_eq_false fun he => ?_
 have he:=congrArg encB he
 have lon:onionW.length=5:=rfl
 have ltg:tagW.length=3:=rfl
 have lbd:bodyW.length=4:=rfl
 have e0:encB K0=tag1E onE 5 (ky 1) (ky 3) 32 0:=by
  have h:=tag1_E (key:=keyN 1) (l:=onionW) (b:=keyN 3) (k:=0) n1 (by omega) (by omega) (by omega) (by omega)
  rw[n3,lon] at h
  rw[hK0]
  exact h
 have eX:encB KX=tag1E onE 5 (ky 2) (ky 3) 32 0:=by
  have h:=tag1_E (key:=keyN 2) (l:=onionW) (b:=keyN 3) (k:=0) n2 (by omega) (by omega) (by omega) (by omega)
  rw[n3,lon] at h
  rw[hKX]
  exact h
 have en:encB (sumL (keyN 3))=sqN 136 0 32 (absorbN 136 6 0 (ky 3) 32):=by
  have h:=stream_N (rate:=136) (by omega) 6 (k:=0) (m:=0) (r:=32) (l:=keyN 3) (by omega) (by omega) (by omega)
  rw[n3] at h
  exact h
 have e1:encB K1=tag1E onE 5 (ky 2) (encB (sumL (keyN 3))) 32 0:=by
  have ls:=sumL_length (keyN 3)
  have h:=tag1_E (key:=keyN 2) (l:=onionW) (b:=sumL (keyN 3)) (k:=0) n2 (by omega) (by omega) (by omega) (by omega)
  rw[ls,lon] at h
  rw[hK1]
  exact h
 have eT0:encB (keyT K0)=strE bdE 4 (encB K0) 13 120:=str_E (m:=13) (r:=120) l0 (by omega) (by omega)
 have eT1:encB (maskL K1 bodyW (zs 2048))=strE bdE 4 (encB K1) 12 32:=str_E (m:=12) (r:=32) l1 (by omega) (by omega)
 have eB1:encB B1=(strE bdE 4 (encB K1) 12 32 ^^^ encB pre1) % 256 ^ 1792+256 ^ 1792*(encB (keyT K0) / 256 ^ 2048):=by
  have lp:(partL (lvHop 0 8) (zs 32)++(zs 2048).take 1792).length=2048:=by
   rw[part1_as,List.length_append,List.length_append,List.length_append,pre1_len,zs_length,zs_length,List.length_take,zs_length]
   rfl
  have ez:(zs 2048).take 1792=zs 1792:=by unfold zs;rw[List.take_replicate]; rfl
  have ep:encB (partL (lvHop 0 8) (zs 32)++(zs 2048).take 1792)=encB pre1:=by
   rw[encB_app,ez,encB_zs,Nat.mul_zero,Nat.add_zero,part1_as,encB_app,encB_app,encB_zs,encB_zs,Nat.mul_zero,Nat.mul_zero,Nat.add_zero]
  have lm:(maskL K1 bodyW (partL (lvHop 0 8) (zs 32)++(zs 2048).take 1792)).length=2048:=by rw[maskL_length,lp]
  have ez2:List.replicate 2048 (0:UInt8)=zs 2048:=by unfold zs;with_reducible rfl
  have hm:encB (maskL K1 bodyW (partL (lvHop 0 8) (zs 32)++(zs 2048).take 1792))=strE bdE 4 (encB K1) 12 32 ^^^ encB pre1:=by
   rw[mask_as,lp,ez2,encB_xor _ _ (by rw[maskL_length,zs_length,lp]),eT1,ep]
  have l17:((maskL K1 bodyW (partL (lvHop 0 8) (zs 32)++(zs 2048).take 1792)).take (2048 - 256)).length=1792:=by rw[List.length_take,lm]; rfl
  rw[hB1,encB_app,l17,show 2048 - 256=1792 from rfl,encB_take _ _ (by omega),hm,hF,encB_drop _ _ (by rw[keyT_length]; omega)]
 have et1:encB t1=tag2E tgE 3 (encB K1) (encB B1) 2048 (ky 4) 32 15:=by
  have h:=tag2_E (key:=K1) (l:=tagW) (b:=B1) (c:=keyN 4) (k:=15) l1 (by omega) (by omega) (by omega) (by omega) (by omega)
  rw[b1,n4,ltg] at h
  rw[hT1]
  exact h
 have eB0:encB B0=(encB (keyT K0) % 256 ^ 2048) ^^^ (encB pre0+256 ^ 122*encB t1+256 ^ 256*(encB B1 % 256 ^ 1792)):=by
  have lp:(partL (lvHop 5 9) t1).length=256:=by
   rw[part0_as,List.length_append,List.length_append,pre0_len,c1,zs_length]
  have lx:(partL (lvHop 5 9) t1++B1.take 1792).length=2048:=by rw[List.length_append,lp,List.length_take,b1]; rfl
  have ltk:((keyT K0).take 2048).length=2048:=by rw[List.length_take,keyT_length]; rfl
  have h1:xorL (keyT K0) (partL (lvHop 5 9) t1++B1.take 1792)=xorL ((keyT K0).take 2048) (partL (lvHop 5 9) t1++B1.take 1792):=(xorL_left (by omega)).symm
  have ep:encB (partL (lvHop 5 9) t1)=encB pre0+256 ^ 122*encB t1:=by
   rw[part0_as,encB_app,encB_app,encB_zs,Nat.mul_zero,Nat.add_zero,pre0_len]
  rw[hB2,mask_T _ _ (by omega),h1,encB_xor _ _ (by omega),encB_take _ _ (by rw[keyT_length]; omega),encB_app,ep,lp,encB_take _ _ (by omega)]
 have ea:encB (btagL K0 B0 (keyN 4))=tag2E tgE 3 (encB K0) (encB B0) 2048 (ky 4) 32 15:=by
  have h:=tag2_E (key:=K0) (l:=tagW) (b:=B0) (c:=keyN 4) (k:=15) l0 (by omega) (by omega) (by omega) (by omega) (by omega)
  rw[b2,n4,ltg] at h
  exact h
 have eb:encB (btagL KX B0 (keyN 4))=tag2E tgE 3 (encB KX) (encB B0) 2048 (ky 4) 32 15:=by
  have h:=tag2_E (key:=KX) (l:=tagW) (b:=B0) (c:=keyN 4) (k:=15) lX (by omega) (by omega) (by omega) (by omega) (by omega)
  rw[b2,n4,ltg] at h
  exact h
 have hfin:=finE_as e0 en e1 eX eT0 rfl eB1 et1 eB0
 rw[finE_no,←ea,←eb,he] at hfin
 rw[Nat.beq_refl] at hfin
 cases hfin
end
end Go.Proofs.Vm

namespace Go.Proofs.Vm
set_option maxRecDepth 100000
open Go.Vm
noncomputable section
theorem lookB{P:Program}{f:Nat}{vals vals0:List AV}{r0:AV}{cs:List AV}{H:Hl}{lg:List Nat}(hc:CallTo P f vals0 [] r0 [.cells cs] lg)(h1:flatL cs)(h:Vws H vals vals0) :
  CallTo P f vals H (backV [] H.length r0) (join H [.cells cs]) []:=by
 have hc':CallTo P f (renL (pickN []) (viewF H [] 3) true vals) (pickH (viewF H [] 3) [] H) r0 [.cells cs] lg:=hc.le fun ρ w us hv=>vws_rel h hv
 have h:=CallTo.frame (H:=H) (vals:=vals) [] 3 List.nodup_nil (fun b hb=>by cases hb) hc' (fun b c hp=>by cases hp)
 have e1:backH [] H [.cells cs]=join H [.cells cs]:=by
  apply List.ext_getElem?
  intro b
  rw[backH_get,join_eq]
  by_cases hb:b<H.length
  ·rw[if_pos hb,List.getElem?_append_left hb]; rfl
  ·rw[if_neg hb,List.getElem?_append_right (by omega)]
   simp only[List.length_nil,Nat.zero_add]
   cases b - H.length with
   | zero=>simp[backB,renB,renL_flat h1]
   | succ d=>simp
 have e2:backL [] lg = []:=by simp[backL]
 rw[e1,e2] at h
 exact h
theorem back_bd(H:Hl)(z:Int):backV [] H.length (.tup [.slc 0 0 2112 2112 1,.int .i64 z]) = .tup [.slc (size H) 0 2112 2112 1,.int .i64 z]:=by
 unfold backV
 simp[ren,renL,backN,size_eq]
theorem back_pl(H:Hl)(h:Hop)(z:Int):backV [] H.length (.tup [.agg (hopC h),.slc 0 0 2112 2112 1,.int .i64 z]) = .tup [.agg (hopC h),.slc (size H) 0 2112 2112 1,.int .i64 z]:=by
 unfold backV
 simp[ren,renL,backN,size_eq,renL_flat (hopC_flat h)]
theorem back_pn(H:Hl)(h:Hop)(z:Int):backV [] H.length (.tup [.agg (hopC h),.nils,.int .i64 z]) = .tup [.agg (hopC h),.nils,.int .i64 z]:=by
 unfold backV
 simp only[ren,renL,renL_flat (hopC_flat h)]
def peelX(key p hash:List UInt8):Int × Hop × List UInt8:=if p.length=2112 then peelL key p hash else(10,hop0,[])
def bz0:BZ where
 gd hc n kn:=goodB (hsOf hc n) n kn
 bl ks ko hc n ns hs:=(buildL (hsOf hc n) (shA ks ko n) (bytesA ns) (bytesA hs)).map by8
 go ks b hs:=decide ((peelX (bytesA ks) b (bytesA hs)).2.2 ≠ [])
 hp ks b hs:=hopC (peelX (bytesA ks) b (bytesA hs)).2.1
 nx ks b hs:=(peelX (bytesA ks) b (bytesA hs)).2.2.map by8
 er ks b hs:=(peelX (bytesA ks) b (bytesA hs)).1
theorem goodB_iff{hs:List Hop}{n kn:Nat}:goodB hs n kn=true↔1≤n∧n≤8∧kn=n∧okHs hs n=true:=by
 unfold goodB
 simp only[Bool.and_eq_true,decide_eq_true_eq,and_assoc]
theorem arg60{ks hc:List AV}{n ko kn:Nat}{ns hsx:List AV}(h:P60 ks ko kn hc n ns hsx)(hg:goodB (hsOf hc n) n kn=true):∃ (hs:List Hop) (L:List (List UInt8)) (nn hash:List UInt8),hsOf hc n=hs∧shA ks ko n=L∧ns=nn.map by8∧hsx=hash.map by8∧Arg60 ks hc n hs L nn hash ko∧kn=n:=by
 obtain⟨hk,hP,⟨nn,hnn,rfl⟩,⟨hash,hh,rfl⟩⟩:=h
 have hP0:=hP
 obtain⟨hf,hn,hs,hp⟩:=hP
 obtain⟨g1,g2,rfl,g4⟩:=goodB_iff.1 hg
 have hk0:=hk
 obtain⟨kf,kl,kn2,L,hL⟩:=hk
 have e:=hsOf_eq hp
 exact⟨hs,L,nn,hash,e,shA_eq hL,rfl,rfl,⟨kf,hP0,hp,hk0,hL,hnn,hh,g1,g2,by rw[←e]; exact g4⟩,rfl⟩
theorem build_look {f : Nat} (hv : ∀ {ks hc : List AV} {n : Nat} (c : Nat) (e : Bool) {hs : List Hop} {L : List (List UInt8)} {nn hash : List UInt8} {ko : Nat} (kc : Nat) (ke : Bool), Arg60 ks hc n hs L nn hash ko →
      CallTo Tryd.prog f [.ros ks ko n kc ke,.ros hc 0 n c e,.agg (nn.map by8),.agg (hash.map by8)] [] (.tup [.slc 0 0 2112 2112 1,.int .i64 0]) [.cells ((buildL hs L nn hash).map by8)] [])
    (hb:∀ {ks hc:List AV} {nn hash:List UInt8} {n:Nat} {hs:List Hop} (c:Nat) (e:Bool) {ko kn:Nat} (kc:Nat) (ke:Bool),flatL ks→PHs hc n→HpAt hc n hs→kn<1099511627776→goodB hs n kn=false →
      CallTo Tryd.prog f [.ros ks ko kn kc ke,.ros hc 0 n c e,.agg (nn.map by8),.agg (hash.map by8)] [] (.tup [.nils,.int .i64 1]) [] [])
    {H:Hl} {x y:AV} {ks hc ns hsx:List AV} {ko kn kc n c:Nat} {ke e:Bool} (hx:vw1 H x = .ros ks ko kn kc ke) (hy:vw1 H y = .ros hc 0 n c e) (hP:P60 ks ko kn hc n ns hsx) :
    CallTo Tryd.prog f [x,y,.agg ns,.agg hsx] H (CRes.cond (bz0.gd hc n kn) (.ok (.tup [.slc (size H) 0 2112 2112 1,.int .i64 0]) (join H [.cells (bz0.bl ks ko hc n ns hsx)]) []) (.ok (.tup [.nils,.int .i64 1]) H [])).fin.1
      (CRes.cond (bz0.gd hc n kn) (.ok (.tup [.slc (size H) 0 2112 2112 1,.int .i64 0]) (join H [.cells (bz0.bl ks ko hc n ns hsx)]) []) (.ok (.tup [.nils,.int .i64 1]) H [])).fin.2.1 (CRes.cond (bz0.gd hc n kn) (.ok (.tup [.slc (size H) 0 2112 2112 1,.int .i64 0]) (join H [.cells (bz0.bl ks ko hc n ns hsx)]) []) (.ok (.tup [.nils,.int .i64 1]) H [])).fin.2.2:=by
  have hP0:=hP
  obtain⟨hk,hh,hn,ha⟩:=hP
  cases hg:goodB (hsOf hc n) n kn with
  | true =>
    obtain⟨hs,L,nn,hash,e1,e2,rfl,rfl,harg,rfl⟩:=arg60 hP0 hg
    have hz:bz0.gd hc kn kn=true:=hg
    rw[hz]
    have h:=lookB (H:=H) (hv c e kc ke harg) (flat_by8 _) (.cons (Vw.one hx hk.1) (.cons (Vw.one hy hh.1) (.cons (vwA H nn) (.cons (vwA H hash) .nil))))
    rw[back_bd] at h
    have eb:bz0.bl ks ko hc kn (nn.map by8) (hash.map by8)=(buildL hs L nn hash).map by8:=by
      show(buildL (hsOf hc kn) (shA ks ko kn) (bytesA _) (bytesA _)).map by8=_
      rw[e1,e2,bytesA_by8,bytesA_by8]
    rw[eb]
    exact h
  | false =>
    have hz:bz0.gd hc n kn=false:=hg
    rw[hz]
    obtain⟨nn,hnn,rfl⟩:=hn
    obtain⟨hash,hha,rfl⟩:=ha
    have hh0:=hh
    obtain⟨hf,_,hs,hp⟩:=hh
    rw[hsOf_eq hp] at hg
    exact CallTo.lookV (H:=H) (hb c e kc ke hk.1 hh0 hp hk.2.2.1 hg) (.cons (Vw.one hx hk.1) (.cons (Vw.one hy hf) (.cons (vwA H nn) (.cons (vwA H hash) .nil))))
theorem peel_look{f:Nat}(hn:∀ {ks hs pc:List AV} {off len cap:Nat} {e:Bool},len≠2112→CallTo Tryd.prog f [.agg ks,.ros pc off len cap e,.agg hs] [] (.tup [.agg (hopC hop0),.nils,.int .i64 10]) [] [])
  (hv:∀ {key p hash:List UInt8},key.length=32→p.length=2112→hash.length=32→(peelL key p hash).2.2 = []→CallTo Tryd.prog f [.agg (key.map by8),.ros (p.map by8) 0 2112 2112 false,.agg (hash.map by8)] [] (.tup [.agg (hopC (peelL key p hash).2.1),.nils,.int .i64 (peelL key p hash).1]) [] [])
  (hs:∀ {key p hash:List UInt8},key.length=32→p.length=2112→hash.length=32→(peelL key p hash).2.2 ≠ []→CallTo Tryd.prog f [.agg (key.map by8),.ros (p.map by8) 0 2112 2112 false,.agg (hash.map by8)] [] (.tup [.agg (hopC (peelL key p hash).2.1),.slc 0 0 2112 2112 1,.int .i64 0]) [.cells ((peelL key p hash).2.2.map by8)] [])
  {H:Hl} {x:AV} {ks pc hsx:List AV} {off len c:Nat} {e:Bool} (hx:vw1 H x = .ros pc off len c e) (hP:P63 ks pc off len hsx) (hc:len≤c) :
  CallTo Tryd.prog f [.agg ks,x,.agg hsx] H (CRes.cond (bz0.go ks (rdB pc off len) hsx) (.ok (.tup [.agg (bz0.hp ks (rdB pc off len) hsx),.slc (size H) 0 2112 2112 1,.int .i64 0]) (join H [.cells (bz0.nx ks (rdB pc off len) hsx)]) []) (.ok (.tup [.agg (bz0.hp ks (rdB pc off len) hsx),.nils,.int .i64 (bz0.er ks (rdB pc off len) hsx)]) H [])).fin.1
   (CRes.cond (bz0.go ks (rdB pc off len) hsx) (.ok (.tup [.agg (bz0.hp ks (rdB pc off len) hsx),.slc (size H) 0 2112 2112 1,.int .i64 0]) (join H [.cells (bz0.nx ks (rdB pc off len) hsx)]) []) (.ok (.tup [.agg (bz0.hp ks (rdB pc off len) hsx),.nils,.int .i64 (bz0.er ks (rdB pc off len) hsx)]) H [])).fin.2.1
   (CRes.cond (bz0.go ks (rdB pc off len) hsx) (.ok (.tup [.agg (bz0.hp ks (rdB pc off len) hsx),.slc (size H) 0 2112 2112 1,.int .i64 0]) (join H [.cells (bz0.nx ks (rdB pc off len) hsx)]) []) (.ok (.tup [.agg (bz0.hp ks (rdB pc off len) hsx),.nils,.int .i64 (bz0.er ks (rdB pc off len) hsx)]) H [])).fin.2.2:=by
 obtain⟨⟨key,hk,rfl⟩,⟨hf,ho,_,lb,hb⟩,⟨hash,hh,rfl⟩⟩:=hP
 rw[rdB_eq hb]
 have e1:bz0.go (key.map by8) lb (hash.map by8)=decide ((peelX key lb hash).2.2 ≠ []):=by
  show decide ((peelX (bytesA _) lb (bytesA _)).2.2 ≠ [])=_
  rw[bytesA_by8,bytesA_by8]
 have e2:bz0.hp (key.map by8) lb (hash.map by8)=hopC (peelX key lb hash).2.1:=by
  show hopC (peelX (bytesA _) lb (bytesA _)).2.1=_
  rw[bytesA_by8,bytesA_by8]
 have e3:bz0.nx (key.map by8) lb (hash.map by8)=(peelX key lb hash).2.2.map by8:=by
  show(peelX (bytesA _) lb (bytesA _)).2.2.map by8=_
  rw[bytesA_by8,bytesA_by8]
 have e4:bz0.er (key.map by8) lb (hash.map by8)=(peelX key lb hash).1:=by
  show(peelX (bytesA _) lb (bytesA _)).1=_
  rw[bytesA_by8,bytesA_by8]
 rw[e1,e2,e3,e4]
 by_cases hl:len=2112
 ·subst hl
  have ep:peelX key lb hash=peelL key lb hash:=if_pos hb.1
  rw[ep]
  have hvw:=Vw.le (Vw.bytes hx hf ho hb) (VLe.cap hc)
  by_cases hnx:(peelL key lb hash).2.2 = []
  ·have hd:decide ((peelL key lb hash).2.2 ≠ [])=false:=decide_eq_false (fun h=>h hnx)
   rw[hd]
   have h:=CallTo.lookV (H:=H) (hv hk hb.1 hh hnx) (.cons (vwA H key) (.cons hvw (.cons (vwA H hash) .nil)))
   rw[back_pn] at h
   exact h
  ·rw[decide_eq_true hnx]
   have h:=lookB (H:=H) (hs hk hb.1 hh hnx) (flat_by8 _) (.cons (vwA H key) (.cons hvw (.cons (vwA H hash) .nil)))
   rw[back_pl] at h
   exact h
 ·have ep:peelX key lb hash=(10,hop0,[]):=if_neg (by rw[hb.1]; exact hl)
  rw[ep]
  have h:=CallTo.lookV (H:=H) (hn (ks:=key.map by8) (hs:=hash.map by8) (pc:=pc) (off:=off) (cap:=c) (e:=e) hl) (.cons (vwA H key) (.cons (Vw.one hx hf) (.cons (vwA H hash) .nil)))
  rw[back_pn] at h
  exact h
theorem cnO4_ok:CnOK Tryd.prog (cnO4 bz0 oz0 of1 hf0):=by
 refine cnOr_ok ?_ cnO2_ok
 intro f vals H p x e hp
 dsimp only at e
 split at e
 ·split at e<;>cases e
  rename_i hx hy
  exact build_look (fun c e _ _ _ _ _ kc ke h=>call60v c e kc ke h) (fun c e _ _ kc ke h1 h2 h3 h4 h5=>call60n c e kc ke h1 h2 h3 h4 h5) hx hy hp
 ·split at e<;>cases e
  rename_i hx
  exact peel_look call63n call63v call63s hx hp.1 hp.2
 ·cases e
end
end Go.Proofs.Vm

namespace Go.Proofs.Vm
set_option maxRecDepth 100000
open Go.Vm
noncomputable section
abbrev lh0:Hop:=lvHop 5 9
abbrev lh1:Hop:=lvHop 0 8
abbrev lvPk(i:Nat):List UInt8:=pktL [keyN 1,keyN 2] [lh0,lh1] (keyN 3) (keyN 4) i
theorem lh32:∀ h,h ∈ [lh0,lh1]→h.L32:=by
 intro h hm
 simp only[List.mem_cons,List.not_mem_nil,or_false] at hm
 rcases hm with rfl|rfl<;>exact⟨by simp[lvHop],by simp[lvHop],by simp[lvHop]⟩
theorem lh64:∀ h,h ∈ [lh0,lh1]→h.i64:=by
 intro h hm
 simp only[List.mem_cons,List.not_mem_nil,or_false] at hm
 rcases hm with rfl|rfl<;>exact⟨by simp[lvHop],by simp[lvHop]⟩
theorem lhok:okHs [lh0,lh1] 2=true:=by decide
theorem lv_hp:HpAt lvH 2 [lh0,lh1]:=by
 refine⟨rfl,fun i h hx => ?_⟩
 have l0:=hopC_length (lh32 lh0 (by simp))
 have l1:=hopC_length (lh32 lh1 (by simp))
 match i,hx with
 | 0,hx =>
  cases hx
  refine⟨lh32 _ (by simp),?_⟩
  unfold lvH
  rw[List.drop_zero]
  exact take_len l0
 | 1,hx =>
  cases hx
  refine⟨lh32 _ (by simp),?_⟩
  unfold lvH
  rw[Nat.one_mul,drop_len l0,List.take_of_length_le (Nat.le_of_eq l1)]
theorem lv_flat:flatL lvH:=by
 unfold lvH
 intro a ha
 rcases List.mem_append.1 ha with h|h
 ·exact hopC_flat _ a h
 ·exact hopC_flat _ a h
theorem lv_sh:ShAt lvK 0 2 [keyN 1,keyN 2]:=by
 have h:=keys_at (K := [keyN 1,keyN 2]) (by
  intro x hx
  simp only[List.mem_cons,List.not_mem_nil,or_false] at hx
  rcases hx with rfl|rfl<;>exact keyN_len _)
 have e : [keyN 1,keyN 2].flatten=keyN 1++keyN 2:=by simp
 rw[e] at h
 exact h
theorem lv_p60:P60 lvK 0 2 lvH 2 lk3 lk4 :=
 ⟨⟨flat_by8 _,by unfold lvK;rw[List.length_map,List.length_append,keyN_len,keyN_len]; omega,by omega,_,lv_sh⟩,⟨lv_flat,by omega,_,lv_hp⟩,pkey _ (keyN_len 3),pkey _ (keyN_len 4)⟩
theorem lv_peel{i:Nat}(hi:i<2):peelL ([keyN 1,keyN 2].getD i []) (lvPk i) (keyN 4)=(0,[lh0,lh1].getD i hop0,if i+1=2 then [] else lvPk (i+1))∧(lvPk i).length=2112 :=
 pkt_peel (keyN_len 3) (by show 2≤8;omega) lh32 lh64 lhok hi
theorem nm_h(n:Nat)(c a:Int):nmB n (.cells (hopC (lvHop c a)))=true:=by kernel_rfl
theorem own_h(c a:Int):ownB (.cells (hopC (lvHop c a)))=true:=by kernel_rfl
theorem ownT_s(c a:Int)(b:Nat):own (.tup [.agg (hopC (lvHop c a)),.slc b 0 2112 2112 1,.int .i64 0])=true:=by kernel_rfl
theorem ownT_n(c a z:Int):own (.tup [.agg (hopC (lvHop c a)),.nils,.int .i64 z])=true:=by kernel_rfl
set_option maxRecDepth 100000 in
theorem call62:CallTo Tryd.prog 8 [] [] (.bool true) [] []:=by
 obtain⟨p0,l0⟩:=lv_peel (i:=0) (by omega)
 obtain⟨p1,l1⟩:=lv_peel (i:=1) (by omega)
 have ehs:hsOf lvH 2 = [lh0,lh1]:=hsOf_eq lv_hp
 have eg:bz0.gd lvH 2 2=true:=by
  show goodB (hsOf lvH 2) 2 2=true
  rw[ehs]
  decide
 have eP:lvP bz0=(lvPk 0).map by8:=by
  show(buildL (hsOf lvH 2) (shA lvK 0 2) (bytesA ((keyN 3).map by8)) (bytesA ((keyN 4).map by8))).map by8=_
  rw[ehs,shA_eq lv_sh,bytesA_by8,bytesA_by8,←pkt_zero]
 have x0:peelX (keyN 1) (lvPk 0) (keyN 4)=(0,lh0,lvPk 1):=by
  unfold peelX
  rw[if_pos l0]
  exact p0
 have x1:peelX (keyN 2) (lvPk 1) (keyN 4)=(0,lh1,[]):=by
  unfold peelX
  rw[if_pos l1]
  exact p1
 have x2:peelX (keyN 2) (lvPk 0) (keyN 4)=(70,lvHop 0 0,[]):=by
  unfold peelX
  rw[if_pos l0]
  unfold peelL
  rw[show lvPk 0=buildL [lh0,lh1] [keyN 1,keyN 2] (keyN 3) (keyN 4) from pkt_zero _ _ _ _,other_tag,if_pos rfl]
  rfl
 have r0:rdB ((lvPk 0).map by8) 0 2112=lvPk 0:=rdW l0
 have r1:rdB ((lvPk 1).map by8) 0 2112=lvPk 1:=rdW l1
 have go:∀ k b,bz0.go ((keyN k).map by8) b lk4=decide ((peelX (keyN k) b (keyN 4)).2.2 ≠ []):=by
  intro k b
  show decide ((peelX (bytesA _) b (bytesA ((keyN 4).map by8))).2.2 ≠ [])=_
  rw[bytesA_by8,bytesA_by8]
 have hp:∀ k b,bz0.hp ((keyN k).map by8) b lk4=hopC (peelX (keyN k) b (keyN 4)).2.1:=by
  intro k b
  show hopC (peelX (bytesA _) b (bytesA ((keyN 4).map by8))).2.1=_
  rw[bytesA_by8,bytesA_by8]
 have nx:∀ k b,bz0.nx ((keyN k).map by8) b lk4=(peelX (keyN k) b (keyN 4)).2.2.map by8:=by
  intro k b
  show(peelX (bytesA _) b (bytesA ((keyN 4).map by8))).2.2.map by8=_
  rw[bytesA_by8,bytesA_by8]
 have er:∀ k b,bz0.er ((keyN k).map by8) b lk4=(peelX (keyN k) b (keyN 4)).1:=by
  intro k b
  show(peelX (bytesA _) b (bytesA ((keyN 4).map by8))).1=_
  rw[bytesA_by8,bytesA_by8]
 have ek1:lk1=(keyN 1).map by8:=rfl
 have ek2:lk2=(keyN 2).map by8:=rfl
 have eQ:lvQ bz0=(lvPk 1).map by8:=by
  unfold lvQ
  rw[eP,r0,ek1,nx,x0]
 have hne:lvPk 1 ≠ []:=fun h=>by rw[h] at l1;cases l1
 have g0:bz0.go lk1 (lvPk 0) lk4=true:=by rw[ek1,go,x0]; exact decide_eq_true hne
 have g1:bz0.go lk2 (lvPk 1) lk4=false:=by rw[ek2,go,x1]; rfl
 have g2:bz0.go lk2 (lvPk 0) lk4=false:=by rw[ek2,go,x2]; rfl
 have h0:bz0.hp lk1 (lvPk 0) lk4=hopC lh0:=by rw[ek1,hp,x0]
 have h1:bz0.hp lk2 (lvPk 1) lk4=hopC lh1:=by rw[ek2,hp,x1]
 have h2:bz0.hp lk2 (lvPk 0) lk4=hopC (lvHop 0 0):=by rw[ek2,hp,x2]
 have z1:bz0.er lk2 (lvPk 1) lk4=0:=by rw[ek2,er,x1]
 have z2:bz0.er lk2 (lvPk 0) lk4=70:=by rw[ek2,er,x2]
 have s0:=spl_hop (lh32 lh0 (by simp))
 have s1:=spl_hop (lh32 lh1 (by simp))
 have c0:=hopC_length (lh32 lh0 (by simp))
 have c1:=hopC_length (lh32 lh1 (by simp))
 have c2:(hopC (lvHop 0 0)).length=101:=hopC_length (h:=lvHop 0 0) ⟨by simp[lvHop],by simp[lvHop],by simp[lvHop]⟩
 have pb0:PB ((lvPk 0).map by8) 0 2112:=pb_whole _ 2112 l0.symm (by omega)
 have pb1:PB ((lvPk 1).map by8) 0 2112:=pb_whole _ 2112 l1.symm (by omega)
 have k1:PKey lk1:=pkey _ (keyN_len 1)
 have k2:PKey lk2:=pkey _ (keyN_len 2)
 have k4:PKey lk4:=pkey _ (keyN_len 4)
 have htab:∀ f vf,tabW f=some vf→FnOK Tryd.prog f vf:=by
  intro f vf h
  unfold tabW at h
  split at h<;>cases h
  ·exact ok8
  ·exact ok18
 have hv:=vc62 bz0 oz0 of1 hf0 (fun r=>r = .bool true)
 rw[eP,eQ,r0,r1,eg,g0,g1,g2,h0,h1,h2,z1,z2,s0,s1] at hv
 have nA:∀ n,nmB n (.cells ((lvPk 0).map by8))=true:=fun n=>nmB8 n _
 have nB:∀ n,nmB n (.cells ((lvPk 1).map by8))=true:=fun n=>nmB8 n _
 have oA:ownB (.cells ((lvPk 0).map by8))=true:=ownB8 _
 have oB:ownB (.cells ((lvPk 1).map by8))=true:=ownB8 _
 have nH0:∀ n,nmB n (.cells (hopC lh0))=true:=fun n=>nm_h n 5 9
 have nH1:∀ n,nmB n (.cells (hopC lh1))=true:=fun n=>nm_h n 0 8
 have oH0:ownB (.cells (hopC lh0))=true:=own_h 5 9
 have oH1:ownB (.cells (hopC lh1))=true:=own_h 0 8
 have oT0:∀ b,own (.tup [.agg (hopC lh0),.slc b 0 2112 2112 1,.int .i64 (Int.ofNat 0)])=true:=fun b=>ownT_s 5 9 b
 have oT1:own (.tup [.agg (hopC lh1),.nils,.int .i64 0])=true:=ownT_n 0 8 0
 have oT2:own (.tup [.agg (hopC (lvHop 0 0)),.nils,.int .i64 70])=true:=ownT_n 0 0 70
 have m0:Nth (hopC lh0) 0 (.int .i64 5):=rfl
 have m1:Nth (hopC lh0) 1 (.int .i64 9):=rfl
 have m2:Nth (hopC lh1) 1 (.int .i64 8):=rfl
 generalize (lvPk 0).map by8=A at *
 generalize (lvPk 1).map by8=B at *
 generalize hopC lh0=H0 at *
 generalize hopC lh1=H1 at *
 generalize hopC (lvHop 0 0)=H2 at *
 have hq:=hv.mpr (by
  simp only[br_tt,br_ff,chk_and,nLen,nEq,c0,c1,c2,decide_eq_true_eq,nA,nB,oA,oB,nH0,nH1,oH0,oH1,oT0,oT1,oT2,true_and]
  refine⟨lv_p60,⟨⟨k1,pb0,k4⟩,Nat.le_refl _⟩,⟨⟨k2,pb1,k4⟩,Nat.le_refl _⟩,⟨⟨k2,pb0,k4⟩,Nat.le_refl _⟩,?_⟩
  refine Br.t rfl (Br.t rfl ⟨5,m0,Br.t rfl ⟨9,m1,Br.t rfl ⟨8,m2,Br.t rfl ?_⟩⟩⟩)
  first|exact True.intro|rfl)
 obtain⟨r,H',lg,hc,rfl⟩:=call_vcx cnO4_ok (noLn_ok _) htab (show tabW 8=some vf8 from rfl) hq
 exact hc.cut 0 (Nat.le_refl 0) (Nat.zero_le _) (lg0 := []) (fun b hb=>by simp at hb)
end
end Go.Proofs.Vm

namespace Go.Proofs.Vm
set_option maxRecDepth 100000
open Go.Vm
noncomputable section
def cnO5(B:BZ)(Z:OZ)(O:OY)(F:HF):CnF:=cnOr (fun f vals H=>match f,vals with
 | 8,[]=>some (0=0,.ok (.bool true) H [])
 | _,_=>none) (cnO4 B Z O F)
theorem cnO5_ok:CnOK Tryd.prog (cnO5 bz0 oz0 of1 hf0):=by
 refine cnOr_ok ?_ cnO4_ok
 intro f vals H p x e hp
 dsimp only at e
 split at e
 ·cases e
  exact CallTo.lookV (H:=H) call62 .nil
 ·cases e
theorem ext_all{l:List UInt8}{n:Nat}(h:l.length=n):ops0.ext (l.map by8) 0 n=l.map by8:=by
 rw[nExt,List.drop_zero,List.take_of_length_le (by rw[List.length_map]; omega)]
end
end Go.Proofs.Vm

namespace Go.Proofs.Vm
open Go.Vm
set_option maxRecDepth 100000
noncomputable section
def kX(ks:List AV)(i:Int):List AV:=ops0.ext ks (ops0.adr 0 i 32) 32
def mX(F:HF)(ks:List AV)(i:Int)(b:List UInt8):List AV:=F.mask (kX ks i) [98,97,99,107] b
def tX(F:HF)(ks:List AV)(i:Int)(b:List UInt8):List AV:=GF.tag (NG.toGF (HF.toNG F)) (kX ks i) [102,97,105,108] [partA (.ros (mX F ks i b) 32 64 64 false)]
def kI(ks:List AV)(i:Int):List AV:=ops0.spl (z8 32) 0 (ops0.ext ks (ops0.adr 0 i 32) 32)
def kJ(ks:List AV)(i:Int):List AV:=ops0.ext (kI ks i) 0 32
def kL(ks:List AV)(i:Int):List AV:=ops0.ext (kJ ks i) 0 32
def mI(F:HF)(ks:List AV)(i:Int)(b:List UInt8):List AV:=F.mask (kL ks i) [98,97,99,107] b
def tI(F:HF)(ks:List AV)(i:Int)(b:List UInt8):List AV:=GF.tag (NG.toGF (HF.toNG F)) (kJ ks i) [102,97,105,108] [partA (.ros (mI F ks i b) 32 64 64 false)]
def uI(F:HF)(ks:List AV)(i:Int)(b:List UInt8):List AV:=ops0.spl (z8 32) 0 (tI F ks i b)
def tabU(f:Nat):Option VF:=match f with
 | 12=>some vf12
 | _=>none
def cnU(T:TRF)(B:BZ)(Z:OZ)(O:OY)(F:HF):CnF:=cnOr (fun f vals H=>match f,vals with
 | 15,[.slc b o n c 1,.str s]=>match nth H b with
  | some (.cells cs)=>some (s = [0]∧flatL cs∧PTr cs o n c,.ok (.slc b o (T.tr cs o n) c 1) H [b])
  | _=>none
 | 17,[x]=>match vw1 H x with
  | .ros pc off 96 _ _=>some (PB pc off 96,.ok (.agg (Z.cut pc off)) H [])
  | _=>none
 | _,_=>none) (cnO5 B Z O F)
noncomputable def lpd5:VC:=vp [1,1,0,1,0,0] vf5.body
def frd5(x:AV)(ks:List AV)(n c:Nat)(e:Bool)(i:Int)(r4 r5:AV):Fr := [.top,x,.top,.top,r4,r5,.int .i64 (Int.ofNat 0),.top,.top,.top,.top,.top,.top,.top,.ros ks 0 n c e,.int .i64 (Int.ofNat n),.int .i64 i,.top,.top,.top,.top,.top,.top,.top,.top,.top,.top,.top,.top,.top,.top,.top,.top,.top,.top,.top,.top,.top]
def mkd5:List Bool := [true,false,true,true,false,false,false,true,true,true,true,true,true,true,false,false,false,true,true,true,true,true,true,true,true,true,true,true,true,true,true,true,true,true,true,true,true,true]
noncomputable def lpd6:VC:=vp [1,1,0,1,0,0] vf6.body
noncomputable def lpd6b:VC:=vp [1,1,0,1,0,0,1,0,0,1,1,0,1,0,0,0] vf6.body
def frd6(x:AV)(ks:List AV)(n c:Nat)(e:Bool)(i:Int)(r4 r5:AV):Fr := [.ros ks 0 n c e,x,.top,.top,r4,r5,.int .i64 (Int.ofNat 0),.int .i64 i,.top,.top,.top,.top,.top,.top,.top,.top,.top,.top,.top,.top,.top,.top,.top,.top,.top,.top,.top,.top,.top,.top,.top,.top,.top,.top,.top,.top,.top,.top,.top,.top,.top,.top,.top,.top,.top,.top,.top,.top,.top,.top,.top]
def mkd6:List Bool := [false,false,true,true,false,false,false,false,true,true,true,true,true,true,true,true,true,true,true,true,true,true,true,true,true,true,true,true,true,true,true,true,true,true,true,true,true,true,true,true,true,true,true,true,true,true,true,true,true,true,true]
def frd6b(x y:AV)(i m:Int):Fr := [x,y,.top,.top,.top,.top,.top,.int .i64 i,.int .i64 m,.top,.top,.top,.top,.top,.top,.top,.top,.top,.top,.top,.top,.top,.top,.top,.top,.top,.top,.top,.top,.top,.top,.top,.top,.top,.top,.top,.top,.top,.top,.top,.top,.top,.top,.top,.top,.top,.top,.top,.top,.top,.top]
def mkd6b:List Bool := [false,false,true,true,true,true,true,false,false,true,true,true,true,true,true,true,true,true,true,true,true,true,true,true,true,true,true,true,true,true,true,true,true,true,true,true,true,true,true,true,true,true,true,true,true,true,true,true,true,true,true]
def lnd6b(T:TRF):LnF:=fun n0 b fr H=>match slot fr 0,slot fr 1,slot fr 7,slot fr 8,H with
 | .ros ks 0 n c e,.slc 0 0 96 96 1,.int .i64 i,.int .i64 m,[.cells cs]=>some (n0=0∧VCis b lpd6b∧forget mkd6b fr=frd6b (.ros ks 0 n c e) (.slc 0 0 96 96 1) i m∧m=Int.ofNat 96∧PTr cs 32 64 64,
  .ok (.exit 2) (frd6b (.ros ks 0 n c e) (.slc 0 0 96 96 1) i (Int.ofNat (ops0.add 32 (T.tr cs 32 64)))) [.cells cs])
 | .ros ks 0 n c e,.slc 1 0 96 96 1,.int .i64 i,.int .i64 m,[.cells bs,.cells cs]=>some (n0=0∧VCis b lpd6b∧forget mkd6b fr=frd6b (.ros ks 0 n c e) (.slc 1 0 96 96 1) i m∧m=Int.ofNat 96∧PTr cs 32 64 64,
  .ok (.exit 2) (frd6b (.ros ks 0 n c e) (.slc 1 0 96 96 1) i (Int.ofNat (ops0.add 32 (T.tr cs 32 64)))) [.cells bs,.cells cs])
 | _,_,_,_,_=>none
theorem vcld5a(T:TRF)(B:BZ)(Z:OZ)(O:OY)(F:HF)(ks pc:List AV)(off cp:Nat)(ex:Bool)(n c:Nat)(e:Bool)(i:Int)(Q:Ex→Fr→Hl→Prop) :
  (vm (vcA kdS (cnU T B Z O F) noLn) ops0 tabU 100 0 lpd5 (frd5 (.ros pc off 96 cp ex) ks n c e i (.int .i64 (Int.ofNat 0)) .nils) [] [] (bodyX mkd5 Q)) =
 ((Br (ops0.cmp .lss i (Int.ofNat n))
 (Chk (ops0.inr i n)
 (Chk (ops0.le (ops0.add (ops0.adr 0 i 32) 32) (ops0.len ks))
 (Chk (ops0.eq (ops0.len (kX ks i)) 32)
 (Chk (ops0.le 32 (ops0.len (kI ks i)))
 (Chk (ops0.le 32 (ops0.len (kJ ks i)))
 (((PKey (kL ks i)) ∧
 (PB pc off 96)) ∧
 (Chk (ops0.le 32 (ops0.len (kI ks i)))
 (((PKey (kJ ks i)) ∧
 (PTag [(.ros (mI F ks i (rdB pc off 96)) 32 64 64 Bool.false)] 0 1)) ∧
 (Chk (ops0.eq (ops0.len (tI F ks i (rdB pc off 96))) 32)
 (Chk (ops0.le 32 (ops0.len (uI F ks i (rdB pc off 96))))
 (((PB (uI F ks i (rdB pc off 96)) 0 32) ∧
 (PB (mI F ks i (rdB pc off 96)) 0 32)) ∧
 (Br (HF.eq F (rdB (uI F ks i (rdB pc off 96)) 0 32) (rdB (mI F ks i (rdB pc off 96)) 0 32))
 (((([0]:(List UInt8)) = [0]) ∧
 ((flatL (mI F ks i (rdB pc off 96))) ∧
 (PTr (mI F ks i (rdB pc off 96)) 32 64 64))) ∧
 (Q Ex.ret (.top::(.slc 2 0 96 96 1)::tp 2 ((.int .i64 i)::(.slc 2 32 (TRF.tr T (mI F ks i (rdB pc off 96)) 32 64) 64 1)::(.int .i64 (.ofNat 0))::tp 7 ((.ros ks 0 n c e)::(.int .i64 (.ofNat n))::(.int .i64 i)::tp 21 ([])))) [(.cells (kI ks i)),(.cells (kJ ks i)),(.cells (mI F ks i (rdB pc off 96))),(.cells (uI F ks i (rdB pc off 96)))]))
 (Q Ex.norm (.top::(.slc 2 0 96 96 1)::tp 2 ((.int .i64 (.ofNat 0)) :: .nils::(.int .i64 (.ofNat 0))::tp 7 ((.ros ks 0 n c e)::(.int .i64 (.ofNat n))::(.int .i64 (ops0.bin .add .i64 i (Int.ofNat 1)))::tp 21 ([])))) [(.cells (kI ks i)),(.cells (kJ ks i)),(.cells (mI F ks i (rdB pc off 96))),(.cells (uI F ks i (rdB pc off 96)))])))))))))))))
 (Q (Ex.exit 0) (.top::(.ros pc off 96 cp ex)::tp 2 ((.int .i64 (.ofNat 0)) :: .nils::(.int .i64 (.ofNat 0))::tp 7 ((.ros ks 0 n c e)::(.int .i64 (.ofNat n))::(.int .i64 i)::tp 21 ([])))) []))):=by kernel_rfl
theorem vcld5b(T:TRF)(B:BZ)(Z:OZ)(O:OY)(F:HF)(ks bs:List AV)(n c:Nat)(e:Bool)(i:Int)(Q:Ex→Fr→Hl→Prop) :
  (vm (vcA kdS (cnU T B Z O F) noLn) ops0 tabU 100 0 lpd5 (frd5 (.slc 0 0 96 96 1) ks n c e i (.int .i64 (Int.ofNat 0)) .nils) [.cells bs] [] (bodyX mkd5 Q)) =
 ((Br (ops0.cmp .lss i (Int.ofNat n))
 (Chk (ops0.inr i n)
 (Chk (ops0.le (ops0.add (ops0.adr 0 i 32) 32) (ops0.len ks))
 (Chk (ops0.eq (ops0.len (kX ks i)) 32)
 (Chk (ops0.le 32 (ops0.len (kI ks i)))
 (Chk (ops0.le 32 (ops0.len (kJ ks i)))
 (((PKey (kL ks i)) ∧
 (PB bs 0 96)) ∧
 (Chk (ops0.le 32 (ops0.len (kI ks i)))
 (((PKey (kJ ks i)) ∧
 (PTag [(.ros (mI F ks i (rdB bs 0 96)) 32 64 64 Bool.false)] 0 1)) ∧
 (Chk (ops0.eq (ops0.len (tI F ks i (rdB bs 0 96))) 32)
 (Chk (ops0.le 32 (ops0.len (uI F ks i (rdB bs 0 96))))
 (((PB (uI F ks i (rdB bs 0 96)) 0 32) ∧
 (PB (mI F ks i (rdB bs 0 96)) 0 32)) ∧
 (Br (HF.eq F (rdB (uI F ks i (rdB bs 0 96)) 0 32) (rdB (mI F ks i (rdB bs 0 96)) 0 32))
 (((([0]:(List UInt8)) = [0]) ∧
 ((flatL (mI F ks i (rdB bs 0 96))) ∧
 (PTr (mI F ks i (rdB bs 0 96)) 32 64 64))) ∧
 (Q Ex.ret (.top::(.slc 3 0 96 96 1)::tp 2 ((.int .i64 i)::(.slc 3 32 (TRF.tr T (mI F ks i (rdB bs 0 96)) 32 64) 64 1)::(.int .i64 (.ofNat 0))::tp 7 ((.ros ks 0 n c e)::(.int .i64 (.ofNat n))::(.int .i64 i)::tp 21 ([])))) [(.cells bs),(.cells (kI ks i)),(.cells (kJ ks i)),(.cells (mI F ks i (rdB bs 0 96))),(.cells (uI F ks i (rdB bs 0 96)))]))
 (Q Ex.norm (.top::(.slc 3 0 96 96 1)::tp 2 ((.int .i64 (.ofNat 0)) :: .nils::(.int .i64 (.ofNat 0))::tp 7 ((.ros ks 0 n c e)::(.int .i64 (.ofNat n))::(.int .i64 (ops0.bin .add .i64 i (Int.ofNat 1)))::tp 21 ([])))) [(.cells bs),(.cells (kI ks i)),(.cells (kJ ks i)),(.cells (mI F ks i (rdB bs 0 96))),(.cells (uI F ks i (rdB bs 0 96)))])))))))))))))
 (Q (Ex.exit 0) (.top::(.slc 0 0 96 96 1)::tp 2 ((.int .i64 (.ofNat 0)) :: .nils::(.int .i64 (.ofNat 0))::tp 7 ((.ros ks 0 n c e)::(.int .i64 (.ofNat n))::(.int .i64 i)::tp 21 ([])))) [(.cells bs)]))):=by kernel_rfl
theorem vcld6b(ks cs:List AV)(n c:Nat)(e:Bool)(i:Int)(m:Nat)(Q:Ex→Fr→Hl→Prop) :
  (vm (vcA kdYes noCn noLn) ops0 noTab 100 0 lpd6b (frd6b (.ros ks 0 n c e) (.slc 0 0 96 96 1) i (Int.ofNat m)) [.cells cs] [] (bodyX mkd6b Q)) =
 ((Br (ops0.cmp .gtr (Int.ofNat m) (Int.ofNat 32))
 (Chk (ops0.inr (ops0.bin .sub .i64 (Int.ofNat m) (Int.ofNat 1)) 96)
 (∃ n1:Int,((Nth cs (ops0.adr 0 (ops0.bin .sub .i64 (Int.ofNat m) (Int.ofNat 1)) 1) (.int .u8 n1)) ∧
 (Br (ops0.cmp .eql n1 (Int.ofNat 0))
 (Q Ex.norm ((.ros ks 0 n c e)::(.slc 0 0 96 96 1)::tp 5 ((.int .i64 i)::(.int .i64 (ops0.bin .sub .i64 (Int.ofNat m) (Int.ofNat 1)))::tp 42 ([]))) [(.cells cs)])
 (Q (Ex.exit 2) ((.ros ks 0 n c e)::(.slc 0 0 96 96 1)::tp 5 ((.int .i64 i)::(.int .i64 (.ofNat m))::tp 42 ([]))) [(.cells cs)])))))
 (Q (Ex.exit 2) ((.ros ks 0 n c e)::(.slc 0 0 96 96 1)::tp 5 ((.int .i64 i)::(.int .i64 (.ofNat m))::tp 42 ([]))) [(.cells cs)]))):=by kernel_rfl
theorem vcld6c(ks bs cs:List AV)(n c:Nat)(e:Bool)(i:Int)(m:Nat)(Q:Ex→Fr→Hl→Prop) :
  (vm (vcA kdYes noCn noLn) ops0 noTab 100 0 lpd6b (frd6b (.ros ks 0 n c e) (.slc 1 0 96 96 1) i (Int.ofNat m)) [.cells bs,.cells cs] [] (bodyX mkd6b Q)) =
 ((Br (ops0.cmp .gtr (Int.ofNat m) (Int.ofNat 32))
 (Chk (ops0.inr (ops0.bin .sub .i64 (Int.ofNat m) (Int.ofNat 1)) 96)
 (∃ n1:Int,((Nth cs (ops0.adr 0 (ops0.bin .sub .i64 (Int.ofNat m) (Int.ofNat 1)) 1) (.int .u8 n1)) ∧
 (Br (ops0.cmp .eql n1 (Int.ofNat 0))
 (Q Ex.norm ((.ros ks 0 n c e)::(.slc 1 0 96 96 1)::tp 5 ((.int .i64 i)::(.int .i64 (ops0.bin .sub .i64 (Int.ofNat m) (Int.ofNat 1)))::tp 42 ([]))) [(.cells bs),(.cells cs)])
 (Q (Ex.exit 2) ((.ros ks 0 n c e)::(.slc 1 0 96 96 1)::tp 5 ((.int .i64 i)::(.int .i64 (.ofNat m))::tp 42 ([]))) [(.cells bs),(.cells cs)])))))
 (Q (Ex.exit 2) ((.ros ks 0 n c e)::(.slc 1 0 96 96 1)::tp 5 ((.int .i64 i)::(.int .i64 (.ofNat m))::tp 42 ([]))) [(.cells bs),(.cells cs)]))):=by kernel_rfl
theorem vcld6a(T:TRF)(B:BZ)(Z:OZ)(O:OY)(F:HF)(ks pc:List AV)(off cp:Nat)(ex:Bool)(n c:Nat)(e:Bool)(i:Int)(Q:Ex→Fr→Hl→Prop) :
  (vm (vcA kdS (cnU T B Z O F) (lnd6b T)) ops0 noTab 100 0 lpd6 (frd6 (.ros pc off 96 cp ex) ks n c e i (.int .i64 (Int.ofNat 0)) .nils) [] [] (bodyX mkd6 Q)) =
 ((Br (ops0.cmp .lss i (ops0.ofn n))
 (Chk (ops0.inr i n)
 (Chk (ops0.le (ops0.add (ops0.adr 0 i 32) 32) (ops0.len ks))
 (((PKey (kX ks i)) ∧
 (PB pc off 96)) ∧
 (Chk (ops0.inr i n)
 (Chk (ops0.le (ops0.add (ops0.adr 0 i 32) 32) (ops0.len ks))
 (((PKey (kX ks i)) ∧
 (PTag [(.ros (mX F ks i (rdB pc off 96)) 32 64 64 Bool.false)] 0 1)) ∧
 ((PB (mX F ks i (rdB pc off 96)) 0 96) ∧
 (Chk (ops0.eq (ops0.len (tX F ks i (rdB pc off 96))) 32)
 (Chk (ops0.eq (ops0.len (OZ.cut Z (mX F ks i (rdB pc off 96)) 0)) 32)
 (Chk (ops0.le 32 (ops0.len (tX F ks i (rdB pc off 96))))
 (Chk (ops0.le 32 (ops0.len (OZ.cut Z (mX F ks i (rdB pc off 96)) 0)))
 (∃ l:(List Int),((((ops0.ext (tX F ks i (rdB pc off 96)) 0 32):(List AV))=(List.map (.int .u8) l)) ∧
 (∃ l1:(List Int),((((ops0.ext (OZ.cut Z (mX F ks i (rdB pc off 96)) 0) 0 32):(List AV))=(List.map (.int .u8) l1)) ∧
 (Br (ops0.eqi l l1)
 ((((0:Nat)=0) ∧
 ((VCis lpd6b lpd6b) ∧
 (((((.ros ks 0 n c e)::(.slc 0 0 96 96 1)::tp 5 ((.int .i64 i)::(.int .i64 (.ofNat 96))::tp 42 ([]))):Fr)=((.ros ks 0 n c e)::(.slc 0 0 96 96 1)::tp 5 ((.int .i64 i)::(.int .i64 (.ofNat 96))::tp 42 ([])))) ∧
 ((((Int.ofNat 96):Int)=(Int.ofNat 96)) ∧
 (PTr (mX F ks i (rdB pc off 96)) 32 64 64))))) ∧
 (Chk (ops0.inb (Int.ofNat (ops0.add 32 (TRF.tr T (mX F ks i (rdB pc off 96)) 32 64))) 96)
 (Chk (ops0.inb (Int.ofNat 32) (ops0.nat (Int.ofNat (ops0.add 32 (TRF.tr T (mX F ks i (rdB pc off 96)) 32 64)))))
 (Q Ex.ret ((.ros ks 0 n c e)::(.slc 0 0 96 96 1)::tp 2 ((.int .i64 i)::(.slc 0 32 (ops0.sub (ops0.nat (Int.ofNat (ops0.add 32 (TRF.tr T (mX F ks i (rdB pc off 96)) 32 64)))) 32) 64 1)::(.int .i64 (.ofNat 0))::(.int .i64 i)::tp 43 ([]))) [(.cells (mX F ks i (rdB pc off 96)))]))))
 (Q Ex.norm ((.ros ks 0 n c e)::(.slc 0 0 96 96 1)::tp 2 ((.int .i64 (.ofNat 0)) :: .nils::(.int .i64 (.ofNat 0))::(.int .i64 (ops0.bin .add .i64 i (Int.ofNat 1)))::tp 43 ([]))) [(.cells (mX F ks i (rdB pc off 96)))])))))))))))))))))
 (Q (Ex.exit 0) ((.ros ks 0 n c e)::(.ros pc off 96 cp ex)::tp 2 ((.int .i64 (.ofNat 0)) :: .nils::(.int .i64 (.ofNat 0))::(.int .i64 i)::tp 43 ([]))) []))):=by kernel_rfl
theorem vcld6(T:TRF)(B:BZ)(Z:OZ)(O:OY)(F:HF)(ks bs:List AV)(n c:Nat)(e:Bool)(i:Int)(Q:Ex→Fr→Hl→Prop) :
  (vm (vcA kdS (cnU T B Z O F) (lnd6b T)) ops0 noTab 100 0 lpd6 (frd6 (.slc 0 0 96 96 1) ks n c e i (.int .i64 (Int.ofNat 0)) .nils) [.cells bs] [] (bodyX mkd6 Q)) =
 ((Br (ops0.cmp .lss i (ops0.ofn n))
 (Chk (ops0.inr i n)
 (Chk (ops0.le (ops0.add (ops0.adr 0 i 32) 32) (ops0.len ks))
 (((PKey (kX ks i)) ∧
 (PB bs 0 96)) ∧
 (Chk (ops0.inr i n)
 (Chk (ops0.le (ops0.add (ops0.adr 0 i 32) 32) (ops0.len ks))
 (((PKey (kX ks i)) ∧
 (PTag [(.ros (mX F ks i (rdB bs 0 96)) 32 64 64 Bool.false)] 0 1)) ∧
 ((PB (mX F ks i (rdB bs 0 96)) 0 96) ∧
 (Chk (ops0.eq (ops0.len (tX F ks i (rdB bs 0 96))) 32)
 (Chk (ops0.eq (ops0.len (OZ.cut Z (mX F ks i (rdB bs 0 96)) 0)) 32)
 (Chk (ops0.le 32 (ops0.len (tX F ks i (rdB bs 0 96))))
 (Chk (ops0.le 32 (ops0.len (OZ.cut Z (mX F ks i (rdB bs 0 96)) 0)))
 (∃ l:(List Int),((((ops0.ext (tX F ks i (rdB bs 0 96)) 0 32):(List AV))=(List.map (.int .u8) l)) ∧
 (∃ l1:(List Int),((((ops0.ext (OZ.cut Z (mX F ks i (rdB bs 0 96)) 0) 0 32):(List AV))=(List.map (.int .u8) l1)) ∧
 (Br (ops0.eqi l l1)
 ((((0:Nat)=0) ∧
 ((VCis lpd6b lpd6b) ∧
 (((((.ros ks 0 n c e)::(.slc 1 0 96 96 1)::tp 5 ((.int .i64 i)::(.int .i64 (.ofNat 96))::tp 42 ([]))):Fr)=((.ros ks 0 n c e)::(.slc 1 0 96 96 1)::tp 5 ((.int .i64 i)::(.int .i64 (.ofNat 96))::tp 42 ([])))) ∧
 ((((Int.ofNat 96):Int)=(Int.ofNat 96)) ∧
 (PTr (mX F ks i (rdB bs 0 96)) 32 64 64))))) ∧
 (Chk (ops0.inb (Int.ofNat (ops0.add 32 (TRF.tr T (mX F ks i (rdB bs 0 96)) 32 64))) 96)
 (Chk (ops0.inb (Int.ofNat 32) (ops0.nat (Int.ofNat (ops0.add 32 (TRF.tr T (mX F ks i (rdB bs 0 96)) 32 64)))))
 (Q Ex.ret ((.ros ks 0 n c e)::(.slc 1 0 96 96 1)::tp 2 ((.int .i64 i)::(.slc 1 32 (ops0.sub (ops0.nat (Int.ofNat (ops0.add 32 (TRF.tr T (mX F ks i (rdB bs 0 96)) 32 64)))) 32) 64 1)::(.int .i64 (.ofNat 0))::(.int .i64 i)::tp 43 ([]))) [(.cells bs),(.cells (mX F ks i (rdB bs 0 96)))]))))
 (Q Ex.norm ((.ros ks 0 n c e)::(.slc 1 0 96 96 1)::tp 2 ((.int .i64 (.ofNat 0)) :: .nils::(.int .i64 (.ofNat 0))::(.int .i64 (ops0.bin .add .i64 i (Int.ofNat 1)))::tp 43 ([]))) [(.cells bs),(.cells (mX F ks i (rdB bs 0 96)))])))))))))))))))))
 (Q (Ex.exit 0) ((.ros ks 0 n c e)::(.slc 0 0 96 96 1)::tp 2 ((.int .i64 (.ofNat 0)) :: .nils::(.int .i64 (.ofNat 0))::(.int .i64 i)::tp 43 ([]))) [(.cells bs)]))):=by kernel_rfl
theorem vcd17(f:Nat→Int)(c:Nat)(e:Bool)(Q:AV→Hl→Prop):(vcall (vcA kdFit noCn noLn) ops0 tabB 200 vf17 [.ros (byF 96 0 f) 0 96 c e] [] (endN (fun _=>0) Q))=Q (.agg (byF 32 0 f)) []:=by kernel_rfl
theorem byF_take{l:List UInt8}{n:Nat}(h:n≤l.length):byF n 0 (b8F l)=(l.take n).map by8:=byF_of (by rw[List.length_take]; omega) fun i hi=>by
 unfold b8F
 rw[Nat.zero_add,List.getD_eq_getElem?_getD,List.getD_eq_getElem?_getD,List.getElem?_take,if_pos hi]
theorem calld17{b:List UInt8}(hb:b.length=96)(c:Nat)(e:Bool):CallTo Tryd.prog 17 [.ros (b.map by8) 0 96 c e] [] (.agg ((b.take 32).map by8)) [] []:=by
 refine call_n (noCn_ok _) (noLn_ok _) tabB_ok (show tabB 17=some vf17 from rfl) (n:=200) (g:=kdFit) (m:=fun _=>0) [] ?_ (Nat.le_refl 0) flat0 (fun b hb=>by simp at hb)
 rw[←byF_b8 hb,vcd17,byF_take (by omega)]
 exact⟨rfl,rfl⟩
theorem cut_take{pc:List AV}{off:Nat}{lb:List UInt8}(hb:BytesAt pc off 96 lb):oz0.cut pc off=(lb.take 32).map by8:=by
 show(rdB pc off 32).map by8=_
 have h3:(pc.drop off).take 32=((pc.drop off).take 96).take 32:=by rw[List.take_take]; rfl
 unfold rdB
 rw[h3,hb.2,←List.map_take,bytesA_by8]
theorem cnU_ok:CnOK Tryd.prog (cnU tr0 bz0 oz0 of1 hf0):=by
 refine cnOr_ok ?_ cnO5_ok
 intro f vals H p x e hp
 dsimp only at e
 split at e
 ·rename_i b o n c s
  split at e<;>cases e
  rename_i cs hb
  obtain⟨rfl,hf,h⟩:=hp
  rw[nth_eq] at hb
  exact trim_at hf h hb
 ·rename_i y
  split at e<;>cases e
  rename_i pc off c ex hv
  obtain⟨hf,ho,_,lb,hb⟩:=hp
  have h:=CallTo.lookV (H:=H) (calld17 (b:=lb) hb.1 c ex) (.cons (Vw.bytes hv hf ho hb) .nil)
  rw[backV_flat (flat_by8 _)] at h
  rw[cut_take hb]
  exact h
 ·cases e
end
end Go.Proofs.Vm

namespace Go.Proofs.Vm
open Go.Vm
set_option maxRecDepth 100000
noncomputable section
def backW:List UInt8 := [98,97,99,107]
def failW:List UInt8 := [102,97,105,108]
def bkL(k b:List UInt8):List UInt8:=maskL k backW b
def flT(k s:List UInt8):List UInt8:=tagL k failW [s]
theorem bk_len(k b:List UInt8):(bkL k b).length=b.length:=maskL_length _ _ _
theorem flT_len(k s:List UInt8):(flT k s).length=32:=tagL_length _ _ _
def hitX(k b:List UInt8):Bool:=decide (flT k (sl b 32 64)=sl b 0 32)
def lenX(b:List UInt8):Nat:=trN (sl b 32 64) 64
theorem kI_eq{ks:List AV}{i:Nat}{k:List UInt8}(hk:k.length=32)(h:(ks.drop (0+i*32)).take 32=k.map by8):kX ks (Int.ofNat i)=k.map by8∧kI ks (Int.ofNat i)=k.map by8∧kJ ks (Int.ofNat i)=k.map by8∧kL ks (Int.ofNat i)=k.map by8:=by
 have h0:ops0.ext ks (ops0.adr 0 (Int.ofNat i) 32) 32=k.map by8:=by rw[nAdr,nExt]; exact h
 have h1:kI ks (Int.ofNat i)=k.map by8:=by
  unfold kI
  rw[h0,spl32 hk]
 have h2:kJ ks (Int.ofNat i)=k.map by8:=by
  unfold kJ
  rw[h1,ext32' hk]
 have h3:kL ks (Int.ofNat i)=k.map by8:=by
  unfold kL
  rw[h2,ext32' hk]
 exact⟨h0,h1,h2,h3⟩
theorem ptag1{b:List UInt8}(hb:b.length=96):PTag [.ros (b.map by8) 32 64 64 false] 0 1:=by
 have ha:BytesAt (b.map by8) 32 64 (sl b 32 64):=⟨sl_length (by omega),by unfold sl;rw[←List.map_drop,←List.map_take]⟩
 refine⟨⟨fun p hp => ?_,[sl b 32 64],rfl,by omega,fun j x hx => ?_⟩,fun j hj pc off len cap ex hp => ?_,?_⟩
 ·simp only[List.mem_cons,List.not_mem_nil,or_false] at hp
  subst hp
  exact⟨_,_,_,_,_,rfl,flat_by8 _⟩
 ·cases j with
  | zero =>
   obtain rfl:sl b 32 64=x:=Option.some.inj hx
   exact⟨by rw[ha.1]; omega,_,_,_,_,_,rfl,ha⟩
  | succ j=>cases hx
 ·cases j with
  | zero=>cases hp;rw[List.length_map,hb]; omega
  | succ j=>omega
 ·rw[partsL_one,partA_ros ha]
  unfold textL
  have:=ha.1
  simp[bytesN_length]
  omega
theorem pb_fst{l:List UInt8}{n:Nat}(h:n≤l.length)(hl:n<137438953472):PB (l.map by8) 0 n :=
 ⟨flat_by8 _,by rw[List.length_map]; omega,hl,l.take n,by rw[List.length_take]; omega,by rw[List.drop_zero,List.map_take]⟩
theorem mt_eq{ks:List AV}{i:Nat}{k b:List UInt8}(hk:k.length=32)(h:(ks.drop (0+i*32)).take 32=k.map by8)(hb:b.length=96) :
  mI hf0 ks (Int.ofNat i) b=(bkL k b).map by8∧mX hf0 ks (Int.ofNat i) b=(bkL k b).map by8∧tI hf0 ks (Int.ofNat i) b=(flT k (sl (bkL k b) 32 64)).map by8∧tX hf0 ks (Int.ofNat i) b=(flT k (sl (bkL k b) 32 64)).map by8∧uI hf0 ks (Int.ofNat i) b=(flT k (sl (bkL k b) 32 64)).map by8:=by
 obtain⟨e0,e1,e2,e3⟩:=kI_eq hk h
 have m1:mI hf0 ks (Int.ofNat i) b=(bkL k b).map by8:=by
  unfold mI
  rw[e3]
  exact hmask_eq _ _ _
 have m2:mX hf0 ks (Int.ofNat i) b=(bkL k b).map by8:=by
  unfold mX
  rw[e0]
  exact hmask_eq _ _ _
 have hp:partA (.ros ((bkL k b).map by8) 32 64 64 false)=sl (bkL k b) 32 64:=rd_sl
 have t1:tI hf0 ks (Int.ofNat i) b=(flT k (sl (bkL k b) 32 64)).map by8:=by
  unfold tI
  rw[m1,e2,hp]
  exact htag_eq _ _ _
 have t2:tX hf0 ks (Int.ofNat i) b=(flT k (sl (bkL k b) 32 64)).map by8:=by
  unfold tX
  rw[m2,e0,hp]
  exact htag_eq _ _ _
 refine⟨m1,m2,t1,t2,?_⟩
 unfold uI
 rw[t1,spl32 (flT_len _ _)]
theorem tr_eq{b:List UInt8}:tr0.tr (b.map by8) 32 64=lenX b:=by
 show trN (rdB (b.map by8) 32 64) 64=_
 rw[rd_sl]
 rfl
theorem lenX_le(b:List UInt8):lenX b≤64:=trN_le _ _
theorem ptr_b{b:List UInt8}(hb:b.length=96):PTr (b.map by8) 32 64 64:=⟨Nat.le_refl _,by omega,sl b 32 64,sl_length (by omega),by unfold sl;rw[←List.map_drop,←List.map_take]⟩
section
variable {ks pc:List AV}{n off:Nat}{L:List (List UInt8)}{b:List UInt8}
theorem vmd5a(hL:ShAt ks 0 n L)(hr:n*32≤ks.length){i:Nat}(hi:i<n){k:List UInt8}(hk:L[i]? = some k)(hb:BytesAt pc off 96 b)(pb:PB pc off 96)(cp:Nat)(ex:Bool)(c:Nat)(e:Bool)(Q:Ex→Fr→Hl→Prop)
  (h1:hitX k (bkL k b)=true→∀ X Y Z,Q .ret (frd5 (.slc 2 0 96 96 1) ks n c e (Int.ofNat i) (.int .i64 (Int.ofNat i)) (.slc 2 32 (lenX (bkL k b)) 64 1)) [.cells X,.cells Y,.cells ((bkL k b).map by8),.cells Z])
  (h2:hitX k (bkL k b)=false→∀ X Y Z,Q .norm (frd5 (.slc 2 0 96 96 1) ks n c e (Int.ofNat (i+1)) (.int .i64 (Int.ofNat 0)) .nils) [.cells X,.cells Y,.cells ((bkL k b).map by8),.cells Z]) (hn:n<4294967296) :
  vm (vcA kdS (cnU tr0 bz0 oz0 of1 hf0) noLn) ops0 tabU 100 0 lpd5 (frd5 (.ros pc off 96 cp ex) ks n c e (Int.ofNat i) (.int .i64 (Int.ofNat 0)) .nils) [] [] (bodyX mkd5 Q):=by
 obtain⟨k32,hk0⟩:=hL.2 i k hk
 have hl:=hb.1
 have hbl:=bk_len k b
 have hi32:(i+1)*32≤n*32:=Nat.mul_le_mul_right 32 hi
 obtain⟨e0,e1,e2,e3⟩:=kI_eq k32 hk0
 obtain⟨m1,_,t1,_,u1⟩:=mt_eq k32 hk0 hl
 have ft:=flT_len k (sl (bkL k b) 32 64)
 have er1:rdB ((flT k (sl (bkL k b) 32 64)).map by8) 0 32=flT k (sl (bkL k b) 32 64):=rdW ft
 have er2:rdB ((bkL k b).map by8) 0 32=sl (bkL k b) 0 32:=rd_sl
 rw[vcld5a,rdB_eq hb,e0,e1,e2,e3,m1,t1,u1,er1,er2,tr_eq,add1 (by omega)]
 refine Br.t (by rw[nLss]; exact decide_eq_true hi) (Chk.mk (by rw[nInr]; exact decide_eq_true hi) (ckle (by first|(rw[nAdr,nPlus,nLen]; omega)|(rw[nAdr,nLen]; omega)|(rw[nLen]; omega)) (ckeq (by rw[nLen,List.length_map]; omega) (ckle (by rw[nLen,List.length_map]; omega) (ckle (by rw[nLen,List.length_map]; omega) ⟨⟨pkey k k32,pb⟩,ckle (by rw[nLen,List.length_map]; omega) ⟨⟨pkey k k32,ptag1 (by omega)⟩,ckeq (by rw[nLen,List.length_map]; omega) (ckle (by rw[nLen,List.length_map]; omega) ⟨⟨pb_whole _ 32 (by omega) (by omega),?_⟩,?_⟩)⟩⟩)))))
 ·exact pb_fst (by omega) (by omega)
 ·show Br (hitX k (bkL k b)) _ _
  refine Br.mk (fun h=>⟨⟨rfl,flat_by8 _,ptr_b (by omega)⟩,h1 h _ _ _⟩) (fun h=>h2 h _ _ _)
theorem vmd5b(hL:ShAt ks 0 n L)(hr:n*32≤ks.length){i:Nat}(hi:i<n){k:List UInt8}(hk:L[i]? = some k)(hb:b.length=96)(c:Nat)(e:Bool)(Q:Ex→Fr→Hl→Prop)
  (h1:hitX k (bkL k b)=true→∀ W X Y Z,Q .ret (frd5 (.slc 3 0 96 96 1) ks n c e (Int.ofNat i) (.int .i64 (Int.ofNat i)) (.slc 3 32 (lenX (bkL k b)) 64 1)) [.cells W,.cells X,.cells Y,.cells ((bkL k b).map by8),.cells Z])
  (h2:hitX k (bkL k b)=false→∀ W X Y Z,Q .norm (frd5 (.slc 3 0 96 96 1) ks n c e (Int.ofNat (i+1)) (.int .i64 (Int.ofNat 0)) .nils) [.cells W,.cells X,.cells Y,.cells ((bkL k b).map by8),.cells Z]) (hn:n<4294967296) :
  vm (vcA kdS (cnU tr0 bz0 oz0 of1 hf0) noLn) ops0 tabU 100 0 lpd5 (frd5 (.slc 0 0 96 96 1) ks n c e (Int.ofNat i) (.int .i64 (Int.ofNat 0)) .nils) [.cells (b.map by8)] [] (bodyX mkd5 Q):=by
 obtain⟨k32,hk0⟩:=hL.2 i k hk
 have hbl:=bk_len k b
 have hi32:(i+1)*32≤n*32:=Nat.mul_le_mul_right 32 hi
 obtain⟨e0,e1,e2,e3⟩:=kI_eq k32 hk0
 obtain⟨m1,_,t1,_,u1⟩:=mt_eq k32 hk0 hb
 have ft:=flT_len k (sl (bkL k b) 32 64)
 have er1:rdB ((flT k (sl (bkL k b) 32 64)).map by8) 0 32=flT k (sl (bkL k b) 32 64):=rdW ft
 have er2:rdB ((bkL k b).map by8) 0 32=sl (bkL k b) 0 32:=rd_sl
 have er3:rdB (b.map by8) 0 96=b:=rdW hb
 rw[vcld5b,er3,e0,e1,e2,e3,m1,t1,u1,er1,er2,tr_eq,add1 (by omega)]
 refine Br.t (by rw[nLss]; exact decide_eq_true hi) (Chk.mk (by rw[nInr]; exact decide_eq_true hi) (ckle (by first|(rw[nAdr,nPlus,nLen]; omega)|(rw[nAdr,nLen]; omega)|(rw[nLen]; omega)) (ckeq (by rw[nLen,List.length_map]; omega) (ckle (by rw[nLen,List.length_map]; omega) (ckle (by rw[nLen,List.length_map]; omega) ⟨⟨pkey k k32,pb_whole _ 96 (by omega) (by omega)⟩,ckle (by rw[nLen,List.length_map]; omega) ⟨⟨pkey k k32,ptag1 (by omega)⟩,ckeq (by rw[nLen,List.length_map]; omega) (ckle (by rw[nLen,List.length_map]; omega) ⟨⟨pb_whole _ 32 (by omega) (by omega),?_⟩,?_⟩)⟩⟩)))))
 ·exact pb_fst (by omega) (by omega)
 ·show Br (hitX k (bkL k b)) _ _
  refine Br.mk (fun h=>⟨⟨rfl,flat_by8 _,ptr_b (by omega)⟩,h1 h _ _ _ _⟩) (fun h=>h2 h _ _ _ _)
theorem cut0{b:List UInt8}:oz0.cut (b.map by8) 0=(sl b 0 32).map by8:=by
 show(rdB (b.map by8) 0 32).map by8=_
 rw[rd_sl]
theorem sub_add{z:Nat}:ops0.sub (ops0.nat (Int.ofNat (ops0.add 32 z))) 32=z:=by
 show 32+z - 32=z
 omega
theorem inb_nn{a m:Nat}(h:a≤m):ops0.inb (Int.ofNat a) m=true:=by rw[nInb]; exact decide_eq_true h
theorem vmd6a(hL:ShAt ks 0 n L)(hr:n*32≤ks.length){i:Nat}(hi:i<n){k:List UInt8}(hk:L[i]? = some k)(hb:BytesAt pc off 96 b)(pb:PB pc off 96)(cp:Nat)(ex:Bool)(c:Nat)(e:Bool)(Q:Ex→Fr→Hl→Prop)
  (h1:hitX k (bkL k b)=true→Q .ret (frd6 (.slc 0 0 96 96 1) ks n c e (Int.ofNat i) (.int .i64 (Int.ofNat i)) (.slc 0 32 (lenX (bkL k b)) 64 1)) [.cells ((bkL k b).map by8)])
  (h2:hitX k (bkL k b)=false→Q .norm (frd6 (.slc 0 0 96 96 1) ks n c e (Int.ofNat (i+1)) (.int .i64 (Int.ofNat 0)) .nils) [.cells ((bkL k b).map by8)]) (hn:n<4294967296) :
  vm (vcA kdS (cnU tr0 bz0 oz0 of1 hf0) (lnd6b tr0)) ops0 noTab 100 0 lpd6 (frd6 (.ros pc off 96 cp ex) ks n c e (Int.ofNat i) (.int .i64 (Int.ofNat 0)) .nils) [] [] (bodyX mkd6 Q):=by
 obtain⟨k32,hk0⟩:=hL.2 i k hk
 have hl:=hb.1
 have hbl:=bk_len k b
 have hi32:(i+1)*32≤n*32:=Nat.mul_le_mul_right 32 hi
 obtain⟨e0,_,_,_⟩:=kI_eq k32 hk0
 obtain⟨_,m1,_,t1,_⟩:=mt_eq k32 hk0 hl
 have ft:=flT_len k (sl (bkL k b) 32 64)
 have fl:(sl (bkL k b) 0 32).length=32:=sl_length (by omega)
 have hx:=lenX_le (bkL k b)
 have hinr:ops0.inr (Int.ofNat i) n=true:=by rw[nInr]; exact decide_eq_true hi
 rw[vcld6a,rdB_eq hb,e0,m1,t1,cut0,ext32' ft,ext32' fl,tr_eq,sub_add,add1 (by omega)]
 refine Br.t (by rw[nOfn,nLss]; exact decide_eq_true hi) (Chk.mk hinr (ckle (by first|(rw[nAdr,nPlus,nLen]; omega)|(rw[nAdr,nLen]; omega)|(rw[nLen]; omega)) ⟨⟨pkey k k32,pb⟩,Chk.mk hinr (ckle (by first|(rw[nAdr,nPlus,nLen]; omega)|(rw[nAdr,nLen]; omega)|(rw[nLen]; omega)) ⟨⟨pkey k k32,ptag1 (by omega)⟩,⟨pb_whole _ 96 (by omega) (by omega),ckeq (by rw[nLen,List.length_map]; omega) (ckeq (by rw[nLen,List.length_map]; omega) (ckle (by rw[nLen,List.length_map]; omega) (ckle (by rw[nLen,List.length_map]; omega) ?_)))⟩⟩)⟩))
 by_cases hh:flT k (sl (bkL k b) 32 64)=sl (bkL k b) 0 32
 ·rw[hh]
  exact intEx2 ⟨⟨rfl,rfl,rfl,rfl,ptr_b (by omega)⟩,Chk.mk (inb_nn (by rw[nPlus]; omega)) (Chk.mk (inb_nn (show 32≤32+lenX (bkL k b) by omega)) (h1 (decide_eq_true hh)))⟩
 ·exact neEx hh (h2 (decide_eq_false hh))
theorem vmd6(hL:ShAt ks 0 n L)(hr:n*32≤ks.length){i:Nat}(hi:i<n){k:List UInt8}(hk:L[i]? = some k)(hb:b.length=96)(c:Nat)(e:Bool)(Q:Ex→Fr→Hl→Prop)
  (h1:hitX k (bkL k b)=true→∀ W,Q .ret (frd6 (.slc 1 0 96 96 1) ks n c e (Int.ofNat i) (.int .i64 (Int.ofNat i)) (.slc 1 32 (lenX (bkL k b)) 64 1)) [.cells W,.cells ((bkL k b).map by8)])
  (h2:hitX k (bkL k b)=false→∀ W,Q .norm (frd6 (.slc 1 0 96 96 1) ks n c e (Int.ofNat (i+1)) (.int .i64 (Int.ofNat 0)) .nils) [.cells W,.cells ((bkL k b).map by8)]) (hn:n<4294967296) :
  vm (vcA kdS (cnU tr0 bz0 oz0 of1 hf0) (lnd6b tr0)) ops0 noTab 100 0 lpd6 (frd6 (.slc 0 0 96 96 1) ks n c e (Int.ofNat i) (.int .i64 (Int.ofNat 0)) .nils) [.cells (b.map by8)] [] (bodyX mkd6 Q):=by
 obtain⟨k32,hk0⟩:=hL.2 i k hk
 have hbl:=bk_len k b
 have hi32:(i+1)*32≤n*32:=Nat.mul_le_mul_right 32 hi
 obtain⟨e0,_,_,_⟩:=kI_eq k32 hk0
 obtain⟨_,m1,_,t1,_⟩:=mt_eq k32 hk0 hb
 have ft:=flT_len k (sl (bkL k b) 32 64)
 have fl:(sl (bkL k b) 0 32).length=32:=sl_length (by omega)
 have hx:=lenX_le (bkL k b)
 have hinr:ops0.inr (Int.ofNat i) n=true:=by rw[nInr]; exact decide_eq_true hi
 have er3:rdB (b.map by8) 0 96=b:=rdW hb
 rw[vcld6,er3,e0,m1,t1,cut0,ext32' ft,ext32' fl,tr_eq,sub_add,add1 (by omega)]
 refine Br.t (by rw[nOfn,nLss]; exact decide_eq_true hi) (Chk.mk hinr (ckle (by first|(rw[nAdr,nPlus,nLen]; omega)|(rw[nAdr,nLen]; omega)|(rw[nLen]; omega)) ⟨⟨pkey k k32,pb_whole _ 96 (by omega) (by omega)⟩,Chk.mk hinr (ckle (by first|(rw[nAdr,nPlus,nLen]; omega)|(rw[nAdr,nLen]; omega)|(rw[nLen]; omega)) ⟨⟨pkey k k32,ptag1 (by omega)⟩,⟨pb_whole _ 96 (by omega) (by omega),ckeq (by rw[nLen,List.length_map]; omega) (ckeq (by rw[nLen,List.length_map]; omega) (ckle (by rw[nLen,List.length_map]; omega) (ckle (by rw[nLen,List.length_map]; omega) ?_)))⟩⟩)⟩))
 by_cases hh:flT k (sl (bkL k b) 32 64)=sl (bkL k b) 0 32
 ·rw[hh]
  exact intEx2 ⟨⟨rfl,rfl,rfl,rfl,ptr_b (by omega)⟩,Chk.mk (inb_nn (by rw[nPlus]; omega)) (Chk.mk (inb_nn (show 32≤32+lenX (bkL k b) by omega)) (h1 (decide_eq_true hh) _))⟩
 ·exact neEx hh (h2 (decide_eq_false hh) _)
end
end
end Go.Proofs.Vm

namespace Go.Proofs.Vm
open Go.Vm
set_option maxRecDepth 100000
noncomputable section
def mkd5t:List Bool := [true,true,true,true,false,false,false,true,true,true,true,true,true,true,false,false,false,true,true,true,true,true,true,true,true,true,true,true,true,true,true,true,true,true,true,true,true,true]
def mkd6t:List Bool := [false,true,true,true,false,false,false,false,true,true,true,true,true,true,true,true,true,true,true,true,true,true,true,true,true,true,true,true,true,true,true,true,true,true,true,true,true,true,true,true,true,true,true,true,true,true,true,true,true,true,true]
def PUn(ks:List AV)(n:Nat)(pc:List AV)(off:Nat):Prop:=PSh ks 0 n∧n<4294967296∧PB pc off 96
structure UF where
 hit:List AV→Nat→List AV→Nat→Bool
 ix:List AV→Nat→List AV→Nat→Nat
 ln:List AV→Nat→List AV→Nat→Nat
 bs:List AV→Nat→List AV→Nat→List AV
def lnd5(U:UF):LnF:=fun n0 b fr H=>match slot fr 1,slot fr 14,H with
 | .ros pc off 96 cp ex,.ros ks 0 n c e,[]=>some (n0=0∧VCis b lpd5∧forget mkd5 fr=frd5 (.ros pc off 96 cp ex) ks n c e (Int.ofNat 0) (.int .i64 (Int.ofNat 0)) .nils∧PUn ks n pc off,
  .cond (U.hit ks n pc off) (.ok .ret (frd5 .top ks n c e (Int.ofNat (U.ix ks n pc off)) (.int .i64 (Int.ofNat (U.ix ks n pc off))) (.slc 0 32 (U.ln ks n pc off) 64 1)) [.cells (U.bs ks n pc off)])
   (.ok (.exit 0) (frd5 .top ks n c e (Int.ofNat n) (.int .i64 (Int.ofNat 0)) .nils) []))
 | _,_,_=>none
def lnd6(U:UF):LnF:=fun n0 b fr H=>match slot fr 1,slot fr 0,H with
 | .ros pc off 96 cp ex,.ros ks 0 n c e,[]=>some (n0=0∧VCis b lpd6∧forget mkd6 fr=frd6 (.ros pc off 96 cp ex) ks n c e (Int.ofNat 0) (.int .i64 (Int.ofNat 0)) .nils∧PUn ks n pc off,
  .cond (U.hit ks n pc off) (.ok .ret (frd6 .top ks n c e (Int.ofNat (U.ix ks n pc off)) (.int .i64 (Int.ofNat (U.ix ks n pc off))) (.slc 0 32 (U.ln ks n pc off) 64 1)) [.cells (U.bs ks n pc off)])
   (.ok (.exit 0) (frd6 .top ks n c e (Int.ofNat n) (.int .i64 (Int.ofNat 0)) .nils) []))
 | _,_,_=>none
theorem vcd5(U:UF)(ks pc:List AV)(off cp:Nat)(ex:Bool)(n c:Nat)(e:Bool)(Q:AV→Hl→Prop) :
  (vcall (vcA kdS noCn (lnd5 U)) ops0 (tabOne 5 vf5) 200 vf5 [.ros ks 0 n c e,.ros pc off 96 cp ex] [] (fun r H _=>Q r H)) =
 (((((0:Nat)=0) ∧
 ((VCis lpd5 lpd5) ∧
 ((((.top::(.ros pc off 96 cp ex)::tp 2 ((.int .i64 (.ofNat 0)) :: .nils::(.int .i64 (.ofNat 0))::tp 7 ((.ros ks 0 n c e)::(.int .i64 (ops0.ofn n))::(.int .i64 (.ofNat 0))::tp 21 ([])))):Fr)=(.top::(.ros pc off 96 cp ex)::tp 2 ((.int .i64 (.ofNat 0)) :: .nils::(.int .i64 (.ofNat 0))::tp 7 ((.ros ks 0 n c e)::(.int .i64 (.ofNat n))::(.int .i64 (.ofNat 0))::tp 21 ([]))))) ∧
 (PUn ks n pc off)))) ∧
 (Br (UF.hit U ks n pc off)
 (Q (.tup [(.int .i64 (.ofNat (UF.ix U ks n pc off))),(.slc 0 32 (UF.ln U ks n pc off) 64 1),(.int .i64 (.ofNat 0))]) [(.cells (UF.bs U ks n pc off))])
 (Q (.tup [(.int .i64 (.ofNat 0)),.nils,(.int .i64 (.ofNat 4))]) [])))):=by kernel_rfl
theorem vcd6(U:UF)(ks pc:List AV)(off cp:Nat)(ex:Bool)(n c:Nat)(e:Bool)(Q:AV→Hl→Prop) :
  (vcall (vcA kdS noCn (lnd6 U)) ops0 (tabOne 6 vf6) 200 vf6 [.ros ks 0 n c e,.ros pc off 96 cp ex] [] (fun r H _=>Q r H)) =
 (((((0:Nat)=0) ∧
 ((VCis lpd6 lpd6) ∧
 (((((.ros ks 0 n c e)::(.ros pc off 96 cp ex)::tp 2 ((.int .i64 (.ofNat 0)) :: .nils::(.int .i64 (.ofNat 0))::(.int .i64 (.ofNat 0))::tp 43 ([]))):Fr)=((.ros ks 0 n c e)::(.ros pc off 96 cp ex)::tp 2 ((.int .i64 (.ofNat 0)) :: .nils::(.int .i64 (.ofNat 0))::(.int .i64 (.ofNat 0))::tp 43 ([])))) ∧
 (PUn ks n pc off)))) ∧
 (Br (UF.hit U ks n pc off)
 (Q (.tup [(.int .i64 (.ofNat (UF.ix U ks n pc off))),(.slc 0 32 (UF.ln U ks n pc off) 64 1),(.int .i64 (.ofNat 0))]) [(.cells (UF.bs U ks n pc off))])
 (Q (.tup [(.int .i64 (.ofNat 0)),.nils,(.int .i64 (.ofNat 4))]) [])))):=by kernel_rfl
theorem body_wx{P:Program}{g:Kd→Bool}{C:CnF}(hC:CnOK P C){E:LnF}(hE:LnOK P E){T:Nat→Option VF}(hT:∀ f vf,T f=some vf→FnOK P f vf){n n0:Nat}{b:VC}{fr fr0:Fr}{H H0:Hl}{ex0:Ex}{bs:List Bool}{Q:Ex→Fr→Hl→Prop}
  (h:vm (vcA g C E) ops0 T n n0 b fr H [] (bodyX bs Q)) (h0:n0≤H.length) (hw:∀ ex fr1 H1,n0≤H1.length→Q ex fr1 H1→ex=ex0∧Weak n0 fr1 H1 fr0 H0):BodyTo P n0 b fr H ex0 fr0 H0:=by
 intro c hc
 subst hc
 obtain⟨ex,fr1,H1,lg1,hg,e⟩:=(vm_sound (vcA_fine hC hE) hT n).1 c n0 fr H [] _ h0 h
 obtain⟨rfl,hk⟩:=hw ex (forget bs fr1) H1 hg.grow e
 exact⟨_,hg.post ((Weak.forget hg.grow bs).trans hk)⟩
theorem body6b{ks cs:List AV}{lb:List UInt8}(hb:BytesAt cs 32 64 lb)(n c:Nat)(e:Bool)(i:Int){k:Nat}(hk:k+1≤64)(hz:lb.getD k 0=0) :
  BodyTo Tryd.prog 0 lpd6b (frd6b (.ros ks 0 n c e) (.slc 0 0 96 96 1) i (Int.ofNat (32+(k+1)))) [.cells cs] .norm (frd6b (.ros ks 0 n c e) (.slc 0 0 96 96 1) i (Int.ofNat (32+k))) [.cells cs]:=by
 have hg:=hb.get (j:=k) (by omega)
 have hlk:k<lb.length:=by rw[hb.1]; omega
 have hz:lb[k]=0:=by rw[List.getD_eq_getElem?_getD,List.getElem?_eq_getElem hlk] at hz;exact hz
 rw[hz] at hg
 have e1:ops0.bin .sub .i64 (Int.ofNat (32+(k+1))) (Int.ofNat 1)=Int.ofNat (32+k):=by rw[nSub (by omega) (by omega)]; congr 1
 refine body_x (noCn_ok _) (noLn_ok _) (noTab_ok _) (n:=100) (g:=kdYes) (bs:=mkd6b) ?_ (by simp)
 rw[vcld6b,e1,nAdr,nInr,Nat.mul_one,Nat.zero_add]
 exact Br.t (by rw[nGtr]; exact decide_eq_true (by omega)) (Chk.mk (decide_eq_true (by omega)) ⟨Int.ofNat 0,Nth.mk hg,Br.t rfl ⟨rfl,rfl,rfl⟩⟩)
theorem body6c{ks bs cs:List AV}{lb:List UInt8}(hb:BytesAt cs 32 64 lb)(n c:Nat)(e:Bool)(i:Int){k:Nat}(hk:k+1≤64)(hz:lb.getD k 0=0) :
  BodyTo Tryd.prog 0 lpd6b (frd6b (.ros ks 0 n c e) (.slc 1 0 96 96 1) i (Int.ofNat (32+(k+1)))) [.cells bs,.cells cs] .norm (frd6b (.ros ks 0 n c e) (.slc 1 0 96 96 1) i (Int.ofNat (32+k))) [.cells bs,.cells cs]:=by
 have hg:=hb.get (j:=k) (by omega)
 have hlk:k<lb.length:=by rw[hb.1]; omega
 have hz:lb[k]=0:=by rw[List.getD_eq_getElem?_getD,List.getElem?_eq_getElem hlk] at hz;exact hz
 rw[hz] at hg
 have e1:ops0.bin .sub .i64 (Int.ofNat (32+(k+1))) (Int.ofNat 1)=Int.ofNat (32+k):=by rw[nSub (by omega) (by omega)]; congr 1
 refine body_x (noCn_ok _) (noLn_ok _) (noTab_ok _) (n:=100) (g:=kdYes) (bs:=mkd6b) ?_ (by simp)
 rw[vcld6c,e1,nAdr,nInr,Nat.mul_one,Nat.zero_add]
 exact Br.t (by rw[nGtr]; exact decide_eq_true (by omega)) (Chk.mk (decide_eq_true (by omega)) ⟨Int.ofNat 0,Nth.mk hg,Br.t rfl ⟨rfl,rfl,rfl⟩⟩)
theorem loop6b{ks cs:List AV}{lb:List UInt8}(hb:BytesAt cs 32 64 lb)(n c:Nat)(e:Bool)(i:Int):∀ lg,LoopTo Tryd.prog 0 lpd6b (frd6b (.ros ks 0 n c e) (.slc 0 0 96 96 1) i (Int.ofNat 96)) [.cells cs] lg (.exit 2) (frd6b (.ros ks 0 n c e) (.slc 0 0 96 96 1) i (Int.ofNat (32+trN lb 64))) [.cells cs] (List.range 0++lg):=by
 intro lg
 have hle:=trN_le lb 64
 have h:=loop_chain (P:=Tryd.prog) (n0:=0) (b:=lpd6b) (ex := .exit 2) (fr':=frd6b (.ros ks 0 n c e) (.slc 0 0 96 96 1) i (Int.ofNat (32+trN lb 64))) (H' := [.cells cs]) (by intro h;cases h) (fun j=>(frd6b (.ros ks 0 n c e) (.slc 0 0 96 96 1) i (Int.ofNat (32+(64 - j))),[.cells cs])) (64 - trN lb 64) 0 (fun j _ hj => ?_) ?_ lg
 ·exact h
 ·have e0:64 - j=(64 - (j+1))+1:=by omega
  have hm:=trN_mid (s:=lb) (k:=64) j (by omega)
  rw[e0] at hm
  have hs:=trN_step (s:=lb) (k:=64 - (j+1)) (by omega)
  simp only[e0]
  exact body6b hb n c e i (by omega) hs.1
 ·have e0:64 - (0+(64 - trN lb 64))=trN lb 64:=by omega
  simp only[e0]
  refine body_x (noCn_ok _) (noLn_ok _) (noTab_ok _) (n:=100) (g:=kdYes) (bs:=mkd6b) ?_ (by simp)
  have hm:=trN_mid (s:=lb) (k:=64) (64 - trN lb 64) (by omega)
  rw[show 64 - (64 - trN lb 64)=trN lb 64 by omega] at hm
  rw[vcld6b]
  cases hk:trN lb 64 with
  | zero=>exact Br.f (by rw[nGtr]; exact decide_eq_false (by omega)) ⟨rfl,rfl,rfl⟩
  | succ k =>
   rw[hk] at hm hle
   have hz:=trN_stop hm
   have hg:=hb.get (j:=k) (by omega)
   have hlk:k<lb.length:=by rw[hb.1]; omega
   have hz:lb[k]≠0:=by rw[List.getD_eq_getElem?_getD,List.getElem?_eq_getElem hlk] at hz;exact hz
   have e1:ops0.bin .sub .i64 (Int.ofNat (32+(k+1))) (Int.ofNat 1)=Int.ofNat (32+k):=by rw[nSub (by omega) (by omega)]; congr 1
   rw[e1,nAdr,nInr,Nat.mul_one,Nat.zero_add]
   refine Br.t (by rw[nGtr]; exact decide_eq_true (by omega)) (Chk.mk (decide_eq_true (by omega)) ⟨Int.ofNat lb[k].toNat,Nth.mk hg,Br.f ?_ ⟨rfl,rfl,rfl⟩⟩)
   rw[nEql]
   exact decide_eq_false fun h0=>hz (UInt8.toNat.inj h0)
theorem loop6c{ks bs cs:List AV}{lb:List UInt8}(hb:BytesAt cs 32 64 lb)(n c:Nat)(e:Bool)(i:Int):∀ lg,LoopTo Tryd.prog 0 lpd6b (frd6b (.ros ks 0 n c e) (.slc 1 0 96 96 1) i (Int.ofNat 96)) [.cells bs,.cells cs] lg (.exit 2) (frd6b (.ros ks 0 n c e) (.slc 1 0 96 96 1) i (Int.ofNat (32+trN lb 64))) [.cells bs,.cells cs] (List.range 0++lg):=by
 intro lg
 have hle:=trN_le lb 64
 have h:=loop_chain (P:=Tryd.prog) (n0:=0) (b:=lpd6b) (ex := .exit 2) (fr':=frd6b (.ros ks 0 n c e) (.slc 1 0 96 96 1) i (Int.ofNat (32+trN lb 64))) (H' := [.cells bs,.cells cs]) (by intro h;cases h) (fun j=>(frd6b (.ros ks 0 n c e) (.slc 1 0 96 96 1) i (Int.ofNat (32+(64 - j))),[.cells bs,.cells cs])) (64 - trN lb 64) 0 (fun j _ hj => ?_) ?_ lg
 ·exact h
 ·have e0:64 - j=(64 - (j+1))+1:=by omega
  have hm:=trN_mid (s:=lb) (k:=64) j (by omega)
  rw[e0] at hm
  have hs:=trN_step (s:=lb) (k:=64 - (j+1)) (by omega)
  simp only[e0]
  exact body6c hb n c e i (by omega) hs.1
 ·have e0:64 - (0+(64 - trN lb 64))=trN lb 64:=by omega
  simp only[e0]
  refine body_x (noCn_ok _) (noLn_ok _) (noTab_ok _) (n:=100) (g:=kdYes) (bs:=mkd6b) ?_ (by simp)
  have hm:=trN_mid (s:=lb) (k:=64) (64 - trN lb 64) (by omega)
  rw[show 64 - (64 - trN lb 64)=trN lb 64 by omega] at hm
  rw[vcld6c]
  cases hk:trN lb 64 with
  | zero=>exact Br.f (by rw[nGtr]; exact decide_eq_false (by omega)) ⟨rfl,rfl,rfl⟩
  | succ k =>
   rw[hk] at hm hle
   have hz:=trN_stop hm
   have hg:=hb.get (j:=k) (by omega)
   have hlk:k<lb.length:=by rw[hb.1]; omega
   have hz:lb[k]≠0:=by rw[List.getD_eq_getElem?_getD,List.getElem?_eq_getElem hlk] at hz;exact hz
   have e1:ops0.bin .sub .i64 (Int.ofNat (32+(k+1))) (Int.ofNat 1)=Int.ofNat (32+k):=by rw[nSub (by omega) (by omega)]; congr 1
   rw[e1,nAdr,nInr,Nat.mul_one,Nat.zero_add]
   refine Br.t (by rw[nGtr]; exact decide_eq_true (by omega)) (Chk.mk (decide_eq_true (by omega)) ⟨Int.ofNat lb[k].toNat,Nth.mk hg,Br.f ?_ ⟨rfl,rfl,rfl⟩⟩)
   rw[nEql]
   exact decide_eq_false fun h0=>hz (UInt8.toNat.inj h0)
theorem lnd6b_ok:LnOK Tryd.prog (lnd6b tr0):=by
 intro n0 b fr H p x e hn0 hp lg
 unfold lnd6b at e
 split at e<;>cases e
 ·rename_i ks n c e i m cs h1 h2 h3 h4
  obtain⟨rfl,hb,hf,rfl,_,_,lb,hl⟩:=hp
  have hb:b=lpd6b:=hb
  subst hb
  refine LoopTo.pre (Weak.forget (by simp) mkd6b) (fun lg => ?_) lg
  rw[hf]
  have e9:tr0.tr cs 32 64=trN lb 64:=by
   show trN (rdB cs 32 64) 64=_
   rw[rdB_eq hl]
  show LoopTo Tryd.prog 0 lpd6b _ _ lg (.exit 2) (frd6b _ _ _ (Int.ofNat (32+tr0.tr cs 32 64))) _ _
  rw[e9]
  exact loop6b hl _ _ _ _ lg
 ·rename_i ks n c e i m bs cs h1 h2 h3 h4
  obtain⟨rfl,hb,hf,rfl,_,_,lb,hl⟩:=hp
  have hb:b=lpd6b:=hb
  subst hb
  refine LoopTo.pre (Weak.forget (by simp) mkd6b) (fun lg => ?_) lg
  rw[hf]
  have e9:tr0.tr cs 32 64=trN lb 64:=by
   show trN (rdB cs 32 64) 64=_
   rw[rdB_eq hl]
  show LoopTo Tryd.prog 0 lpd6b _ _ lg (.exit 2) (frd6b _ _ _ (Int.ofNat (32+tr0.tr cs 32 64))) _ _
  rw[e9]
  exact loop6c hl _ _ _ _ lg
end
end Go.Proofs.Vm

namespace Go.Proofs.Vm
open Go.Vm
set_option maxRecDepth 100000
noncomputable section
def bkI(L:List (List UInt8))(b:List UInt8):Nat→List UInt8
 | 0=>b
 | i+1=>bkL (L.getD i []) (bkI L b i)
theorem bkI_len(L:List (List UInt8))(b:List UInt8):∀ i,(bkI L b i).length=b.length
 | 0=>rfl
 | i+1=>by
  show(bkL _ _).length=_
  rw[bk_len,bkI_len L b i]
def hitI(L:List (List UInt8))(b:List UInt8)(i:Nat):Bool:=hitX (L.getD i []) (bkI L b (i+1))
def fstH(h:Nat→Bool):Nat→Nat→Nat
 | i,0=>i
 | i,d+1=>match h i with
  | false=>fstH h (i+1) d
  | true=>i
theorem fstH_spec(h:Nat→Bool):∀ (d i:Nat),i≤fstH h i d∧fstH h i d≤i+d∧(∀ j,i≤j→j<fstH h i d→h j=false)∧(fstH h i d<i+d→h (fstH h i d)=true)
 | 0,i=>⟨Nat.le_refl _,Nat.le_refl _,fun j h1 h2=>by simp only[fstH] at h2;omega,fun h=>by simp only[fstH] at h;omega⟩
 | d+1,i=>by
  obtain⟨h1,h2,h3,h4⟩:=fstH_spec h d (i+1)
  cases hi:h i with
  | false =>
   simp only[fstH,hi]
   refine⟨by omega,by omega,fun j k1 k2 => ?_,fun hl=>h4 (by omega)⟩
   rcases Nat.eq_or_lt_of_le k1 with rfl|k1
   ·exact hi
   ·exact h3 j k1 k2
  | true =>
   simp only[fstH,hi]
   exact⟨Nat.le_refl _,by omega,fun j k1 k2=>by omega,fun _=>by first|exact hi|trivial⟩
theorem tabU_ok:∀ f vf,tabU f=some vf→FnOK Tryd.prog f vf:=by
 intro f vf h
 unfold tabU at h
 split at h<;>cases h
 exact ok12
theorem at_key{ks:List AV}{n:Nat}{L:List (List UInt8)}(hL:ShAt ks 0 n L){i:Nat}(hi:i<n):∃ k,L[i]? = some k∧L.getD i []=k:=by
 have hl:i<L.length:=by rw[hL.1]; exact hi
 exact⟨L[i],List.getElem?_eq_getElem hl,by rw[List.getD_eq_getElem?_getD,List.getElem?_eq_getElem hl]; rfl⟩
theorem call_nologD{P:Program}{f:Nat}{vals:List AV}{r:AV}{H':Hl}{lg:List Nat}(hc:CallTo P f vals [] r H' lg):CallTo P f vals [] r H' []:=⟨hc.real,hc.grow,fun b hb=>by simp at hb,hc.does⟩
def uf0:UF where
 hit ks n pc off:=decide (fstH (hitI (shA ks 0 n) (rdB pc off 96)) 0 n<n)
 ix ks n pc off:=fstH (hitI (shA ks 0 n) (rdB pc off 96)) 0 n
 ln ks n pc off:=lenX (bkI (shA ks 0 n) (rdB pc off 96) (fstH (hitI (shA ks 0 n) (rdB pc off 96)) 0 n+1))
 bs ks n pc off:=(bkI (shA ks 0 n) (rdB pc off 96) (fstH (hitI (shA ks 0 n) (rdB pc off 96)) 0 n+1)).map by8
theorem uf_eqs{ks pc:List AV}{n off:Nat}{L:List (List UInt8)}{b:List UInt8}(hL:ShAt ks 0 n L)(hb:BytesAt pc off 96 b) :
  uf0.hit ks n pc off=decide (fstH (hitI L b) 0 n<n)∧uf0.ix ks n pc off=fstH (hitI L b) 0 n∧uf0.ln ks n pc off=lenX (bkI L b (fstH (hitI L b) 0 n+1))∧uf0.bs ks n pc off=(bkI L b (fstH (hitI L b) 0 n+1)).map by8:=by
 have e1:=shA_eq hL
 have e2:=rdB_eq hb
 refine⟨?_,?_,?_,?_⟩
 ·show decide (fstH (hitI (shA ks 0 n) (rdB pc off 96)) 0 n<n)=_
  rw[e1,e2]
 ·show fstH (hitI (shA ks 0 n) (rdB pc off 96)) 0 n=_
  rw[e1,e2]
 ·show lenX (bkI (shA ks 0 n) (rdB pc off 96) (fstH (hitI (shA ks 0 n) (rdB pc off 96)) 0 n+1))=_
  rw[e1,e2]
 ·show(bkI (shA ks 0 n) (rdB pc off 96) (fstH (hitI (shA ks 0 n) (rdB pc off 96)) 0 n+1)).map by8=_
  rw[e1,e2]
section
variable {ks pc:List AV}{n off:Nat}{L:List (List UInt8)}{b:List UInt8}
theorem frd5_ren{σ:Nat→Option Nat}{φ:Nat→Option (List AV)}{b:Nat}(hb:σ b=some 0)(hk:flatL ks)(n c:Nat)(e:Bool)(i z:Int) :
  forget mkd5 (renL σ φ true (frd5 (.slc b 0 96 96 1) ks n c e i (.int .i64 z) .nils))=frd5 (.slc 0 0 96 96 1) ks n c e i (.int .i64 z) .nils:=by
 unfold frd5 mkd5
 simp only[renL,ren,hb,forget,renL_flat hk]
theorem frd5_rent{σ:Nat→Option Nat}{φ:Nat→Option (List AV)}{b:Nat}(hb:σ b=some 0)(hk:flatL ks)(n c:Nat)(e:Bool)(i z:Int)(l:Nat) :
  forget mkd5t (renL σ φ true (frd5 (.slc b 0 96 96 1) ks n c e i (.int .i64 z) (.slc b 32 l 64 1)))=frd5 .top ks n c e i (.int .i64 z) (.slc 0 32 l 64 1):=by
 unfold frd5 mkd5t
 simp only[renL,ren,hb,forget,renL_flat hk]
theorem frd5_renx{σ:Nat→Option Nat}{φ:Nat→Option (List AV)}(x:AV)(hk:flatL ks)(n c:Nat)(e:Bool)(i z:Int) :
  forget mkd5t (renL σ φ true (frd5 x ks n c e i (.int .i64 z) .nils))=frd5 .top ks n c e i (.int .i64 z) .nils:=by
 unfold frd5 mkd5t
 simp only[renL,ren,forget,renL_flat hk]
def SU5(ks pc:List AV)(n off cp:Nat)(ex:Bool)(c:Nat)(e:Bool)(L:List (List UInt8))(b:List UInt8)(i:Nat):Fr × Hl :=
 (frd5 (if i=0 then .ros pc off 96 cp ex else .slc 0 0 96 96 1) ks n c e (Int.ofNat i) (.int .i64 (Int.ofNat 0)) .nils,if i=0 then [] else [.cells ((bkI L b i).map by8)])
theorem SU5_0(ks pc:List AV)(n off cp:Nat)(ex:Bool)(c:Nat)(e:Bool)(L:List (List UInt8))(b:List UInt8):SU5 ks pc n off cp ex c e L b 0=(frd5 (.ros pc off 96 cp ex) ks n c e (Int.ofNat 0) (.int .i64 (Int.ofNat 0)) .nils,[]):=rfl
theorem SU5_s(ks pc:List AV)(n off cp:Nat)(ex:Bool)(c:Nat)(e:Bool)(L:List (List UInt8))(b:List UInt8){i:Nat}(h:i≠0):SU5 ks pc n off cp ex c e L b i=(frd5 (.slc 0 0 96 96 1) ks n c e (Int.ofNat i) (.int .i64 (Int.ofNat 0)) .nils,[.cells ((bkI L b i).map by8)]):=by
 unfold SU5
 rw[if_neg h,if_neg h]
theorem stepd5(hL:ShAt ks 0 n L)(hr:n*32≤ks.length)(hf:flatL ks)(hb:BytesAt pc off 96 b)(pb:PB pc off 96)(hn:n<4294967296)(cp:Nat)(ex:Bool)(c:Nat)(e:Bool){i:Nat}(hi:i<n)(hh:hitI L b i=false) :
  BodyTo Tryd.prog 0 lpd5 (SU5 ks pc n off cp ex c e L b i).1 (SU5 ks pc n off cp ex c e L b i).2 .norm (SU5 ks pc n off cp ex c e L b (i+1)).1 (SU5 ks pc n off cp ex c e L b (i+1)).2:=by
 obtain⟨k,hk,ek⟩:=at_key hL hi
 have es:bkI L b (i+1)=bkL k (bkI L b i):=by
  show bkL (L.getD i []) _=_
  rw[ek]
 have hh:hitX k (bkL k (bkI L b i))=false:=by
  have h:hitX (L.getD i []) (bkI L b (i+1))=_:=hh
  rw[ek,es] at h
  exact h
 have hbl:(bkI L b i).length=96:=by rw[bkI_len,hb.1]
 rw[SU5_s ks pc n off cp ex c e L b (show i+1≠0 by omega)]
 by_cases h0:i=0
 ·subst h0
  rw[SU5_0]
  have hh:hitX k (bkL k b)=false:=hh
  have es:bkI L b (0+1)=bkL k b:=es
  rw[es]
  have hv:=vmd5a (ks:=ks) hL hr hi hk hb pb cp ex c e (fun ex fr H=>ex = .norm∧∃ X Y Z,fr=frd5 (.slc 2 0 96 96 1) ks n c e (Int.ofNat (0+1)) (.int .i64 (Int.ofNat 0)) .nils∧H = [.cells X,.cells Y,.cells ((bkL k b).map by8),.cells Z]) (fun h=>absurd hh (by rw[h]; simp)) (fun _=>fun _ _ _=>⟨rfl,_,_,_,rfl,rfl⟩) hn
  refine body_wx cnU_ok (noLn_ok _) tabU_ok hv (Nat.zero_le _) fun ex fr1 H1 _ hq => ?_
  obtain⟨rfl,X,Y,Z,rfl,rfl⟩:=hq
  refine⟨rfl,?_⟩
  have h3:=Weak.pickV (n0:=0) (fr:=frd5 (.slc 2 0 96 96 1) ks n c e (Int.ofNat (0+1)) (.int .i64 (Int.ofNat 0)) .nils) (H := [.cells X,.cells Y,.cells ((bkL k b).map by8),.cells Z]) [2] mkd5 0 (by simp) (by simp) (by simp)
  rw[frd5_ren (show pickN [2] 2=some 0 from rfl) hf] at h3
  have e4:pickH (viewF [.cells X,.cells Y,.cells ((bkL k b).map by8),.cells Z] [2] 0) [2] [.cells X,.cells Y,.cells ((bkL k b).map by8),.cells Z] = [.cells ((bkL k b).map by8)]:=by
   show [renB _ _ true (.cells _)]=_
   simp only[renB,renL_flat (flat_by8 _)]
  rw[e4] at h3
  exact h3
 ·rw[SU5_s ks pc n off cp ex c e L b h0,es]
  have hv:=vmd5b (ks:=ks) hL hr hi hk hbl c e (fun ex fr H=>ex = .norm∧∃ W X Y Z,fr=frd5 (.slc 3 0 96 96 1) ks n c e (Int.ofNat (i+1)) (.int .i64 (Int.ofNat 0)) .nils∧H = [.cells W,.cells X,.cells Y,.cells ((bkL k (bkI L b i)).map by8),.cells Z]) (fun h=>absurd hh (by rw[h]; simp)) (fun _=>fun _ _ _ _=>⟨rfl,_,_,_,_,rfl,rfl⟩) hn
  refine body_wx cnU_ok (noLn_ok _) tabU_ok hv (Nat.zero_le _) fun ex fr1 H1 _ hq => ?_
  obtain⟨rfl,W,X,Y,Z,rfl,rfl⟩:=hq
  refine⟨rfl,?_⟩
  have h3:=Weak.pickV (n0:=0) (fr:=frd5 (.slc 3 0 96 96 1) ks n c e (Int.ofNat (i+1)) (.int .i64 (Int.ofNat 0)) .nils) (H := [.cells W,.cells X,.cells Y,.cells ((bkL k (bkI L b i)).map by8),.cells Z]) [3] mkd5 0 (by simp) (by simp) (by simp)
  rw[frd5_ren (show pickN [3] 3=some 0 from rfl) hf] at h3
  have e4:pickH (viewF [.cells W,.cells X,.cells Y,.cells ((bkL k (bkI L b i)).map by8),.cells Z] [3] 0) [3] [.cells W,.cells X,.cells Y,.cells ((bkL k (bkI L b i)).map by8),.cells Z] = [.cells ((bkL k (bkI L b i)).map by8)]:=by
   show [renB _ _ true (.cells _)]=_
   simp only[renB,renL_flat (flat_by8 _)]
  rw[e4] at h3
  exact h3
theorem hitd5(hL:ShAt ks 0 n L)(hr:n*32≤ks.length)(hf:flatL ks)(hb:BytesAt pc off 96 b)(pb:PB pc off 96)(hn:n<4294967296)(cp:Nat)(ex:Bool)(c:Nat)(e:Bool){i:Nat}(hi:i<n)(hh:hitI L b i=true) :
  BodyTo Tryd.prog 0 lpd5 (SU5 ks pc n off cp ex c e L b i).1 (SU5 ks pc n off cp ex c e L b i).2 .ret (frd5 .top ks n c e (Int.ofNat i) (.int .i64 (Int.ofNat i)) (.slc 0 32 (lenX (bkI L b (i+1))) 64 1)) [.cells ((bkI L b (i+1)).map by8)]:=by
 obtain⟨k,hk,ek⟩:=at_key hL hi
 have es:bkI L b (i+1)=bkL k (bkI L b i):=by
  show bkL (L.getD i []) _=_
  rw[ek]
 have hh:hitX k (bkL k (bkI L b i))=true:=by
  have h:hitX (L.getD i []) (bkI L b (i+1))=_:=hh
  rw[ek,es] at h
  exact h
 have hbl:(bkI L b i).length=96:=by rw[bkI_len,hb.1]
 by_cases h0:i=0
 ·subst h0
  rw[SU5_0]
  have hh:hitX k (bkL k b)=true:=hh
  have es:bkI L b (0+1)=bkL k b:=es
  rw[es]
  have hv:=vmd5a (ks:=ks) hL hr hi hk hb pb cp ex c e (fun ex fr H=>ex = .ret∧∃ X Y Z,fr=frd5 (.slc 2 0 96 96 1) ks n c e (Int.ofNat 0) (.int .i64 (Int.ofNat 0)) (.slc 2 32 (lenX (bkL k b)) 64 1)∧H = [.cells X,.cells Y,.cells ((bkL k b).map by8),.cells Z]) (fun _=>fun _ _ _=>⟨rfl,_,_,_,rfl,rfl⟩) (fun h=>absurd hh (by rw[h]; simp)) hn
  refine body_wx cnU_ok (noLn_ok _) tabU_ok hv (Nat.zero_le _) fun ex fr1 H1 _ hq => ?_
  obtain⟨rfl,X,Y,Z,rfl,rfl⟩:=hq
  refine⟨rfl,?_⟩
  have h3:=Weak.pickV (n0:=0) (fr:=frd5 (.slc 2 0 96 96 1) ks n c e (Int.ofNat 0) (.int .i64 (Int.ofNat 0)) (.slc 2 32 (lenX (bkL k b)) 64 1)) (H := [.cells X,.cells Y,.cells ((bkL k b).map by8),.cells Z]) [2] mkd5t 0 (by simp) (by simp) (by simp)
  rw[frd5_rent (show pickN [2] 2=some 0 from rfl) hf] at h3
  have e4:pickH (viewF [.cells X,.cells Y,.cells ((bkL k b).map by8),.cells Z] [2] 0) [2] [.cells X,.cells Y,.cells ((bkL k b).map by8),.cells Z] = [.cells ((bkL k b).map by8)]:=by
   show [renB _ _ true (.cells _)]=_
   simp only[renB,renL_flat (flat_by8 _)]
  rw[e4] at h3
  exact h3
 ·rw[SU5_s ks pc n off cp ex c e L b h0,es]
  have hv:=vmd5b (ks:=ks) hL hr hi hk hbl c e (fun ex fr H=>ex = .ret∧∃ W X Y Z,fr=frd5 (.slc 3 0 96 96 1) ks n c e (Int.ofNat i) (.int .i64 (Int.ofNat i)) (.slc 3 32 (lenX (bkL k (bkI L b i))) 64 1)∧H = [.cells W,.cells X,.cells Y,.cells ((bkL k (bkI L b i)).map by8),.cells Z]) (fun _=>fun _ _ _ _=>⟨rfl,_,_,_,_,rfl,rfl⟩) (fun h=>absurd hh (by rw[h]; simp)) hn
  refine body_wx cnU_ok (noLn_ok _) tabU_ok hv (Nat.zero_le _) fun ex fr1 H1 _ hq => ?_
  obtain⟨rfl,W,X,Y,Z,rfl,rfl⟩:=hq
  refine⟨rfl,?_⟩
  have h3:=Weak.pickV (n0:=0) (fr:=frd5 (.slc 3 0 96 96 1) ks n c e (Int.ofNat i) (.int .i64 (Int.ofNat i)) (.slc 3 32 (lenX (bkL k (bkI L b i))) 64 1)) (H := [.cells W,.cells X,.cells Y,.cells ((bkL k (bkI L b i)).map by8),.cells Z]) [3] mkd5t 0 (by simp) (by simp) (by simp)
  rw[frd5_rent (show pickN [3] 3=some 0 from rfl) hf] at h3
  have e4:pickH (viewF [.cells W,.cells X,.cells Y,.cells ((bkL k (bkI L b i)).map by8),.cells Z] [3] 0) [3] [.cells W,.cells X,.cells Y,.cells ((bkL k (bkI L b i)).map by8),.cells Z] = [.cells ((bkL k (bkI L b i)).map by8)]:=by
   show [renB _ _ true (.cells _)]=_
   simp only[renB,renL_flat (flat_by8 _)]
  rw[e4] at h3
  exact h3
theorem exitd5(hf:flatL ks)(cp:Nat)(ex:Bool)(c:Nat)(e:Bool) :
  BodyTo Tryd.prog 0 lpd5 (SU5 ks pc n off cp ex c e L b n).1 (SU5 ks pc n off cp ex c e L b n).2 (.exit 0) (frd5 .top ks n c e (Int.ofNat n) (.int .i64 (Int.ofNat 0)) .nils) []:=by
 have hl:ops0.cmp .lss (Int.ofNat n) (Int.ofNat n)=false:=by rw[nLss]; exact decide_eq_false (by omega)
 have hl':ops0.cmp .lss (Int.ofNat n) (ops0.ofn n)=false:=by rw[nOfn]; exact hl
 refine body_wx (Q:=fun ex' fr H=>ex' = .exit 0∧∃ x,fr=frd5 x ks n c e (Int.ofNat n) (.int .i64 (Int.ofNat 0)) .nils) (bs:=mkd5) (n:=100) (g:=kdS) cnU_ok (noLn_ok _) tabU_ok ?_ (Nat.zero_le _) fun ex fr1 H1 _ hq => ?_
 ·by_cases h0:n=0
  ·subst h0
   rw[SU5_0,vcld5a]
   exact Br.f (by first|exact hl|exact hl') ⟨rfl,_,rfl⟩
  ·rw[SU5_s ks pc n off cp ex c e L b h0,vcld5b]
   exact Br.f (by first|exact hl|exact hl') ⟨rfl,_,rfl⟩
 ·obtain⟨rfl,x,rfl⟩:=hq
  refine⟨rfl,?_⟩
  have h3:=Weak.pickV (n0:=0) (fr:=frd5 x ks n c e (Int.ofNat n) (.int .i64 (Int.ofNat 0)) .nils) (H:=H1) [] mkd5t 0 (by simp) (by simp) (by simp)
  rw[frd5_renx x hf] at h3
  exact h3
theorem loopd5t(hL:ShAt ks 0 n L)(hr:n*32≤ks.length)(hf:flatL ks)(hb:BytesAt pc off 96 b)(pb:PB pc off 96)(hn:n<4294967296)(cp:Nat)(ex:Bool)(c:Nat)(e:Bool)(ha:fstH (hitI L b) 0 n<n):∀ lg,LoopTo Tryd.prog 0 lpd5 (frd5 (.ros pc off 96 cp ex) ks n c e (Int.ofNat 0) (.int .i64 (Int.ofNat 0)) .nils) [] lg .ret (frd5 .top ks n c e (Int.ofNat (fstH (hitI L b) 0 n)) (.int .i64 (Int.ofNat (fstH (hitI L b) 0 n))) (.slc 0 32 (lenX (bkI L b (fstH (hitI L b) 0 n+1))) 64 1)) [.cells ((bkI L b (fstH (hitI L b) 0 n+1)).map by8)] (List.range 0++lg):=by
 intro lg
 obtain⟨_,_,h3,h4⟩:=fstH_spec (hitI L b) n 0
 exact loop_chain (P:=Tryd.prog) (n0:=0) (b:=lpd5) (ex := .ret) (by intro h;cases h) (fun i=>SU5 ks pc n off cp ex c e L b i) (fstH (hitI L b) 0 n) 0 (fun j _ hj=>stepd5 hL hr hf hb pb hn cp ex c e (by omega) (h3 j (Nat.zero_le _) (by omega))) (by rw[Nat.zero_add]; exact hitd5 hL hr hf hb pb hn cp ex c e ha (h4 (by omega))) lg
theorem loopd5f(hL:ShAt ks 0 n L)(hr:n*32≤ks.length)(hf:flatL ks)(hb:BytesAt pc off 96 b)(pb:PB pc off 96)(hn:n<4294967296)(cp:Nat)(ex:Bool)(c:Nat)(e:Bool)(ha:¬ fstH (hitI L b) 0 n<n):∀ lg,LoopTo Tryd.prog 0 lpd5 (frd5 (.ros pc off 96 cp ex) ks n c e (Int.ofNat 0) (.int .i64 (Int.ofNat 0)) .nils) [] lg (.exit 0) (frd5 .top ks n c e (Int.ofNat n) (.int .i64 (Int.ofNat 0)) .nils) [] (List.range 0++lg):=by
 intro lg
 obtain⟨_,h2,h3,h4⟩:=fstH_spec (hitI L b) n 0
 exact loop_chain (P:=Tryd.prog) (n0:=0) (b:=lpd5) (ex := .exit 0) (by intro h;cases h) (fun i=>SU5 ks pc n off cp ex c e L b i) n 0 (fun j _ hj=>stepd5 hL hr hf hb pb hn cp ex c e (by omega) (h3 j (Nat.zero_le _) (by omega))) (by rw[Nat.zero_add]; exact exitd5 hf cp ex c e) lg
theorem frd6_ren{σ:Nat→Option Nat}{φ:Nat→Option (List AV)}{b:Nat}(hb:σ b=some 0)(hk:flatL ks)(n c:Nat)(e:Bool)(i z:Int) :
  forget mkd6 (renL σ φ true (frd6 (.slc b 0 96 96 1) ks n c e i (.int .i64 z) .nils))=frd6 (.slc 0 0 96 96 1) ks n c e i (.int .i64 z) .nils:=by
 unfold frd6 mkd6
 simp only[renL,ren,hb,forget,renL_flat hk]
theorem frd6_rent{σ:Nat→Option Nat}{φ:Nat→Option (List AV)}{b:Nat}(hb:σ b=some 0)(hk:flatL ks)(n c:Nat)(e:Bool)(i z:Int)(l:Nat) :
  forget mkd6t (renL σ φ true (frd6 (.slc b 0 96 96 1) ks n c e i (.int .i64 z) (.slc b 32 l 64 1)))=frd6 .top ks n c e i (.int .i64 z) (.slc 0 32 l 64 1):=by
 unfold frd6 mkd6t
 simp only[renL,ren,hb,forget,renL_flat hk]
theorem frd6_renx{σ:Nat→Option Nat}{φ:Nat→Option (List AV)}(x:AV)(hk:flatL ks)(n c:Nat)(e:Bool)(i z:Int) :
  forget mkd6t (renL σ φ true (frd6 x ks n c e i (.int .i64 z) .nils))=frd6 .top ks n c e i (.int .i64 z) .nils:=by
 unfold frd6 mkd6t
 simp only[renL,ren,forget,renL_flat hk]
def SU6(ks pc:List AV)(n off cp:Nat)(ex:Bool)(c:Nat)(e:Bool)(L:List (List UInt8))(b:List UInt8)(i:Nat):Fr × Hl :=
 (frd6 (if i=0 then .ros pc off 96 cp ex else .slc 0 0 96 96 1) ks n c e (Int.ofNat i) (.int .i64 (Int.ofNat 0)) .nils,if i=0 then [] else [.cells ((bkI L b i).map by8)])
theorem SU6_0(ks pc:List AV)(n off cp:Nat)(ex:Bool)(c:Nat)(e:Bool)(L:List (List UInt8))(b:List UInt8):SU6 ks pc n off cp ex c e L b 0=(frd6 (.ros pc off 96 cp ex) ks n c e (Int.ofNat 0) (.int .i64 (Int.ofNat 0)) .nils,[]):=rfl
theorem SU6_s(ks pc:List AV)(n off cp:Nat)(ex:Bool)(c:Nat)(e:Bool)(L:List (List UInt8))(b:List UInt8){i:Nat}(h:i≠0):SU6 ks pc n off cp ex c e L b i=(frd6 (.slc 0 0 96 96 1) ks n c e (Int.ofNat i) (.int .i64 (Int.ofNat 0)) .nils,[.cells ((bkI L b i).map by8)]):=by
 unfold SU6
 rw[if_neg h,if_neg h]
theorem stepd6(hL:ShAt ks 0 n L)(hr:n*32≤ks.length)(hf:flatL ks)(hb:BytesAt pc off 96 b)(pb:PB pc off 96)(hn:n<4294967296)(cp:Nat)(ex:Bool)(c:Nat)(e:Bool){i:Nat}(hi:i<n)(hh:hitI L b i=false) :
  BodyTo Tryd.prog 0 lpd6 (SU6 ks pc n off cp ex c e L b i).1 (SU6 ks pc n off cp ex c e L b i).2 .norm (SU6 ks pc n off cp ex c e L b (i+1)).1 (SU6 ks pc n off cp ex c e L b (i+1)).2:=by
 obtain⟨k,hk,ek⟩:=at_key hL hi
 have es:bkI L b (i+1)=bkL k (bkI L b i):=by
  show bkL (L.getD i []) _=_
  rw[ek]
 have hh:hitX k (bkL k (bkI L b i))=false:=by
  have h:hitX (L.getD i []) (bkI L b (i+1))=_:=hh
  rw[ek,es] at h
  exact h
 have hbl:(bkI L b i).length=96:=by rw[bkI_len,hb.1]
 rw[SU6_s ks pc n off cp ex c e L b (show i+1≠0 by omega)]
 by_cases h0:i=0
 ·subst h0
  rw[SU6_0]
  have hh:hitX k (bkL k b)=false:=hh
  have es:bkI L b (0+1)=bkL k b:=es
  rw[es]
  have hv:=vmd6a (ks:=ks) hL hr hi hk hb pb cp ex c e (fun ex fr H=>ex = .norm∧fr=frd6 (.slc 0 0 96 96 1) ks n c e (Int.ofNat (0+1)) (.int .i64 (Int.ofNat 0)) .nils∧H = [.cells ((bkL k b).map by8)]) (fun h=>absurd hh (by rw[h]; simp)) (fun _=>⟨rfl,rfl,rfl⟩) hn
  refine body_wx cnU_ok lnd6b_ok (noTab_ok _) hv (Nat.zero_le _) fun ex fr1 H1 _ hq => ?_
  obtain⟨rfl,rfl,rfl⟩:=hq
  refine⟨rfl,?_⟩
  have h3:=Weak.pickV (n0:=0) (fr:=frd6 (.slc 0 0 96 96 1) ks n c e (Int.ofNat (0+1)) (.int .i64 (Int.ofNat 0)) .nils) (H := [.cells ((bkL k b).map by8)]) [0] mkd6 0 (by simp) (by simp) (by simp)
  rw[frd6_ren (show pickN [0] 0=some 0 from rfl) hf] at h3
  have e4:pickH (viewF [.cells ((bkL k b).map by8)] [0] 0) [0] [.cells ((bkL k b).map by8)] = [.cells ((bkL k b).map by8)]:=by
   show [renB _ _ true (.cells _)]=_
   simp only[renB,renL_flat (flat_by8 _)]
  rw[e4] at h3
  exact h3
 ·rw[SU6_s ks pc n off cp ex c e L b h0,es]
  have hv:=vmd6 (ks:=ks) hL hr hi hk hbl c e (fun ex fr H=>ex = .norm∧∃ W,fr=frd6 (.slc 1 0 96 96 1) ks n c e (Int.ofNat (i+1)) (.int .i64 (Int.ofNat 0)) .nils∧H = [.cells W,.cells ((bkL k (bkI L b i)).map by8)]) (fun h=>absurd hh (by rw[h]; simp)) (fun _=>fun _=>⟨rfl,_,rfl,rfl⟩) hn
  refine body_wx cnU_ok lnd6b_ok (noTab_ok _) hv (Nat.zero_le _) fun ex fr1 H1 _ hq => ?_
  obtain⟨rfl,W,rfl,rfl⟩:=hq
  refine⟨rfl,?_⟩
  have h3:=Weak.pickV (n0:=0) (fr:=frd6 (.slc 1 0 96 96 1) ks n c e (Int.ofNat (i+1)) (.int .i64 (Int.ofNat 0)) .nils) (H := [.cells W,.cells ((bkL k (bkI L b i)).map by8)]) [1] mkd6 0 (by simp) (by simp) (by simp)
  rw[frd6_ren (show pickN [1] 1=some 0 from rfl) hf] at h3
  have e4:pickH (viewF [.cells W,.cells ((bkL k (bkI L b i)).map by8)] [1] 0) [1] [.cells W,.cells ((bkL k (bkI L b i)).map by8)] = [.cells ((bkL k (bkI L b i)).map by8)]:=by
   show [renB _ _ true (.cells _)]=_
   simp only[renB,renL_flat (flat_by8 _)]
  rw[e4] at h3
  exact h3
theorem hitd6(hL:ShAt ks 0 n L)(hr:n*32≤ks.length)(hf:flatL ks)(hb:BytesAt pc off 96 b)(pb:PB pc off 96)(hn:n<4294967296)(cp:Nat)(ex:Bool)(c:Nat)(e:Bool){i:Nat}(hi:i<n)(hh:hitI L b i=true) :
  BodyTo Tryd.prog 0 lpd6 (SU6 ks pc n off cp ex c e L b i).1 (SU6 ks pc n off cp ex c e L b i).2 .ret (frd6 .top ks n c e (Int.ofNat i) (.int .i64 (Int.ofNat i)) (.slc 0 32 (lenX (bkI L b (i+1))) 64 1)) [.cells ((bkI L b (i+1)).map by8)]:=by
 obtain⟨k,hk,ek⟩:=at_key hL hi
 have es:bkI L b (i+1)=bkL k (bkI L b i):=by
  show bkL (L.getD i []) _=_
  rw[ek]
 have hh:hitX k (bkL k (bkI L b i))=true:=by
  have h:hitX (L.getD i []) (bkI L b (i+1))=_:=hh
  rw[ek,es] at h
  exact h
 have hbl:(bkI L b i).length=96:=by rw[bkI_len,hb.1]
 by_cases h0:i=0
 ·subst h0
  rw[SU6_0]
  have hh:hitX k (bkL k b)=true:=hh
  have es:bkI L b (0+1)=bkL k b:=es
  rw[es]
  have hv:=vmd6a (ks:=ks) hL hr hi hk hb pb cp ex c e (fun ex fr H=>ex = .ret∧fr=frd6 (.slc 0 0 96 96 1) ks n c e (Int.ofNat 0) (.int .i64 (Int.ofNat 0)) (.slc 0 32 (lenX (bkL k b)) 64 1)∧H = [.cells ((bkL k b).map by8)]) (fun _=>⟨rfl,rfl,rfl⟩) (fun h=>absurd hh (by rw[h]; simp)) hn
  refine body_wx cnU_ok lnd6b_ok (noTab_ok _) hv (Nat.zero_le _) fun ex fr1 H1 _ hq => ?_
  obtain⟨rfl,rfl,rfl⟩:=hq
  refine⟨rfl,?_⟩
  have h3:=Weak.pickV (n0:=0) (fr:=frd6 (.slc 0 0 96 96 1) ks n c e (Int.ofNat 0) (.int .i64 (Int.ofNat 0)) (.slc 0 32 (lenX (bkL k b)) 64 1)) (H := [.cells ((bkL k b).map by8)]) [0] mkd6t 0 (by simp) (by simp) (by simp)
  rw[frd6_rent (show pickN [0] 0=some 0 from rfl) hf] at h3
  have e4:pickH (viewF [.cells ((bkL k b).map by8)] [0] 0) [0] [.cells ((bkL k b).map by8)] = [.cells ((bkL k b).map by8)]:=by
   show [renB _ _ true (.cells _)]=_
   simp only[renB,renL_flat (flat_by8 _)]
  rw[e4] at h3
  exact h3
 ·rw[SU6_s ks pc n off cp ex c e L b h0,es]
  have hv:=vmd6 (ks:=ks) hL hr hi hk hbl c e (fun ex fr H=>ex = .ret∧∃ W,fr=frd6 (.slc 1 0 96 96 1) ks n c e (Int.ofNat i) (.int .i64 (Int.ofNat i)) (.slc 1 32 (lenX (bkL k (bkI L b i))) 64 1)∧H = [.cells W,.cells ((bkL k (bkI L b i)).map by8)]) (fun _=>fun _=>⟨rfl,_,rfl,rfl⟩) (fun h=>absurd hh (by rw[h]; simp)) hn
  refine body_wx cnU_ok lnd6b_ok (noTab_ok _) hv (Nat.zero_le _) fun ex fr1 H1 _ hq => ?_
  obtain⟨rfl,W,rfl,rfl⟩:=hq
  refine⟨rfl,?_⟩
  have h3:=Weak.pickV (n0:=0) (fr:=frd6 (.slc 1 0 96 96 1) ks n c e (Int.ofNat i) (.int .i64 (Int.ofNat i)) (.slc 1 32 (lenX (bkL k (bkI L b i))) 64 1)) (H := [.cells W,.cells ((bkL k (bkI L b i)).map by8)]) [1] mkd6t 0 (by simp) (by simp) (by simp)
  rw[frd6_rent (show pickN [1] 1=some 0 from rfl) hf] at h3
  have e4:pickH (viewF [.cells W,.cells ((bkL k (bkI L b i)).map by8)] [1] 0) [1] [.cells W,.cells ((bkL k (bkI L b i)).map by8)] = [.cells ((bkL k (bkI L b i)).map by8)]:=by
   show [renB _ _ true (.cells _)]=_
   simp only[renB,renL_flat (flat_by8 _)]
  rw[e4] at h3
  exact h3
theorem exitd6(hf:flatL ks)(cp:Nat)(ex:Bool)(c:Nat)(e:Bool) :
  BodyTo Tryd.prog 0 lpd6 (SU6 ks pc n off cp ex c e L b n).1 (SU6 ks pc n off cp ex c e L b n).2 (.exit 0) (frd6 .top ks n c e (Int.ofNat n) (.int .i64 (Int.ofNat 0)) .nils) []:=by
 have hl:ops0.cmp .lss (Int.ofNat n) (Int.ofNat n)=false:=by rw[nLss]; exact decide_eq_false (by omega)
 have hl':ops0.cmp .lss (Int.ofNat n) (ops0.ofn n)=false:=by rw[nOfn]; exact hl
 refine body_wx (Q:=fun ex' fr H=>ex' = .exit 0∧∃ x,fr=frd6 x ks n c e (Int.ofNat n) (.int .i64 (Int.ofNat 0)) .nils) (bs:=mkd6) (n:=100) (g:=kdS) cnU_ok lnd6b_ok (noTab_ok _) ?_ (Nat.zero_le _) fun ex fr1 H1 _ hq => ?_
 ·by_cases h0:n=0
  ·subst h0
   rw[SU6_0,vcld6a]
   exact Br.f (by first|exact hl|exact hl') ⟨rfl,_,rfl⟩
  ·rw[SU6_s ks pc n off cp ex c e L b h0,vcld6]
   exact Br.f (by first|exact hl|exact hl') ⟨rfl,_,rfl⟩
 ·obtain⟨rfl,x,rfl⟩:=hq
  refine⟨rfl,?_⟩
  have h3:=Weak.pickV (n0:=0) (fr:=frd6 x ks n c e (Int.ofNat n) (.int .i64 (Int.ofNat 0)) .nils) (H:=H1) [] mkd6t 0 (by simp) (by simp) (by simp)
  rw[frd6_renx x hf] at h3
  exact h3
theorem loopd6t(hL:ShAt ks 0 n L)(hr:n*32≤ks.length)(hf:flatL ks)(hb:BytesAt pc off 96 b)(pb:PB pc off 96)(hn:n<4294967296)(cp:Nat)(ex:Bool)(c:Nat)(e:Bool)(ha:fstH (hitI L b) 0 n<n):∀ lg,LoopTo Tryd.prog 0 lpd6 (frd6 (.ros pc off 96 cp ex) ks n c e (Int.ofNat 0) (.int .i64 (Int.ofNat 0)) .nils) [] lg .ret (frd6 .top ks n c e (Int.ofNat (fstH (hitI L b) 0 n)) (.int .i64 (Int.ofNat (fstH (hitI L b) 0 n))) (.slc 0 32 (lenX (bkI L b (fstH (hitI L b) 0 n+1))) 64 1)) [.cells ((bkI L b (fstH (hitI L b) 0 n+1)).map by8)] (List.range 0++lg):=by
 intro lg
 obtain⟨_,_,h3,h4⟩:=fstH_spec (hitI L b) n 0
 exact loop_chain (P:=Tryd.prog) (n0:=0) (b:=lpd6) (ex := .ret) (by intro h;cases h) (fun i=>SU6 ks pc n off cp ex c e L b i) (fstH (hitI L b) 0 n) 0 (fun j _ hj=>stepd6 hL hr hf hb pb hn cp ex c e (by omega) (h3 j (Nat.zero_le _) (by omega))) (by rw[Nat.zero_add]; exact hitd6 hL hr hf hb pb hn cp ex c e ha (h4 (by omega))) lg
theorem loopd6f(hL:ShAt ks 0 n L)(hr:n*32≤ks.length)(hf:flatL ks)(hb:BytesAt pc off 96 b)(pb:PB pc off 96)(hn:n<4294967296)(cp:Nat)(ex:Bool)(c:Nat)(e:Bool)(ha:¬ fstH (hitI L b) 0 n<n):∀ lg,LoopTo Tryd.prog 0 lpd6 (frd6 (.ros pc off 96 cp ex) ks n c e (Int.ofNat 0) (.int .i64 (Int.ofNat 0)) .nils) [] lg (.exit 0) (frd6 .top ks n c e (Int.ofNat n) (.int .i64 (Int.ofNat 0)) .nils) [] (List.range 0++lg):=by
 intro lg
 obtain⟨_,h2,h3,h4⟩:=fstH_spec (hitI L b) n 0
 exact loop_chain (P:=Tryd.prog) (n0:=0) (b:=lpd6) (ex := .exit 0) (by intro h;cases h) (fun i=>SU6 ks pc n off cp ex c e L b i) n 0 (fun j _ hj=>stepd6 hL hr hf hb pb hn cp ex c e (by omega) (h3 j (Nat.zero_le _) (by omega))) (by rw[Nat.zero_add]; exact exitd6 hf cp ex c e) lg
end
theorem lnd5_ok:LnOK Tryd.prog (lnd5 uf0):=by
 intro n0 b fr H p x e hn0 hp lg
 unfold lnd5 at e
 split at e<;>cases e
 rename_i pc off cp ex ks n c e q1 q2
 obtain⟨rfl,hb,hf,⟨kf,kr,kn,L,hL⟩,hn,pb⟩:=hp
 have hb:b=lpd5:=hb
 subst hb
 refine LoopTo.pre (Weak.forget (by simp) mkd5) (fun lg => ?_) lg
 rw[hf]
 have pb0:=pb
 obtain⟨pf,po,pn,lb,hlb⟩:=pb
 obtain⟨u1,u2,u3,u4⟩:=uf_eqs (n:=n) hL hlb
 rw[u1,u2,u3,u4]
 cases hd:decide (fstH (hitI L lb) 0 n<n) with
 | true=>exact loopd5t hL (by omega) kf hlb pb0 hn cp ex c e (of_decide_eq_true hd) lg
 | false=>exact loopd5f hL (by omega) kf hlb pb0 hn cp ex c e (of_decide_eq_false hd) lg
theorem calld5{ks pc:List AV}{n off:Nat}(hP:PUn ks n pc off)(c:Nat)(e:Bool)(cp:Nat)(ex:Bool) :
  (uf0.hit ks n pc off=true→CallTo Tryd.prog 5 [.ros ks 0 n c e,.ros pc off 96 cp ex] [] (.tup [.int .i64 (Int.ofNat (uf0.ix ks n pc off)),.slc 0 32 (uf0.ln ks n pc off) 64 1,.int .i64 (Int.ofNat 0)]) [.cells (uf0.bs ks n pc off)] []) ∧
  (uf0.hit ks n pc off=false→CallTo Tryd.prog 5 [.ros ks 0 n c e,.ros pc off 96 cp ex] [] (.tup [.int .i64 (Int.ofNat 0),.nils,.int .i64 (Int.ofNat 4)]) [] []):=by
 have key:∀ Q:AV→Hl→Prop,(uf0.hit ks n pc off=true→Q (.tup [.int .i64 (Int.ofNat (uf0.ix ks n pc off)),.slc 0 32 (uf0.ln ks n pc off) 64 1,.int .i64 (Int.ofNat 0)]) [.cells (uf0.bs ks n pc off)])→(uf0.hit ks n pc off=false→Q (.tup [.int .i64 (Int.ofNat 0),.nils,.int .i64 (Int.ofNat 4)]) []) →
   ∃ r H' lg,CallTo Tryd.prog 5 [.ros ks 0 n c e,.ros pc off 96 cp ex] [] r H' lg∧Q r H':=by
  intro Q q1 q2
  refine call_vcx (noCn_ok _) lnd5_ok (tabOne_ok ok5) (tabOne_self 5 vf5) (n:=200) (g:=kdS) ?_
  rw[vcd5]
  exact⟨⟨rfl,rfl,rfl,hP⟩,Br.mk q1 q2⟩
 refine⟨fun ht => ?_,fun hf => ?_⟩
 ·obtain⟨r,H',lg,hc,rfl,rfl⟩:=key (fun r H=>r=_∧H=_) (fun _=>⟨rfl,rfl⟩) (fun h=>by rw[ht] at h;cases h)
  exact call_nologD hc
 ·obtain⟨r,H',lg,hc,rfl,rfl⟩:=key (fun r H=>r=_∧H=_) (fun h=>by rw[hf] at h;cases h) (fun _=>⟨rfl,rfl⟩)
  exact call_nologD hc
theorem lnd6_ok:LnOK Tryd.prog (lnd6 uf0):=by
 intro n0 b fr H p x e hn0 hp lg
 unfold lnd6 at e
 split at e<;>cases e
 rename_i pc off cp ex ks n c e q1 q2
 obtain⟨rfl,hb,hf,⟨kf,kr,kn,L,hL⟩,hn,pb⟩:=hp
 have hb:b=lpd6:=hb
 subst hb
 refine LoopTo.pre (Weak.forget (by simp) mkd6) (fun lg => ?_) lg
 rw[hf]
 have pb0:=pb
 obtain⟨pf,po,pn,lb,hlb⟩:=pb
 obtain⟨u1,u2,u3,u4⟩:=uf_eqs (n:=n) hL hlb
 rw[u1,u2,u3,u4]
 cases hd:decide (fstH (hitI L lb) 0 n<n) with
 | true=>exact loopd6t hL (by omega) kf hlb pb0 hn cp ex c e (of_decide_eq_true hd) lg
 | false=>exact loopd6f hL (by omega) kf hlb pb0 hn cp ex c e (of_decide_eq_false hd) lg
theorem calld6{ks pc:List AV}{n off:Nat}(hP:PUn ks n pc off)(c:Nat)(e:Bool)(cp:Nat)(ex:Bool) :
  (uf0.hit ks n pc off=true→CallTo Tryd.prog 6 [.ros ks 0 n c e,.ros pc off 96 cp ex] [] (.tup [.int .i64 (Int.ofNat (uf0.ix ks n pc off)),.slc 0 32 (uf0.ln ks n pc off) 64 1,.int .i64 (Int.ofNat 0)]) [.cells (uf0.bs ks n pc off)] []) ∧
  (uf0.hit ks n pc off=false→CallTo Tryd.prog 6 [.ros ks 0 n c e,.ros pc off 96 cp ex] [] (.tup [.int .i64 (Int.ofNat 0),.nils,.int .i64 (Int.ofNat 4)]) [] []):=by
 have key:∀ Q:AV→Hl→Prop,(uf0.hit ks n pc off=true→Q (.tup [.int .i64 (Int.ofNat (uf0.ix ks n pc off)),.slc 0 32 (uf0.ln ks n pc off) 64 1,.int .i64 (Int.ofNat 0)]) [.cells (uf0.bs ks n pc off)])→(uf0.hit ks n pc off=false→Q (.tup [.int .i64 (Int.ofNat 0),.nils,.int .i64 (Int.ofNat 4)]) []) →
   ∃ r H' lg,CallTo Tryd.prog 6 [.ros ks 0 n c e,.ros pc off 96 cp ex] [] r H' lg∧Q r H':=by
  intro Q q1 q2
  refine call_vcx (noCn_ok _) lnd6_ok (tabOne_ok ok6) (tabOne_self 6 vf6) (n:=200) (g:=kdS) ?_
  rw[vcd6]
  exact⟨⟨rfl,rfl,rfl,hP⟩,Br.mk q1 q2⟩
 refine⟨fun ht => ?_,fun hf => ?_⟩
 ·obtain⟨r,H',lg,hc,rfl,rfl⟩:=key (fun r H=>r=_∧H=_) (fun _=>⟨rfl,rfl⟩) (fun h=>by rw[ht] at h;cases h)
  exact call_nologD hc
 ·obtain⟨r,H',lg,hc,rfl,rfl⟩:=key (fun r H=>r=_∧H=_) (fun h=>by rw[hf] at h;cases h) (fun _=>⟨rfl,rfl⟩)
  exact call_nologD hc
end
end Go.Proofs.Vm

namespace Go.Proofs.Vm
open Go.Vm
set_option maxRecDepth 100000
noncomputable section
def cnV(U:UF)(T:TRF)(B:BZ)(Z:OZ)(O:OY)(F:HF):CnF:=cnOr (fun f vals H=>match f,vals with
 | 5,[x,y]=>match vw1 H x,vw1 H y with
  | .ros ks 0 n _ _,.ros pc off 96 _ _=>some (PUn ks n pc off,.cond (U.hit ks n pc off) (.ok (.tup [.int .i64 (Int.ofNat (U.ix ks n pc off)),.slc (size H) 32 (U.ln ks n pc off) 64 1,.int .i64 (Int.ofNat 0)]) (join H [.cells (U.bs ks n pc off)]) []) (.ok (.tup [.int .i64 (Int.ofNat 0),.nils,.int .i64 (Int.ofNat 4)]) H []))
  | _,_=>none
 | 6,[x,y]=>match vw1 H x,vw1 H y with
  | .ros ks 0 n _ _,.ros pc off 96 _ _=>some (PUn ks n pc off,.cond (U.hit ks n pc off) (.ok (.tup [.int .i64 (Int.ofNat (U.ix ks n pc off)),.slc (size H) 32 (U.ln ks n pc off) 64 1,.int .i64 (Int.ofNat 0)]) (join H [.cells (U.bs ks n pc off)]) []) (.ok (.tup [.int .i64 (Int.ofNat 0),.nils,.int .i64 (Int.ofNat 4)]) H []))
  | _,_=>none
 | _,_=>none) (cnU T B Z O F)
def tabL3(f:Nat):Option VF:=match f with
 | 3=>some vf3
 | 7=>some vf7
 | 12=>some vf12
 | _=>none
end
end Go.Proofs.Vm

namespace Go.Proofs.Vm
open Go.Vm
set_option maxRecDepth 100000
noncomputable section
theorem back_un(H:Hl)(i z:Int)(l:Nat):backV [] H.length (.tup [.int .i64 i,.slc 0 32 l 64 1,.int .i64 z]) = .tup [.int .i64 i,.slc (size H) 32 l 64 1,.int .i64 z]:=by
 unfold backV
 simp[ren,renL,backN,size_eq]
theorem back_un0(H:Hl)(i z:Int):backV [] H.length (.tup [.int .i64 i,.nils,.int .i64 z]) = .tup [.int .i64 i,.nils,.int .i64 z]:=by
 unfold backV
 simp only[ren,renL]
theorem unw_look {f : Nat} (hv : ∀ {ks pc : List AV} {n off : Nat}, PUn ks n pc off → ∀ (c : Nat) (e : Bool) (cp : Nat) (ex : Bool),
      (uf0.hit ks n pc off=true→CallTo Tryd.prog f [.ros ks 0 n c e,.ros pc off 96 cp ex] [] (.tup [.int .i64 (Int.ofNat (uf0.ix ks n pc off)),.slc 0 32 (uf0.ln ks n pc off) 64 1,.int .i64 (Int.ofNat 0)]) [.cells (uf0.bs ks n pc off)] []) ∧
      (uf0.hit ks n pc off=false→CallTo Tryd.prog f [.ros ks 0 n c e,.ros pc off 96 cp ex] [] (.tup [.int .i64 (Int.ofNat 0),.nils,.int .i64 (Int.ofNat 4)]) [] []))
    {H:Hl} {x y:AV} {ks pc:List AV} {n off c cp:Nat} {e ex:Bool} (hx:vw1 H x = .ros ks 0 n c e) (hy:vw1 H y = .ros pc off 96 cp ex) (hP:PUn ks n pc off) :
    CallTo Tryd.prog f [x,y] H (CRes.cond (uf0.hit ks n pc off) (.ok (.tup [.int .i64 (Int.ofNat (uf0.ix ks n pc off)),.slc (size H) 32 (uf0.ln ks n pc off) 64 1,.int .i64 (Int.ofNat 0)]) (join H [.cells (uf0.bs ks n pc off)]) []) (.ok (.tup [.int .i64 (Int.ofNat 0),.nils,.int .i64 (Int.ofNat 4)]) H [])).fin.1
      (CRes.cond (uf0.hit ks n pc off) (.ok (.tup [.int .i64 (Int.ofNat (uf0.ix ks n pc off)),.slc (size H) 32 (uf0.ln ks n pc off) 64 1,.int .i64 (Int.ofNat 0)]) (join H [.cells (uf0.bs ks n pc off)]) []) (.ok (.tup [.int .i64 (Int.ofNat 0),.nils,.int .i64 (Int.ofNat 4)]) H [])).fin.2.1
      (CRes.cond (uf0.hit ks n pc off) (.ok (.tup [.int .i64 (Int.ofNat (uf0.ix ks n pc off)),.slc (size H) 32 (uf0.ln ks n pc off) 64 1,.int .i64 (Int.ofNat 0)]) (join H [.cells (uf0.bs ks n pc off)]) []) (.ok (.tup [.int .i64 (Int.ofNat 0),.nils,.int .i64 (Int.ofNat 4)]) H [])).fin.2.2:=by
  obtain⟨h1,h2⟩:=hv hP c e cp ex
  have hV:=Vws.cons (Vw.one hx hP.1.1) (.cons (Vw.one hy hP.2.2.1) .nil)
  cases hk:uf0.hit ks n pc off with
  | true =>
    have h:=lookB (H:=H) (h1 hk) (flat_by8 _) hV
    rw[back_un] at h
    exact h
  | false =>
    have h:=CallTo.lookV (H:=H) (h2 hk) hV
    rw[back_un0] at h
    exact h
theorem cnV_ok:CnOK Tryd.prog (cnV uf0 tr0 bz0 oz0 of1 hf0):=by
 refine cnOr_ok ?_ cnU_ok
 intro f vals H p x e hp
 dsimp only at e
 split at e
 ·split at e<;>cases e
  rename_i hx hy
  exact unw_look (fun h c e cp ex=>calld5 h c e cp ex) hx hy hp
 ·split at e<;>cases e
  rename_i hx hy
  exact unw_look (fun h c e cp ex=>calld6 h c e cp ex) hx hy hp
 ·cases e
theorem tabL3_ok:∀ f vf,tabL3 f=some vf→FnOK Tryd.prog f vf:=by
 intro f vf h
 unfold tabL3 at h
 split at h<;>cases h
 ·exact ok3
 ·exact ok7
 ·exact ok12
theorem nilExD{R:List UInt8→Prop}(h:R []):∃ l:List UInt8,(([]:List AV)=List.map (fun b=>AV.int .u8 ((b.toNat:Nat):Int)) l)∧R l:=⟨[],rfl,h⟩
theorem strEx'{xs:List AV}{l:List UInt8}{R:List UInt8→Prop}(e:xs=l.map by8)(h:R l):∃ l1,(xs=List.map (fun b=>AV.int .u8 ((b.toNat:Nat):Int)) l1)∧R l1:=⟨l,by rw[e]; exact by8_str l,h⟩
theorem eqsTD{l:List UInt8}{r s:Prop}(h:r):Br (ops0.eqs l l) r s:=Br.t (by rw[nEqs]; exact decide_eq_true rfl) h
end
end Go.Proofs.Vm

namespace Go.Proofs.Vm
open Go.Vm
set_option maxRecDepth 100000
noncomputable section
def pR(pc:List AV)(off len:Nat):List AV:=ops0.spl (z8 64) 0 (ops0.ext (ops0.ext pc off (ops0.mul len 1)) 0 (ops0.mul (ops0.min len 64) 1))
def tR(F:HF)(pc kk:List AV)(off len:Nat):List AV:=GF.tag (NG.toGF (HF.toNG F)) (ops0.ext kk 0 32) [102,97,105,108] [partA (.ros (pR pc off len) 0 64 64 false)]
def n64(len:Nat):Nat:=ops0.nat (ops0.bin .sub .i64 (Int.ofNat 64) (ops0.ofn len))
def l64(len:Nat):Nat:=ops0.add len (n64 len)
def qRd(pc:List AV)(off len:Nat):List AV:=ops0.app (ops0.ext (ops0.ext pc off (ops0.mul len 1)) 0 (ops0.mul len 1)) (ops0.rep (n64 len) [.int .u8 (Int.ofNat 0)])
def sR(F:HF)(pc kk:List AV)(off len:Nat):List AV:=GF.tag (NG.toGF (HF.toNG F)) (ops0.ext kk 0 32) [102,97,105,108] [partA (.ros (qRd pc off len) 0 (l64 len) (l64 len) false)]
def tabFd(f:Nat):Option VF:=match f with
 | 10=>some vf10
 | 11=>some vf11
 | 12=>some vf12
 | 23=>some vf23
 | 47=>some vf47
 | _=>none
theorem vc10(T:TRF)(B:BZ)(Z:OZ)(O:OY)(F:HF)(pc kk:List AV)(off len cp:Nat)(ex:Bool)(Q:AV→Hl→Prop) :
  (vcall (vcA kdS (cnU T B Z O F) noLn) ops0 tabFd 200 vf10 [.agg kk,.ros pc off len cp ex] [] (fun r H _=>Q r H)) =
 ((Br (ops0.cmp .gtr (ops0.ofn len) (Int.ofNat 64))
 (Q (.tup [.nils,(.int .i64 (.ofNat 1))]) [(.cells kk)])
 (Br (ops0.cmp .gtr (ops0.ofn len) (Int.ofNat 0))
 (Chk (ops0.inr (ops0.bin .sub .i64 (ops0.ofn len) (Int.ofNat 1)) len)
 (∃ n:Int,((Nth pc (ops0.adr off (ops0.bin .sub .i64 (ops0.ofn len) (Int.ofNat 1)) 1) (.int .u8 n)) ∧
 (Br (ops0.cmp .eql n (Int.ofNat 0))
 (Q (.tup [.nils,(.int .i64 (.ofNat 1))]) [(.cells kk)])
 (Chk (ops0.le (ops0.add off (ops0.mul len 1)) (ops0.len pc))
 (Chk (ops0.le 32 (ops0.len kk))
 (((PKey (ops0.ext kk 0 32)) ∧
 (PTag [(.ros (pR pc off len) 0 64 64 Bool.false)] 0 1)) ∧
 (Chk (ops0.eq (ops0.len (tR F pc kk off len)) 32)
 (Chk (ops0.le 32 (ops0.len kk))
 (Chk (ops0.le 32 (ops0.len (ops0.spl (z8 32) 0 (tR F pc kk off len))))
 (Chk (ops0.le 32 (ops0.len (ops0.spl (z8 32) 0 (tR F pc kk off len))))
 (Chk (ops0.le 32 (ops0.len (ops0.app [] (ops0.ext (ops0.spl (z8 32) 0 (tR F pc kk off len)) 0 32))))
 (Chk (ops0.le 64 (ops0.len (pR pc off len)))
 (Chk (ops0.le 32 (ops0.len (ops0.ext kk 0 32)))
 (((PKey (ops0.ext (ops0.ext kk 0 32) 0 32)) ∧
 (PB (ops0.app (ops0.ext (ops0.app [] (ops0.ext (ops0.spl (z8 32) 0 (tR F pc kk off len)) 0 32)) 0 32) (ops0.ext (pR pc off len) 0 64)) 0 96)) ∧
 (Q (.tup [(.slc 7 0 96 96 1),(.int .i64 (.ofNat 0))]) [(.cells kk),(.cells (pR pc off len)),(.cells (ops0.spl (z8 32) 0 (tR F pc kk off len))),.dead,.dead,(.cells (ops0.app (ops0.ext (ops0.app [] (ops0.ext (ops0.spl (z8 32) 0 (tR F pc kk off len)) 0 32)) 0 32) (ops0.ext (pR pc off len) 0 64))),(.cells (ops0.ext kk 0 32)),(.cells (HF.mask F (ops0.ext (ops0.ext kk 0 32) 0 32) [98,97,99,107] (rdB (ops0.app (ops0.ext (ops0.app [] (ops0.ext (ops0.spl (z8 32) 0 (tR F pc kk off len)) 0 32)) 0 32) (ops0.ext (pR pc off len) 0 64)) 0 96)))]))))))))))))))))
 (Chk (ops0.le (ops0.add off (ops0.mul len 1)) (ops0.len pc))
 (Chk (ops0.le 32 (ops0.len kk))
 (((PKey (ops0.ext kk 0 32)) ∧
 (PTag [(.ros (pR pc off len) 0 64 64 Bool.false)] 0 1)) ∧
 (Chk (ops0.eq (ops0.len (tR F pc kk off len)) 32)
 (Chk (ops0.le 32 (ops0.len kk))
 (Chk (ops0.le 32 (ops0.len (ops0.spl (z8 32) 0 (tR F pc kk off len))))
 (Chk (ops0.le 32 (ops0.len (ops0.spl (z8 32) 0 (tR F pc kk off len))))
 (Chk (ops0.le 32 (ops0.len (ops0.app [] (ops0.ext (ops0.spl (z8 32) 0 (tR F pc kk off len)) 0 32))))
 (Chk (ops0.le 64 (ops0.len (pR pc off len)))
 (Chk (ops0.le 32 (ops0.len (ops0.ext kk 0 32)))
 (((PKey (ops0.ext (ops0.ext kk 0 32) 0 32)) ∧
 (PB (ops0.app (ops0.ext (ops0.app [] (ops0.ext (ops0.spl (z8 32) 0 (tR F pc kk off len)) 0 32)) 0 32) (ops0.ext (pR pc off len) 0 64)) 0 96)) ∧
 (Q (.tup [(.slc 7 0 96 96 1),(.int .i64 (.ofNat 0))]) [(.cells kk),(.cells (pR pc off len)),(.cells (ops0.spl (z8 32) 0 (tR F pc kk off len))),.dead,.dead,(.cells (ops0.app (ops0.ext (ops0.app [] (ops0.ext (ops0.spl (z8 32) 0 (tR F pc kk off len)) 0 32)) 0 32) (ops0.ext (pR pc off len) 0 64))),(.cells (ops0.ext kk 0 32)),(.cells (HF.mask F (ops0.ext (ops0.ext kk 0 32) 0 32) [98,97,99,107] (rdB (ops0.app (ops0.ext (ops0.app [] (ops0.ext (ops0.spl (z8 32) 0 (tR F pc kk off len)) 0 32)) 0 32) (ops0.ext (pR pc off len) 0 64)) 0 96)))]))))))))))))))):=by kernel_rfl
theorem vc11(T:TRF)(B:BZ)(Z:OZ)(O:OY)(F:HF)(pc kk:List AV)(off len cp:Nat)(ex:Bool)(Q:AV→Hl→Prop) :
  (vcall (vcA kdS (cnU T B Z O F) noLn) ops0 tabFd 200 vf11 [.agg kk,.ros pc off len cp ex] [] (fun r H _=>Q r H)) =
 ((Br (ops0.cmp .gtr (ops0.ofn len) (Int.ofNat 64))
 (Q (.tup [.nils,(.int .i64 (.ofNat 1))]) [(.cells kk)])
 (Br (ops0.cmp .gtr (ops0.ofn len) (Int.ofNat 0))
 (Chk (ops0.inr (ops0.bin .sub .i64 (ops0.ofn len) (Int.ofNat 1)) len)
 (∃ n:Int,((Nth pc (ops0.adr off (ops0.bin .sub .i64 (ops0.ofn len) (Int.ofNat 1)) 1) (.int .u8 n)) ∧
 (Br (ops0.cmp .eql n (Int.ofNat 0))
 (Q (.tup [.nils,(.int .i64 (.ofNat 1))]) [(.cells kk)])
 (Chk (ops0.le (ops0.add off (ops0.mul len 1)) (ops0.len pc))
 (Chk (ops0.room 0 len 1)
 (Chk (ops0.le (ops0.add 0 (ops0.mul len 1)) (ops0.len (ops0.ext pc off (ops0.mul len 1))))
 (Chk (ops0.nn (ops0.bin .sub .i64 (Int.ofNat 64) (ops0.ofn len)))
 (Chk (ops0.room len (n64 len) 1)
 (Chk (ops0.le 32 (ops0.len kk))
 (((PKey (ops0.ext kk 0 32)) ∧
 (PTag [(.ros (qRd pc off len) 0 (l64 len) (l64 len) Bool.false)] 0 1)) ∧
 (Chk (ops0.eq (ops0.len (sR F pc kk off len)) 32)
 (Chk (ops0.le 32 (ops0.len kk))
 (Chk (ops0.le 32 (ops0.len (ops0.spl (z8 32) 0 (sR F pc kk off len))))
 (Chk (ops0.le 32 (ops0.len (ops0.spl (z8 32) 0 (sR F pc kk off len))))
 (Chk (ops0.le 32 (ops0.len (ops0.ext (ops0.spl (z8 32) 0 (sR F pc kk off len)) 0 32)))
 (Chk (ops0.le (ops0.add 0 (ops0.mul (l64 len) 1)) (ops0.len (qRd pc off len)))
 (Chk (ops0.room 32 (l64 len) 1)
 (((PKey (ops0.ext kk 0 32)) ∧
 (PB (ops0.app (ops0.ext (ops0.ext (ops0.spl (z8 32) 0 (sR F pc kk off len)) 0 32) 0 32) (ops0.ext (qRd pc off len) 0 (ops0.mul (l64 len) 1))) 0 (ops0.add 32 (l64 len)))) ∧
 (Br (inM [98,97,99,107] (ops0.add 32 (l64 len)))
 (Q (.tup [(.slc 6 0 (ops0.add 32 (l64 len)) (ops0.add 32 (l64 len)) 1),(.int .i64 (.ofNat 0))]) [(.cells kk),.dead,(.cells (qRd pc off len)),(.cells (ops0.spl (z8 32) 0 (sR F pc kk off len))),.dead,(.cells (ops0.app (ops0.ext (ops0.ext (ops0.spl (z8 32) 0 (sR F pc kk off len)) 0 32) 0 32) (ops0.ext (qRd pc off len) 0 (ops0.mul (l64 len) 1)))),(.cells (HF.mask F (ops0.ext kk 0 32) [98,97,99,107] (rdB (ops0.app (ops0.ext (ops0.ext (ops0.spl (z8 32) 0 (sR F pc kk off len)) 0 32) 0 32) (ops0.ext (qRd pc off len) 0 (ops0.mul (l64 len) 1))) 0 (ops0.add 32 (l64 len)))))])
 (Q (.tup [.nils,(.int .i64 (.ofNat 0))]) [(.cells kk),.dead,(.cells (qRd pc off len)),(.cells (ops0.spl (z8 32) 0 (sR F pc kk off len))),.dead,(.cells (ops0.app (ops0.ext (ops0.ext (ops0.spl (z8 32) 0 (sR F pc kk off len)) 0 32) 0 32) (ops0.ext (qRd pc off len) 0 (ops0.mul (l64 len) 1))))])))))))))))))))))))))
 (Chk (ops0.le (ops0.add off (ops0.mul len 1)) (ops0.len pc))
 (Chk (ops0.room 0 len 1)
 (Chk (ops0.le (ops0.add 0 (ops0.mul len 1)) (ops0.len (ops0.ext pc off (ops0.mul len 1))))
 (Chk (ops0.nn (ops0.bin .sub .i64 (Int.ofNat 64) (ops0.ofn len)))
 (Chk (ops0.room len (n64 len) 1)
 (Chk (ops0.le 32 (ops0.len kk))
 (((PKey (ops0.ext kk 0 32)) ∧
 (PTag [(.ros (qRd pc off len) 0 (l64 len) (l64 len) Bool.false)] 0 1)) ∧
 (Chk (ops0.eq (ops0.len (sR F pc kk off len)) 32)
 (Chk (ops0.le 32 (ops0.len kk))
 (Chk (ops0.le 32 (ops0.len (ops0.spl (z8 32) 0 (sR F pc kk off len))))
 (Chk (ops0.le 32 (ops0.len (ops0.spl (z8 32) 0 (sR F pc kk off len))))
 (Chk (ops0.le 32 (ops0.len (ops0.ext (ops0.spl (z8 32) 0 (sR F pc kk off len)) 0 32)))
 (Chk (ops0.le (ops0.add 0 (ops0.mul (l64 len) 1)) (ops0.len (qRd pc off len)))
 (Chk (ops0.room 32 (l64 len) 1)
 (((PKey (ops0.ext kk 0 32)) ∧
 (PB (ops0.app (ops0.ext (ops0.ext (ops0.spl (z8 32) 0 (sR F pc kk off len)) 0 32) 0 32) (ops0.ext (qRd pc off len) 0 (ops0.mul (l64 len) 1))) 0 (ops0.add 32 (l64 len)))) ∧
 (Br (inM [98,97,99,107] (ops0.add 32 (l64 len)))
 (Q (.tup [(.slc 6 0 (ops0.add 32 (l64 len)) (ops0.add 32 (l64 len)) 1),(.int .i64 (.ofNat 0))]) [(.cells kk),.dead,(.cells (qRd pc off len)),(.cells (ops0.spl (z8 32) 0 (sR F pc kk off len))),.dead,(.cells (ops0.app (ops0.ext (ops0.ext (ops0.spl (z8 32) 0 (sR F pc kk off len)) 0 32) 0 32) (ops0.ext (qRd pc off len) 0 (ops0.mul (l64 len) 1)))),(.cells (HF.mask F (ops0.ext kk 0 32) [98,97,99,107] (rdB (ops0.app (ops0.ext (ops0.ext (ops0.spl (z8 32) 0 (sR F pc kk off len)) 0 32) 0 32) (ops0.ext (qRd pc off len) 0 (ops0.mul (l64 len) 1))) 0 (ops0.add 32 (l64 len)))))])
 (Q (.tup [.nils,(.int .i64 (.ofNat 0))]) [(.cells kk),.dead,(.cells (qRd pc off len)),(.cells (ops0.spl (z8 32) 0 (sR F pc kk off len))),.dead,(.cells (ops0.app (ops0.ext (ops0.ext (ops0.spl (z8 32) 0 (sR F pc kk off len)) 0 32) 0 32) (ops0.ext (qRd pc off len) 0 (ops0.mul (l64 len) 1))))])))))))))))))))))))):=by kernel_rfl
end
end Go.Proofs.Vm

namespace Go.Proofs.Vm
open Go.Vm
set_option maxRecDepth 100000
noncomputable section
def padR(lb:List UInt8):List UInt8:=lb++List.replicate (64 - lb.length) 0
def okR(lb:List UInt8):Bool:=decide (lb.length≤64) && (decide (lb.length=0) || decide (lb.getD (lb.length - 1) 0≠0))
def flM(k lb:List UInt8):List UInt8:=flT k (padR lb)++padR lb
def flX(k lb:List UInt8):List UInt8:=bkL k (flM k lb)
theorem padR_len{lb:List UInt8}(h:lb.length≤64):(padR lb).length=64:=by
 unfold padR
 rw[List.length_append,List.length_replicate]
 omega
theorem flM_len{k lb:List UInt8}(h:lb.length≤64):(flM k lb).length=96:=by
 unfold flM
 rw[List.length_append,flT_len,padR_len h]
theorem flX_len{k lb:List UInt8}(h:lb.length≤64):(flX k lb).length=96:=by
 unfold flX
 rw[bk_len,flM_len h]
theorem padR_map(lb:List UInt8):(padR lb).map by8=lb.map by8++z8 (64 - lb.length):=by
 unfold padR
 rw[List.map_append,z8_eq]
theorem ext_at{pc:List AV}{off len:Nat}{lb:List UInt8}(hb:BytesAt pc off len lb):ops0.ext pc off (ops0.mul len 1)=lb.map by8:=by
 rw[nTimes,Nat.mul_one,nExt]
 exact hb.2
section
variable {pc:List AV}{off len:Nat}{lb k:List UInt8}
theorem pR_eq(hb:BytesAt pc off len lb)(h:len≤64):pR pc off len=(padR lb).map by8:=by
 have hl:=hb.1
 have e1:ops0.min len 64=len:=by show(if len≤64 then len else 64)=len;rw[if_pos h]
 unfold pR
 rw[ext_at hb,e1,nTimes,Nat.mul_one,nExt,List.drop_zero,List.take_of_length_le (by rw[List.length_map]; omega),nSpl,List.take_zero,List.nil_append,Nat.zero_add,List.length_map,z8_drop,padR_map]
theorem n64_eq(h:len≤64):n64 len=64 - len:=by
 unfold n64
 rw[nOfn,nSub h (by omega),nNat]
theorem l64_eq(h:len≤64):l64 len=64:=by
 unfold l64
 rw[n64_eq h,nPlus]
 omega
theorem repd8:∀ n:Nat,(List.replicate n [AV.int .u8 (Int.ofNat 0)]).flatten=z8 n:=by
 intro n
 induction n with
 | zero=>rfl
 | succ n ih=>rw[List.replicate_succ,List.flatten_cons,ih]; rfl
theorem qRd_eq(hb:BytesAt pc off len lb)(h:len≤64):qRd pc off len=(padR lb).map by8:=by
 have hl:=hb.1
 unfold qRd
 rw[ext_at hb,nTimes,Nat.mul_one,nExt,List.drop_zero,List.take_of_length_le (by rw[List.length_map]; omega),n64_eq h,nApp,nRep,padR_map,hl]
 congr 1
 exact repd8 (64 - len)
theorem tR_eq(hk:k.length=32)(hb:BytesAt pc off len lb)(h:len≤64):tR hf0 pc (k.map by8) off len=(flT k (padR lb)).map by8:=by
 have hp:partA (.ros ((padR lb).map by8) 0 64 64 false)=padR lb:=rdW (padR_len (by rw[hb.1]; exact h))
 unfold tR
 rw[pR_eq hb h,ext32' hk,hp]
 exact htag_eq _ _ _
theorem sR_eq(hk:k.length=32)(hb:BytesAt pc off len lb)(h:len≤64):sR hf0 pc (k.map by8) off len=(flT k (padR lb)).map by8:=by
 have hp:partA (.ros ((padR lb).map by8) 0 64 64 false)=padR lb:=rdW (padR_len (by rw[hb.1]; exact h))
 unfold sR
 rw[l64_eq h,qRd_eq hb h,ext32' hk,hp]
 exact htag_eq _ _ _
theorem ptag0{b:List UInt8}(hb:b.length=64):PTag [.ros (b.map by8) 0 64 64 false] 0 1:=by
 have ha:BytesAt (b.map by8) 0 64 b:=⟨hb,by rw[List.drop_zero,List.take_of_length_le (by rw[List.length_map]; omega)]⟩
 refine⟨⟨fun p hp => ?_,[b],rfl,by omega,fun j x hx => ?_⟩,fun j hj pc off len cap ex hp => ?_,?_⟩
 ·simp only[List.mem_cons,List.not_mem_nil,or_false] at hp
  subst hp
  exact⟨_,_,_,_,_,rfl,flat_by8 _⟩
 ·cases j with
  | zero =>
   obtain rfl:b=x:=Option.some.inj hx
   exact⟨by rw[ha.1]; omega,_,_,_,_,_,rfl,ha⟩
  | succ j=>cases hx
 ·cases j with
  | zero=>cases hp;rw[List.length_map,hb]; omega
  | succ j=>omega
 ·rw[partsL_one,partA_ros ha]
  unfold textL
  have:=ha.1
  simp[bytesN_length]
  omega
theorem call_own{f:Nat}{vals:List AV}{H':Hl}{lg:List Nat}{b n:Nat}{z:Int}{l:List UInt8}(hc:CallTo Tryd.prog f vals [] (.tup [.slc b 0 n n 1,.int .i64 z]) H' lg)(hb:H'[b]? = some (.cells (l.map by8))) :
  CallTo Tryd.prog f vals [] (.tup [.slc 0 0 n n 1,.int .i64 z]) [.cells (l.map by8)] []:=by
 have hlt:b<H'.length:=(List.getElem?_eq_some_iff.1 hb).1
 have h:=hc.pick (lg0 := []) [b] (by simp) (by simpa using hlt) (fun b hb=>by simp at hb) (fun b hb=>by simp at hb)
 have e1:ren (pickN [b]) Go.Vm.noView true (.tup [.slc b 0 n n 1,.int .i64 z]) = .tup [.slc 0 0 n n 1,.int .i64 z]:=by
  have hp:pickN [b] b=some 0:=pickN_self b
  simp only[ren,renL,hp]
 have e2:wkH [b] H' = [.cells (l.map by8)]:=by
  simp only[wkH,pickH,List.map_cons,List.map_nil,hb,renB,renL_flat (flat_by8 l)]
 rw[e1,e2] at h
 exact h
theorem call_bare1{f:Nat}{vals:List AV}{H':Hl}{lg:List Nat}{z:Int}(hc:CallTo Tryd.prog f vals [] (.tup [.nils,.int .i64 z]) H' lg):CallTo Tryd.prog f vals [] (.tup [.nils,.int .i64 z]) [] []:=by
 have h:=hc.pick (lg0 := []) [] List.nodup_nil (fun b hb=>by cases hb) (fun b hb=>by simp at hb) (fun b hb=>by simp at hb)
 simpa only[ren,renL,wkH,pickH,List.map_nil] using h
theorem okR_long(h:64<lb.length):okR lb=false:=by
 unfold okR
 rw[decide_eq_false (by omega),Bool.false_and]
theorem okR_zero(h:lb.length=0):okR lb=true:=by
 unfold okR
 rw[decide_eq_true (by omega),decide_eq_true h]
 rfl
theorem okR_last(h:lb.length≤64)(h0:lb.length≠0):okR lb=decide (lb.getD (lb.length - 1) 0≠0):=by
 unfold okR
 rw[decide_eq_true h,decide_eq_false h0,Bool.true_and,Bool.false_or]
theorem last_at(hb:BytesAt pc off len lb)(h0:0<len)(h64:len≤64):ops0.bin .sub .i64 (ops0.ofn len) (Int.ofNat 1)=Int.ofNat (len - 1)∧Nth pc (ops0.adr off (Int.ofNat (len - 1)) 1) (.int .u8 (Int.ofNat (lb.getD (lb.length - 1) 0).toNat)):=by
 have hl:=hb.1
 refine⟨by rw[nOfn,nSub (by omega) (by omega)],Nth.mk ?_⟩
 have h:=hb.get (j:=len - 1) (by omega)
 have e:lb.getD (lb.length - 1) 0=lb[len - 1]'(by omega):=by
  have e0:lb.length - 1=len - 1:=by omega
  rw[List.getD_eq_getElem?_getD,e0,List.getElem?_eq_getElem (by omega)]
  rfl
 rw[nAdr,Nat.mul_one,e]
 exact h
theorem flM_10(hk:k.length=32)(hb:BytesAt pc off len lb)(h:len≤64):ops0.app (ops0.ext (ops0.app [] (ops0.ext (ops0.spl (z8 32) 0 (tR hf0 pc (k.map by8) off len)) 0 32)) 0 32) (ops0.ext (pR pc off len) 0 64)=(flM k lb).map by8:=by
 have lP:=padR_len (lb:=lb) (by rw[hb.1]; exact h)
 rw[tR_eq hk hb h,pR_eq hb h,spl32 (flT_len _ _),ext32' (flT_len _ _),nApp,nApp,List.nil_append,ext32' (flT_len _ _),ext_all lP,←List.map_append]
 rfl
theorem flM_11(hk:k.length=32)(hb:BytesAt pc off len lb)(h:len≤64):ops0.app (ops0.ext (ops0.ext (ops0.spl (z8 32) 0 (sR hf0 pc (k.map by8) off len)) 0 32) 0 32) (ops0.ext (qRd pc off len) 0 (ops0.mul (l64 len) 1))=(flM k lb).map by8:=by
 have lP:=padR_len (lb:=lb) (by rw[hb.1]; exact h)
 rw[sR_eq hk hb h,qRd_eq hb h,spl32 (flT_len _ _),ext32' (flT_len _ _),ext32' (flT_len _ _),l64_eq h,nTimes,Nat.mul_one,ext_all lP,nApp,←List.map_append]
 rfl
theorem tabFd_ok:∀ f vf,tabFd f=some vf→FnOK Tryd.prog f vf:=by
 intro f vf h
 unfold tabFd at h
 split at h<;>cases h
 ·exact ok10
 ·exact ok11
 ·exact ok12
 ·exact ok23
 ·exact ok47
theorem calld10(hk:k.length=32)(pb:PB pc off len)(hb:BytesAt pc off len lb)(cp:Nat)(ex:Bool) :
  (okR lb=true→CallTo Tryd.prog 10 [.agg (k.map by8),.ros pc off len cp ex] [] (.tup [.slc 0 0 96 96 1,.int .i64 (Int.ofNat 0)]) [.cells ((flX k lb).map by8)] []) ∧
  (okR lb=false→CallTo Tryd.prog 10 [.agg (k.map by8),.ros pc off len cp ex] [] (.tup [.nils,.int .i64 (Int.ofNat 1)]) [] []):=by
 have key:∃ r H' lg,CallTo Tryd.prog 10 [.agg (k.map by8),.ros pc off len cp ex] [] r H' lg∧((okR lb=true∧r = .tup [.slc 7 0 96 96 1,.int .i64 (Int.ofNat 0)]∧H'[7]? = some (.cells ((flX k lb).map by8)))∨(okR lb=false∧r = .tup [.nils,.int .i64 (Int.ofNat 1)])):=by
  refine call_vcx (Q:=fun r H _=>(okR lb=true∧r = .tup [.slc 7 0 96 96 1,.int .i64 (Int.ofNat 0)]∧H[7]? = some (.cells ((flX k lb).map by8)))∨(okR lb=false∧r = .tup [.nils,.int .i64 (Int.ofNat 1)])) cnU_ok (noLn_ok _) tabFd_ok (show tabFd 10=some vf10 from rfl) (n:=200) (g:=kdS) ?_
  have hl:=hb.1
  have po:=pb.2.1
  rw[vc10]
  by_cases h64:64<len
  ·exact Br.t (by rw[nOfn,nGtr]; exact decide_eq_true h64) (.inr ⟨okR_long (by omega),rfl⟩)
  ·have h64:len≤64:=by omega
   have lP:=padR_len (lb:=lb) (by omega)
   have ft:=flT_len k (padR lb)
   have lM:=flM_len (k:=k) (lb:=lb) (by omega)
   have ck:32≤ops0.len (k.map by8):=by rw[nLen,List.length_map]; omega
   rw[flM_10 hk hb h64,tR_eq hk hb h64,pR_eq hb h64,ext32' hk,ext32' hk,spl32 ft,ext32' ft,rdW lM]
   have hm:HF.mask hf0 (k.map by8) [98,97,99,107] (flM k lb)=(flX k lb).map by8:=hmask_eq _ _ _
   rw[hm]
   refine Br.f (by rw[nOfn,nGtr]; exact decide_eq_false (by omega)) ?_
   by_cases h0:0<len
   ·obtain⟨e1,hn⟩:=last_at hb h0 h64
    rw[e1]
    refine Br.t (by rw[nOfn,nGtr]; exact decide_eq_true h0) (Chk.mk (by rw[nInr]; exact decide_eq_true (by omega)) ⟨_,hn,?_⟩)
    have eo:=okR_last (lb:=lb) (by omega) (by omega)
    by_cases hz:lb.getD (lb.length - 1) 0=0
    ·exact Br.t (by rw[hz]; rfl) (.inr ⟨by rw[eo]; exact decide_eq_false (by rw[hz]; simp),rfl⟩)
    ·have ok:okR lb=true:=by rw[eo]; exact decide_eq_true hz
     refine Br.f (by rw[nEql]; exact decide_eq_false fun h=>hz (UInt8.toNat.inj h)) ?_
     exact ckle (by rw[nTimes,nPlus,nLen]; omega) (ckle ck ⟨⟨pkey k hk,ptag0 lP⟩,ckeq (by rw[nLen,List.length_map]; omega) (ckle ck (ckle (by rw[nLen,List.length_map]; omega) (ckle (by rw[nLen,List.length_map]; omega) (ckle (by rw[nApp,List.nil_append,nLen,List.length_map]; omega) (ckle (by rw[nLen,List.length_map]; omega) (ckle ck ⟨⟨pkey k hk,pb_whole _ 96 (by omega) (by omega)⟩,.inl ⟨ok,rfl,rfl⟩⟩))))))⟩)
   ·have ok:okR lb=true:=okR_zero (by omega)
    refine Br.f (by rw[nOfn,nGtr]; exact decide_eq_false (by omega)) ?_
    exact ckle (by rw[nTimes,nPlus,nLen]; omega) (ckle ck ⟨⟨pkey k hk,ptag0 lP⟩,ckeq (by rw[nLen,List.length_map]; omega) (ckle ck (ckle (by rw[nLen,List.length_map]; omega) (ckle (by rw[nLen,List.length_map]; omega) (ckle (by rw[nApp,List.nil_append,nLen,List.length_map]; omega) (ckle (by rw[nLen,List.length_map]; omega) (ckle ck ⟨⟨pkey k hk,pb_whole _ 96 (by omega) (by omega)⟩,.inl ⟨ok,rfl,rfl⟩⟩))))))⟩)
 obtain⟨r,H',lg,hc,hq⟩:=key
 refine⟨fun ht => ?_,fun hf => ?_⟩
 ·rcases hq with ⟨_,rfl,h7⟩|⟨h,_⟩
  ·exact call_own hc h7
  ·rw[ht] at h;cases h
 ·rcases hq with ⟨h,_⟩|⟨_,rfl⟩
  ·rw[hf] at h;cases h
  ·exact call_bare1 hc
theorem calld11(hk:k.length=32)(pb:PB pc off len)(hb:BytesAt pc off len lb)(cp:Nat)(ex:Bool) :
  (okR lb=true→CallTo Tryd.prog 11 [.agg (k.map by8),.ros pc off len cp ex] [] (.tup [.slc 0 0 96 96 1,.int .i64 (Int.ofNat 0)]) [.cells ((flX k lb).map by8)] []) ∧
  (okR lb=false→CallTo Tryd.prog 11 [.agg (k.map by8),.ros pc off len cp ex] [] (.tup [.nils,.int .i64 (Int.ofNat 1)]) [] []):=by
 have key:∃ r H' lg,CallTo Tryd.prog 11 [.agg (k.map by8),.ros pc off len cp ex] [] r H' lg∧((okR lb=true∧r = .tup [.slc 6 0 96 96 1,.int .i64 (Int.ofNat 0)]∧H'[6]? = some (.cells ((flX k lb).map by8)))∨(okR lb=false∧r = .tup [.nils,.int .i64 (Int.ofNat 1)])):=by
  refine call_vcx (Q:=fun r H _=>(okR lb=true∧r = .tup [.slc 6 0 96 96 1,.int .i64 (Int.ofNat 0)]∧H[6]? = some (.cells ((flX k lb).map by8)))∨(okR lb=false∧r = .tup [.nils,.int .i64 (Int.ofNat 1)])) cnU_ok (noLn_ok _) tabFd_ok (show tabFd 11=some vf11 from rfl) (n:=200) (g:=kdS) ?_
  have hl:=hb.1
  have po:=pb.2.1
  rw[vc11]
  by_cases h64:64<len
  ·exact Br.t (by rw[nOfn,nGtr]; exact decide_eq_true h64) (.inr ⟨okR_long (by omega),rfl⟩)
  ·have h64:len≤64:=by omega
   have lP:=padR_len (lb:=lb) (by omega)
   have ft:=flT_len k (padR lb)
   have lM:=flM_len (k:=k) (lb:=lb) (by omega)
   have ck:32≤ops0.len (k.map by8):=by rw[nLen,List.length_map]; omega
   have hd:32+64=96:=rfl
   have es:ops0.bin .sub .i64 (Int.ofNat 64) (ops0.ofn len)=Int.ofNat (64 - len):=by rw[nOfn,nSub h64 (by omega)]
   rw[flM_11 hk hb h64,sR_eq hk hb h64,qRd_eq hb h64,l64_eq h64,n64_eq h64,es,ext_at hb,ext32' hk,spl32 ft,ext32' ft,nPlus (a:=32) (b:=64),hd,rdW lM]
   have hm:HF.mask hf0 (k.map by8) [98,97,99,107] (flM k lb)=(flX k lb).map by8:=hmask_eq _ _ _
   rw[hm]
   refine Br.f (by rw[nOfn,nGtr]; exact decide_eq_false (by omega)) ?_
   have fin:∀ {A B:Prop},A→(Chk (ops0.le (ops0.add off (ops0.mul len 1)) (ops0.len pc)) (Chk (ops0.room 0 len 1) (Chk (ops0.le (ops0.add 0 (ops0.mul len 1)) (ops0.len (lb.map by8))) (Chk (ops0.nn (Int.ofNat (64 - len))) (Chk (ops0.room len (64 - len) 1) (Chk (ops0.le 32 (ops0.len (k.map by8))) ((PKey (k.map by8)∧PTag [.ros ((padR lb).map by8) 0 64 64 false] 0 1)∧(Chk (ops0.eq (ops0.len ((flT k (padR lb)).map by8)) 32) (Chk (ops0.le 32 (ops0.len (k.map by8))) (Chk (ops0.le 32 (ops0.len ((flT k (padR lb)).map by8))) (Chk (ops0.le 32 (ops0.len ((flT k (padR lb)).map by8))) (Chk (ops0.le 32 (ops0.len ((flT k (padR lb)).map by8))) (Chk (ops0.le (ops0.add 0 (ops0.mul 64 1)) (ops0.len ((padR lb).map by8))) (Chk (ops0.room 32 64 1) ((PKey (k.map by8)∧PB ((flM k lb).map by8) 0 96)∧(Br (inM [98,97,99,107] 96) A B)))))))))))))))):=fun {A B} hA =>
    ckle (by rw[nTimes,nPlus,nLen]; omega) (ckroom (by omega) (ckle (by rw[nTimes,nPlus,nLen,List.length_map]; omega) (Chk.mk (by rw[nNn]) (ckroom (by omega) (ckle ck ⟨⟨pkey k hk,ptag0 lP⟩,ckeq (by rw[nLen,List.length_map]; omega) (ckle ck (ckle (by rw[nLen,List.length_map]; omega) (ckle (by rw[nLen,List.length_map]; omega) (ckle (by rw[nLen,List.length_map]; omega) (ckle (by rw[nTimes,nPlus,nLen,List.length_map]; omega) (ckroom (by omega) ⟨⟨pkey k hk,pb_whole _ 96 (by omega) (by omega)⟩,Br.t rfl hA⟩))))))⟩)))))
   by_cases h0:0<len
   ·obtain⟨e1,hn⟩:=last_at hb h0 h64
    rw[e1]
    refine Br.t (by rw[nOfn,nGtr]; exact decide_eq_true h0) (Chk.mk (by rw[nInr]; exact decide_eq_true (by omega)) ⟨_,hn,?_⟩)
    have eo:=okR_last (lb:=lb) (by omega) (by omega)
    by_cases hz:lb.getD (lb.length - 1) 0=0
    ·exact Br.t (by rw[hz]; rfl) (.inr ⟨by rw[eo]; exact decide_eq_false (by rw[hz]; simp),rfl⟩)
    ·have ok:okR lb=true:=by rw[eo]; exact decide_eq_true hz
     exact Br.f (by rw[nEql]; exact decide_eq_false fun h=>hz (UInt8.toNat.inj h)) (fin (.inl ⟨ok,rfl,rfl⟩))
   ·have ok:okR lb=true:=okR_zero (by omega)
    exact Br.f (by rw[nOfn,nGtr]; exact decide_eq_false (by omega)) (fin (.inl ⟨ok,rfl,rfl⟩))
 obtain⟨r,H',lg,hc,hq⟩:=key
 refine⟨fun ht => ?_,fun hf => ?_⟩
 ·rcases hq with ⟨_,rfl,h7⟩|⟨h,_⟩
  ·exact call_own hc h7
  ·rw[ht] at h;cases h
 ·rcases hq with ⟨h,_⟩|⟨_,rfl⟩
  ·rw[hf] at h;cases h
  ·exact call_bare1 hc
end
end
end Go.Proofs.Vm
