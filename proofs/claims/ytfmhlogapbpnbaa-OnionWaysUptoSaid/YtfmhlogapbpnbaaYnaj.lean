/-
  KECCAK, PART 11: a round of a state.
-/
import Derived.Test.YtfmhlogapbpnbaaYnai
import Derived.Test.YtfmhlogapbpnbaaYnac
import Derived.Below
import Derived.Test.YtfmhlogapbpnbaaYnah
import Derived.Test.YtfmhlogapbpnbaaProg
import Derived.KernelRfl
import Derived.Test.YtfmhlogapbpnbaaYnad
set_option linter.unusedVariables false
set_option linter.unusedSimpArgs false
set_option linter.unusedSectionVars false

namespace Go.Proofs.Vm
set_option maxRecDepth 100000
open Go.Vm
noncomputable section
def qr5(F:List Int->Int->List Int):Con:=fun f vals H=>match f,vals with
 | 74,[]=>some (.tup [.agg byL,.agg toL],H,[])
 | 32,[.int .i64 (.ofNat n)]=>match Nat.blt n 24 with
  | true=>some (.int .u64 (rcs.getD n 0),H,[])
  | false=>none
 | 75,[.ptr b 0,.ptr c 0,.ptr d 0,.int .u64 k]=>match Nat.beq b c,Nat.beq b d,Nat.beq c d with
  | false,false,false=>match nth H b,nth H c,nth H d with
   | some (.cells cs),some (.cells xs),some (.cells ys)=>match qdw .u64 cs,qdw .i64 xs,qdw .i64 ys with
    | some ws,some l,some m=>match Nat.beq (size ws) 25,l == byI,m == toI with
     | true,true,true=>some (.tup [],put H b (.cells ((ex25 (F ws k)).map w)),[b])
     | _,_,_=>none
    | _,_,_=>none
   | _,_,_=>none
  | _,_,_=>none
 | _,_=>none
theorem qrv:ConOK Try.prog (qr5 rnd):=by
 intro f vals H r H' lg h
 unfold qr5 at h
 split at h
 ·cases h
  exact qky 74 [] H _ H [] rfl
 ·rename_i n
  split at h<;>cases h
  rename_i hn
  have hn:=(qcb _ _).1 hn
  exact CallTo.pure (H:=H) 0 (vals := [.int .i64 (.ofNat n)]) (qb3 (qbe _) (qaj ok32) (qad 32 vf32) 0 [] (qu1 n hn) (by simp) (fun b hb=>by cases hb))
 ·rename_i b c d k
  split at h<;>first|cases h|skip
  rename_i n1 n2 n3
  split at h<;>first|cases h|skip
  rename_i cs xs ys hb hx hy
  split at h<;>first|cases h|skip
  rename_i ws l m g1 g2 g3
  split at h<;>cases h
  rename_i hl e1 e2
  have hl:=Nat.eq_of_beq_eq_true hl
  rw[qay] at hl
  rw[qb5] at hb hx hy
  have e1:l=byI:=by simpa using e1
  have e2:m=toI:=by simpa using e2
  have g1:=qb6 g1
  have g2:=qb6 g2
  have g3:=qb6 g3
  subst g1 g2 g3 e1 e2
  obtain⟨s0,s1,s2,s3,s4,s5,s6,s7,s8,s9,s10,s11,s12,s13,s14,s15,s16,s17,s18,s19,s20,s21,s22,s23,s24,rfl⟩:=qdu hl
  have hrun:=qzb (fun op=>bin0 op .u64) (fun op=>shf0 op .u64) rotl s0 s1 s2 s3 s4 s5 s6 s7 s8 s9 s10 s11 s12 s13 s14 s15 s16 s17 s18 s19 s20 s21 s22 s23 s24 k
  rw[qou] at hrun
  have hc:=qb3 qn0 qtm (f:=75) rfl 3 [0] hrun (by simp) (fun i hi hn=>by
   match i,hi,hn with
   | 0,_,hn=>exact absurd (List.mem_singleton.2 rfl) hn
   | 1,_,_=>rfl
   | 2,_,_=>rfl)
  have ne:∀ {x y:Nat},Nat.beq x y=false->x≠y:=fun h e=>by subst e;simp[Nat.beq_refl] at h
  have h2:=CallTo.three (vals := [.ptr b 0,.ptr c 0,.ptr d 0,.int .u64 k]) hc hb hx hy (ne n1) (ne n2) (ne n3) (qaz .u64 [s0,s1,s2,s3,s4,s5,s6,s7,s8,s9,s10,s11,s12,s13,s14,s15,s16,s17,s18,s19,s20,s21,s22,s23,s24]) (qaz .u64 _) (qaz .i64 byI) (qaz .i64 toI) (fun φ=>by
   simp[renL,ren,pickN,qaq,Nat.beq_refl,n1,n2,n3])
  rw[show ex25 (rnd [s0,s1,s2,s3,s4,s5,s6,s7,s8,s9,s10,s11,s12,s13,s14,s15,s16,s17,s18,s19,s20,s21,s22,s23,s24] k)=rnd [s0,s1,s2,s3,s4,s5,s6,s7,s8,s9,s10,s11,s12,s13,s14,s15,s16,s17,s18,s19,s20,s21,s22,s23,s24] k from qhi (qd3 ..)]
  exact h2
 ·cases h
theorem qn6(F:List Int->Int->List Int)(s0 s1 s2 s3 s4 s5 s6 s7 s8 s9 s10 s11 s12 s13 s14 s15 s16 s17 s18 s19 s20 s21 s22 s23 s24:Int):∀ n,n<24 ->
  vcall (optA (qr5 F)) ops0 (qah 34 vf34) 100 vf34 [.agg (([s0,s1,s2,s3,s4,s5,s6,s7,s8,s9,s10,s11,s12,s13,s14,s15,s16,s17,s18,s19,s20,s21,s22,s23,s24]:List Int).map w),.int .i64 (.ofNat n)] [] (cutK 0)=some (.agg ((ex25 (F [s0,s1,s2,s3,s4,s5,s6,s7,s8,s9,s10,s11,s12,s13,s14,s15,s16,s17,s18,s19,s20,s21,s22,s23,s24] (rcs.getD n 0))).map w),[],[])
 | 0,_=>by kernel_rfl
 | 1,_=>by kernel_rfl
 | 2,_=>by kernel_rfl
 | 3,_=>by kernel_rfl
 | 4,_=>by kernel_rfl
 | 5,_=>by kernel_rfl
 | 6,_=>by kernel_rfl
 | 7,_=>by kernel_rfl
 | 8,_=>by kernel_rfl
 | 9,_=>by kernel_rfl
 | 10,_=>by kernel_rfl
 | 11,_=>by kernel_rfl
 | 12,_=>by kernel_rfl
 | 13,_=>by kernel_rfl
 | 14,_=>by kernel_rfl
 | 15,_=>by kernel_rfl
 | 16,_=>by kernel_rfl
 | 17,_=>by kernel_rfl
 | 18,_=>by kernel_rfl
 | 19,_=>by kernel_rfl
 | 20,_=>by kernel_rfl
 | 21,_=>by kernel_rfl
 | 22,_=>by kernel_rfl
 | 23,_=>by kernel_rfl
 | i+24,h=>absurd h (by omega)
theorem qzo{s:List Int}(hs:s.length=25){n:Nat}(hn:n<24)(H:Hl):CallTo Try.prog 34 [.agg (s.map w),.int .i64 (.ofNat n)] H (.agg ((rndN s n).map w)) H []:=by
 obtain⟨s0,s1,s2,s3,s4,s5,s6,s7,s8,s9,s10,s11,s12,s13,s14,s15,s16,s17,s18,s19,s20,s21,s22,s23,s24,rfl⟩:=qdu hs
 have h:=qb3 qrv (qaj ok34) (qad 34 vf34) 0 [] (qn6 rnd s0 s1 s2 s3 s4 s5 s6 s7 s8 s9 s10 s11 s12 s13 s14 s15 s16 s17 s18 s19 s20 s21 s22 s23 s24 n hn) (by simp) (fun b hb=>by cases hb)
 rw[show ex25 (rnd [s0,s1,s2,s3,s4,s5,s6,s7,s8,s9,s10,s11,s12,s13,s14,s15,s16,s17,s18,s19,s20,s21,s22,s23,s24] (rcs.getD n 0))=rndN [s0,s1,s2,s3,s4,s5,s6,s7,s8,s9,s10,s11,s12,s13,s14,s15,s16,s17,s18,s19,s20,s21,s22,s23,s24] n from qhi (qd3 ..)] at h
 have h2:=CallTo.pure (H:=H) 0 (vals := [.agg (([s0,s1,s2,s3,s4,s5,s6,s7,s8,s9,s10,s11,s12,s13,s14,s15,s16,s17,s18,s19,s20,s21,s22,s23,s24]:List Int).map w),.int .i64 (.ofNat n)]) h
 have e:backV [] H.length (.agg ((rndN [s0,s1,s2,s3,s4,s5,s6,s7,s8,s9,s10,s11,s12,s13,s14,s15,s16,s17,s18,s19,s20,s21,s22,s23,s24] n).map w)) = .agg ((rndN [s0,s1,s2,s3,s4,s5,s6,s7,s8,s9,s10,s11,s12,s13,s14,s15,s16,s17,s18,s19,s20,s21,s22,s23,s24] n).map w):=by
  simp only[backV,ren]
  exact congrArg AV.agg (qaa (qaz .u64 _))
 rw[e] at h2
 exact h2
end
end Go.Proofs.Vm

namespace Go.Proofs.Vm
set_option maxRecDepth 100000
open Go.Vm
noncomputable section
theorem qod(F:List Int->Nat->List Int)(s0 s1 s2 s3 s4 s5 s6 s7 s8 s9 s10 s11 s12 s13 s14 s15 s16 s17 s18 s19 s20 s21 s22 s23 s24:Int):∀ n,n<24 ->
  vcall (optA (ql7 F)) ops0 (qah 35 vf35) 100 vf35 [.agg (([s0,s1,s2,s3,s4,s5,s6,s7,s8,s9,s10,s11,s12,s13,s14,s15,s16,s17,s18,s19,s20,s21,s22,s23,s24]:List Int).map w),.int .i64 (.ofNat n)] [] (cutK 0)=some (.agg ((ex25 (F [s0,s1,s2,s3,s4,s5,s6,s7,s8,s9,s10,s11,s12,s13,s14,s15,s16,s17,s18,s19,s20,s21,s22,s23,s24] n)).map w),[],[])
 | 0,_=>by kernel_rfl
 | 1,_=>by kernel_rfl
 | 2,_=>by kernel_rfl
 | 3,_=>by kernel_rfl
 | 4,_=>by kernel_rfl
 | 5,_=>by kernel_rfl
 | 6,_=>by kernel_rfl
 | 7,_=>by kernel_rfl
 | 8,_=>by kernel_rfl
 | 9,_=>by kernel_rfl
 | 10,_=>by kernel_rfl
 | 11,_=>by kernel_rfl
 | 12,_=>by kernel_rfl
 | 13,_=>by kernel_rfl
 | 14,_=>by kernel_rfl
 | 15,_=>by kernel_rfl
 | 16,_=>by kernel_rfl
 | 17,_=>by kernel_rfl
 | 18,_=>by kernel_rfl
 | 19,_=>by kernel_rfl
 | 20,_=>by kernel_rfl
 | 21,_=>by kernel_rfl
 | 22,_=>by kernel_rfl
 | 23,_=>by kernel_rfl
 | i+24,h=>absurd h (by omega)
theorem qzq{s:List Int}(hs:s.length=25){n:Nat}(hn:n<24)(H:Hl):CallTo Try.prog 35 [.agg (s.map w),.int .i64 (.ofNat n)] H (.agg ((rndN s n).map w)) H []:=by
 obtain⟨s0,s1,s2,s3,s4,s5,s6,s7,s8,s9,s10,s11,s12,s13,s14,s15,s16,s17,s18,s19,s20,s21,s22,s23,s24,rfl⟩:=qdu hs
 have h:=qb3 qgp (qaj ok35) (qad 35 vf35) 0 [] (qod rndN s0 s1 s2 s3 s4 s5 s6 s7 s8 s9 s10 s11 s12 s13 s14 s15 s16 s17 s18 s19 s20 s21 s22 s23 s24 n hn) (by simp) (fun b hb=>by cases hb)
 rw[show ex25 (rndN [s0,s1,s2,s3,s4,s5,s6,s7,s8,s9,s10,s11,s12,s13,s14,s15,s16,s17,s18,s19,s20,s21,s22,s23,s24] n)=rndN [s0,s1,s2,s3,s4,s5,s6,s7,s8,s9,s10,s11,s12,s13,s14,s15,s16,s17,s18,s19,s20,s21,s22,s23,s24] n from qhi (qd3 ..)] at h
 have h2:=CallTo.pure (H:=H) 0 (vals := [.agg (([s0,s1,s2,s3,s4,s5,s6,s7,s8,s9,s10,s11,s12,s13,s14,s15,s16,s17,s18,s19,s20,s21,s22,s23,s24]:List Int).map w),.int .i64 (.ofNat n)]) h
 have e:backV [] H.length (.agg ((rndN [s0,s1,s2,s3,s4,s5,s6,s7,s8,s9,s10,s11,s12,s13,s14,s15,s16,s17,s18,s19,s20,s21,s22,s23,s24] n).map w)) = .agg ((rndN [s0,s1,s2,s3,s4,s5,s6,s7,s8,s9,s10,s11,s12,s13,s14,s15,s16,s17,s18,s19,s20,s21,s22,s23,s24] n).map w):=by
  simp only[backV,ren]
  exact congrArg AV.agg (qaa (qaz .u64 _))
 rw[e] at h2
 exact h2
end
end Go.Proofs.Vm

namespace Go.Vm
set_option maxRecDepth 100000
open Go.RowKit
def noRho:Rho:=fun _ => .unborn
theorem CallTo.enter{P:Program}{f:Nat}{vals:List AV}{r:AV}{H':Hl}{lg:List Nat}(hc:CallTo P f vals [] r H' lg){w:World}{us:List Value}(hv:VRels noRho w vals us) :
  Calls P f us.toArray w fun e w'=>∃ v ρ',e = .returned v/\VRel ρ' w' r v/\Below w.heap.size w w':=by
 have hg:HRel noRho w (fun b=>([]:Hl)[b]?):=⟨fun _ _=>rfl,fun b h=>(by simp at h),fun b b' B F F' h=>(by cases h),fun b cs h=>(by simp at h),fun b B F c e lo hi h=>(by cases h)⟩
 refine(hc.does noRho w us hg hv).mono ?_
 rintro e w' ⟨v,ρ',rfl,_,h2,h3⟩
 exact⟨v,ρ',rfl,h2,h3.os,h3.tape,h3.output,h3.size,fun k hk=>h3.keep k hk (fun b F h=>by cases h)⟩
end Go.Vm

namespace Go.Proofs.Vm
set_option maxRecDepth 100000
open Go.Vm
noncomputable section
def opsQ(γ:Int->Int->Bool):Ops := { ops0 with
  cmp:=fun op x y=>match op with
    | .eql=>γ x y
    | op=>cmp0 op x y }
theorem qk0:opsQ (cmp0 .eql)=ops0:=by
 have h1:(opsQ (cmp0 .eql)).cmp=ops0.cmp:=by
  funext op x y
  cases op<;>rfl
 show { ops0 with cmp:=(opsQ (cmp0 .eql)).cmp }=ops0
 rw[h1]
def plA:List Int := [1,0,2,1,2,3,3,0,1,3,1,4,4,0,3,4,3,2,2,0,4,2,4,1,1]
def plB:List Int := [0,2,1,2,3,3,0,1,3,1,4,4,0,3,4,3,2,2,0,4,2,4,1,1,0]
def plS:List Int := [1,3,6,10,15,21,28,36,45,55,66,78,91,105,120,136,153,171,190,210,231,253,276,300,325]
def plD:List Int := [1,3,6,10,15,21,28,36,45,55,2,14,27,41,56,8,25,43,62,18,39,61,20,44,5]
noncomputable def lp30:VC:=vp [1,1,0,1,0,0] vf30.body
def qpa:List Bool := [false,false,true,true,false,false,false,false,false,true,true,true,true,true,true,true,true,true,true,true,true,true,true,true,true,true,true,true,true,true,true,true,true]
def fr30(x y:Int)(i:Nat)(v:Int):Fr := [.int .i64 x,.int .i64 y,.top,.top,.int .i64 v,.int .i64 (plA.getD i 0),.int .i64 (plB.getD i 0),.int .i64 (.ofNat (i+1)),.int .i64 (plS.getD i 0),.top,.top,.top,.top,.top,.top,.top,.top,.top,.top,.top,.top,.top,.top,.top,.top,.top,.top,.top,.top,.top,.top,.top,.top]
theorem qxa(γ:Int->Int->Bool)(x y:Int):∀ i,i<24 ->
  vm (optC noCon) (opsQ γ) (qah 72 vf72) 100 0 lp30 (fr30 x y i 0) [] [] (bodyF qpa) =
   match γ (plA.getD i 0) x with
   | true=>match γ (plB.getD i 0) y with
    | true=>some (.ret,fr30 x y i (plD.getD i 0),[],[])
    | false=>some (.norm,fr30 x y (i+1) 0,[],[])
   | false=>some (.norm,fr30 x y (i+1) 0,[],[])
 | 0,_=>by kernel_rfl
 | 1,_=>by kernel_rfl
 | 2,_=>by kernel_rfl
 | 3,_=>by kernel_rfl
 | 4,_=>by kernel_rfl
 | 5,_=>by kernel_rfl
 | 6,_=>by kernel_rfl
 | 7,_=>by kernel_rfl
 | 8,_=>by kernel_rfl
 | 9,_=>by kernel_rfl
 | 10,_=>by kernel_rfl
 | 11,_=>by kernel_rfl
 | 12,_=>by kernel_rfl
 | 13,_=>by kernel_rfl
 | 14,_=>by kernel_rfl
 | 15,_=>by kernel_rfl
 | 16,_=>by kernel_rfl
 | 17,_=>by kernel_rfl
 | 18,_=>by kernel_rfl
 | 19,_=>by kernel_rfl
 | 20,_=>by kernel_rfl
 | 21,_=>by kernel_rfl
 | 22,_=>by kernel_rfl
 | 23,_=>by kernel_rfl
 | i+24,h=>absurd h (by omega)
theorem end30(x y:Int):vm (optC noCon) ops0 (qah 72 vf72) 100 0 lp30 (fr30 x y 24 0) [] [] (bodyF qpa)=some (.exit 0,fr30 x y 24 0,[],[]):=by kernel_rfl
noncomputable def lp31:VC:=vp [1,1,0,1,0,0] vf31.body
def qpe:List Bool := [false,false,true,true,false,false,false,false,true,true,true,true,true,true,true,true,true,true,true,true,true,true,true,true,true,true,true,true,true,true,true,true,true,true]
def fr31(x y:Int)(i:Nat)(v:Int):Fr := [.int .i64 x,.int .i64 y,.top,.top,.int .i64 v,.int .i64 (plA.getD i 0),.int .i64 (plB.getD i 0),.int .i64 (.ofNat i),.top,.top,.top,.top,.top,.top,.top,.top,.top,.top,.top,.top,.top,.top,.top,.top,.top,.top,.top,.top,.top,.top,.top,.top,.top,.top]
theorem qxe(γ:Int->Int->Bool)(x y:Int):∀ i,i<24 ->
  vm (optC noCon) (opsQ γ) noTab 100 0 lp31 (fr31 x y i 0) [] [] (bodyF qpe) =
   match γ (plA.getD i 0) x with
   | true=>match γ (plB.getD i 0) y with
    | true=>some (.ret,fr31 x y i (plD.getD i 0),[],[])
    | false=>some (.norm,fr31 x y (i+1) 0,[],[])
   | false=>some (.norm,fr31 x y (i+1) 0,[],[])
 | 0,_=>by kernel_rfl
 | 1,_=>by kernel_rfl
 | 2,_=>by kernel_rfl
 | 3,_=>by kernel_rfl
 | 4,_=>by kernel_rfl
 | 5,_=>by kernel_rfl
 | 6,_=>by kernel_rfl
 | 7,_=>by kernel_rfl
 | 8,_=>by kernel_rfl
 | 9,_=>by kernel_rfl
 | 10,_=>by kernel_rfl
 | 11,_=>by kernel_rfl
 | 12,_=>by kernel_rfl
 | 13,_=>by kernel_rfl
 | 14,_=>by kernel_rfl
 | 15,_=>by kernel_rfl
 | 16,_=>by kernel_rfl
 | 17,_=>by kernel_rfl
 | 18,_=>by kernel_rfl
 | 19,_=>by kernel_rfl
 | 20,_=>by kernel_rfl
 | 21,_=>by kernel_rfl
 | 22,_=>by kernel_rfl
 | 23,_=>by kernel_rfl
 | i+24,h=>absurd h (by omega)
theorem end31(x y:Int):vm (optC noCon) ops0 noTab 100 0 lp31 (fr31 x y 24 0) [] [] (bodyF qpe)=some (.exit 0,fr31 x y 24 0,[],[]):=by kernel_rfl
def hit(x y:Int)(i:Nat):Bool:=cmp0 .eql (plA.getD i 0) x && cmp0 .eql (plB.getD i 0) y
def distF(x y:Int):Int:=match (List.range 24).find? (hit x y) with
 | some i=>plD.getD i 0
 | none=>0
theorem qkc(x y:Int):(∃ k,k<24/\hit x y k=true/\(∀ j,j<k->hit x y j=false)/\distF x y=plD.getD k 0)∨((∀ j,j<24->hit x y j=false)/\distF x y=0):=by
 unfold distF
 cases h:(List.range 24).find? (hit x y) with
 | some k =>
  have h1:=List.find?_some h
  have h2:=List.mem_of_find?_eq_some h
  have h3:k<24:=List.mem_range.1 h2
  refine .inl ⟨k,h3,h1,fun j hj => ?_,rfl⟩
  rw[List.find?_range_eq_some] at h
  have:=h.2.2 j hj
  simpa using this
 | none =>
  refine .inr ⟨fun j hj => ?_,rfl⟩
  have:=List.find?_eq_none.1 h j (List.mem_range.2 hj)
  simpa using this
theorem qx6{x y:Int}{i:Nat}(hi:i<24)(h:hit x y i=false):qap Try.prog 0 lp30 (fr30 x y i 0) [] .norm (fr30 x y (i+1) 0) []:=by
 have hb:=qxa (cmp0 .eql) x y i hi
 rw[qk0] at hb
 unfold hit at h
 cases h1:cmp0 .eql (plA.getD i 0) x with
 | false =>
  rw[h1] at hb
  exact qbg (qbe _) (qaj ok72) hb (by simp)
 | true =>
  rw[h1,Bool.true_and] at h
  rw[h1,h] at hb
  exact qbg (qbe _) (qaj ok72) hb (by simp)
theorem q40{x y:Int}{i:Nat}(hi:i<24)(h:hit x y i=true):qap Try.prog 0 lp30 (fr30 x y i 0) [] .ret (fr30 x y i (plD.getD i 0)) []:=by
 have hb:=qxa (cmp0 .eql) x y i hi
 rw[qk0] at hb
 unfold hit at h
 rw[Bool.and_eq_true] at h
 rw[h.1,h.2] at hb
 exact qbg (qbe _) (qaj ok72) hb (by simp)
def in30(x y:Int):Fr := [.int .i64 x,.int .i64 y,.tup [],.tup [],.int .i64 0,.int .i64 1,.int .i64 0,.int .i64 1,.int .i64 1,.tup [],.tup [],.tup [],.tup [],.tup [],.tup [],.tup [],.tup [],.tup [],.tup [],.tup [],.tup [],.tup [],.tup [],.tup [],.tup [],.tup [],.tup [],.tup [],.tup [],.tup [],.tup [],.tup [],.tup []]
def qsj(x y:Int)(k:Nat)(v:Int):Lent:=⟨0,lp30,in30 x y,[],.ret,fr30 x y k v,[]⟩
def qr6(x y:Int):Lent:=⟨0,lp30,in30 x y,[],.exit 0,fr30 x y 24 0,[]⟩
theorem q16(x y v:Int)(k:Nat) :
  vcall (propL noCon fun _ _=>some (qsj x y k v)) ops0 (qah 30 vf30) 100 vf30 [.int .i64 x,.int .i64 y] [] (fun r H lg=>cutK 0 r H lg=some (.int .i64 v,[],[])) =
   (0=0/\lp30=lp30/\in30 x y=in30 x y/\([]:Hl) = []/\some ((.int .i64 v,[],[]):Out)=some (.int .i64 v,[],[])):=by kernel_rfl
theorem q2u(x y:Int) :
  vcall (propL noCon fun _ _=>some (qr6 x y)) ops0 (qah 30 vf30) 100 vf30 [.int .i64 x,.int .i64 y] [] (fun r H lg=>cutK 0 r H lg=some (.int .i64 0,[],[])) =
   (0=0/\lp30=lp30/\in30 x y=in30 x y/\([]:Hl) = []/\some ((.int .i64 0,[],[]):Out)=some (.int .i64 0,[],[])):=by kernel_rfl
theorem q4v(x y:Int)(H:Hl):CallTo Try.prog 30 [.int .i64 x,.int .i64 y] H (.int .i64 (distF x y)) H []:=by
 refine CallTo.pure (H:=H) (r0 := .int .i64 (distF x y)) (lg := []) 0 (vals := [.int .i64 x,.int .i64 y]) ?_
 show CallTo Try.prog 30 [.int .i64 x,.int .i64 y] [] (.int .i64 (distF x y)) [] []
 rcases qkc x y with ⟨k,hk,hh,hm,e⟩|⟨hm,e⟩
 ·rw[e]
  have hl:=qal (P:=Try.prog) (n0:=0) (b:=lp30) (ex := .ret) (fr':=fr30 x y k (plD.getD k 0)) (H' := []) (by intro h;cases h) (fun i=>(fr30 x y i 0,[])) k 0
   (fun j _ hj=>qx6 (by omega) (hm j (by omega))) (by rw[Nat.zero_add]; exact q40 hk hh)
  have hE:(qsj x y k (plD.getD k 0)).OK Try.prog:=qam.pre (Weak.forget (show 0<=0 by decide) qpa) hl
  exact qeb (qbe _) (E:=fun _ _=>some (qsj x y k (plD.getD k 0))) (fun fr H e he=>by cases he;exact hE) (qaj ok30) (qad 30 vf30) 0 []
   (Eq.mpr (q16 _ _ _ _) ⟨rfl,rfl,rfl,rfl,rfl⟩) (by simp) (fun b hb hn=>by simp at hb)
 ·rw[e]
  have hl:=qal (P:=Try.prog) (n0:=0) (b:=lp30) (ex := .exit 0) (fr':=fr30 x y 24 0) (H' := []) (by intro h;cases h) (fun i=>(fr30 x y i 0,[])) 24 0
   (fun j _ hj=>qx6 (by omega) (hm j (by omega))) (qbg (qbe _) (qaj ok72) (end30 x y) (by simp))
  have hE:(qr6 x y).OK Try.prog:=qam.pre (Weak.forget (show 0<=0 by decide) qpa) hl
  exact qeb (qbe _) (E:=fun _ _=>some (qr6 x y)) (fun fr H e he=>by cases he;exact hE) (qaj ok30) (qad 30 vf30) 0 []
   (Eq.mpr (q2u _ _) ⟨rfl,rfl,rfl,rfl,rfl⟩) (by simp) (fun b hb hn=>by simp at hb)
theorem qx4{x y:Int}{i:Nat}(hi:i<24)(h:hit x y i=false):qap Try.prog 0 lp31 (fr31 x y i 0) [] .norm (fr31 x y (i+1) 0) []:=by
 have hb:=qxe (cmp0 .eql) x y i hi
 rw[qk0] at hb
 unfold hit at h
 cases h1:cmp0 .eql (plA.getD i 0) x with
 | false =>
  rw[h1] at hb
  exact qbg (qbe _) (qak _) hb (by simp)
 | true =>
  rw[h1,Bool.true_and] at h
  rw[h1,h] at hb
  exact qbg (qbe _) (qak _) hb (by simp)
theorem q3k{x y:Int}{i:Nat}(hi:i<24)(h:hit x y i=true):qap Try.prog 0 lp31 (fr31 x y i 0) [] .ret (fr31 x y i (plD.getD i 0)) []:=by
 have hb:=qxe (cmp0 .eql) x y i hi
 rw[qk0] at hb
 unfold hit at h
 rw[Bool.and_eq_true] at h
 rw[h.1,h.2] at hb
 exact qbg (qbe _) (qak _) hb (by simp)
def in31(x y:Int):Fr := [.int .i64 x,.int .i64 y,.tup [],.tup [],.int .i64 0,.int .i64 1,.int .i64 0,.int .i64 0,.tup [],.tup [],.tup [],.tup [],.tup [],.tup [],.tup [],.tup [],.tup [],.tup [],.tup [],.tup [],.tup [],.tup [],.tup [],.tup [],.tup [],.tup [],.tup [],.tup [],.tup [],.tup [],.tup [],.tup [],.tup [],.tup []]
def qtf(x y:Int)(k:Nat)(v:Int):Lent:=⟨0,lp31,in31 x y,[],.ret,fr31 x y k v,[]⟩
def qu6(x y:Int):Lent:=⟨0,lp31,in31 x y,[],.exit 0,fr31 x y 24 0,[]⟩
theorem q3v(x y v:Int)(k:Nat) :
  vcall (propL noCon fun _ _=>some (qtf x y k v)) ops0 (qah 31 vf31) 100 vf31 [.int .i64 x,.int .i64 y] [] (fun r H lg=>cutK 0 r H lg=some (.int .i64 v,[],[])) =
   (0=0/\lp31=lp31/\in31 x y=in31 x y/\([]:Hl) = []/\some ((.int .i64 v,[],[]):Out)=some (.int .i64 v,[],[])):=by kernel_rfl
theorem q1y(x y:Int) :
  vcall (propL noCon fun _ _=>some (qu6 x y)) ops0 (qah 31 vf31) 100 vf31 [.int .i64 x,.int .i64 y] [] (fun r H lg=>cutK 0 r H lg=some (.int .i64 0,[],[])) =
   (0=0/\lp31=lp31/\in31 x y=in31 x y/\([]:Hl) = []/\some ((.int .i64 0,[],[]):Out)=some (.int .i64 0,[],[])):=by kernel_rfl
theorem q4h(x y:Int)(H:Hl):CallTo Try.prog 31 [.int .i64 x,.int .i64 y] H (.int .i64 (distF x y)) H []:=by
 refine CallTo.pure (H:=H) (r0 := .int .i64 (distF x y)) (lg := []) 0 (vals := [.int .i64 x,.int .i64 y]) ?_
 show CallTo Try.prog 31 [.int .i64 x,.int .i64 y] [] (.int .i64 (distF x y)) [] []
 rcases qkc x y with ⟨k,hk,hh,hm,e⟩|⟨hm,e⟩
 ·rw[e]
  have hl:=qal (P:=Try.prog) (n0:=0) (b:=lp31) (ex := .ret) (fr':=fr31 x y k (plD.getD k 0)) (H' := []) (by intro h;cases h) (fun i=>(fr31 x y i 0,[])) k 0
   (fun j _ hj=>qx4 (by omega) (hm j (by omega))) (by rw[Nat.zero_add]; exact q3k hk hh)
  have hE:(qtf x y k (plD.getD k 0)).OK Try.prog:=qam.pre (Weak.forget (show 0<=0 by decide) qpe) hl
  exact qeb (qbe _) (E:=fun _ _=>some (qtf x y k (plD.getD k 0))) (fun fr H e he=>by cases he;exact hE) (qaj ok31) (qad 31 vf31) 0 []
   (Eq.mpr (q3v _ _ _ _) ⟨rfl,rfl,rfl,rfl,rfl⟩) (by simp) (fun b hb hn=>by simp at hb)
 ·rw[e]
  have hl:=qal (P:=Try.prog) (n0:=0) (b:=lp31) (ex := .exit 0) (fr':=fr31 x y 24 0) (H' := []) (by intro h;cases h) (fun i=>(fr31 x y i 0,[])) 24 0
   (fun j _ hj=>qx4 (by omega) (hm j (by omega))) (qbg (qbe _) (qak _) (end31 x y) (by simp))
  have hE:(qu6 x y).OK Try.prog:=qam.pre (Weak.forget (show 0<=0 by decide) qpe) hl
  exact qeb (qbe _) (E:=fun _ _=>some (qu6 x y)) (fun fr H e he=>by cases he;exact hE) (qaj ok31) (qad 31 vf31) 0 []
   (Eq.mpr (q1y _ _) ⟨rfl,rfl,rfl,rfl,rfl⟩) (by simp) (fun b hb hn=>by simp at hb)
end
end Go.Proofs.Vm

namespace Go.Proofs.Vm
set_option maxRecDepth 100000
open Go.Vm
noncomputable section
def lnX:LnF:=fun _ _ fr H=>some (False,.ok .norm fr H)
theorem qpf(P:Program):LnOK P lnX:=fun _ _ _ _ _ _ e _ hp=>by cases e;exact hp.elim
def cnX:CnF:=fun _ _ H=>some (False,.ok (.tup []) H [])
theorem qpb(P:Program):CnOK P cnX:=fun _ _ _ _ _ e hp=>by cases e;exact hp.elim
theorem vc32x(n:Int)(Q:AV->Hl->List Nat->Prop) :
  (vcall (vcA kdYes cnX lnX) ops0 (qah 32 vf32) 100 vf32 [.int .i64 n] [] Q) =
 ((Br (ops0.cmp .lss n (Int.ofNat 0))
 (Q (.int .u64 (.ofNat 0)) [] [])
 (Br (ops0.cmp .geq n (Int.ofNat 24))
 (Q (.int .u64 (.ofNat 0)) [] [])
 (False /\
 (Q (.int .u64 (.ofNat 0)) [] []))))):=by kernel_rfl
theorem vc33x(n:Int)(Q:AV->Hl->List Nat->Prop) :
  (vcall (vcA kdYes cnX lnX) ops0 (qah 33 vf33) 100 vf33 [.int .i64 n] [] Q) =
 ((Br (ops0.cmp .lss n (Int.ofNat 0))
 (Q (.int .u64 (.ofNat 0)) [] [])
 (Br (ops0.cmp .gtr n (Int.ofNat 23))
 (Q (.int .u64 (.ofNat 0)) [] [])
 (False /\
 (Q (.int .u64 (.ofNat 0)) [] []))))):=by kernel_rfl
theorem vc34x(cs:List AV)(n:Int)(Q:AV->Hl->Prop) :
  (vcall (vcA kdYes cnX lnX) ops0 (qah 34 vf34) 100 vf34 [.agg cs,.int .i64 n] [] (endN (fun _=>0) Q)) =
 ((Br (ops0.cmp .lss n (Int.ofNat 0))
 (Chk (ops0.le 25 (ops0.len cs))
 (Chk (ops0.eq (ops0.len (ops0.ext cs 0 25)) 25)
 (Chk (ops0.le 25 (ops0.len (ops0.spl [(.int .u64 (.ofNat 0)),(.int .u64 (.ofNat 0)),(.int .u64 (.ofNat 0)),(.int .u64 (.ofNat 0)),(.int .u64 (.ofNat 0)),(.int .u64 (.ofNat 0)),(.int .u64 (.ofNat 0)),(.int .u64 (.ofNat 0)),(.int .u64 (.ofNat 0)),(.int .u64 (.ofNat 0)),(.int .u64 (.ofNat 0)),(.int .u64 (.ofNat 0)),(.int .u64 (.ofNat 0)),(.int .u64 (.ofNat 0)),(.int .u64 (.ofNat 0)),(.int .u64 (.ofNat 0)),(.int .u64 (.ofNat 0)),(.int .u64 (.ofNat 0)),(.int .u64 (.ofNat 0)),(.int .u64 (.ofNat 0)),(.int .u64 (.ofNat 0)),(.int .u64 (.ofNat 0)),(.int .u64 (.ofNat 0)),(.int .u64 (.ofNat 0)),(.int .u64 (.ofNat 0))] 0 (ops0.ext cs 0 25))))
 (Q (.agg (ops0.ext (ops0.spl [(.int .u64 (.ofNat 0)),(.int .u64 (.ofNat 0)),(.int .u64 (.ofNat 0)),(.int .u64 (.ofNat 0)),(.int .u64 (.ofNat 0)),(.int .u64 (.ofNat 0)),(.int .u64 (.ofNat 0)),(.int .u64 (.ofNat 0)),(.int .u64 (.ofNat 0)),(.int .u64 (.ofNat 0)),(.int .u64 (.ofNat 0)),(.int .u64 (.ofNat 0)),(.int .u64 (.ofNat 0)),(.int .u64 (.ofNat 0)),(.int .u64 (.ofNat 0)),(.int .u64 (.ofNat 0)),(.int .u64 (.ofNat 0)),(.int .u64 (.ofNat 0)),(.int .u64 (.ofNat 0)),(.int .u64 (.ofNat 0)),(.int .u64 (.ofNat 0)),(.int .u64 (.ofNat 0)),(.int .u64 (.ofNat 0)),(.int .u64 (.ofNat 0)),(.int .u64 (.ofNat 0))] 0 (ops0.ext cs 0 25)) 0 25)) []))))
 (Br (ops0.cmp .geq n (Int.ofNat 24))
 (Chk (ops0.le 25 (ops0.len cs))
 (Chk (ops0.eq (ops0.len (ops0.ext cs 0 25)) 25)
 (Chk (ops0.le 25 (ops0.len (ops0.spl [(.int .u64 (.ofNat 0)),(.int .u64 (.ofNat 0)),(.int .u64 (.ofNat 0)),(.int .u64 (.ofNat 0)),(.int .u64 (.ofNat 0)),(.int .u64 (.ofNat 0)),(.int .u64 (.ofNat 0)),(.int .u64 (.ofNat 0)),(.int .u64 (.ofNat 0)),(.int .u64 (.ofNat 0)),(.int .u64 (.ofNat 0)),(.int .u64 (.ofNat 0)),(.int .u64 (.ofNat 0)),(.int .u64 (.ofNat 0)),(.int .u64 (.ofNat 0)),(.int .u64 (.ofNat 0)),(.int .u64 (.ofNat 0)),(.int .u64 (.ofNat 0)),(.int .u64 (.ofNat 0)),(.int .u64 (.ofNat 0)),(.int .u64 (.ofNat 0)),(.int .u64 (.ofNat 0)),(.int .u64 (.ofNat 0)),(.int .u64 (.ofNat 0)),(.int .u64 (.ofNat 0))] 0 (ops0.ext cs 0 25))))
 (Q (.agg (ops0.ext (ops0.spl [(.int .u64 (.ofNat 0)),(.int .u64 (.ofNat 0)),(.int .u64 (.ofNat 0)),(.int .u64 (.ofNat 0)),(.int .u64 (.ofNat 0)),(.int .u64 (.ofNat 0)),(.int .u64 (.ofNat 0)),(.int .u64 (.ofNat 0)),(.int .u64 (.ofNat 0)),(.int .u64 (.ofNat 0)),(.int .u64 (.ofNat 0)),(.int .u64 (.ofNat 0)),(.int .u64 (.ofNat 0)),(.int .u64 (.ofNat 0)),(.int .u64 (.ofNat 0)),(.int .u64 (.ofNat 0)),(.int .u64 (.ofNat 0)),(.int .u64 (.ofNat 0)),(.int .u64 (.ofNat 0)),(.int .u64 (.ofNat 0)),(.int .u64 (.ofNat 0)),(.int .u64 (.ofNat 0)),(.int .u64 (.ofNat 0)),(.int .u64 (.ofNat 0)),(.int .u64 (.ofNat 0))] 0 (ops0.ext cs 0 25)) 0 25)) []))))
 (False /\
 False)))):=by kernel_rfl
theorem vc35x(cs:List AV)(n:Int)(Q:AV->Hl->Prop) :
  (vcall (vcA kdYes cnX lnX) ops0 (qah 35 vf35) 100 vf35 [.agg cs,.int .i64 n] [] (endN (fun _=>0) Q)) =
 ((Br (ops0.cmp .lss n (Int.ofNat 0))
 (Chk (ops0.le 25 (ops0.len cs))
 (Chk (ops0.eq (ops0.len (ops0.ext cs 0 25)) 25)
 (Chk (ops0.le 25 (ops0.len (ops0.spl [(.int .u64 (.ofNat 0)),(.int .u64 (.ofNat 0)),(.int .u64 (.ofNat 0)),(.int .u64 (.ofNat 0)),(.int .u64 (.ofNat 0)),(.int .u64 (.ofNat 0)),(.int .u64 (.ofNat 0)),(.int .u64 (.ofNat 0)),(.int .u64 (.ofNat 0)),(.int .u64 (.ofNat 0)),(.int .u64 (.ofNat 0)),(.int .u64 (.ofNat 0)),(.int .u64 (.ofNat 0)),(.int .u64 (.ofNat 0)),(.int .u64 (.ofNat 0)),(.int .u64 (.ofNat 0)),(.int .u64 (.ofNat 0)),(.int .u64 (.ofNat 0)),(.int .u64 (.ofNat 0)),(.int .u64 (.ofNat 0)),(.int .u64 (.ofNat 0)),(.int .u64 (.ofNat 0)),(.int .u64 (.ofNat 0)),(.int .u64 (.ofNat 0)),(.int .u64 (.ofNat 0))] 0 (ops0.ext cs 0 25))))
 (Q (.agg (ops0.ext (ops0.spl [(.int .u64 (.ofNat 0)),(.int .u64 (.ofNat 0)),(.int .u64 (.ofNat 0)),(.int .u64 (.ofNat 0)),(.int .u64 (.ofNat 0)),(.int .u64 (.ofNat 0)),(.int .u64 (.ofNat 0)),(.int .u64 (.ofNat 0)),(.int .u64 (.ofNat 0)),(.int .u64 (.ofNat 0)),(.int .u64 (.ofNat 0)),(.int .u64 (.ofNat 0)),(.int .u64 (.ofNat 0)),(.int .u64 (.ofNat 0)),(.int .u64 (.ofNat 0)),(.int .u64 (.ofNat 0)),(.int .u64 (.ofNat 0)),(.int .u64 (.ofNat 0)),(.int .u64 (.ofNat 0)),(.int .u64 (.ofNat 0)),(.int .u64 (.ofNat 0)),(.int .u64 (.ofNat 0)),(.int .u64 (.ofNat 0)),(.int .u64 (.ofNat 0)),(.int .u64 (.ofNat 0))] 0 (ops0.ext cs 0 25)) 0 25)) []))))
 (Br (ops0.cmp .gtr n (Int.ofNat 23))
 (Chk (ops0.le 25 (ops0.len cs))
 (Chk (ops0.eq (ops0.len (ops0.ext cs 0 25)) 25)
 (Chk (ops0.le 25 (ops0.len (ops0.spl [(.int .u64 (.ofNat 0)),(.int .u64 (.ofNat 0)),(.int .u64 (.ofNat 0)),(.int .u64 (.ofNat 0)),(.int .u64 (.ofNat 0)),(.int .u64 (.ofNat 0)),(.int .u64 (.ofNat 0)),(.int .u64 (.ofNat 0)),(.int .u64 (.ofNat 0)),(.int .u64 (.ofNat 0)),(.int .u64 (.ofNat 0)),(.int .u64 (.ofNat 0)),(.int .u64 (.ofNat 0)),(.int .u64 (.ofNat 0)),(.int .u64 (.ofNat 0)),(.int .u64 (.ofNat 0)),(.int .u64 (.ofNat 0)),(.int .u64 (.ofNat 0)),(.int .u64 (.ofNat 0)),(.int .u64 (.ofNat 0)),(.int .u64 (.ofNat 0)),(.int .u64 (.ofNat 0)),(.int .u64 (.ofNat 0)),(.int .u64 (.ofNat 0)),(.int .u64 (.ofNat 0))] 0 (ops0.ext cs 0 25))))
 (Q (.agg (ops0.ext (ops0.spl [(.int .u64 (.ofNat 0)),(.int .u64 (.ofNat 0)),(.int .u64 (.ofNat 0)),(.int .u64 (.ofNat 0)),(.int .u64 (.ofNat 0)),(.int .u64 (.ofNat 0)),(.int .u64 (.ofNat 0)),(.int .u64 (.ofNat 0)),(.int .u64 (.ofNat 0)),(.int .u64 (.ofNat 0)),(.int .u64 (.ofNat 0)),(.int .u64 (.ofNat 0)),(.int .u64 (.ofNat 0)),(.int .u64 (.ofNat 0)),(.int .u64 (.ofNat 0)),(.int .u64 (.ofNat 0)),(.int .u64 (.ofNat 0)),(.int .u64 (.ofNat 0)),(.int .u64 (.ofNat 0)),(.int .u64 (.ofNat 0)),(.int .u64 (.ofNat 0)),(.int .u64 (.ofNat 0)),(.int .u64 (.ofNat 0)),(.int .u64 (.ofNat 0)),(.int .u64 (.ofNat 0))] 0 (ops0.ext cs 0 25)) 0 25)) []))))
 (False /\
 False)))):=by kernel_rfl
def cstF(n:Int):Int:=if 0<=n/\n<24 then rcs.getD n.toNat 0 else 0
def rndZ(s:List Int)(n:Int):List Int:=if 0<=n/\n<24 then rndN s n.toNat else s
theorem qzs(n:Int)(H:Hl):CallTo Try.prog 32 [.int .i64 n] H (.int .u64 (cstF n)) H []:=by
 refine CallTo.pure (H:=H) (r0 := .int .u64 (cstF n)) (lg := []) 0 (vals := [.int .i64 n]) ?_
 show CallTo Try.prog 32 [.int .i64 n] [] (.int .u64 (cstF n)) [] []
 unfold cstF
 by_cases h:0<=n/\n<24
 ·rw[if_pos h]
  obtain⟨m,rfl⟩:∃ m:Nat,n=Int.ofNat m:=⟨n.toNat,(Int.toNat_of_nonneg h.1).symm⟩
  exact qb3 (qbe _) (qaj ok32) (qad 32 vf32) 0 [] (qu1 m (by have:=h.2;simp at this;omega)) (by simp) (fun b hb hn=>by simp at hb)
 ·rw[if_neg h]
  refine qhz (qpb _) (qpf _) (qaj ok32) (qad 32 vf32) (n:=100) (g:=kdYes) ?_
  rw[vc32x]
  refine Br.mk (fun _=>⟨rfl,rfl,rfl⟩) (fun h1=>Br.mk (fun _=>⟨rfl,rfl,rfl⟩) (fun h2 => ?_))
  have h1:¬ n<0:=of_decide_eq_false h1
  have h2:¬ n>=24:=of_decide_eq_false h2
  omega
theorem qz3(n:Int)(H:Hl):CallTo Try.prog 33 [.int .i64 n] H (.int .u64 (cstF n)) H []:=by
 refine CallTo.pure (H:=H) (r0 := .int .u64 (cstF n)) (lg := []) 0 (vals := [.int .i64 n]) ?_
 show CallTo Try.prog 33 [.int .i64 n] [] (.int .u64 (cstF n)) [] []
 unfold cstF
 by_cases h:0<=n/\n<24
 ·rw[if_pos h]
  obtain⟨m,rfl⟩:∃ m:Nat,n=Int.ofNat m:=⟨n.toNat,(Int.toNat_of_nonneg h.1).symm⟩
  exact qb3 qzk (qaj ok33) (qad 33 vf33) 0 [] (qyq m (by have:=h.2;simp at this;omega)) (by simp) (fun b hb hn=>by simp at hb)
 ·rw[if_neg h]
  refine qhz (qpb _) (qpf _) (qaj ok33) (qad 33 vf33) (n:=100) (g:=kdYes) ?_
  rw[vc33x]
  refine Br.mk (fun _=>⟨rfl,rfl,rfl⟩) (fun h1=>Br.mk (fun _=>⟨rfl,rfl,rfl⟩) (fun h2 => ?_))
  have h1:¬ n<0:=of_decide_eq_false h1
  have h2:¬ n>23:=of_decide_eq_false h2
  omega
theorem qkj(s:List Int):flatL (s.map w):=qaz _ _
theorem qie{s:List Int}(hs:s.length=25)(Q:AV->Prop)(h:Q (.agg (s.map w)))(z:List AV)(hz:z.length=25) :
    (Chk (ops0.le 25 (ops0.len (s.map w)))
 (Chk (ops0.eq (ops0.len (ops0.ext (s.map w) 0 25)) 25)
 (Chk (ops0.le 25 (ops0.len (ops0.spl z 0 (ops0.ext (s.map w) 0 25))))
 (Q (AV.agg (ops0.ext (ops0.spl z 0 (ops0.ext (s.map w) 0 25)) 0 25)))))):=by
  have e1:ops0.ext (s.map w) 0 25=s.map w:=by rw[nExt,List.drop_zero,List.take_of_length_le (by simp[hs])]
  have e2:ops0.spl z 0 (s.map w)=s.map w:=by rw[nSpl,List.take_zero,List.nil_append,Nat.zero_add,List.drop_of_length_le (by simp[hs,hz]),List.append_nil]
  rw[e1,e2,e1]
  exact Chk.mk (by rw[nLe,nLen]; exact decide_eq_true (by simp[hs])) (Chk.mk (by rw[nEq,nLen]; exact decide_eq_true (by simp[hs])) (Chk.mk (by rw[nLe,nLen]; exact decide_eq_true (by simp[hs])) h))
theorem qw9{s:List Int}(hs:s.length=25)(n:Int)(H:Hl):CallTo Try.prog 34 [.agg (s.map w),.int .i64 n] H (.agg ((rndZ s n).map w)) H []:=by
 unfold rndZ
 by_cases h:0<=n/\n<24
 ·rw[if_pos h]
  obtain⟨m,rfl⟩:∃ m:Nat,n=Int.ofNat m:=⟨n.toNat,(Int.toNat_of_nonneg h.1).symm⟩
  exact qzo hs (by have:=h.2;simp at this;omega) H
 ·rw[if_neg h]
  have hc:CallTo Try.prog 34 [.agg (s.map w),.int .i64 n] [] (.agg (s.map w)) [] []:=by
   refine qb7 (qpb _) (qpf _) (qaj ok34) (qad 34 vf34) (n:=100) (g:=kdYes) (m:=fun _=>0) [] ?_ (by simp) ?_ (by simp)
   ·rw[vc34x]
    refine Br.mk (fun _=>qie hs (fun r=>r=AV.agg (s.map w)/\([]:Hl) = []) ⟨rfl,rfl⟩ _ rfl) (fun h1=>Br.mk (fun _=>qie hs (fun r=>r=AV.agg (s.map w)/\([]:Hl) = []) ⟨rfl,rfl⟩ _ rfl) (fun h2 => ?_))
    have h1:¬ n<0:=of_decide_eq_false h1
    have h2:¬ n>=24:=of_decide_eq_false h2
    omega
   ·show AV.agg _=_
    rw[qaa (qkj s)]
  have h2:=CallTo.lookV (H:=H) hc (.cons (Vw.agg H (Still.flat (qkj s))) (.cons (Vw.int H _ _) .nil))
  rw[qbo (qkj s)] at h2
  exact h2
theorem qvq{s:List Int}(hs:s.length=25)(n:Int)(H:Hl):CallTo Try.prog 35 [.agg (s.map w),.int .i64 n] H (.agg ((rndZ s n).map w)) H []:=by
 unfold rndZ
 by_cases h:0<=n/\n<24
 ·rw[if_pos h]
  obtain⟨m,rfl⟩:∃ m:Nat,n=Int.ofNat m:=⟨n.toNat,(Int.toNat_of_nonneg h.1).symm⟩
  exact qzq hs (by have:=h.2;simp at this;omega) H
 ·rw[if_neg h]
  have hc:CallTo Try.prog 35 [.agg (s.map w),.int .i64 n] [] (.agg (s.map w)) [] []:=by
   refine qb7 (qpb _) (qpf _) (qaj ok35) (qad 35 vf35) (n:=100) (g:=kdYes) (m:=fun _=>0) [] ?_ (by simp) ?_ (by simp)
   ·rw[vc35x]
    refine Br.mk (fun _=>qie hs (fun r=>r=AV.agg (s.map w)/\([]:Hl) = []) ⟨rfl,rfl⟩ _ rfl) (fun h1=>Br.mk (fun _=>qie hs (fun r=>r=AV.agg (s.map w)/\([]:Hl) = []) ⟨rfl,rfl⟩ _ rfl) (fun h2 => ?_))
    have h1:¬ n<0:=of_decide_eq_false h1
    have h2:¬ n>23:=of_decide_eq_false h2
    omega
   ·show AV.agg _=_
    rw[qaa (qkj s)]
  have h2:=CallTo.lookV (H:=H) hc (.cons (Vw.agg H (Still.flat (qkj s))) (.cons (Vw.int H _ _) .nil))
  rw[qbo (qkj s)] at h2
  exact h2
def PW(cs:List AV):Prop:=∃ s:List Int,s.length=25/\cs=s.map w
structure AF extends KF where
 dist:Int->Int->Int
 cst:Int->Int
 rnd:List AV->Int->List AV
 rnds:List AV->List AV
def af0:AF := { kf0 with dist:=distF,cst:=cstF,rnd:=fun cs n=>(rndZ (intsA cs) n).map w,rnds:=fun cs=>(allF (intsA cs)).map w }
def cnA(S:AF):CnF:=fun f vals H=>match f,vals with
 | 30,[.int .i64 x,.int .i64 y]=>some (True,.ok (.int .i64 (S.dist x y)) H [])
 | 31,[.int .i64 x,.int .i64 y]=>some (True,.ok (.int .i64 (S.dist x y)) H [])
 | 32,[.int .i64 n]=>some (True,.ok (.int .u64 (S.cst n)) H [])
 | 33,[.int .i64 n]=>some (True,.ok (.int .u64 (S.cst n)) H [])
 | 34,[.agg cs,.int .i64 n]=>some (PW cs,.ok (.agg (S.rnd cs n)) H [])
 | 35,[.agg cs,.int .i64 n]=>some (PW cs,.ok (.agg (S.rnd cs n)) H [])
 | 29,[.agg cs]=>some (PW cs,.ok (.agg (S.rnds cs)) H [])
 | 36,[.agg cs]=>some (PW cs,.ok (.agg (S.rnds cs)) H [])
 | f,vals=>cnK S.toKF f vals H
theorem q4t:CnOK Try.prog (cnA af0):=by
 intro f vals H p x e hp
 unfold cnA at e
 split at e
 ·cases e;exact q4v _ _ H
 ·cases e;exact q4h _ _ H
 ·cases e;exact qzs _ H
 ·cases e;exact qz3 _ H
 ·cases e
  obtain⟨s,hs,rfl⟩:=hp
  show CallTo _ _ _ _ (.agg ((rndZ (intsA (s.map w)) _).map w)) _ _
  rw[qei]
  exact qw9 hs _ H
 ·cases e
  obtain⟨s,hs,rfl⟩:=hp
  show CallTo _ _ _ _ (.agg ((rndZ (intsA (s.map w)) _).map w)) _ _
  rw[qei]
  exact qvq hs _ H
 ·cases e
  obtain⟨s,hs,rfl⟩:=hp
  show CallTo _ _ _ _ (.agg ((allF (intsA (s.map w))).map w)) _ _
  rw[qei]
  exact qw0 hs H
 ·cases e
  obtain⟨s,hs,rfl⟩:=hp
  show CallTo _ _ _ _ (.agg ((allF (intsA (s.map w))).map w)) _ _
  rw[qei]
  exact qw2 hs H
 ·exact q43 _ _ _ _ _ e hp
end
end Go.Proofs.Vm

namespace Go.Proofs.Vm
set_option maxRecDepth 100000
open Go.Vm
noncomputable section
theorem qks{z xs:List AV}(h:z.length=xs.length):ops0.spl z 0 xs=xs:=by
 rw[nSpl,List.take_zero,List.nil_append,Nat.zero_add,List.drop_of_length_le (by omega),List.append_nil]
end
end Go.Proofs.Vm

namespace Go.Proofs.Vm
set_option maxRecDepth 100000
open Go.Vm
noncomputable section
noncomputable def vf37:VF:=⟨41,[(.tmp 6)],qaf Try.prog (Try.f37.body.getD .skip)⟩
theorem ok37:FnOK Try.prog 37 vf37 := .of Try.func37 (by kernel_rfl) (by kernel_rfl)
noncomputable def vf39:VF:=⟨43,[(.tmp 6)],qaf Try.prog (Try.f39.body.getD .skip)⟩
theorem ok39:FnOK Try.prog 39 vf39 := .of Try.func39 (by kernel_rfl) (by kernel_rfl)
noncomputable def vf40:VF:=⟨38,[(.cell 6 32)],qaf Try.prog (Try.f40.body.getD .skip)⟩
theorem ok40:FnOK Try.prog 40 vf40 := .of Try.func40 (by kernel_rfl) (by kernel_rfl)
noncomputable def vf41:VF:=⟨35,[(.cell 6 32)],qaf Try.prog (Try.f41.body.getD .skip)⟩
theorem ok41:FnOK Try.prog 41 vf41 := .of Try.func41 (by kernel_rfl) (by kernel_rfl)
noncomputable def vf42:VF:=⟨13,[(.cell 6 32)],qaf Try.prog (Try.f42.body.getD .skip)⟩
theorem ok42:FnOK Try.prog 42 vf42 := .of Try.func42 (by kernel_rfl) (by kernel_rfl)
noncomputable def vf43:VF:=⟨13,[(.cell 6 32)],qaf Try.prog (Try.f43.body.getD .skip)⟩
theorem ok43:FnOK Try.prog 43 vf43 := .of Try.func43 (by kernel_rfl) (by kernel_rfl)
noncomputable def vf44:VF:=⟨21,[(.tmp 2)],qaf Try.prog (Try.f44.body.getD .skip)⟩
theorem ok44:FnOK Try.prog 44 vf44 := .of Try.func44 (by kernel_rfl) (by kernel_rfl)
noncomputable def vf45:VF:=⟨18,[(.tmp 2)],qaf Try.prog (Try.f45.body.getD .skip)⟩
theorem ok45:FnOK Try.prog 45 vf45 := .of Try.func45 (by kernel_rfl) (by kernel_rfl)
noncomputable def vf46:VF:=⟨36,[(.tmp 4)],qaf Try.prog (Try.f46.body.getD .skip)⟩
theorem ok46:FnOK Try.prog 46 vf46 := .of Try.func46 (by kernel_rfl) (by kernel_rfl)
noncomputable def vf47:VF:=⟨6,[(.cell 2 32)],qaf Try.prog (Try.f47.body.getD .skip)⟩
theorem ok47:FnOK Try.prog 47 vf47 := .of Try.func47 (by kernel_rfl) (by kernel_rfl)
noncomputable def vf79:VF:=⟨23,[(.tmp 4)],qaf Try.prog (Try.f79.body.getD .skip)⟩
theorem ok79:FnOK Try.prog 79 vf79 := .of Try.func79 (by kernel_rfl) (by kernel_rfl)
noncomputable def vf80:VF:=⟨13,[(.tmp 4)],qaf Try.prog (Try.f80.body.getD .skip)⟩
theorem ok80:FnOK Try.prog 80 vf80 := .of Try.func80 (by kernel_rfl) (by kernel_rfl)
end
end Go.Proofs.Vm

namespace Go.Proofs.Vm
set_option maxRecDepth 100000
open Go.Vm
noncomputable section
theorem vc44(n:Int)(Q:Nat->Nat->Nat->Nat->List AV->Prop) :
  (vcall (vcA kdYes noCn noLn) ops0 (qah 44 vf44) 200 vf44 [.int .u64 n] [] (endB Q)) =
 (((flatL [(.int .u8 (ops0.cvt .u8 (ops0.shf .shr .u64 n (Int.ofNat 0)))),(.int .u8 (ops0.cvt .u8 (ops0.shf .shr .u64 n (Int.ofNat 8)))),(.int .u8 (ops0.cvt .u8 (ops0.shf .shr .u64 n (Int.ofNat 16)))),(.int .u8 (ops0.cvt .u8 (ops0.shf .shr .u64 n (Int.ofNat 24)))),(.int .u8 (ops0.cvt .u8 (ops0.shf .shr .u64 n (Int.ofNat 32)))),(.int .u8 (ops0.cvt .u8 (ops0.shf .shr .u64 n (Int.ofNat 40)))),(.int .u8 (ops0.cvt .u8 (ops0.shf .shr .u64 n (Int.ofNat 48)))),(.int .u8 (ops0.cvt .u8 (ops0.shf .shr .u64 n (Int.ofNat 56))))]) /\
 (Q 0 8 8 1 [(.int .u8 (ops0.cvt .u8 (ops0.shf .shr .u64 n (Int.ofNat 0)))),(.int .u8 (ops0.cvt .u8 (ops0.shf .shr .u64 n (Int.ofNat 8)))),(.int .u8 (ops0.cvt .u8 (ops0.shf .shr .u64 n (Int.ofNat 16)))),(.int .u8 (ops0.cvt .u8 (ops0.shf .shr .u64 n (Int.ofNat 24)))),(.int .u8 (ops0.cvt .u8 (ops0.shf .shr .u64 n (Int.ofNat 32)))),(.int .u8 (ops0.cvt .u8 (ops0.shf .shr .u64 n (Int.ofNat 40)))),(.int .u8 (ops0.cvt .u8 (ops0.shf .shr .u64 n (Int.ofNat 48)))),(.int .u8 (ops0.cvt .u8 (ops0.shf .shr .u64 n (Int.ofNat 56))))]))):=by kernel_rfl
theorem vc45(n:Int)(Q:Nat->Nat->Nat->Nat->List AV->Prop) :
  (vcall (vcA kdYes noCn noLn) ops0 (qah 45 vf45) 200 vf45 [.int .u64 n] [] (endB Q)) =
 (((flatL [(.int .u8 (ops0.cvt .u8 (ops0.shf .shr .u64 n (Int.ofNat 0)))),(.int .u8 (ops0.cvt .u8 (ops0.shf .shr .u64 n (Int.ofNat 8)))),(.int .u8 (ops0.cvt .u8 (ops0.shf .shr .u64 n (Int.ofNat 16)))),(.int .u8 (ops0.cvt .u8 (ops0.shf .shr .u64 n (Int.ofNat 24)))),(.int .u8 (ops0.cvt .u8 (ops0.shf .shr .u64 n (Int.ofNat 32)))),(.int .u8 (ops0.cvt .u8 (ops0.shf .shr .u64 n (Int.ofNat 40)))),(.int .u8 (ops0.cvt .u8 (ops0.shf .shr .u64 n (Int.ofNat 48)))),(.int .u8 (ops0.cvt .u8 (ops0.shf .shr .u64 n (Int.ofNat 56))))]) /\
 (Q 0 8 8 1 [(.int .u8 (ops0.cvt .u8 (ops0.shf .shr .u64 n (Int.ofNat 0)))),(.int .u8 (ops0.cvt .u8 (ops0.shf .shr .u64 n (Int.ofNat 8)))),(.int .u8 (ops0.cvt .u8 (ops0.shf .shr .u64 n (Int.ofNat 16)))),(.int .u8 (ops0.cvt .u8 (ops0.shf .shr .u64 n (Int.ofNat 24)))),(.int .u8 (ops0.cvt .u8 (ops0.shf .shr .u64 n (Int.ofNat 32)))),(.int .u8 (ops0.cvt .u8 (ops0.shf .shr .u64 n (Int.ofNat 40)))),(.int .u8 (ops0.cvt .u8 (ops0.shf .shr .u64 n (Int.ofNat 48)))),(.int .u8 (ops0.cvt .u8 (ops0.shf .shr .u64 n (Int.ofNat 56))))]))):=by kernel_rfl
theorem vc79(key:List AV)(l:List UInt8)(Q:Nat->Nat->Nat->Nat->List AV->Prop) :
  (vcall (vcA kdYes noCn noLn) ops0 (qah 79 vf79) 200 vf79 [.agg key,.str l] [] (endB Q)) =
 ((Chk (ops0.mkr (Int.ofNat 0) (ops0.bin .add .i64 (ops0.bin .add .i64 (Int.ofNat 1) (ops0.ofn (ops0.slen l))) (Int.ofNat 32)) 1)
 (Chk (ops0.room 1 (ops0.slen l) 1)
 (Chk (ops0.le 32 (ops0.len key))
 (Chk (ops0.le (ops0.add 0 (ops0.mul (ops0.add 1 (ops0.slen l)) 1)) (ops0.len ((.int .u8 (ops0.cvt .u8 (ops0.ofn (ops0.slen l))))::(([]:List AV)++(ops0.scells l)))))
 (Chk (ops0.le 32 (ops0.len key))
 (Chk (ops0.room (ops0.add 1 (ops0.slen l)) 32 1)
 ((flatL (ops0.app (ops0.ext ((.int .u8 (ops0.cvt .u8 (ops0.ofn (ops0.slen l))))::(([]:List AV)++(ops0.scells l))) 0 (ops0.mul (ops0.add 1 (ops0.slen l)) 1)) (ops0.ext key 0 32))) /\
 (Q 0 (ops0.add (ops0.add 1 (ops0.slen l)) 32) (ops0.add (ops0.add 1 (ops0.slen l)) 32) 1 (ops0.app (ops0.ext ((.int .u8 (ops0.cvt .u8 (ops0.ofn (ops0.slen l))))::(([]:List AV)++(ops0.scells l))) 0 (ops0.mul (ops0.add 1 (ops0.slen l)) 1)) (ops0.ext key 0 32))))))))))):=by kernel_rfl
theorem vc80(key:List AV)(l:List UInt8)(Q:Nat->Nat->Nat->Nat->List AV->Prop) :
  (vcall (vcA kdYes noCn noLn) ops0 (qah 80 vf80) 200 vf80 [.agg key,.str l] [] (endB Q)) =
 ((Br (ops0.lt 0 (ops0.slen l))
 (Chk (ops0.room 1 (ops0.slen l) 1)
 (Chk (ops0.le 32 (ops0.len key))
 (Chk (ops0.le (ops0.add 0 (ops0.mul (ops0.add 1 (ops0.slen l)) 1)) (ops0.len ((.int .u8 (ops0.cvt .u8 (ops0.ofn (ops0.slen l))))::(([]:List AV)++(ops0.scells l)))))
 (Chk (ops0.le 32 (ops0.len key))
 (Chk (ops0.room (ops0.add 1 (ops0.slen l)) 32 1)
 ((flatL (ops0.app (ops0.ext ((.int .u8 (ops0.cvt .u8 (ops0.ofn (ops0.slen l))))::(([]:List AV)++(ops0.scells l))) 0 (ops0.mul (ops0.add 1 (ops0.slen l)) 1)) (ops0.ext key 0 32))) /\
 (Q 0 (ops0.add (ops0.add 1 (ops0.slen l)) 32) (ops0.add (ops0.add 1 (ops0.slen l)) 32) 1 (ops0.app (ops0.ext ((.int .u8 (ops0.cvt .u8 (ops0.ofn (ops0.slen l))))::(([]:List AV)++(ops0.scells l))) 0 (ops0.mul (ops0.add 1 (ops0.slen l)) 1)) (ops0.ext key 0 32)))))))))
 (Chk (ops0.le 32 (ops0.len key))
 (Chk (ops0.le 32 (ops0.len key))
 ((flatL ((.int .u8 (ops0.cvt .u8 (ops0.ofn (ops0.slen l))))::(([]:List AV)++(ops0.ext key 0 32)))) /\
 (Q 0 33 33 1 ((.int .u8 (ops0.cvt .u8 (ops0.ofn (ops0.slen l))))::(([]:List AV)++(ops0.ext key 0 32))))))))):=by kernel_rfl
def qar(k:Nat):List UInt8 := [UInt8.ofNat (k / 2 ^ 0),UInt8.ofNat (k / 2 ^ 8),UInt8.ofNat (k / 2 ^ 16),UInt8.ofNat (k / 2 ^ 24),UInt8.ofNat (k / 2 ^ 32),UInt8.ofNat (k / 2 ^ 40),UInt8.ofNat (k / 2 ^ 48),UInt8.ofNat (k / 2 ^ 56)]
def headL(key l:List UInt8):List UInt8:=UInt8.ofNat l.length::(l++key)
theorem qa9(key l:List UInt8):(headL key l).length=l.length+key.length+1:=by
 unfold headL
 rw[List.length_cons,List.length_append]
theorem shr8(k s:Nat)(h:s<=64):ops0.cvt .u8 (ops0.shf .shr .u64 (Int.ofNat k) (Int.ofNat s))=Int.ofNat (UInt8.ofNat (k / 2 ^ s)).toNat:=by
 have e1:ops0.shf .shr .u64 (Int.ofNat k) (Int.ofNat s)=Int.ofNat (k / 2 ^ s):=by
  show(Int.ofNat k).fdiv (2 ^ (Nat.min (Int.ofNat s).toNat 64))=_
  have:Nat.min (Int.ofNat s).toNat 64=s:=Nat.min_eq_left h
  rw[this]
  have e2:(2:Int) ^ s=Int.ofNat (2 ^ s):=by simp
  rw[e2]
  exact Int.fdiv_eq_ediv_of_nonneg _ (Int.natCast_nonneg _)
 rw[e1]
 generalize k / 2 ^ s=q
 show IntKind.u8.wrap (Int.ofNat q)=_
 simp[IntKind.wrap,IntKind.bits,IntKind.signed]
theorem qxu(a b c d e f g h:Int):flatL [.int .u8 a,.int .u8 b,.int .u8 c,.int .u8 d,.int .u8 e,.int .u8 f,.int .u8 g,.int .u8 h]:=by
 intro x hx
 simp only[List.mem_cons,List.not_mem_nil,or_false] at hx
 rcases hx with rfl|rfl|rfl|rfl|rfl|rfl|rfl|rfl<;>rfl
theorem qi2(k:Nat) : [AV.int IntKind.u8 (ops0.cvt IntKind.u8 (ops0.shf BinOp.shr IntKind.u64 (Int.ofNat k) (Int.ofNat 0))),.int IntKind.u8 (ops0.cvt IntKind.u8 (ops0.shf BinOp.shr IntKind.u64 (Int.ofNat k) (Int.ofNat 8))),.int IntKind.u8 (ops0.cvt IntKind.u8 (ops0.shf BinOp.shr IntKind.u64 (Int.ofNat k) (Int.ofNat 16))),.int IntKind.u8 (ops0.cvt IntKind.u8 (ops0.shf BinOp.shr IntKind.u64 (Int.ofNat k) (Int.ofNat 24))),
  .int IntKind.u8 (ops0.cvt IntKind.u8 (ops0.shf BinOp.shr IntKind.u64 (Int.ofNat k) (Int.ofNat 32))),.int IntKind.u8 (ops0.cvt IntKind.u8 (ops0.shf BinOp.shr IntKind.u64 (Int.ofNat k) (Int.ofNat 40))),.int IntKind.u8 (ops0.cvt IntKind.u8 (ops0.shf BinOp.shr IntKind.u64 (Int.ofNat k) (Int.ofNat 48))),.int IntKind.u8 (ops0.cvt IntKind.u8 (ops0.shf BinOp.shr IntKind.u64 (Int.ofNat k) (Int.ofNat 56)))]=(qar k).map by8:=by
 rw[shr8 k 0 (by decide),shr8 k 8 (by decide),shr8 k 16 (by decide),shr8 k 24 (by decide),shr8 k 32 (by decide),shr8 k 40 (by decide),shr8 k 48 (by decide),shr8 k 56 (by decide)]
 rfl
theorem qz4(k:Nat):CallTo Try.prog 44 [.int .u64 (Int.ofNat k)] [] (.slc 0 0 8 8 1) [.cells ((qar k).map by8)] []:=by
 refine qfm (qa3 _) (qai _) (qaj ok44) (qad 44 vf44) (n:=200) (g:=kdYes) ?_
 rw[vc44]
 exact⟨qxu _ _ _ _ _ _ _ _,rfl,rfl,rfl,rfl,qi2 k⟩
theorem qy8(k:Nat):CallTo Try.prog 45 [.int .u64 (Int.ofNat k)] [] (.slc 0 0 8 8 1) [.cells ((qar k).map by8)] []:=by
 refine qfm (qa3 _) (qai _) (qaj ok45) (qad 45 vf45) (n:=200) (g:=kdYes) ?_
 rw[vc45]
 exact⟨qxu _ _ _ _ _ _ _ _,rfl,rfl,rfl,rfl,qi2 k⟩
theorem qne(l:List UInt8)(h:l.length<=64):AV.int IntKind.u8 (ops0.cvt IntKind.u8 (ops0.ofn (ops0.slen l)))=by8 (UInt8.ofNat l.length):=by
 rw[nSlen,nOfn,nC8 (by omega)]
 unfold by8
 rw[UInt8.toNat_ofNat_of_lt' (by show _<256;omega)]
theorem qpo(key l:List UInt8):by8 (UInt8.ofNat l.length)::((([]:List AV)++l.map by8)++key.map by8)=(headL key l).map by8:=by
 unfold headL
 rw[List.nil_append,List.map_cons,List.map_append]
theorem q31(key l:List UInt8)(hk:key.length=32)(hl:l.length<=64):CallTo Try.prog 79 [.agg (key.map by8),.str l] [] (.slc 0 0 (l.length+33) (l.length+33) 1) [.cells ((headL key l).map by8)] []:=by
 refine qfm (qa3 _) (qai _) (qaj ok79) (qad 79 vf79) (n:=200) (g:=kdYes) ?_
 rw[vc79,qne l hl]
 have hkl:(key.map by8).length=32:=by rw[List.length_map,hk]
 have e1:ops0.ext (key.map by8) 0 32=key.map by8:=by rw[nExt,List.drop_zero,List.take_of_length_le (by omega)]
 have e2:ops0.ext (by8 (UInt8.ofNat l.length)::(([]:List AV)++ops0.scells l)) 0 (ops0.mul (ops0.add 1 (ops0.slen l)) 1)=by8 (UInt8.ofNat l.length)::(([]:List AV)++l.map by8):=by
  rw[nExt,List.drop_zero,List.take_of_length_le (by rw[qbw,nPlus,nSlen,qly]; simp;omega)]
  rfl
 rw[e1,e2]
 simp (disch:=omega) only[nSlen,nOfn,nAdd,nMkr,nRoom,nLe,nLen,nPlus,qbw,qly,hkl]
 refine Chk.mk (by simp;omega) (Chk.mk (decide_eq_true (by omega)) (Chk.mk (decide_eq_true (by omega)) (Chk.mk (decide_eq_true (by simp;omega)) (Chk.mk (decide_eq_true (by omega)) (Chk.mk (decide_eq_true (by omega)) ?_)))))
 rw[nApp,List.cons_append,qpo]
 exact⟨qac _,by trivial,by omega,by omega,by trivial,rfl⟩
theorem q4n(key l:List UInt8)(hk:key.length=32)(hl:l.length<=64):CallTo Try.prog 80 [.agg (key.map by8),.str l] [] (.slc 0 0 (l.length+33) (l.length+33) 1) [.cells ((headL key l).map by8)] []:=by
 refine qfm (qa3 _) (qai _) (qaj ok80) (qad 80 vf80) (n:=200) (g:=kdYes) ?_
 rw[vc80,qne l hl]
 have hkl:(key.map by8).length=32:=by rw[List.length_map,hk]
 have e1:ops0.ext (key.map by8) 0 32=key.map by8:=by rw[nExt,List.drop_zero,List.take_of_length_le (by omega)]
 have e2:ops0.ext (by8 (UInt8.ofNat l.length)::(([]:List AV)++ops0.scells l)) 0 (ops0.mul (ops0.add 1 (ops0.slen l)) 1)=by8 (UInt8.ofNat l.length)::(([]:List AV)++l.map by8):=by
  rw[nExt,List.drop_zero,List.take_of_length_le (by rw[qbw,nPlus,nSlen,qly]; simp;omega)]
  rfl
 rw[e1,e2]
 simp (disch:=omega) only[nSlen,nOfn,nAdd,nMkr,nRoom,nLe,nLt,nLen,nPlus,qbw,qly,hkl]
 refine Br.mk (fun h0 => ?_) (fun h0 => ?_)
 ·refine Chk.mk (decide_eq_true (by omega)) (Chk.mk (decide_eq_true (by omega)) (Chk.mk (decide_eq_true (by simp;omega)) (Chk.mk (decide_eq_true (by omega)) (Chk.mk (decide_eq_true (by omega)) ?_))))
  rw[nApp,List.cons_append,qpo]
  exact⟨qac _,by trivial,by omega,by omega,by trivial,rfl⟩
 ·have h0:l = []:=by
   have:=of_decide_eq_false h0
   exact List.eq_nil_of_length_eq_zero (by omega)
  subst h0
  refine Chk.mk (decide_eq_true (by omega)) (Chk.mk (decide_eq_true (by omega)) ?_)
  exact⟨qac (headL key []),by trivial,by trivial,by trivial,by trivial,by trivial⟩
def z8(n:Nat):List AV:=List.replicate n (by8 0)
theorem z8_eq(n:Nat):z8 n=(List.replicate n (0:UInt8)).map by8:=by rw[List.map_replicate]; rfl
theorem qnm(n:Nat):flatL (z8 n):=by rw[z8_eq]; exact qac _
theorem qer(n:Nat):(z8 n).length=n:=List.length_replicate
def PKey(ks:List AV):Prop:=∃ key:List UInt8,key.length=32/\ks=key.map by8
structure MF where
 bytes:Int->List AV
 head:List AV->List UInt8->List AV
def mf0:MF:=⟨fun n=>(qar n.toNat).map by8,fun ks l=>(headL (qag ks) l).map by8⟩
def cnM1(S:MF):CnF:=fun f vals H=>match f,vals with
 | 44,[.int .u64 n]=>some (0<=n,.ok (.slc (size H) 0 8 8 1) (join H [.cells (S.bytes n)]) [])
 | 45,[.int .u64 n]=>some (0<=n,.ok (.slc (size H) 0 8 8 1) (join H [.cells (S.bytes n)]) [])
 | 79,[.agg ks,.str l]=>some (PKey ks/\l.length<=64,.ok (.slc (size H) 0 (ops0.add (ops0.slen l) 33) (ops0.add (ops0.slen l) 33) 1) (join H [.cells (S.head ks l)]) [])
 | 80,[.agg ks,.str l]=>some (PKey ks/\l.length<=64,.ok (.slc (size H) 0 (ops0.add (ops0.slen l) 33) (ops0.add (ops0.slen l) 33) 1) (join H [.cells (S.head ks l)]) [])
 | _,_=>none
theorem q06:CnOK Try.prog (cnM1 mf0):=by
 intro f vals H p x e hp
 unfold cnM1 at e
 split at e
 ·rename_i n
  cases e
  obtain⟨m,rfl⟩:∃ m:Nat,n=Int.ofNat m:=⟨n.toNat,(Int.toNat_of_nonneg hp).symm⟩
  exact CallTo.lookS (qz4 m) (qac _) (.cons (Vw.int H _ _) .nil)
 ·rename_i n
  cases e
  obtain⟨m,rfl⟩:∃ m:Nat,n=Int.ofNat m:=⟨n.toNat,(Int.toNat_of_nonneg hp).symm⟩
  exact CallTo.lookS (qy8 m) (qac _) (.cons (Vw.int H _ _) .nil)
 ·rename_i ks l
  cases e
  obtain⟨⟨key,hk,rfl⟩,hl⟩:=hp
  have h:=CallTo.lookS (q31 key l hk hl) (qac _) (.cons (Vw.agg H (Still.flat (qac key))) (.cons (Vw.str H l) .nil))
  show CallTo _ _ _ _ _ (join H [.cells ((headL (qag (key.map by8)) l).map by8)]) _
  rw[qab]
  exact h
 ·rename_i ks l
  cases e
  obtain⟨⟨key,hk,rfl⟩,hl⟩:=hp
  have h:=CallTo.lookS (q4n key l hk hl) (qac _) (.cons (Vw.agg H (Still.flat (qac key))) (.cons (Vw.str H l) .nil))
  show CallTo _ _ _ _ _ (join H [.cells ((headL (qag (key.map by8)) l).map by8)]) _
  rw[qab]
  exact h
 ·cases e
structure NF extends AF where
 toMF:MF
def nf0:NF := { af0 with toMF:=mf0 }
def cnN1(S:NF):CnF:=cnOr (cnM1 S.toMF) (cnA S.toAF)
theorem qe4:CnOK Try.prog (cnN1 nf0):=qfl q06 q4t
end
end Go.Proofs.Vm

namespace Go.Proofs.Vm
set_option maxRecDepth 100000
open Go.Vm
noncomputable section
def textL(pl:List (List UInt8)):List UInt8:=(pl.map fun p=>qar p.length++p).flatten
def qa6(ps:List AV)(o n:Nat):List (List UInt8):=((ps.drop o).take n).map partA
def twoA(p:AV):List AV := [.ros ((qar (partA p).length).map by8) 0 8 8 false,p]
def rowsA(hd:List AV)(m c:Nat)(ps:List AV)(o n:Nat):List AV := .ros hd 0 m c false::(((ps.drop o).take n).map twoA).flatten
structure TF where
 rows:List AV->Nat->Nat->List AV->Nat->Nat->List AV
 txt:List AV->List AV->Nat->Nat->List AV
 len:Nat->List AV->Nat->Nat->Nat
def tf0:TF:=⟨rowsA,fun hd ps o n=>hd++(textL (qa6 ps o n)).map by8,fun m ps o n=>m+(textL (qa6 ps o n)).length⟩
def P41(ks out hd:List AV)(m:Nat)(ps:List AV)(o n:Nat):Prop:=flatL ks/\flatL out/\(∃ lb:List UInt8,hd=lb.map by8/\m=lb.length)/\PPs ps o n/\n<8589934592
def PRm(ps:List AV)(o n:Nat):Prop:=∀ j,j<n->∀ pc off len cap ex,ps[o+j]? = some (.ros pc off len cap ex)->off+len<=pc.length
def P40(ks out hd:List AV)(m:Nat)(ps:List AV)(o n:Nat):Prop:=PRm ps o n/\flatL ks/\flatL out/\m<=1000/\(∃ lb:List UInt8,hd=lb.map by8/\m=lb.length)/\PPs ps o n/\(textL (qa6 ps o n)).length<68719476736
noncomputable def lp41:VC:=vp [1,1,1,0,1,0,0] vf41.body
def fr41(x7:AV)(ps:List AV)(o n c:Nat)(e:Bool)(i:Nat):Fr := [.top,.top,.top,.top,.top,.top,.ptr 1 0,x7,.top,.top,.top,.top,.top,.top,.top,.top,.top,.top,.ros ps o n c e,.int .i64 (Int.ofNat n),.int .i64 (Int.ofNat i),.top,.top,.top,.top,.top,.top,.top,.top,.top,.top,.top,.top,.top,.top]
def mk41:List Bool := [true,true,true,true,true,true,false,false,true,true,true,true,true,true,true,true,true,true,false,false,false,true,true,true,true,true,true,true,true,true,true,true,true,true,true]
def ln41(F:TF):LnF:=fun n0 b fr H=>match slot fr 7,slot fr 18,H with
 | .ros [.slc 2 0 m c' 1] 0 1 1 true,.ros ps o n c e,[.cells ks,.cells out,.cells hd]=>some (n0=0/\VCis b lp41/\forget mk41 fr=fr41 (.ros [.slc 2 0 m c' 1] 0 1 1 true) ps o n c e 0/\P41 ks out hd m ps o n,
   .ok (.exit 0) (fr41 (.ros (F.rows hd m c' ps o n) 0 (2*n+1) (2*n+1) false) ps o n c e n) [.cells ks,.cells out])
 | _,_,_=>none
noncomputable def lp40:VC:=vp [1,1,1,0,1,0,0] vf40.body
def fr40(L:Nat)(ps:List AV)(o n c:Nat)(e:Bool)(i:Nat):Fr := [.top,.top,.ros ps o n c e,.top,.top,.top,.ptr 1 0,.slc 2 0 L L 1,.int .i64 (Int.ofNat i),.top,.top,.top,.top,.top,.top,.top,.top,.top,.top,.top,.top,.top,.top,.top,.top,.top,.top,.top,.top,.top,.top,.top,.top,.top,.top,.top,.top,.top]
def mk40:List Bool := [true,true,false,true,true,true,false,false,false,true,true,true,true,true,true,true,true,true,true,true,true,true,true,true,true,true,true,true,true,true,true,true,true,true,true,true,true,true]
def ln40(F:TF):LnF:=fun n0 b fr H=>match slot fr 7,slot fr 2,H with
 | .slc 2 0 m _ 1,.ros ps o n c e,[.cells ks,.cells out,.cells hd]=>some (n0=0/\VCis b lp40/\forget mk40 fr=fr40 m ps o n c e 0/\P40 ks out hd m ps o n,
   .ok (.exit 0) (fr40 (F.len m ps o n) ps o n c e n) [.cells ks,.cells out,.cells (F.txt hd ps o n)])
 | _,_,_=>none
theorem qya(S:NF)(ks out hd ps:List AV)(m c' o n c:Nat)(e:Bool)(i:Nat)(Q:Ex->Fr->Hl->Prop) :
  (vm (vcA kdYes (cnN1 S) noLn) ops0 noTab 100 0 lp41 (fr41 (.ros [.ros hd 0 m c' false] 0 1 1 true) ps o n c e i) [.cells ks,.cells out] [] (bodyX mk41 Q)) =
 ((Br (ops0.cmp .lss (Int.ofNat i) (Int.ofNat n))
 (Chk (ops0.inr (Int.ofNat i) n)
 (∃ ds:(List AV),(∃ off:Nat,(∃ len:Nat,(∃ cap:Nat,(∃ e1:Bool,((Nth ps (ops0.adr o (Int.ofNat i) 1) (.ros ds off len cap e1)) /\
 (((Int.ofNat 0)<=(ops0.cvt .u64 (ops0.ofn len))) /\
 (Q Ex.norm (tp 6 ((.ptr 1 0)::(.slc 3 0 3 3 1)::tp 10 ((.ros ps o n c e)::(.int .i64 (.ofNat n))::(.int .i64 (ops0.bin .add .i64 (Int.ofNat i) (Int.ofNat 1)))::tp 14 ([])))) [(.cells ks),(.cells out),(.cells (MF.bytes (NF.toMF S) (ops0.cvt .u64 (ops0.ofn len)))),(.cells [(.ros hd 0 m c' Bool.false),(.slc 2 0 8 8 1),(.ros ds off len cap e1)])])))))))))
 (Q (Ex.exit 0) (tp 6 ((.ptr 1 0)::(.ros [(.ros hd 0 m c' Bool.false)] 0 1 1 Bool.true)::tp 10 ((.ros ps o n c e)::(.int .i64 (.ofNat n))::(.int .i64 (.ofNat i))::tp 14 ([])))) [(.cells ks),(.cells out)]))):=by kernel_rfl
theorem qyp(S:NF)(ks out rows ps:List AV)(L o n c:Nat)(e:Bool)(i:Nat)(Q:Ex->Fr->Hl->Prop) :
  (vm (vcA kdYes (cnN1 S) noLn) ops0 noTab 100 0 lp41 (fr41 (.slc 2 0 L L 1) ps o n c e i) [.cells ks,.cells out,.cells rows] [] (bodyX mk41 Q)) =
 ((Br (ops0.cmp .lss (Int.ofNat i) (Int.ofNat n))
 (Chk (ops0.inr (Int.ofNat i) n)
 (∃ ds:(List AV),(∃ off:Nat,(∃ len:Nat,(∃ cap:Nat,(∃ e1:Bool,((Nth ps (ops0.adr o (Int.ofNat i) 1) (.ros ds off len cap e1)) /\
 (((Int.ofNat 0)<=(ops0.cvt .u64 (ops0.ofn len))) /\
 (Chk (ops0.le (ops0.add 0 (ops0.mul L 1)) (ops0.len rows))
 (Chk (ops0.room L 2 24)
 (Q Ex.norm (tp 6 ((.ptr 1 0)::(.slc 4 0 (ops0.add L 2) (ops0.add L 2) 1)::tp 10 ((.ros ps o n c e)::(.int .i64 (.ofNat n))::(.int .i64 (ops0.bin .add .i64 (Int.ofNat i) (Int.ofNat 1)))::tp 14 ([])))) [(.cells ks),(.cells out),.dead,(.cells (MF.bytes (NF.toMF S) (ops0.cvt .u64 (ops0.ofn len)))),(.cells (ops0.app (ops0.ext rows 0 (ops0.mul L 1)) [(.slc 3 0 8 8 1),(.ros ds off len cap e1)]))])))))))))))
 (Q (Ex.exit 0) (tp 6 ((.ptr 1 0)::(.slc 2 0 L L 1)::tp 10 ((.ros ps o n c e)::(.int .i64 (.ofNat n))::(.int .i64 (.ofNat i))::tp 14 ([])))) [(.cells ks),(.cells out),(.cells rows)]))):=by kernel_rfl
theorem vcl40(S:NF)(ks out ms ps:List AV)(L o n c:Nat)(e:Bool)(i:Nat)(Q:Ex->Fr->Hl->Prop) :
  (vm (vcA kdYes (cnN1 S) noLn) ops0 noTab 100 0 lp40 (fr40 L ps o n c e i) [.cells ks,.cells out,.cells ms] [] (bodyX mk40 Q)) =
 ((Br (ops0.cmp .lss (Int.ofNat i) (ops0.ofn n))
 (Chk (ops0.inr (Int.ofNat i) n)
 (∃ ds:(List AV),(∃ off:Nat,(∃ len:Nat,(∃ cap:Nat,(∃ e1:Bool,((Nth ps (ops0.adr o (Int.ofNat i) 1) (.ros ds off len cap e1)) /\
 (((Int.ofNat 0)<=(ops0.cvt .u64 (ops0.ofn len))) /\
 (Chk (ops0.le (ops0.add 0 (ops0.mul L 1)) (ops0.len ms))
 (Chk (ops0.le 8 (ops0.len (MF.bytes (NF.toMF S) (ops0.cvt .u64 (ops0.ofn len)))))
 (Chk (ops0.room L 8 1)
 (Chk (ops0.inr (Int.ofNat i) n)
 (∃ ds1:(List AV),(∃ off1:Nat,(∃ len1:Nat,(∃ cap1:Nat,(∃ e2:Bool,((Nth ps (ops0.adr o (Int.ofNat i) 1) (.ros ds1 off1 len1 cap1 e2)) /\
 (Chk (ops0.le (ops0.add 0 (ops0.mul (ops0.add L 8) 1)) (ops0.len (ops0.app (ops0.ext ms 0 (ops0.mul L 1)) (ops0.ext (MF.bytes (NF.toMF S) (ops0.cvt .u64 (ops0.ofn len))) 0 8))))
 (Chk (ops0.le (ops0.add off1 (ops0.mul len1 1)) (ops0.len ds1))
 (Chk (ops0.room (ops0.add L 8) len1 1)
 (Q Ex.norm (tp 2 ((.ros ps o n c e)::tp 3 ((.ptr 1 0)::(.slc 5 0 (ops0.add (ops0.add L 8) len1) (ops0.add (ops0.add L 8) len1) 1)::(.int .i64 (ops0.bin .add .i64 (Int.ofNat i) (Int.ofNat 1)))::tp 29 ([])))) [(.cells ks),(.cells out),.dead,(.cells (MF.bytes (NF.toMF S) (ops0.cvt .u64 (ops0.ofn len)))),.dead,(.cells (ops0.app (ops0.ext (ops0.app (ops0.ext ms 0 (ops0.mul L 1)) (ops0.ext (MF.bytes (NF.toMF S) (ops0.cvt .u64 (ops0.ofn len))) 0 8)) 0 (ops0.mul (ops0.add L 8) 1)) (ops0.ext ds1 off1 (ops0.mul len1 1))))]))))))))))))))))))))))
 (Q (Ex.exit 0) (tp 2 ((.ros ps o n c e)::tp 3 ((.ptr 1 0)::(.slc 2 0 L L 1)::(.int .i64 (.ofNat i))::tp 29 ([])))) [(.cells ks),(.cells out),(.cells ms)]))):=by kernel_rfl
theorem vc41(S:NF)(F:TF)(ks ps:List AV)(l:List UInt8)(o n c:Nat)(e:Bool)(Q:AV->Hl->Prop) :
  (vcall (vcA kdYes (cnN1 S) (ln41 F)) ops0 (qah 41 vf41) 200 vf41 [.agg ks,.str l,.ros ps o n c e] [] (endN (fun _=>0) Q)) =
 ((Br (ops0.cmp .gtr (ops0.ofn (ops0.slen l)) (Int.ofNat 64))
 (Q (.agg (z8 32)) [])
 (Chk (ops0.le 32 (ops0.len ks))
 (((PKey (ops0.ext ks 0 32)) /\
 ((List.length l)<=64)) /\
 ((((0:Nat)=0) /\
 ((VCis lp41 lp41) /\
 ((((tp 6 ((.ptr 1 0)::(.ros [(.slc 2 0 (ops0.add (ops0.slen l) 33) (ops0.add (ops0.slen l) 33) 1)] 0 1 1 Bool.true)::tp 10 ((.ros ps o n c e)::(.int .i64 (ops0.ofn n))::(.int .i64 (.ofNat 0))::tp 14 ([])))):Fr)=(tp 6 ((.ptr 1 0)::(.ros [(.slc 2 0 (ops0.add (ops0.slen l) 33) (ops0.add (ops0.slen l) 33) 1)] 0 1 1 Bool.true)::tp 10 ((.ros ps o n c e)::(.int .i64 (.ofNat n))::(.int .i64 (.ofNat 0))::tp 14 ([]))))) /\
 (P41 ks (z8 32) (MF.head (NF.toMF S) (ops0.ext ks 0 32) l) (ops0.add (ops0.slen l) 33) ps o n)))) /\
 ((PPs (List.map (vw1 [(.cells ks),(.cells (z8 32))]) (TF.rows F (MF.head (NF.toMF S) (ops0.ext ks 0 32) l) (ops0.add (ops0.slen l) 33) (ops0.add (ops0.slen l) 33) ps o n)) 0 ((2*n)+1)) /\
 (Chk (ops0.eq (ops0.len (KF.sum (AF.toKF (NF.toAF S)) (rdP (List.map (vw1 [(.cells ks),(.cells (z8 32))]) (TF.rows F (MF.head (NF.toMF S) (ops0.ext ks 0 32) l) (ops0.add (ops0.slen l) 33) (ops0.add (ops0.slen l) 33) ps o n)) 0 ((2*n)+1)))) 32)
 (Chk (ops0.le 32 (ops0.len (ops0.spl (z8 32) 0 (KF.sum (AF.toKF (NF.toAF S)) (rdP (List.map (vw1 [(.cells ks),(.cells (z8 32))]) (TF.rows F (MF.head (NF.toMF S) (ops0.ext ks 0 32) l) (ops0.add (ops0.slen l) 33) (ops0.add (ops0.slen l) 33) ps o n)) 0 ((2*n)+1))))))
 (Q (.agg (ops0.ext (ops0.spl (z8 32) 0 (KF.sum (AF.toKF (NF.toAF S)) (rdP (List.map (vw1 [(.cells ks),(.cells (z8 32))]) (TF.rows F (MF.head (NF.toMF S) (ops0.ext ks 0 32) l) (ops0.add (ops0.slen l) 33) (ops0.add (ops0.slen l) 33) ps o n)) 0 ((2*n)+1)))) 0 32)) []))))))))):=by kernel_rfl
theorem vc40(S:NF)(F:TF)(ks ps:List AV)(l:List UInt8)(o n c:Nat)(e:Bool)(Q:AV->Hl->Prop) :
  (vcall (vcA kdYes (cnN1 S) (ln40 F)) ops0 (qah 40 vf40) 200 vf40 [.agg ks,.str l,.ros ps o n c e] [] (endN (fun _=>0) Q)) =
 ((Br (ops0.cmp .gtr (ops0.ofn (ops0.slen l)) (Int.ofNat 64))
 (Q (.agg (z8 32)) [])
 (Chk (ops0.le 32 (ops0.len ks))
 (((PKey (ops0.ext ks 0 32)) /\
 ((List.length l)<=64)) /\
 ((((0:Nat)=0) /\
 ((VCis lp40 lp40) /\
 ((((tp 2 ((.ros ps o n c e)::tp 3 ((.ptr 1 0)::(.slc 2 0 (ops0.add (ops0.slen l) 33) (ops0.add (ops0.slen l) 33) 1)::(.int .i64 (.ofNat 0))::tp 29 ([])))):Fr)=(tp 2 ((.ros ps o n c e)::tp 3 ((.ptr 1 0)::(.slc 2 0 (ops0.add (ops0.slen l) 33) (ops0.add (ops0.slen l) 33) 1)::(.int .i64 (.ofNat 0))::tp 29 ([]))))) /\
 (P40 ks (z8 32) (MF.head (NF.toMF S) (ops0.ext ks 0 32) l) (ops0.add (ops0.slen l) 33) ps o n)))) /\
 ((PB (TF.txt F (MF.head (NF.toMF S) (ops0.ext ks 0 32) l) ps o n) 0 (TF.len F (ops0.add (ops0.slen l) 33) ps o n)) /\
 (Chk (ops0.eq (ops0.len (KF.sum (AF.toKF (NF.toAF S)) (rdB (TF.txt F (MF.head (NF.toMF S) (ops0.ext ks 0 32) l) ps o n) 0 (TF.len F (ops0.add (ops0.slen l) 33) ps o n)))) 32)
 (Chk (ops0.le 32 (ops0.len (ops0.spl (z8 32) 0 (KF.sum (AF.toKF (NF.toAF S)) (rdB (TF.txt F (MF.head (NF.toMF S) (ops0.ext ks 0 32) l) ps o n) 0 (TF.len F (ops0.add (ops0.slen l) 33) ps o n))))))
 (Q (.agg (ops0.ext (ops0.spl (z8 32) 0 (KF.sum (AF.toKF (NF.toAF S)) (rdB (TF.txt F (MF.head (NF.toMF S) (ops0.ext ks 0 32) l) ps o n) 0 (TF.len F (ops0.add (ops0.slen l) 33) ps o n)))) 0 32)) []))))))))):=by kernel_rfl
theorem qh7{σ:Nat->Option Nat}{φ:Nat->Option (List AV)}(h1:σ 1=some 1){ps:List AV}(hps:Still ps)(x7:AV)(o n c:Nat)(e:Bool)(i:Nat) :
  forget mk41 (renL σ φ true (fr41 x7 ps o n c e i))=fr41 (ren σ φ true x7) ps o n c e i:=by
 unfold fr41 mk41
 simp only[renL,ren,h1,forget,hps σ φ]
theorem qkx{pc:List AV}{off len cap:Nat}{ex:Bool}{lb:List UInt8}(hb:qan pc off len lb) :
  twoA (.ros pc off len cap ex) = [.ros ((qar len).map by8) 0 8 8 false,.ros pc off len cap ex]:=by
 unfold twoA
 rw[qdp hb,hb.1]
theorem qhh{len:Nat}(h:len<1099511627776):ops0.cvt .u64 (ops0.ofn len)=Int.ofNat len:=by rw[nOfn,nC64 (by omega)]
theorem q0d{ks out rows ps pc:List AV}{o n c i off len cap:Nat}{e ex:Bool}{lb:List UInt8}(hks:flatL ks)(hout:flatL out)(hrows:Still rows)(hps:Still ps)(hi:i<n)(hn:n<8589934592)
  (hp:ps[o+i]? = some (.ros pc off len cap ex)) (hb:qan pc off len lb) (hlen:len<1099511627776) (hL:rows.length=2*i+1) :
  qap Try.prog 0 lp41 (fr41 (.slc 2 0 (2*i+1) (2*i+1) 1) ps o n c e i) [.cells ks,.cells out,.cells rows] .norm
   (fr41 (.slc 2 0 (2*(i+1)+1) (2*(i+1)+1) 1) ps o n c e (i+1)) [.cells ks,.cells out,.cells (rows++twoA (.ros pc off len cap ex))]:=by
 have h1:qap Try.prog 0 lp41 (fr41 (.slc 2 0 (2*i+1) (2*i+1) 1) ps o n c e i) [.cells ks,.cells out,.cells rows] .norm
   (fr41 (.slc 4 0 (2*(i+1)+1) (2*(i+1)+1) 1) ps o n c e (i+1)) [.cells ks,.cells out,.dead,.cells ((qar len).map by8),.cells (rows ++ [.slc 3 0 8 8 1,.ros pc off len cap ex])]:=by
  have key:∀ Q:Ex->Fr->Hl->Prop,Q .norm (fr41 (.slc 4 0 (2*(i+1)+1) (2*(i+1)+1) 1) ps o n c e (i+1)) [.cells ks,.cells out,.dead,.cells ((qar len).map by8),.cells (rows ++ [.slc 3 0 8 8 1,.ros pc off len cap ex])] ->
    vm (vcA kdYes (cnN1 nf0) noLn) ops0 noTab 100 0 lp41 (fr41 (.slc 2 0 (2*i+1) (2*i+1) 1) ps o n c e i) [.cells ks,.cells out,.cells rows] [] (bodyX mk41 Q):=by
   intro Q hQ
   rw[qyp,nAdd (by omega)]
   refine Br.t (by rw[nLss]; exact decide_eq_true hi) (Chk.mk (by rw[nInr]; exact decide_eq_true hi) ⟨pc,off,len,cap,ex,Nth.mk (by rw[nAdr,Nat.mul_one]; exact hp),?_,?_⟩)
   ·rw[qhh hlen]; exact Int.natCast_nonneg _
   ·rw[qhh hlen]
    refine Chk.mk (by rw[nLe,nPlus,qbw,nLen]; exact decide_eq_true (by omega)) (Chk.mk (by rw[nRoom]; exact decide_eq_true (by omega)) ?_)
    have e1:ops0.ext rows 0 (ops0.mul (2*i+1) 1)=rows:=by rw[nExt,qbw,List.drop_zero,List.take_of_length_le (by omega)]
    rw[e1,nApp]
    exact hQ
  exact qa2 qe4 (qai _) (qak _) (n:=100) (g:=kdYes) (bs:=mk41) (key _ ⟨rfl,rfl,rfl⟩) (by simp)
 have h2:=h1.post (Weak.pickV [0,1,4] mk41 2 (by simp) (by simp) (by simp))
 rw[qh7 (show pickN [0,1,4] 1=some 1 from rfl) hps] at h2
 have e2:viewF [.cells ks,.cells out,.dead,.cells ((qar len).map by8),.cells (rows ++ [.slc 3 0 8 8 1,.ros pc off len cap ex])] [0,1,4] 2 3=some ((qar len).map by8):=by
  show some (renL _ _ true _)=_
  rw[qaa (qac _)]
 have e3:pickH (viewF [.cells ks,.cells out,.dead,.cells ((qar len).map by8),.cells (rows ++ [.slc 3 0 8 8 1,.ros pc off len cap ex])] [0,1,4] 2) [0,1,4] [.cells ks,.cells out,.dead,.cells ((qar len).map by8),.cells (rows ++ [.slc 3 0 8 8 1,.ros pc off len cap ex])] =
   [.cells ks,.cells out,.cells (rows++twoA (.ros pc off len cap ex))]:=by
  have hpc:∀ σ φ,renL σ φ true pc=pc:=by
   intro σ φ
   have:=qek σ φ true ps (o+i)
   rw[hps σ φ,hp] at this
   simp only[Option.map_some,ren,Option.some.injEq,AV.ros.injEq,and_true] at this
   exact this.symm
  have p3:pickN [0,1,4] 3=none:=rfl
  rw[qkx hb]
  show [renB _ _ true (.cells ks),renB _ _ true (.cells out),renB _ _ true (.cells (rows ++ [.slc 3 0 8 8 1,.ros pc off len cap ex]))]=_
  simp only[renB,qaa hks,qaa hout,qee,hrows _ _,renL,ren,p3,e2,hpc]
 have p4:pickN [0,1,4] 4=some 2:=rfl
 rw[e3] at h2
 simp only[ren,p4] at h2
 exact h2
theorem q0k{ks out hd ps pc:List AV}{m c' o n c off len cap:Nat}{e ex:Bool}{lb:List UInt8}(hks:flatL ks)(hout:flatL out)(hhd:flatL hd)(hps:Still ps)(hi:0<n)(hn:n<8589934592)
  (hp:ps[o+0]? = some (.ros pc off len cap ex)) (hb:qan pc off len lb) (hlen:len<1099511627776) :
  qap Try.prog 0 lp41 (fr41 (.ros [.ros hd 0 m c' false] 0 1 1 true) ps o n c e 0) [.cells ks,.cells out] .norm
   (fr41 (.slc 2 0 3 3 1) ps o n c e 1) [.cells ks,.cells out,.cells (.ros hd 0 m c' false::twoA (.ros pc off len cap ex))]:=by
 have h1:qap Try.prog 0 lp41 (fr41 (.ros [.ros hd 0 m c' false] 0 1 1 true) ps o n c e 0) [.cells ks,.cells out] .norm
   (fr41 (.slc 3 0 3 3 1) ps o n c e 1) [.cells ks,.cells out,.cells ((qar len).map by8),.cells [.ros hd 0 m c' false,.slc 2 0 8 8 1,.ros pc off len cap ex]]:=by
  have key:∀ Q:Ex->Fr->Hl->Prop,Q .norm (fr41 (.slc 3 0 3 3 1) ps o n c e 1) [.cells ks,.cells out,.cells ((qar len).map by8),.cells [.ros hd 0 m c' false,.slc 2 0 8 8 1,.ros pc off len cap ex]] ->
    vm (vcA kdYes (cnN1 nf0) noLn) ops0 noTab 100 0 lp41 (fr41 (.ros [.ros hd 0 m c' false] 0 1 1 true) ps o n c e 0) [.cells ks,.cells out] [] (bodyX mk41 Q):=by
   intro Q hQ
   rw[qya]
   refine Br.t (by rw[nLss]; exact decide_eq_true hi) (Chk.mk (by rw[nInr]; exact decide_eq_true hi) ⟨pc,off,len,cap,ex,Nth.mk (by rw[nAdr,Nat.mul_one]; exact hp),?_,?_⟩)
   ·rw[qhh hlen]; exact Int.natCast_nonneg _
   ·rw[qhh hlen]
    exact hQ
  exact qa2 qe4 (qai _) (qak _) (n:=100) (g:=kdYes) (bs:=mk41) (key _ ⟨rfl,rfl,rfl⟩) (by simp)
 have h2:=h1.post (Weak.pickV [0,1,3] mk41 2 (by simp) (by simp) (by simp))
 rw[qh7 (show pickN [0,1,3] 1=some 1 from rfl) hps] at h2
 have e2:viewF [.cells ks,.cells out,.cells ((qar len).map by8),.cells [.ros hd 0 m c' false,.slc 2 0 8 8 1,.ros pc off len cap ex]] [0,1,3] 2 2=some ((qar len).map by8):=by
  show some (renL _ _ true _)=_
  rw[qaa (qac _)]
 have e3:pickH (viewF [.cells ks,.cells out,.cells ((qar len).map by8),.cells [.ros hd 0 m c' false,.slc 2 0 8 8 1,.ros pc off len cap ex]] [0,1,3] 2) [0,1,3] [.cells ks,.cells out,.cells ((qar len).map by8),.cells [.ros hd 0 m c' false,.slc 2 0 8 8 1,.ros pc off len cap ex]] =
   [.cells ks,.cells out,.cells (.ros hd 0 m c' false::twoA (.ros pc off len cap ex))]:=by
  have hpc:∀ σ φ,renL σ φ true pc=pc:=by
   intro σ φ
   have:=qek σ φ true ps (o+0)
   rw[hps σ φ,hp] at this
   simp only[Option.map_some,ren,Option.some.injEq,AV.ros.injEq,and_true] at this
   exact this.symm
  have p3:pickN [0,1,3] 2=none:=rfl
  rw[qkx hb]
  show [renB _ _ true (.cells ks),renB _ _ true (.cells out),renB _ _ true (.cells [.ros hd 0 m c' false,.slc 2 0 8 8 1,.ros pc off len cap ex])]=_
  simp only[renB,qaa hks,qaa hout,renL,ren,p3,e2,hpc,qaa hhd]
 have p4:pickN [0,1,3] 3=some 2:=rfl
 rw[e3] at h2
 simp only[ren,p4] at h2
 exact h2
theorem qfy(hd:List AV)(m c:Nat)(ps:List AV)(o:Nat):rowsA hd m c ps o 0 = [.ros hd 0 m c false]:=by
 unfold rowsA
 rw[List.take_zero]; rfl
theorem qhs(hd:List AV)(m c:Nat)(ps:List AV)(o i:Nat){p:AV}(hp:ps[o+i]? = some p):rowsA hd m c ps o (i+1)=rowsA hd m c ps o i++twoA p:=by
 unfold rowsA
 have h1:(ps.drop o)[i]? = some p:=by rw[List.getElem?_drop]; exact hp
 have hlt:=(List.getElem?_eq_some_iff.1 h1).1
 have:(ps.drop o)[i]=p:=(List.getElem?_eq_some_iff.1 h1).2
 rw[List.take_succ_eq_append_getElem hlt,this,List.map_append,List.flatten_append]
 simp
theorem qff(hd:List AV)(m c:Nat)(ps:List AV)(o:Nat):∀ i,o+i<=ps.length->(rowsA hd m c ps o i).length=2*i+1
 | 0,_=>by rw[qfy]; rfl
 | i+1,h=>by
  rw[qhs hd m c ps o i (p:=ps[o+i]'(by omega)) (List.getElem?_eq_getElem (by omega)),List.length_append,qff hd m c ps o i (by omega)]
  rfl
theorem qcc.lt{ps:List AV}{o n:Nat}{pl:List (List UInt8)}(h:qcc ps o n pl)(h0:0<n):o+n<=ps.length:=by
 have hlt:n - 1<pl.length:=by rw[h.1]; omega
 obtain⟨_,pc,off,len,cap,ex,e,_⟩:=h.2.2 (n - 1) pl[n - 1] (List.getElem?_eq_getElem hlt)
 have:=(List.getElem?_eq_some_iff.1 e).1
 omega
theorem qjw{hd:List AV}(hh:flatL hd)(m c:Nat){ps:List AV}(o n:Nat)(hp:Rows1 ps):Rows1 (rowsA hd m c ps o n):=by
 intro p h
 unfold rowsA at h
 rcases List.mem_cons.1 h with rfl|h
 ·exact⟨hd,0,m,c,false,rfl,hh⟩
 ·obtain⟨l,hl,hpl⟩:=List.mem_flatten.1 h
  obtain⟨q,hq,rfl⟩:=List.mem_map.1 hl
  have hq:q∈ps:=List.mem_of_mem_drop (List.mem_of_mem_take hq)
  unfold twoA at hpl
  rcases List.mem_cons.1 hpl with rfl|hpl
  ·exact⟨_,0,8,8,false,rfl,qac _⟩
  ·obtain rfl:=List.mem_singleton.1 hpl
   exact hp p hq
def S41(ks out hd:List AV)(m c':Nat)(ps:List AV)(o n c:Nat)(e:Bool):Nat->Fr × Hl
 | 0=>(fr41 (.ros [.ros hd 0 m c' false] 0 1 1 true) ps o n c e 0,[.cells ks,.cells out])
 | i+1=>(fr41 (.slc 2 0 (2*(i+1)+1) (2*(i+1)+1) 1) ps o n c e (i+1),[.cells ks,.cells out,.cells (rowsA hd m c' ps o (i+1))])
theorem q28{ks out hd:List AV}{m c':Nat}{ps:List AV}{o n:Nat}(c:Nat)(e:Bool)(h:P41 ks out hd m ps o n) :
  ∀ lg,qam Try.prog 0 lp41 (fr41 (.ros [.ros hd 0 m c' false] 0 1 1 true) ps o n c e 0) [.cells ks,.cells out] lg (.exit 0) (fr41 (.ros (rowsA hd m c' ps o n) 0 (2*n+1) (2*n+1) false) ps o n c e n) [.cells ks,.cells out] (List.range 0++lg):=by
 obtain⟨hks,hout,⟨hb8,rfl,rfl⟩,⟨hr1,pl,hpl⟩,hn⟩:=h
 have hstill:=hr1.still
 have hhd:=qac hb8
 have hrows:∀ i,Still (rowsA (hb8.map by8) hb8.length c' ps o i):=fun i=>(qjw hhd _ _ _ _ hr1).still
 refine qal (P:=Try.prog) (n0:=0) (b:=lp41) (ex := .exit 0) (by intro h;cases h) (S41 ks out (hb8.map by8) hb8.length c' ps o n c e) n 0 (fun i _ hi => ?_) ?_
 ·have hi':i<n:=by omega
  have hlt:i<pl.length:=by rw[hpl.1]; exact hi'
  obtain⟨hl,pc,off,len,cap,ex,hp,hb⟩:=hpl.2.2 i pl[i] (List.getElem?_eq_getElem hlt)
  have hlen:len<1099511627776:=by have:=hb.1;omega
  have hsucc:=qhs (hb8.map by8) hb8.length c' ps o i hp
  cases i with
  | zero =>
   have h2:=q0k (m:=hb8.length) (c':=c') (c:=c) (e:=e) hks hout hhd hstill hi' hn hp hb hlen
   rw[qfy] at hsucc
   show qap _ _ _ _ _ _ _ [.cells ks,.cells out,.cells (rowsA (hb8.map by8) hb8.length c' ps o (0+1))]
   rw[hsucc]
   exact h2
  | succ i =>
   have h2:=q0d (c:=c) (e:=e) hks hout (hrows (i+1)) hstill hi' hn hp hb hlen (qff _ _ _ _ _ (i+1) (by have:=hpl.lt (by omega); omega))
   show qap _ _ _ _ _ _ _ [.cells ks,.cells out,.cells (rowsA (hb8.map by8) hb8.length c' ps o (i+1+1))]
   rw[hsucc]
   exact h2
 ·rw[Nat.zero_add]
  cases n with
  | zero =>
   have h1:qap Try.prog 0 lp41 (fr41 (.ros [.ros (hb8.map by8) 0 hb8.length c' false] 0 1 1 true) ps o 0 c e 0) [.cells ks,.cells out] (.exit 0) (fr41 (.ros [.ros (hb8.map by8) 0 hb8.length c' false] 0 1 1 true) ps o 0 c e 0) [.cells ks,.cells out]:=by
    refine qa2 qe4 (qai _) (qak _) (n:=100) (g:=kdYes) (bs:=mk41) ?_ (by simp)
    rw[qya]
    exact Br.f rfl ⟨rfl,rfl,rfl⟩
   refine h1.post (Weak.le (by simp) ?_)
   rw[qfy]
   exact FLe.put (fr:=fr41 (.ros [.ros (hb8.map by8) 0 hb8.length c' false] 0 1 1 true) ps o 0 c e 0) (k:=7) rfl (VLe.loose _ _ _ _ _)
  | succ n =>
   have h1:qap Try.prog 0 lp41 (fr41 (.slc 2 0 (2*(n+1)+1) (2*(n+1)+1) 1) ps o (n+1) c e (n+1)) [.cells ks,.cells out,.cells (rowsA (hb8.map by8) hb8.length c' ps o (n+1))] (.exit 0)
     (fr41 (.slc 2 0 (2*(n+1)+1) (2*(n+1)+1) 1) ps o (n+1) c e (n+1)) [.cells ks,.cells out,.cells (rowsA (hb8.map by8) hb8.length c' ps o (n+1))]:=by
    refine qa2 qe4 (qai _) (qak _) (n:=100) (g:=kdYes) (bs:=mk41) ?_ (by simp)
    rw[qyp]
    exact Br.f (by rw[nLss]; exact decide_eq_false (by omega)) ⟨rfl,rfl,rfl⟩
   have h2:=h1.post (Weak.pickV [0,1] mk41 2 (by simp) (by simp) (by simp))
   rw[qh7 (show pickN [0,1] 1=some 1 from rfl) hstill] at h2
   have e2:viewF [.cells ks,.cells out,.cells (rowsA (hb8.map by8) hb8.length c' ps o (n+1))] [0,1] 2 2=some (rowsA (hb8.map by8) hb8.length c' ps o (n+1)):=by
    show some (renL _ _ true _)=_
    rw[hrows (n+1)]
   have p2:pickN [0,1] 2=none:=rfl
   have e3:pickH (viewF [.cells ks,.cells out,.cells (rowsA (hb8.map by8) hb8.length c' ps o (n+1))] [0,1] 2) [0,1] [.cells ks,.cells out,.cells (rowsA (hb8.map by8) hb8.length c' ps o (n+1))] = [.cells ks,.cells out]:=by
    show [renB _ _ true (.cells ks),renB _ _ true (.cells out)]=_
    simp only[renB,qaa hks,qaa hout]
   rw[e3] at h2
   simp only[ren,p2,e2] at h2
   exact h2
theorem qzp:LnOK Try.prog (ln41 tf0):=by
 intro n0 b fr H p x e hn hp lg
 unfold ln41 at e
 split at e<;>cases e
 rename_i m c' ps o n c e ks out hd h1 h2
 obtain⟨rfl,hb,hf,hp⟩:=hp
 have hb:b=lp41:=hb
 subst hb
 have hp':=hp
 obtain⟨hks,hout,⟨hb8,rfl,rfl⟩,⟨hr1,pl,hpl⟩,hn⟩:=hp'
 have hw:=(Weak.forget (n0:=0) (fr:=fr) (H := [.cells ks,.cells out,.cells (hb8.map by8)]) (by simp) mk41)
 rw[hf] at hw
 have hw2:=hw.trans (Weak.pickV [0,1] mk41 2 (by simp) (by simp) (by simp))
 rw[qh7 (show pickN [0,1] 1=some 1 from rfl) hr1.still] at hw2
 have e2:viewF [.cells ks,.cells out,.cells (hb8.map by8)] [0,1] 2 2=some (hb8.map by8):=by
  show some (renL _ _ true _)=_
  rw[qaa (qac _)]
 have p2:pickN [0,1] 2=none:=rfl
 have e3:pickH (viewF [.cells ks,.cells out,.cells (hb8.map by8)] [0,1] 2) [0,1] [.cells ks,.cells out,.cells (hb8.map by8)] = [.cells ks,.cells out]:=by
  show [renB _ _ true (.cells ks),renB _ _ true (.cells out)]=_
  simp only[renB,qaa hks,qaa hout]
 rw[e3] at hw2
 simp only[ren,renL,p2,e2] at hw2
 exact qam.pre hw2 (q28 c e hp) lg
theorem qwl{σ:Nat->Option Nat}{φ:Nat->Option (List AV)}(h1:σ 1=some 1)(h5:σ 5=some 2){ps:List AV}(hps:Still ps)(L o n c:Nat)(e:Bool)(i:Nat) :
  forget mk40 (renL σ φ true (put (fr40 L ps o n c e i) 7 (.slc 5 0 L L 1)))=fr40 L ps o n c e i:=by
 unfold fr40 mk40
 simp only[qkw,qo1,renL,ren,h1,h5,forget,hps σ φ]
theorem qrt(pl:List (List UInt8))(p:List UInt8):textL (pl ++ [p])=textL pl++(qar p.length++p):=by
 unfold textL
 rw[List.map_append,List.flatten_append]
 simp
theorem qnt(ps:List AV)(o i:Nat){p:AV}(hp:ps[o+i]? = some p):qa6 ps o (i+1)=qa6 ps o i ++ [partA p]:=by
 unfold qa6
 have h1:(ps.drop o)[i]? = some p:=by rw[List.getElem?_drop]; exact hp
 have hlt:=(List.getElem?_eq_some_iff.1 h1).1
 have:(ps.drop o)[i]=p:=(List.getElem?_eq_some_iff.1 h1).2
 rw[List.take_succ_eq_append_getElem hlt,this,List.map_append]
 rfl
theorem qos(ps:List AV)(o:Nat):qa6 ps o 0 = []:=by
 unfold qa6
 rw[List.take_zero]; rfl
theorem qr7:textL [] = []:=rfl
theorem qbh(k:Nat):(qar k).length=8:=rfl
theorem qrj(a b:List (List UInt8)):(textL a).length<=(textL (a++b)).length:=by
 unfold textL
 rw[List.map_append,List.flatten_append,List.length_append]
 omega
theorem qo0(a:List (List UInt8)):8*a.length<=(textL a).length:=by
 induction a with
 | nil=>simp
 | cons x xs ih =>
  unfold textL at ih ⊢
  rw[List.map_cons,List.flatten_cons,List.length_append,List.length_append,qbh,List.length_cons]
  omega
theorem qtn(ps:List AV)(o:Nat){i n:Nat}(h:i<=n):(textL (qa6 ps o i)).length<=(textL (qa6 ps o n)).length:=by
 have:qa6 ps o n=qa6 ps o i++(((ps.drop o).drop i).take (n - i)).map partA:=by
  unfold qa6
  rw[<-List.map_append]
  congr 1
  have h2:=List.take_add (l:=ps.drop o) (i:=i) (j:=n - i)
  rw[Nat.add_sub_cancel' h] at h2
  exact h2
 rw[this]
 exact qrj _ _
theorem q2y{ks out ps pc:List AV}{o n c i off len cap:Nat}{e ex:Bool}{lb tb:List UInt8}(hks:flatL ks)(hout:flatL out)(hps:Still ps)(hi:i<n)(hn:n<8589934592)
    (hp:ps[o+i]? = some (.ros pc off len cap ex)) (hb:qan pc off len lb) (hro:off+len<=pc.length) (hlen:tb.length+(8+len)<137438953472) :
    qap Try.prog 0 lp40 (fr40 tb.length ps o n c e i) [.cells ks,.cells out,.cells (tb.map by8)] .norm
      (fr40 (tb++(qar len++lb)).length ps o n c e (i+1)) [.cells ks,.cells out,.cells ((tb++(qar len++lb)).map by8)]:=by
  have hll:=hb.1
  have hL:(tb++(qar len++lb)).length=tb.length+8+len:=by rw[List.length_append,List.length_append,qbh,hll]; omega
  have h1:qap Try.prog 0 lp40 (fr40 tb.length ps o n c e i) [.cells ks,.cells out,.cells (tb.map by8)] .norm
      (put (fr40 (tb++(qar len++lb)).length ps o n c e (i+1)) 7 (.slc 5 0 (tb++(qar len++lb)).length (tb++(qar len++lb)).length 1))
      [.cells ks,.cells out,.dead,.cells ((qar len).map by8),.dead,.cells ((tb++(qar len++lb)).map by8)]:=by
    have key : ∀ Q : Ex -> Fr -> Hl -> Prop, Q .norm (put (fr40 (tb ++ (qar len ++ lb)).length ps o n c e (i + 1)) 7 (.slc 5 0 (tb ++ (qar len ++ lb)).length (tb ++ (qar len ++ lb)).length 1))
          [.cells ks,.cells out,.dead,.cells ((qar len).map by8),.dead,.cells ((tb++(qar len++lb)).map by8)] ->
        vm (vcA kdYes (cnN1 nf0) noLn) ops0 noTab 100 0 lp40 (fr40 tb.length ps o n c e i) [.cells ks,.cells out,.cells (tb.map by8)] [] (bodyX mk40 Q):=by
      intro Q hQ
      rw[vcl40,nAdd (by omega)]
      have e0:MF.bytes (NF.toMF nf0) (Int.ofNat len)=(qar len).map by8:=rfl
      have e1:ops0.ext (tb.map by8) 0 (ops0.mul tb.length 1)=tb.map by8:=by rw[nExt,qbw,List.drop_zero,List.take_of_length_le (by simp)]
      have e2:ops0.ext ((qar len).map by8) 0 8=(qar len).map by8:=rfl
      have e3:ops0.ext pc off (ops0.mul len 1)=lb.map by8:=by rw[nExt,qbw,Nat.mul_one]; exact hb.2
      have e4:ops0.ext (ops0.app (tb.map by8) ((qar len).map by8)) 0 (ops0.mul (ops0.add tb.length 8) 1)=(tb++qar len).map by8:=by
        rw[nExt,qbw,nPlus,nApp,<-List.map_append,List.drop_zero,List.take_of_length_le (by simp[qbh])]
      refine Br.t (by rw[nOfn,nLss]; exact decide_eq_true hi) (Chk.mk (by rw[nInr]; exact decide_eq_true hi) ⟨pc,off,len,cap,ex,Nth.mk (by rw[nAdr,Nat.mul_one]; exact hp),?_,?_⟩)
      · rw[qhh (by omega)]; exact Int.natCast_nonneg _
      · rw[qhh (by omega),e0,e1,e2]
        refine Chk.mk (by rw[nLe,nPlus,qbw,nLen]; exact decide_eq_true (by simp)) (Chk.mk (by rw[nLe,nLen]; exact decide_eq_true (by simp[qbh])) (Chk.mk (by rw[nRoom]; exact decide_eq_true (by omega)) (Chk.mk (by rw[nInr]; exact decide_eq_true hi)
          ⟨pc,off,len,cap,ex,Nth.mk (by rw[nAdr,Nat.mul_one]; exact hp),?_⟩)))
        rw[e4,e3]
        refine Chk.mk (by rw[nLe,nPlus,nPlus,qbw,nLen,nApp]; exact decide_eq_true (by simp[qbh])) (Chk.mk (by rw[nLe,nPlus,qbw,nLen]; exact decide_eq_true (by omega)) (Chk.mk (by rw[nRoom,nPlus]; exact decide_eq_true (by omega)) ?_))
        rw[nPlus,nPlus,nApp,<-List.map_append,List.append_assoc,<-hL]
        exact hQ
    exact qa2 qe4 (qai _) (qak _) (n:=100) (g:=kdYes) (bs:=mk40) (key _ ⟨rfl,rfl,rfl⟩) (by simp)
  have h2:=h1.post (Weak.pick [0,1,5] mk40 (by simp) (by simp) (by simp))
  have e5:wkF [0,1,5] mk40 (put (fr40 (tb++(qar len++lb)).length ps o n c e (i+1)) 7 (.slc 5 0 (tb++(qar len++lb)).length (tb++(qar len++lb)).length 1))=fr40 (tb++(qar len++lb)).length ps o n c e (i+1) :=
    qwl (show pickN [0,1,5] 1=some 1 from rfl) (show pickN [0,1,5] 5=some 2 from rfl) hps _ _ _ _ _ _
  have e6:wkH [0,1,5] [.cells ks,.cells out,.dead,.cells ((qar len).map by8),.dead,.cells ((tb++(qar len++lb)).map by8)] = [.cells ks,.cells out,.cells ((tb++(qar len++lb)).map by8)]:=by
    show [renB _ _ true (.cells ks),renB _ _ true (.cells out),renB _ _ true (.cells _)]=_
    simp only[renB,qaa hks,qaa hout,qaa (qac _)]
  rw[e5,e6] at h2
  exact h2
theorem qan.room{pc:List AV}{off len:Nat}{lb:List UInt8}(h:qan pc off len lb):len=0∨off+len<=pc.length:=by
 have h1:=congrArg List.length h.2
 rw[List.length_take,List.length_drop,List.length_map,h.1] at h1
 omega
theorem q1r{ks out hd:List AV}{m:Nat}{ps:List AV}{o n:Nat}(c:Nat)(e:Bool)(h:P40 ks out hd m ps o n) :
  ∀ lg,qam Try.prog 0 lp40 (fr40 m ps o n c e 0) [.cells ks,.cells out,.cells hd] lg (.exit 0) (fr40 (m+(textL (qa6 ps o n)).length) ps o n c e n) [.cells ks,.cells out,.cells (hd++(textL (qa6 ps o n)).map by8)] (List.range 0++lg):=by
 obtain⟨hroom,hks,hout,hm,⟨hb8,rfl,rfl⟩,⟨hr1,pl,hpl⟩,hn⟩:=h
 have hstill:=hr1.still
 have hpn:(qa6 ps o n).length=n:=by
  have:=hpl.parts
  unfold qa6
  rw[this]; exact hpl.1
 have hge:=qo0 (qa6 ps o n)
 rw[hpn] at hge
 have h:=qal (P:=Try.prog) (n0:=0) (b:=lp40) (ex := .exit 0) (fr':=fr40 (hb8++textL (qa6 ps o n)).length ps o n c e n) (H' := [.cells ks,.cells out,.cells ((hb8++textL (qa6 ps o n)).map by8)]) (by intro h;cases h)
  (fun i=>(fr40 (hb8++textL (qa6 ps o i)).length ps o n c e i,[.cells ks,.cells out,.cells ((hb8++textL (qa6 ps o i)).map by8)])) n 0 (fun i _ hi => ?_) ?_
 ·rw[List.length_append,List.map_append] at h
  simpa[qos,qr7] using h
 ·have hi':i<n:=by omega
  have hlt:i<pl.length:=by rw[hpl.1]; exact hi'
  obtain⟨hl,pc,off,len,cap,ex,hp,hb⟩:=hpl.2.2 i pl[i] (List.getElem?_eq_getElem hlt)
  have hll:=hb.1
  have hs:textL (qa6 ps o (i+1))=textL (qa6 ps o i)++(qar len++pl[i]):=by
   rw[qnt ps o i hp,qdp hb,qrt,hll]
  have hle:=qtn ps o (show i+1<=n by omega)
  rw[hs,List.length_append,List.length_append,qbh,hll] at hle
  have h2:=q2y (tb:=hb8++textL (qa6 ps o i)) (c:=c) (e:=e) hks hout hstill hi' (by omega) hp hb (hroom i hi' _ _ _ _ _ hp) (by rw[List.length_append]; omega)
  show qap _ _ _ (fr40 (hb8++textL (qa6 ps o i)).length ps o n c e i) [.cells ks,.cells out,.cells ((hb8++textL (qa6 ps o i)).map by8)] _ (fr40 (hb8++textL (qa6 ps o (i+1))).length ps o n c e (i+1)) [.cells ks,.cells out,.cells ((hb8++textL (qa6 ps o (i+1))).map by8)]
  rw[hs,<-List.append_assoc]
  exact h2
 ·rw[Nat.zero_add]
  refine qa2 qe4 (qai _) (qak _) (n:=100) (g:=kdYes) (bs:=mk40) ?_ (by simp)
  show vm _ _ _ _ _ _ (fr40 (hb8++textL (qa6 ps o n)).length ps o n c e n) [.cells ks,.cells out,.cells ((hb8++textL (qa6 ps o n)).map by8)] _ _
  rw[vcl40]
  exact Br.f (by rw[nOfn,nLss]; exact decide_eq_false (by omega)) ⟨rfl,rfl,rfl⟩
theorem q08:LnOK Try.prog (ln40 tf0):=by
 intro n0 b fr H p x e hn hp lg
 unfold ln40 at e
 split at e<;>cases e
 rename_i m c' ps o n c e ks out hd h1 h2
 obtain⟨rfl,hb,hf,hp⟩:=hp
 have hb:b=lp40:=hb
 subst hb
 refine qam.pre (Weak.forget (by simp) mk40) ?_ lg
 rw[hf]
 exact q1r c e hp
def tagL(key l:List UInt8)(pl:List (List UInt8)):List UInt8:=if 64<l.length then List.replicate 32 0 else qas 136 6 32 (headL key l++textL pl)
def PTag(ps:List AV)(o n:Nat):Prop:=PPs ps o n/\PRm ps o n/\(textL (qa6 ps o n)).length<68719476736
theorem qcw(key l:List UInt8)(pl:List (List UInt8)):(tagL key l pl).length=32:=by
 unfold tagL
 split
 ·simp
 ·exact qa7 _ _ _ _
theorem qcc.append{a b:List AV}{n m:Nat}{pl ql:List (List UInt8)}(h:qcc a 0 n pl)(k:qcc b 0 m ql)(hl:a.length=n)(hlt:n+m<1099511627776):qcc (a++b) 0 (n+m) (pl++ql):=by
 refine⟨by rw[List.length_append,h.1,k.1],hlt,fun j lb hj => ?_⟩
 rw[Nat.zero_add]
 rcases Nat.lt_or_ge j n with hjn|hjn
 ·rw[List.getElem?_append_left (by rw[h.1]; exact hjn)] at hj
  rw[List.getElem?_append_left (by omega)]
  have:=h.2.2 j lb hj
  rw[Nat.zero_add] at this
  exact this
 ·rw[List.getElem?_append_right (by rw[h.1]; exact hjn),h.1] at hj
  rw[List.getElem?_append_right (by omega),hl]
  have:=k.2.2 (j - n) lb hj
  rw[Nat.zero_add] at this
  exact this
theorem qax(lb:List UInt8):qan (lb.map by8) 0 lb.length lb:=⟨rfl,by rw[List.drop_zero,List.take_of_length_le (by simp)]⟩
def plR(hb:List UInt8)(pl:List (List UInt8)):List (List UInt8):=hb::(pl.map fun p => [qar p.length,p]).flatten
theorem qwf(hb:List UInt8)(pl:List (List UInt8)):(plR hb pl).flatten=hb++textL pl:=by
 unfold plR textL
 rw[List.flatten_cons]
 congr 1
 induction pl with
 | nil=>rfl
 | cons x xs ih =>
  rw[List.map_cons,List.flatten_cons,List.flatten_append,ih,List.map_cons,List.flatten_cons]
  simp
theorem qju(hb:List UInt8)(hh:hb.length<1099511627776)(c:Nat){ps:List AV}{o n:Nat}{pl:List (List UInt8)}(hpl:qcc ps o n pl)(hn:n<8589934592) :
  ∀ i,i<=n->qcc (rowsA (hb.map by8) hb.length c ps o i) 0 (2*i+1) (plR hb (pl.take i))
 | 0,_=>by
  rw[qfy,List.take_zero]
  refine⟨rfl,by omega,fun j lb hj => ?_⟩
  cases j with
  | zero =>
   obtain rfl:hb=lb:=Option.some.inj hj
   exact⟨hh,_,_,_,_,_,rfl,qax hb⟩
  | succ j=>cases hj
 | i+1,hi=>by
  have ih:=qju hb hh c hpl hn i (by omega)
  have hlt:i<pl.length:=by rw[hpl.1]; exact hi
  obtain⟨hl,pc,off,len,cap,ex,hp,hbt⟩:=hpl.2.2 i pl[i] (List.getElem?_eq_getElem hlt)
  have hll:=hbt.1
  rw[qhs _ _ _ _ _ _ hp,List.take_succ_eq_append_getElem hlt,qkx hbt]
  have e1:plR hb (pl.take i ++ [pl[i]])=plR hb (pl.take i) ++ [qar len,pl[i]]:=by
   unfold plR
   rw[List.map_append,List.flatten_append,<-hll]
   simp
  rw[e1]
  refine ih.append (m:=2) ⟨rfl,by omega,fun j lb hj => ?_⟩ (qff _ _ _ _ _ i (by have:=hpl.lt (by omega); omega)) (by omega)
  cases j with
  | zero =>
   obtain rfl:qar len=lb:=Option.some.inj hj
   exact⟨by rw[qbh]; omega,_,_,_,_,_,rfl,qax (qar len)⟩
  | succ j =>
   cases j with
   | zero =>
    obtain rfl:pl[i]=lb:=Option.some.inj hj
    exact⟨hl,_,_,_,_,_,rfl,hbt⟩
   | succ j=>cases hj
theorem qys(H:Hl){ps:List AV}(h:Rows1 ps):ps.map (vw1 H)=ps:=by
 have:∀ p∈ps,vw1 H p=p:=by
  intro p hp
  obtain⟨cs,o,n,c,e,rfl,_⟩:=h p hp
  rfl
 rw[List.map_congr_left this,List.map_id'']
 intro a;rfl
theorem qs1{xs:List AV}(h:xs.length=32):ops0.ext (ops0.spl (z8 32) 0 xs) 0 32=xs:=by
 rw[qks (by rw[qer,h]),nExt,List.drop_zero,List.take_of_length_le (by omega)]
theorem qyl{l:List UInt8}(h:ops0.cmp .gtr (ops0.ofn (ops0.slen l)) (Int.ofNat 64)=true):64<l.length:=by
 rw[nOfn,nSlen,nGtr] at h;exact of_decide_eq_true h
theorem qo2{l:List UInt8}(h:ops0.cmp .gtr (ops0.ofn (ops0.slen l)) (Int.ofNat 64)=false):¬ 64<l.length:=by
 rw[nOfn,nSlen,nGtr] at h;exact of_decide_eq_false h
theorem tag41{key l:List UInt8}(hk:key.length=32){ps:List AV}{o n:Nat}(c:Nat)(e:Bool)(h:PTag ps o n) :
  CallTo Try.prog 41 [.agg (key.map by8),.str l,.ros ps o n c e] [] (.agg ((tagL key l (qa6 ps o n)).map by8)) [] []:=by
 refine qb7 qe4 qzp (qaj ok41) (qad 41 vf41) (n:=200) (g:=kdYes) (m:=fun _=>0) [] ?_ (by simp) (by show AV.agg _=_;rw[qaa (qac _)]) (by simp)
 rw[vc41]
 refine Br.mk (fun hl => ?_) (fun hl => ?_)
 ·have hl:=qyl hl
  refine⟨?_,rfl⟩
  rw[z8_eq]
  unfold tagL
  rw[if_pos hl]
 ·have hl:=qo2 hl
  obtain⟨⟨hr1,pl,hpl⟩,hroom,htot⟩:=h
  have hpe:qa6 ps o n=pl:=hpl.parts
  have hge:=qo0 (qa6 ps o n)
  rw[hpe,hpl.1] at hge
  rw[hpe] at htot
  have hkl:(key.map by8).length=32:=by rw[List.length_map,hk]
  have e1:ops0.ext (key.map by8) 0 32=key.map by8:=by rw[nExt,List.drop_zero,List.take_of_length_le (by omega)]
  have e2:MF.head (NF.toMF nf0) (key.map by8) l=(headL key l).map by8:=by
   show(headL (qag (key.map by8)) l).map by8=_
   rw[qab]
  have e3:ops0.add (ops0.slen l) 33=(headL key l).length:=by rw[nPlus,nSlen,qa9,hk]
  have e4:TF.rows tf0 ((headL key l).map by8) (headL key l).length (headL key l).length ps o n=rowsA ((headL key l).map by8) (headL key l).length (headL key l).length ps o n:=rfl
  rw[e1,e2,e3,e4]
  have hhl:=qa9 key l
  have hrows:=qjw (qac (headL key l)) (headL key l).length (headL key l).length o n hr1
  have hparts:=qju (headL key l) (by omega) (headL key l).length hpl (by omega) n (Nat.le_refl n)
  rw[List.take_of_length_le (by rw[hpl.1]; omega)] at hparts
  rw[qys _ hrows]
  have e5:KF.sum (AF.toKF (NF.toAF nf0)) (rdP (rowsA ((headL key l).map by8) (headL key l).length (headL key l).length ps o n) 0 (2*n+1))=(qas 136 6 32 (headL key l++textL pl)).map by8:=by
   show(qas 136 6 32 (rdP _ 0 (2*n+1))).map by8=_
   have:rdP (rowsA ((headL key l).map by8) (headL key l).length (headL key l).length ps o n) 0 (2*n+1)=headL key l++textL pl:=by
    unfold rdP
    rw[hparts.parts,qwf]
   rw[this]
  rw[e5]
  have hsl:((qas 136 6 32 (headL key l++textL pl)).map by8).length=32:=by rw[List.length_map,qa7]
  rw[qs1 hsl]
  refine Chk.mk (by rw[nLe,nLen]; exact decide_eq_true (by omega)) ⟨⟨⟨key,hk,rfl⟩,by omega⟩,⟨rfl,rfl,rfl,qac _,qnm _,⟨_,rfl,rfl⟩,⟨hr1,pl,hpl⟩,by omega⟩,⟨hrows,_,hparts⟩,
   Chk.mk (by rw[nEq,nLen]; exact decide_eq_true hsl) (Chk.mk (by rw[nLe,nLen,qks (by rw[qer,hsl])]; exact decide_eq_true (by omega)) ⟨?_,rfl⟩)⟩
  unfold tagL
  rw[if_neg hl,hpe]
theorem tag40{key l:List UInt8}(hk:key.length=32){ps:List AV}{o n:Nat}(c:Nat)(e:Bool)(h:PTag ps o n) :
  CallTo Try.prog 40 [.agg (key.map by8),.str l,.ros ps o n c e] [] (.agg ((tagL key l (qa6 ps o n)).map by8)) [] []:=by
 refine qb7 qe4 q08 (qaj ok40) (qad 40 vf40) (n:=200) (g:=kdYes) (m:=fun _=>0) [] ?_ (by simp) (by show AV.agg _=_;rw[qaa (qac _)]) (by simp)
 rw[vc40]
 refine Br.mk (fun hl => ?_) (fun hl => ?_)
 ·have hl:=qyl hl
  refine⟨?_,rfl⟩
  rw[z8_eq]
  unfold tagL
  rw[if_pos hl]
 ·have hl:=qo2 hl
  obtain⟨hpps,hroom,htot⟩:=h
  have hkl:(key.map by8).length=32:=by rw[List.length_map,hk]
  have e1:ops0.ext (key.map by8) 0 32=key.map by8:=by rw[nExt,List.drop_zero,List.take_of_length_le (by omega)]
  have e2:MF.head (NF.toMF nf0) (key.map by8) l=(headL key l).map by8:=by
   show(headL (qag (key.map by8)) l).map by8=_
   rw[qab]
  have e3:ops0.add (ops0.slen l) 33=(headL key l).length:=by rw[nPlus,nSlen,qa9,hk]
  have hhl:=qa9 key l
  have e4:TF.txt tf0 ((headL key l).map by8) ps o n=(headL key l++textL (qa6 ps o n)).map by8:=by rw[List.map_append]; rfl
  have e6:TF.len tf0 (headL key l).length ps o n=(headL key l++textL (qa6 ps o n)).length:=by rw[List.length_append]; rfl
  rw[e1,e2,e3,e4,e6]
  have e5:KF.sum (AF.toKF (NF.toAF nf0)) (rdB ((headL key l++textL (qa6 ps o n)).map by8) 0 (headL key l++textL (qa6 ps o n)).length)=(qas 136 6 32 (headL key l++textL (qa6 ps o n))).map by8:=by
   show(qas 136 6 32 (rdB _ 0 _)).map by8=_
   rw[qch (qax _)]
  rw[e5]
  have hsl:((qas 136 6 32 (headL key l++textL (qa6 ps o n))).map by8).length=32:=by rw[List.length_map,qa7]
  rw[qs1 hsl]
  refine Chk.mk (by rw[nLe,nLen]; exact decide_eq_true (by omega)) ⟨⟨⟨key,hk,rfl⟩,by omega⟩,⟨rfl,rfl,rfl,hroom,qac _,qnm _,by omega,⟨_,rfl,rfl⟩,hpps,htot⟩,⟨qac _,by simp,by rw[List.length_append]; omega,_,qax _⟩,
   Chk.mk (by rw[nEq,nLen]; exact decide_eq_true hsl) (Chk.mk (by rw[nLe,nLen,qks (by rw[qer,hsl])]; exact decide_eq_true (by omega)) ⟨?_,rfl⟩)⟩
  unfold tagL
  rw[if_neg hl]
end
end Go.Proofs.Vm

namespace Go.Proofs.Vm
set_option maxRecDepth 100000
open Go.Vm
noncomputable section
structure GF where
 tag:List AV->List UInt8->List (List UInt8)->List AV
def gf0:GF:=⟨fun ks l pl=>(tagL (qag ks) l pl).map by8⟩
def cnT(S:GF):CnF:=fun f vals H=>match f,vals with
 | 41,[.agg ks,.str l,x]=>match vw2 H x with
  | .ros ps o n _ _=>some (PKey ks/\PTag ps o n,.ok (.agg (S.tag ks l (qa6 ps o n))) H [])
  | _=>none
 | 40,[.agg ks,.str l,x]=>match vw2 H x with
  | .ros ps o n _ _=>some (PKey ks/\PTag ps o n,.ok (.agg (S.tag ks l (qa6 ps o n))) H [])
  | _=>none
 | _,_=>none
structure NG extends NF where
 toGF:GF
def ng0:NG := { nf0 with toGF:=gf0 }
def cnN2(S:NG):CnF:=cnOr (cnT S.toGF) (cnN1 S.toNF)
structure WF where
 msk:List AV->List AV->Nat->Nat->List AV
 acc:Nat->List AV->Nat->List AV->Nat->Nat->Nat
def xorL(a b:List UInt8):List UInt8:=List.zipWith (fun x y=>x ^^^ y) a b
def accN(z:Nat)(a b:List UInt8):Nat->Nat
 | 0=>z
 | i+1=>accN z a b i ||| ((a.getD i 0).toNat ^^^ (b.getD i 0).toNat)
def wf0:WF:=⟨fun ms pc off len=>(xorL (qag ms) (rdB pc off len)).map by8,fun z pa oa pb ob m=>accN z (rdB pa oa m) (rdB pb ob m) m⟩
def P37(ms pc:List AV)(off len m:Nat):Prop:=flatL pc/\m=len/\len<1099511627776/\(∃ lb,qan pc off len lb)/\∃ mb:List UInt8,mb.length=len/\ms=mb.map by8
noncomputable def lp37:VC:=vp [1,1,1,0,1,0,0] vf37.body
def fr37(x7:AV)(pc:List AV)(off len cap:Nat)(ex:Bool)(i:Nat):Fr := [.top,.top,.top,.top,.top,.top,.top,x7,.top,.top,.top,.top,.top,.top,.top,.top,.top,.top,.top,.top,.top,.top,.top,.top,.top,.ros pc off len cap ex,.int .i64 (Int.ofNat len),.int .i64 (Int.ofNat i),.top,.top,.top,.top,.top,.top,.top,.top,.top,.top,.top,.top,.top]
def mk37:List Bool := [true,true,true,true,true,true,true,false,true,true,true,true,true,true,true,true,true,true,true,true,true,true,true,true,true,false,false,false,true,true,true,true,true,true,true,true,true,true,true,true,true]
def ln37(F:WF):LnF:=fun n0 b fr H=>match slot fr 7,slot fr 25,H with
 | .slc 2 0 m c 1,.ros pc off len cap ex,[.cells ks,.cells hd,.cells ms]=>some (n0=0/\VCis b lp37/\forget mk37 fr=fr37 (.slc 2 0 m c 1) pc off len cap ex 0/\P37 ms pc off len m,
   .ok (.exit 0) (fr37 (.slc 2 0 m c 1) pc off len cap ex len) [.cells ks,.cells hd,.cells (F.msk ms pc off len)])
 | .nils,.ros pc off len cap ex,[.cells ks,.cells hd]=>some (n0=0/\VCis b lp37/\forget mk37 fr=fr37 .nils pc off len cap ex 0/\len=0,
   .ok (.exit 0) (fr37 .nils pc off len cap ex 0) [.cells ks,.cells hd])
 | _,_,_=>none
def P39(ks hd ms pc:List AV)(off len m:Nat):Prop:=flatL ks/\flatL hd/\flatL pc/\m=len/\len<=65536/\(∃ lb,qan pc off len lb)/\∃ mb:List UInt8,mb.length=len/\ms=mb.map by8
noncomputable def lp39:VC:=vp [1,1,1,1,0,1,0,0] vf39.body
def fr39(x7:AV)(x8:AV)(pc:List AV)(off len cap:Nat)(ex:Bool)(i:Nat):Fr := [.top,.top,.ros pc off len cap ex,.top,.top,.top,.top,x7,x8,.int .i64 (Int.ofNat i),.top,.top,.top,.top,.top,.top,.top,.top,.top,.top,.top,.top,.top,.top,.top,.top,.top,.top,.top,.top,.top,.top,.top,.top,.top,.top,.top,.top,.top,.top,.top,.top,.top]
def mk39:List Bool := [true,true,false,true,true,true,true,false,false,false,true,true,true,true,true,true,true,true,true,true,true,true,true,true,true,true,true,true,true,true,true,true,true,true,true,true,true,true,true,true,true,true,true]
def ln39(F:WF):LnF:=fun n0 b fr H=>match slot fr 7,slot fr 2,H with
 | .slc 2 0 m c 1,.ros pc off len cap ex,[.cells ks,.cells hd,.cells ms]=>some (n0=0/\VCis b lp39/\forget mk39 fr=fr39 (.slc 2 0 m c 1) .nils pc off len cap ex 0/\P39 ks hd ms pc off len m,
   .ok (.exit 0) (fr39 (.slc 2 0 m c 1) (.slc 3 0 len len 1) pc off len cap ex len) [.cells ks,.cells hd,.cells ms,.cells (F.msk ms pc off len)])
 | .nils,.ros pc off len cap ex,[.cells ks,.cells hd]=>some (n0=0/\VCis b lp39/\forget mk39 fr=fr39 .nils .nils pc off len cap ex 0/\len=0,
   .ok (.exit 0) (fr39 .nils .nils pc off len cap ex 0) [.cells ks,.cells hd])
 | _,_,_=>none
def P46(pa:List AV)(oa la:Nat)(pb:List AV)(ob lb m z:Nat):Prop:=m<=la/\m<=lb/\la<137438953472/\z<9223372036854775808/\(∃ al,qan pa oa la al)/\∃ bl,qan pb ob lb bl
noncomputable def lp46:VC:=vp [1,1,0,1,0,0] vf46.body
def fr46(pa:List AV)(oa la ca:Nat)(ea:Bool)(pb:List AV)(ob lb cb:Nat)(eb:Bool)(z m i:Nat):Fr := [.ros pa oa la ca ea,.ros pb ob lb cb eb,.top,.top,.top,.int .i64 (Int.ofNat z),.top,.top,.top,.top,.top,.top,.top,.top,.top,.top,.int .i64 (Int.ofNat m),.int .i64 (Int.ofNat i),.top,.top,.top,.top,.top,.top,.top,.top,.top,.top,.top,.top,.top,.top,.top,.top,.top,.top]
def mk46:List Bool := [false,false,true,true,true,false,true,true,true,true,true,true,true,true,true,true,false,false,true,true,true,true,true,true,true,true,true,true,true,true,true,true,true,true,true,true]
def ln46(F:WF):LnF:=fun n0 b fr H=>match slot fr 0,slot fr 1,slot fr 5,slot fr 16,H with
 | .ros pa oa la ca ea,.ros pb ob lb cb eb,.int .i64 z,.int .i64 m,[]=>some (n0=0/\VCis b lp46/\forget mk46 fr=fr46 pa oa la ca ea pb ob lb cb eb (ops0.nat z) (ops0.nat m) 0/\P46 pa oa la pb ob lb (ops0.nat m) (ops0.nat z),
   .ok (.exit 0) (fr46 pa oa la ca ea pb ob lb cb eb (F.acc (ops0.nat z) pa oa pb ob (ops0.nat m)) (ops0.nat m) (ops0.nat m)) [])
 | _,_,_,_,_=>none
theorem vc42(S:NG)(ks:List AV)(l:List UInt8)(n:Int)(Q:AV->Hl->Prop) :
  (vcall (vcA kdYes (cnN2 S) noLn) ops0 (qah 42 vf42) 200 vf42 [.agg ks,.str l,.int .u64 n] [] (endN (fun _=>0) Q)) =
 ((Chk (ops0.le 32 (ops0.len ks))
 (((Int.ofNat 0)<=n) /\
 (((PKey (ops0.ext ks 0 32)) /\
 (PTag [(.ros (MF.bytes (NF.toMF (NG.toNF S)) n) 0 8 8 Bool.false)] 0 1)) /\
 (Chk (ops0.eq (ops0.len (GF.tag (NG.toGF S) (ops0.ext ks 0 32) l [(partA (.ros (MF.bytes (NF.toMF (NG.toNF S)) n) 0 8 8 Bool.false))])) 32)
 (Chk (ops0.le 32 (ops0.len (ops0.spl (z8 32) 0 (GF.tag (NG.toGF S) (ops0.ext ks 0 32) l [(partA (.ros (MF.bytes (NF.toMF (NG.toNF S)) n) 0 8 8 Bool.false))]))))
 (Q (.agg (ops0.ext (ops0.spl (z8 32) 0 (GF.tag (NG.toGF S) (ops0.ext ks 0 32) l [(partA (.ros (MF.bytes (NF.toMF (NG.toNF S)) n) 0 8 8 Bool.false))])) 0 32)) []))))))):=by kernel_rfl
theorem vc43(S:NG)(ks:List AV)(l:List UInt8)(n:Int)(Q:AV->Hl->Prop) :
  (vcall (vcA kdYes (cnN2 S) noLn) ops0 (qah 43 vf43) 200 vf43 [.agg ks,.str l,.int .u64 n] [] (endN (fun _=>0) Q)) =
 ((Chk (ops0.le 32 (ops0.len ks))
 (((Int.ofNat 0)<=n) /\
 (((PKey (ops0.ext ks 0 32)) /\
 (PTag [(.ros (MF.bytes (NF.toMF (NG.toNF S)) n) 0 8 8 Bool.false)] 0 1)) /\
 (Chk (ops0.eq (ops0.len (GF.tag (NG.toGF S) (ops0.ext ks 0 32) l [(partA (.ros (MF.bytes (NF.toMF (NG.toNF S)) n) 0 8 8 Bool.false))])) 32)
 (Chk (ops0.le 32 (ops0.len (ops0.spl (z8 32) 0 (GF.tag (NG.toGF S) (ops0.ext ks 0 32) l [(partA (.ros (MF.bytes (NF.toMF (NG.toNF S)) n) 0 8 8 Bool.false))]))))
 (Q (.agg (ops0.ext (ops0.spl (z8 32) 0 (GF.tag (NG.toGF S) (ops0.ext ks 0 32) l [(partA (.ros (MF.bytes (NF.toMF (NG.toNF S)) n) 0 8 8 Bool.false))])) 0 32)) []))))))):=by kernel_rfl
theorem vc47(S:NG)(ks:List AV)(Q:AV->Hl->Prop) :
  (vcall (vcA kdYes (cnN2 S) noLn) ops0 (qah 47 vf47) 200 vf47 [.agg ks] [] (endN (fun _=>0) Q)) =
 ((Chk (ops0.le 32 (ops0.len ks))
 ((PPs [(.ros ks 0 32 32 Bool.false)] 0 1) /\
 (Chk (ops0.eq (ops0.len (KF.sum (AF.toKF (NF.toAF (NG.toNF S))) (rdP [(.ros ks 0 32 32 Bool.false)] 0 1))) 32)
 (Chk (ops0.le 32 (ops0.len (ops0.spl (z8 32) 0 (KF.sum (AF.toKF (NF.toAF (NG.toNF S))) (rdP [(.ros ks 0 32 32 Bool.false)] 0 1)))))
 (Q (.agg (ops0.ext (ops0.spl (z8 32) 0 (KF.sum (AF.toKF (NF.toAF (NG.toNF S))) (rdP [(.ros ks 0 32 32 Bool.false)] 0 1))) 0 32)) [])))))):=by kernel_rfl
theorem vcl37(ks hd ms pc:List AV)(m c off len cap:Nat)(ex:Bool)(i:Nat)(Q:Ex->Fr->Hl->Prop) :
  (vm (vcA kdYes noCn noLn) ops0 noTab 100 0 lp37 (fr37 (.slc 2 0 m c 1) pc off len cap ex i) [.cells ks,.cells hd,.cells ms] [] (bodyX mk37 Q)) =
 ((Br (ops0.cmp .lss (Int.ofNat i) (Int.ofNat len))
 (Chk (ops0.inr (Int.ofNat i) len)
 (∃ n:Int,((Nth pc (ops0.adr off (Int.ofNat i) 1) (.int .u8 n)) /\
 (Chk (ops0.inr (Int.ofNat i) m)
 (∃ n1:Int,((Nth ms (ops0.adr 0 (Int.ofNat i) 1) (.int .u8 n1)) /\
 (Chk (ops0.inr (Int.ofNat i) m)
 (Chk (ops0.lt (ops0.adr 0 (Int.ofNat i) 1) (ops0.len ms))
 (Q Ex.norm (tp 7 ((.slc 2 0 m c 1)::tp 17 ((.ros pc off len cap ex)::(.int .i64 (.ofNat len))::(.int .i64 (ops0.bin .add .i64 (Int.ofNat i) (Int.ofNat 1)))::tp 13 ([])))) [(.cells ks),(.cells hd),(.cells (ops0.set ms (ops0.adr 0 (Int.ofNat i) 1) (.int .u8 (ops0.bin .xor .u8 n1 n))))])))))))))
 (Q (Ex.exit 0) (tp 7 ((.slc 2 0 m c 1)::tp 17 ((.ros pc off len cap ex)::(.int .i64 (.ofNat len))::(.int .i64 (.ofNat i))::tp 13 ([])))) [(.cells ks),(.cells hd),(.cells ms)]))):=by kernel_rfl
theorem q4d(ks hd pc:List AV)(off cap:Nat)(ex:Bool)(Q:Ex->Fr->Hl->Prop) :
  (vm (vcA kdYes noCn noLn) ops0 noTab 100 0 lp37 (fr37 .nils pc off 0 cap ex 0) [.cells ks,.cells hd] [] (bodyX mk37 Q)) =
 ((Q (Ex.exit 0) (tp 7 (.nils::tp 17 ((.ros pc off 0 cap ex)::(.int .i64 (.ofNat 0))::(.int .i64 (.ofNat 0))::tp 13 ([])))) [(.cells ks),(.cells hd)])):=by kernel_rfl
theorem vcl39(ks hd ms xs pc:List AV)(m c L off len cap:Nat)(ex:Bool)(i:Nat)(Q:Ex->Fr->Hl->Prop) :
  (vm (vcA kdYes noCn noLn) ops0 noTab 100 0 lp39 (fr39 (.slc 2 0 m c 1) (.slc 3 0 L L 1) pc off len cap ex i) [.cells ks,.cells hd,.cells ms,.cells xs] [] (bodyX mk39 Q)) =
 ((Br (ops0.cmp .lss (Int.ofNat i) (ops0.ofn len))
 (Chk (ops0.inr (Int.ofNat i) len)
 (∃ n:Int,((Nth pc (ops0.adr off (Int.ofNat i) 1) (.int .u8 n)) /\
 (Chk (ops0.inr (Int.ofNat i) m)
 (∃ n1:Int,((Nth ms (ops0.adr 0 (Int.ofNat i) 1) (.int .u8 n1)) /\
 (Chk (ops0.le (ops0.add 0 (ops0.mul L 1)) (ops0.len xs))
 (Chk (ops0.room L 1 1)
 (Q Ex.norm (tp 2 ((.ros pc off len cap ex)::tp 4 ((.slc 2 0 m c 1)::(.slc 4 0 (ops0.add L 1) (ops0.add L 1) 1)::(.int .i64 (ops0.bin .add .i64 (Int.ofNat i) (Int.ofNat 1)))::tp 33 ([])))) [(.cells ks),(.cells hd),(.cells ms),.dead,(.cells (ops0.app (ops0.ext xs 0 (ops0.mul L 1)) [(.int .u8 (ops0.bin .xor .u8 n n1))]))])))))))))
 (Q (Ex.exit 0) (tp 2 ((.ros pc off len cap ex)::tp 4 ((.slc 2 0 m c 1)::(.slc 3 0 L L 1)::(.int .i64 (.ofNat i))::tp 33 ([])))) [(.cells ks),(.cells hd),(.cells ms),(.cells xs)]))):=by kernel_rfl
theorem q2n(ks hd pc:List AV)(off cap:Nat)(ex:Bool)(Q:Ex->Fr->Hl->Prop) :
  (vm (vcA kdYes noCn noLn) ops0 noTab 100 0 lp39 (fr39 .nils .nils pc off 0 cap ex 0) [.cells ks,.cells hd] [] (bodyX mk39 Q)) =
 ((Q (Ex.exit 0) (tp 2 ((.ros pc off 0 cap ex)::tp 4 (.nils :: .nils::(.int .i64 (.ofNat 0))::tp 33 ([])))) [(.cells ks),(.cells hd)])):=by kernel_rfl
theorem vcl46(pa:List AV)(oa la ca:Nat)(ea:Bool)(pb:List AV)(ob lb cb:Nat)(eb:Bool)(z m i:Nat)(Q:Ex->Fr->Hl->Prop) :
  (vm (vcA kdYes noCn noLn) ops0 noTab 100 0 lp46 (fr46 pa oa la ca ea pb ob lb cb eb z m i) [] [] (bodyX mk46 Q)) =
 ((Br (ops0.cmp .lss (Int.ofNat i) (Int.ofNat m))
 (Chk (ops0.inr (Int.ofNat i) la)
 (∃ n:Int,((Nth pa (ops0.adr oa (Int.ofNat i) 1) (.int .u8 n)) /\
 (Chk (ops0.inr (Int.ofNat i) lb)
 (∃ n1:Int,((Nth pb (ops0.adr ob (Int.ofNat i) 1) (.int .u8 n1)) /\
 (Q Ex.norm ((.ros pa oa la ca ea)::(.ros pb ob lb cb eb)::tp 3 ((.int .i64 (ops0.bin .or .i64 (Int.ofNat z) (ops0.bin .xor .i64 (ops0.cvt .i64 n) (ops0.cvt .i64 n1))))::tp 10 ((.int .i64 (.ofNat m))::(.int .i64 (ops0.bin .add .i64 (Int.ofNat i) (Int.ofNat 1)))::tp 18 ([])))) [])))))))
 (Q (Ex.exit 0) ((.ros pa oa la ca ea)::(.ros pb ob lb cb eb)::tp 3 ((.int .i64 (.ofNat z))::tp 10 ((.int .i64 (.ofNat m))::(.int .i64 (.ofNat i))::tp 18 ([])))) []))):=by kernel_rfl
theorem vc37(S:NG)(F:WF)(ks pc:List AV)(l:List UInt8)(off len cap:Nat)(ex:Bool)(Q:Nat->Nat->Nat->Nat->List AV->Prop) :
  (vcall (vcA kdYes (cnN2 S) (ln37 F)) ops0 (qah 37 vf37) 200 vf37 [.agg ks,.str l,.ros pc off len cap ex] [] (endB Q)) =
 ((Br (ops0.cmp .gtr (ops0.ofn (ops0.slen l)) (Int.ofNat 64))
 False
 (Br (ops0.cmp .gtr (ops0.ofn len) (Int.ofNat 65536))
 False
 (Chk (ops0.le 32 (ops0.len ks))
 (((PKey (ops0.ext ks 0 32)) /\
 ((List.length l)<=64)) /\
 ((PPs [(.ros (MF.head (NF.toMF (NG.toNF S)) (ops0.ext ks 0 32) l) 0 (ops0.add (ops0.slen l) 33) (ops0.add (ops0.slen l) 33) Bool.false)] 0 1) /\
 (Br (inK (ops0.ofn len))
 ((((0:Nat)=0) /\
 ((VCis lp37 lp37) /\
 ((((tp 7 ((.slc 2 0 len len 1)::tp 17 ((.ros pc off len cap ex)::(.int .i64 (ops0.ofn len))::(.int .i64 (.ofNat 0))::tp 13 ([])))):Fr)=(tp 7 ((.slc 2 0 len len 1)::tp 17 ((.ros pc off len cap ex)::(.int .i64 (.ofNat len))::(.int .i64 (.ofNat 0))::tp 13 ([]))))) /\
 (P37 (KF.str (AF.toKF (NF.toAF (NG.toNF S))) (rdP [(.ros (MF.head (NF.toMF (NG.toNF S)) (ops0.ext ks 0 32) l) 0 (ops0.add (ops0.slen l) 33) (ops0.add (ops0.slen l) 33) Bool.false)] 0 1) len) pc off len len)))) /\
 ((flatL (WF.msk F (KF.str (AF.toKF (NF.toAF (NG.toNF S))) (rdP [(.ros (MF.head (NF.toMF (NG.toNF S)) (ops0.ext ks 0 32) l) 0 (ops0.add (ops0.slen l) 33) (ops0.add (ops0.slen l) 33) Bool.false)] 0 1) len) pc off len)) /\
 (Q 0 len len 1 (WF.msk F (KF.str (AF.toKF (NF.toAF (NG.toNF S))) (rdP [(.ros (MF.head (NF.toMF (NG.toNF S)) (ops0.ext ks 0 32) l) 0 (ops0.add (ops0.slen l) 33) (ops0.add (ops0.slen l) 33) Bool.false)] 0 1) len) pc off len))))
 ((((0:Nat)=0) /\
 ((VCis lp37 lp37) /\
 ((((tp 7 (.nils::tp 17 ((.ros pc off len cap ex)::(.int .i64 (ops0.ofn len))::(.int .i64 (.ofNat 0))::tp 13 ([])))):Fr)=(tp 7 (.nils::tp 17 ((.ros pc off len cap ex)::(.int .i64 (.ofNat len))::(.int .i64 (.ofNat 0))::tp 13 ([]))))) /\
 ((len:Nat)=0)))) /\
 False)))))))):=by kernel_rfl
theorem vc37n(S:NG)(F:WF)(ks pc:List AV)(l:List UInt8)(off len cap:Nat)(ex:Bool)(Q:AV->Hl->Prop) :
  (vcall (vcA kdYes (cnN2 S) (ln37 F)) ops0 (qah 37 vf37) 200 vf37 [.agg ks,.str l,.ros pc off len cap ex] [] (endN (fun _=>0) Q)) =
 ((Br (ops0.cmp .gtr (ops0.ofn (ops0.slen l)) (Int.ofNat 64))
 (Q .nils [])
 (Br (ops0.cmp .gtr (ops0.ofn len) (Int.ofNat 65536))
 (Q .nils [])
 (Chk (ops0.le 32 (ops0.len ks))
 (((PKey (ops0.ext ks 0 32)) /\
 ((List.length l)<=64)) /\
 ((PPs [(.ros (MF.head (NF.toMF (NG.toNF S)) (ops0.ext ks 0 32) l) 0 (ops0.add (ops0.slen l) 33) (ops0.add (ops0.slen l) 33) Bool.false)] 0 1) /\
 (Br (inK (ops0.ofn len))
 ((((0:Nat)=0) /\
 ((VCis lp37 lp37) /\
 ((((tp 7 ((.slc 2 0 len len 1)::tp 17 ((.ros pc off len cap ex)::(.int .i64 (ops0.ofn len))::(.int .i64 (.ofNat 0))::tp 13 ([])))):Fr)=(tp 7 ((.slc 2 0 len len 1)::tp 17 ((.ros pc off len cap ex)::(.int .i64 (.ofNat len))::(.int .i64 (.ofNat 0))::tp 13 ([]))))) /\
 (P37 (KF.str (AF.toKF (NF.toAF (NG.toNF S))) (rdP [(.ros (MF.head (NF.toMF (NG.toNF S)) (ops0.ext ks 0 32) l) 0 (ops0.add (ops0.slen l) 33) (ops0.add (ops0.slen l) 33) Bool.false)] 0 1) len) pc off len len)))) /\
 (Q (.slc 2 0 len len 1) []))
 ((((0:Nat)=0) /\
 ((VCis lp37 lp37) /\
 ((((tp 7 (.nils::tp 17 ((.ros pc off len cap ex)::(.int .i64 (ops0.ofn len))::(.int .i64 (.ofNat 0))::tp 13 ([])))):Fr)=(tp 7 (.nils::tp 17 ((.ros pc off len cap ex)::(.int .i64 (.ofNat len))::(.int .i64 (.ofNat 0))::tp 13 ([]))))) /\
 ((len:Nat)=0)))) /\
 (Q .nils []))))))))):=by kernel_rfl
theorem vc39(S:NG)(F:WF)(ks pc:List AV)(l:List UInt8)(off len cap:Nat)(ex:Bool)(Q:Nat->Nat->Nat->Nat->List AV->Prop) :
  (vcall (vcA kdYes (cnN2 S) (ln39 F)) ops0 (qah 39 vf39) 200 vf39 [.agg ks,.str l,.ros pc off len cap ex] [] (endB Q)) =
 ((Br (ops0.cmp .gtr (ops0.ofn (ops0.slen l)) (Int.ofNat 64))
 False
 (Br (ops0.cmp .gtr (ops0.ofn len) (Int.ofNat 65536))
 False
 (Chk (ops0.le 32 (ops0.len ks))
 (((PKey (ops0.ext ks 0 32)) /\
 ((List.length l)<=64)) /\
 ((PB (MF.head (NF.toMF (NG.toNF S)) (ops0.ext ks 0 32) l) 0 (ops0.add (ops0.slen l) 33)) /\
 (Br (inK (ops0.ofn len))
 ((((0:Nat)=0) /\
 ((VCis lp39 lp39) /\
 ((((tp 2 ((.ros pc off len cap ex)::tp 4 ((.slc 2 0 len len 1) :: .nils::(.int .i64 (.ofNat 0))::tp 33 ([])))):Fr)=(tp 2 ((.ros pc off len cap ex)::tp 4 ((.slc 2 0 len len 1) :: .nils::(.int .i64 (.ofNat 0))::tp 33 ([]))))) /\
 (P39 ks (MF.head (NF.toMF (NG.toNF S)) (ops0.ext ks 0 32) l) (KF.str (AF.toKF (NF.toAF (NG.toNF S))) (rdB (MF.head (NF.toMF (NG.toNF S)) (ops0.ext ks 0 32) l) 0 (ops0.add (ops0.slen l) 33)) len) pc off len len)))) /\
 ((flatL (WF.msk F (KF.str (AF.toKF (NF.toAF (NG.toNF S))) (rdB (MF.head (NF.toMF (NG.toNF S)) (ops0.ext ks 0 32) l) 0 (ops0.add (ops0.slen l) 33)) len) pc off len)) /\
 (Q 0 len len 1 (WF.msk F (KF.str (AF.toKF (NF.toAF (NG.toNF S))) (rdB (MF.head (NF.toMF (NG.toNF S)) (ops0.ext ks 0 32) l) 0 (ops0.add (ops0.slen l) 33)) len) pc off len))))
 ((((0:Nat)=0) /\
 ((VCis lp39 lp39) /\
 ((((tp 2 ((.ros pc off len cap ex)::tp 4 (.nils :: .nils::(.int .i64 (.ofNat 0))::tp 33 ([])))):Fr)=(tp 2 ((.ros pc off len cap ex)::tp 4 (.nils :: .nils::(.int .i64 (.ofNat 0))::tp 33 ([]))))) /\
 ((len:Nat)=0)))) /\
 False)))))))):=by kernel_rfl
theorem vc39n(S:NG)(F:WF)(ks pc:List AV)(l:List UInt8)(off len cap:Nat)(ex:Bool)(Q:AV->Hl->Prop) :
  (vcall (vcA kdYes (cnN2 S) (ln39 F)) ops0 (qah 39 vf39) 200 vf39 [.agg ks,.str l,.ros pc off len cap ex] [] (endN (fun _=>0) Q)) =
 ((Br (ops0.cmp .gtr (ops0.ofn (ops0.slen l)) (Int.ofNat 64))
 (Q .nils [])
 (Br (ops0.cmp .gtr (ops0.ofn len) (Int.ofNat 65536))
 (Q .nils [])
 (Chk (ops0.le 32 (ops0.len ks))
 (((PKey (ops0.ext ks 0 32)) /\
 ((List.length l)<=64)) /\
 ((PB (MF.head (NF.toMF (NG.toNF S)) (ops0.ext ks 0 32) l) 0 (ops0.add (ops0.slen l) 33)) /\
 (Br (inK (ops0.ofn len))
 ((((0:Nat)=0) /\
 ((VCis lp39 lp39) /\
 ((((tp 2 ((.ros pc off len cap ex)::tp 4 ((.slc 2 0 len len 1) :: .nils::(.int .i64 (.ofNat 0))::tp 33 ([])))):Fr)=(tp 2 ((.ros pc off len cap ex)::tp 4 ((.slc 2 0 len len 1) :: .nils::(.int .i64 (.ofNat 0))::tp 33 ([]))))) /\
 (P39 ks (MF.head (NF.toMF (NG.toNF S)) (ops0.ext ks 0 32) l) (KF.str (AF.toKF (NF.toAF (NG.toNF S))) (rdB (MF.head (NF.toMF (NG.toNF S)) (ops0.ext ks 0 32) l) 0 (ops0.add (ops0.slen l) 33)) len) pc off len len)))) /\
 (Q (.slc 3 0 len len 1) []))
 ((((0:Nat)=0) /\
 ((VCis lp39 lp39) /\
 ((((tp 2 ((.ros pc off len cap ex)::tp 4 (.nils :: .nils::(.int .i64 (.ofNat 0))::tp 33 ([])))):Fr)=(tp 2 ((.ros pc off len cap ex)::tp 4 (.nils :: .nils::(.int .i64 (.ofNat 0))::tp 33 ([]))))) /\
 ((len:Nat)=0)))) /\
 (Q .nils []))))))))):=by kernel_rfl
theorem vc46(F:WF)(pa:List AV)(oa la ca:Nat)(ea:Bool)(pb:List AV)(ob lb cb:Nat)(eb:Bool)(Q:AV->Hl->List Nat->Prop) :
  (vcall (vcA kdYes noCn (ln46 F)) ops0 (qah 46 vf46) 200 vf46 [.ros pa oa la ca ea,.ros pb ob lb cb eb] [] Q) =
 (((((0:Nat)=0) /\
 ((VCis lp46 lp46) /\
 (((((.ros pa oa la ca ea)::(.ros pb ob lb cb eb)::tp 3 ((.int .i64 (ops0.bin .xor .i64 (ops0.ofn la) (ops0.ofn lb)))::tp 10 ((.int .i64 (ops0.mnx Bool.false (ops0.ofn la) (ops0.ofn lb)))::(.int .i64 (.ofNat 0))::tp 18 ([])))):Fr)=((.ros pa oa la ca ea)::(.ros pb ob lb cb eb)::tp 3 ((.int .i64 (.ofNat (ops0.nat (ops0.bin .xor .i64 (ops0.ofn la) (ops0.ofn lb)))))::tp 10 ((.int .i64 (.ofNat (ops0.nat (ops0.mnx Bool.false (ops0.ofn la) (ops0.ofn lb)))))::(.int .i64 (.ofNat 0))::tp 18 ([]))))) /\
 (P46 pa oa la pb ob lb (ops0.nat (ops0.mnx Bool.false (ops0.ofn la) (ops0.ofn lb))) (ops0.nat (ops0.bin .xor .i64 (ops0.ofn la) (ops0.ofn lb))))))) /\
 (Br (ops0.cmp .eql (Int.ofNat (WF.acc F (ops0.nat (ops0.bin .xor .i64 (ops0.ofn la) (ops0.ofn lb))) pa oa pb ob (ops0.nat (ops0.mnx Bool.false (ops0.ofn la) (ops0.ofn lb))))) (Int.ofNat 0))
 (Q (.bool Bool.true) [] [])
 (Q (.bool Bool.false) [] [])))):=by kernel_rfl
theorem q3x:CnOK Try.prog (cnT gf0):=by
 intro f vals H p x e hp
 unfold cnT at e
 split at e
 ·rename_i ks l y
  split at e<;>cases e
  rename_i ps o n c ex hv
  obtain⟨⟨key,hk,rfl⟩,ht⟩:=hp
  have h:=CallTo.lookV (H:=H) (tag41 (l:=l) hk c ex ht) (.cons (Vw.agg H (Still.flat (qac key))) (.cons (Vw.str H l) (.cons (Vw.two hv ht.1.1) .nil)))
  rw[qbo (qac _)] at h
  show CallTo _ _ _ _ (.agg ((tagL (qag (key.map by8)) l (qa6 ps o n)).map by8)) _ _
  rw[qab]
  exact h
 ·rename_i ks l y
  split at e<;>cases e
  rename_i ps o n c ex hv
  obtain⟨⟨key,hk,rfl⟩,ht⟩:=hp
  have h:=CallTo.lookV (H:=H) (tag40 (l:=l) hk c ex ht) (.cons (Vw.agg H (Still.flat (qac key))) (.cons (Vw.str H l) (.cons (Vw.two hv ht.1.1) .nil)))
  rw[qbo (qac _)] at h
  show CallTo _ _ _ _ (.agg ((tagL (qag (key.map by8)) l (qa6 ps o n)).map by8)) _ _
  rw[qab]
  exact h
 ·cases e
theorem qfk:CnOK Try.prog (cnN2 ng0):=qfl q3x qe4
theorem qb8(lb:List UInt8)(n c:Nat)(h:n=lb.length)(e:Bool):partA (.ros (lb.map by8) 0 n c e)=lb:=by
 subst h
 exact qdp (qax lb)
theorem qgx(lb:List UInt8)(n c:Nat)(h:n=lb.length)(hl:lb.length<137438953472)(e:Bool):PPs [.ros (lb.map by8) 0 n c e] 0 1:=by
 subst h
 refine⟨fun p hp => ?_,[lb],rfl,by omega,fun j x hx => ?_⟩
 ·obtain rfl:p=_:=List.mem_singleton.1 hp
  exact⟨_,0,_,c,e,rfl,qac _⟩
 ·cases j with
  | zero =>
   obtain rfl:lb=x:=Option.some.inj hx
   exact⟨by omega,_,0,_,c,e,rfl,qax lb⟩
  | succ j=>cases hx
theorem qrs(p:AV):qa6 [p] 0 1 = [partA p]:=rfl
theorem qfu(lb:List UInt8)(n c:Nat)(h:n=lb.length)(hl:lb.length<68719476000)(e:Bool):PTag [.ros (lb.map by8) 0 n c e] 0 1:=by
 refine⟨qgx lb n c h (by omega) e,fun j hj pc off len cap ex hp => ?_,?_⟩
 ·obtain rfl:j=0:=by omega
  cases hp
  simp[h]
 ·rw[qrs,qb8 lb n c h]
  unfold textL
  simp[qbh]
  omega
theorem qhj{key:List UInt8}(h:key.length=32):ops0.ext (key.map by8) 0 32=key.map by8:=by
 rw[nExt,List.drop_zero,List.take_of_length_le (by rw[List.length_map]; omega)]
theorem qbk{key:List UInt8}(h:key.length=32):ops0.le 32 (ops0.len (key.map by8))=true:=by
 rw[nLe,nLen]; exact decide_eq_true (by rw[List.length_map]; omega)
theorem qhe(key l:List UInt8)(pl:List (List UInt8)):GF.tag (NG.toGF ng0) (key.map by8) l pl=(tagL key l pl).map by8:=by
 show(tagL (qag (key.map by8)) l pl).map by8=_
 rw[qab]
theorem res32{xs:List AV}(h:xs.length=32){Q:AV->Hl->Prop}(hq:Q (.agg xs) []):Chk (ops0.eq (ops0.len xs) 32) (Chk (ops0.le 32 (ops0.len (ops0.spl (z8 32) 0 xs))) (Q (.agg (ops0.ext (ops0.spl (z8 32) 0 xs) 0 32)) [])):=by
 rw[qs1 h]
 exact Chk.mk (by rw[nEq,nLen]; exact decide_eq_true h) (Chk.mk (by rw[nLe,nLen,qks (by rw[qer,h])]; exact decide_eq_true (by omega)) hq)
theorem ql8(key l:List UInt8)(pl:List (List UInt8)):((tagL key l pl).map by8).length=32:=by rw[List.length_map,qcw]
theorem qvy{key:List UInt8}(hk:key.length=32)(l:List UInt8)(n:Nat):CallTo Try.prog 42 [.agg (key.map by8),.str l,.int .u64 (Int.ofNat n)] [] (.agg ((tagL key l [qar n]).map by8)) [] []:=by
 refine qb7 qfk (qai _) (qaj ok42) (qad 42 vf42) (n:=200) (g:=kdYes) (m:=fun _=>0) [] ?_ (by simp) (by show AV.agg _=_;rw[qaa (qac _)]) (by simp)
 rw[vc42]
 have e1:MF.bytes (NF.toMF (NG.toNF ng0)) (Int.ofNat n)=(qar n).map by8:=rfl
 rw[qhj hk,e1,qb8 (qar n) 8 8 rfl,qhe]
 exact Chk.mk (qbk hk) ⟨Int.natCast_nonneg _,⟨⟨key,hk,rfl⟩,qfu (qar n) 8 8 rfl (by rw[qbh]; omega) false⟩,res32 (Q:=fun r H'=>r=AV.agg ((tagL key l [qar n]).map by8)/\H' = []) (ql8 _ _ _) ⟨rfl,rfl⟩⟩
theorem qww{key:List UInt8}(hk:key.length=32)(l:List UInt8)(n:Nat):CallTo Try.prog 43 [.agg (key.map by8),.str l,.int .u64 (Int.ofNat n)] [] (.agg ((tagL key l [qar n]).map by8)) [] []:=by
 refine qb7 qfk (qai _) (qaj ok43) (qad 43 vf43) (n:=200) (g:=kdYes) (m:=fun _=>0) [] ?_ (by simp) (by show AV.agg _=_;rw[qaa (qac _)]) (by simp)
 rw[vc43]
 have e1:MF.bytes (NF.toMF (NG.toNF ng0)) (Int.ofNat n)=(qar n).map by8:=rfl
 rw[qhj hk,e1,qb8 (qar n) 8 8 rfl,qhe]
 exact Chk.mk (qbk hk) ⟨Int.natCast_nonneg _,⟨⟨key,hk,rfl⟩,qfu (qar n) 8 8 rfl (by rw[qbh]; omega) false⟩,res32 (Q:=fun r H'=>r=AV.agg ((tagL key l [qar n]).map by8)/\H' = []) (ql8 _ _ _) ⟨rfl,rfl⟩⟩
def sumL(l:List UInt8):List UInt8:=qas 136 6 32 l
theorem qbu(l:List UInt8):(sumL l).length=32:=qa7 _ _ _ _
theorem q3p{key:List UInt8}(hk:key.length=32):CallTo Try.prog 47 [.agg (key.map by8)] [] (.agg ((sumL key).map by8)) [] []:=by
 refine qb7 qfk (qai _) (qaj ok47) (qad 47 vf47) (n:=200) (g:=kdYes) (m:=fun _=>0) [] ?_ (by simp) (by show AV.agg _=_;rw[qaa (qac _)]) (by simp)
 rw[vc47]
 have e1:KF.sum (AF.toKF (NF.toAF (NG.toNF ng0))) (rdP [.ros (key.map by8) 0 32 32 false] 0 1)=(sumL key).map by8:=by
  show(qas 136 6 32 (rdP _ 0 1)).map by8=_
  have:rdP [.ros (key.map by8) 0 32 32 false] 0 1=key:=by
   show List.flatten [partA (.ros (key.map by8) 0 32 32 false)]=_
   rw[qb8 key 32 32 hk.symm]
   simp
  rw[this]; rfl
 rw[e1]
 exact Chk.mk (qbk hk) ⟨qgx key 32 32 hk.symm (by omega) false,res32 (Q:=fun r H'=>r=AV.agg ((sumL key).map by8)/\H' = []) (by rw[List.length_map,qbu]) ⟨rfl,rfl⟩⟩
theorem qe6(a b:List UInt8):(xorL a b).length=min a.length b.length:=List.length_zipWith
theorem qio{a b:List UInt8}{i:Nat}(ha:i<a.length)(hb:i<b.length):xorL (a.take (i+1)) (b.take (i+1))=xorL (a.take i) (b.take i) ++ [a[i] ^^^ b[i]]:=by
 unfold xorL
 rw[List.take_succ_eq_append_getElem ha,List.take_succ_eq_append_getElem hb,List.zipWith_append (by rw[List.length_take,List.length_take]; omega)]
 rfl
theorem q37{ks hd:List AV}{pc:List AV}{off len:Nat}(c cap:Nat)(ex:Bool)(hlen:len<1099511627776){lb mb:List UInt8}(hb:qan pc off len lb)(hm:mb.length=len) :
  ∀ lg,qam Try.prog 0 lp37 (fr37 (.slc 2 0 len c 1) pc off len cap ex 0) [.cells ks,.cells hd,.cells (mb.map by8)] lg (.exit 0) (fr37 (.slc 2 0 len c 1) pc off len cap ex len) [.cells ks,.cells hd,.cells ((xorL mb lb).map by8)] (List.range 0++lg):=by
 have hl:=hb.1
 have h:=qal (P:=Try.prog) (n0:=0) (b:=lp37) (ex := .exit 0) (fr':=fr37 (.slc 2 0 len c 1) pc off len cap ex len) (H' := [.cells ks,.cells hd,.cells ((xorL mb lb).map by8)]) (by intro h;cases h)
  (fun i=>(fr37 (.slc 2 0 len c 1) pc off len cap ex i,[.cells ks,.cells hd,.cells ((xorL (mb.take i) (lb.take i)).map by8++(mb.map by8).drop i)])) len 0 (fun i _ hi => ?_) ?_
 ·simpa[xorL] using h
 ·have hi':i<len:=by omega
  have hxl:(xorL (mb.take i) (lb.take i)).length=i:=by rw[qe6,List.length_take,List.length_take]; omega
  have key:∀ Q:Ex->Fr->Hl->Prop,Q .norm (fr37 (.slc 2 0 len c 1) pc off len cap ex (i+1)) [.cells ks,.cells hd,.cells ((xorL (mb.take (i+1)) (lb.take (i+1))).map by8++(mb.map by8).drop (i+1))] ->
    vm (vcA kdYes noCn noLn) ops0 noTab 100 0 lp37 (fr37 (.slc 2 0 len c 1) pc off len cap ex i) [.cells ks,.cells hd,.cells ((xorL (mb.take i) (lb.take i)).map by8++(mb.map by8).drop i)] [] (bodyX mk37 Q):=by
   intro Q hQ
   rw[vcl37,nAdd (by omega)]
   simp only[nLss,nInr,nAdr,nLt,nLen,nSet,Nat.zero_add,Nat.mul_one]
   have hms:((xorL (mb.take i) (lb.take i)).map by8++(mb.map by8).drop i)[i]? = some (by8 (mb[i]'(by omega))):=by
    rw[List.getElem?_append_right (by simp[hxl]),List.length_map,hxl,Nat.sub_self,List.getElem?_drop,Nat.add_zero,List.getElem?_map,List.getElem?_eq_getElem (by omega)]
    rfl
   refine Br.t (decide_eq_true hi') (Chk.mk (decide_eq_true hi') ⟨_,Nth.mk (hb.get hi'),Chk.mk (decide_eq_true hi') ⟨_,Nth.mk hms,Chk.mk (decide_eq_true hi') (Chk.mk (decide_eq_true (by simp[hxl,hm]; omega)) ?_)⟩⟩)
   rw[qm3]
   have e1:AV.int .u8 (Int.ofNat (mb[i] ^^^ lb[i]).toNat)=by8 (mb[i] ^^^ lb[i]):=rfl
   rw[e1,qnq _ (mb.map by8) hxl (by rw[List.length_map]; omega)]
   rw[qio (by omega) (by omega),List.map_append,List.append_assoc] at hQ
   exact hQ
  exact qa2 (qa3 _) (qai _) (qak _) (n:=100) (g:=kdYes) (bs:=mk37) (key _ ⟨rfl,rfl,rfl⟩) (by simp)
 ·rw[Nat.zero_add]
  show qap _ _ _ (fr37 (.slc 2 0 len c 1) pc off len cap ex len) [.cells ks,.cells hd,.cells ((xorL (mb.take len) (lb.take len)).map by8++(mb.map by8).drop len)] _ _ _
  rw[List.take_of_length_le (by omega),List.take_of_length_le (by omega),List.drop_of_length_le (by rw[List.length_map]; omega),List.append_nil]
  refine qa2 (qa3 _) (qai _) (qak _) (n:=100) (g:=kdYes) (bs:=mk37) ?_ (by simp)
  rw[vcl37]
  exact Br.f (by rw[nLss]; exact decide_eq_false (by omega)) ⟨rfl,rfl,rfl⟩
theorem q0j(ks hd pc:List AV)(off cap:Nat)(ex:Bool):∀ lg,qam Try.prog 0 lp37 (fr37 .nils pc off 0 cap ex 0) [.cells ks,.cells hd] lg (.exit 0) (fr37 .nils pc off 0 cap ex 0) [.cells ks,.cells hd] (List.range 0++lg):=by
 refine qal (P:=Try.prog) (n0:=0) (b:=lp37) (ex := .exit 0) (by intro h;cases h) (fun _=>(fr37 .nils pc off 0 cap ex 0,[.cells ks,.cells hd])) 0 0 (fun i _ hi=>by omega) ?_
 refine qa2 (qa3 _) (qai _) (qak _) (n:=100) (g:=kdYes) (bs:=mk37) ?_ (by simp)
 show vm _ _ _ _ _ _ (fr37 .nils pc off 0 cap ex 0) [.cells ks,.cells hd] _ _
 rw[q4d]
 exact⟨rfl,rfl,rfl⟩
theorem qur:LnOK Try.prog (ln37 wf0):=by
 intro n0 b fr H p x e hn hp lg
 unfold ln37 at e
 split at e<;>cases e
 ·rename_i m c pc off len cap ex ks hd ms h1 h2
  obtain⟨rfl,hb,hf,hpc,rfl,hlen,⟨lb,hlb⟩,mb,hm,rfl⟩:=hp
  have hb:b=lp37:=hb
  subst hb
  refine qam.pre (Weak.forget (by simp) mk37) ?_ lg
  rw[hf]
  show ∀ lg,qam _ _ _ _ _ _ _ _ [.cells ks,.cells hd,.cells ((xorL (qag (mb.map by8)) (rdB pc off m)).map by8)] _
  rw[qab,qch hlb]
  exact q37 c cap ex hlen hlb hm
 ·rename_i pc off len cap ex ks hd h1 h2
  obtain⟨rfl,hb,hf,rfl⟩:=hp
  have hb:b=lp37:=hb
  subst hb
  refine qam.pre (Weak.forget (by simp) mk37) ?_ lg
  rw[hf]
  exact q0j ks hd pc off cap ex
theorem qvo{σ:Nat->Option Nat}{φ:Nat->Option (List AV)}(h2:σ 2=some 2)(h4:σ 4=some 3){pc:List AV}(hpc:flatL pc)(m c L off len cap:Nat)(ex:Bool)(i:Nat) :
  forget mk39 (renL σ φ true (fr39 (.slc 2 0 m c 1) (.slc 4 0 L L 1) pc off len cap ex i))=fr39 (.slc 2 0 m c 1) (.slc 3 0 L L 1) pc off len cap ex i:=by
 unfold fr39 mk39
 simp only[renL,ren,h2,h4,forget,qaa hpc]
theorem q2e{ks hd:List AV}(hks:flatL ks)(hhd:flatL hd){pc:List AV}(hpc:flatL pc){off len:Nat}(c cap:Nat)(ex:Bool)(hlen:len<=65536){lb mb:List UInt8}(hb:qan pc off len lb)(hm:mb.length=len) :
  ∀ lg,qam Try.prog 0 lp39 (fr39 (.slc 2 0 len c 1) (.slc 3 0 0 0 1) pc off len cap ex 0) [.cells ks,.cells hd,.cells (mb.map by8),.cells []] lg (.exit 0) (fr39 (.slc 2 0 len c 1) (.slc 3 0 len len 1) pc off len cap ex len)
   [.cells ks,.cells hd,.cells (mb.map by8),.cells ((xorL mb lb).map by8)] (List.range 0++lg):=by
 have hl:=hb.1
 have h:=qal (P:=Try.prog) (n0:=0) (b:=lp39) (ex := .exit 0) (fr':=fr39 (.slc 2 0 len c 1) (.slc 3 0 len len 1) pc off len cap ex len) (H' := [.cells ks,.cells hd,.cells (mb.map by8),.cells ((xorL mb lb).map by8)]) (by intro h;cases h)
  (fun i=>(fr39 (.slc 2 0 len c 1) (.slc 3 0 i i 1) pc off len cap ex i,[.cells ks,.cells hd,.cells (mb.map by8),.cells ((xorL (mb.take i) (lb.take i)).map by8)])) len 0 (fun i _ hi => ?_) ?_
 ·simpa[xorL] using h
 ·have hi':i<len:=by omega
  have hxl:(xorL (mb.take i) (lb.take i)).length=i:=by rw[qe6,List.length_take,List.length_take]; omega
  have h1:qap Try.prog 0 lp39 (fr39 (.slc 2 0 len c 1) (.slc 3 0 i i 1) pc off len cap ex i) [.cells ks,.cells hd,.cells (mb.map by8),.cells ((xorL (mb.take i) (lb.take i)).map by8)] .norm
    (fr39 (.slc 2 0 len c 1) (.slc 4 0 (i+1) (i+1) 1) pc off len cap ex (i+1)) [.cells ks,.cells hd,.cells (mb.map by8),.dead,.cells ((xorL (mb.take (i+1)) (lb.take (i+1))).map by8)]:=by
   have key:∀ Q:Ex->Fr->Hl->Prop,Q .norm (fr39 (.slc 2 0 len c 1) (.slc 4 0 (i+1) (i+1) 1) pc off len cap ex (i+1)) [.cells ks,.cells hd,.cells (mb.map by8),.dead,.cells ((xorL (mb.take (i+1)) (lb.take (i+1))).map by8)] ->
     vm (vcA kdYes noCn noLn) ops0 noTab 100 0 lp39 (fr39 (.slc 2 0 len c 1) (.slc 3 0 i i 1) pc off len cap ex i) [.cells ks,.cells hd,.cells (mb.map by8),.cells ((xorL (mb.take i) (lb.take i)).map by8)] [] (bodyX mk39 Q):=by
    intro Q hQ
    rw[vcl39,nAdd (by omega)]
    simp only[nOfn,nLss,nInr,nAdr,nLe,nLen,nRoom,nPlus,qbw,Nat.zero_add,Nat.mul_one]
    have hms:(mb.map by8)[i]? = some (by8 (mb[i]'(by omega))):=by
     rw[List.getElem?_map,List.getElem?_eq_getElem (by omega)]; rfl
    refine Br.t (decide_eq_true hi') (Chk.mk (decide_eq_true hi') ⟨_,Nth.mk (hb.get hi'),Chk.mk (decide_eq_true hi') ⟨_,Nth.mk hms,Chk.mk (decide_eq_true (by simp[hxl])) (Chk.mk (decide_eq_true (by omega)) ?_)⟩⟩)
    have e0:ops0.ext ((xorL (mb.take i) (lb.take i)).map by8) 0 i=(xorL (mb.take i) (lb.take i)).map by8:=by rw[nExt,List.drop_zero,List.take_of_length_le (by rw[List.length_map,hxl]; omega)]
    rw[qm3,e0,nApp]
    have e1 : [AV.int .u8 (Int.ofNat (lb[i] ^^^ mb[i]).toNat)] = [mb[i] ^^^ lb[i]].map by8:=by rw[UInt8.xor_comm]; rfl
    rw[e1,<-List.map_append,<-qio (by omega) (by omega)]
    exact hQ
   exact qa2 (qa3 _) (qai _) (qak _) (n:=100) (g:=kdYes) (bs:=mk39) (key _ ⟨rfl,rfl,rfl⟩) (by simp)
  have h2:=h1.post (Weak.pick [0,1,2,4] mk39 (by simp) (by simp) (by simp))
  have e5:wkF [0,1,2,4] mk39 (fr39 (.slc 2 0 len c 1) (.slc 4 0 (i+1) (i+1) 1) pc off len cap ex (i+1))=fr39 (.slc 2 0 len c 1) (.slc 3 0 (i+1) (i+1) 1) pc off len cap ex (i+1) :=
   qvo (show pickN [0,1,2,4] 2=some 2 from rfl) (show pickN [0,1,2,4] 4=some 3 from rfl) hpc _ _ _ _ _ _ _ _
  have e6:wkH [0,1,2,4] [.cells ks,.cells hd,.cells (mb.map by8),.dead,.cells ((xorL (mb.take (i+1)) (lb.take (i+1))).map by8)] = [.cells ks,.cells hd,.cells (mb.map by8),.cells ((xorL (mb.take (i+1)) (lb.take (i+1))).map by8)]:=by
   show [renB _ _ true (.cells ks),renB _ _ true (.cells hd),renB _ _ true (.cells _),renB _ _ true (.cells _)]=_
   simp only[renB,qaa hks,qaa hhd,qaa (qac _)]
  rw[e5,e6] at h2
  exact h2
 ·rw[Nat.zero_add]
  show qap _ _ _ (fr39 (.slc 2 0 len c 1) (.slc 3 0 len len 1) pc off len cap ex len) [.cells ks,.cells hd,.cells (mb.map by8),.cells ((xorL (mb.take len) (lb.take len)).map by8)] _ _ _
  rw[List.take_of_length_le (by omega),List.take_of_length_le (by omega)]
  refine qa2 (qa3 _) (qai _) (qak _) (n:=100) (g:=kdYes) (bs:=mk39) ?_ (by simp)
  rw[vcl39]
  exact Br.f (by rw[nOfn,nLss]; exact decide_eq_false (by omega)) ⟨rfl,rfl,rfl⟩
theorem q0s(ks hd pc:List AV)(off cap:Nat)(ex:Bool):∀ lg,qam Try.prog 0 lp39 (fr39 .nils .nils pc off 0 cap ex 0) [.cells ks,.cells hd] lg (.exit 0) (fr39 .nils .nils pc off 0 cap ex 0) [.cells ks,.cells hd] (List.range 0++lg):=by
 refine qal (P:=Try.prog) (n0:=0) (b:=lp39) (ex := .exit 0) (by intro h;cases h) (fun _=>(fr39 .nils .nils pc off 0 cap ex 0,[.cells ks,.cells hd])) 0 0 (fun i _ hi=>by omega) ?_
 refine qa2 (qa3 _) (qai _) (qak _) (n:=100) (g:=kdYes) (bs:=mk39) ?_ (by simp)
 show vm _ _ _ _ _ _ (fr39 .nils .nils pc off 0 cap ex 0) [.cells ks,.cells hd] _ _
 rw[q2n]
 exact⟨rfl,rfl,rfl⟩
theorem qtd:LnOK Try.prog (ln39 wf0):=by
 intro n0 b fr H p x e hn hp lg
 unfold ln39 at e
 split at e<;>cases e
 ·rename_i m c pc off len cap ex ks hd ms h1 h2
  obtain⟨rfl,hb,hf,hks,hhd,hpc,rfl,hlen,⟨lb,hlb⟩,mb,hm,rfl⟩:=hp
  have hb:b=lp39:=hb
  subst hb
  have hw:=(Weak.forget (n0:=0) (fr:=fr) (H := [.cells ks,.cells hd,.cells (mb.map by8)]) (by simp) mk39)
  rw[hf] at hw
  have hw2:=hw.trans (Weak.void (k:=8) (by simp) 1 rfl)
  show qam _ _ _ _ _ _ _ _ [.cells ks,.cells hd,.cells (mb.map by8),.cells ((xorL (qag (mb.map by8)) (rdB pc off m)).map by8)] _
  rw[qab,qch hlb]
  exact qam.pre hw2 (q2e hks hhd hpc c cap ex hlen hlb hm) lg
 ·rename_i pc off len cap ex ks hd h1 h2
  obtain⟨rfl,hb,hf,rfl⟩:=hp
  have hb:b=lp39:=hb
  subst hb
  refine qam.pre (Weak.forget (by simp) mk39) ?_ lg
  rw[hf]
  exact q0s ks hd pc off cap ex
def maskL(key l b:List UInt8):List UInt8:=xorL (qas 168 31 b.length (headL key l)) b
theorem qbd(key l b:List UInt8):(maskL key l b).length=b.length:=by
 unfold maskL
 rw[qe6,qa7]
 omega
theorem qla{n:Nat}:inK (ops0.ofn n)=(decide (1<=n) && decide (n<=65536)):=by
 unfold inK
 rw[nOfn]
 congr 1
 ·by_cases h:1<=n
  ·rw[decide_eq_true h,decide_eq_true (by simp;omega)]
  ·rw[decide_eq_false h,decide_eq_false (by simp;omega)]
 ·by_cases h:n<=65536
  ·rw[decide_eq_true h,decide_eq_true (by simp;omega)]
  ·rw[decide_eq_false h,decide_eq_false (by simp;omega)]
theorem qh3(key l:List UInt8):MF.head (NF.toMF (NG.toNF ng0)) (key.map by8) l=(headL key l).map by8:=by
 show(headL (qag (key.map by8)) l).map by8=_
 rw[qab]
theorem hadd{key l:List UInt8}(hk:key.length=32):ops0.add (ops0.slen l) 33=(headL key l).length:=by rw[nPlus,nSlen,qa9,hk]
theorem q32{key l:List UInt8}(hk:key.length=32)(hl:l.length<=64){pc:List AV}{off len:Nat}(cap:Nat)(ex:Bool){lb:List UInt8}(hf:flatL pc)(hb:qan pc off len lb)(h1:1<=len)(h2:len<=65536) :
  CallTo Try.prog 37 [.agg (key.map by8),.str l,.ros pc off len cap ex] [] (.slc 0 0 len len 1) [.cells ((maskL key l lb).map by8)] []:=by
 refine qfm qfk qur (qaj ok37) (qad 37 vf37) (n:=200) (g:=kdYes) ?_
 rw[vc37]
 have hll:=qa9 key l
 have hbl:=hb.1
 rw[qhj hk,qh3,hadd hk]
 have e1:rdP [.ros ((headL key l).map by8) 0 (headL key l).length (headL key l).length false] 0 1=headL key l:=by
  show List.flatten [partA _]=_
  rw[qb8 _ _ _ rfl]; simp
 have e2:KF.str (AF.toKF (NF.toAF (NG.toNF ng0))) (headL key l) len=(qas 168 31 len (headL key l)).map by8:=rfl
 rw[e1,e2]
 have e3:WF.msk wf0 ((qas 168 31 len (headL key l)).map by8) pc off len=(maskL key l lb).map by8:=by
  show(xorL (qag ((qas 168 31 len (headL key l)).map by8)) (rdB pc off len)).map by8=_
  rw[qab,qch hb]
  unfold maskL
  rw[hbl]
 rw[e3]
 refine Br.f (by rw[nOfn,nSlen,nGtr]; exact decide_eq_false (by omega)) (Br.f (by rw[nOfn,nGtr]; exact decide_eq_false (by omega)) (Chk.mk (qbk hk) ⟨⟨⟨key,hk,rfl⟩,hl⟩,qgx _ _ _ rfl (by omega) false,Br.t ?_ ?_⟩))
 ·rw[qla,decide_eq_true h1,decide_eq_true h2]; rfl
 ·exact⟨⟨rfl,rfl,rfl,hf,rfl,by omega,⟨lb,hb⟩,_,qa7 _ _ _ _,rfl⟩,qac _,rfl,rfl,rfl,rfl,rfl⟩
theorem qyv{key l:List UInt8}(hk:key.length=32){pc:List AV}{off len:Nat}(cap:Nat)(ex:Bool)(h:64<l.length∨len=0∨65536<len) :
  CallTo Try.prog 37 [.agg (key.map by8),.str l,.ros pc off len cap ex] [] .nils [] []:=by
 refine qb7 qfk qur (qaj ok37) (qad 37 vf37) (n:=200) (g:=kdYes) (m:=fun _=>0) [] ?_ (by simp) rfl (by simp)
 rw[vc37n]
 refine Br.mk (fun _=>⟨rfl,rfl⟩) (fun h1=>Br.mk (fun _=>⟨rfl,rfl⟩) (fun h2 => ?_))
 have h1:=qo2 h1
 have h2:¬ 65536<len:=by rw[nOfn,nGtr] at h2;exact of_decide_eq_false h2
 have hz:len=0:=by omega
 have hll:=qa9 key l
 rw[qhj hk,qh3,hadd hk]
 refine Chk.mk (qbk hk) ⟨⟨⟨key,hk,rfl⟩,by omega⟩,qgx _ _ _ rfl (by omega) false,Br.f ?_ ?_⟩
 ·rw[qla,hz]; rfl
 ·exact⟨⟨rfl,rfl,rfl,hz⟩,rfl,rfl⟩
theorem q2m{key l:List UInt8}(hk:key.length=32)(hl:l.length<=64){pc:List AV}{off len:Nat}(cap:Nat)(ex:Bool){lb:List UInt8}(hf:flatL pc)(hb:qan pc off len lb)(h1:1<=len)(h2:len<=65536) :
  CallTo Try.prog 39 [.agg (key.map by8),.str l,.ros pc off len cap ex] [] (.slc 0 0 len len 1) [.cells ((maskL key l lb).map by8)] []:=by
 refine qfm qfk qtd (qaj ok39) (qad 39 vf39) (n:=200) (g:=kdYes) ?_
 rw[vc39]
 have hll:=qa9 key l
 have hbl:=hb.1
 rw[qhj hk,qh3,hadd hk]
 have e2:KF.str (AF.toKF (NF.toAF (NG.toNF ng0))) (headL key l) len=(qas 168 31 len (headL key l)).map by8:=rfl
 rw[qch (qax (headL key l)),e2]
 have e3:WF.msk wf0 ((qas 168 31 len (headL key l)).map by8) pc off len=(maskL key l lb).map by8:=by
  show(xorL (qag ((qas 168 31 len (headL key l)).map by8)) (rdB pc off len)).map by8=_
  rw[qab,qch hb]
  unfold maskL
  rw[hbl]
 rw[e3]
 refine Br.f (by rw[nOfn,nSlen,nGtr]; exact decide_eq_false (by omega)) (Br.f (by rw[nOfn,nGtr]; exact decide_eq_false (by omega)) (Chk.mk (qbk hk) ⟨⟨⟨key,hk,rfl⟩,hl⟩,⟨qac _,by simp,by omega,_,qax _⟩,Br.t ?_ ?_⟩))
 ·rw[qla,decide_eq_true h1,decide_eq_true h2]; rfl
 ·exact⟨⟨rfl,rfl,rfl,qac _,qac _,hf,rfl,h2,⟨lb,hb⟩,_,qa7 _ _ _ _,rfl⟩,qac _,rfl,rfl,rfl,rfl,rfl⟩
theorem qz5{key l:List UInt8}(hk:key.length=32){pc:List AV}{off len:Nat}(cap:Nat)(ex:Bool)(h:64<l.length∨len=0∨65536<len) :
  CallTo Try.prog 39 [.agg (key.map by8),.str l,.ros pc off len cap ex] [] .nils [] []:=by
 refine qb7 qfk qtd (qaj ok39) (qad 39 vf39) (n:=200) (g:=kdYes) (m:=fun _=>0) [] ?_ (by simp) rfl (by simp)
 rw[vc39n]
 refine Br.mk (fun _=>⟨rfl,rfl⟩) (fun h1=>Br.mk (fun _=>⟨rfl,rfl⟩) (fun h2 => ?_))
 have h1:=qo2 h1
 have h2:¬ 65536<len:=by rw[nOfn,nGtr] at h2;exact of_decide_eq_false h2
 have hz:len=0:=by omega
 have hll:=qa9 key l
 rw[qhj hk,qh3,hadd hk]
 refine Chk.mk (qbk hk) ⟨⟨⟨key,hk,rfl⟩,by omega⟩,⟨qac _,by simp,by omega,_,qax _⟩,Br.f ?_ ?_⟩
 ·rw[qla,hz]; rfl
 ·exact⟨⟨rfl,rfl,rfl,hz⟩,rfl,rfl⟩
end
end Go.Proofs.Vm

namespace Go.Proofs.Vm
set_option maxRecDepth 100000
open Go.Vm
noncomputable section
structure HF extends NG where
 mask:List AV->List UInt8->List UInt8->List AV
 eq:List UInt8->List UInt8->Bool
 drv:List AV->List UInt8->Int->List AV
 hash:List AV->List AV
def hf0:HF := { ng0 with mask:=fun ks l b=>(maskL (qag ks) l b).map by8,eq:=fun a b=>decide (a=b),drv:=fun ks l n=>(tagL (qag ks) l [qar n.toNat]).map by8,hash:=fun ks=>(sumL (qag ks)).map by8 }
def inM(l:List UInt8)(n:Nat):Bool:=decide (l.length<=64) && (decide (1<=n) && decide (n<=65536))
def cnM(S:HF):CnF:=fun f vals H=>match f,vals with
 | 37,[.agg ks,.str l,x]=>match vw1 H x with
  | .ros pc off len _ _=>some (PKey ks/\PB pc off len,.cond (inM l len) (.ok (.slc (size H) 0 len len 1) (join H [.cells (S.mask ks l (rdB pc off len))]) []) (.ok .nils H []))
  | _=>none
 | 39,[.agg ks,.str l,x]=>match vw1 H x with
  | .ros pc off len _ _=>some (PKey ks/\PB pc off len,.cond (inM l len) (.ok (.slc (size H) 0 len len 1) (join H [.cells (S.mask ks l (rdB pc off len))]) []) (.ok .nils H []))
  | _=>none
 | 46,[x,y]=>match vw1 H x,vw1 H y with
  | .ros pa oa la _ _,.ros pb ob lb _ _=>some (PB pa oa la/\PB pb ob lb,.cond (S.eq (rdB pa oa la) (rdB pb ob lb)) (.ok (.bool true) H []) (.ok (.bool false) H []))
  | _,_=>none
 | 42,[.agg ks,.str l,.int .u64 n]=>some (PKey ks/\0<=n,.ok (.agg (S.drv ks l n)) H [])
 | 43,[.agg ks,.str l,.int .u64 n]=>some (PKey ks/\0<=n,.ok (.agg (S.drv ks l n)) H [])
 | 47,[.agg ks]=>some (PKey ks,.ok (.agg (S.hash ks)) H [])
 | f,vals=>cnN2 S.toNG f vals H
theorem nXor{a b:Nat}(ha:a<2 ^ 63)(hb:b<2 ^ 63):ops0.bin .xor .i64 (Int.ofNat a) (Int.ofNat b)=Int.ofNat (a ^^^ b):=by
 have h:=Nat.xor_lt_two_pow ha hb
 have e:∀ c:Nat,c<2 ^ 63->(BitVec.ofInt 64 (Int.ofNat c)).toNat=c:=by
  intro c hc
  simp only[BitVec.toNat_ofInt,Int.ofNat_eq_natCast]
  omega
 show IntKind.i64.wrap ((BitVec.ofInt 64 (Int.ofNat a) ^^^ BitVec.ofInt 64 (Int.ofNat b)).toNat:Int)=_
 rw[BitVec.toNat_xor,e a ha,e b hb,qcv (by omega) (by omega)]
 rfl
theorem nOr{a b:Nat}(ha:a<2 ^ 63)(hb:b<2 ^ 63):ops0.bin .or .i64 (Int.ofNat a) (Int.ofNat b)=Int.ofNat (a ||| b):=by
 have h:=Nat.or_lt_two_pow ha hb
 have e:∀ c:Nat,c<2 ^ 63->(BitVec.ofInt 64 (Int.ofNat c)).toNat=c:=by
  intro c hc
  simp only[BitVec.toNat_ofInt,Int.ofNat_eq_natCast]
  omega
 show IntKind.i64.wrap ((BitVec.ofInt 64 (Int.ofNat a) ||| BitVec.ofInt 64 (Int.ofNat b)).toNat:Int)=_
 rw[BitVec.toNat_or,e a ha,e b hb,qcv (by omega) (by omega)]
 rfl
theorem qsc{z:Nat}(hz:z<2 ^ 63)(a b:List UInt8):∀ i,accN z a b i<2 ^ 63
 | 0=>hz
 | i+1=>by
  unfold accN
  refine Nat.or_lt_two_pow (qsc hz a b i) (Nat.xor_lt_two_pow ?_ ?_)
  ·have:=(a.getD i 0).toNat_lt;omega
  ·have:=(b.getD i 0).toNat_lt;omega
theorem qze{a b:Nat}:a ||| b=0↔a=0/\b=0:=by
 constructor
 ·intro h
  have h1:a<=a ||| b:=Nat.left_le_or
  have h2:b<=a ||| b:=Nat.right_le_or
  omega
 ·rintro⟨rfl,rfl⟩; rfl
theorem ql4{a b:Nat}:a ^^^ b=0↔a=b:=by
 constructor
 ·intro h
  have:a ^^^ b ^^^ b=b:=by rw[h,Nat.zero_xor]
  rwa [Nat.xor_assoc,Nat.xor_self,Nat.xor_zero] at this
 ·rintro rfl;exact Nat.xor_self _
theorem ql5(z:Nat)(a b:List UInt8):∀ i,accN z a b i=0↔z=0/\∀ j,j<i->a.getD j 0=b.getD j 0
 | 0=>by simp[accN]
 | i+1=>by
  unfold accN
  rw[qze,ql5 z a b i,ql4]
  constructor
  ·rintro⟨⟨h1,h2⟩,h3⟩
   refine⟨h1,fun j hj => ?_⟩
   rcases Nat.lt_or_eq_of_le (Nat.le_of_lt_succ hj) with h|h
   ·exact h2 j h
   ·subst h;exact UInt8.toNat_inj.1 h3
  ·rintro⟨h1,h2⟩
   exact⟨⟨h1,fun j hj=>h2 j (by omega)⟩,by rw[h2 i (by omega)]⟩
theorem q41{pa:List AV}{oa la:Nat}(ca:Nat)(ea:Bool){pb:List AV}{ob lb:Nat}(cb:Nat)(eb:Bool){m z:Nat}(h1:m<=la)(h2:m<=lb)(h3:la<137438953472)(hz:z<2 ^ 63){al bl:List UInt8}(ha:qan pa oa la al)(hb:qan pb ob lb bl) :
  ∀ lg,qam Try.prog 0 lp46 (fr46 pa oa la ca ea pb ob lb cb eb z m 0) [] lg (.exit 0) (fr46 pa oa la ca ea pb ob lb cb eb (accN z al bl m) m m) [] (List.range 0++lg):=by
 refine qal (P:=Try.prog) (n0:=0) (b:=lp46) (ex := .exit 0) (by intro h;cases h) (fun i=>(fr46 pa oa la ca ea pb ob lb cb eb (accN z al bl i) m i,[])) m 0 (fun i _ hi => ?_) ?_
 ·have hi':i<m:=by omega
  have hla:=ha.1
  have hlb:=hb.1
  have key:∀ Q:Ex->Fr->Hl->Prop,Q .norm (fr46 pa oa la ca ea pb ob lb cb eb (accN z al bl (i+1)) m (i+1)) [] ->
    vm (vcA kdYes noCn noLn) ops0 noTab 100 0 lp46 (fr46 pa oa la ca ea pb ob lb cb eb (accN z al bl i) m i) [] [] (bodyX mk46 Q):=by
   intro Q hQ
   rw[vcl46,nAdd (by omega)]
   simp only[nLss,nInr,nAdr,Nat.mul_one]
   refine Br.t (decide_eq_true hi') (Chk.mk (decide_eq_true (by omega)) ⟨_,Nth.mk (ha.get (by omega)),Chk.mk (decide_eq_true (by omega)) ⟨_,Nth.mk (hb.get (by omega)),?_⟩⟩)
   have c1:∀ c:UInt8,ops0.cvt .i64 (Int.ofNat c.toNat)=Int.ofNat c.toNat:=fun c=>nCi (by have:=c.toNat_lt;omega)
   have c2:∀ c:UInt8,c.toNat<2 ^ 63:=fun c=>by have:=c.toNat_lt;omega
   rw[c1,c1,nXor (c2 _) (c2 _),nOr (qsc hz _ _ _) (Nat.xor_lt_two_pow (c2 _) (c2 _))]
   have e1:al.getD i 0=al[i]'(by omega):=by rw[List.getD_eq_getElem?_getD,List.getElem?_eq_getElem (by omega)]; rfl
   have e2:bl.getD i 0=bl[i]'(by omega):=by rw[List.getD_eq_getElem?_getD,List.getElem?_eq_getElem (by omega)]; rfl
   have e3:accN z al bl (i+1)=accN z al bl i ||| ((al[i]'(by omega)).toNat ^^^ (bl[i]'(by omega)).toNat):=by rw[<-e1,<-e2]; rfl
   rw[e3] at hQ
   exact hQ
  exact qa2 (qa3 _) (qai _) (qak _) (n:=100) (g:=kdYes) (bs:=mk46) (key _ ⟨rfl,rfl,rfl⟩) (by simp)
 ·rw[Nat.zero_add]
  refine qa2 (qa3 _) (qai _) (qak _) (n:=100) (g:=kdYes) (bs:=mk46) ?_ (by simp)
  show vm _ _ _ _ _ _ (fr46 pa oa la ca ea pb ob lb cb eb (accN z al bl m) m m) [] _ _
  rw[vcl46]
  exact Br.f (by rw[nLss]; exact decide_eq_false (by omega)) ⟨rfl,rfl,rfl⟩
theorem qan.le{pc:List AV}{off len:Nat}{lb:List UInt8}(h:qan pc off len lb){m:Nat}(hm:m<=len):qan pc off m (lb.take m):=by
 refine⟨by rw[List.length_take,h.1]; omega,?_⟩
 have:=congrArg (List.take m) h.2
 rw[List.take_take,Nat.min_eq_left hm,<-List.map_take] at this
 exact this
theorem qji(z:Nat)(a b:List UInt8)(m:Nat):∀ i,i<=m->accN z (a.take m) (b.take m) i=accN z a b i
 | 0,_=>rfl
 | i+1,h=>by
  unfold accN
  rw[qji z a b m i (by omega)]
  have e:∀ c:List UInt8,(c.take m).getD i 0=c.getD i 0:=by
   intro c
   rw[List.getD_eq_getElem?_getD,List.getD_eq_getElem?_getD,List.getElem?_take,if_pos (by omega)]
  rw[e,e]
theorem q0n:LnOK Try.prog (ln46 wf0):=by
 intro n0 b fr H p x e hn hp lg
 unfold ln46 at e
 split at e<;>cases e
 rename_i pa oa la ca ea pb ob lb cb eb z m h1 h2 h3 h4
 obtain⟨rfl,hb,hf,g1,g2,g3,g4,⟨al,hal⟩,bl,hbl⟩:=hp
 have hb:b=lp46:=hb
 subst hb
 refine qam.pre (Weak.forget (by simp) mk46) ?_ lg
 rw[hf]
 have:=q41 ca ea cb eb g1 g2 g3 g4 hal hbl
 have e:WF.acc wf0 (ops0.nat z) pa oa pb ob (ops0.nat m)=accN (ops0.nat z) al bl (ops0.nat m):=by
  show accN _ (rdB pa oa _) (rdB pb ob _) _=_
  rw[qch (hal.le g1),qch (hbl.le g2),qji _ _ _ _ _ (Nat.le_refl _)]
 show ∀ lg,qam _ _ _ _ _ _ _ (fr46 pa oa la ca ea pb ob lb cb eb (WF.acc wf0 (ops0.nat z) pa oa pb ob (ops0.nat m)) (ops0.nat m) (ops0.nat m)) _ _
 rw[e]
 exact this
theorem q0h{pa:List AV}{oa la:Nat}(ca:Nat)(ea:Bool){pb:List AV}{ob lb:Nat}(cb:Nat)(eb:Bool){al bl:List UInt8}(ha:qan pa oa la al)(hb:qan pb ob lb bl)(hla:la<137438953472)(hlb:lb<137438953472) :
  CallTo Try.prog 46 [.ros pa oa la ca ea,.ros pb ob lb cb eb] [] (.bool (decide (al=bl))) [] []:=by
 refine qhz (qa3 _) q0n (qaj ok46) (qad 46 vf46) (n:=200) (g:=kdYes) ?_
 rw[vc46]
 have hx:ops0.bin .xor .i64 (ops0.ofn la) (ops0.ofn lb)=Int.ofNat (la ^^^ lb):=by rw[nOfn,nOfn,nXor (by omega) (by omega)]
 have hm:ops0.mnx false (ops0.ofn la) (ops0.ofn lb)=Int.ofNat (min la lb):=by
  show(if Int.ofNat lb<Int.ofNat la then Int.ofNat lb else Int.ofNat la)=_
  rcases Nat.lt_or_ge lb la with h|h
  ·rw[if_pos (by simp;omega),Nat.min_eq_right (by omega)]
  ·rw[if_neg (by simp;omega),Nat.min_eq_left h]
 rw[hx,hm,nNat,nNat]
 have hz:la ^^^ lb<2 ^ 63:=Nat.xor_lt_two_pow (by omega) (by omega)
 have e:WF.acc wf0 (la ^^^ lb) pa oa pb ob (min la lb)=accN (la ^^^ lb) al bl (min la lb):=by
  show accN _ (rdB pa oa _) (rdB pb ob _) _=_
  rw[qch (ha.le (by omega)),qch (hb.le (by omega)),qji _ _ _ _ _ (Nat.le_refl _)]
 rw[e]
 refine⟨⟨rfl,rfl,rfl,by omega,by omega,hla,hz,⟨al,ha⟩,bl,hb⟩,?_⟩
 have key:accN (la ^^^ lb) al bl (min la lb)=0↔al=bl:=by
  rw[ql5,ql4]
  have h1:=ha.1
  have h2:=hb.1
  constructor
  ·rintro⟨g1,g2⟩
   apply List.ext_getElem (by omega)
   intro i hi hj
   have:=g2 i (by omega)
   rw[List.getD_eq_getElem?_getD,List.getD_eq_getElem?_getD,List.getElem?_eq_getElem hi,List.getElem?_eq_getElem hj] at this
   exact this
  ·rintro rfl
   exact⟨by omega,fun _ _=>rfl⟩
 refine Br.mk (fun h => ?_) (fun h => ?_)
 ·have h:accN (la ^^^ lb) al bl (min la lb)=0:=by
   have:=nEql (a:=accN (la ^^^ lb) al bl (min la lb)) (b:=0)
   rw[this] at h
   exact of_decide_eq_true h
  exact⟨by rw[decide_eq_true (key.1 h)],rfl,rfl⟩
 ·have h:¬ accN (la ^^^ lb) al bl (min la lb)=0:=by
   have:=nEql (a:=accN (la ^^^ lb) al bl (min la lb)) (b:=0)
   rw[this] at h
   exact of_decide_eq_false h
  exact⟨by rw[decide_eq_false (fun k=>h (key.2 k))],rfl,rfl⟩
theorem qpc{l:List UInt8}{n:Nat}(h:inM l n=true):l.length<=64/\1<=n/\n<=65536:=by
 simpa only[inM,Bool.and_eq_true,decide_eq_true_eq] using h
theorem qmn{l:List UInt8}{n:Nat}(h:inM l n=false):64<l.length∨n=0∨65536<n:=by
 have:¬ (l.length<=64/\1<=n/\n<=65536):=by
  intro hk
  have:inM l n=true:=by simpa only[inM,Bool.and_eq_true,decide_eq_true_eq] using hk
  rw[this] at h;cases h
 omega
theorem qna:CnOK Try.prog (cnM hf0):=by
 intro f vals H p x e hp
 unfold cnM at e
 split at e
 ·rename_i ks l y
  split at e<;>cases e
  rename_i pc off len cap ex hv
  obtain⟨⟨key,hk,rfl⟩,hf,ho,hl,lb,hb⟩:=hp
  have hws:Vws H [.agg (key.map by8),.str l,y] [.agg (key.map by8),.str l,.ros pc off len cap ex] := .cons (Vw.agg H (Still.flat (qac key))) (.cons (Vw.str H l) (.cons (Vw.one hv hf) .nil))
  cases hm:inM l len with
  | true =>
   obtain⟨m1,m2,m3⟩:=qpc hm
   simp only[CRes.fin,hm]
   have h:=CallTo.lookS (q32 hk m1 cap ex hf hb m2 m3) (qac _) hws
   show CallTo _ _ _ _ _ (join H [.cells ((maskL (qag (key.map by8)) l (rdB pc off len)).map by8)]) _
   rw[qab,qch hb]
   exact h
  | false =>
   simp only[CRes.fin,hm]
   exact CallTo.lookV (qyv hk cap ex (qmn hm)) hws
 ·rename_i ks l y
  split at e<;>cases e
  rename_i pc off len cap ex hv
  obtain⟨⟨key,hk,rfl⟩,hf,ho,hl,lb,hb⟩:=hp
  have hws:Vws H [.agg (key.map by8),.str l,y] [.agg (key.map by8),.str l,.ros pc off len cap ex] := .cons (Vw.agg H (Still.flat (qac key))) (.cons (Vw.str H l) (.cons (Vw.one hv hf) .nil))
  cases hm:inM l len with
  | true =>
   obtain⟨m1,m2,m3⟩:=qpc hm
   simp only[CRes.fin,hm]
   have h:=CallTo.lookS (q2m hk m1 cap ex hf hb m2 m3) (qac _) hws
   show CallTo _ _ _ _ _ (join H [.cells ((maskL (qag (key.map by8)) l (rdB pc off len)).map by8)]) _
   rw[qab,qch hb]
   exact h
  | false =>
   simp only[CRes.fin,hm]
   exact CallTo.lookV (qz5 hk cap ex (qmn hm)) hws
 ·rename_i y z
  split at e<;>cases e
  rename_i pa oa la ca ea pb ob lb cb eb h1 h2
  obtain⟨⟨hf,ho,hl,al,hal⟩,hf',ho',hl',bl,hbl⟩:=hp
  have h:=CallTo.lookV (H:=H) (q0h ca ea cb eb hal hbl hl hl') (.cons (Vw.one h1 hf) (.cons (Vw.one h2 hf') .nil))
  have e1:HF.eq hf0 (rdB pa oa la) (rdB pb ob lb)=decide (al=bl):=by
   show decide (rdB pa oa la=rdB pb ob lb)=_
   rw[qch hal,qch hbl]
  cases hd:decide (al=bl) with
  | true =>
   rw[hd] at h
   rw[hd] at e1
   simp only[CRes.fin,e1]
   exact h
  | false =>
   rw[hd] at h
   rw[hd] at e1
   simp only[CRes.fin,e1]
   exact h
 ·rename_i ks l n
  cases e
  obtain⟨⟨key,hk,rfl⟩,hn⟩:=hp
  obtain⟨m,rfl⟩:∃ m:Nat,n=Int.ofNat m:=⟨n.toNat,(Int.toNat_of_nonneg hn).symm⟩
  have h:=CallTo.lookV (H:=H) (qvy hk l m) (.cons (Vw.agg H (Still.flat (qac key))) (.cons (Vw.str H l) (.cons (Vw.int H _ _) .nil)))
  rw[qbo (qac _)] at h
  show CallTo _ _ _ _ (.agg ((tagL (qag (key.map by8)) l [qar m]).map by8)) _ _
  rw[qab]
  exact h
 ·rename_i ks l n
  cases e
  obtain⟨⟨key,hk,rfl⟩,hn⟩:=hp
  obtain⟨m,rfl⟩:∃ m:Nat,n=Int.ofNat m:=⟨n.toNat,(Int.toNat_of_nonneg hn).symm⟩
  have h:=CallTo.lookV (H:=H) (qww hk l m) (.cons (Vw.agg H (Still.flat (qac key))) (.cons (Vw.str H l) (.cons (Vw.int H _ _) .nil)))
  rw[qbo (qac _)] at h
  show CallTo _ _ _ _ (.agg ((tagL (qag (key.map by8)) l [qar m]).map by8)) _ _
  rw[qab]
  exact h
 ·rename_i ks
  cases e
  obtain⟨key,hk,rfl⟩:=hp
  have h:=CallTo.lookV (H:=H) (q3p hk) (.cons (Vw.agg H (Still.flat (qac key))) .nil)
  rw[qbo (qac _)] at h
  show CallTo _ _ _ _ (.agg ((sumL (qag (key.map by8))).map by8)) _ _
  rw[qab]
  exact h
 ·exact qfk _ _ _ _ _ e hp
theorem qej(key l b:List UInt8):HF.mask hf0 (key.map by8) l b=(maskL key l b).map by8:=by
 show(maskL (qag (key.map by8)) l b).map by8=_
 rw[qab]
theorem pkey(key:List UInt8)(h:key.length=32):PKey (key.map by8):=⟨key,h,rfl⟩
theorem qbz(lb:List UInt8)(n:Nat)(h:n=lb.length)(hl:lb.length<137438953472):PB (lb.map by8) 0 n:=by
 subst h
 exact⟨qac _,by simp,hl,lb,qax lb⟩
theorem qfw(l:List UInt8):l.map by8=(l.map fun b=>Int.ofNat b.toNat).map (AV.int .u8):=by
 rw[List.map_map]; rfl
theorem qwx{l m:List UInt8}(h:(l.map fun b=>Int.ofNat b.toNat)=m.map fun b=>Int.ofNat b.toNat):l=m:=by
 apply List.ext_getElem?
 intro i
 have:=congrArg (fun x=>x[i]?) h
 simp only[List.getElem?_map] at this
 cases h1:l[i]? <;> cases h2:m[i]? <;> simp_all
 exact UInt8.toNat_inj.1 (by omega)
theorem ext32{xs:List AV}(h:xs.length=32):ops0.ext xs 0 32=xs:=by rw[nExt,List.drop_zero,List.take_of_length_le (by omega)]
theorem eq32{xs:List AV}(h:xs.length=32):ops0.eq (ops0.len xs) 32=true:=by rw[nEq,nLen]; exact decide_eq_true h
end
end Go.Proofs.Vm
