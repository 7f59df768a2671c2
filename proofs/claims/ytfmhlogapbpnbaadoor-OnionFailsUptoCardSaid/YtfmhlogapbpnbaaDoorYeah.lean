/-
  KECCAK, PART 7: the document's rounds.
-/
import Derived.Test.YtfmhlogapbpnbaaDoorYeag
import Derived.Test.YtfmhlogapbpnbaaDoorYeaf
import Derived.Test.YtfmhlogapbpnbaaDoorYead
set_option linter.unusedVariables false
set_option linter.unusedSimpArgs false
set_option linter.unusedSectionVars false

namespace Go.Proofs.Vm
set_option maxRecDepth 100000
open Go.Vm
noncomputable section
theorem u64_back(x:BitVec 64):IntKind.u64.wrap (x.toNat:Int)=(x.toNat:Int):=by
 have:=x.isLt
 simp[IntKind.wrap,IntKind.bits,IntKind.signed]
 omega
theorem u64_of(x:BitVec 64):BitVec.ofInt 64 (x.toNat:Int)=x:=by
 apply BitVec.eq_of_toNat_eq
 simp
theorem andNot_two(p q:Int):bin0 .and .u64 (bin0 .xor .u64 (IntKind.u64.max) q) p=bin0 .andNot .u64 p q:=by
 have h1:bin0 .xor .u64 IntKind.u64.max q=((~~~ (BitVec.ofInt 64 q)).toNat:Int):=by
  show IntKind.u64.wrap ((BitVec.ofInt 64 IntKind.u64.max ^^^ BitVec.ofInt 64 q).toNat:Int)=_
  rw[u64_back]
  congr 2
 rw[h1]
 show IntKind.u64.wrap ((BitVec.ofInt 64 ((~~~ (BitVec.ofInt 64 q)).toNat:Int) &&& BitVec.ofInt 64 p).toNat:Int)=IntKind.u64.wrap ((BitVec.ofInt 64 p &&& ~~~ BitVec.ofInt 64 q).toNat:Int)
 rw[u64_of,BitVec.and_comm]
theorem nw_eq:nw (fun op=>bin0 op .u64)=bin0 .andNot .u64:=by
 funext p q
 exact andNot_two p q
def isTab(t:List AV):Bool:=match toInts .i64 (t.take 25),toInts .u64 (t.drop 25) with
 | some l,some m=>match l == byI,m == rcs with
  | true,true=>true
  | _,_=>false
 | _,_=>false
theorem isTab_ok{t:List AV}(h:isTab t=true):t=byL++rcL:=by
 unfold isTab at h
 split at h<;>first|cases h|skip
 rename_i l m h1 h2
 split at h<;>first|cases h|skip
 rename_i e1 e2
 have e1:l=byI:=by simpa using e1
 have e2:m=rcs:=by simpa using e2
 have g1:=toInts_ok h1
 have g2:=toInts_ok h2
 rw[e1] at g1
 rw[e2] at g2
 rw[←List.take_append_drop 25 t,g1,g2]
 rfl
def roundC(F:List Int→Nat→List Int):Con:=fun f vals H=>match f,vals with
 | 63,[]=>some (.agg (byL++rcL),H,[])
 | 72,[.ptr b 0,.agg cs,.int .i64 (.ofNat n)]=>match nth H b with
  | some (.cells t)=>match isTab t,toInts .u64 cs with
   | true,some ws=>match Nat.beq (size ws) 25,Nat.blt n 24 with
    | true,true=>some (.agg ((ex25 (F ws n)).map w),H,[])
    | _,_=>none
   | _,_=>none
  | _=>none
 | _,_=>none
def rndN(ws:List Int)(n:Nat):List Int:=rnd ws (rcs.getD n 0)
theorem tab_flat:flatL (byL++rcL):=fun a ha=>by
 have h:=tail_flat 0 0 a
 simp only[tail,List.mem_append] at h ha
 rcases ha with ha|ha
 ·exact h (.inl ha)
 ·exact h (.inr (.inr (.inl ha)))
theorem roundC_ok:ConOK Tryd.prog (roundC rndN):=by
 intro f vals H r H' lg h
 unfold roundC at h
 split at h
 ·cases h
  have h2:=CallTo.pure (H:=H) 0 (vals := []) (call_cut (noCon_ok _) tabK_ok (f:=63) rfl 0 [] all76_run (by simp) (fun b hb=>by cases hb))
  have e:backV [] H.length (.agg (byL++rcL)) = .agg (byL++rcL):=by
   simp only[backV,ren]
   exact congrArg AV.agg (renL_flat tab_flat)
  rw[e] at h2
  exact h2
 ·rename_i b cs n
  split at h<;>first|cases h|skip
  rename_i t hb
  split at h<;>first|cases h|skip
  rename_i ws ht hw
  split at h<;>cases h
  rename_i hl hn
  have hl:=Nat.eq_of_beq_eq_true hl
  rw[size_eq] at hl
  have hn:=(blt_iff _ _).1 hn
  have ht:=isTab_ok ht
  subst ht
  have hw:=toInts_ok hw
  subst hw
  rw[nth_eq] at hb
  obtain⟨s0,s1,s2,s3,s4,s5,s6,s7,s8,s9,s10,s11,s12,s13,s14,s15,s16,s17,s18,s19,s20,s21,s22,s23,s24,rfl⟩:=list25 hl
  have hrun:=round77_run (fun op=>bin0 op .u64) (fun op=>shf0 op .u64) rotl s0 s1 s2 s3 s4 s5 s6 s7 s8 s9 s10 s11 s12 s13 s14 s15 s16 s17 s18 s19 s20 s21 s22 s23 s24 n hn
  rw[opsW_eq,nw_eq] at hrun
  have hc:=call_cut rotC_ok (tabOne_ok ok72) (tabOne_self 72 vf72) 1 [0] hrun (by simp) (fun b hb hn=>by simp at hb hn;omega)
  have h2:=CallTo.look (vals := [.ptr b 0,.agg (([s0,s1,s2,s3,s4,s5,s6,s7,s8,s9,s10,s11,s12,s13,s14,s15,s16,s17,s18,s19,s20,s21,s22,s23,s24]:List Int).map (AV.int .u64)),.int .i64 (.ofNat n)]) hc hb tab_flat (fun φ=>by
   simp only[renL,ren,pickN,placeIn,Nat.beq_refl]
   rw[renL_flat (flatL_ints _ _)]
   rfl)
  have e:backV [b] H.length (.agg ((mixW (bin0 .xor .u64) (bin0 .andNot .u64) rotl [s0,s1,s2,s3,s4,s5,s6,s7,s8,s9,s10,s11,s12,s13,s14,s15,s16,s17,s18,s19,s20,s21,s22,s23,s24] (rcs.getD n 0)).map w)) = .agg ((mixW (bin0 .xor .u64) (bin0 .andNot .u64) rotl [s0,s1,s2,s3,s4,s5,s6,s7,s8,s9,s10,s11,s12,s13,s14,s15,s16,s17,s18,s19,s20,s21,s22,s23,s24] (rcs.getD n 0)).map w):=by
   simp only[backV,ren]
   exact congrArg AV.agg (renL_flat (flatL_ints .u64 _))
  rw[e] at h2
  have e2:ex25 (rndN [s0,s1,s2,s3,s4,s5,s6,s7,s8,s9,s10,s11,s12,s13,s14,s15,s16,s17,s18,s19,s20,s21,s22,s23,s24] n)=mixW (bin0 .xor .u64) (bin0 .andNot .u64) rotl [s0,s1,s2,s3,s4,s5,s6,s7,s8,s9,s10,s11,s12,s13,s14,s15,s16,s17,s18,s19,s20,s21,s22,s23,s24] (rcs.getD n 0):=ex25_eq (rnd_length ..)
  rw[e2]
  exact h2
 ·cases h
noncomputable def lp78:VC:=vp [1,0,1,0,0] vf64.body
def mask78:List Bool := [false,true,true,false,false,false,true,true,true,true,true,true,true,true,true]
def fr78(i:Int):Fr := [.ptr 0 0,.top,.top,.ptr 1 0,.ptr 2 0,.int .i64 i,.top,.top,.top,.top,.top,.top,.top,.top,.top]
def in78(s:List Int):Fr := [.ptr 0 0,.agg (s.map w),.tup [],.ptr 1 0,.ptr 2 0,.int .i64 0,.tup [],.tup [],.tup [],.tup [],.tup [],.tup [],.tup [],.tup [],.tup []]
theorem body78(F:List Int→Nat→List Int)(s0 s1 s2 s3 s4 s5 s6 s7 s8 s9 s10 s11 s12 s13 s14 s15 s16 s17 s18 s19 s20 s21 s22 s23 s24:Int):∀ i,i<24 →
  vm (optC (roundC F)) ops0 noTab 100 1 lp78 (fr78 (.ofNat i)) [.cells (byL++rcL),.cells (([s0,s1,s2,s3,s4,s5,s6,s7,s8,s9,s10,s11,s12,s13,s14,s15,s16,s17,s18,s19,s20,s21,s22,s23,s24]:List Int).map w),.cells zero25] [] (bodyF mask78) =
   some (.norm,fr78 (.ofNat (i+1)),[.cells (byL++rcL),.cells ((ex25 (F [s0,s1,s2,s3,s4,s5,s6,s7,s8,s9,s10,s11,s12,s13,s14,s15,s16,s17,s18,s19,s20,s21,s22,s23,s24] i)).map w),.cells zero25],[])
 | 0,_=>by kernel_rfl
 | 1,_=>by kernel_rfl
 | 2,_=>by kernel_rfl
 | 3,_=>by kernel_rfl
 | 4,_=>by kernel_rfl
 | 5,_=>by kernel_rfl
 | 6,_=>by kernel_rfl
 | 7,_=>by kernel_rfl
 | 8,_=>by kernel_rfl
 | 9,_=>by kernel_rfl
 | 10,_=>by kernel_rfl
 | 11,_=>by kernel_rfl
 | 12,_=>by kernel_rfl
 | 13,_=>by kernel_rfl
 | 14,_=>by kernel_rfl
 | 15,_=>by kernel_rfl
 | 16,_=>by kernel_rfl
 | 17,_=>by kernel_rfl
 | 18,_=>by kernel_rfl
 | 19,_=>by kernel_rfl
 | 20,_=>by kernel_rfl
 | 21,_=>by kernel_rfl
 | 22,_=>by kernel_rfl
 | 23,_=>by kernel_rfl
 | i+24,h=>absurd h (by omega)
theorem end78(F:List Int→Nat→List Int)(H:Hl) :
  vm (optC (roundC F)) ops0 noTab 100 1 lp78 (fr78 (.ofNat 24)) H [] (bodyF mask78)=some (.exit 0,fr78 (.ofNat 24),H,[]):=by kernel_rfl
theorem loop78{s:List Int}(hs:s.length=25):∀ lg,LoopTo Tryd.prog 1 lp78 (fr78 (.ofNat 0)) [.cells (byL++rcL),.cells (s.map w),.cells zero25] lg (.exit 0) (fr78 (.ofNat 24)) [.cells (byL++rcL),.cells ((st s 24).map w),.cells zero25] (List.range 1++lg):=by
 refine loop_chain (ex := .exit 0) (by intro h;cases h) (fun i=>(fr78 (.ofNat i),[.cells (byL++rcL),.cells ((st s i).map w),.cells zero25])) 24 0 (fun j _ hj => ?_) ?_
 ·obtain⟨s0,s1,s2,s3,s4,s5,s6,s7,s8,s9,s10,s11,s12,s13,s14,s15,s16,s17,s18,s19,s20,s21,s22,s23,s24,e⟩:=list25 (st_length hs j)
  have h:=body78 rndN s0 s1 s2 s3 s4 s5 s6 s7 s8 s9 s10 s11 s12 s13 s14 s15 s16 s17 s18 s19 s20 s21 s22 s23 s24 j (by omega)
  rw[show ex25 (rndN [s0,s1,s2,s3,s4,s5,s6,s7,s8,s9,s10,s11,s12,s13,s14,s15,s16,s17,s18,s19,s20,s21,s22,s23,s24] j)=rnd [s0,s1,s2,s3,s4,s5,s6,s7,s8,s9,s10,s11,s12,s13,s14,s15,s16,s17,s18,s19,s20,s21,s22,s23,s24] (rcs.getD j 0) from ex25_eq (rnd_length ..)] at h
  simp only[st,e]
  exact body_forget roundC_ok (noTab_ok _) h (by simp)
 ·exact body_forget roundC_ok (noTab_ok _) (end78 rndN _) (by simp)
def ent78(s y:List Int):Lent:=⟨1,lp78,in78 s,[.cells (byL++rcL),.cells (s.map w),.cells zero25],.exit 0,fr78 (.ofNat 24),[.cells (byL++rcL),.cells (y.map w),.cells zero25]⟩
theorem run78(s0 s1 s2 s3 s4 s5 s6 s7 s8 s9 s10 s11 s12 s13 s14 s15 s16 s17 s18 s19 s20 s21 s22 s23 s24 y0 y1 y2 y3 y4 y5 y6 y7 y8 y9 y10 y11 y12 y13 y14 y15 y16 y17 y18 y19 y20 y21 y22 y23 y24:Int) :
  vcall (propL noCon fun _ _=>some (ent78 [s0,s1,s2,s3,s4,s5,s6,s7,s8,s9,s10,s11,s12,s13,s14,s15,s16,s17,s18,s19,s20,s21,s22,s23,s24] [y0,y1,y2,y3,y4,y5,y6,y7,y8,y9,y10,y11,y12,y13,y14,y15,y16,y17,y18,y19,y20,y21,y22,y23,y24])) ops0 (tabOne 64 vf64) 100 vf64 [.ptr 0 0,.agg (([s0,s1,s2,s3,s4,s5,s6,s7,s8,s9,s10,s11,s12,s13,s14,s15,s16,s17,s18,s19,s20,s21,s22,s23,s24]:List Int).map w)] [.cells (byL++rcL)] (fun r H lg=>cutK 1 r H lg=some (.agg (([y0,y1,y2,y3,y4,y5,y6,y7,y8,y9,y10,y11,y12,y13,y14,y15,y16,y17,y18,y19,y20,y21,y22,y23,y24]:List Int).map w),[.cells (byL++rcL)],[])) =
   (1=1∧lp78=lp78∧in78 [s0,s1,s2,s3,s4,s5,s6,s7,s8,s9,s10,s11,s12,s13,s14,s15,s16,s17,s18,s19,s20,s21,s22,s23,s24]=in78 [s0,s1,s2,s3,s4,s5,s6,s7,s8,s9,s10,s11,s12,s13,s14,s15,s16,s17,s18,s19,s20,s21,s22,s23,s24] ∧ [Blk.cells (byL++rcL),.cells (([s0,s1,s2,s3,s4,s5,s6,s7,s8,s9,s10,s11,s12,s13,s14,s15,s16,s17,s18,s19,s20,s21,s22,s23,s24]:List Int).map w),.cells zero25] = [Blk.cells (byL++rcL),.cells (([s0,s1,s2,s3,s4,s5,s6,s7,s8,s9,s10,s11,s12,s13,s14,s15,s16,s17,s18,s19,s20,s21,s22,s23,s24]:List Int).map w),.cells zero25] ∧
    some ((.agg (([y0,y1,y2,y3,y4,y5,y6,y7,y8,y9,y10,y11,y12,y13,y14,y15,y16,y17,y18,y19,y20,y21,y22,y23,y24]:List Int).map w),[.cells (byL++rcL)],[]):Out)=some (.agg (([y0,y1,y2,y3,y4,y5,y6,y7,y8,y9,y10,y11,y12,y13,y14,y15,y16,y17,y18,y19,y20,y21,y22,y23,y24]:List Int).map w),[.cells (byL++rcL)],[])):=by kernel_rfl
theorem rounds78{s:List Int}(hs:s.length=25):CallTo Tryd.prog 64 [.ptr 0 0,.agg (s.map w)] [.cells (byL++rcL)] (.agg ((allF s).map w)) [.cells (byL++rcL)] []:=by
 have hl:=loop78 hs
 have hy:=st_length hs 24
 unfold allF
 generalize st s 24=y at hl hy
 obtain⟨s0,s1,s2,s3,s4,s5,s6,s7,s8,s9,s10,s11,s12,s13,s14,s15,s16,s17,s18,s19,s20,s21,s22,s23,s24,rfl⟩:=list25 hs
 obtain⟨y0,y1,y2,y3,y4,y5,y6,y7,y8,y9,y10,y11,y12,y13,y14,y15,y16,y17,y18,y19,y20,y21,y22,y23,y24,rfl⟩:=list25 hy
 have hE:(ent78 [s0,s1,s2,s3,s4,s5,s6,s7,s8,s9,s10,s11,s12,s13,s14,s15,s16,s17,s18,s19,s20,s21,s22,s23,s24] [y0,y1,y2,y3,y4,y5,y6,y7,y8,y9,y10,y11,y12,y13,y14,y15,y16,y17,y18,y19,y20,y21,y22,y23,y24]).OK Tryd.prog:=LoopTo.pre (Weak.forget (show 1≤3 by decide) mask78) hl
 exact call_loop (noCon_ok _) (E:=fun _ _=>some (ent78 [s0,s1,s2,s3,s4,s5,s6,s7,s8,s9,s10,s11,s12,s13,s14,s15,s16,s17,s18,s19,s20,s21,s22,s23,s24] [y0,y1,y2,y3,y4,y5,y6,y7,y8,y9,y10,y11,y12,y13,y14,y15,y16,y17,y18,y19,y20,y21,y22,y23,y24])) (fun fr H e he=>by cases he;exact hE) (tabOne_ok ok64) (tabOne_self 64 vf64) 1 []
  (Eq.mpr (run78 s0 s1 s2 s3 s4 s5 s6 s7 s8 s9 s10 s11 s12 s13 s14 s15 s16 s17 s18 s19 s20 s21 s22 s23 s24 y0 y1 y2 y3 y4 y5 y6 y7 y8 y9 y10 y11 y12 y13 y14 y15 y16 y17 y18 y19 y20 y21 y22 y23 y24) ⟨rfl,rfl,rfl,rfl,rfl⟩) (by simp) (fun b hb hn=>by simp at hb;subst hb;rfl)
end
end Go.Proofs.Vm

namespace Go.Proofs.Vm
set_option maxRecDepth 100000
open Go.Vm
noncomputable section
def roundsC(F:List Int→List Int):Con:=fun f vals H=>match f,vals with
 | 63,[]=>some (.agg (byL++rcL),H,[])
 | 64,[.ptr b 0,.agg cs]=>match nth H b with
  | some (.cells t)=>match isTab t,toInts .u64 cs with
   | true,some ws=>match Nat.beq (size ws) 25 with
    | true=>some (.agg ((ex25 (F ws)).map w),H,[])
    | false=>none
   | _,_=>none
  | _=>none
 | _,_=>none
theorem roundsC_ok:ConOK Tryd.prog (roundsC allF):=by
 intro f vals H r H' lg h
 unfold roundsC at h
 split at h
 ·cases h
  exact roundC_ok 63 [] H _ H [] rfl
 ·rename_i b cs
  split at h<;>first|cases h|skip
  rename_i t hb
  split at h<;>first|cases h|skip
  rename_i ws ht hw
  split at h<;>cases h
  rename_i hl
  have hl:=Nat.eq_of_beq_eq_true hl
  rw[size_eq] at hl
  have ht:=isTab_ok ht
  subst ht
  have hw:=toInts_ok hw
  subst hw
  rw[nth_eq] at hb
  have h2:=CallTo.look (vals := [.ptr b 0,.agg (ws.map (AV.int .u64))]) (rounds78 hl) hb tab_flat (fun φ=>by
   simp only[renL,ren,pickN,placeIn,Nat.beq_refl]
   rw[renL_flat (flatL_ints _ _)]
   rfl)
  have e:backV [b] H.length (.agg ((allF ws).map w)) = .agg ((allF ws).map w):=by
   simp only[backV,ren]
   exact congrArg AV.agg (renL_flat (flatL_ints .u64 _))
  rw[e] at h2
  rw[allF_ex hl]
  exact h2
 ·cases h
end
end Go.Proofs.Vm

namespace Go.Proofs.Vm
set_option maxRecDepth 100000
open Go.Vm
noncomputable section
structure RF where
 rounds:List AV→List AV
 tbl:List AV
def P78(t xs:List AV):Prop:=t=byL++rcL∧∃ s:List Int,s.length=25∧xs=s.map w
def rf0:RF:=⟨fun xs=>(st (intsA xs) 24).map w,byL++rcL⟩
def cnRf(S:RF):CnF:=fun f vals H=>match f,vals with
 | 64,[.ptr b 0,.agg xs]=>match nth H b with
  | some (.cells t)=>some (P78 t xs,.ok (.agg (S.rounds xs)) H [])
  | _=>none
 | 63,[]=>some (True,.ok (.agg S.tbl) H [])
 | _,_=>none
noncomputable def lpO1:VC:=vp [1,1,0,0,0] vf46.body
def frO1(n:Int)(rate L:Nat):Fr := [.int .i64 n,.int .i64 (Int.ofNat rate),.top,.top,.top,.top,.top,.top,.top,.slc 0 0 L L 1,.top,.top,.top,.top,.top,.top,.top,.top,.top,.top,.top,.top,.top,.top,.top,.top,.top,.top,.top,.top,.top,.top,.top,.top,.top,.top,.top,.top,.top,.top,.top,.top,.top,.top,.top,.top,.top,.top,.top,.top,.top,.top,.top,.top,.top,.top,.top,.top,.top,.top,.top,.top,.top,.top,.top,.top,.top,.top,.top,.top,.top,.top,.top,.top,.top,.top,.top,.top,.top,.top,.top,.top,.top,.top,.top,.top,.top,.top,.top,.top,.top,.top,.top,.top,.top,.top,.top,.top,.top,.top,.top,.top,.top,.top,.top,.top,.top,.top,.top]
def mkO1:List Bool := [false,false,true,true,true,true,true,true,true,false,true,true,true,true,true,true,true,true,true,true,true,true,true,true,true,true,true,true,true,true,true,true,true,true,true,true,true,true,true,true,true,true,true,true,true,true,true,true,true,true,true,true,true,true,true,true,true,true,true,true,true,true,true,true,true,true,true,true,true,true,true,true,true,true,true,true,true,true,true,true,true,true,true,true,true,true,true,true,true,true,true,true,true,true,true,true,true,true,true,true,true,true,true,true,true,true,true,true,true]
def idsO1:Ex→Nat→List Nat
 | .norm,_ => [1]
 | _,_ => [0]
noncomputable def lpO4:VC:=vp [1,1,1,1,1,1,0,1,0,0,1,0,0,0,1,0,0] vf46.body
def frO4(n:Int)(rate L at_ i:Nat):Fr := [.int .i64 n,.int .i64 (Int.ofNat rate),.top,.top,.top,.top,.top,.top,.top,.slc 0 0 L L 1,.ptr 1 0,.ptr 2 0,.int .i64 (Int.ofNat at_),.int .i64 (Int.ofNat i),.top,.top,.top,.top,.top,.top,.top,.top,.top,.top,.top,.top,.top,.top,.top,.top,.top,.top,.top,.top,.top,.top,.top,.top,.top,.top,.top,.top,.top,.top,.top,.top,.top,.top,.top,.top,.top,.top,.top,.top,.top,.top,.top,.top,.top,.top,.top,.top,.top,.top,.top,.top,.top,.top,.top,.top,.top,.top,.top,.top,.top,.top,.top,.top,.top,.top,.top,.top,.top,.top,.top,.top,.top,.top,.top,.top,.top,.top,.top,.top,.top,.top,.top,.top,.top,.top,.top,.top,.top,.top,.top,.top,.top,.top,.top]
def mkO4:List Bool := [false,false,true,true,true,true,true,true,true,false,false,false,false,false,true,true,true,true,true,true,true,true,true,true,true,true,true,true,true,true,true,true,true,true,true,true,true,true,true,true,true,true,true,true,true,true,true,true,true,true,true,true,true,true,true,true,true,true,true,true,true,true,true,true,true,true,true,true,true,true,true,true,true,true,true,true,true,true,true,true,true,true,true,true,true,true,true,true,true,true,true,true,true,true,true,true,true,true,true,true,true,true,true,true,true,true,true,true,true]
noncomputable def lpO2:VC:=vp [1,1,1,1,1,1,0,1,0,0] vf46.body
def frO2(n:Int)(rate L at_:Nat):Fr := [.int .i64 n,.int .i64 (Int.ofNat rate),.top,.top,.top,.top,.top,.top,.top,.slc 0 0 L L 1,.ptr 1 0,.ptr 2 0,.int .i64 (Int.ofNat at_),.top,.top,.top,.top,.top,.top,.top,.top,.top,.top,.top,.top,.top,.top,.top,.top,.top,.top,.top,.top,.top,.top,.top,.top,.top,.top,.top,.top,.top,.top,.top,.top,.top,.top,.top,.top,.top,.top,.top,.top,.top,.top,.top,.top,.top,.top,.top,.top,.top,.top,.top,.top,.top,.top,.top,.top,.top,.top,.top,.top,.top,.top,.top,.top,.top,.top,.top,.top,.top,.top,.top,.top,.top,.top,.top,.top,.top,.top,.top,.top,.top,.top,.top,.top,.top,.top,.top,.top,.top,.top,.top,.top,.top,.top,.top,.top]
def mkO2:List Bool := [false,false,true,true,true,true,true,true,true,false,false,false,false,true,true,true,true,true,true,true,true,true,true,true,true,true,true,true,true,true,true,true,true,true,true,true,true,true,true,true,true,true,true,true,true,true,true,true,true,true,true,true,true,true,true,true,true,true,true,true,true,true,true,true,true,true,true,true,true,true,true,true,true,true,true,true,true,true,true,true,true,true,true,true,true,true,true,true,true,true,true,true,true,true,true,true,true,true,true,true,true,true,true,true,true,true,true,true,true]
def padN(rate L:Nat):Nat:=(rate - L % rate) % rate
def absC(ss ms:List AV)(at_ rate:Nat):List AV:=(addL (intsA ss) 0 (bytesA ((ms.drop at_).take rate))).map w
def lnO4:LnF:=fun n0 b fr H=>match slot fr 0,slot fr 1,slot fr 9,slot fr 12,H with
 | .int .i64 n,.int .i64 (.ofNat rate),.slc 0 0 L _ 1,.int .i64 (.ofNat at_),[.cells ms,.cells tb,.cells ss]=>some (n0=0∧VCis b lpO4∧forget mkO4 fr=frO4 n rate L at_ 0∧rate≤168∧at_+rate≤L∧L<274877906944∧(∃ l:List UInt8,l.length=L∧ms=l.map by8)∧(∃ s:List Int,s.length=25∧ss=s.map w),
   .ok (.exit 4) (frO4 n rate L at_ rate) [.cells ms,.cells tb,.cells (absC ss ms at_ rate)])
 | _,_,_,_,_=>none
theorem vcO1(ms:List AV)(n:Int)(rate L:Nat)(Q:Ex→Fr→Hl→Prop) :
  (vm (vcA kdYes noCn noLn) ops0 noTab 100 0 lpO1 (frO1 n rate L) [.cells ms] [] (bodyE 0 idsO1 mkO1 Q)) =
 ((Chk (ops0.nz (Int.ofNat rate))
 (Br (ops0.cmp .neq (ops0.bin .rem .i64 (ops0.ofn L) (Int.ofNat rate)) (Int.ofNat 0))
 (Chk (ops0.le (ops0.add 0 (ops0.mul L 1)) (ops0.len ms))
 (Chk (ops0.room L 1 1)
 (Q Ex.norm ((.int .i64 n)::(.int .i64 (.ofNat rate))::tp 7 ((.slc 0 0 (ops0.add L 1) (ops0.add L 1) 1)::tp 99 ([]))) [(.cells (renL (pickN [1]) Go.Vm.noView Bool.true (ops0.app (ops0.ext ms 0 (ops0.mul L 1)) [(.int .u8 (.ofNat 0))])))])))
 (Q (Ex.exit 0) ((.int .i64 n)::(.int .i64 (.ofNat rate))::tp 7 ((.slc 0 0 L L 1)::tp 99 ([]))) [(.cells (renL (pickN [0]) Go.Vm.noView Bool.true ms))])))):=by kernel_rfl
theorem vcO4(ms tb ss:List AV)(n:Int)(rate L at_ i:Nat)(Q:Ex→Fr→Hl→Prop) :
  (vm (vcA kdYes noCn noLn) ops0 noTab 100 0 lpO4 (frO4 n rate L at_ i) [.cells ms,.cells tb,.cells ss] [] (bodyX mkO4 Q)) =
 ((Br (ops0.cmp .lss (Int.ofNat i) (Int.ofNat rate))
 (Chk (ops0.inr (ops0.bin .quo .i64 (Int.ofNat i) (Int.ofNat 8)) 25)
 (∃ n1:Int,((Nth ss (ops0.adr 0 (ops0.bin .quo .i64 (Int.ofNat i) (Int.ofNat 8)) 1) (.int .u64 n1)) ∧
 (Chk (ops0.inr (ops0.bin .add .i64 (Int.ofNat at_) (Int.ofNat i)) L)
 (∃ n2:Int,((Nth ms (ops0.adr 0 (ops0.bin .add .i64 (Int.ofNat at_) (Int.ofNat i)) 1) (.int .u8 n2)) ∧
 (Chk (ops0.nn (ops0.bin .mul .i64 (Int.ofNat 8) (ops0.bin .rem .i64 (Int.ofNat i) (Int.ofNat 8))))
 (Chk (ops0.inr (ops0.bin .quo .i64 (Int.ofNat i) (Int.ofNat 8)) 25)
 (Chk (ops0.lt (ops0.adr 0 (ops0.bin .quo .i64 (Int.ofNat i) (Int.ofNat 8)) 1) (ops0.len ss))
 (Q Ex.norm ((.int .i64 n)::(.int .i64 (.ofNat rate))::tp 7 ((.slc 0 0 L L 1)::(.ptr 1 0)::(.ptr 2 0)::(.int .i64 (.ofNat at_))::(.int .i64 (ops0.bin .add .i64 (Int.ofNat i) (Int.ofNat 1)))::tp 95 ([]))) [(.cells ms),(.cells tb),(.cells (ops0.set ss (ops0.adr 0 (ops0.bin .quo .i64 (Int.ofNat i) (Int.ofNat 8)) 1) (.int .u64 (ops0.bin .xor .u64 n1 (ops0.shf .shl .u64 (ops0.cvt .u64 n2) (ops0.bin .mul .i64 (Int.ofNat 8) (ops0.bin .rem .i64 (Int.ofNat i) (Int.ofNat 8))))))))]))))))))))
 (Q (Ex.exit 4) ((.int .i64 n)::(.int .i64 (.ofNat rate))::tp 7 ((.slc 0 0 L L 1)::(.ptr 1 0)::(.ptr 2 0)::(.int .i64 (.ofNat at_))::(.int .i64 (.ofNat i))::tp 95 ([]))) [(.cells ms),(.cells tb),(.cells ss)]))):=by kernel_rfl
theorem vcO2(S:RF)(ms tb ss:List AV)(n:Int)(rate L at_:Nat)(Q:Ex→Fr→Hl→Prop) :
  (vm (vcA kdYes (cnRf S) lnO4) ops0 noTab 100 0 lpO2 (frO2 n rate L at_) [.cells ms,.cells tb,.cells ss] [] (bodyX mkO2 Q)) =
 ((Br (ops0.cmp .lss (Int.ofNat at_) (ops0.ofn L))
 ((((0:Nat)=0) ∧
 ((VCis lpO4 lpO4) ∧
 (((((.int .i64 n)::(.int .i64 (.ofNat rate))::tp 7 ((.slc 0 0 L L 1)::(.ptr 1 0)::(.ptr 2 0)::(.int .i64 (.ofNat at_))::(.int .i64 (.ofNat 0))::tp 95 ([]))):Fr)=((.int .i64 n)::(.int .i64 (.ofNat rate))::tp 7 ((.slc 0 0 L L 1)::(.ptr 1 0)::(.ptr 2 0)::(.int .i64 (.ofNat at_))::(.int .i64 (.ofNat 0))::tp 95 ([])))) ∧
 ((rate≤168) ∧
 (((at_+rate)≤L) ∧
 ((L<274877906944) ∧
 ((∃ l:(List UInt8),((((List.length l):Nat)=L) ∧
 ((ms:(List AV))=(List.map by8 l)))) ∧
 (∃ s:(List Int),((((List.length s):Nat)=25) ∧
 ((ss:(List AV))=(List.map w s))))))))))) ∧
 (Chk (ops0.le 25 (ops0.len (absC ss ms at_ rate)))
 ((P78 tb (ops0.ext (absC ss ms at_ rate) 0 25)) ∧
 (Chk (ops0.eq (ops0.len (RF.rounds S (ops0.ext (absC ss ms at_ rate) 0 25))) 25)
 (Chk (ops0.le 25 (ops0.len (absC ss ms at_ rate)))
 (Q Ex.norm ((.int .i64 n)::(.int .i64 (.ofNat rate))::tp 7 ((.slc 0 0 L L 1)::(.ptr 1 0)::(.ptr 2 0)::(.int .i64 (ops0.bin .add .i64 (Int.ofNat at_) (Int.ofNat rate)))::tp 96 ([]))) [(.cells ms),(.cells tb),(.cells (ops0.spl (absC ss ms at_ rate) 0 (RF.rounds S (ops0.ext (absC ss ms at_ rate) 0 25))))]))))))
 (Q (Ex.exit 2) ((.int .i64 n)::(.int .i64 (.ofNat rate))::tp 7 ((.slc 0 0 L L 1)::(.ptr 1 0)::(.ptr 2 0)::(.int .i64 (.ofNat at_))::tp 96 ([]))) [(.cells ms),(.cells tb),(.cells ss)]))):=by kernel_rfl
theorem cnRf_ok:CnOK Tryd.prog (cnRf rf0):=by
 intro f vals H p x e hp
 unfold cnRf at e
 split at e
 ·rename_i b xs
  split at e<;>cases e
  rename_i t hb
  obtain⟨rfl,s,hs,rfl⟩:=hp
  rw[nth_eq] at hb
  have h2:=CallTo.look (vals := [.ptr b 0,.agg (s.map (AV.int .u64))]) (rounds78 hs) hb tab_flat (fun φ=>by
   simp only[renL,ren,pickN,placeIn,Nat.beq_refl]
   rw[renL_flat (flatL_ints _ _)]
   rfl)
  have e:backV [b] H.length (.agg ((allF s).map w)) = .agg ((allF s).map w):=by
   simp only[backV,ren]
   exact congrArg AV.agg (renL_flat (flatL_ints .u64 _))
  rw[e] at h2
  have e3:RF.rounds rf0 (s.map w)=(allF s).map w:=by
   show(st (intsA (s.map w)) 24).map w=_
   rw[intA_w]; rfl
  show CallTo _ _ _ _ (.agg (RF.rounds rf0 (s.map w))) _ _
  rw[e3]
  exact h2
 ·cases e
  exact roundsC_ok 63 [] H _ H [] rfl
 ·cases e
theorem padN_lt{rate L j:Nat}(hr:1≤rate)(h:j<padN rate L):(L+j) % rate≠0:=by
 have h1:=Nat.mod_lt L (show rate>0 by omega)
 have h2:=Nat.div_add_mod L rate
 unfold padN at h
 by_cases h0:L % rate=0
 ·rw[h0,Nat.sub_zero,Nat.mod_self] at h;omega
 ·rw[Nat.mod_eq_of_lt (by omega)] at h
  rw[show L+j=rate*(L / rate)+(L % rate+j) by omega,Nat.mul_add_mod,Nat.mod_eq_of_lt (by omega)]
  omega
theorem padN_end{rate L:Nat}(hr:1≤rate):(L+padN rate L) % rate=0:=by
 have h1:=Nat.mod_lt L (show rate>0 by omega)
 have h2:=Nat.div_add_mod L rate
 unfold padN
 by_cases h0:L % rate=0
 ·rw[h0,Nat.sub_zero,Nat.mod_self,Nat.add_zero,h0]
 ·rw[Nat.mod_eq_of_lt (a:=rate - L % rate) (by omega),show L+(rate - L % rate)=rate*(L / rate)+rate by omega]
  simp
theorem padN_le{rate L:Nat}(hr:1≤rate):padN rate L<rate:=Nat.mod_lt _ (by omega)
theorem flat_rep(k:Nat):flatL (List.replicate k (by8 0)):=fun a ha=>by
 rw[(List.mem_replicate.1 ha).2]; rfl
theorem loopO1(n:Int)(rate L:Nat)(hr:1≤rate)(hr2:rate≤168)(hL:L<274877906944)(l:List UInt8)(hl:l.length=L) :
  ∀ lg,LoopTo Tryd.prog 0 lpO1 (frO1 n rate L) [.cells (l.map by8)] lg (.exit 0) (frO1 n rate (L+padN rate L)) [.cells (l.map by8++List.replicate (padN rate L) (by8 0))] (List.range 0++lg):=by
 have hpl:=padN_le (rate:=rate) (L:=L) hr
 have h:=loop_chain (P:=Tryd.prog) (n0:=0) (b:=lpO1) (ex := .exit 0) (fr':=frO1 n rate (L+padN rate L)) (H' := [.cells (l.map by8++List.replicate (padN rate L) (by8 0))]) (by intro h;cases h)
  (fun j=>(frO1 n rate (L+j),[.cells (l.map by8++List.replicate j (by8 0))])) (padN rate L) 0 (fun j _ hj => ?_) ?_
 ·simpa using h
 ·have hlen:(l.map by8++List.replicate j (by8 0)).length=L+j:=by simp[hl]
  have key:∀ Q:Ex→Fr→Hl→Prop,Q .norm (frO1 n rate (L+j+1)) [.cells (l.map by8++List.replicate (j+1) (by8 0))] →
    vm (vcA kdYes noCn noLn) ops0 noTab 100 0 lpO1 (frO1 n rate (L+j)) [.cells (l.map by8++List.replicate j (by8 0))] [] (bodyE 0 idsO1 mkO1 Q):=by
   intro Q hQ
   rw[vcO1]
   rw[nOfn,nRem,nNeq,nTimes,nPlus,nPlus,nLe,nLen,nRoom,nExt,nApp,Nat.mul_one,List.drop_zero,List.take_of_length_le (by omega),renL_flat (flatL_append (flatL_append (flat_by8 _) (flat_rep _)) (by intro a ha;simp at ha;rw[ha]; rfl))]
   refine Chk.mk (nNz (by omega)) (Br.t (decide_eq_true (padN_lt hr (by omega))) (Chk.mk (decide_eq_true (by omega)) (Chk.mk (decide_eq_true (by omega)) ?_)))
   rw[List.replicate_succ',←List.append_assoc] at hQ
   exact hQ
  exact body_vc (noCn_ok _) (noLn_ok _) (noTab_ok _) (n:=100) (g:=kdYes) (ids:=idsO1) (bs:=mkO1) (key _ ⟨rfl,rfl,rfl⟩) (by simp)
 ·show BodyTo _ _ _ (frO1 n rate (L+(0+padN rate L))) [.cells (l.map by8++List.replicate (0+padN rate L) (by8 0))] _ _ _
  rw[Nat.zero_add]
  have key:∀ Q:Ex→Fr→Hl→Prop,Q (.exit 0) (frO1 n rate (L+padN rate L)) [.cells (l.map by8++List.replicate (padN rate L) (by8 0))] →
    vm (vcA kdYes noCn noLn) ops0 noTab 100 0 lpO1 (frO1 n rate (L+padN rate L)) [.cells (l.map by8++List.replicate (padN rate L) (by8 0))] [] (bodyE 0 idsO1 mkO1 Q):=by
   intro Q hQ
   rw[vcO1]
   rw[nOfn,nRem,nNeq,padN_end hr,renL_flat (flatL_append (flat_by8 _) (flat_rep _))]
   exact Chk.mk (nNz (by omega)) (Br.f rfl hQ)
  exact body_vc (noCn_ok _) (noLn_ok _) (noTab_ok _) (n:=100) (g:=kdYes) (ids:=idsO1) (bs:=mkO1) (key _ ⟨rfl,rfl,rfl⟩) (by simp)
theorem addL_snoc(s:List Int)(p:Nat)(l:List UInt8){i:Nat}(hi:i<l.length):addL s p (l.take (i+1))=addB (addL s p (l.take i)) (p+i) (l[i]).toNat:=by
 rw[List.take_succ_eq_append_getElem hi,addL_append]
 simp[addL,Nat.min_eq_left (Nat.le_of_lt hi)]
theorem addL_length:∀ {l:List UInt8} {s:List Int} {p:Nat},s.length=25→(addL s p l).length=25
 | [],s,p,h=>h
 | b::l,s,p,h=>addL_length (l:=l) (addB_length h p _)
theorem loopO4(n:Int)(rate L at_:Nat)(hr2:rate≤168)(ha:at_+rate≤L)(hL:L<274877906944)(l:List UInt8)(hl:l.length=L)(tb:List AV)(s:List Int)(hs:s.length=25) :
  ∀ lg,LoopTo Tryd.prog 0 lpO4 (frO4 n rate L at_ 0) [.cells (l.map by8),.cells tb,.cells (s.map w)] lg (.exit 4) (frO4 n rate L at_ rate) [.cells (l.map by8),.cells tb,.cells ((addL s 0 ((l.drop at_).take rate)).map w)] (List.range 0++lg):=by
 have hdl:((l.drop at_).take rate).length=rate:=by simp;omega
 have h:=loop_chain (P:=Tryd.prog) (n0:=0) (b:=lpO4) (ex := .exit 4) (fr':=frO4 n rate L at_ rate) (H' := [.cells (l.map by8),.cells tb,.cells ((addL s 0 ((l.drop at_).take rate)).map w)]) (by intro h;cases h)
  (fun i=>(frO4 n rate L at_ i,[.cells (l.map by8),.cells tb,.cells ((addL s 0 (((l.drop at_).take rate).take i)).map w)])) rate 0 (fun i _ hi => ?_) ?_
 ·simpa[addL] using h
 ·have hi':i<rate:=by omega
  have hy:=addL_length (l:=((l.drop at_).take rate).take i) (p:=0) hs
  have hx:(l.map by8)[at_+i]? = some (by8 (((l.drop at_).take rate)[i]'(by omega))):=by
   have hb:BytesAt (l.map by8) 0 L l:=⟨hl,by simp[hl,List.take_of_length_le]⟩
   have:=hb.get (j:=at_+i) (by omega)
   rw[Nat.zero_add] at this
   rw[this]
   congr 2
   simp
  have hbl:(((l.drop at_).take rate)[i]'(by omega)).toNat<256:=UInt8.toNat_lt _
  have key:∀ Q:Ex→Fr→Hl→Prop,Q .norm (frO4 n rate L at_ (i+1)) [.cells (l.map by8),.cells tb,.cells ((addL s 0 (((l.drop at_).take rate).take (i+1))).map w)] →
    vm (vcA kdYes noCn noLn) ops0 noTab 100 0 lpO4 (frO4 n rate L at_ i) [.cells (l.map by8),.cells tb,.cells ((addL s 0 (((l.drop at_).take rate).take i)).map w)] [] (bodyX mkO4 Q):=by
   intro Q hQ
   rw[addL_snoc s 0 _ (by omega),Nat.zero_add] at hQ
   rw[vcO4]
   generalize addL s 0 (((l.drop at_).take rate).take i)=y at hy hQ ⊢
   have wa:=words_at (s:=y) [] (i:=i / 8) (by omega)
   have ws:=fun x=>words_set (s:=y) [] (i:=i / 8) (by omega) x
   simp only[List.append_nil] at wa ws
   rw[nAdd (a:=i) (b:=1) (by omega)]
   simp (disch:=omega) only[nLss,nQuo,nInr,nAdr,nAdd,nNn,nMul,nRem,nLt,nLen,nSet,Nat.zero_add,Nat.mul_one]
   refine Br.t (decide_eq_true hi') (Chk.mk (decide_eq_true (by omega)) ⟨_,Nth.mk wa,Chk.mk (decide_eq_true (by omega)) ⟨_,Nth.mk hx,Chk.mk rfl (Chk.mk (decide_eq_true (by omega)) (Chk.mk (decide_eq_true (by simp;omega)) ?_))⟩⟩)
   rw[nC64 (by omega),ws]
   exact hQ
  exact body_x (noCn_ok _) (noLn_ok _) (noTab_ok _) (n:=100) (g:=kdYes) (bs:=mkO4) (key _ ⟨rfl,rfl,rfl⟩) (by simp)
 ·show BodyTo _ _ _ (frO4 n rate L at_ (0+rate)) [.cells (l.map by8),.cells tb,.cells ((addL s 0 (((l.drop at_).take rate).take (0+rate))).map w)] _ _ _
  rw[Nat.zero_add,List.take_of_length_le (by omega)]
  refine body_x (noCn_ok _) (noLn_ok _) (noTab_ok _) (n:=100) (g:=kdYes) (bs:=mkO4) ?_ (by simp)
  rw[vcO4]
  exact Br.f (by rw[nLss]; exact decide_eq_false (by omega)) ⟨rfl,rfl,rfl⟩
theorem absC_eq{s:List Int}{l:List UInt8}{at_ rate:Nat}:absC (s.map w) (l.map by8) at_ rate=(addL s 0 ((l.drop at_).take rate)).map w:=by
 unfold absC
 rw[intA_w,←List.map_drop,←List.map_take,bytesA_by8]
theorem lnO4_ok:LnOK Tryd.prog lnO4:=by
 intro n0 b fr H p x e hn hp lg
 unfold lnO4 at e
 split at e<;>cases e
 rename_i n rate L cap at_ ms tb ss h1 h2 h3 h4
 obtain⟨rfl,hb,hf,r1,r2,r3,⟨l,hl,rfl⟩,s,hs,rfl⟩:=hp
 have hb:b=lpO4:=hb
 subst hb
 show LoopTo _ _ _ _ _ _ _ _ [.cells (l.map by8),.cells tb,.cells (absC (s.map w) (l.map by8) at_ rate)] _
 rw[absC_eq]
 refine LoopTo.pre (Weak.forget (by simp) mkO4) ?_ lg
 rw[hf]
 exact loopO4 n rate L at_ r1 r2 r3 l hl tb s hs
theorem blocks_snoc(rate:Nat):∀ (k:Nat) (s:List Int) (l:List UInt8),blocks rate (k+1) s l=st (addL (blocks rate k s l) 0 ((l.drop (k*rate)).take rate)) 24
 | 0,s,l=>by simp[blocks]
 | k+1,s,l=>by
  show blocks rate (k+1) (st (addL s 0 (l.take rate)) 24) (l.drop rate)=_
  rw[blocks_snoc rate k,List.drop_drop,show rate+k*rate=(k+1)*rate by rw[Nat.add_mul]; omega]
  rfl
theorem blocks_length(rate:Nat):∀ (k:Nat) {s:List Int} {l:List UInt8},s.length=25→(blocks rate k s l).length=25
 | 0,s,l,h=>h
 | k+1,s,l,h=>blocks_length rate k (st_length (addL_length h) 24)
theorem loopO2(n:Int)(rate K:Nat)(hr:1≤rate)(hr2:rate≤168)(hL:K*rate<274877906944)(l:List UInt8)(hl:l.length=K*rate)(s:List Int)(hs:s.length=25) :
  ∀ lg,LoopTo Tryd.prog 0 lpO2 (frO2 n rate (K*rate) 0) [.cells (l.map by8),.cells (byL++rcL),.cells (s.map w)] lg (.exit 2) (frO2 n rate (K*rate) (K*rate)) [.cells (l.map by8),.cells (byL++rcL),.cells ((blocks rate K s l).map w)] (List.range 0++lg):=by
 have h:=loop_chain (P:=Tryd.prog) (n0:=0) (b:=lpO2) (ex := .exit 2) (fr':=frO2 n rate (K*rate) (K*rate)) (H' := [.cells (l.map by8),.cells (byL++rcL),.cells ((blocks rate K s l).map w)]) (by intro h;cases h)
  (fun k=>(frO2 n rate (K*rate) (k*rate),[.cells (l.map by8),.cells (byL++rcL),.cells ((blocks rate k s l).map w)])) K 0 (fun k _ hk => ?_) ?_
 ·simpa[blocks] using h
 ·have hk':k+1≤K:=by omega
  have hm:(k+1)*rate≤K*rate:=Nat.mul_le_mul_right _ hk'
  have hm2:(k+1)*rate=k*rate+rate:=by rw[Nat.add_mul]; omega
  have hy:=blocks_length rate k (l:=l) hs
  have key:∀ Q:Ex→Fr→Hl→Prop,Q .norm (frO2 n rate (K*rate) ((k+1)*rate)) [.cells (l.map by8),.cells (byL++rcL),.cells ((blocks rate (k+1) s l).map w)] →
    vm (vcA kdYes (cnRf rf0) lnO4) ops0 noTab 100 0 lpO2 (frO2 n rate (K*rate) (k*rate)) [.cells (l.map by8),.cells (byL++rcL),.cells ((blocks rate k s l).map w)] [] (bodyX mkO2 Q):=by
   intro Q hQ
   rw[blocks_snoc,hm2] at hQ
   rw[vcO2]
   generalize blocks rate k s l=y at hy hQ ⊢
   have hz:(addL y 0 ((l.drop (k*rate)).take rate)).length=25:=addL_length hy
   have hz2:=st_length hz 24
   rw[absC_eq]
   generalize addL y 0 ((l.drop (k*rate)).take rate)=z at hz hz2 hQ ⊢
   have e3:RF.rounds rf0 (ops0.ext (z.map w) 0 25)=(st z 24).map w:=by
    rw[nExt,List.drop_zero,List.take_of_length_le (by simp[hz])]
    show(st (intsA (z.map w)) 24).map w=_
    rw[intA_w]
   have e4:ops0.spl (z.map w) 0 ((st z 24).map w)=(st z 24).map w:=by
    rw[nSpl,List.take_zero,List.nil_append,Nat.zero_add,List.drop_of_length_le (by simp[hz,hz2]),List.append_nil]
   rw[e3,e4,nAdd (a:=k*rate) (b:=rate) (by omega)]
   simp only[nLss,nOfn,nLe,nLen,nEq,nExt]
   refine Br.t (decide_eq_true (by omega)) ⟨⟨trivial,rfl,trivial,hr2,by omega,hL,⟨l,hl,rfl⟩,y,hy,rfl⟩,Chk.mk (decide_eq_true (by simp[hz])) ⟨⟨rfl,z,hz,by rw[List.drop_zero,List.take_of_length_le (by simp[hz])]⟩,Chk.mk (decide_eq_true (by simp[hz2])) (Chk.mk (decide_eq_true (by simp[hz])) hQ)⟩⟩
  exact body_x cnRf_ok lnO4_ok (noTab_ok _) (n:=100) (g:=kdYes) (bs:=mkO2) (key _ ⟨rfl,rfl,rfl⟩) (by simp)
 ·show BodyTo _ _ _ (frO2 n rate (K*rate) ((0+K)*rate)) [.cells (l.map by8),.cells (byL++rcL),.cells ((blocks rate (0+K) s l).map w)] _ _ _
  rw[Nat.zero_add]
  refine body_x cnRf_ok lnO4_ok (noTab_ok _) (n:=100) (g:=kdYes) (bs:=mkO2) ?_ (by simp)
  rw[vcO2]
  exact Br.f (by rw[nOfn,nLss]; exact decide_eq_false (by omega)) ⟨rfl,rfl,rfl⟩
end
end Go.Proofs.Vm

namespace Go.Proofs.Vm
set_option maxRecDepth 100000
open Go.Vm
noncomputable section
noncomputable def lpO8:VC:=vp [1,1,1,1,1,1,1,1,0,0,0,1,0,1,1,0,0] vf46.body
def frO8(n rate L k i:Nat):Fr := [.int .i64 (Int.ofNat n),.int .i64 (Int.ofNat rate),.top,.top,.top,.top,.top,.top,.top,.top,.ptr 1 0,.ptr 2 0,.top,.top,.slc 3 0 k k 1,.int .i64 (Int.ofNat i),.top,.top,.top,.top,.top,.top,.top,.top,.top,.top,.top,.top,.top,.top,.top,.top,.top,.top,.top,.top,.top,.top,.top,.top,.top,.top,.top,.top,.top,.top,.top,.top,.top,.top,.top,.top,.top,.top,.top,.top,.top,.top,.top,.top,.top,.top,.top,.top,.top,.top,.top,.top,.top,.top,.top,.top,.top,.top,.top,.top,.top,.top,.top,.top,.top,.top,.top,.top,.top,.top,.top,.top,.top,.top,.top,.top,.top,.top,.top,.top,.top,.top,.top,.top,.top,.top,.top,.top,.top,.top,.top,.top,.top]
def mkO8:List Bool := [false,false,true,true,true,true,true,true,true,true,false,false,true,true,false,false,true,true,true,true,true,true,true,true,true,true,true,true,true,true,true,true,true,true,true,true,true,true,true,true,true,true,true,true,true,true,true,true,true,true,true,true,true,true,true,true,true,true,true,true,true,true,true,true,true,true,true,true,true,true,true,true,true,true,true,true,true,true,true,true,true,true,true,true,true,true,true,true,true,true,true,true,true,true,true,true,true,true,true,true,true,true,true,true,true,true,true,true,true]
def idsO8:Ex→Nat→List Nat
 | .norm,_ => [0,1,2,4]
 | _,_ => [0,1,2,3]
noncomputable def lpO6:VC:=vp [1,1,1,1,1,1,1,1,0,0,0] vf46.body
def frO6(n rate k:Nat):Fr := [.int .i64 (Int.ofNat n),.int .i64 (Int.ofNat rate),.top,.top,.top,.top,.top,.top,.top,.top,.ptr 1 0,.ptr 2 0,.top,.top,.slc 3 0 k k 1,.top,.top,.top,.top,.top,.top,.top,.top,.top,.top,.top,.top,.top,.top,.top,.top,.top,.top,.top,.top,.top,.top,.top,.top,.top,.top,.top,.top,.top,.top,.top,.top,.top,.top,.top,.top,.top,.top,.top,.top,.top,.top,.top,.top,.top,.top,.top,.top,.top,.top,.top,.top,.top,.top,.top,.top,.top,.top,.top,.top,.top,.top,.top,.top,.top,.top,.top,.top,.top,.top,.top,.top,.top,.top,.top,.top,.top,.top,.top,.top,.top,.top,.top,.top,.top,.top,.top,.top,.top,.top,.top,.top,.top,.top]
def mkO6:List Bool := [false,false,true,true,true,true,true,true,true,true,false,false,true,true,false,true,true,true,true,true,true,true,true,true,true,true,true,true,true,true,true,true,true,true,true,true,true,true,true,true,true,true,true,true,true,true,true,true,true,true,true,true,true,true,true,true,true,true,true,true,true,true,true,true,true,true,true,true,true,true,true,true,true,true,true,true,true,true,true,true,true,true,true,true,true,true,true,true,true,true,true,true,true,true,true,true,true,true,true,true,true,true,true,true,true,true,true,true,true]
def outC(ss:List AV)(rate m:Nat):List AV:=(letL rate m (intsA ss,0)).map by8
def lnO8:LnF:=fun n0 b fr H=>match slot fr 0,slot fr 1,slot fr 14,H with
 | .int .i64 (.ofNat n),.int .i64 (.ofNat rate),.slc 3 0 k _ 1,[.cells ms,.cells tb,.cells ss,.cells os]=>some (n0=0∧VCis b lpO8∧forget mkO8 fr=frO8 n rate 0 k 0∧rate≤168∧k<n∧n<274877906944∧flatL ms∧flatL tb∧(∃ l:List UInt8,l.length=k∧os=l.map by8)∧(∃ s:List Int,s.length=25∧ss=s.map w),
   .ok (.exit 8) (frO8 n rate 0 (k+min rate (n - k)) (min rate (n - k))) [.cells ms,.cells tb,.cells ss,.cells (os++outC ss rate (min rate (n - k)))])
 | _,_,_,_=>none
theorem vcO8(ms tb ss os:List AV)(n rate L k i:Nat)(Q:Ex→Fr→Hl→Prop) :
  (vm (vcA kdYes noCn noLn) ops0 noTab 100 0 lpO8 (frO8 n rate L k i) [.cells ms,.cells tb,.cells ss,.cells os] [] (bodyE 0 idsO8 mkO8 Q)) =
 ((Br (ops0.cmp .lss (Int.ofNat i) (Int.ofNat rate))
 (Br (ops0.cmp .lss (ops0.ofn k) (Int.ofNat n))
 (Chk (ops0.inr (ops0.bin .quo .i64 (Int.ofNat i) (Int.ofNat 8)) 25)
 (∃ n1:Int,((Nth ss (ops0.adr 0 (ops0.bin .quo .i64 (Int.ofNat i) (Int.ofNat 8)) 1) (.int .u64 n1)) ∧
 (Chk (ops0.nn (ops0.bin .mul .i64 (Int.ofNat 8) (ops0.bin .rem .i64 (Int.ofNat i) (Int.ofNat 8))))
 (Chk (ops0.le (ops0.add 0 (ops0.mul k 1)) (ops0.len os))
 (Chk (ops0.room k 1 1)
 (Q Ex.norm ((.int .i64 (.ofNat n))::(.int .i64 (.ofNat rate))::tp 8 ((.ptr 1 0)::(.ptr 2 0)::tp 2 ((.slc 3 0 (ops0.add k 1) (ops0.add k 1) 1)::(.int .i64 (ops0.bin .add .i64 (Int.ofNat i) (Int.ofNat 1)))::tp 93 ([])))) [(.cells (renL (pickN [0,1,2,4]) Go.Vm.noView Bool.true ms)),(.cells (renL (pickN [0,1,2,4]) Go.Vm.noView Bool.true tb)),(.cells (renL (pickN [0,1,2,4]) Go.Vm.noView Bool.true ss)),(.cells (renL (pickN [0,1,2,4]) Go.Vm.noView Bool.true (ops0.app (ops0.ext os 0 (ops0.mul k 1)) [(.int .u8 (ops0.cvt .u8 (ops0.shf .shr .u64 n1 (ops0.bin .mul .i64 (Int.ofNat 8) (ops0.bin .rem .i64 (Int.ofNat i) (Int.ofNat 8))))))])))])))))))
 (Q (Ex.exit 8) ((.int .i64 (.ofNat n))::(.int .i64 (.ofNat rate))::tp 8 ((.ptr 1 0)::(.ptr 2 0)::tp 2 ((.slc 3 0 k k 1)::(.int .i64 (.ofNat i))::tp 93 ([])))) [(.cells (renL (pickN [0,1,2,3]) Go.Vm.noView Bool.true ms)),(.cells (renL (pickN [0,1,2,3]) Go.Vm.noView Bool.true tb)),(.cells (renL (pickN [0,1,2,3]) Go.Vm.noView Bool.true ss)),(.cells (renL (pickN [0,1,2,3]) Go.Vm.noView Bool.true os))]))
 (Q (Ex.exit 8) ((.int .i64 (.ofNat n))::(.int .i64 (.ofNat rate))::tp 8 ((.ptr 1 0)::(.ptr 2 0)::tp 2 ((.slc 3 0 k k 1)::(.int .i64 (.ofNat i))::tp 93 ([])))) [(.cells (renL (pickN [0,1,2,3]) Go.Vm.noView Bool.true ms)),(.cells (renL (pickN [0,1,2,3]) Go.Vm.noView Bool.true tb)),(.cells (renL (pickN [0,1,2,3]) Go.Vm.noView Bool.true ss)),(.cells (renL (pickN [0,1,2,3]) Go.Vm.noView Bool.true os))]))):=by kernel_rfl
theorem vcO6(S:RF)(ms tb ss os:List AV)(n rate k:Nat)(Q:Ex→Fr→Hl→Prop) :
  (vm (vcA kdYes (cnRf S) lnO8) ops0 noTab 100 0 lpO6 (frO6 n rate k) [.cells ms,.cells tb,.cells ss,.cells os] [] (bodyX mkO6 Q)) =
 ((Br (ops0.cmp .lss (ops0.ofn k) (Int.ofNat n))
 (Br (ops0.cmp .gtr (ops0.ofn k) (Int.ofNat 0))
 (Chk (ops0.le 25 (ops0.len ss))
 ((P78 tb (ops0.ext ss 0 25)) ∧
 (Chk (ops0.eq (ops0.len (RF.rounds S (ops0.ext ss 0 25))) 25)
 (Chk (ops0.le 25 (ops0.len ss))
 ((((0:Nat)=0) ∧
 ((VCis lpO8 lpO8) ∧
 (((((.int .i64 (.ofNat n))::(.int .i64 (.ofNat rate))::tp 8 ((.ptr 1 0)::(.ptr 2 0)::tp 2 ((.slc 3 0 k k 1)::(.int .i64 (.ofNat 0))::tp 93 ([])))):Fr)=((.int .i64 (.ofNat n))::(.int .i64 (.ofNat rate))::tp 8 ((.ptr 1 0)::(.ptr 2 0)::tp 2 ((.slc 3 0 k k 1)::(.int .i64 (.ofNat 0))::tp 93 ([]))))) ∧
 ((rate≤168) ∧
 ((k<n) ∧
 ((n<274877906944) ∧
 ((flatL ms) ∧
 ((flatL tb) ∧
 ((∃ l:(List UInt8),((((List.length l):Nat)=k) ∧
 ((os:(List AV))=(List.map by8 l)))) ∧
 (∃ s:(List Int),((((List.length s):Nat)=25) ∧
 (((ops0.spl ss 0 (RF.rounds S (ops0.ext ss 0 25))):(List AV))=(List.map w s))))))))))))) ∧
 (Q Ex.norm ((.int .i64 (.ofNat n))::(.int .i64 (.ofNat rate))::tp 8 ((.ptr 1 0)::(.ptr 2 0)::tp 2 ((.slc 3 0 (k+(Min.min rate (n - k))) (k+(Min.min rate (n - k))) 1)::tp 94 ([])))) [(.cells ms),(.cells tb),(.cells (ops0.spl ss 0 (RF.rounds S (ops0.ext ss 0 25)))),(.cells (os++(outC (ops0.spl ss 0 (RF.rounds S (ops0.ext ss 0 25))) rate (Min.min rate (n - k)))))]))))))
 ((((0:Nat)=0) ∧
 ((VCis lpO8 lpO8) ∧
 (((((.int .i64 (.ofNat n))::(.int .i64 (.ofNat rate))::tp 8 ((.ptr 1 0)::(.ptr 2 0)::tp 2 ((.slc 3 0 k k 1)::(.int .i64 (.ofNat 0))::tp 93 ([])))):Fr)=((.int .i64 (.ofNat n))::(.int .i64 (.ofNat rate))::tp 8 ((.ptr 1 0)::(.ptr 2 0)::tp 2 ((.slc 3 0 k k 1)::(.int .i64 (.ofNat 0))::tp 93 ([]))))) ∧
 ((rate≤168) ∧
 ((k<n) ∧
 ((n<274877906944) ∧
 ((flatL ms) ∧
 ((flatL tb) ∧
 ((∃ l:(List UInt8),((((List.length l):Nat)=k) ∧
 ((os:(List AV))=(List.map by8 l)))) ∧
 (∃ s:(List Int),((((List.length s):Nat)=25) ∧
 ((ss:(List AV))=(List.map w s))))))))))))) ∧
 (Q Ex.norm ((.int .i64 (.ofNat n))::(.int .i64 (.ofNat rate))::tp 8 ((.ptr 1 0)::(.ptr 2 0)::tp 2 ((.slc 3 0 (k+(Min.min rate (n - k))) (k+(Min.min rate (n - k))) 1)::tp 94 ([])))) [(.cells ms),(.cells tb),(.cells ss),(.cells (os++(outC ss rate (Min.min rate (n - k)))))])))
 (Q (Ex.exit 6) ((.int .i64 (.ofNat n))::(.int .i64 (.ofNat rate))::tp 8 ((.ptr 1 0)::(.ptr 2 0)::tp 2 ((.slc 3 0 k k 1)::tp 94 ([])))) [(.cells ms),(.cells tb),(.cells ss),(.cells os)]))):=by kernel_rfl
theorem ltN_lo{rate:Nat}{s:List Int}:∀ {i:Nat},i≤rate→ltN rate i (s,0)=(s,i)
 | 0,_=>rfl
 | i+1,h=>by
  rw[ltN_succ,ltN_lo (by omega)]
  unfold lt1
  rw[if_neg (by show ¬ i=rate;omega)]
theorem lt_hi{rate:Nat}(hr:1≤rate)(s:List Int):lt1 rate (s,rate)=lt1 rate (st s 24,0)∧lt0 rate (s,rate)=lt0 rate (st s 24,0):=by
 unfold lt1 lt0
 rw[if_pos rfl,if_neg (by show ¬ 0=rate;omega),if_pos rfl,if_neg (by show ¬ 0=rate;omega)]
 exact⟨rfl,rfl⟩
theorem ltN_hi{rate:Nat}(hr:1≤rate)(s:List Int){m:Nat}(hm:1≤m):ltN rate m (s,rate)=ltN rate m (st s 24,0):=by
 obtain⟨m,rfl⟩:∃ k,m=k+1:=⟨m - 1,by omega⟩
 show ltN rate m (lt1 rate (s,rate))=ltN rate m (lt1 rate (st s 24,0))
 rw[(lt_hi hr s).1]
theorem letL_hi{rate:Nat}(hr:1≤rate)(s:List Int):∀ m,letL rate m (s,rate)=letL rate m (st s 24,0)
 | 0=>rfl
 | m+1=>by
  show lt0 rate (s,rate)::letL rate m (lt1 rate (s,rate))=lt0 rate (st s 24,0)::letL rate m (lt1 rate (st s 24,0))
  rw[(lt_hi hr s).1,(lt_hi hr s).2]
theorem ltN_add(rate:Nat):∀ (a b:Nat) (x:List Int × Nat),ltN rate (a+b) x=ltN rate b (ltN rate a x)
 | 0,b,x=>by rw[Nat.zero_add]; rfl
 | a+1,b,x=>by
  rw[show a+1+b=(a+b)+1 by omega]
  show ltN rate (a+b) (lt1 rate x)=_
  rw[ltN_add rate a b]
  rfl
theorem letL_add(rate:Nat):∀ (a b:Nat) (x:List Int × Nat),letL rate (a+b) x=letL rate a x++letL rate b (ltN rate a x)
 | 0,b,x=>by rw[Nat.zero_add]; rfl
 | a+1,b,x=>by
  rw[show a+1+b=(a+b)+1 by omega]
  show lt0 rate x::letL rate (a+b) (lt1 rate x)=_
  rw[letL_add rate a b]
  rfl
theorem ltN_blk{rate:Nat}(hr:1≤rate){s:List Int}(hs:s.length=25):∀ j:Nat,∃ t:List Int,t.length=25∧ltN rate (j*rate) (s,0)=(t,if j=0 then 0 else rate)∧(j=0→t=s)
 | 0=>⟨s,hs,by rw[Nat.zero_mul]; rfl,fun _=>rfl⟩
 | j+1=>by
  obtain⟨t,ht,e,_⟩:=ltN_blk hr hs j
  rw[show(j+1)*rate=j*rate+rate by rw[Nat.add_mul]; omega,ltN_add,e]
  by_cases hj:j=0
  ·rw[if_pos hj,ltN_lo (Nat.le_refl _)]
   exact⟨t,ht,rfl,fun h=>by omega⟩
  ·rw[if_neg hj,ltN_hi hr t hr,ltN_lo (Nat.le_refl _)]
   exact⟨_,st_length ht 24,rfl,fun h=>by omega⟩
theorem loopO8(n rate k:Nat)(hr2:rate≤168)(hk:k<n)(hn:n<274877906944)(ms tb:List AV)(hms:flatL ms)(htb:flatL tb)(l:List UInt8)(hl:l.length=k)(s:List Int)(hs:s.length=25) :
  ∀ lg,LoopTo Tryd.prog 0 lpO8 (frO8 n rate 0 k 0) [.cells ms,.cells tb,.cells (s.map w),.cells (l.map by8)] lg (.exit 8) (frO8 n rate 0 (k+min rate (n - k)) (min rate (n - k)))
   [.cells ms,.cells tb,.cells (s.map w),.cells (l.map by8++(letL rate (min rate (n - k)) (s,0)).map by8)] (List.range 0++lg):=by
 have hsf:flatL (s.map w):=flatL_ints _ _
 have h:=loop_chain (P:=Tryd.prog) (n0:=0) (b:=lpO8) (ex := .exit 8) (fr':=frO8 n rate 0 (k+min rate (n - k)) (min rate (n - k))) (H' := [.cells ms,.cells tb,.cells (s.map w),.cells (l.map by8++(letL rate (min rate (n - k)) (s,0)).map by8)]) (by intro h;cases h)
  (fun i=>(frO8 n rate 0 (k+i) i,[.cells ms,.cells tb,.cells (s.map w),.cells (l.map by8++(letL rate i (s,0)).map by8)])) (min rate (n - k)) 0 (fun i _ hi => ?_) ?_
 ·simpa[letL] using h
 ·have hi1:i<rate:=by omega
  have hi2:k+i<n:=by omega
  have hlen:(l.map by8++(letL rate i (s,0)).map by8).length=k+i:=by simp[hl,letL_length]
  have key:∀ Q:Ex→Fr→Hl→Prop,Q .norm (frO8 n rate 0 (k+(i+1)) (i+1)) [.cells ms,.cells tb,.cells (s.map w),.cells (l.map by8++(letL rate (i+1) (s,0)).map by8)] →
    vm (vcA kdYes noCn noLn) ops0 noTab 100 0 lpO8 (frO8 n rate 0 (k+i) i) [.cells ms,.cells tb,.cells (s.map w),.cells (l.map by8++(letL rate i (s,0)).map by8)] [] (bodyE 0 idsO8 mkO8 Q):=by
   intro Q hQ
   have e0:lt0 rate (ltN rate i (s,0))=UInt8.ofNat (outB s i).toNat:=by
    rw[ltN_lo (by omega)]
    unfold lt0
    rw[if_neg (by show ¬ i=rate;omega)]
   rw[letL_snoc,e0,List.map_append,←List.append_assoc] at hQ
   rw[vcO8]
   have wa:=words_at (s:=s) [] (i:=i / 8) (by omega)
   simp only[List.append_nil] at wa
   have hof:=by8_out s i
   rw[nAdd (a:=i) (b:=1) (by omega)]
   simp (disch:=omega) only[nLss,nOfn,nQuo,nInr,nAdr,nNn,nMul,nRem,nLe,nLen,nRoom,nPlus,nTimes,nExt,nApp,Nat.zero_add,Nat.mul_one,List.drop_zero]
   refine Br.t (decide_eq_true hi1) (Br.t (decide_eq_true hi2) (Chk.mk (decide_eq_true (by omega)) ⟨_,Nth.mk wa,Chk.mk rfl (Chk.mk (decide_eq_true (by omega)) (Chk.mk (decide_eq_true (by omega)) ?_))⟩))
   have e:AV.int IntKind.u8 (ops0.cvt IntKind.u8 (ops0.shf BinOp.shr IntKind.u64 (s.getD (i / 8) 0) (Int.ofNat (8*(i % 8)))))=by8 (UInt8.ofNat (outB s i).toNat):=by8_out s i
   rw[e,List.take_of_length_le (by omega),renL_flat hms,renL_flat htb,renL_flat hsf,renL_flat (flatL_append (flatL_append (flat_by8 _) (flat_by8 _)) (by intro a ha;simp at ha;rw[ha]; rfl))]
   exact hQ
  exact body_vc (noCn_ok _) (noLn_ok _) (noTab_ok _) (n:=100) (g:=kdYes) (ids:=idsO8) (bs:=mkO8) (key _ ⟨rfl,rfl,rfl⟩) (by simp)
 ·show BodyTo _ _ _ (frO8 n rate 0 (k+(0+min rate (n - k))) (0+min rate (n - k))) [.cells ms,.cells tb,.cells (s.map w),.cells (l.map by8++(letL rate (0+min rate (n - k)) (s,0)).map by8)] _ _ _
  rw[Nat.zero_add]
  have key:∀ (m:Nat) (os:List AV),flatL os→m=min rate (n - k)→∀ Q:Ex→Fr→Hl→Prop,Q (.exit 8) (frO8 n rate 0 (k+m) m) [.cells ms,.cells tb,.cells (s.map w),.cells os] →
    vm (vcA kdYes noCn noLn) ops0 noTab 100 0 lpO8 (frO8 n rate 0 (k+m) m) [.cells ms,.cells tb,.cells (s.map w),.cells os] [] (bodyE 0 idsO8 mkO8 Q):=by
   intro m os hos hm Q hQ
   rw[vcO8,nLss,nOfn,nLss]
   rw[renL_flat hms (σ:=pickN [0,1,2,3]),renL_flat htb (σ:=pickN [0,1,2,3]),renL_flat hsf (σ:=pickN [0,1,2,3]),renL_flat hos]
   by_cases h:m<rate
   ·exact Br.t (decide_eq_true h) (Br.f (decide_eq_false (by omega)) hQ)
   ·exact Br.f (decide_eq_false h) hQ
  exact body_vc (noCn_ok _) (noLn_ok _) (noTab_ok _) (n:=100) (g:=kdYes) (ids:=idsO8) (bs:=mkO8) (key _ _ (flatL_append (flat_by8 _) (flat_by8 _)) rfl _ ⟨rfl,rfl,rfl⟩) (by simp)
theorem outC_eq(s:List Int)(rate m:Nat):outC (s.map w) rate m=(letL rate m (s,0)).map by8:=by
 unfold outC
 rw[intA_w]
theorem lnO8_ok:LnOK Tryd.prog lnO8:=by
 intro n0 b fr H p x e hn hp lg
 unfold lnO8 at e
 split at e<;>cases e
 rename_i n rate k cap ms tb ss os h1 h2 h3
 obtain⟨rfl,hb,hf,r1,r2,r3,r4,r5,⟨l,hl,rfl⟩,s,hs,rfl⟩:=hp
 have hb:b=lpO8:=hb
 subst hb
 show LoopTo _ _ _ _ _ _ _ _ [.cells ms,.cells tb,.cells (s.map w),.cells (l.map by8++outC (s.map w) rate (min rate (n - k)))] _
 rw[outC_eq]
 refine LoopTo.pre (Weak.forget (by simp) mkO8) ?_ lg
 rw[hf]
 exact loopO8 n rate k r1 r2 r3 ms tb r4 r5 l hl s hs
theorem loopO6(n rate:Nat)(hr:1≤rate)(hr2:rate≤168)(hn:n<274877906944)(ms:List AV)(hms:flatL ms)(s:List Int)(hs:s.length=25) :
  ∀ lg,LoopTo Tryd.prog 0 lpO6 (frO6 n rate 0) [.cells ms,.cells (byL++rcL),.cells (s.map w),.cells []] lg (.exit 6) (frO6 n rate n)
   [.cells ms,.cells (byL++rcL),.cells ((ltN rate n (s,0)).1.map w),.cells ((letL rate n (s,0)).map by8)] (List.range 0++lg):=by
 have hd:∀ j,j<(n+rate - 1) / rate→j*rate<n:=by
  intro j hj
  have h1:(j+1)*rate≤(n+rate - 1) / rate*rate:=Nat.mul_le_mul_right _ hj
  have h2:=Nat.div_mul_le_self (n+rate - 1) rate
  rw[Nat.add_mul] at h1
  omega
 have hd2:n≤(n+rate - 1) / rate*rate:=by
  have h1:=Nat.div_add_mod (n+rate - 1) rate
  have h2:=Nat.mod_lt (n+rate - 1) (show rate>0 by omega)
  rw[Nat.mul_comm] at h1
  omega
 have h:=loop_chain (P:=Tryd.prog) (n0:=0) (b:=lpO6) (ex := .exit 6) (fr':=frO6 n rate n) (H' := [.cells ms,.cells (byL++rcL),.cells ((ltN rate n (s,0)).1.map w),.cells ((letL rate n (s,0)).map by8)]) (by intro h;cases h)
  (fun j=>(frO6 n rate (min n (j*rate)),[.cells ms,.cells (byL++rcL),.cells ((ltN rate (min n (j*rate)) (s,0)).1.map w),.cells ((letL rate (min n (j*rate)) (s,0)).map by8)])) ((n+rate - 1) / rate) 0 (fun j _ hj => ?_) ?_
 ·simpa[letL,ltN] using h
 ·have hj1:=hd j (by omega)
  obtain⟨t,ht,e,e0⟩:=ltN_blk hr hs j
  have em:min n (j*rate)=j*rate:=by omega
  have em2:min n ((j+1)*rate)=j*rate+min rate (n - j*rate):=by rw[Nat.add_mul]; omega
  have hm1:1≤min rate (n - j*rate):=by omega
  have key:∀ Q:Ex→Fr→Hl→Prop,Q .norm (frO6 n rate (j*rate+min rate (n - j*rate))) [.cells ms,.cells (byL++rcL),.cells ((ltN rate (j*rate+min rate (n - j*rate)) (s,0)).1.map w),.cells ((letL rate (j*rate+min rate (n - j*rate)) (s,0)).map by8)] →
    vm (vcA kdYes (cnRf rf0) lnO8) ops0 noTab 100 0 lpO6 (frO6 n rate (j*rate)) [.cells ms,.cells (byL++rcL),.cells ((ltN rate (j*rate) (s,0)).1.map w),.cells ((letL rate (j*rate) (s,0)).map by8)] [] (bodyX mkO6 Q):=by
   intro Q hQ
   rw[ltN_add,letL_add] at hQ
   have hL:=letL_length rate (j*rate) (s,0)
   rw[e] at hQ ⊢
   generalize letL rate (j*rate) (s,0)=l at hL hQ ⊢
   rw[vcO6]
   refine Br.t (by rw[nOfn,nLss]; exact decide_eq_true hj1) ?_
   rw[nOfn,nGtr]
   by_cases hj0:j=0
   ·rw[if_pos hj0,ltN_lo (by omega)] at hQ
    refine Br.f (decide_eq_false (by rw[hj0]; omega)) ⟨⟨rfl,rfl,rfl,hr2,hj1,hn,hms,tab_flat,⟨l,hL,rfl⟩,t,ht,rfl⟩,?_⟩
    show Q .norm _ [_,_,.cells (t.map w),.cells (l.map by8++outC (t.map w) rate _)]
    rw[outC_eq,←List.map_append]
    exact hQ
   ·rw[if_neg hj0,ltN_hi hr t hm1,letL_hi hr t,ltN_lo (by omega)] at hQ
    have hp:0<j*rate:=Nat.mul_pos (by omega) (by omega)
    have ht2:=st_length ht 24
    have e3:RF.rounds rf0 (ops0.ext (t.map w) 0 25)=(st t 24).map w:=by
     rw[nExt,List.drop_zero,List.take_of_length_le (by simp[ht])]
     show(st (intsA (t.map w)) 24).map w=_
     rw[intA_w]
    have e4:ops0.spl (t.map w) 0 ((st t 24).map w)=(st t 24).map w:=by
     rw[nSpl,List.take_zero,List.nil_append,Nat.zero_add,List.drop_of_length_le (by simp[ht,ht2]),List.append_nil]
    show Br _ (Chk (ops0.le 25 (ops0.len (t.map w))) (P78 (byL++rcL) (ops0.ext (t.map w) 0 25)∧_)) _
    rw[e3,e4]
    refine Br.t (decide_eq_true hp) (Chk.mk (by rw[nLe,nLen]; exact decide_eq_true (by simp[ht])) ⟨⟨rfl,t,ht,by rw[nExt,List.drop_zero,List.take_of_length_le (by simp[ht])]⟩,Chk.mk (by rw[nEq,nLen]; exact decide_eq_true (by simp[ht2])) (Chk.mk (by rw[nLe,nLen]; exact decide_eq_true (by simp[ht])) ⟨⟨rfl,rfl,rfl,hr2,hj1,hn,hms,tab_flat,⟨l,hL,rfl⟩,_,ht2,rfl⟩,?_⟩)⟩)
    rw[outC_eq,←List.map_append]
    exact hQ
  show BodyTo _ _ _ (frO6 n rate (min n (j*rate))) [.cells ms,.cells (byL++rcL),.cells ((ltN rate (min n (j*rate)) (s,0)).1.map w),.cells ((letL rate (min n (j*rate)) (s,0)).map by8)] _ (frO6 n rate (min n ((j+1)*rate))) [.cells ms,.cells (byL++rcL),.cells ((ltN rate (min n ((j+1)*rate)) (s,0)).1.map w),.cells ((letL rate (min n ((j+1)*rate)) (s,0)).map by8)]
  rw[em,em2]
  exact body_x cnRf_ok lnO8_ok (noTab_ok _) (n:=100) (g:=kdYes) (bs:=mkO6) (key _ ⟨rfl,rfl,rfl⟩) (by simp)
 ·show BodyTo _ _ _ (frO6 n rate (min n ((0+(n+rate - 1) / rate)*rate))) [.cells ms,.cells (byL++rcL),.cells ((ltN rate (min n ((0+(n+rate - 1) / rate)*rate)) (s,0)).1.map w),.cells ((letL rate (min n ((0+(n+rate - 1) / rate)*rate)) (s,0)).map by8)] _ _ _
  rw[Nat.zero_add,Nat.min_eq_left hd2]
  refine body_x cnRf_ok lnO8_ok (noTab_ok _) (n:=100) (g:=kdYes) (bs:=mkO6) ?_ (by simp)
  rw[vcO6]
  exact Br.f (by rw[nOfn,nLss]; exact decide_eq_false (by omega)) ⟨rfl,rfl,rfl⟩
end
end Go.Proofs.Vm

namespace Go.Proofs.Vm
set_option maxRecDepth 100000
open Go.Vm
noncomputable section
structure OF where
 pad:Nat→Nat→Nat
 fill:List AV→Nat→Nat→List AV
 blk:List AV→List AV→Nat→Nat→List AV
 out:List AV→Nat→Nat→List AV
 end_:List AV→Nat→Nat→List AV
def PO1(ms:List AV)(rate L:Nat):Prop:=1≤rate∧rate≤168∧L<274877906944∧∃ l:List UInt8,l.length=L∧ms=l.map by8
def PO2(ms tb ss:List AV)(rate L:Nat):Prop:=1≤rate∧rate≤168∧L<274877906944∧tb=byL++rcL∧(∃ K,L=K*rate)∧(∃ l:List UInt8,l.length=L∧ms=l.map by8)∧(∃ s:List Int,s.length=25∧ss=s.map w)
def PO6(ms tb ss:List AV)(rate n:Nat):Prop:=1≤rate∧rate≤168∧n<274877906944∧tb=byL++rcL∧flatL ms∧(∃ s:List Int,s.length=25∧ss=s.map w)
def lnP(S:OF):LnF:=fun n0 b fr H=>match slot fr 0,slot fr 1,slot fr 9,slot fr 14,H with
 | .int .i64 n,.int .i64 (.ofNat rate),.slc 1 0 L _ 1,_,[.dead,.cells ms]=>some (n0=0∧VCis b lpO1∧wkF [1] mkO1 fr=frO1 n rate L∧PO1 ms rate L,
   .ok (.exit 0) (frO1 n rate (S.pad rate L)) [.cells (S.fill ms rate L)])
 | .int .i64 (.ofNat n),.int .i64 (.ofNat rate),_,.nils,[.cells ms,.cells tb,.cells ss]=>some (n0=0∧VCis b lpO6∧put (forget mkO6 fr) 14 (.slc 3 0 0 0 1)=frO6 n rate 0∧nth (forget mkO6 fr) 14=some .nils∧PO6 ms tb ss rate n,
   .ok (.exit 6) (frO6 n rate n) [.cells ms,.cells tb,.cells (S.end_ ss rate n),.cells (S.out ss rate n)])
 | .int .i64 n,.int .i64 (.ofNat rate),.slc 0 0 L _ 1,.top,[.cells ms,.cells tb,.cells ss]=>some (n0=0∧VCis b lpO2∧forget mkO2 fr=frO2 n rate L 0∧PO2 ms tb ss rate L,
   .ok (.exit 2) (frO2 n rate L L) [.cells ms,.cells tb,.cells (S.blk ss ms rate L)])
 | _,_,_,_,_=>none
def of0:OF:=⟨fun rate L=>L+padN rate L,fun ms rate L=>ms++List.replicate (padN rate L) (by8 0),fun ss ms rate L=>(blocks rate (L / rate) (intsA ss) (bytesA ms)).map w,
 fun ss rate n=>(letL rate n (intsA ss,0)).map by8,fun ss rate n=>(ltN rate n (intsA ss,0)).1.map w⟩
def idsR:AV→Nat→List Nat
 | .slc b _ _ _ _,_ => [b]
 | _,_ => []
theorem vc67(R:RF)(S:OF)(pc:List AV)(off len cap:Nat)(ex:Bool)(n rate e:Nat)(Q:AV→Hl→Prop) :
  (vcall (vcA kdYes (cnRf R) (lnP S)) ops0 (tabOne 46 vf46) 100 vf46 [.int .i64 (Int.ofNat n),.int .i64 (Int.ofNat rate),.int .u8 (Int.ofNat e),.ros pc off len cap ex] [] (endP 0 idsR Q)) =
 ((Chk (ops0.le (ops0.add off (ops0.mul len 1)) (ops0.len pc))
 (Chk (ops0.room 0 len 1)
 (Chk (ops0.le (ops0.add 0 (ops0.mul len 1)) (ops0.len (ops0.ext pc off (ops0.mul len 1))))
 (Chk (ops0.room len 1 1)
 ((((0:Nat)=0) ∧
 ((VCis lpO1 lpO1) ∧
 (((((.int .i64 (.ofNat n))::(.int .i64 (.ofNat rate))::tp 7 ((.slc 0 0 (ops0.add len 1) (ops0.add len 1) 1)::tp 99 ([]))):Fr)=((.int .i64 (.ofNat n))::(.int .i64 (.ofNat rate))::tp 7 ((.slc 0 0 (ops0.add len 1) (ops0.add len 1) 1)::tp 99 ([])))) ∧
 (PO1 (ops0.app (ops0.ext (ops0.ext pc off (ops0.mul len 1)) 0 (ops0.mul len 1)) [(.int .u8 (.ofNat e))]) rate (ops0.add len 1))))) ∧
 (Chk (ops0.inr (ops0.bin .sub .i64 (ops0.ofn (OF.pad S rate (ops0.add len 1))) (Int.ofNat 1)) (OF.pad S rate (ops0.add len 1)))
 (∃ n1:Int,((Nth (OF.fill S (ops0.app (ops0.ext (ops0.ext pc off (ops0.mul len 1)) 0 (ops0.mul len 1)) [(.int .u8 (.ofNat e))]) rate (ops0.add len 1)) (ops0.adr 0 (ops0.bin .sub .i64 (ops0.ofn (OF.pad S rate (ops0.add len 1))) (Int.ofNat 1)) 1) (.int .u8 n1)) ∧
 (Chk (ops0.inr (ops0.bin .sub .i64 (ops0.ofn (OF.pad S rate (ops0.add len 1))) (Int.ofNat 1)) (OF.pad S rate (ops0.add len 1)))
 (Chk (ops0.lt (ops0.adr 0 (ops0.bin .sub .i64 (ops0.ofn (OF.pad S rate (ops0.add len 1))) (Int.ofNat 1)) 1) (ops0.len (OF.fill S (ops0.app (ops0.ext (ops0.ext pc off (ops0.mul len 1)) 0 (ops0.mul len 1)) [(.int .u8 (.ofNat e))]) rate (ops0.add len 1))))
 (True ∧
 (Chk (ops0.eq (ops0.len (RF.tbl R)) 49)
 ((((0:Nat)=0) ∧
 ((VCis lpO2 lpO2) ∧
 (((((.int .i64 (.ofNat n))::(.int .i64 (.ofNat rate))::tp 7 ((.slc 0 0 (OF.pad S rate (ops0.add len 1)) (OF.pad S rate (ops0.add len 1)) 1)::(.ptr 1 0)::(.ptr 2 0)::(.int .i64 (.ofNat 0))::tp 96 ([]))):Fr)=((.int .i64 (.ofNat n))::(.int .i64 (.ofNat rate))::tp 7 ((.slc 0 0 (OF.pad S rate (ops0.add len 1)) (OF.pad S rate (ops0.add len 1)) 1)::(.ptr 1 0)::(.ptr 2 0)::(.int .i64 (.ofNat 0))::tp 96 ([])))) ∧
 (PO2 (ops0.set (OF.fill S (ops0.app (ops0.ext (ops0.ext pc off (ops0.mul len 1)) 0 (ops0.mul len 1)) [(.int .u8 (.ofNat e))]) rate (ops0.add len 1)) (ops0.adr 0 (ops0.bin .sub .i64 (ops0.ofn (OF.pad S rate (ops0.add len 1))) (Int.ofNat 1)) 1) (.int .u8 (ops0.bin .xor .u8 n1 (Int.ofNat 128)))) (ops0.spl [(.int .i64 (.ofNat 0)),(.int .i64 (.ofNat 0)),(.int .i64 (.ofNat 0)),(.int .i64 (.ofNat 0)),(.int .i64 (.ofNat 0)),(.int .i64 (.ofNat 0)),(.int .i64 (.ofNat 0)),(.int .i64 (.ofNat 0)),(.int .i64 (.ofNat 0)),(.int .i64 (.ofNat 0)),(.int .i64 (.ofNat 0)),(.int .i64 (.ofNat 0)),(.int .i64 (.ofNat 0)),(.int .i64 (.ofNat 0)),(.int .i64 (.ofNat 0)),(.int .i64 (.ofNat 0)),(.int .i64 (.ofNat 0)),(.int .i64 (.ofNat 0)),(.int .i64 (.ofNat 0)),(.int .i64 (.ofNat 0)),(.int .i64 (.ofNat 0)),(.int .i64 (.ofNat 0)),(.int .i64 (.ofNat 0)),(.int .i64 (.ofNat 0)),(.int .i64 (.ofNat 0)),(.int .u64 (.ofNat 0)),(.int .u64 (.ofNat 0)),(.int .u64 (.ofNat 0)),(.int .u64 (.ofNat 0)),(.int .u64 (.ofNat 0)),(.int .u64 (.ofNat 0)),(.int .u64 (.ofNat 0)),(.int .u64 (.ofNat 0)),(.int .u64 (.ofNat 0)),(.int .u64 (.ofNat 0)),(.int .u64 (.ofNat 0)),(.int .u64 (.ofNat 0)),(.int .u64 (.ofNat 0)),(.int .u64 (.ofNat 0)),(.int .u64 (.ofNat 0)),(.int .u64 (.ofNat 0)),(.int .u64 (.ofNat 0)),(.int .u64 (.ofNat 0)),(.int .u64 (.ofNat 0)),(.int .u64 (.ofNat 0)),(.int .u64 (.ofNat 0)),(.int .u64 (.ofNat 0)),(.int .u64 (.ofNat 0)),(.int .u64 (.ofNat 0))] 0 (RF.tbl R)) [(.int .u64 (.ofNat 0)),(.int .u64 (.ofNat 0)),(.int .u64 (.ofNat 0)),(.int .u64 (.ofNat 0)),(.int .u64 (.ofNat 0)),(.int .u64 (.ofNat 0)),(.int .u64 (.ofNat 0)),(.int .u64 (.ofNat 0)),(.int .u64 (.ofNat 0)),(.int .u64 (.ofNat 0)),(.int .u64 (.ofNat 0)),(.int .u64 (.ofNat 0)),(.int .u64 (.ofNat 0)),(.int .u64 (.ofNat 0)),(.int .u64 (.ofNat 0)),(.int .u64 (.ofNat 0)),(.int .u64 (.ofNat 0)),(.int .u64 (.ofNat 0)),(.int .u64 (.ofNat 0)),(.int .u64 (.ofNat 0)),(.int .u64 (.ofNat 0)),(.int .u64 (.ofNat 0)),(.int .u64 (.ofNat 0)),(.int .u64 (.ofNat 0)),(.int .u64 (.ofNat 0))] rate (OF.pad S rate (ops0.add len 1)))))) ∧
 ((((0:Nat)=0) ∧
 ((VCis lpO6 lpO6) ∧
 (((((.int .i64 (.ofNat n))::(.int .i64 (.ofNat rate))::tp 8 ((.ptr 1 0)::(.ptr 2 0)::tp 2 ((.slc 3 0 0 0 1)::tp 94 ([])))):(List AV))=((.int .i64 (.ofNat n))::(.int .i64 (.ofNat rate))::tp 8 ((.ptr 1 0)::(.ptr 2 0)::tp 2 ((.slc 3 0 0 0 1)::tp 94 ([]))))) ∧
 ((((Option.some .nils):(Option AV))=(Option.some .nils)) ∧
 (PO6 (ops0.set (OF.fill S (ops0.app (ops0.ext (ops0.ext pc off (ops0.mul len 1)) 0 (ops0.mul len 1)) [(.int .u8 (.ofNat e))]) rate (ops0.add len 1)) (ops0.adr 0 (ops0.bin .sub .i64 (ops0.ofn (OF.pad S rate (ops0.add len 1))) (Int.ofNat 1)) 1) (.int .u8 (ops0.bin .xor .u8 n1 (Int.ofNat 128)))) (ops0.spl [(.int .i64 (.ofNat 0)),(.int .i64 (.ofNat 0)),(.int .i64 (.ofNat 0)),(.int .i64 (.ofNat 0)),(.int .i64 (.ofNat 0)),(.int .i64 (.ofNat 0)),(.int .i64 (.ofNat 0)),(.int .i64 (.ofNat 0)),(.int .i64 (.ofNat 0)),(.int .i64 (.ofNat 0)),(.int .i64 (.ofNat 0)),(.int .i64 (.ofNat 0)),(.int .i64 (.ofNat 0)),(.int .i64 (.ofNat 0)),(.int .i64 (.ofNat 0)),(.int .i64 (.ofNat 0)),(.int .i64 (.ofNat 0)),(.int .i64 (.ofNat 0)),(.int .i64 (.ofNat 0)),(.int .i64 (.ofNat 0)),(.int .i64 (.ofNat 0)),(.int .i64 (.ofNat 0)),(.int .i64 (.ofNat 0)),(.int .i64 (.ofNat 0)),(.int .i64 (.ofNat 0)),(.int .u64 (.ofNat 0)),(.int .u64 (.ofNat 0)),(.int .u64 (.ofNat 0)),(.int .u64 (.ofNat 0)),(.int .u64 (.ofNat 0)),(.int .u64 (.ofNat 0)),(.int .u64 (.ofNat 0)),(.int .u64 (.ofNat 0)),(.int .u64 (.ofNat 0)),(.int .u64 (.ofNat 0)),(.int .u64 (.ofNat 0)),(.int .u64 (.ofNat 0)),(.int .u64 (.ofNat 0)),(.int .u64 (.ofNat 0)),(.int .u64 (.ofNat 0)),(.int .u64 (.ofNat 0)),(.int .u64 (.ofNat 0)),(.int .u64 (.ofNat 0)),(.int .u64 (.ofNat 0)),(.int .u64 (.ofNat 0)),(.int .u64 (.ofNat 0)),(.int .u64 (.ofNat 0)),(.int .u64 (.ofNat 0)),(.int .u64 (.ofNat 0))] 0 (RF.tbl R)) (OF.blk S [(.int .u64 (.ofNat 0)),(.int .u64 (.ofNat 0)),(.int .u64 (.ofNat 0)),(.int .u64 (.ofNat 0)),(.int .u64 (.ofNat 0)),(.int .u64 (.ofNat 0)),(.int .u64 (.ofNat 0)),(.int .u64 (.ofNat 0)),(.int .u64 (.ofNat 0)),(.int .u64 (.ofNat 0)),(.int .u64 (.ofNat 0)),(.int .u64 (.ofNat 0)),(.int .u64 (.ofNat 0)),(.int .u64 (.ofNat 0)),(.int .u64 (.ofNat 0)),(.int .u64 (.ofNat 0)),(.int .u64 (.ofNat 0)),(.int .u64 (.ofNat 0)),(.int .u64 (.ofNat 0)),(.int .u64 (.ofNat 0)),(.int .u64 (.ofNat 0)),(.int .u64 (.ofNat 0)),(.int .u64 (.ofNat 0)),(.int .u64 (.ofNat 0)),(.int .u64 (.ofNat 0))] (ops0.set (OF.fill S (ops0.app (ops0.ext (ops0.ext pc off (ops0.mul len 1)) 0 (ops0.mul len 1)) [(.int .u8 (.ofNat e))]) rate (ops0.add len 1)) (ops0.adr 0 (ops0.bin .sub .i64 (ops0.ofn (OF.pad S rate (ops0.add len 1))) (Int.ofNat 1)) 1) (.int .u8 (ops0.bin .xor .u8 n1 (Int.ofNat 128)))) rate (OF.pad S rate (ops0.add len 1))) rate n))))) ∧
 (Q (.slc 0 0 n n 1) [(.cells (renL (pickN [3]) Go.Vm.noView Bool.true (OF.out S (OF.blk S [(.int .u64 (.ofNat 0)),(.int .u64 (.ofNat 0)),(.int .u64 (.ofNat 0)),(.int .u64 (.ofNat 0)),(.int .u64 (.ofNat 0)),(.int .u64 (.ofNat 0)),(.int .u64 (.ofNat 0)),(.int .u64 (.ofNat 0)),(.int .u64 (.ofNat 0)),(.int .u64 (.ofNat 0)),(.int .u64 (.ofNat 0)),(.int .u64 (.ofNat 0)),(.int .u64 (.ofNat 0)),(.int .u64 (.ofNat 0)),(.int .u64 (.ofNat 0)),(.int .u64 (.ofNat 0)),(.int .u64 (.ofNat 0)),(.int .u64 (.ofNat 0)),(.int .u64 (.ofNat 0)),(.int .u64 (.ofNat 0)),(.int .u64 (.ofNat 0)),(.int .u64 (.ofNat 0)),(.int .u64 (.ofNat 0)),(.int .u64 (.ofNat 0)),(.int .u64 (.ofNat 0))] (ops0.set (OF.fill S (ops0.app (ops0.ext (ops0.ext pc off (ops0.mul len 1)) 0 (ops0.mul len 1)) [(.int .u8 (.ofNat e))]) rate (ops0.add len 1)) (ops0.adr 0 (ops0.bin .sub .i64 (ops0.ofn (OF.pad S rate (ops0.add len 1))) (Int.ofNat 1)) 1) (.int .u8 (ops0.bin .xor .u8 n1 (Int.ofNat 128)))) rate (OF.pad S rate (ops0.add len 1))) rate n)))])))))))))))))))):=by kernel_rfl
theorem lnP_ok:LnOK Tryd.prog (lnP of0):=by
 intro n0 b fr H p x e hn hp lg
 unfold lnP at e
 split at e<;>cases e
 ·rename_i n rate L cap ms h1 h2 h3
  obtain⟨rfl,hb,hf,r1,r2,r3,l,hl,rfl⟩:=hp
  have hb:b=lpO1:=hb
  subst hb
  have hw:Weak 0 fr [.dead,.cells (l.map by8)] (wkF [1] mkO1 fr) (wkH [1] [.dead,.cells (l.map by8)]):=Weak.pick [1] mkO1 (by simp) (by simp) (by simp)
  rw[hf] at hw
  have e2:wkH [1] [.dead,.cells (l.map by8)] = [.cells (l.map by8)]:=by
   simp[wkH,pickH,renB,renL_flat (flat_by8 l)]
  rw[e2] at hw
  exact LoopTo.pre hw (loopO1 n rate L r1 r2 r3 l hl) lg
 ·rename_i n rate ms tb ss h1 h2 h3
  obtain⟨rfl,hb,hf,hnil,r1,r2,r3,rfl,r4,s,hs,rfl⟩:=hp
  have hb:b=lpO6:=hb
  subst hb
  show LoopTo _ _ _ _ _ _ _ _ [.cells ms,.cells (byL++rcL),.cells ((ltN rate n (intsA (s.map w),0)).1.map w),.cells ((letL rate n (intsA (s.map w),0)).map by8)] _
  rw[intA_w]
  rw[nth_eq] at hnil
  have hw:=(Weak.forget (n0:=0) (fr:=fr) (H := [.cells ms,.cells (byL++rcL),.cells (s.map w)]) (by simp) mkO6).trans (Weak.void (by simp) 1 hnil)
  have e3:(put (forget mkO6 fr) 14 (.slc ([.cells ms,.cells (byL++rcL),.cells (s.map w)]:Hl).length 0 0 0 1))=frO6 n rate 0:=hf
  rw[e3] at hw
  exact LoopTo.pre hw (loopO6 n rate r1 r2 r3 ms r4 s hs) lg
 ·rename_i n rate L cap ms tb ss h1 h2 h3 h4
  obtain⟨rfl,hb,hf,r1,r2,r3,rfl,⟨K,rfl⟩,⟨l,hl,rfl⟩,s,hs,rfl⟩:=hp
  have hb:b=lpO2:=hb
  subst hb
  show LoopTo _ _ _ _ _ _ _ _ [.cells (l.map by8),.cells (byL++rcL),.cells ((blocks rate (K*rate / rate) (intsA (s.map w)) (bytesA (l.map by8))).map w)] _
  rw[intA_w,bytesA_by8,Nat.mul_div_cancel _ (show 0<rate by omega)]
  refine LoopTo.pre (Weak.forget (by simp) mkO2) ?_ lg
  rw[hf]
  exact loopO2 n rate K r1 r2 r3 l hl s hs
theorem xor_u8(a b:UInt8):ops0.bin .xor .u8 (Int.ofNat a.toNat) (Int.ofNat b.toNat)=Int.ofNat (a ^^^ b).toNat:=by
 have h:∀ c:UInt8,BitVec.ofInt 8 (Int.ofNat c.toNat)=c.toBitVec:=by
  intro c
  apply BitVec.eq_of_toNat_eq
  simp only[BitVec.toNat_ofInt,Int.ofNat_eq_natCast]
  have:=c.toNat_lt
  show _=c.toNat
  omega
 show IntKind.u8.wrap ((BitVec.ofInt 8 (Int.ofNat a.toNat) ^^^ BitVec.ofInt 8 (Int.ofNat b.toNat)).toNat:Int)=_
 rw[h,h]
 have hlt:=(a.toBitVec ^^^ b.toBitVec).isLt
 rw[u8_wrap (by omega) (by omega)]
 rfl
theorem padL_split{rate:Nat}(hr:2≤rate)(e:UInt8)(n:Nat):∃ d b,padN rate (n+1)=d∧e::List.replicate d 0=(padL rate e n).dropLast ++ [b]∧padL rate e n=(padL rate e n).dropLast ++ [b ^^^ 128]:=by
 have h1:=Nat.mod_lt n (show rate>0 by omega)
 have h2:=Nat.div_add_mod n rate
 by_cases h:n % rate+1=rate
 ·refine⟨0,e,?_,?_,?_⟩
  ·unfold padN
   have:(n+1) % rate=0:=by
    rw[show n+1=rate*(n / rate)+rate by omega]; simp
   rw[this,Nat.sub_zero,Nat.mod_self]
  ·unfold padL;rw[if_pos h]; rfl
  ·unfold padL;rw[if_pos h]; rfl
 ·have e1:(n+1) % rate=n % rate+1:=by
   rw[show n+1=rate*(n / rate)+(n % rate+1) by omega,Nat.mul_add_mod,Nat.mod_eq_of_lt (by omega)]
  refine⟨rate - 1 - n % rate,0,?_,?_,?_⟩
  ·unfold padN
   rw[e1,Nat.mod_eq_of_lt (by omega)]
   omega
  ·unfold padL;rw[if_neg h]
   rw[show rate - 1 - n % rate=(rate - 2 - n % rate)+1 by omega,List.replicate_succ',←List.cons_append,←List.cons_append,List.dropLast_concat]
  ·unfold padL;rw[if_neg h]
   rw[←List.cons_append,List.dropLast_concat]
   rfl
theorem out67(pc:List AV)(off len cap:Nat)(ex:Bool)(lb:List UInt8)(hb:BytesAt pc off len lb)(hlen:len<137438953472)(n rate:Nat)(e:UInt8)(hr:rate % 8=0)(hr1:8≤rate)(hr2:rate≤168)(he:e=6∨e=31)(hn:n<274877906944)(hoff:off+len≤pc.length) :
  CallTo Tryd.prog 46 [.int .i64 (Int.ofNat n),.int .i64 (Int.ofNat rate),by8 e,.ros pc off len cap ex] [] (.slc 0 0 n n 1) [.cells ((streamF rate e n lb).map by8)] []:=by
 refine call_p cnRf_ok lnP_ok (tabOne_ok ok46) (tabOne_self 46 vf46) (n:=100) (g:=kdYes) (ids:=idsR) [] ?_ (by simp)
 show vcall (vcA kdYes (cnRf rf0) (lnP of0)) ops0 (tabOne 46 vf46) 100 vf46 [.int .i64 (Int.ofNat n),.int .i64 (Int.ofNat rate),.int .u8 (Int.ofNat e.toNat),.ros pc off len cap ex] [] (endP 0 idsR _)
 rw[vc67]
 obtain⟨d,b,hd,hs1,hs2⟩:=padL_split (rate:=rate) (by omega) e lb.length
 have hpl:=padL_length (rate:=rate) (e:=e) (by omega) lb.length
 have hll:=hb.1
 have hl1:=congrArg List.length hs1
 have hl2:=congrArg List.length hs2
 simp only[List.length_cons,List.length_replicate,List.length_append,List.length_nil] at hl1 hl2
 have hdl:=padN_le (rate:=rate) (L:=lb.length+1) (by omega)
 have e1:ops0.ext pc off (ops0.mul len 1)=lb.map by8:=by rw[nExt,nTimes,Nat.mul_one]; exact hb.2
 have e2:ops0.app (ops0.ext (ops0.ext pc off (ops0.mul len 1)) 0 (ops0.mul len 1)) [.int .u8 (Int.ofNat e.toNat)]=(lb ++ [e]).map by8:=by
  rw[e1,nExt,nApp,nTimes,Nat.mul_one,List.drop_zero,List.take_of_length_le (by simp[hll]),List.map_append]
  rfl
 have e3:OF.pad of0 rate (ops0.add len 1)=lb.length+(padL rate e lb.length).length:=by
  show len+1+padN rate (len+1)=_
  rw[←hll,hd]
  omega
 have e4:OF.fill of0 ((lb ++ [e]).map by8) rate (ops0.add len 1)=(lb++((padL rate e lb.length).dropLast ++ [b])).map by8:=by
  show(lb ++ [e]).map by8++List.replicate (padN rate (len+1)) (by8 0)=_
  rw[←hll,hd,←hs1]
  simp
 rw[e2,e3,e4,e1]
 have hL2:lb.length+(padL rate e lb.length).length<274877906944:=by omega
 have hp1:1≤(padL rate e lb.length).length:=by omega
 have hdl2:(padL rate e lb.length).dropLast.length=(padL rate e lb.length).length - 1:=by omega
 have hnth:((lb++((padL rate e lb.length).dropLast ++ [b])).map by8)[lb.length+(padL rate e lb.length).length - 1]? = some (by8 b):=by
  rw[List.getElem?_map,←List.append_assoc,List.getElem?_append_right (by simp;omega)]
  have:lb.length+(padL rate e lb.length).length - 1 - (lb++(padL rate e lb.length).dropLast).length=0:=by simp;omega
  rw[this]; rfl
 have hset:((lb++((padL rate e lb.length).dropLast ++ [b])).map by8).set (lb.length+(padL rate e lb.length).length - 1) (by8 (b ^^^ 128))=(lb++padL rate e lb.length).map by8:=by
  rw[hs2,←List.append_assoc,←List.append_assoc,List.map_append,List.map_append (l₂ := [b ^^^ 128]),List.dropLast_concat,List.set_append_right _ _ (by simp)]
  have:lb.length+((padL rate e lb.length).dropLast ++ [b ^^^ 128]).length - 1 - ((lb++(padL rate e lb.length).dropLast).map by8).length=0:=by simp
  rw[this]; rfl
 simp (disch:=omega) only[nOfn,nSub,nInr,nAdr,nLt,nLe,nLen,nRoom,nEq,nPlus,nTimes,nSet,Nat.zero_add,Nat.mul_one]
 refine Chk.mk (decide_eq_true hoff) (Chk.mk (decide_eq_true (by omega)) (Chk.mk (decide_eq_true (by simp[hll])) (Chk.mk (decide_eq_true (by omega)) ⟨⟨trivial,rfl,trivial,by omega,hr2,by omega,lb ++ [e],by simp[hll],rfl⟩,Chk.mk (decide_eq_true (by omega)) ⟨Int.ofNat b.toNat,Nth.mk hnth,Chk.mk (decide_eq_true (by omega)) (Chk.mk (decide_eq_true (by simp;omega)) ⟨trivial,Chk.mk (by rfl) ?_⟩)⟩⟩)))
 have ex8:AV.int IntKind.u8 (ops0.bin BinOp.xor IntKind.u8 (Int.ofNat b.toNat) (Int.ofNat 128))=by8 (b ^^^ 128):=congrArg (AV.int .u8) (xor_u8 b 128)
 rw[ex8,hset]
 obtain⟨K,hK⟩:=Nat.dvd_of_mod_eq_zero hpl
 rw[Nat.mul_comm] at hK
 have hlen2:(lb++padL rate e lb.length).length=K*rate:=by rw[List.length_append]; exact hK
 have hblk:OF.blk of0 [AV.int .u64 (Int.ofNat 0),AV.int .u64 (Int.ofNat 0),AV.int .u64 (Int.ofNat 0),AV.int .u64 (Int.ofNat 0),AV.int .u64 (Int.ofNat 0),AV.int .u64 (Int.ofNat 0),AV.int .u64 (Int.ofNat 0),AV.int .u64 (Int.ofNat 0),AV.int .u64 (Int.ofNat 0),AV.int .u64 (Int.ofNat 0),AV.int .u64 (Int.ofNat 0),AV.int .u64 (Int.ofNat 0),AV.int .u64 (Int.ofNat 0),AV.int .u64 (Int.ofNat 0),AV.int .u64 (Int.ofNat 0),AV.int .u64 (Int.ofNat 0),AV.int .u64 (Int.ofNat 0),AV.int .u64 (Int.ofNat 0),AV.int .u64 (Int.ofNat 0),AV.int .u64 (Int.ofNat 0),AV.int .u64 (Int.ofNat 0),AV.int .u64 (Int.ofNat 0),AV.int .u64 (Int.ofNat 0),AV.int .u64 (Int.ofNat 0),AV.int .u64 (Int.ofNat 0)] ((lb++padL rate e lb.length).map by8) rate (lb.length+(padL rate e lb.length).length)=(absorb rate e lb).map w:=by
  show(blocks rate ((lb.length+(padL rate e lb.length).length) / rate) zer (bytesA ((lb++padL rate e lb.length).map by8))).map w=_
  rw[bytesA_by8,hK,Nat.mul_div_cancel _ (show 0<rate by omega)]
  have h1:=blocks_take (rate:=rate) (by omega) K zer (lb++padL rate e lb.length) hlen2
  rw[absorb_padded hr he (by omega) lb] at h1
  have h2:absorb rate e lb=blocks rate K zer (lb++padL rate e lb.length):=(Prod.mk.inj h1).1
  rw[h2]
 rw[hblk]
 have hsl:=(absorb_ok rate e lb).1
 refine⟨⟨trivial,rfl,trivial,by omega,hr2,hL2,rfl,⟨K,hK⟩,⟨_,by simp,rfl⟩,zer,rfl,rfl⟩,⟨trivial,rfl,trivial,trivial,by omega,hr2,hn,rfl,flat_by8 _,_,hsl,rfl⟩,trivial,?_⟩
 have:OF.out of0 ((absorb rate e lb).map w) rate n=(streamF rate e n lb).map by8:=by
  show(letL rate n (intsA ((absorb rate e lb).map w),0)).map by8=_
  rw[intA_w]; rfl
 rw[this,renL_flat (flat_by8 _)]
end
end Go.Proofs.Vm

namespace Go.Vm
set_option maxRecDepth 100000
noncomputable section
def Vw(H:Hl)(x y:AV):Prop:=VLe (ren (pickN []) (viewF H [] 3) true x) y
inductive Vws(H:Hl):List AV→List AV→Prop where
 | nil:Vws H [] []
 | cons {x y:AV} {xs ys:List AV} (h:Vw H x y) (t:Vws H xs ys):Vws H (x::xs) (y::ys)
theorem vws_rel{H:Hl}{xs ys:List AV}(h:Vws H xs ys){ρ:Rho}{w:World}:∀ {vs:List Value},VRels ρ w (renL (pickN []) (viewF H [] 3) true xs) vs→VRels ρ w ys vs:=by
 induction h with
 | nil=>intro vs hv;exact hv
 | cons h _ ih =>
  intro vs hv
  cases vs with
  | nil=>have:=hv.len;simp[renL] at this
  | cons v vs=>exact .cons (h _ _ _ hv.head) (ih hv.tail)
theorem CallTo.le{P:Program}{f:Nat}{vals vals':List AV}{H H':Hl}{r:AV}{lg:List Nat}(hc:CallTo P f vals' H r H' lg)(h:∀ ρ w us,VRels ρ w vals us→VRels ρ w vals' us):CallTo P f vals H r H' lg :=
 ⟨hc.real,hc.grow,hc.keep,fun ρ w us hg hv=>hc.does ρ w us hg (h ρ w us hv)⟩
theorem CallTo.lookV{P:Program}{f:Nat}{vals vals0:List AV}{r0:AV}{lg:List Nat}{H:Hl}(hc:CallTo P f vals0 [] r0 [] lg)(h:Vws H vals vals0):CallTo P f vals H (backV [] H.length r0) H [] :=
 CallTo.pure 3 (hc.le fun ρ w us hv=>vws_rel h hv)
theorem CallTo.lookS{P:Program}{f:Nat}{vals vals0:List AV}{o n c sz:Nat}{cs:List AV}{H:Hl}{lg:List Nat}(hc:CallTo P f vals0 [] (.slc 0 o n c sz) [.cells cs] lg)(h1:flatL cs)(h:Vws H vals vals0) :
  CallTo P f vals H (.slc (size H) o n c sz) (join H [.cells cs]) []:=by
 have hc':CallTo P f (renL (pickN []) (viewF H [] 3) true vals) (pickH (viewF H [] 3) [] H) (.slc 0 o n c sz) [.cells cs] lg:=hc.le fun ρ w us hv=>vws_rel h hv
 have h:=CallTo.frame (H:=H) (vals:=vals) [] 3 List.nodup_nil (fun b hb=>by cases hb) hc' (fun b c hp=>by cases hp)
 have e1:backH [] H [.cells cs]=join H [.cells cs]:=by
  apply List.ext_getElem?
  intro b
  rw[backH_get,join_eq]
  by_cases hb:b<H.length
  ·rw[if_pos hb,List.getElem?_append_left hb]; rfl
  ·rw[if_neg hb,List.getElem?_append_right (by omega)]
   simp only[List.length_nil,Nat.zero_add]
   cases b - H.length with
   | zero=>simp[backB,renB,renL_flat h1]
   | succ d=>simp
 have e2:backL [] lg = []:=by simp[backL]
 have e3:backV [] H.length (.slc 0 o n c sz) = .slc (size H) o n c sz:=by simp[backV,ren,backN,size_eq]
 rw[e1,e2,e3] at h
 exact h
theorem Vw.same{H:Hl}{x:AV}(h:∀ σ φ,ren σ φ true x=x):Vw H x x:=by
 unfold Vw
 rw[h]
 exact VLe.refl x
theorem Vw.int(H:Hl)(k:IntKind)(n:Int):Vw H (.int k n) (.int k n) := .same fun _ _=>rfl
theorem Vw.str(H:Hl)(s:List UInt8):Vw H (.str s) (.str s) := .same fun _ _=>rfl
theorem Vw.agg(H:Hl){cs:List AV}(h:Still cs):Vw H (.agg cs) (.agg cs) := .same fun σ φ=>by simp only[ren,h σ φ]
def vw1(H:Hl)(x:AV):AV :=
 match x with
 | .ros cs o n c e => .ros cs o n c e
 | .slc b o n c _=>match nth H b with
  | some (.cells cs) => .ros cs o n c false
  | _ => .top
 | .nils => .ros [] 0 0 0 true
 | _ => .top
theorem Vw.one{H:Hl}{x:AV}{cs:List AV}{o n c:Nat}{e:Bool}(h:vw1 H x = .ros cs o n c e)(hf:flatL cs):Vw H x (.ros cs o n c e):=by
 unfold vw1 at h
 split at h
 ·cases h
  exact .same fun σ φ=>Still.ros (Still.flat hf) o n c e σ φ
 ·rename_i b o' n' c' sz
  split at h<;>cases h
  rename_i hb
  rw[nth_eq] at hb
  unfold Vw
  have:ren (pickN []) (viewF H [] 3) true (.slc b o n c sz) = .ros cs o n c false:=by
   have e1:pickN [] b=none:=rfl
   have e2:viewF H [] 3 b=some cs:=by
    unfold viewF
    rw[hb]
    simp only[renL_flat hf]
   simp only[ren,e1,e2]
  rw[this]
  exact VLe.refl _
 ·cases h
  exact VLe.nils
 ·cases h
theorem VLe.ros{cs cs':List AV}(hl:cs.length=cs'.length)(h:∀ (i:Nat) (a b:AV),cs[i]? = some a→cs'[i]? = some b→VLe a b)(o n c:Nat)(e:Bool):VLe (.ros cs o n c e) (.ros cs' o n c e):=by
 intro ρ w v hv
 have hne:cs' ≠ []→cs ≠ []:=fun hn h0=>hn (List.eq_nil_of_length_eq_zero (by rw[←hl,h0]; rfl))
 cases hv with
 | ros _ _ _ _ _ B F ao cap' vs hlt hp hl' ho hc hr hcap hlen he ha =>
  refine .ros cs' o n c e B F ao cap' vs (fun hn=>hlt (hne hn)) (fun hn=>hp (hne hn)) (by omega) ho hc (fun i a v hi hv => ?_) hcap hlen he ha
  have hi':i<cs.length:=by rw[hl]; exact(List.getElem?_eq_some_iff.1 hi).1
  exact h i cs[i] a (by simp[hi']) hi ρ w v (hr i cs[i] v (by simp[hi']) hv)
def vw2(H:Hl)(x:AV):AV :=
 match x with
 | .ros ps o n c e => .ros (ps.map (vw1 H)) o n c e
 | .slc b o n c _=>match nth H b with
  | some (.cells ps) => .ros (ps.map (vw1 H)) o n c false
  | _ => .top
 | .nils => .ros [] 0 0 0 true
 | _ => .top
def Rows1(ps:List AV):Prop:=∀ p,p∈ps→∃ cs o n c e,p = .ros cs o n c e∧flatL cs
theorem Rows1.still{ps:List AV}(h:Rows1 ps):Still ps:=Still.all fun p hp σ φ=>by
 obtain⟨cs,o,n,c,e,rfl,hf⟩:=h p hp
 exact Still.ros (Still.flat hf) o n c e σ φ
theorem view2{H:Hl}{m:Nat}{x:AV}{cs:List AV}{o n c:Nat}{e:Bool}(h:vw1 H x = .ros cs o n c e)(hf:flatL cs):VLe (ren (pickN []) (viewF H [] (m+1)) true x) (.ros cs o n c e):=by
 unfold vw1 at h
 split at h
 ·cases h
  rw[Still.ros (Still.flat hf) o n c e]
  exact VLe.refl _
 ·rename_i b o' n' c' sz
  split at h<;>cases h
  rename_i hb
  rw[nth_eq] at hb
  have:ren (pickN []) (viewF H [] (m+1)) true (.slc b o n c sz) = .ros cs o n c false:=by
   have e1:pickN [] b=none:=rfl
   have e2:viewF H [] (m+1) b=some cs:=by
    unfold viewF
    rw[hb]
    simp only[renL_flat hf]
   simp only[ren,e1,e2]
  rw[this]
  exact VLe.refl _
 ·cases h
  exact VLe.nils
 ·cases h
theorem Vw.two{H:Hl}{x:AV}{ps:List AV}{o n c:Nat}{e:Bool}(h:vw2 H x = .ros ps o n c e)(hf:Rows1 ps):Vw H x (.ros ps o n c e):=by
 have key:∀ (m:Nat) (qs:List AV),Rows1 (qs.map (vw1 H))→∀ o n c e,VLe (.ros (renL (pickN []) (viewF H [] (m+1)) true qs) o n c e) (.ros (qs.map (vw1 H)) o n c e):=by
  intro m qs hq o n c e
  refine VLe.ros (by rw[renL_length,List.length_map]) (fun i a b ha hb => ?_) o n c e
  rw[renL_get] at ha
  rw[List.getElem?_map] at hb
  obtain⟨y,hy,rfl⟩:=Option.map_eq_some_iff.1 ha
  rw[hy] at hb
  cases hb
  obtain⟨cs,o',n',c',e',e1,hcs⟩:=hq (vw1 H y) (List.mem_map.2 ⟨y,List.mem_of_getElem? hy,rfl⟩)
  rw[e1]
  exact view2 e1 hcs
 unfold vw2 at h
 split at h
 ·rename_i qs _ _ _ _
  cases h
  exact key 2 qs hf o n c e
 ·rename_i b o' n' c' sz
  split at h<;>cases h
  rename_i qs hb
  rw[nth_eq] at hb
  unfold Vw
  have:ren (pickN []) (viewF H [] 3) true (.slc b o n c sz) = .ros (renL (pickN []) (viewF H [] 2) true qs) o n c false:=by
   have e1:pickN [] b=none:=rfl
   have e2:viewF H [] 3 b=some (renL (pickN []) (viewF H [] 2) true qs):=by
    rw[viewF,hb]
   simp only[ren,e1,e2]
  rw[this]
  exact key 1 qs hf o n c false
 ·cases h
  exact VLe.nils
 ·cases h
end
end Go.Vm

namespace Go.Proofs.Vm
set_option maxRecDepth 100000
open Go.Vm
noncomputable section
def PB(pc:List AV)(off len:Nat):Prop:=flatL pc∧off+len≤pc.length∧len<137438953472∧∃ lb,BytesAt pc off len lb
def rdB(pc:List AV)(off len:Nat):List UInt8:=bytesA ((pc.drop off).take len)
structure KF where
 sum:List UInt8→List AV
 str:List UInt8→Nat→List AV
def cn67(S:Nat→Nat→Nat→List UInt8→List AV):CnF:=fun f vals H=>match f,vals with
 | 46,[.int .i64 n,.int .i64 (.ofNat rate),.int .u8 (.ofNat e),x]=>match vw1 H x with
  | .ros pc off len _ _=>some (PB pc off len∧0≤n∧n<274877906944∧((rate=136∧e=6)∨(rate=168∧e=31)),.ok (.slc (size H) 0 n.toNat n.toNat 1) (join H [.cells (S n.toNat rate e (rdB pc off len))]) [])
  | _=>none
 | _,_=>none
def st67(n rate e:Nat)(l:List UInt8):List AV:=(streamF rate (UInt8.ofNat e) n l).map by8
noncomputable def lp24:VC:=vp [1,1,1,0,1,0,0] vf33.body
def fr24(x3 x4:AV)(i:Nat):Fr := [.top,.top,.ptr 0 0,.ptr 1 0,x4,.int .i64 (Int.ofNat i),.top,.top,.top,.top,.top,.top,.top,.top,.top,.top,.top,.top,.top]
def mk24:List Bool := [true,true,false,false,false,false,true,true,true,true,true,true,true,true,true,true,true,true,true]
def ln24:LnF:=fun n0 b fr H=>match slot fr 4,H with
 | .slc 2 0 32 c 1,[.cells xs,.cells ys,.cells zs]=>some (n0=0∧VCis b lp24∧forget mk24 fr=fr24 (.ptr 1 0) (.slc 2 0 32 c 1) 0∧ys.length=32∧∃ l:List UInt8,l.length=32∧zs=l.map by8,
   .ok (.exit 0) (fr24 (.ptr 1 0) (.slc 2 0 32 c 1) 32) [.cells xs,.cells zs,.cells zs])
 | _,_=>none
theorem vcl24(xs ys zs:List AV)(c i:Nat)(Q:Ex→Fr→Hl→Prop) :
  (vm (vcA kdYes noCn noLn) ops0 noTab 100 0 lp24 (fr24 (.ptr 1 0) (.slc 2 0 32 c 1) i) [.cells xs,.cells ys,.cells zs] [] (bodyX mk24 Q)) =
 ((Br (ops0.cmp .lss (Int.ofNat i) (Int.ofNat 32))
 (Chk (ops0.inr (Int.ofNat i) 32)
 (∃ n:Int,((Nth zs (ops0.adr 0 (Int.ofNat i) 1) (.int .u8 n)) ∧
 (Chk (ops0.inr (Int.ofNat i) 32)
 (Chk (ops0.lt (ops0.adr 0 (Int.ofNat i) 1) (ops0.len ys))
 (Q Ex.norm (tp 2 ((.ptr 0 0)::(.ptr 1 0)::(.slc 2 0 32 c 1)::(.int .i64 (ops0.bin .add .i64 (Int.ofNat i) (Int.ofNat 1)))::tp 13 ([]))) [(.cells xs),(.cells (ops0.set ys (ops0.adr 0 (Int.ofNat i) 1) (.int .u8 n))),(.cells zs)]))))))
 (Q (Ex.exit 0) (tp 2 ((.ptr 0 0)::(.ptr 1 0)::(.slc 2 0 32 c 1)::(.int .i64 (.ofNat i))::tp 13 ([]))) [(.cells xs),(.cells ys),(.cells zs)]))):=by kernel_rfl
theorem vc28(S:Nat→Nat→Nat→List UInt8→List AV)(k:Int)(pc:List AV)(off len cap:Nat)(ex:Bool)(Q:AV→Hl→List Nat→Prop) :
  (vcall (vcA kdYes (cn67 S) noLn) ops0 (tabOne 21 vf21) 100 vf21 [.int .i64 k,.ros pc off len cap ex] [] Q) =
 ((Br (ops0.cmp .lss k (Int.ofNat 1))
 (Q .nils [] [])
 (Br (ops0.cmp .gtr k (Int.ofNat 65536))
 (Q .nils [] [])
 (((PB pc off len) ∧
 (((Int.ofNat 0)≤k) ∧
 ((k<(Int.ofNat 274877906944)) ∧
 (Or (((168:Nat)=136)∧((31:Nat)=6)) (((168:Nat)=168)∧((31:Nat)=31)))))) ∧
 (Q (.slc 0 0 (Int.toNat k) (Int.toNat k) 1) [(.cells (S (Int.toNat k) 168 31 (rdB pc off len)))] []))))):=by kernel_rfl
theorem vc24(S:Nat→Nat→Nat→List UInt8→List AV)(pc:List AV)(off len cap:Nat)(ex:Bool)(Q:AV→Hl→Prop) :
  (vcall (vcA kdYes (cn67 S) ln24) ops0 (tabOne 33 vf33) 100 vf33 [.ros pc off len cap ex] [] (endN (fun _=>0) Q)) =
 ((((PB pc off len) ∧
 (((Int.ofNat 0)≤(Int.ofNat 32)) ∧
 (((Int.ofNat 32)<(Int.ofNat 274877906944)) ∧
 (Or (((136:Nat)=136)∧((6:Nat)=6)) (((136:Nat)=168)∧((6:Nat)=31)))))) ∧
 ((((0:Nat)=0) ∧
 ((VCis lp24 lp24) ∧
 ((((tp 2 ((.ptr 0 0)::(.ptr 1 0)::(.slc 2 0 32 32 1)::(.int .i64 (.ofNat 0))::tp 13 ([]))):Fr)=(tp 2 ((.ptr 0 0)::(.ptr 1 0)::(.slc 2 0 32 32 1)::(.int .i64 (.ofNat 0))::tp 13 ([])))) ∧
 (((32:Nat)=32) ∧
 (∃ l:(List UInt8),((((List.length l):Nat)=32) ∧
 (((S 32 136 6 (rdB pc off len)):(List AV))=(List.map by8 l)))))))) ∧
 (Chk (ops0.le 32 (ops0.len (S 32 136 6 (rdB pc off len))))
 (Chk (ops0.eq (ops0.len (ops0.ext (S 32 136 6 (rdB pc off len)) 0 32)) 32)
 (Chk (ops0.le 32 (ops0.len (ops0.spl [(.int .u8 (.ofNat 0)),(.int .u8 (.ofNat 0)),(.int .u8 (.ofNat 0)),(.int .u8 (.ofNat 0)),(.int .u8 (.ofNat 0)),(.int .u8 (.ofNat 0)),(.int .u8 (.ofNat 0)),(.int .u8 (.ofNat 0)),(.int .u8 (.ofNat 0)),(.int .u8 (.ofNat 0)),(.int .u8 (.ofNat 0)),(.int .u8 (.ofNat 0)),(.int .u8 (.ofNat 0)),(.int .u8 (.ofNat 0)),(.int .u8 (.ofNat 0)),(.int .u8 (.ofNat 0)),(.int .u8 (.ofNat 0)),(.int .u8 (.ofNat 0)),(.int .u8 (.ofNat 0)),(.int .u8 (.ofNat 0)),(.int .u8 (.ofNat 0)),(.int .u8 (.ofNat 0)),(.int .u8 (.ofNat 0)),(.int .u8 (.ofNat 0)),(.int .u8 (.ofNat 0)),(.int .u8 (.ofNat 0)),(.int .u8 (.ofNat 0)),(.int .u8 (.ofNat 0)),(.int .u8 (.ofNat 0)),(.int .u8 (.ofNat 0)),(.int .u8 (.ofNat 0)),(.int .u8 (.ofNat 0))] 0 (ops0.ext (S 32 136 6 (rdB pc off len)) 0 32))))
 (Q (.agg (ops0.ext (ops0.spl [(.int .u8 (.ofNat 0)),(.int .u8 (.ofNat 0)),(.int .u8 (.ofNat 0)),(.int .u8 (.ofNat 0)),(.int .u8 (.ofNat 0)),(.int .u8 (.ofNat 0)),(.int .u8 (.ofNat 0)),(.int .u8 (.ofNat 0)),(.int .u8 (.ofNat 0)),(.int .u8 (.ofNat 0)),(.int .u8 (.ofNat 0)),(.int .u8 (.ofNat 0)),(.int .u8 (.ofNat 0)),(.int .u8 (.ofNat 0)),(.int .u8 (.ofNat 0)),(.int .u8 (.ofNat 0)),(.int .u8 (.ofNat 0)),(.int .u8 (.ofNat 0)),(.int .u8 (.ofNat 0)),(.int .u8 (.ofNat 0)),(.int .u8 (.ofNat 0)),(.int .u8 (.ofNat 0)),(.int .u8 (.ofNat 0)),(.int .u8 (.ofNat 0)),(.int .u8 (.ofNat 0)),(.int .u8 (.ofNat 0)),(.int .u8 (.ofNat 0)),(.int .u8 (.ofNat 0)),(.int .u8 (.ofNat 0)),(.int .u8 (.ofNat 0)),(.int .u8 (.ofNat 0)),(.int .u8 (.ofNat 0))] 0 (ops0.ext (S 32 136 6 (rdB pc off len)) 0 32)) 0 32)) []))))))):=by kernel_rfl
theorem rdB_eq{pc:List AV}{off len:Nat}{lb:List UInt8}(h:BytesAt pc off len lb):rdB pc off len=lb:=by
 unfold rdB
 rw[h.2,bytesA_by8]
theorem cn67_ok:CnOK Tryd.prog (cn67 st67):=by
 intro f vals H p x e hp
 unfold cn67 at e
 split at e
 ·rename_i n rate k y
  split at e<;>cases e
  rename_i pc off len cap ex hv
  obtain⟨⟨hf,ho,hl,lb,hlb⟩,h0,hn,hr⟩:=hp
  obtain⟨m,rfl⟩:∃ m:Nat,n=Int.ofNat m:=⟨n.toNat,(Int.toNat_of_nonneg h0).symm⟩
  have hn:m<274877906944:=by
   have:(m:Int)<274877906944:=hn
   omega
  show CallTo _ _ _ _ (.slc (size H) 0 m m 1) (join H [.cells (st67 m rate k (rdB pc off len))]) []
  rw[rdB_eq hlb]
  have hvs:Vws H [.int .i64 (Int.ofNat m),.int .i64 (Int.ofNat rate),.int .u8 (Int.ofNat k),y] [.int .i64 (Int.ofNat m),.int .i64 (Int.ofNat rate),.int .u8 (Int.ofNat k),.ros pc off len cap ex] :=
   .cons (.int _ _ _) (.cons (.int _ _ _) (.cons (.int _ _ _) (.cons (.one hv hf) .nil)))
  have hc:CallTo Tryd.prog 46 [.int .i64 (Int.ofNat m),.int .i64 (Int.ofNat rate),.int .u8 (Int.ofNat k),.ros pc off len cap ex] [] (.slc 0 0 m m 1) [.cells ((streamF rate (UInt8.ofNat k) m lb).map by8)] []:=by
   rcases hr with ⟨rfl,rfl⟩|⟨rfl,rfl⟩
   ·exact out67 pc off len cap ex lb hlb hl m 136 6 (by decide) (by decide) (by decide) (.inl rfl) hn ho
   ·exact out67 pc off len cap ex lb hlb hl m 168 31 (by decide) (by decide) (by decide) (.inr rfl) hn ho
  exact CallTo.lookS hc (flat_by8 _) hvs
 ·cases e
theorem loop24(c:Nat)(xs ys:List AV)(hy:ys.length=32)(l:List UInt8)(hl:l.length=32) :
  ∀ lg,LoopTo Tryd.prog 0 lp24 (fr24 (.ptr 1 0) (.slc 2 0 32 c 1) 0) [.cells xs,.cells ys,.cells (l.map by8)] lg (.exit 0) (fr24 (.ptr 1 0) (.slc 2 0 32 c 1) 32) [.cells xs,.cells (l.map by8),.cells (l.map by8)] (List.range 0++lg):=by
 have h:=loop_chain (P:=Tryd.prog) (n0:=0) (b:=lp24) (ex := .exit 0) (fr':=fr24 (.ptr 1 0) (.slc 2 0 32 c 1) 32) (H' := [.cells xs,.cells (l.map by8),.cells (l.map by8)]) (by intro h;cases h)
  (fun i=>(fr24 (.ptr 1 0) (.slc 2 0 32 c 1) i,[.cells xs,.cells ((l.take i).map by8++ys.drop i),.cells (l.map by8)])) 32 0 (fun i _ hi => ?_) ?_
 ·simpa using h
 ·have hi':i<32:=by omega
  have key:∀ Q:Ex→Fr→Hl→Prop,Q .norm (fr24 (.ptr 1 0) (.slc 2 0 32 c 1) (i+1)) [.cells xs,.cells ((l.take (i+1)).map by8++ys.drop (i+1)),.cells (l.map by8)] →
    vm (vcA kdYes noCn noLn) ops0 noTab 100 0 lp24 (fr24 (.ptr 1 0) (.slc 2 0 32 c 1) i) [.cells xs,.cells ((l.take i).map by8++ys.drop i),.cells (l.map by8)] [] (bodyX mk24 Q):=by
   intro Q hQ
   rw[vcl24,nAdd (by omega)]
   simp only[nLss,nInr,nAdr,nLt,nLen,nSet,Nat.zero_add,Nat.mul_one]
   have hx:(l.map by8)[i]? = some (.int .u8 (Int.ofNat (l[i]'(by omega)).toNat)):=by
    rw[List.getElem?_map,List.getElem?_eq_getElem (by omega)]; rfl
   refine Br.t (decide_eq_true hi') (Chk.mk (decide_eq_true hi') ⟨_,Nth.mk hx,Chk.mk (decide_eq_true hi') (Chk.mk (decide_eq_true (by simp[hl,hy]; omega)) ?_)⟩)
   rw[set_mid (l.take i) ys (by simp[hl]; omega) (by omega)]
   rw[List.take_succ_eq_append_getElem (by omega),List.map_append,List.append_assoc] at hQ
   exact hQ
  exact body_x (noCn_ok _) (noLn_ok _) (noTab_ok _) (n:=100) (g:=kdYes) (bs:=mk24) (key _ ⟨rfl,rfl,rfl⟩) (by simp)
 ·show BodyTo _ _ _ (fr24 (.ptr 1 0) (.slc 2 0 32 c 1) 32) [.cells xs,.cells ((l.take 32).map by8++ys.drop 32),.cells (l.map by8)] _ _ _
  rw[List.take_of_length_le (by omega),List.drop_of_length_le (by omega),List.append_nil]
  refine body_x (noCn_ok _) (noLn_ok _) (noTab_ok _) (n:=100) (g:=kdYes) (bs:=mk24) ?_ (by simp)
  rw[vcl24]
  exact Br.f rfl ⟨rfl,rfl,rfl⟩
theorem ln24_ok:LnOK Tryd.prog ln24:=by
 intro n0 b fr H p x e hn hp lg
 unfold ln24 at e
 split at e<;>cases e
 rename_i c xs ys zs h1
 obtain⟨rfl,hb,hf,hy,l,hl,rfl⟩:=hp
 have hb:b=lp24:=hb
 subst hb
 refine LoopTo.pre (Weak.forget (by simp) mk24) ?_ lg
 rw[hf]
 exact loop24 c xs ys hy l hl
theorem sum24{pc:List AV}{off len:Nat}(cap:Nat)(ex:Bool)(h:PB pc off len):CallTo Tryd.prog 33 [.ros pc off len cap ex] [] (.agg ((streamF 136 6 32 (rdB pc off len)).map by8)) [] []:=by
 refine call_n cn67_ok ln24_ok (tabOne_ok ok33) (tabOne_self 33 vf33) (n:=100) (g:=kdYes) (m:=fun _=>0) [] ?_ (by simp) ?_ (by simp)
 ·rw[vc24]
  have hL:=streamF_length 136 6 32 (rdB pc off len)
  have e1:st67 32 136 6 (rdB pc off len)=(streamF 136 6 32 (rdB pc off len)).map by8:=rfl
  simp only[e1]
  generalize streamF 136 6 32 (rdB pc off len)=L at hL ⊢
  simp only[nLe,nLen,nExt,nEq,nSpl,List.drop_zero,List.take_zero,List.nil_append]
  have ht:(L.map by8).take 32=L.map by8:=List.take_of_length_le (by simp[hL])
  rw[ht,take_app hL]
  refine⟨⟨h,by decide,by decide,.inl ⟨by trivial,by trivial⟩⟩,⟨by trivial,rfl,by trivial,by simp,L,hL,rfl⟩,Chk.mk (decide_eq_true (by simp[hL])) (Chk.mk (decide_eq_true (by simp[hL])) (Chk.mk (decide_eq_true (by simp[hL])) ⟨by trivial,by trivial⟩))⟩
 ·show AV.agg _=_
  rw[renL_flat (flat_by8 _)]
theorem stream28{pc:List AV}{off len:Nat}(cap:Nat)(ex:Bool)(h:PB pc off len)(k:Nat)(hk:1≤k∧k≤65536):CallTo Tryd.prog 21 [.int .i64 (Int.ofNat k),.ros pc off len cap ex] [] (.slc 0 0 k k 1) [.cells ((streamF 168 31 k (rdB pc off len)).map by8)] []:=by
 refine call_x cn67_ok (noLn_ok _) (tabOne_ok ok21) (tabOne_self 21 vf21) (n:=100) (g:=kdYes) ?_
 rw[vc28]
 exact Br.f (by rw[nLss]; exact decide_eq_false (by omega)) (Br.f (by rw[nGtr]; exact decide_eq_false (by omega)) ⟨⟨h,by simp,by simp;omega,.inr ⟨rfl,rfl⟩⟩,rfl,rfl,rfl⟩)
theorem stream28_nil{pc:List AV}{off len:Nat}(cap:Nat)(ex:Bool)(k:Int)(hk:¬ (1≤k∧k≤65536)):CallTo Tryd.prog 21 [.int .i64 k,.ros pc off len cap ex] [] .nils [] []:=by
 refine call_x cn67_ok (noLn_ok _) (tabOne_ok ok21) (tabOne_self 21 vf21) (n:=100) (g:=kdYes) ?_
 rw[vc28]
 refine Br.mk (fun h=>⟨rfl,rfl,rfl⟩) (fun h=>Br.mk (fun h=>⟨rfl,rfl,rfl⟩) (fun h2 => ?_))
 have h:¬ k<1:=of_decide_eq_false h
 have h2:¬ k>65536:=of_decide_eq_false h2
 omega
def PPs(ps:List AV)(o n:Nat):Prop:=Rows1 ps∧∃ pl,PartsAt ps o n pl
def rdP(ps:List AV)(o n:Nat):List UInt8:=(((ps.drop o).take n).map partA).flatten
def inK(k:Int):Bool:=decide (1≤k) && decide (k≤65536)
def kf0:KF:=⟨fun l=>(streamF 136 6 32 l).map by8,fun l n=>(streamF 168 31 n l).map by8⟩
def cnK(S:KF):CnF:=fun f vals H=>match f,vals with
 | 33,[x]=>match vw1 H x with
  | .ros pc off len _ _=>some (PB pc off len,.ok (.agg (S.sum (rdB pc off len))) H [])
  | _=>none
 | 27,[x]=>match vw2 H x with
  | .ros ps o n _ _=>some (PPs ps o n,.ok (.agg (S.sum (rdP ps o n))) H [])
  | _=>none
 | 48,[.int .i64 k,x]=>match vw2 H x with
  | .ros ps o n _ _=>some (PPs ps o n,.cond (inK k) (.ok (.slc (size H) 0 k.toNat k.toNat 1) (join H [.cells (S.str (rdP ps o n) k.toNat)]) []) (.ok .nils H []))
  | _=>none
 | 21,[.int .i64 k,x]=>match vw1 H x with
  | .ros pc off len _ _=>some (PB pc off len,.cond (inK k) (.ok (.slc (size H) 0 k.toNat k.toNat 1) (join H [.cells (S.str (rdB pc off len) k.toNat)]) []) (.ok .nils H []))
  | _=>none
 | _,_=>none
theorem backV_flat{H:Hl}{cs:List AV}(h:flatL cs):backV [] H.length (.agg cs) = .agg cs:=by
 show AV.agg _=_
 rw[renL_flat h]
theorem inK_true{k:Int}(h:inK k=true):∃ n:Nat,k=Int.ofNat n∧1≤n∧n≤65536:=by
 simp only[inK,Bool.and_eq_true,decide_eq_true_eq] at h
 exact⟨k.toNat,(Int.toNat_of_nonneg (by omega)).symm,by omega,by omega⟩
theorem inK_false{k:Int}(h:inK k=false):¬ (1≤k∧k≤65536):=by
 intro hk
 have:inK k=true:=by simp only[inK,Bool.and_eq_true,decide_eq_true_eq]; exact hk
 rw[this] at h;cases h
theorem cnK_ok:CnOK Tryd.prog (cnK kf0):=by
 intro f vals H p x e hp
 unfold cnK at e
 split at e
 ·rename_i y
  split at e<;>cases e
  rename_i pc off len cap ex hv
  have h:=CallTo.lookV (sum24 cap ex hp) (.cons (Vw.one hv hp.1) .nil)
  rw[backV_flat (flat_by8 _)] at h
  exact h
 ·rename_i y
  split at e<;>cases e
  rename_i ps o n c ex hv
  obtain⟨hr,pl,hpl⟩:=hp
  have h:=CallTo.lookV (sum26 c ex hr.still hpl) (.cons (Vw.two hv hr) .nil)
  rw[backV_flat (flat_by8 _)] at h
  show CallTo _ _ _ _ (.agg ((streamF 136 6 32 (rdP ps o n)).map by8)) _ _
  unfold rdP
  rw[hpl.parts]
  exact h
 ·rename_i k y
  split at e<;>cases e
  rename_i ps o n c ex hv
  obtain⟨hr,pl,hpl⟩:=hp
  cases hk:inK k with
  | true =>
   obtain⟨m,rfl,hm⟩:=inK_true hk
   simp only[CRes.fin,hk]
   have h:=CallTo.lookS (stream27 c ex hr.still hpl m hm) (flat_by8 _) (.cons (Vw.int H _ _) (.cons (Vw.two hv hr) .nil))
   show CallTo _ _ _ _ _ (join H [.cells ((streamF 168 31 m (rdP ps o n)).map by8)]) _
   unfold rdP
   rw[hpl.parts]
   exact h
  | false =>
   simp only[CRes.fin,hk]
   exact CallTo.lookV (stream27_nil c ex k (inK_false hk)) (.cons (Vw.int H _ _) (.cons (Vw.two hv hr) .nil))
 ·rename_i k y
  split at e<;>cases e
  rename_i pc off len c ex hv
  cases hk:inK k with
  | true =>
   obtain⟨m,rfl,hm⟩:=inK_true hk
   simp only[CRes.fin,hk]
   exact CallTo.lookS (stream28 c ex hp m hm) (flat_by8 _) (.cons (Vw.int H _ _) (.cons (Vw.one hv hp.1) .nil))
  | false =>
   simp only[CRes.fin,hk]
   exact CallTo.lookV (stream28_nil c ex k (inK_false hk)) (.cons (Vw.int H _ _) (.cons (Vw.one hv hp.1) .nil))
 ·cases e
end
end Go.Proofs.Vm

namespace Go.Vm
set_option maxRecDepth 100000
noncomputable section
theorem chk_and(b:Bool)(r:Prop):Chk b r=(b=true∧r):=by cases b<;>simp[Chk]
theorem br_tt(r s:Prop):Br true r s=r:=rfl
theorem br_ff(r s:Prop):Br false r s=s:=rfl
theorem br_if(b:Bool)(r s:Prop):Br b r s=((b=true→r)∧(b=false→s)):=by cases b<;>simp[Br]
def kdS:Kd→Bool:=fun k=>match k with
 | .slc=>false
 | _=>true
end
end Go.Vm

namespace Go.Proofs.Vm
open Go.Vm
set_option maxRecDepth 100000
noncomputable section
noncomputable def vf5:VF:=⟨38,[.tmp 4,.tmp 5,.tmp 6],compile Tryd.prog (Tryd.f5.body.getD .skip)⟩
theorem ok5:FnOK Tryd.prog 5 vf5 := .of Tryd.func5 (by kernel_rfl) (by kernel_rfl)
noncomputable def vf6:VF:=⟨51,[.tmp 4,.tmp 5,.tmp 6],compile Tryd.prog (Tryd.f6.body.getD .skip)⟩
theorem ok6:FnOK Tryd.prog 6 vf6 := .of Tryd.func6 (by kernel_rfl) (by kernel_rfl)
noncomputable def vf7:VF:=⟨12,[.tmp 4,.tmp 5],compile Tryd.prog (Tryd.f7.body.getD .skip)⟩
theorem ok7:FnOK Tryd.prog 7 vf7 := .of Tryd.func7 (by kernel_rfl) (by kernel_rfl)
noncomputable def vf10:VF:=⟨39,[.tmp 4,.tmp 5],compile Tryd.prog (Tryd.f10.body.getD .skip)⟩
theorem ok10:FnOK Tryd.prog 10 vf10 := .of Tryd.func10 (by kernel_rfl) (by kernel_rfl)
noncomputable def vf11:VF:=⟨43,[.tmp 4,.tmp 5],compile Tryd.prog (Tryd.f11.body.getD .skip)⟩
theorem ok11:FnOK Tryd.prog 11 vf11 := .of Tryd.func11 (by kernel_rfl) (by kernel_rfl)
noncomputable def vf12:VF:=⟨8,[.tmp 4],compile Tryd.prog (Tryd.f12.body.getD .skip)⟩
theorem ok12:FnOK Tryd.prog 12 vf12 := .of Tryd.func12 (by kernel_rfl) (by kernel_rfl)
noncomputable def vf15:VF:=⟨38,[.tmp 4],compile Tryd.prog (Tryd.f15.body.getD .skip)⟩
theorem ok15:FnOK Tryd.prog 15 vf15 := .of Tryd.func15 (by kernel_rfl) (by kernel_rfl)
noncomputable def vf28:VF:=⟨24,[.tmp 4],compile Tryd.prog (Tryd.f28.body.getD .skip)⟩
theorem ok28:FnOK Tryd.prog 28 vf28 := .of Tryd.func28 (by kernel_rfl) (by kernel_rfl)
noncomputable def vf3:VF:=⟨94,[.tmp 6],compile Tryd.prog (Tryd.f3.body.getD .skip)⟩
theorem ok3:FnOK Tryd.prog 3 vf3 := .of Tryd.func3 (by kernel_rfl) (by kernel_rfl)
noncomputable def vf4:VF:=⟨137,[.tmp 6],compile Tryd.prog (Tryd.f4.body.getD .skip)⟩
theorem ok4:FnOK Tryd.prog 4 vf4 := .of Tryd.func4 (by kernel_rfl) (by kernel_rfl)
noncomputable def lpd28:VC:=vp [1,0,0,0] vf28.body
def frd28(o n c:Nat):Fr := [.slc 0 o n c 1,.int .u8 (Int.ofNat 0),.top,.top,.top,.top,.top,.top,.top,.top,.top,.top,.top,.top,.top,.top,.top,.top,.top,.top,.top,.top,.top,.top]
def mkd28:List Bool := [false,false,true,true,true,true,true,true,true,true,true,true,true,true,true,true,true,true,true,true,true,true,true,true]
def trN(s:List UInt8):Nat→Nat
 | 0=>0
 | k+1=>if s.getD k 0=0 then trN s k else k+1
structure TRF where
 tr:List AV→Nat→Nat→Nat
def PTr(cs:List AV)(o n c:Nat):Prop:=n≤c∧n<1099511627776∧∃ lb,BytesAt cs o n lb
def lnd28(F:TRF):LnF:=fun n0 b fr H=>match slot fr 0,H with
 | .slc 0 o n c 1,[.cells cs]=>some (n0=1∧VCis b lpd28∧forget mkd28 fr=frd28 o n c∧PTr cs o n c,.ok (.exit 0) (frd28 o (F.tr cs o n) c) [.cells cs])
 | _,_=>none
def cnd28(F:TRF):CnF:=fun f vals H=>match f,vals,H with
 | 28,[.slc 0 o n c 1,.int .u8 z],[.cells cs]=>some (flatL cs∧z=Int.ofNat 0∧PTr cs o n c,.ok (.slc 0 o (F.tr cs o n) c 1) [.cells cs] [])
 | _,_,_=>none
theorem vcld28(cs:List AV)(o n c:Nat)(Q:Ex→Fr→Hl→Prop) :
  (vm (vcA kdYes noCn noLn) ops0 noTab 100 1 lpd28 (frd28 o n c) [.cells cs] [] (bodyX mkd28 Q)) =
 ((Br (ops0.cmp .gtr (ops0.ofn n) (Int.ofNat 0))
 (Chk (ops0.inr (ops0.bin .sub .i64 (ops0.ofn n) (Int.ofNat 1)) n)
 (∃ n1:Int,((Nth cs (ops0.adr o (ops0.bin .sub .i64 (ops0.ofn n) (Int.ofNat 1)) 1) (.int .u8 n1)) ∧
 (Br (ops0.cmp .eql n1 (Int.ofNat 0))
 (Chk (ops0.inb (ops0.bin .sub .i64 (ops0.ofn n) (Int.ofNat 1)) c)
 (Q Ex.norm ((.slc 0 o (ops0.sub (ops0.nat (ops0.bin .sub .i64 (ops0.ofn n) (Int.ofNat 1))) 0) c 1)::(.int .u8 (.ofNat 0))::tp 22 ([])) [(.cells cs)]))
 (Q (Ex.exit 0) ((.slc 0 o n c 1)::(.int .u8 (.ofNat 0))::tp 22 ([])) [(.cells cs)])))))
 (Q (Ex.exit 0) ((.slc 0 o n c 1)::(.int .u8 (.ofNat 0))::tp 22 ([])) [(.cells cs)]))):=by kernel_rfl
theorem vcd28(F:TRF)(cs:List AV)(o n c:Nat)(Q:AV→Hl→Prop) :
  (vcall (vcA kdYes noCn (lnd28 F)) ops0 (tabOne 28 vf28) 100 vf28 [.slc 0 o n c 1,.int .u8 (Int.ofNat 0)] [.cells cs] (endN (fun _=>1) Q)) =
 (((((1:Nat)=1) ∧
 ((VCis lpd28 lpd28) ∧
 (((((.slc 0 o n c 1)::(.int .u8 (.ofNat 0))::tp 22 ([])):Fr)=((.slc 0 o n c 1)::(.int .u8 (.ofNat 0))::tp 22 ([]))) ∧
 (PTr cs o n c)))) ∧
 (Q (.slc 0 o (TRF.tr F cs o n) c 1) [(.cells (renL (pickN [0]) Go.Vm.noView Bool.true cs))]))):=by kernel_rfl
theorem vcd15(F:TRF)(cs:List AV)(o n c:Nat)(Q:AV→Hl→Prop) :
  (vcall (vcA kdYes (cnd28 F) noLn) ops0 (tabOne 15 vf15) 100 vf15 [.slc 0 o n c 1,.str [0]] [.cells cs] (endN (fun _=>1) Q)) =
 ((Br (ops0.cmp .eql (ops0.ofn n) (Int.ofNat 0))
 (Q (.slc 0 o n c 1) [(.cells (renL (pickN [0]) Go.Vm.noView Bool.true cs))])
 (((flatL cs) ∧
 ((((Int.ofNat 0):Int)=(Int.ofNat 0)) ∧
 (PTr cs o n c))) ∧
 (Q (.slc 0 o (TRF.tr F cs o n) c 1) [(.cells (renL (pickN [0]) Go.Vm.noView Bool.true cs))])))):=by kernel_rfl
theorem trN_le(s:List UInt8):∀ k,trN s k≤k
 | 0=>Nat.le_refl 0
 | k+1=>by
  unfold trN
  split
  ·exact Nat.le_succ_of_le (trN_le s k)
  ·exact Nat.le_refl _
theorem trN_succ(s:List UInt8)(k:Nat):trN s (k+1)=if s.getD k 0=0 then trN s k else k+1:=rfl
theorem trN_step{s:List UInt8}{k:Nat}(h:trN s (k+1)<k+1):s.getD k 0=0∧trN s k=trN s (k+1):=by
 rw[trN_succ] at h ⊢
 split at h
 ·rename_i hz
  rw[if_pos hz]
  exact⟨hz,rfl⟩
 ·omega
theorem trN_stop{s:List UInt8}{k:Nat}(h:trN s (k+1)=k+1):s.getD k 0≠0:=by
 intro hz
 unfold trN at h
 rw[if_pos hz] at h
 have:=trN_le s k
 omega
theorem trN_mid{s:List UInt8}{k:Nat}:∀ d,trN s k≤k - d→trN s (k - d)=trN s k
 | 0,_=>rfl
 | d+1,h=>by
  rcases Nat.lt_or_ge d k with hd|hd
  ·have e:k - d=(k - (d+1))+1:=by omega
   have ih:=trN_mid (s:=s) (k:=k) d (by omega)
   rw[e] at ih
   rw[←ih]
   exact(trN_step (by omega)).2
  ·rw[show k - (d+1)=k - d by omega]
   exact trN_mid d (by omega)
theorem bodyd28{cs:List AV}{o n c:Nat}{lb:List UInt8}(hb:BytesAt cs o n lb)(hc:n≤c)(hn:n<1099511627776){k:Nat}(hk:k+1≤n)(hz:lb.getD k 0=0) :
  BodyTo Tryd.prog 1 lpd28 (frd28 o (k+1) c) [.cells cs] .norm (frd28 o k c) [.cells cs]:=by
 have hg:=hb.get (j:=k) (by omega)
 have hlk:k<lb.length:=by rw[hb.1]; omega
 have hz:lb[k]=0:=by rw[List.getD_eq_getElem?_getD,List.getElem?_eq_getElem hlk] at hz;exact hz
 rw[hz] at hg
 have e1:ops0.bin .sub .i64 (Int.ofNat (k+1)) (Int.ofNat 1)=Int.ofNat k:=nSub (by omega) (by omega)
 have e2:ops0.nat (Int.ofNat k)=k:=rfl
 refine body_x (noCn_ok _) (noLn_ok _) (noTab_ok _) (n:=100) (g:=kdYes) (bs:=mkd28) ?_ (by simp)
 rw[vcld28,nOfn,e1,nAdr,nInr,nInb,Nat.mul_one,nMinus,Nat.sub_zero,e2]
 refine Br.t (by rw[nGtr]; exact decide_eq_true (by omega)) (Chk.mk (decide_eq_true (by omega)) ⟨Int.ofNat 0,Nth.mk hg,Br.t rfl (Chk.mk (decide_eq_true (by omega)) ⟨rfl,rfl,rfl⟩)⟩)
theorem loopd28{cs:List AV}{o n c:Nat}{lb:List UInt8}(hb:BytesAt cs o n lb)(hc:n≤c)(hn:n<1099511627776):∀ lg,LoopTo Tryd.prog 1 lpd28 (frd28 o n c) [.cells cs] lg (.exit 0) (frd28 o (trN lb n) c) [.cells cs] (List.range 1++lg):=by
 intro lg
 have hle:=trN_le lb n
 have h:=loop_chain (P:=Tryd.prog) (n0:=1) (b:=lpd28) (ex := .exit 0) (fr':=frd28 o (trN lb n) c) (H' := [.cells cs]) (by intro h;cases h) (fun i=>(frd28 o (n - i) c,[.cells cs])) (n - trN lb n) 0 (fun j _ hj => ?_) ?_ lg
 ·exact h
 ·have e:n - j=(n - (j+1))+1:=by omega
  have hm:=trN_mid (s:=lb) (k:=n) j (by omega)
  rw[e] at hm
  have hs:=trN_step (s:=lb) (k:=n - (j+1)) (by omega)
  simp only[e]
  exact bodyd28 hb hc hn (by omega) hs.1
 ·have e:n - (0+(n - trN lb n))=trN lb n:=by omega
  simp only[e]
  refine body_x (noCn_ok _) (noLn_ok _) (noTab_ok _) (n:=100) (g:=kdYes) (bs:=mkd28) ?_ (by simp)
  have hm:=trN_mid (s:=lb) (k:=n) (n - trN lb n) (by omega)
  rw[show n - (n - trN lb n)=trN lb n by omega] at hm
  rw[vcld28,nOfn]
  cases hk:trN lb n with
  | zero=>exact Br.f (by rw[nGtr]; exact decide_eq_false (by omega)) ⟨rfl,rfl,rfl⟩
  | succ k =>
   rw[hk] at hm
   have hz:=trN_stop hm
   have hg:=hb.get (j:=k) (by omega)
   have hlk:k<lb.length:=by rw[hb.1]; omega
   have hz:lb[k]≠0:=by rw[List.getD_eq_getElem?_getD,List.getElem?_eq_getElem hlk] at hz;exact hz
   have e1:ops0.bin .sub .i64 (Int.ofNat (k+1)) (Int.ofNat 1)=Int.ofNat k:=nSub (by omega) (by omega)
   rw[e1,nAdr,nInr,nInb,Nat.mul_one]
   refine Br.t (by rw[nGtr]; exact decide_eq_true (by omega)) (Chk.mk (decide_eq_true (by omega)) ⟨Int.ofNat lb[k].toNat,Nth.mk hg,Br.f ?_ ⟨rfl,rfl,rfl⟩⟩)
   rw[nEql]
   exact decide_eq_false fun h0=>hz (UInt8.toNat.inj h0)
def tr0:TRF:=⟨fun cs o n=>trN (rdB cs o n) n⟩
theorem lnd28_ok:LnOK Tryd.prog (lnd28 tr0):=by
 intro n0 b fr H p x e hn0 hp lg
 unfold lnd28 at e
 split at e<;>cases e
 rename_i o n c cs h1
 obtain⟨rfl,hb,hf,hc,hn,lb,hl⟩:=hp
 have hb:b=lpd28:=hb
 subst hb
 refine LoopTo.pre (Weak.forget (by simp) mkd28) (fun lg => ?_) lg
 rw[hf]
 have h:=loopd28 hl hc hn lg
 have e:tr0.tr cs o n=trN lb n:=by
  show trN (rdB cs o n) n=_
  rw[rdB_eq hl]
 show LoopTo Tryd.prog 1 lpd28 _ _ lg (.exit 0) (frd28 o (tr0.tr cs o n) c) _ _
 rw[e]
 exact h
theorem calld28{cs:List AV}{o n c:Nat}(hf:flatL cs)(h:PTr cs o n c):CallTo Tryd.prog 28 [.slc 0 o n c 1,.int .u8 (Int.ofNat 0)] [.cells cs] (.slc 0 o (tr0.tr cs o n) c 1) [.cells cs] []:=by
 refine call_n (noCn_ok _) lnd28_ok (tabOne_ok ok28) (tabOne_self 28 vf28) (n:=100) (g:=kdYes) (m:=fun _=>1) [] ?_ (Nat.le_refl 1) rfl (fun b hb=>by simp)
 rw[vcd28,renL_flat hf]
 exact⟨⟨rfl,rfl,rfl,h⟩,rfl,rfl⟩
theorem cnd28_ok:CnOK Tryd.prog (cnd28 tr0):=by
 intro f vals H p x e hp
 unfold cnd28 at e
 split at e<;>cases e
 obtain⟨hf,rfl,h⟩:=hp
 exact calld28 hf h
theorem calld15{cs:List AV}{o n c:Nat}(hf:flatL cs)(h:PTr cs o n c):CallTo Tryd.prog 15 [.slc 0 o n c 1,.str [0]] [.cells cs] (.slc 0 o (tr0.tr cs o n) c 1) [.cells cs] []:=by
 refine call_n cnd28_ok (noLn_ok _) (tabOne_ok ok15) (tabOne_self 15 vf15) (n:=100) (g:=kdYes) (m:=fun _=>1) [] ?_ (Nat.le_refl 1) rfl (fun b hb=>by simp)
 rw[vcd15,renL_flat hf,nOfn,nEql]
 by_cases h0:n=0
 ·subst h0
  exact Br.t (decide_eq_true rfl) ⟨rfl,rfl⟩
 ·exact Br.f (decide_eq_false h0) ⟨⟨hf,rfl,h⟩,rfl,rfl⟩
theorem trim_at{cs:List AV}{o n c b:Nat}{H:Hl}(hf:flatL cs)(h:PTr cs o n c)(hb:H[b]? = some (.cells cs)):CallTo Tryd.prog 15 [.slc b o n c 1,.str [0]] H (.slc b o (tr0.tr cs o n) c 1) H [b]:=by
 have hc:=CallTo.one (vals := [.slc b o n c 1,.str [0]]) (calld15 hf h) hb hf hf (fun φ=>by
  have:pickN [b] b=some 0:=by simp[pickN,placeIn,Nat.beq_refl]
  simp only[renL,ren,this])
 have e1:put H b (.cells cs)=H:=by
  rw[put_eq]
  apply List.ext_getElem?
  intro i
  by_cases hi:b=i
  ·subst hi
   rw[List.getElem?_set_self (List.getElem?_eq_some_iff.1 hb).1,hb]
  ·rw[List.getElem?_set_ne hi]
 have e2:backV [b] H.length (.slc 0 o (tr0.tr cs o n) c 1) = .slc b o (tr0.tr cs o n) c 1:=by simp[backV,ren,backN]
 rw[e1,e2] at hc
 exact hc
end
end Go.Proofs.Vm

namespace Go.Vm
set_option maxRecDepth 100000
noncomputable section
def endB(Q:Nat→Nat→Nat→Nat→List AV→Prop):AV→Hl→List Nat→Prop:=fun r H _=>match r with
 | .slc b o n c sz=>match nth H b with
  | some (.cells cs)=>flatL cs∧Q o n c sz cs
  | _=>False
 | _=>False
theorem pickN_self(b:Nat):pickN [b] b=some 0:=by
 unfold pickN placeIn
 rw[Nat.beq_refl]
theorem call_b{P:Program}{g:Kd→Bool}{C:CnF}(hC:CnOK P C){E:LnF}(hE:LnOK P E){T:Nat→Option VF}(hT:∀ f vf,T f=some vf→FnOK P f vf){f n:Nat}{vf:VF}(hf:T f=some vf){vals:List AV}
  {o m c sz:Nat} {cs:List AV} (h:vcall (vcA g C E) ops0 T n vf vals [] (endB fun o' m' c' sz' cs'=>o'=o∧m'=m∧c'=c∧sz'=sz∧cs'=cs)):CallTo P f vals [] (.slc 0 o m c sz) [.cells cs] []:=by
 obtain⟨r,H',lg,hc,e⟩:=call_vcx hC hE hT hf h
 unfold endB at e
 split at e
 ·rename_i b o' m' c' sz'
  split at e
  ·rename_i cs' hb
   obtain⟨hfl,rfl,rfl,rfl,rfl,rfl⟩:=e
   rw[nth_eq] at hb
   have hlt:b<H'.length:=(List.getElem?_eq_some_iff.1 hb).1
   have h1:=hc.pick [b] (by simp) (by simpa using hlt) (by simp) (lg0 := []) (by simp)
   have e1:ren (pickN [b]) noView true (.slc b o' m' c' sz') = .slc 0 o' m' c' sz':=by
    simp only[ren,pickN_self]
   have e2:wkH [b] H' = [.cells cs']:=by
    simp only[wkH,pickH,List.map_cons,List.map_nil,hb,renB,renL_flat hfl]
   rw[e1,e2] at h1
   exact h1
  ·exact e.elim
 ·exact e.elim
theorem Weak.pickV{n0:Nat}{fr:Fr}{H:Hl}(ids:List Nat)(bs:List Bool)(n:Nat)(hn:ids.Nodup)(hlt:∀ b,b∈ids→b<H.length)(h0:∀ b,b<n0→ids[b]? = some b) :
  Weak n0 fr H (Go.Vm.forget bs (renL (pickN ids) (viewF H ids n) true fr)) (pickH (viewF H ids n) ids H) where
 grow:=by
  simp only[pickH,List.length_map]
  rcases Nat.eq_zero_or_pos n0 with h|h
  ·omega
  ·have:=(List.getElem?_eq_some_iff.1 (h0 (n0 - 1) (by omega))).1
   omega
 does ρ w hg:=by
  refine⟨pickR ids ρ,hg.pick hn hlt (viewF_ok hg n),⟨Nat.le_refl _,rfl,rfl,rfl,fun _ _ _=>rfl,fun b hb _ => .inl ?_,fun b B F hl => ?_,fun _ _=>rfl⟩,fun tmps h => ?_⟩
  ·simp[pickR,h0 b hb]
  ·obtain⟨b',_,e⟩:=pickR_own hl
   exact .inr ⟨b',F,e⟩
  ·exact forget_rel (rens_rel (fun b c=>pickR_of) (fun _ c B F h=>let ⟨b,_,e⟩:=pickR_own h;⟨b,F,e⟩) (viewF_ok hg n) h)
theorem BodyTo.post{P:Program}{n0:Nat}{b:VC}{fr fr1 fr2:Fr}{H H1 H2:Hl}{ex:Ex}(h:BodyTo P n0 b fr H ex fr1 H1)(k:Weak n0 fr1 H1 fr2 H2):BodyTo P n0 b fr H ex fr2 H2:=by
 intro c hc
 obtain⟨lg,hg⟩:=h c hc
 exact⟨_,hg.post k⟩
theorem VLe.loose(cs:List AV)(o n c:Nat)(e:Bool):VLe (.ros cs o n c e) (.ros cs o n c false):=by
 intro ρ w v hv
 cases hv with
 | ros _ _ _ _ _ B F ao cap' vs hlt hp hl' ho hc hr hcap hlen he ha =>
  exact .ros cs o n c false B F ao cap' vs hlt hp hl' ho hc hr hcap hlen (fun h=>by cases h) ha
theorem FLe.refl(fr:Fr):FLe fr fr:=⟨rfl,fun i a b ha hb=>by rw[ha] at hb;cases hb;exact VLe.refl _⟩
theorem FLe.put{fr:Fr}{k:Nat}{a b:AV}(h:fr[k]? = some a)(hl:VLe a b):FLe fr (Go.Vm.put fr k b):=by
 have hp:∀ (fr:Fr) (k:Nat),Go.Vm.put fr k b=fr.set k b:=by
  intro fr
  induction fr with
  | nil=>intro k;rfl
  | cons x xs ih =>
   intro k
   cases k with
   | zero=>rfl
   | succ k=>rw[put_succ,ih]; rfl
 rw[hp]
 refine⟨by simp,fun i x y hx hy => ?_⟩
 by_cases hi:i=k
 ·subst hi
  rw[h] at hx
  cases hx
  have hlt:=(List.getElem?_eq_some_iff.1 h).1
  rw[List.getElem?_set_self hlt] at hy
  cases hy
  exact hl
 ·rw[List.getElem?_set_ne (by omega)] at hy
  rw[hx] at hy
  cases hy
  exact VLe.refl _
end
end Go.Vm

namespace Go.Proofs.Vm
set_option maxRecDepth 100000
open Go.Vm
noncomputable section
def reg1(r:Nat):Nat:=if 2*r>255 then(2*r - 256) ^^^ 113 else 2*r
def reg:Nat→Nat
 | 0=>1
 | n+1=>reg1 (reg n)
end
end Go.Proofs.Vm
