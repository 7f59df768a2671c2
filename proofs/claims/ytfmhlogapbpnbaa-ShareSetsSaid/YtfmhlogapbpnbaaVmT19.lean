/-
  ShareSets: for every input the law returns true and its arguments read as before; no condition.
-/
import Derived.Test.YtfmhlogapbpnbaaYsal

namespace Go.Proofs.Ytfmhlogapbpnbaa.shareSets
set_option maxRecDepth 100000
open Go.Vm Go.Proofs.Vm Go.ChangeShapes Go.WideShapes Go.ChangeAt Go.RowKit
set_option maxRecDepth 100000 in
theorem lifted(os:Os)(started:os.Started)(H:Type)(enc:TypeId × Value->H) :
  ReturnsInHanded {} Try.checked os 19 .any (Rows.shareSetsSpec.pre6 enc Try.prog Try.f19 Rows.shareSetsRow.domain false) (Rows.shareSetsSpec.post enc Try.prog Try.f19 false true false false):=by
 refine returnsInHanded_of_change (C:=Try.checked) Vm.Try.own started (by kernel_rfl) Try.func19
  (ChangeSpec.witness6 (enc:=enc) (C:=Try.checked) false ⟨#[],#[.agg #[.int .u8 0,.int .u8 0,.int .u8 0,.int .u8 0,.int .u8 0,.int .u8 0,.int .u8 0,.int .u8 0,.int .u8 0,.int .u8 0,.int .u8 0,.int .u8 0,.int .u8 0,.int .u8 0,.int .u8 0,.int .u8 0,.int .u8 0,.int .u8 0,.int .u8 0,.int .u8 0,.int .u8 0,.int .u8 0,.int .u8 0,.int .u8 0,.int .u8 0,.int .u8 0,.int .u8 0,.int .u8 0,.int .u8 0,.int .u8 0,.int .u8 0,.int .u8 0],.agg #[.int .u8 0,.int .u8 0,.int .u8 0,.int .u8 0,.int .u8 0,.int .u8 0,.int .u8 0,.int .u8 0,.int .u8 0,.int .u8 0,.int .u8 0,.int .u8 0,.int .u8 0,.int .u8 0,.int .u8 0,.int .u8 0,.int .u8 0,.int .u8 0,.int .u8 0,.int .u8 0,.int .u8 0,.int .u8 0,.int .u8 0,.int .u8 0,.int .u8 0,.int .u8 0,.int .u8 0,.int .u8 0,.int .u8 0,.int .u8 0,.int .u8 0,.int .u8 0],.agg #[.int .u8 0,.int .u8 0,.int .u8 0,.int .u8 0,.int .u8 0,.int .u8 0,.int .u8 0,.int .u8 0,.int .u8 0,.int .u8 0,.int .u8 0,.int .u8 0,.int .u8 0,.int .u8 0,.int .u8 0,.int .u8 0,.int .u8 0,.int .u8 0,.int .u8 0,.int .u8 0,.int .u8 0,.int .u8 0,.int .u8 0,.int .u8 0,.int .u8 0,.int .u8 0,.int .u8 0,.int .u8 0,.int .u8 0,.int .u8 0,.int .u8 0,.int .u8 0],.int .i64 0,.agg #[.int .u8 0,.int .u8 0,.int .u8 0,.int .u8 0,.int .u8 0,.int .u8 0,.int .u8 0,.int .u8 0,.int .u8 0,.int .u8 0,.int .u8 0,.int .u8 0,.int .u8 0,.int .u8 0,.int .u8 0,.int .u8 0,.int .u8 0,.int .u8 0,.int .u8 0,.int .u8 0,.int .u8 0,.int .u8 0,.int .u8 0,.int .u8 0,.int .u8 0,.int .u8 0,.int .u8 0,.int .u8 0,.int .u8 0,.int .u8 0,.int .u8 0,.int .u8 0]],[]⟩ 8 (by kernel_rfl) (by kernel_rfl) (by kernel_rfl) (by kernel_rfl)) ?_
 intro W base args ds gs before hval0 hW hcnd _
 have hval:∀ (j:Nat) t v,Try.f19.params[j]? = some t->args[j]? = some v->Value.okWide Try.prog W .any base t v:=hval0
 have hW':DataW.Whole enc Try.prog Try.f19.params.toList Rows.shareSetsSpec.vars false W args.toList ds gs before:=hW
 obtain⟨p,q,hA0,hV,hbf,hfz,hnd⟩:=hW
 have hA:DataW.TrodAll enc Try.prog W 0 (fun _=>true) true Try.f19.params.toList args.toList ds p:=hA0
 rw[Try.params19] at hA hval
 obtain⟨v0,vs0,d0,ds0,p0,q0,hargs,rfl,rfl,h0,r0⟩:=trodAll_cons hA
 obtain⟨v1,vs1,d1,ds1,p1,q1,rfl,rfl,rfl,h1,r1⟩:=trodAll_cons r0
 obtain⟨v2,vs2,d2,ds2,p2,q2,rfl,rfl,rfl,h2,r2⟩:=trodAll_cons r1
 obtain⟨v3,vs3,d3,ds3,p3,q3,rfl,rfl,rfl,h3,r3⟩:=trodAll_cons r2
 obtain⟨v4,vs4,d4,ds4,p4,q4,rfl,rfl,rfl,h4,r4⟩:=trodAll_cons r3
 obtain⟨rfl,rfl,rfl⟩:=trodAll_nil r4
 obtain rfl:args = #[v0,v1,v2,v3,v4]:=by cases args;simp_all
 have hV:DataW.TrodVars enc Try.prog W (fun _=>true) [] gs q:=hV
 obtain⟨rfl,rfl⟩:=trodVars_none hV
 refine qh4 (s:=Rows.shareSetsSpec) rfl (by rw[Try.params19]; exact fun t ht=>of_decide_eq_true (by revert t;exact of_decide_eq_true (by kernel_rfl))) rfl hW' rfl ?_
 obtain⟨zs0,rfl,hz0,hw0⟩:=qb0 (n:=32) Try.underlying23 Try.underlying5 (by kernel_rfl) (by kernel_rfl) (hval 0 23 v0 rfl rfl)
 obtain⟨key0,hk0,kr0⟩:=qh2 hz0 hw0 W
 obtain⟨zs1,rfl,hz1,hw1⟩:=qb0 (n:=32) Try.underlying23 Try.underlying5 (by kernel_rfl) (by kernel_rfl) (hval 1 23 v1 rfl rfl)
 obtain⟨key1,hk1,kr1⟩:=qh2 hz1 hw1 W
 obtain⟨zs2,rfl,hz2,hw2⟩:=qb0 (n:=32) Try.underlying23 Try.underlying5 (by kernel_rfl) (by kernel_rfl) (hval 2 23 v2 rfl rfl)
 obtain⟨key2,hk2,kr2⟩:=qh2 hz2 hw2 W
 obtain⟨a3,rfl,_,_,w3⟩:=open_int Try.underlying3 (hval 3 3 v3 rfl rfl) h3
 obtain⟨zs4,rfl,hz4,hw4⟩:=qb0 (n:=32) Try.underlying23 Try.underlying5 (by kernel_rfl) (by kernel_rfl) (hval 4 23 v4 rfl rfl)
 obtain⟨key4,hk4,kr4⟩:=qh2 hz4 hw4 W
 obtain⟨H',lg,hc⟩:=law19 hk0 hk1 hk2 a3 hk4
 exact qha (us := [.agg (zs0.map (Value.int .u8)).toArray,.agg (zs1.map (Value.int .u8)).toArray,.agg (zs2.map (Value.int .u8)).toArray,.int .i64 a3,.agg (zs4.map (Value.int .u8)).toArray]) hc (.cons kr0 (.cons kr1 (.cons kr2 (.cons (.int _ _) (.cons kr4 .nil)))))
theorem closed:joinedFacts Try.prog 19 Try.f19 Rows.shareSetsSpec Rows.shareSetsRow=true:=by
 unfold joinedFacts
 simp only[Bool.and_eq_true]
 repeat' with_reducible apply And.intro
 all_goals first
  | with_reducible exact qf2
  | with_reducible exact qgl qef (by kernel_rfl)
  | with_reducible exact qkp qov (by kernel_rfl)
  | kernel_rfl
theorem proved:Rows.ShareSetsSaid :=
 OpenClaim.holds_of_wide 19 Try.f19 rfl rfl rfl rfl rfl rfl rfl ⟨rfl,rfl,rfl,rfl,rfl⟩ rfl rfl rfl rfl rfl (by kernel_rfl) Try.func19 closed
  (of_decide_eq_true (by kernel_rfl)) (by unfold Func.isWrapper;first|(rw[if_pos (by decide +kernel)]; kernel_rfl)|(rw[if_neg (by decide +kernel)]; exact⟨rfl,rfl⟩))
  (fun os started H enc _=>lifted os started H enc)
end Go.Proofs.Ytfmhlogapbpnbaa.shareSets
