/-
  OnionWays: for every input the law returns true and its arguments read as before; where its arguments together are of bulk at most 1048576.
-/
import Derived.Test.YtfmhlogapbpnbaaYnao
import Derived.Test.YtfmhlogapbpnbaaYnan
set_option linter.unusedVariables false
set_option linter.unusedSimpArgs false
set_option linter.unusedSectionVars false

namespace Go.Proofs.Ytfmhlogapbpnbaa.onionWays
set_option maxRecDepth 100000
open Go.Vm Go.Proofs.Vm Go.ChangeShapes Go.WideShapes Go.ChangeAt Go.RowKit
set_option maxRecDepth 100000 in
theorem lifted(os:Os)(started:os.Started)(H:Type)(enc:TypeId × Value->H)(F:Stop.Interp) :
  ReturnsInHanded {} Try.checked os 23 .any ((Rows.OpenSpec.upto Rows.onionWaysSpec).pre6 enc Try.prog Try.f23 Rows.onionWaysUptoRow.domain false) (((Rows.OpenSpec.upto Rows.onionWaysSpec).at F).post enc Try.prog Try.f23 false true false false):=by
 refine returnsInHanded_of_cond (C:=Try.checked) (s:=Rows.OpenSpec.upto Rows.onionWaysSpec) (k:=Rows.uptoSmall) rfl Vm.Try.own started (by kernel_rfl) Try.func23
  (OpenSpec.witness (enc:=enc) (C:=Try.checked) (s:=Rows.OpenSpec.upto Rows.onionWaysSpec) (k:=Rows.uptoSmall) rfl false ⟨#[],#[.slice none 0 0,.slice none 0 0,.agg #[.int .u8 0,.int .u8 0,.int .u8 0,.int .u8 0,.int .u8 0,.int .u8 0,.int .u8 0,.int .u8 0,.int .u8 0,.int .u8 0,.int .u8 0,.int .u8 0,.int .u8 0,.int .u8 0,.int .u8 0,.int .u8 0,.int .u8 0,.int .u8 0,.int .u8 0,.int .u8 0,.int .u8 0,.int .u8 0,.int .u8 0,.int .u8 0,.int .u8 0,.int .u8 0,.int .u8 0,.int .u8 0,.int .u8 0,.int .u8 0,.int .u8 0,.int .u8 0],.agg #[.int .u8 0,.int .u8 0,.int .u8 0,.int .u8 0,.int .u8 0,.int .u8 0,.int .u8 0,.int .u8 0,.int .u8 0,.int .u8 0,.int .u8 0,.int .u8 0,.int .u8 0,.int .u8 0,.int .u8 0,.int .u8 0,.int .u8 0,.int .u8 0,.int .u8 0,.int .u8 0,.int .u8 0,.int .u8 0,.int .u8 0,.int .u8 0,.int .u8 0,.int .u8 0,.int .u8 0,.int .u8 0,.int .u8 0,.int .u8 0,.int .u8 0,.int .u8 0]],[]⟩ 8 (by kernel_rfl) (by kernel_rfl) (by kernel_rfl)
   (x:=([.nil,.nil,.agg [.lit (.int .u8 0),.lit (.int .u8 0),.lit (.int .u8 0),.lit (.int .u8 0),.lit (.int .u8 0),.lit (.int .u8 0),.lit (.int .u8 0),.lit (.int .u8 0),.lit (.int .u8 0),.lit (.int .u8 0),.lit (.int .u8 0),.lit (.int .u8 0),.lit (.int .u8 0),.lit (.int .u8 0),.lit (.int .u8 0),.lit (.int .u8 0),.lit (.int .u8 0),.lit (.int .u8 0),.lit (.int .u8 0),.lit (.int .u8 0),.lit (.int .u8 0),.lit (.int .u8 0),.lit (.int .u8 0),.lit (.int .u8 0),.lit (.int .u8 0),.lit (.int .u8 0),.lit (.int .u8 0),.lit (.int .u8 0),.lit (.int .u8 0),.lit (.int .u8 0),.lit (.int .u8 0),.lit (.int .u8 0)],.agg [.lit (.int .u8 0),.lit (.int .u8 0),.lit (.int .u8 0),.lit (.int .u8 0),.lit (.int .u8 0),.lit (.int .u8 0),.lit (.int .u8 0),.lit (.int .u8 0),.lit (.int .u8 0),.lit (.int .u8 0),.lit (.int .u8 0),.lit (.int .u8 0),.lit (.int .u8 0),.lit (.int .u8 0),.lit (.int .u8 0),.lit (.int .u8 0),.lit (.int .u8 0),.lit (.int .u8 0),.lit (.int .u8 0),.lit (.int .u8 0),.lit (.int .u8 0),.lit (.int .u8 0),.lit (.int .u8 0),.lit (.int .u8 0),.lit (.int .u8 0),.lit (.int .u8 0),.lit (.int .u8 0),.lit (.int .u8 0),.lit (.int .u8 0),.lit (.int .u8 0),.lit (.int .u8 0),.lit (.int .u8 0)]],[],[])) (by kernel_rfl) rfl (by kernel_rfl)) ?_
 intro W base args ds gs before hval0 hW _ hk _
 show Calls Try.prog 23 args W fun e W'=>∃ v,e = .returned v/\Rows.onionWaysSpec.post enc Try.prog Try.f23 false true false false W args v W'
 have hval:∀ (j:Nat) t v,Try.f23.params[j]? = some t->args[j]? = some v->Value.okWide Try.prog W .any base t v:=hval0
 have hW':DataW.Whole enc Try.prog Try.f23.params.toList Rows.onionWaysSpec.vars false W args.toList ds gs before:=hW
 obtain⟨p,q,hA0,hV,hbf,hfz,hnd⟩:=hW
 have hA:DataW.TrodAll enc Try.prog W 0 (fun _=>true) true Try.f23.params.toList args.toList ds p:=hA0
 rw[Try.params23] at hA hval
 obtain⟨v0,vs0,d0,ds0,p0,q0,hargs,rfl,rfl,h0,r0⟩:=trodAll_cons hA
 obtain⟨v1,vs1,d1,ds1,p1,q1,rfl,rfl,rfl,h1,r1⟩:=trodAll_cons r0
 obtain⟨v2,vs2,d2,ds2,p2,q2,rfl,rfl,rfl,h2,r2⟩:=trodAll_cons r1
 obtain⟨v3,vs3,d3,ds3,p3,q3,rfl,rfl,rfl,h3,r3⟩:=trodAll_cons r2
 obtain⟨rfl,rfl,rfl⟩:=trodAll_nil r3
 obtain rfl:args = #[v0,v1,v2,v3]:=by cases args;simp_all
 have hV:DataW.TrodVars enc Try.prog W (fun _=>true) [] gs q:=hV
 obtain⟨rfl,rfl⟩:=trodVars_none hV
 refine qh4 (s:=Rows.onionWaysSpec) rfl (by rw[Try.params23]; exact fun t ht=>of_decide_eq_true (by revert t;exact of_decide_eq_true (by kernel_rfl))) rfl hW' rfl ?_
 have hk:Rows.uptoBulkAll [d0,d1,d2,d3]<=1048576:=of_decide_eq_true hk
 obtain⟨cs0,n0,c0,ex0,sr0,sh0,sn0,sl0⟩:=qg3 Try.underlying55 Try.underlying23 Try.underlying5 (by kernel_rfl) (by kernel_rfl) (hval 0 55 v0 rfl rfl) h0 (Nat.le_trans (qdq (by simp)) hk)
 obtain⟨hc1,hn1,hcap1,hx1,hs1,hr1,hP1,hp1,h61,hb1,hl1⟩:=qgq (by kernel_rfl) (by kernel_rfl) (by kernel_rfl) (by kernel_rfl) (hval 1 70 v1 rfl rfl) h1 (Nat.le_trans (qdq (by simp)) hk)
 obtain⟨zs2,rfl,hz2,hw2⟩:=qb0 (n:=32) Try.underlying23 Try.underlying5 (by kernel_rfl) (by kernel_rfl) (hval 2 23 v2 rfl rfl)
 obtain⟨key2,hk2,kr2⟩:=qh2 hz2 hw2 W
 obtain⟨zs3,rfl,hz3,hw3⟩:=qb0 (n:=32) Try.underlying23 Try.underlying5 (by kernel_rfl) (by kernel_rfl) (hval 3 23 v3 rfl rfl)
 obtain⟨key3,hk3,kr3⟩:=qh2 hz3 hw3 W
 obtain⟨H',lg,hc⟩:=law23 hcap1 hx1 c0 ex0 sh0 sl0 hP1 hp1 h61 hk2 hk3
 exact qha (us := [v0,v1,.agg (zs2.map (Value.int .u8)).toArray,.agg (zs3.map (Value.int .u8)).toArray]) hc (.cons sr0 (.cons hr1 (.cons kr2 (.cons kr3 .nil))))
theorem closed:joinedFacts Try.prog 23 Try.f23 (Rows.OpenSpec.upto Rows.onionWaysSpec).bare Rows.onionWaysUptoRow=true:=by
 unfold joinedFacts
 simp only[Bool.and_eq_true]
 repeat' with_reducible apply And.intro
 all_goals first
  | with_reducible exact qf2
  | with_reducible exact qgl qef (by kernel_rfl)
  | with_reducible exact qkp qov (by kernel_rfl)
  | kernel_rfl
theorem proved:Rows.OnionWaysUptoSaid :=
 OpenClaim.holds_of_cond 23 Try.f23 rfl rfl rfl rfl rfl rfl rfl ⟨rfl,rfl,rfl,rfl,rfl⟩ rfl rfl rfl rfl rfl (by kernel_rfl) Try.func23 closed
  (of_decide_eq_true (by kernel_rfl)) (by unfold Func.isWrapper;first|(rw[if_pos (by decide +kernel)]; kernel_rfl)|(rw[if_neg (by decide +kernel)]; exact⟨rfl,rfl⟩))
  (fun os started H enc _ F=>lifted os started H enc F)
end Go.Proofs.Ytfmhlogapbpnbaa.onionWays
