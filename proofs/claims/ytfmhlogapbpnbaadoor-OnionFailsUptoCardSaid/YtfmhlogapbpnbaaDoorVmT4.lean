/-
  OnionFails: for every input whose arguments together are of bulk at most 1048576 the law returns true and its arguments read as before: the tied card.
-/
import Derived.Test.YtfmhlogapbpnbaaDoorYean
import Derived.Test.YtfmhlogapbpnbaaDoorCards
import Derived.Test.YtfmhlogapbpnbaaDoorTie
import Derived.Deep.DeepHandedRow
import Derived.SevenTiedAt
import Derived.LaidLaws
set_option linter.unusedVariables false
set_option linter.unusedSimpArgs false
set_option linter.unusedSectionVars false

namespace Go.Proofs.YtfmhlogapbpnbaaDoor.onionFails
open Go.Vm Go.Proofs.Vm Go.ChangeShapes Go.WideShapes Go.ChangeAt Go.RowKit
set_option maxRecDepth 100000
noncomputable def laidWorld(os:Os):World :=
 let w0:=World.holding Tryd.prog os ⟨#[],#[],[]⟩
 let put (h:Array Obj) (g:Nat) (cs:Array Value):Array Obj:=h.modify g fun
  | .cells _ t frozen => .cells cs t frozen
  | o=>o
 let h1:=put w0.heap 0 (Pinned.utf8FirstZ.map fun z=>Value.int .u8 (z:Nat)).toArray
 let h2:=put h1 1 (([128,191,160,191,128,159,144,191,128,143,0,0,0,0,0,0,0,0,0,0,0,0,0,0,0,0,0,0,0,0,0,0]:List Int).map fun z=>Value.int .u8 z).toArray
 { w0 with heap:=h2 }
theorem laid_met(os:Os)(args:Array Value):laidMet Tryd.prog Rows.onionFailsUptoRow.laid ((laidWorld os).forCall (fun _ _=>0) ⟨#[],args,[]⟩).memory :=
 laidMet_of_run' 8 (by kernel_rfl) (by kernel_rfl)
theorem witness_row(os:Os){H:Type}(enc:TypeId × Value→H) :
  (Rows.OpenSpec.upto Rows.onionFailsSpec).preRow enc Tryd.prog Tryd.f4 Rows.onionFailsUptoRow.domain false Rows.onionFailsUptoRow.laid ((laidWorld os).forCall (fun _ _=>0) ⟨#[],#[.slice none 0 0,.int .i64 0,.slice none 0 0],[]⟩).memory #[.slice none 0 0,.int .i64 0,.slice none 0 0]:=by
 have hw:(DataW.whole enc Tryd.prog ((laidWorld os).forCall (fun _ _=>0) ⟨#[],#[.slice none 0 0,.int .i64 0,.slice none 0 0],[]⟩).memory Tryd.f4.params.toList (Rows.OpenSpec.upto Rows.onionFailsSpec).vars false ((#[.slice none 0 0,.int .i64 0,.slice none 0 0]:Array Value)).toList 8).map (fun x=>(x.1,x.2.1)) =
   some ([.nil,.lit (.int .i64 0),.nil],[]):=by kernel_rfl
 obtain⟨⟨x1,x2,x3⟩,hx,hx1⟩:=Option.map_eq_some_iff.1 hw
 simp only[Prod.mk.injEq] at hx1
 obtain⟨rfl,rfl⟩:=hx1
 exact OpenSpec.preRow_of_cond 8 hx (by kernel_rfl) (fun k hk=>by cases hk;kernel_rfl) (by kernel_rfl) (laid_met os _)
theorem lifted(os:Os)(started:os.Started)(H:Type)(enc:TypeId × Value→H)(F:Stop.Interp) :
  ReturnsInHanded {} Tryd.checked os 4 .any ((Rows.OpenSpec.upto Rows.onionFailsSpec).preRow enc Tryd.prog Tryd.f4 Rows.onionFailsUptoRow.domain false Rows.onionFailsUptoRow.laid) (((Rows.OpenSpec.upto Rows.onionFailsSpec).at F).post enc Tryd.prog Tryd.f4 false true false false):=by
 refine returnsInHanded_of_row (C:=Tryd.checked) (s:=Rows.OpenSpec.upto Rows.onionFailsSpec) Vm.Tryd.own started (by kernel_rfl) Tryd.func4
  (witness_row_at (enc:=enc) (C:=Tryd.checked) false (laidWorld os) #[.slice none 0 0,.int .i64 0,.slice none 0 0] rfl (by kernel_rfl) (by kernel_rfl) (by kernel_rfl) (witness_row os enc)) ?_
 intro W base args ds gs before hval0 hW _ hcond0 _ _ _ _
 have hk:Rows.uptoSmall H (ds++gs)=true:=hcond0 _ rfl
 show Calls Tryd.prog 4 args W fun e W'=>∃ v,e = .returned v∧Rows.onionFailsSpec.post enc Tryd.prog Tryd.f4 false true false false W args v W'
 have hval:∀ (j:Nat) t v,Tryd.f4.params[j]? = some t→args[j]? = some v→Value.okWide Tryd.prog W .any base t v:=hval0
 have hW':DataW.Whole enc Tryd.prog Tryd.f4.params.toList Rows.onionFailsSpec.vars false W args.toList ds gs before:=hW
 obtain⟨p,q,hA0,hV,hbf,hfz,hnd⟩:=hW
 have hA:DataW.TrodAll enc Tryd.prog W 0 (fun _=>true) true Tryd.f4.params.toList args.toList ds p:=hA0
 rw[Tryd.params4] at hA hval
 obtain⟨v0,vs0,d0,ds0,p0,q0,hargs,rfl,rfl,h0,r0⟩:=trodAll_cons hA
 obtain⟨v1,vs1,d1,ds1,p1,q1,rfl,rfl,rfl,h1,r1⟩:=trodAll_cons r0
 obtain⟨v2,vs2,d2,ds2,p2,q2,rfl,rfl,rfl,h2,r2⟩:=trodAll_cons r1
 obtain⟨rfl,rfl,rfl⟩:=trodAll_nil r2
 obtain rfl:args = #[v0,v1,v2]:=by cases args;simp_all
 have hV:DataW.TrodVars enc Tryd.prog W (fun _=>true) [] gs q:=hV
 obtain⟨rfl,rfl⟩:=trodVars_none hV
 refine law_step (s:=Rows.onionFailsSpec) rfl (by rw[Tryd.params4]; exact fun t ht=>of_decide_eq_true (by revert t;exact of_decide_eq_true (by kernel_rfl))) rfl hW' rfl ?_
 have hk:Rows.uptoBulkAll [d0,d1,d2]≤1048576:=of_decide_eq_true hk
 obtain⟨cs0,n0,c0,ex0,sr0,sh0,sn0,sl0⟩:=open_keys Tryd.underlying22 Tryd.underlying24 Tryd.underlying5 (by kernel_rfl) (by kernel_rfl) (hval 0 22 v0 rfl rfl) h0 (Nat.le_trans (bulk_part (by simp)) hk)
 obtain⟨a1,rfl,_,_,w1⟩:=open_int Tryd.underlying3 (hval 1 3 v1 rfl rfl) h1
 obtain⟨pc2,off2,len2,cap2,ex2,lb2,hr2,hf2,ho2,hb2,hl2,hc2⟩:=open_bytes Tryd.underlying23 Tryd.underlying5 (by kernel_rfl) (hval 2 23 v2 rfl rfl) h2
 have hl2:len2≤1048576:=Nat.le_trans hl2 (Nat.le_trans (bulk_part (by simp)) hk)
 obtain⟨H',lg,hc⟩:=law4 c0 ex0 cap2 ex2 a1 sh0 sn0 (show PB pc2 off2 len2 from⟨hf2,ho2,by omega,lb2,hb2⟩)
 exact enter_law (us := [v0,.int .i64 a1,v2]) hc (.cons sr0 (.cons (.int _ _) (.cons hr2 .nil)))
theorem closed:joinedFacts Tryd.prog 4 Tryd.f4 (Rows.OpenSpec.upto Rows.onionFailsSpec).bare Rows.onionFailsUptoRow=true:=by
 unfold joinedFacts
 simp only[Bool.and_eq_true]
 repeat' with_reducible apply And.intro
 all_goals first
  | with_reducible exact f_mayEnter
  | with_reducible exact lifted_of f_liftsFinal (by kernel_rfl)
  | with_reducible exact made_of f_make (by kernel_rfl)
  | kernel_rfl
theorem row_holds:Rows.OnionFailsUptoSaid :=
 OpenClaim.holds_of_cond 4 Tryd.f4 rfl rfl rfl rfl rfl rfl rfl ⟨rfl,rfl,rfl,rfl,rfl⟩ rfl rfl rfl rfl rfl (by kernel_rfl) Tryd.func4 closed
  (of_decide_eq_true (by kernel_rfl)) (by unfold Func.isWrapper;first|(rw[if_pos (by decide +kernel)]; kernel_rfl)|(rw[if_neg (by decide +kernel)]; exact⟨rfl,rfl⟩))
  (fun os started H enc _ F=>by rw[OpenClaim.pre_eq_preRow]; exact lifted os started H enc F)
theorem proved:Rows.OnionFailsUptoCardSaid :=
 Claim7.holds_tied_plain_at .later [] [.data,.pinned] true (true, "06250595897cc1c13b4c01e2e877dafd849d4383f9740f929699d2482b562572") false
  row_holds (fun _ h=>by cases h) (by kernel_rfl) (fun _ h=>by cases h) onionFailsUpto_row_tie rfl ⟨rfl,rfl⟩ (by kernel_rfl) rfl
  (fun f fn hf hfn=>by
   obtain rfl:f=4:=Option.some.inj ((show Tryd.prog.funcNamed "tollhouse/tollhouselaw07.OnionFails" = some 4 by kernel_rfl).symm.trans hf) |>.symm
   obtain rfl:fn=Tryd.f4:=(Option.some.inj (Tryd.func4.symm.trans hfn)).symm
   exact⟨by kernel_rfl,fun j t ht=>by
    rw[Tryd.params4] at ht
    have h3:t∈([22,3,23]:List TypeId):=by
     have:=Array.mem_of_getElem? ht
     simpa using this
    revert t
    intro t _ h3
    simp only[List.mem_cons,List.not_mem_nil,or_false] at h3
    rcases h3 with rfl|rfl|rfl
    ·exact(show Tryd.prog.wantsStandIn 22=false by kernel_rfl)
    ·exact(show Tryd.prog.wantsStandIn 3=false by kernel_rfl)
    ·exact(show Tryd.prog.wantsStandIn 23=false by kernel_rfl)⟩)
  (by kernel_rfl)
end Go.Proofs.YtfmhlogapbpnbaaDoor.onionFails
