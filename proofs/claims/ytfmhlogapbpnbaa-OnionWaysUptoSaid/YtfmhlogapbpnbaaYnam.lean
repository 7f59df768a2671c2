/-
  ONION, PART 17: Build.
-/
import Derived.Test.YtfmhlogapbpnbaaYnal
set_option linter.unusedVariables false
set_option linter.unusedSimpArgs false
set_option linter.unusedSectionVars false

namespace Go.Proofs.Vm
set_option maxRecDepth 100000
open Go.Vm
noncomputable section
def mkr60:List Bool := [true,true,true,true,true,false,false,false,true,true,false,true,true,true,false,false,false,true,true,true,true,true,true,true,true,true,true,true,true,true,true,true,true,true,true,true,true,true,true,true,true,true,true,true,true,true,true,true,true,true,true,true,true,true,true,true,true,true,true,true,true,true,true,true,true,true,true,true,true,true,true,true,true,true,true,true,true,true,true,true,true,true,true,true,true,true,true,true,true,true,true,true]
def mks60:List Bool := [true,true,true,true,true,true,false,true,true,true,true,true,true,true,true,false,false,true,true,true,true,true,true,true,true,true,true,true,true,true,true,true,true,true,true,true,true,true,true,true,true,true,true,true,true,true,true,true,true,true,true,true,true,true,true,true,true,true,true,true,true,true,true,true,true,true,true,true,true,true,true,true,true,true,true,true,true,true,true,true,true,true,true,true,true,true,true,true,true,true,true,true]
def frF60:Fr := [.top,.top,.top,.top,.top,.top,.top,.top,.slc 0 0 2112 2112 1,.int .i64 0,.top,.top,.top,.top,.top,.top,.top,.top,.top,.top,.top,.top,.top,.top,.top,.top,.top,.top,.top,.top,.top,.top,.top,.top,.top,.top,.top,.top,.top,.top,.top,.top,.top,.top,.top,.top,.top,.top,.top,.top,.top,.top,.top,.top,.top,.top,.top,.top,.top,.top,.top,.top,.top,.top,.top,.top,.top,.top,.top,.top,.top,.top,.top,.top,.top,.top,.top,.top,.top,.top,.top,.top,.top,.top,.top,.top,.top,.top,.top,.top,.top,.top]
def frE60:Fr := [.top,.top,.top,.top,.top,.top,.top,.top,.slc 15 0 2112 2112 1,.int .i64 0,.top,.top,.top,.top,.top,.top,.top,.top,.top,.top,.top,.top,.top,.top,.top,.top,.top,.top,.top,.top,.top,.top,.top,.top,.top,.top,.top,.top,.top,.top,.top,.top,.top,.top,.top,.top,.top,.top,.top,.top,.top,.top,.top,.top,.top,.top,.top,.top,.top,.top,.top,.top,.top,.top,.top,.top,.top,.top,.top,.top,.top,.top,.top,.top,.top,.top,.top,.top,.top,.top,.top,.top,.top,.top,.top,.top,.top,.top,.top,.top,.top,.top]
def mkf60:List Bool := [true,true,true,true,true,true,true,true,false,false,true,true,true,true,true,true,true,true,true,true,true,true,true,true,true,true,true,true,true,true,true,true,true,true,true,true,true,true,true,true,true,true,true,true,true,true,true,true,true,true,true,true,true,true,true,true,true,true,true,true,true,true,true,true,true,true,true,true,true,true,true,true,true,true,true,true,true,true,true,true,true,true,true,true,true,true,true,true,true,true,true,true]
def seqC:List Code->Code->Code
 | [],z=>z
 | c::cs,z => .seq c (seqC cs z)
theorem qyc{P:Program}{Q Q':Exit->Act->World->Prop}{z:Code}:∀ (cs:List Code) {a:Act} {w:World},SeqWp P cs Q' a w->(∀ a w,Q' .normal a w->z.wpIn Fence.wide 0 P Q a w)->(seqC cs z).wpIn Fence.wide 0 P Q a w
 | [],a,w,h,hz=>hz a w h
 | c::cs,a,w,h,hz=>by
  refine wpIn_seq (wpIn_wide.2 (wp_mono h ?_))
  rintro e a w ⟨rfl,h⟩
  exact qyc cs h hz
theorem quc{P:Program}{Q:Exit->Act->World->Prop}{ds:List Code}:∀ (cs:List Code) {a:Act} {w:World},SeqWp P (cs++ds) Q a w->SeqWp P cs (fun _ a w=>SeqWp P ds Q a w) a w
 | [],a,w,h=>h
 | c::cs,a,w,h=>wp_mono h (by
  rintro e a w ⟨rfl,h⟩
  exact⟨rfl,quc cs h⟩)
theorem qo5{ρ:Rho}{w:World}{fr:Fr}{tmps:Array Value}{i:Nat}{x:AV}{v:Value}(h:FRel ρ w fr tmps)(hx:VRel ρ w x v):FRel ρ w (fr.set i x) (tmps.setIfInBounds i v):=by
 have hl:=h.len
 refine⟨by simpa using hl,fun j a u ha hu => ?_⟩
 rw[Array.toList_setIfInBounds,List.getElem?_set] at hu
 rw[List.getElem?_set] at ha
 by_cases hij:i=j
 ·rw[if_pos hij] at ha hu
  split at ha
  ·split at hu
   ·cases ha;cases hu;exact hx
   ·cases hu
  ·cases ha
 ·rw[if_neg hij] at ha hu
  exact h.at_ j a u ha hu
theorem qvx{ρ:Rho}{w:World}{f:Nat}{y:AV}{v:Value}(h:VRel ρ w (.fn f [] [y]) v):∃ pv,v = .func (.func f) #[] #[pv]/\VRel ρ w y pv:=by
 cases h with
 | fn _ _ _ us vs hl hl' hr hr' =>
  obtain rfl:us = []:=List.eq_nil_of_length_eq_zero hl
  obtain⟨pv,rfl⟩:∃ pv,vs = [pv]:=by
   rcases vs with _|⟨a,_|⟨b,r⟩⟩
   ·simp at hl'
   ·exact⟨a,rfl⟩
   ·simp at hl'
  exact⟨pv,rfl,hr' 0 y pv rfl rfl⟩
theorem qzm:rf60 = .rangeFunc (.tmp 60) #[61,62] asg60 bod60:=by kernel_rfl
theorem qyk:nmL 9 frc60=true:=by kernel_rfl
theorem qy4(i:Int)(ks:List AV):((forget mkr60 frc60).set 61 (.int .i64 i)).set 62 (.agg ks)=fr60 i ks:=rfl
theorem q1u{hc:List AV}{n c:Nat}{e:Bool}{ns:List AV}{kcs fc:List AV}{fo fl fcap:Nat}{hs:List Hop}{L:List (List UInt8)}{hash fil:List UInt8}(h:In60 hc n kcs fc fo fl hs L hash fil) :
  Back (S60 hc n c e ns kcs fc fo fl fcap hs L hash fil) 9 8 4 n kcs where
 box _ _:=rfl
 keys _ _:=rfl
 len:=by rw[h.keys,List.length_map,qdb h.l32,h.len]; exact Nat.le_refl _
 bs_lt:=by omega
 n_lt:=by have:=h.n8;omega
theorem qzl{hc:List AV}{n c:Nat}{e:Bool}{ns:List AV}{kcs fc:List AV}{fo fl fcap:Nat}{hs:List Hop}{L:List (List UInt8)}{hash fil:List UInt8}(h:In60 hc n kcs fc fo fl hs L hash fil)(hns:flatL ns)
  {ρ:Rho} {w:World} {a:Act} {Q:Exit->Act->World->Prop} (hg:HRel ρ w (fun b=>(S60 hc n c e ns kcs fc fo fl fcap hs L hash fil 0)[b]?)) (hf:FRel ρ w frc60 a.tmps)
  (hQ:∀ ρ' w',HRel ρ' w' (fun b=>(S60 hc n c e ns kcs fc fo fl fcap hs L hash fil n)[b]?)->FRel ρ' w' frc60 a.tmps->Ext 9 ρ w ρ' w'->w'.heap[w.heap.size]? = some (.deferred (some []))->Q .normal { a with defers := { target := .collected w.heap.size,args := #[] }::a.defers } w') :
  rf60.wpIn Fence.wide 0 Try.prog Q a w:=by
 rw[qzm]
 refine wpIn_rangeFunc fun fn _ => ?_
 have hsz:a.tmps.size=92:=by
  have:=hf.len
  rw[show frc60.length=92 from rfl] at this
  simpa using this
 obtain⟨v60,hv60,hr60⟩:∃ v,a.tmps[60]? = some v/\VRel ρ w (.fn 105 [] [.ptr 8 0]) v:=by
  have hl:60<a.tmps.size:=by omega
  exact⟨_,Array.getElem?_eq_getElem hl,hf.at_ 60 _ _ rfl (by rw[Array.getElem?_toList]; exact Array.getElem?_eq_getElem hl)⟩
 obtain⟨pv,rfl,hpv⟩:=qvx hr60
 have hev:a.eval (.tmp 60) = .func (.func 105) #[] #[pv]:=by
  show a.tmps.getD 60 undef=_
  rw[Array.getD_eq_getD_getElem?,hv60]
  rfl
 generalize hrec:({ state := .ready,pending:=none,fn,tmps:=a.tmps,params := #[61,62],assign:=asg60,body:=bod60,defers:=w.heap.size }:Loop)=rec
 generalize hW:(w.alloc (.deferred (some []))).alloc (.loop rec)=W1
 obtain⟨a1,a2,a3⟩:=qjn (ρ:=ρ) (o := .deferred (some [])) rfl hg
 obtain⟨b1,b2,b3⟩:=qjn (ρ:=ρ) (o := .loop rec) rfl a1
 have hst:St 9 ρ w (w.heap.size+1) rec (S60 hc n c e ns kcs fc fo fl fcap hs L hash fil 0) ρ W1:=by
  rw[<-hW]
  refine⟨b1,(a2 9).trans (b2 9),?_,?_⟩
  ·have:=World.alloc_heap_new (w.alloc (.deferred (some []))) (.loop rec); rwa [World.size_alloc] at this
  ·have h1:((w.alloc (.deferred (some []))).alloc (.loop rec)).heap[w.heap.size]? = (w.alloc (.deferred (some []))).heap[w.heap.size]? := by
    show((w.alloc (.deferred (some []))).heap.push _)[w.heap.size]? = _
    rw[Array.getElem?_push,if_neg (by rw[World.size_alloc]; omega)]
   have hd:rec.defers=w.heap.size:=by rw[<-hrec]
   rw[hd]
   exact h1.trans (World.alloc_heap_new w _)
 refine⟨w.heap.size+1,[{ target := .collected w.heap.size,args := #[] }],W1,{ target := .fn (.func 105) #[pv],args := #[.func (.yield (w.heap.size+1)) #[] #[]] },W1,105,
  #[.func (.yield (w.heap.size + 1)) #[] #[], pv], W1, ?_, ?_, ?_, ?_, fun h => (by cases h), ?_⟩
 ·rw[<-hW,<-hrec]; exact run_enterLoop_outer _ _ _ _ _
 ·simp only[resolve,hev]
  simp[go_sem]
 ·intro f' _;trivial
 ·have e105:∀ args w,(callFunc 105 args).run Try.prog w = .ok (.enter 105 args) w:=ok105.real
  simp[invoke,go_sem,e105]
 ·have hready:rec.state = .ready:=by rw[<-hrec]
  have hpend:rec.pending=none:=by rw[<-hrec]
  have it:=qy3 (q1u (c:=c) (e:=e) (ns:=ns) (fcap:=fcap) h) (ρ0:=ρ) (w0:=w) (l:=w.heap.size+1) (rec:=rec) (pv:=pv) (by rw[<-hrec]; rfl) (fun ρ1 W E=>hpv.monoN E rfl) (fun j hj ρ1 W kv hs1 hkv=>by
   obtain⟨fr1,H1,lg1,fr2,H2,lg2,fr3,g1,g2,g3⟩:=q0a (c:=c) (e:=e) (fcap:=fcap) h hns hj (w.heap.size+1)
   have ft:FRel ρ1 W (fr60 (Int.ofNat (n - 1 - j)) ((kcs.drop ((n - 1 - j)*32)).take 32)) ((rec.params.zip #[.int .i64 (Int.ofNat (n - 1 - j)),kv]).foldl (fun t (p,v)=>t.setIfInBounds p v) rec.tmps):=by
    rw[<-qy4]
    have e1:((rec.params.zip #[.int .i64 (Int.ofNat (n - 1 - j)),kv]).foldl (fun t (p,v)=>t.setIfInBounds p v) rec.tmps)=(a.tmps.setIfInBounds 61 (.int .i64 (Int.ofNat (n - 1 - j)))).setIfInBounds 62 kv:=by
     rw[<-hrec,<-Array.foldl_toList,Array.toList_zip]
     rfl
    rw[e1]
    exact qo5 (qo5 (qdh (VRels.monoN hs1.ext hf qyk)) (.int _ _)) hkv
   rw[<-show rec.assign=asg60 by rw[<-hrec]] at g1
   rw[<-show rec.body=bod60 by rw[<-hrec]] at g2
   exact qwp (Nat.le_succ _) hready hpend g1 g2 g3 hs1 ft) hst
  refine CallsIn.mono it ?_
  rintro en W ⟨⟨v,rfl⟩,ρ1,hs1⟩
  refine⟨none,W.putObj (w.heap.size+1) (.loop { rec with state := .exhausted }),?_,?_⟩
  ·have:=run_endLoop (P:=Try.prog) hs1.rec_ (by rw[hready]; intro h;cases h)
   rw[this,hpend]
  ·have ht:=hs1.turn (rec' := { rec with state := .exhausted }) (Nat.le_succ _) rfl
   refine hQ ρ1 _ ht.mem (VRels.monoN ht.ext hf qyk) ht.ext ?_
   have:=ht.def_
   rw[<-hrec] at this
   rw[<-hrec]
   exact this
theorem q1p:qaf Try.prog (rs 9 c60)=suf60:=by kernel_rfl
theorem q3f:c60=seqC [lc (rs 0 c60),lc (rs 1 c60),lc (rs 2 c60),lc (rs 3 c60),lc (rs 4 c60),lc (rs 5 c60),lc (rs 6 c60),lc (rs 7 c60)] (.seq (.seq (lc (lc (rs 8 c60))) (.block 2 rf60)) (rs 9 c60)):=by kernel_rfl
theorem quf:Try.f60.body=some c60:=by kernel_rfl
theorem q0l:Try.f60.ntmps=92:=by kernel_rfl
theorem res60:resOf Try.prog Try.f60.results.toList=some [.tmp 8,.tmp 9]:=by kernel_rfl
theorem qqx{hc:List AV}{n c:Nat}{e:Bool}{nn kcs fc:List AV}{fo fl fcap:Nat}{hs:List Hop}{L:List (List UInt8)}{hash fil nonce nx bd:List UInt8}(h1:nonce.length=32)(h2:nx.length=32)(h3:bd.length=2048)(B3 B4 B5 B8 B0:Blk)(hsc:List AV) :
  ∃ lg,Goes ((rs 9 c60).wp Try.prog) 0 fr60s [B0,.cells (nonce.map by8),.cells hsc,B3,B4,B5,.cells [.slc 9 0 2048 2048 1],.cells (nx.map by8),B8,.cells (bd.map by8)] [] .ret frF60 [.cells ((nonce++nx++bd).map by8)] lg:=by
 have hv:=(vsuf vfn0 oz0 of1 hf0 B0 B3 B4 B5 B8 (nonce.map by8) hsc (nx.map by8) (bd.map by8) (fun ex fr H=>ex = .ret/\forget mkf60 fr=frE60/\∃ X0 X1 X2 X3 X4 X5 X6 X7 X8 X9 X10 X11 X12 X13 X14,H = [X0,X1,X2,X3,X4,X5,X6,X7,X8,X9,X10,X11,X12,X13,X14,.cells ((nonce++nx++bd).map by8)])).mpr (by
  have l1:((nonce++nx).map by8).length=64:=by rw[List.length_map,List.length_append,h1,h2]
  have e3:ops0.ext (bd.map by8) 0 2048=bd.map by8:=by rw[nExt,List.drop_zero,List.take_of_length_le (by rw[List.length_map,h3]; exact Nat.le_refl _)]
  have e4:ops0.app [] (nonce.map by8)=nonce.map by8:=rfl
  have e5:ops0.app (nonce.map by8) (nx.map by8)=(nonce++nx).map by8:=by rw[nApp,List.map_append]
  have e6:ops0.ext ((nonce++nx).map by8) 0 64=(nonce++nx).map by8:=by rw[nExt,List.drop_zero,List.take_of_length_le (by rw[l1]; exact Nat.le_refl _)]
  have e7:ops0.app ((nonce++nx).map by8) (bd.map by8)=(nonce++nx++bd).map by8:=by rw[nApp,<-List.map_append]
  rw[qa5 h1,qa5 h1,qa5 h2,qa5 h2,e4,qa5 h1,e5,e6,e3,e7]
  simp only[qbl,nLe,nLen,l1,List.length_map,h1,h2,h3,decide_eq_true_eq]
  simp only[Nat.le_refl,true_and]
  exact⟨rfl,_,_,_,_,_,_,_,_,_,_,_,_,_,_,_,rfl⟩)
 obtain⟨ex,fr,H,lg,hg,rfl,hfr,X0,X1,X2,X3,X4,X5,X6,X7,X8,X9,X10,X11,X12,X13,X14,rfl⟩:=qgw (P:=Try.prog) qx9 (qai _) qpv hv (Nat.zero_le _) (rs 9 c60) q1p
 have g1:=hg.post (Weak.forget (Nat.zero_le _) mkf60)
 rw[hfr] at g1
 have g2:=g1.post (Weak.pickV [15] mkf60 0 (by simp) (by simp) (by simp))
 have e1:∀ φ,forget mkf60 (renL (pickN [15]) φ true frE60)=frF60:=by
  intro φ
  have p:pickN [15] 15=some 0:=rfl
  unfold frE60 mkf60 frF60
  simp only[renL,ren,forget,p]
 rw[e1] at g2
 have e2:pickH (viewF [X0,X1,X2,X3,X4,X5,X6,X7,X8,X9,X10,X11,X12,X13,X14,.cells ((nonce++nx++bd).map by8)] [15] 0) [15] [X0,X1,X2,X3,X4,X5,X6,X7,X8,X9,X10,X11,X12,X13,X14,.cells ((nonce++nx++bd).map by8)] = [.cells ((nonce++nx++bd).map by8)]:=by
  show [renB _ _ true (.cells ((nonce++nx++bd).map by8))]=_
  simp only[renB,qaa (qac _)]
 rw[e2] at g2
 exact⟨_,g2⟩
def qcy(hs:List Hop)(L:List (List UInt8))(nn hash:List UInt8):List UInt8 :=
 let n:=hs.length
 let K:=keysL L nn n
 let p:=bstep K hs hash (fillL K (n - 1)) n n
 nn++p.2++p.1
theorem q0z{ks hc:List AV}{n:Nat}(c:Nat)(e:Bool){hs:List Hop}{L:List (List UInt8)}{nn hash:List UInt8}{ko:Nat}(kc:Nat)(ke:Bool)(h:Arg60 ks hc n hs L nn hash ko) :
  CallTo Try.prog 60 [.ros ks ko n kc ke,.ros hc 0 n c e,.agg (nn.map by8),.agg (hash.map by8)] [] (.tup [.slc 0 0 2112 2112 1,.int .i64 0]) [.cells ((qcy hs L nn hash).map by8)] [] where
 real:=ok60.real
 grow:=Nat.zero_le _
 keep b hb:=by cases hb
 does ρ w us hg hvs:=by
  have hn:=h.hp.1
  refine(callsIn_wide (n:=0)).1 (callsIn_of_wp_marks Try.func60 quf trivial ?_)
  obtain⟨fr1,H1,lg1,g1,q1⟩:=qnd (P:=Try.prog) (qct qx9 qs0) qpv pcs60 200 0 (join [.ros ks ko n kc ke,.ros hc 0 n c e,.agg (nn.map by8),.agg (hash.map by8)] (pad 88)) [] [] (fun fr H=>Pre60 hc n c e nn hash hs (keysL L nn n) fr H) (Nat.zero_le _) (by
   rw[q2s]
   exact qzc c e kc ke h)
  obtain⟨fc,fo,fl,fcap,hin,hw⟩:=q1
  have g2:=g1.post hw
  rw[q3f]
  have hf0:=qxk hvs 92
  rw[q0l]
  refine qyc _ (quc (ds := [lc (lc (rs 8 c60))]) _ (g2.does ρ w { tmps:=us.toArray++Array.replicate (92 - us.toArray.size) undef,defers := [] } (fun e1 a1 w1=>e1 = .normal/\a1.defers = []/\∃ ρ1,HRel ρ1 w1 (fun b=>(S60 hc n c e (nn.map by8) ((keysL L nn n).flatten.map by8) fc fo fl fcap hs (keysL L nn n) hash (fillL (keysL L nn n) (n - 1)) 0)[b]?)/\FRel ρ1 w1 frc60 a1.tmps/\Ext 0 ρ w ρ1 w1) hg hf0 (fun a' w' ρ' k1 k2 k3 k4=>⟨rfl,k3,ρ',k1,k2,k4⟩))) ?_
  intro a1 w1 hs1
  refine wpIn_seq (wpIn_seq (wpIn_wide.2 (wp_mono hs1 ?_)))
  rintro e2 a2 w2 ⟨rfl,_,hd2,ρ2,m2,f2,E2⟩
  refine wpIn_block (qzl hin (qac _) m2 f2 fun ρ3 w3 m3 f3 E3 hD => ?_)
  refine wpIn_wide.2 ?_
  have b32:=qc2 (L:=keysL L nn n) (hs:=hs) (hash:=hash) (fil:=fillL (keysL L nn n) (n - 1)) (n:=n) (by rw[hin.fil.1]; exact hin.fl_le) (fun h hm=>let ⟨i,hi⟩:=List.getElem?_of_mem hm;(hin.hops.2 i h hi).1) n
  obtain⟨lg,g4⟩:=qqx (hc:=hc) (n:=n) (c:=c) (e:=e) (nn:=nn.map by8) (kcs := []) (fc:=fc) (fo:=fo) (fl:=fl) (fcap:=fcap) (hs:=hs) (L:=L) (hash:=hash) (fil:=hash) h.nn b32.2 b32.1 (.cells [.int .i64 (Int.ofNat (n - 1))]) (.cells ((keysL L nn n).flatten.map by8)) (.cells [.ros fc fo fl fcap false]) (.cells [.slc 4 0 n n 32]) (.cells [.ros hc 0 n c e]) (hash.map by8)
  refine g4.does ρ3 w3 _ _ m3 (qdh (bs:=mks60) f3) fun a4 w4 ρ4 m4 f4 d4 E4 => ?_
  have hD4:w4.heap[w2.heap.size]? = some (.deferred (some [])):=(E4.keep _ (Array.getElem?_eq_some_iff.1 hD).1 (m3.noLoop m3.bound hD rfl)).trans hD
  show LeavesInM _ _ _ _ _ _ a4.defers _ _
  rw[d4]
  show LeavesInM _ _ _ _ _ _ ({ target := .collected w2.heap.size,args := #[] }::a2.defers) _ _
  rw[hd2]
  refine⟨(by intro h;cases h),.inl ⟨w2.heap.size,_,rfl,run_takeDeferred hD4,?_⟩⟩
  have m5:=qpr hD4 rfl (o' := .deferred none) rfl m4
  have f5:FRel ρ4 (w4.putObj w2.heap.size (.deferred none)) frF60 a4.tmps:=⟨f4.len,fun i x v hx hv=>qok hD4 rfl rfl (f4.at_ i x v hx hv)⟩
  obtain⟨vs,hvs2,hres⟩:=qke (A:=vcA kdS noCn noLn) (holds:=fun p=>p) (P:=Try.prog) (fn:=Try.f60) (qct (qa3 Try.prog) (qai _)).toGood (fr:=frF60) (H := [.cells ((nn++(bstep (keysL L nn n) hs hash (fillL (keysL L nn n) (n - 1)) n n).2++(bstep (keysL L nn n) hs hash (fillL (keysL L nn n) (n - 1)) n n).1).map by8)]) (k:=fun vs=>vs = [.slc 0 0 2112 2112 1,.int .i64 0]) res60 rfl
  subst hvs2
  obtain⟨v,hv1,hv2⟩:=hres ρ4 _ a4.tmps m5 f5
  refine⟨v,hv1,v,ρ4,rfl,?_,hv2,?_⟩
  ·have eb:qcy hs L nn hash=nn++(bstep (keysL L nn n) hs hash (fillL (keysL L nn n) (n - 1)) n n).2++(bstep (keysL L nn n) hs hash (fillL (keysL L nn n) (n - 1)) n n).1:=by
    unfold qcy
    rw[hn]
   rw[eb]
   exact m5
  ·exact qu0 hD4 rfl rfl E2.size (E2.trans ((E3.le (Nat.zero_le _)).trans E4))
end
end Go.Proofs.Vm

namespace Go.Proofs.Vm
set_option maxRecDepth 100000
open Go.Vm
noncomputable section
def PXm(ms fs:List AV)(N:Nat):Prop:=∃ m f:List UInt8,ms=m.map by8/\fs=f.map by8/\m.length=2304/\f.length=N/\N<=2304
noncomputable def lp61v:VC:=vp [1,1,1,0,1,0,0] vf61.body
noncomputable def lp61f:VC:=vp [1,1,1,1,1,1,1,0,1,0,0] vf61.body
noncomputable def lp61x:VC:=vp [1,1,1,1,1,1,1,0,1,0,0,1,0,0,1,1,1,0,0] vf61.body
noncomputable def lp61b:VC:=vp [1,1,1,1,1,1,1,1,1,1,0,1,0,0] vf61.body
def fr61v(ks hc:List AV)(n c:Nat)(e:Bool)(ko kn kc:Nat)(ke:Bool)(i:Int):Fr := [.ros ks ko kn kc ke,.ros hc 0 n c e,.top,.top,.top,.top,.ptr 0 0,.ptr 1 0,.nils,.int .i64 0,.int .i64 (Int.ofNat n),.int .i64 i,.top,.top,.top,.top,.top,.top,.top,.top,.top,.top,.top,.top,.top,.top,.top,.top,.top,.top,.top,.top,.top,.top,.top,.top,.top,.top,.top,.top,.top,.top,.top,.top,.top,.top,.top,.top,.top,.top,.top,.top,.top,.top,.top,.top,.top,.top,.top,.top,.top,.top,.top,.top,.top,.top,.top,.top,.top,.top,.top,.top,.top,.top,.top,.top,.top,.top,.top,.top,.top,.top,.top,.top,.top,.top,.top,.top,.top,.top,.top,.top,.top,.top,.top,.top,.top,.top,.top,.top,.top,.top,.top,.top,.top,.top,.top,.top,.top,.top,.top,.top,.top,.top,.top,.top,.top,.top,.top,.top,.top,.top,.top,.top,.top,.top,.top,.top,.top,.top,.top,.top,.top,.top,.top,.top,.top,.top,.top,.top,.top,.top,.top,.top,.top,.top,.top,.top,.top]
def mk61v:List Bool := [false,false,true,true,true,true,false,false,false,false,false,false,true,true,true,true,true,true,true,true,true,true,true,true,true,true,true,true,true,true,true,true,true,true,true,true,true,true,true,true,true,true,true,true,true,true,true,true,true,true,true,true,true,true,true,true,true,true,true,true,true,true,true,true,true,true,true,true,true,true,true,true,true,true,true,true,true,true,true,true,true,true,true,true,true,true,true,true,true,true,true,true,true,true,true,true,true,true,true,true,true,true,true,true,true,true,true,true,true,true,true,true,true,true,true,true,true,true,true,true,true,true,true,true,true,true,true,true,true,true,true,true,true,true,true,true,true,true,true,true,true,true,true,true,true,true,true,true,true]
def fr61e:Fr := [.top,.top,.top,.top,.top,.top,.top,.top,.nils,.int .i64 1,.top,.top,.top,.top,.top,.top,.top,.top,.top,.top,.top,.top,.top,.top,.top,.top,.top,.top,.top,.top,.top,.top,.top,.top,.top,.top,.top,.top,.top,.top,.top,.top,.top,.top,.top,.top,.top,.top,.top,.top,.top,.top,.top,.top,.top,.top,.top,.top,.top,.top,.top,.top,.top,.top,.top,.top,.top,.top,.top,.top,.top,.top,.top,.top,.top,.top,.top,.top,.top,.top,.top,.top,.top,.top,.top,.top,.top,.top,.top,.top,.top,.top,.top,.top,.top,.top,.top,.top,.top,.top,.top,.top,.top,.top,.top,.top,.top,.top,.top,.top,.top,.top,.top,.top,.top,.top,.top,.top,.top,.top,.top,.top,.top,.top,.top,.top,.top,.top,.top,.top,.top,.top,.top,.top,.top,.top,.top,.top,.top,.top,.top,.top,.top,.top,.top,.top,.top,.top,.top]
def mk61e:List Bool := [true,true,true,true,true,true,true,true,false,false,true,true,true,true,true,true,true,true,true,true,true,true,true,true,true,true,true,true,true,true,true,true,true,true,true,true,true,true,true,true,true,true,true,true,true,true,true,true,true,true,true,true,true,true,true,true,true,true,true,true,true,true,true,true,true,true,true,true,true,true,true,true,true,true,true,true,true,true,true,true,true,true,true,true,true,true,true,true,true,true,true,true,true,true,true,true,true,true,true,true,true,true,true,true,true,true,true,true,true,true,true,true,true,true,true,true,true,true,true,true,true,true,true,true,true,true,true,true,true,true,true,true,true,true,true,true,true,true,true,true,true,true,true,true,true,true,true,true,true]
def fr61x(hc:List AV)(n c:Nat)(e:Bool)(i:Int)(N:Nat)(k:Int):Fr := [.top,.ros hc 0 n c e,.top,.top,.top,.top,.ptr 0 0,.ptr 1 0,.top,.top,.int .i64 (Int.ofNat n),.top,.slc 2 0 n n 32,.slc 3 0 2304 2304 1,.slc 5 0 N N 1,.int .i64 i,.slc 4 0 2304 2304 1,.int .i64 k,.top,.top,.top,.top,.top,.top,.top,.top,.top,.top,.top,.top,.top,.top,.top,.top,.top,.top,.top,.top,.top,.top,.top,.top,.top,.top,.top,.top,.top,.top,.top,.top,.top,.top,.top,.top,.top,.top,.top,.top,.top,.top,.top,.top,.top,.top,.top,.top,.top,.top,.top,.top,.top,.top,.top,.top,.top,.top,.top,.top,.top,.top,.top,.top,.top,.top,.top,.top,.top,.top,.top,.top,.top,.top,.top,.top,.top,.top,.top,.top,.top,.top,.top,.top,.top,.top,.top,.top,.top,.top,.top,.top,.top,.top,.top,.top,.top,.top,.top,.top,.top,.top,.top,.top,.top,.top,.top,.top,.top,.top,.top,.top,.top,.top,.top,.top,.top,.top,.top,.top,.top,.top,.top,.top,.top,.top,.top,.top,.top,.top,.top]
def fr61y(hc:List AV)(n c:Nat)(e:Bool)(i:Int)(N:Nat)(k:Int):Fr := [.top,.ros hc 0 n c e,.top,.top,.top,.top,.ptr 0 0,.ptr 1 0,.top,.top,.int .i64 (Int.ofNat n),.top,.slc 2 0 n n 32,.slc 3 0 2304 2304 1,.slc 6 0 N N 1,.int .i64 i,.slc 5 0 2304 2304 1,.int .i64 k,.top,.top,.top,.top,.top,.top,.top,.top,.top,.top,.top,.top,.top,.top,.top,.top,.top,.top,.top,.top,.top,.top,.top,.top,.top,.top,.top,.top,.top,.top,.top,.top,.top,.top,.top,.top,.top,.top,.top,.top,.top,.top,.top,.top,.top,.top,.top,.top,.top,.top,.top,.top,.top,.top,.top,.top,.top,.top,.top,.top,.top,.top,.top,.top,.top,.top,.top,.top,.top,.top,.top,.top,.top,.top,.top,.top,.top,.top,.top,.top,.top,.top,.top,.top,.top,.top,.top,.top,.top,.top,.top,.top,.top,.top,.top,.top,.top,.top,.top,.top,.top,.top,.top,.top,.top,.top,.top,.top,.top,.top,.top,.top,.top,.top,.top,.top,.top,.top,.top,.top,.top,.top,.top,.top,.top,.top,.top,.top,.top,.top,.top]
def mk61x:List Bool := [true,false,true,true,true,true,false,false,true,true,false,true,false,false,false,false,false,false,true,true,true,true,true,true,true,true,true,true,true,true,true,true,true,true,true,true,true,true,true,true,true,true,true,true,true,true,true,true,true,true,true,true,true,true,true,true,true,true,true,true,true,true,true,true,true,true,true,true,true,true,true,true,true,true,true,true,true,true,true,true,true,true,true,true,true,true,true,true,true,true,true,true,true,true,true,true,true,true,true,true,true,true,true,true,true,true,true,true,true,true,true,true,true,true,true,true,true,true,true,true,true,true,true,true,true,true,true,true,true,true,true,true,true,true,true,true,true,true,true,true,true,true,true,true,true,true,true,true,true]
def fr61f(hc:List AV)(n c:Nat)(e:Bool)(x:AV)(i:Int):Fr := [.top,.ros hc 0 n c e,.top,.top,.top,.top,.ptr 0 0,.ptr 1 0,.top,.top,.int .i64 (Int.ofNat n),.top,.slc 2 0 n n 32,.slc 3 0 2304 2304 1,x,.int .i64 i,.top,.top,.top,.top,.top,.top,.top,.top,.top,.top,.top,.top,.top,.top,.top,.top,.top,.top,.top,.top,.top,.top,.top,.top,.top,.top,.top,.top,.top,.top,.top,.top,.top,.top,.top,.top,.top,.top,.top,.top,.top,.top,.top,.top,.top,.top,.top,.top,.top,.top,.top,.top,.top,.top,.top,.top,.top,.top,.top,.top,.top,.top,.top,.top,.top,.top,.top,.top,.top,.top,.top,.top,.top,.top,.top,.top,.top,.top,.top,.top,.top,.top,.top,.top,.top,.top,.top,.top,.top,.top,.top,.top,.top,.top,.top,.top,.top,.top,.top,.top,.top,.top,.top,.top,.top,.top,.top,.top,.top,.top,.top,.top,.top,.top,.top,.top,.top,.top,.top,.top,.top,.top,.top,.top,.top,.top,.top,.top,.top,.top,.top,.top,.top]
def mk61f:List Bool := [true,false,true,true,true,true,false,false,true,true,false,true,false,false,false,false,true,true,true,true,true,true,true,true,true,true,true,true,true,true,true,true,true,true,true,true,true,true,true,true,true,true,true,true,true,true,true,true,true,true,true,true,true,true,true,true,true,true,true,true,true,true,true,true,true,true,true,true,true,true,true,true,true,true,true,true,true,true,true,true,true,true,true,true,true,true,true,true,true,true,true,true,true,true,true,true,true,true,true,true,true,true,true,true,true,true,true,true,true,true,true,true,true,true,true,true,true,true,true,true,true,true,true,true,true,true,true,true,true,true,true,true,true,true,true,true,true,true,true,true,true,true,true,true,true,true,true,true,true]
def fr61b(hc:List AV)(n c:Nat)(e:Bool)(fc:List AV)(fo fl fcap:Nat)(i:Int):Fr := [.top,.ros hc 0 n c e,.top,.top,.top,.top,.ptr 0 0,.ptr 1 0,.top,.top,.int .i64 (Int.ofNat n),.top,.slc 2 0 n n 32,.top,.ros fc fo fl fcap false,.top,.top,.top,.slc 4 0 2048 2048 1,.ptr 3 0,.int .i64 i,.top,.top,.top,.top,.top,.top,.top,.top,.top,.top,.top,.top,.top,.top,.top,.top,.top,.top,.top,.top,.top,.top,.top,.top,.top,.top,.top,.top,.top,.top,.top,.top,.top,.top,.top,.top,.top,.top,.top,.top,.top,.top,.top,.top,.top,.top,.top,.top,.top,.top,.top,.top,.top,.top,.top,.top,.top,.top,.top,.top,.top,.top,.top,.top,.top,.top,.top,.top,.top,.top,.top,.top,.top,.top,.top,.top,.top,.top,.top,.top,.top,.top,.top,.top,.top,.top,.top,.top,.top,.top,.top,.top,.top,.top,.top,.top,.top,.top,.top,.top,.top,.top,.top,.top,.top,.top,.top,.top,.top,.top,.top,.top,.top,.top,.top,.top,.top,.top,.top,.top,.top,.top,.top,.top,.top,.top,.top,.top]
def mk61b:List Bool := [true,false,true,true,true,true,false,false,true,true,false,true,false,true,false,true,true,true,false,false,false,true,true,true,true,true,true,true,true,true,true,true,true,true,true,true,true,true,true,true,true,true,true,true,true,true,true,true,true,true,true,true,true,true,true,true,true,true,true,true,true,true,true,true,true,true,true,true,true,true,true,true,true,true,true,true,true,true,true,true,true,true,true,true,true,true,true,true,true,true,true,true,true,true,true,true,true,true,true,true,true,true,true,true,true,true,true,true,true,true,true,true,true,true,true,true,true,true,true,true,true,true,true,true,true,true,true,true,true,true,true,true,true,true,true,true,true,true,true,true,true,true,true,true,true,true,true,true,true]
structure XX where
 xr:List AV->List AV->Nat->List AV
def ln61x(X:XX):LnF:=fun n0 b fr H=>match slot fr 1,slot fr 14,slot fr 15,H with
 | .ros hc 0 n c e,.slc _ 0 N _ 1,.int .i64 i,[.cells B0,.cells B1,.cells B2,.cells B3,.cells ms,.cells fs] =>
  some (n0=0/\VCis b lp61x/\forget mk61x fr=fr61x hc n c e i N 0/\PXm ms fs N,.ok (.exit 4) (fr61x hc n c e i N N) [.cells B0,.cells B1,.cells B2,.cells B3,.cells ms,.cells (X.xr ms fs N)])
 | .ros hc 0 n c e,.slc _ 0 N _ 1,.int .i64 i,[.cells B0,.cells B1,.cells B2,.cells B3,.dead,.cells ms,.cells fs] =>
  some (n0=0/\VCis b lp61x/\forget mk61x fr=fr61y hc n c e i N 0/\PXm ms fs N/\flatL hc/\flatL B0/\flatL B1/\flatL B2/\flatL B3,.ok (.exit 4) (fr61x hc n c e i N N) [.cells B0,.cells B1,.cells B2,.cells B3,.cells ms,.cells (X.xr ms fs N)])
 | _,_,_,_=>none
theorem qxv(Z:OZ)(O:OY)(F:HF)(H0 H1:List AV)(ks hc:List AV)(n c:Nat)(e:Bool)(ko kn kc:Nat)(ke:Bool)(i:Int)(Q:Ex->Fr->Hl->Prop) :
  (vm (vcA kdS (cnO2 Z O F) noLn) ops0 noTab 100 0 lp61v (fr61v ks hc n c e ko kn kc ke i) [.cells H0,.cells H1] [] (fun ex fr H _=>match ex with
    | .ret=>Q .ret (forget mk61e fr) []
    | ex=>Q ex (forget mk61v fr) H)) =
 ((Br (ops0.cmp .lss i (Int.ofNat n))
 (Chk (ops0.inr i n)
 (Chk (ops0.le (ops0.add (ops0.adr 0 i 101) 101) (ops0.len hc))
 ((PHop (ops0.ext hc (ops0.adr 0 i 101) 101)) /\
 (Br (OZ.may Z (ops0.ext hc (ops0.adr 0 i 101) 101))
 (Chk (ops0.inr i n)
 (∃ n1:Int,((Nth hc (ops0.add (ops0.adr 0 i 101) 0) (.int .i64 n1)) /\
 (Br (ops0.cmp .eql n1 (Int.ofNat 0))
 (Br (ops0.cmp .eql i (ops0.bin .sub .i64 (Int.ofNat n) (Int.ofNat 1)))
 (Q Ex.norm ((.ros ks ko kn kc ke)::(.ros hc 0 n c e)::tp 4 ((.ptr 0 0)::(.ptr 1 0) :: .nils::(.int .i64 (.ofNat 0))::(.int .i64 (.ofNat n))::(.int .i64 (ops0.bin .add .i64 i (Int.ofNat 1)))::tp 137 ([]))) [(.cells H0),(.cells H1)])
 (Q Ex.ret (tp 8 (.nils::(.int .i64 (.ofNat 1))::tp 139 ([]))) []))
 (Br (ops0.cmp .eql i (ops0.bin .sub .i64 (Int.ofNat n) (Int.ofNat 1)))
 (Q Ex.ret (tp 8 (.nils::(.int .i64 (.ofNat 1))::tp 139 ([]))) [])
 (Q Ex.norm ((.ros ks ko kn kc ke)::(.ros hc 0 n c e)::tp 4 ((.ptr 0 0)::(.ptr 1 0) :: .nils::(.int .i64 (.ofNat 0))::(.int .i64 (.ofNat n))::(.int .i64 (ops0.bin .add .i64 i (Int.ofNat 1)))::tp 137 ([]))) [(.cells H0),(.cells H1)]))))))
 (Q Ex.ret (tp 8 (.nils::(.int .i64 (.ofNat 1))::tp 139 ([]))) [])))))
 (Q (Ex.exit 0) ((.ros ks ko kn kc ke)::(.ros hc 0 n c e)::tp 4 ((.ptr 0 0)::(.ptr 1 0) :: .nils::(.int .i64 (.ofNat 0))::(.int .i64 (.ofNat n))::(.int .i64 i)::tp 137 ([]))) [(.cells H0),(.cells H1)]))):=by kernel_rfl
theorem qxr(B0 B1 B2 B3:Blk)(ms fs hc:List AV)(n c:Nat)(e:Bool)(i:Int)(N:Nat)(k:Int)(Q:Ex->Fr->Hl->Prop) :
  (vm (vcA kdS noCn noLn) ops0 noTab 100 0 lp61x (fr61x hc n c e i N k) [B0,B1,B2,B3,.cells ms,.cells fs] [] (bodyX mk61x Q)) =
 ((Br (ops0.cmp .lss k (ops0.ofn N))
 (Chk (ops0.inr k N)
 (∃ n1:Int,((Nth fs (ops0.adr 0 k 1) (.int .u8 n1)) /\
 (Chk (ops0.inr (ops0.bin .add .i64 (ops0.bin .sub .i64 (Int.ofNat 2304) (ops0.ofn N)) k) 2304)
 (∃ n2:Int,((Nth ms (ops0.adr 0 (ops0.bin .add .i64 (ops0.bin .sub .i64 (Int.ofNat 2304) (ops0.ofn N)) k) 1) (.int .u8 n2)) /\
 (Chk (ops0.inr k N)
 (Chk (ops0.lt (ops0.adr 0 k 1) (ops0.len fs))
 (Q Ex.norm (.top::(.ros hc 0 n c e)::tp 4 ((.ptr 0 0)::(.ptr 1 0)::tp 2 ((.int .i64 (.ofNat n)) :: .top::(.slc 2 0 n n 32)::(.slc 3 0 2304 2304 1)::(.slc 5 0 N N 1)::(.int .i64 i)::(.slc 4 0 2304 2304 1)::(.int .i64 (ops0.bin .add .i64 k (Int.ofNat 1)))::tp 131 ([])))) [B0,B1,B2,B3,(.cells ms),(.cells (ops0.set fs (ops0.adr 0 k 1) (.int .u8 (ops0.bin .xor .u8 n1 n2))))])))))))))
 (Q (Ex.exit 4) (.top::(.ros hc 0 n c e)::tp 4 ((.ptr 0 0)::(.ptr 1 0)::tp 2 ((.int .i64 (.ofNat n)) :: .top::(.slc 2 0 n n 32)::(.slc 3 0 2304 2304 1)::(.slc 5 0 N N 1)::(.int .i64 i)::(.slc 4 0 2304 2304 1)::(.int .i64 k)::tp 131 ([])))) [B0,B1,B2,B3,(.cells ms),(.cells fs)]))):=by kernel_rfl
theorem qx3(X:XX)(Z:OZ)(O:OY)(F:HF)(B0 B1 B2 B3:List AV)(hc:List AV)(n c:Nat)(e:Bool)(i:Int)(Q:Ex->Fr->Hl->Prop) :
  (vm (vcA kdS (cnO2 Z O F) (ln61x X)) ops0 noTab 100 0 lp61f (fr61f hc n c e .nils i) [.cells B0,.cells B1,.cells B2,.cells B3] [] (bodyX mk61f Q)) =
 ((Br (ops0.cmp .lss i (ops0.bin .sub .i64 (Int.ofNat n) (Int.ofNat 1)))
 (Chk (ops0.inr i n)
 (Chk (ops0.le (ops0.add (ops0.adr 0 i 32) 32) (ops0.len B2))
 (((PKey (ops0.ext B2 (ops0.adr 0 i 32) 32)) /\
 (PB B3 0 2304)) /\
 ((((0:Nat)=0) /\
 ((VCis lp61x lp61x) /\
 ((((.top::(.ros hc 0 n c e)::tp 4 ((.ptr 0 0)::(.ptr 1 0)::tp 2 ((.int .i64 (.ofNat n)) :: .top::(.slc 2 0 n n 32)::(.slc 3 0 2304 2304 1)::(.slc 5 0 256 256 1)::(.int .i64 i)::(.slc 4 0 2304 2304 1)::(.int .i64 (.ofNat 0))::tp 131 ([])))):Fr)=(.top::(.ros hc 0 n c e)::tp 4 ((.ptr 0 0)::(.ptr 1 0)::tp 2 ((.int .i64 (.ofNat n)) :: .top::(.slc 2 0 n n 32)::(.slc 3 0 2304 2304 1)::(.slc 5 0 256 256 1)::(.int .i64 i)::(.slc 4 0 2304 2304 1)::(.int .i64 (.ofNat 0))::tp 131 ([]))))) /\
 (PXm (HF.mask F (ops0.ext B2 (ops0.adr 0 i 32) 32) [98,111,100,121] (rdB B3 0 2304)) (z8 256) 256)))) /\
 (Q Ex.norm (.top::(.ros hc 0 n c e)::tp 4 ((.ptr 0 0)::(.ptr 1 0)::tp 2 ((.int .i64 (.ofNat n)) :: .top::(.slc 2 0 n n 32)::(.slc 3 0 2304 2304 1)::(.slc 5 0 256 256 1)::(.int .i64 (ops0.bin .add .i64 i (Int.ofNat 1)))::tp 133 ([])))) [(.cells B0),(.cells B1),(.cells B2),(.cells B3),(.cells (HF.mask F (ops0.ext B2 (ops0.adr 0 i 32) 32) [98,111,100,121] (rdB B3 0 2304))),(.cells (XX.xr X (HF.mask F (ops0.ext B2 (ops0.adr 0 i 32) 32) [98,111,100,121] (rdB B3 0 2304)) (z8 256) 256))])))))
 (Q (Ex.exit 2) (.top::(.ros hc 0 n c e)::tp 4 ((.ptr 0 0)::(.ptr 1 0)::tp 2 ((.int .i64 (.ofNat n)) :: .top::(.slc 2 0 n n 32)::(.slc 3 0 2304 2304 1) :: .nils::(.int .i64 i)::tp 133 ([])))) [(.cells B0),(.cells B1),(.cells B2),(.cells B3)]))):=by kernel_rfl
theorem qxl(X:XX)(Z:OZ)(O:OY)(F:HF)(B0 B1 B2 B3 fs:List AV)(hc:List AV)(n c N:Nat)(e:Bool)(i:Int)(Q:Ex->Fr->Hl->Prop) :
  (vm (vcA kdS (cnO2 Z O F) (ln61x X)) ops0 noTab 100 0 lp61f (fr61f hc n c e (.slc 4 0 N N 1) i) [.cells B0,.cells B1,.cells B2,.cells B3,.cells fs] [] (bodyX mk61f Q)) =
 ((Br (ops0.cmp .lss i (ops0.bin .sub .i64 (Int.ofNat n) (Int.ofNat 1)))
 (Chk (ops0.inr i n)
 (Chk (ops0.le (ops0.add (ops0.adr 0 i 32) 32) (ops0.len B2))
 (((PKey (ops0.ext B2 (ops0.adr 0 i 32) 32)) /\
 (PB B3 0 2304)) /\
 (Chk (ops0.le (ops0.add 0 (ops0.mul N 1)) (ops0.len fs))
 (Chk (ops0.room N 256 1)
 ((((0:Nat)=0) /\
 ((VCis lp61x lp61x) /\
 ((((.top::(.ros hc 0 n c e)::tp 4 ((.ptr 0 0)::(.ptr 1 0)::tp 2 ((.int .i64 (.ofNat n)) :: .top::(.slc 2 0 n n 32)::(.slc 3 0 2304 2304 1)::(.slc 6 0 (ops0.add N 256) (ops0.add N 256) 1)::(.int .i64 i)::(.slc 5 0 2304 2304 1)::(.int .i64 (.ofNat 0))::tp 131 ([])))):Fr)=(.top::(.ros hc 0 n c e)::tp 4 ((.ptr 0 0)::(.ptr 1 0)::tp 2 ((.int .i64 (.ofNat n)) :: .top::(.slc 2 0 n n 32)::(.slc 3 0 2304 2304 1)::(.slc 6 0 (ops0.add N 256) (ops0.add N 256) 1)::(.int .i64 i)::(.slc 5 0 2304 2304 1)::(.int .i64 (.ofNat 0))::tp 131 ([]))))) /\
 ((PXm (HF.mask F (ops0.ext B2 (ops0.adr 0 i 32) 32) [98,111,100,121] (rdB B3 0 2304)) (ops0.app (ops0.ext fs 0 (ops0.mul N 1)) (z8 256)) (ops0.add N 256)) /\
 ((flatL hc) /\
 ((flatL B0) /\
 ((flatL B1) /\
 ((flatL B2) /\
 (flatL B3))))))))) /\
 (Q Ex.norm (.top::(.ros hc 0 n c e)::tp 4 ((.ptr 0 0)::(.ptr 1 0)::tp 2 ((.int .i64 (.ofNat n)) :: .top::(.slc 2 0 n n 32)::(.slc 3 0 2304 2304 1)::(.slc 5 0 (ops0.add N 256) (ops0.add N 256) 1)::(.int .i64 (ops0.bin .add .i64 i (Int.ofNat 1)))::tp 133 ([])))) [(.cells B0),(.cells B1),(.cells B2),(.cells B3),(.cells (HF.mask F (ops0.ext B2 (ops0.adr 0 i 32) 32) [98,111,100,121] (rdB B3 0 2304))),(.cells (XX.xr X (HF.mask F (ops0.ext B2 (ops0.adr 0 i 32) 32) [98,111,100,121] (rdB B3 0 2304)) (ops0.app (ops0.ext fs 0 (ops0.mul N 1)) (z8 256)) (ops0.add N 256)))])))))))
 (Q (Ex.exit 2) (.top::(.ros hc 0 n c e)::tp 4 ((.ptr 0 0)::(.ptr 1 0)::tp 2 ((.int .i64 (.ofNat n)) :: .top::(.slc 2 0 n n 32)::(.slc 3 0 2304 2304 1)::(.slc 4 0 N N 1)::(.int .i64 i)::tp 133 ([])))) [(.cells B0),(.cells B1),(.cells B2),(.cells B3),(.cells fs)]))):=by kernel_rfl
theorem qxi(Z:OZ)(O:OY)(F:HF)(ns hs kcs nx bd:List AV)(hc fc:List AV)(n c:Nat)(e:Bool)(fo fl fcap:Nat)(i:Int)(Q:Ex->Fr->Hl->Prop) :
  (vm (vcA kdS (cnO2 Z O F) noLn) ops0 noTab 100 0 lp61b (fr61b hc n c e fc fo fl fcap i) [.cells ns,.cells hs,.cells kcs,.cells nx,.cells bd] [] (bodyX mk61b Q)) =
 ((Br (ops0.cmp .geq i (Int.ofNat 0))
 (Chk (ops0.inr i n)
 (Chk (ops0.le (ops0.add (ops0.adr 0 i 101) 101) (ops0.len hc))
 (Chk (ops0.le 32 (ops0.len nx))
 (((PHp (ops0.ext hc (ops0.adr 0 i 101) 101)) /\
 (PKey (ops0.ext nx 0 32))) /\
 (Chk (ops0.le 256 (ops0.len (OZ.part Z (ops0.ext hc (ops0.adr 0 i 101) 101) (ops0.ext nx 0 32))))
 (Chk (ops0.le 2048 (ops0.len bd))
 (Chk (ops0.inr i n)
 (Chk (ops0.le (ops0.add (ops0.adr 0 i 32) 32) (ops0.len kcs))
 (((PKey (ops0.ext kcs (ops0.adr 0 i 32) 32)) /\
 (PB (ops0.app (ops0.ext (OZ.part Z (ops0.ext hc (ops0.adr 0 i 101) 101) (ops0.ext nx 0 32)) 0 256) (ops0.ext bd 0 2048)) 0 2048)) /\
 (Br (ops0.cmp .eql i (ops0.bin .sub .i64 (Int.ofNat n) (Int.ofNat 1)))
 (Chk (ops0.inb (ops0.bin .sub .i64 (Int.ofNat 2048) (ops0.ofn fl)) 2048)
 (Chk (ops0.le (ops0.add 0 (ops0.mul (ops0.sub (ops0.nat (ops0.bin .sub .i64 (Int.ofNat 2048) (ops0.ofn fl))) 0) 1)) (ops0.len (HF.mask F (ops0.ext kcs (ops0.adr 0 i 32) 32) [98,111,100,121] (rdB (ops0.app (ops0.ext (OZ.part Z (ops0.ext hc (ops0.adr 0 i 101) 101) (ops0.ext nx 0 32)) 0 256) (ops0.ext bd 0 2048)) 0 2048))))
 (Chk (ops0.room 0 (ops0.sub (ops0.nat (ops0.bin .sub .i64 (Int.ofNat 2048) (ops0.ofn fl))) 0) 1)
 (Chk (ops0.le (ops0.add 0 (ops0.mul (ops0.sub (ops0.nat (ops0.bin .sub .i64 (Int.ofNat 2048) (ops0.ofn fl))) 0) 1)) (ops0.len (ops0.ext (HF.mask F (ops0.ext kcs (ops0.adr 0 i 32) 32) [98,111,100,121] (rdB (ops0.app (ops0.ext (OZ.part Z (ops0.ext hc (ops0.adr 0 i 101) 101) (ops0.ext nx 0 32)) 0 256) (ops0.ext bd 0 2048)) 0 2048)) 0 (ops0.mul (ops0.sub (ops0.nat (ops0.bin .sub .i64 (Int.ofNat 2048) (ops0.ofn fl))) 0) 1))))
 (Chk (ops0.le (ops0.add fo (ops0.mul fl 1)) (ops0.len fc))
 (Chk (ops0.room (ops0.sub (ops0.nat (ops0.bin .sub .i64 (Int.ofNat 2048) (ops0.ofn fl))) 0) fl 1)
 (Chk (ops0.inr i n)
 (Chk (ops0.le (ops0.add (ops0.adr 0 i 32) 32) (ops0.len kcs))
 (Chk (ops0.le 32 (ops0.len hs))
 (((PKey (ops0.ext kcs (ops0.adr 0 i 32) 32)) /\
 ((PKey (ops0.ext hs 0 32)) /\
 (PBd (ops0.app (ops0.ext (ops0.ext (HF.mask F (ops0.ext kcs (ops0.adr 0 i 32) 32) [98,111,100,121] (rdB (ops0.app (ops0.ext (OZ.part Z (ops0.ext hc (ops0.adr 0 i 101) 101) (ops0.ext nx 0 32)) 0 256) (ops0.ext bd 0 2048)) 0 2048)) 0 (ops0.mul (ops0.sub (ops0.nat (ops0.bin .sub .i64 (Int.ofNat 2048) (ops0.ofn fl))) 0) 1)) 0 (ops0.mul (ops0.sub (ops0.nat (ops0.bin .sub .i64 (Int.ofNat 2048) (ops0.ofn fl))) 0) 1)) (ops0.ext fc fo (ops0.mul fl 1))) 0 (ops0.add (ops0.sub (ops0.nat (ops0.bin .sub .i64 (Int.ofNat 2048) (ops0.ofn fl))) 0) fl)))) /\
 (Chk (ops0.eq (ops0.len (OY.btg O (ops0.ext kcs (ops0.adr 0 i 32) 32) (rdB (ops0.app (ops0.ext (ops0.ext (HF.mask F (ops0.ext kcs (ops0.adr 0 i 32) 32) [98,111,100,121] (rdB (ops0.app (ops0.ext (OZ.part Z (ops0.ext hc (ops0.adr 0 i 101) 101) (ops0.ext nx 0 32)) 0 256) (ops0.ext bd 0 2048)) 0 2048)) 0 (ops0.mul (ops0.sub (ops0.nat (ops0.bin .sub .i64 (Int.ofNat 2048) (ops0.ofn fl))) 0) 1)) 0 (ops0.mul (ops0.sub (ops0.nat (ops0.bin .sub .i64 (Int.ofNat 2048) (ops0.ofn fl))) 0) 1)) (ops0.ext fc fo (ops0.mul fl 1))) 0 (ops0.add (ops0.sub (ops0.nat (ops0.bin .sub .i64 (Int.ofNat 2048) (ops0.ofn fl))) 0) fl)) (ops0.ext hs 0 32))) 32)
 (Chk (ops0.le 32 (ops0.len nx))
 (Q Ex.norm (.top::(.ros hc 0 n c e)::tp 4 ((.ptr 0 0)::(.ptr 1 0)::tp 2 ((.int .i64 (.ofNat n)) :: .top::(.slc 2 0 n n 32) :: .top::(.ros fc fo fl fcap Bool.false)::tp 3 ((.slc 9 0 (ops0.add (ops0.sub (ops0.nat (ops0.bin .sub .i64 (Int.ofNat 2048) (ops0.ofn fl))) 0) fl) (ops0.add (ops0.sub (ops0.nat (ops0.bin .sub .i64 (Int.ofNat 2048) (ops0.ofn fl))) 0) fl) 1)::(.ptr 3 0)::(.int .i64 (ops0.bin .sub .i64 i (Int.ofNat 1)))::tp 128 ([]))))) [(.cells ns),(.cells hs),(.cells kcs),(.cells (ops0.spl nx 0 (OY.btg O (ops0.ext kcs (ops0.adr 0 i 32) 32) (rdB (ops0.app (ops0.ext (ops0.ext (HF.mask F (ops0.ext kcs (ops0.adr 0 i 32) 32) [98,111,100,121] (rdB (ops0.app (ops0.ext (OZ.part Z (ops0.ext hc (ops0.adr 0 i 101) 101) (ops0.ext nx 0 32)) 0 256) (ops0.ext bd 0 2048)) 0 2048)) 0 (ops0.mul (ops0.sub (ops0.nat (ops0.bin .sub .i64 (Int.ofNat 2048) (ops0.ofn fl))) 0) 1)) 0 (ops0.mul (ops0.sub (ops0.nat (ops0.bin .sub .i64 (Int.ofNat 2048) (ops0.ofn fl))) 0) 1)) (ops0.ext fc fo (ops0.mul fl 1))) 0 (ops0.add (ops0.sub (ops0.nat (ops0.bin .sub .i64 (Int.ofNat 2048) (ops0.ofn fl))) 0) fl)) (ops0.ext hs 0 32)))),(.cells bd),.dead,(.cells (ops0.app (ops0.ext (OZ.part Z (ops0.ext hc (ops0.adr 0 i 101) 101) (ops0.ext nx 0 32)) 0 256) (ops0.ext bd 0 2048))),(.cells (HF.mask F (ops0.ext kcs (ops0.adr 0 i 32) 32) [98,111,100,121] (rdB (ops0.app (ops0.ext (OZ.part Z (ops0.ext hc (ops0.adr 0 i 101) 101) (ops0.ext nx 0 32)) 0 256) (ops0.ext bd 0 2048)) 0 2048))),.dead,(.cells (ops0.app (ops0.ext (ops0.ext (HF.mask F (ops0.ext kcs (ops0.adr 0 i 32) 32) [98,111,100,121] (rdB (ops0.app (ops0.ext (OZ.part Z (ops0.ext hc (ops0.adr 0 i 101) 101) (ops0.ext nx 0 32)) 0 256) (ops0.ext bd 0 2048)) 0 2048)) 0 (ops0.mul (ops0.sub (ops0.nat (ops0.bin .sub .i64 (Int.ofNat 2048) (ops0.ofn fl))) 0) 1)) 0 (ops0.mul (ops0.sub (ops0.nat (ops0.bin .sub .i64 (Int.ofNat 2048) (ops0.ofn fl))) 0) 1)) (ops0.ext fc fo (ops0.mul fl 1))))])))))))))))))
 (Chk (ops0.inr i n)
 (Chk (ops0.le (ops0.add (ops0.adr 0 i 32) 32) (ops0.len kcs))
 (Chk (ops0.le 32 (ops0.len hs))
 (((PKey (ops0.ext kcs (ops0.adr 0 i 32) 32)) /\
 ((PKey (ops0.ext hs 0 32)) /\
 (PBd (HF.mask F (ops0.ext kcs (ops0.adr 0 i 32) 32) [98,111,100,121] (rdB (ops0.app (ops0.ext (OZ.part Z (ops0.ext hc (ops0.adr 0 i 101) 101) (ops0.ext nx 0 32)) 0 256) (ops0.ext bd 0 2048)) 0 2048)) 0 2048))) /\
 (Chk (ops0.eq (ops0.len (OY.btg O (ops0.ext kcs (ops0.adr 0 i 32) 32) (rdB (HF.mask F (ops0.ext kcs (ops0.adr 0 i 32) 32) [98,111,100,121] (rdB (ops0.app (ops0.ext (OZ.part Z (ops0.ext hc (ops0.adr 0 i 101) 101) (ops0.ext nx 0 32)) 0 256) (ops0.ext bd 0 2048)) 0 2048)) 0 2048) (ops0.ext hs 0 32))) 32)
 (Chk (ops0.le 32 (ops0.len nx))
 (Q Ex.norm (.top::(.ros hc 0 n c e)::tp 4 ((.ptr 0 0)::(.ptr 1 0)::tp 2 ((.int .i64 (.ofNat n)) :: .top::(.slc 2 0 n n 32) :: .top::(.ros fc fo fl fcap Bool.false)::tp 3 ((.slc 7 0 2048 2048 1)::(.ptr 3 0)::(.int .i64 (ops0.bin .sub .i64 i (Int.ofNat 1)))::tp 128 ([]))))) [(.cells ns),(.cells hs),(.cells kcs),(.cells (ops0.spl nx 0 (OY.btg O (ops0.ext kcs (ops0.adr 0 i 32) 32) (rdB (HF.mask F (ops0.ext kcs (ops0.adr 0 i 32) 32) [98,111,100,121] (rdB (ops0.app (ops0.ext (OZ.part Z (ops0.ext hc (ops0.adr 0 i 101) 101) (ops0.ext nx 0 32)) 0 256) (ops0.ext bd 0 2048)) 0 2048)) 0 2048) (ops0.ext hs 0 32)))),(.cells bd),.dead,(.cells (ops0.app (ops0.ext (OZ.part Z (ops0.ext hc (ops0.adr 0 i 101) 101) (ops0.ext nx 0 32)) 0 256) (ops0.ext bd 0 2048))),(.cells (HF.mask F (ops0.ext kcs (ops0.adr 0 i 32) 32) [98,111,100,121] (rdB (ops0.app (ops0.ext (OZ.part Z (ops0.ext hc (ops0.adr 0 i 101) 101) (ops0.ext nx 0 32)) 0 256) (ops0.ext bd 0 2048)) 0 2048)))])))))))))))))))))
 (Q (Ex.exit 6) (.top::(.ros hc 0 n c e)::tp 4 ((.ptr 0 0)::(.ptr 1 0)::tp 2 ((.int .i64 (.ofNat n)) :: .top::(.slc 2 0 n n 32) :: .top::(.ros fc fo fl fcap Bool.false)::tp 3 ((.slc 4 0 2048 2048 1)::(.ptr 3 0)::(.int .i64 i)::tp 128 ([]))))) [(.cells ns),(.cells hs),(.cells kcs),(.cells nx),(.cells bd)]))):=by kernel_rfl
end
end Go.Proofs.Vm

namespace Go.Proofs.Vm
set_option maxRecDepth 100000
open Go.Vm
noncomputable section
theorem qis{s t:List UInt8}{k:Nat}(hs:k<=s.length)(ht:k<=t.length):(xorL (s.take k) (t.take k)).length=k:=by
 rw[qe6,List.length_take,List.length_take]; omega
theorem qog{s t:List UInt8}{k:Nat}(hs:k<=s.length)(ht:k<=t.length):(mixL s t k).length=s.length:=by
 unfold mixL
 rw[List.length_append,qis hs ht,List.length_drop]; omega
theorem qwo{s t:List UInt8}{k:Nat}(hs:k<s.length)(ht:k<t.length):(mixL s t k)[k]? = some s[k]:=by
 unfold mixL
 rw[List.getElem?_append_right (by rw[qis (by omega) (by omega)]; exact Nat.le_refl _),qis (by omega) (by omega),Nat.sub_self,List.getElem?_drop,Nat.add_zero,List.getElem?_eq_getElem]
theorem qvf{s t:List UInt8}{k:Nat}(hs:k<s.length)(ht:k<t.length):(mixL s t k).set k (s[k] ^^^ t[k])=mixL s t (k+1):=by
 unfold mixL
 rw[qio hs ht,List.set_append_right _ _ (by rw[qis (by omega) (by omega)]; exact Nat.le_refl _),qis (by omega) (by omega),Nat.sub_self,List.drop_eq_getElem_cons hs,List.set_cons_zero,List.append_assoc]
 rfl
theorem qvs{s t:List UInt8}{n:Nat}(hs:s.length=n)(ht:t.length=n):mixL s t n=xorL s t:=by
 unfold mixL
 rw[List.take_of_length_le (by omega),List.take_of_length_le (by omega),List.drop_of_length_le (by omega),List.append_nil]
def xx0:XX:=⟨fun ms fs N=>(xorL (qag fs) ((qag ms).drop (2304 - N))).map by8⟩
theorem qyz{m f:List UInt8}{N:Nat}(hm:m.length=2304)(hf:f.length=N)(hN:N<=2304){k:Nat}(hk:k<N)(B0 B1 B2 B3:Blk)(hc:List AV)(n c:Nat)(e:Bool)(i:Int) :
  qap Try.prog 0 lp61x (fr61x hc n c e i N (Int.ofNat k)) [B0,B1,B2,B3,.cells (m.map by8),.cells ((mixL f (m.drop (2304 - N)) k).map by8)] .norm (fr61x hc n c e i N (Int.ofNat (k+1))) [B0,B1,B2,B3,.cells (m.map by8),.cells ((mixL f (m.drop (2304 - N)) (k+1)).map by8)]:=by
 refine qa2 (qa3 _) (qai _) (qak _) (n:=100) (g:=kdS) (bs:=mk61x) ?_ (by simp)
 have htl:(m.drop (2304 - N)).length=N:=by rw[List.length_drop,hm]; omega
 have hl:=qog (s:=f) (t:=m.drop (2304 - N)) (k:=k) (by omega) (by omega)
 rw[qxr]
 have es:ops0.bin .add .i64 (Int.ofNat (2304 - N)) (Int.ofNat k)=Int.ofNat (2304 - N+k):=nAdd (by omega)
 rw[add1 (by omega),subN hN (by omega),es,nOfn,nLss]
 refine Br.t (decide_eq_true hk) ?_
 have g1:=qwo (s:=f) (t:=m.drop (2304 - N)) (k:=k) (by omega) (by omega)
 have g2:(m.drop (2304 - N))[k]? = some (m.drop (2304 - N))[k]:=List.getElem?_eq_getElem (by omega)
 have g3:=qvf (s:=f) (t:=m.drop (2304 - N)) (k:=k) (by omega) (by omega)
 generalize (m.drop (2304 - N))[k]=y at g2 g3
 generalize f[k]=x at g1 g3
 rw[List.getElem?_drop] at g2
 simp only[nInr,nAdr,Nat.zero_add,Nat.mul_one,nLen,nLt,List.length_map,hl,hf]
 refine Chk.mk (decide_eq_true hk) ⟨_,nth8 g1,Chk.mk (decide_eq_true (by omega)) ⟨_,nth8 g2,Chk.mk (decide_eq_true hk) (Chk.mk (decide_eq_true (by omega)) ?_)⟩⟩
 rw[qm3,nSet]
 have e1:((mixL f (m.drop (2304 - N)) k).map by8).set k (.int .u8 (Int.ofNat (x ^^^ y).toNat))=(mixL f (m.drop (2304 - N)) (k+1)).map by8:=by
  rw[<-g3]
  exact qoz _ _ _
 rw[e1]
 exact⟨by trivial,by trivial,by trivial⟩
theorem qsa{m f:List UInt8}{N:Nat}(hm:m.length=2304)(hf:f.length=N)(hN:N<=2304)(B0 B1 B2 B3:Blk)(hc:List AV)(n c:Nat)(e:Bool)(i:Int)(lg:List Nat) :
  qam Try.prog 0 lp61x (fr61x hc n c e i N 0) [B0,B1,B2,B3,.cells (m.map by8),.cells (f.map by8)] lg (.exit 4) (fr61x hc n c e i N N) [B0,B1,B2,B3,.cells (m.map by8),.cells (xx0.xr (m.map by8) (f.map by8) N)] (List.range 0++lg):=by
 have htl:(m.drop (2304 - N)).length=N:=by rw[List.length_drop,hm]; omega
 have ex:xx0.xr (m.map by8) (f.map by8) N=(mixL f (m.drop (2304 - N)) N).map by8:=by
  show(xorL (qag _) ((qag _).drop _)).map by8=_
  rw[qab,qab,qvs hf htl]
 rw[ex]
 have h:=qal (P:=Try.prog) (n0:=0) (b:=lp61x) (ex := .exit 4) (fr':=fr61x hc n c e i N (Int.ofNat N)) (H' := [B0,B1,B2,B3,.cells (m.map by8),.cells ((mixL f (m.drop (2304 - N)) N).map by8)]) (by intro h;cases h)
  (fun k=>(fr61x hc n c e i N (Int.ofNat k),[B0,B1,B2,B3,.cells (m.map by8),.cells ((mixL f (m.drop (2304 - N)) k).map by8)])) N 0 (fun k _ hk=>qyz hm hf hN (by omega) B0 B1 B2 B3 hc n c e i) ?_
 ·simp only[qw7] at h
  exact h lg
 ·refine qa2 (qa3 _) (qai _) (qak _) (n:=100) (g:=kdS) (bs:=mk61x) ?_ (by simp)
  rw[Nat.zero_add]
  show vm _ _ _ _ _ _ (fr61x hc n c e i N (Int.ofNat N)) [B0,B1,B2,B3,.cells (m.map by8),.cells ((mixL f (m.drop (2304 - N)) N).map by8)] _ _
  rw[qxr]
  rw[nOfn,nLss]
  exact Br.f (decide_eq_false (by omega)) ⟨rfl,rfl,rfl⟩
theorem qh8:LnOK Try.prog (ln61x xx0):=by
 intro n0 b fr H p x e hn0 hp lg
 unfold ln61x at e
 split at e<;>cases e
 ·rename_i hc n c e b0 N cap i B0 B1 B2 B3 ms fs h1 h2 h3
  obtain⟨rfl,hb,hf,m,f,rfl,rfl,hm,hfl,hN⟩:=hp
  have hb:b=lp61x:=hb
  subst hb
  refine qam.pre (Weak.forget (by simp) mk61x) (fun lg => ?_) lg
  rw[hf]
  exact qsa hm hfl hN _ _ _ _ hc n c e i lg
 ·rename_i hc n c e b0 N cap i B0 B1 B2 B3 ms fs h1 h2 h3
  obtain⟨rfl,hb,hf,⟨m,f,rfl,rfl,hm,hfl,hN⟩,q,q0,q1,q2,q3⟩:=hp
  have hb:b=lp61x:=hb
  subst hb
  refine qam.pre (Weak.forget (by simp) mk61x) (fun lg => ?_) lg
  rw[hf]
  refine qam.pre (Weak.pickV [0,1,2,3,5,6] mk61x 0 (by simp) (by simp) (by simp)) (fun lg => ?_) lg
  have e1:∀ φ,forget mk61x (renL (pickN [0,1,2,3,5,6]) φ true (fr61y hc n c e i N 0))=fr61x hc n c e i N 0:=by
   intro φ
   have p0:pickN [0,1,2,3,5,6] 0=some 0:=rfl
   have p1:pickN [0,1,2,3,5,6] 1=some 1:=rfl
   have p2:pickN [0,1,2,3,5,6] 2=some 2:=rfl
   have p3:pickN [0,1,2,3,5,6] 3=some 3:=rfl
   have p5:pickN [0,1,2,3,5,6] 5=some 4:=rfl
   have p6:pickN [0,1,2,3,5,6] 6=some 5:=rfl
   unfold fr61y mk61x fr61x
   simp only[renL,ren,forget,p0,p1,p2,p3,p5,p6,qaa q]
  have e2:pickH (viewF [.cells B0,.cells B1,.cells B2,.cells B3,.dead,.cells (m.map by8),.cells (f.map by8)] [0,1,2,3,5,6] 0) [0,1,2,3,5,6] [.cells B0,.cells B1,.cells B2,.cells B3,.dead,.cells (m.map by8),.cells (f.map by8)] = [.cells B0,.cells B1,.cells B2,.cells B3,.cells (m.map by8),.cells (f.map by8)]:=by
   show [renB _ _ true (.cells B0),renB _ _ true (.cells B1),renB _ _ true (.cells B2),renB _ _ true (.cells B3),renB _ _ true (.cells (m.map by8)),renB _ _ true (.cells (f.map by8))]=_
   simp only[renB,qaa q0,qaa q1,qaa q2,qaa q3,qaa (qac _)]
  rw[e1,e2]
  exact qsa hm hfl hN _ _ _ _ hc n c e i lg
theorem qm5(a b:List UInt8):xorL a b=xorL b a:=by
 unfold xorL
 rw[List.zipWith_comm]
 congr 1
 funext x y
 exact UInt8.xor_comm _ _
theorem qiv(a b:List UInt8)(n:Nat):(xorL a b).drop n=xorL (a.drop n) (b.drop n):=by unfold xorL;rw[List.drop_zipWith]
theorem qjp(L:List (List UInt8)){i:Nat}(h:i<=7):xorL (fillL L i++zs 256) ((maskL (L.getD i []) bodyW (zs 2304)).drop (2304 - 256*(i+1)))=fillL L (i+1):=by
 have hl:=qbn (L:=L) (show i<=8 by omega)
 show _=(maskL (L.getD i []) bodyW (qdd i (fillL L i))).drop _
 have hi:(qdd i (fillL L i)).length=2304:=by
  unfold qdd
  rw[List.length_append,List.length_append,qao,qao,hl]; omega
 have ez:List.replicate 2304 (0:UInt8)=zs 2304:=by unfold zs;with_reducible rfl
 rw[qoq _ _ (qdd i (fillL L i)),hi,qiv,qm5,ez]
 refine congrArg (xorL _) ?_
 unfold qdd
 rw[List.drop_append_of_le_length (by rw[qao]; omega),List.drop_of_length_le (by rw[qao]; omega),List.nil_append]
end
end Go.Proofs.Vm

namespace Go.Proofs.Vm
set_option maxRecDepth 100000
open Go.Vm
noncomputable section
def PK6(kcs:List AV)(n:Nat):Prop:=1<=n/\n<=8/\∃ K:List (List UInt8),kcs=K.flatten.map by8/\K.length=n/\∀ x,x∈K->x.length=32
structure VF6 where
 fil:List AV->Nat->List AV
 one:Nat->Bool
def ln61f(V:VF6):LnF:=fun n0 b fr H=>match slot fr 1,slot fr 14,H with
 | .ros hc 0 n c e,.nils,[.cells B0,.cells B1,.cells B2,.cells B3] =>
  some (n0=0/\VCis b lp61f/\forget mk61f fr=fr61f hc n c e .nils 0/\PK6 B2 n/\B3=z8 2304/\flatL hc/\flatL B0/\flatL B1,.cond (V.one n) (.ok (.exit 2) (fr61f hc n c e .nils (Int.ofNat 0)) [.cells B0,.cells B1,.cells B2,.cells B3])
   (.ok (.exit 2) (fr61f hc n c e (.slc 4 0 (256*(n - 1)) (256*(n - 1)) 1) (Int.ofNat (n - 1))) [.cells B0,.cells B1,.cells B2,.cells B3,.cells (V.fil B2 n)]))
 | _,_,_=>none
theorem qmk{σ:Nat->Option Nat}{φ:Nat->Option (List AV)}{b' b:Nat}(h0:σ 0=some 0)(h1:σ 1=some 1)(h2:σ 2=some 2)(h3:σ 3=some 3)(h5:σ b'=some b){hc:List AV}(hf:flatL hc)(n c N:Nat)(e:Bool)(i:Int) :
  forget mk61f (renL σ φ true (fr61f hc n c e (.slc b' 0 N N 1) i))=fr61f hc n c e (.slc b 0 N N 1) i:=by
 unfold fr61f mk61f
 simp only[renL,ren,h0,h1,h2,h3,h5,forget,qaa hf]
theorem xr_eq(m f:List UInt8)(N:Nat):xx0.xr (m.map by8) (f.map by8) N=(xorL f (m.drop (2304 - N))).map by8:=by
 show(xorL (qag _) ((qag _).drop _)).map by8=_
 rw[qab,qab]
theorem pb_zs:PB ((zs 2304).map by8) 0 2304:=qbz _ _ (qao _).symm (by have:=qao 2304;omega)
theorem qyf(i:Nat)(K:List (List UInt8))(h:i=0):fillL K i++zs 256=zs 256:=by
 subst h
 rw[List.eq_nil_of_length_eq_zero (show(fillL K 0).length=0 from qbn (by omega))]
 rfl
section
variable {hc:List AV}{n c:Nat}{e:Bool}{K:List (List UInt8)}{B0 B1:List AV}
theorem qwy(hf:flatL hc)(f0:flatL B0)(f1:flatL B1)(hK:K.length=n)(h32:∀ x,x∈K->x.length=32)(h8:n<=8)(hi:0<n - 1) :
  qap Try.prog 0 lp61f (fr61f hc n c e .nils (Int.ofNat 0)) [.cells B0,.cells B1,.cells (K.flatten.map by8),.cells ((zs 2304).map by8)] .norm
   (fr61f hc n c e (.slc 4 0 256 256 1) (Int.ofNat 1)) [.cells B0,.cells B1,.cells (K.flatten.map by8),.cells ((zs 2304).map by8),.cells ((fillL K 1).map by8)]:=by
 have hl:0<K.length:=by omega
 have hx:=List.getElem?_eq_getElem hl
 have k1:=h32 _ (List.getElem_mem hl)
 have k2:=qe2 h32 hx
 have hg:K.getD 0 []=K[0]:=by rw[List.getD_eq_getElem?_getD,hx]; rfl
 have hst:=qjp K (i:=0) (by omega)
 rw[hg,qyf 0 K rfl] at hst
 have hkl:(K.flatten.map by8).length=n*32:=by rw[List.length_map,qdb h32,hK]
 generalize K[0]=key at k1 k2 hst
 have hb:qap Try.prog 0 lp61f (fr61f hc n c e .nils (Int.ofNat 0)) [.cells B0,.cells B1,.cells (K.flatten.map by8),.cells ((zs 2304).map by8)] .norm
   (fr61f hc n c e (.slc 5 0 256 256 1) (Int.ofNat 1)) [.cells B0,.cells B1,.cells (K.flatten.map by8),.cells ((zs 2304).map by8),.cells ((maskL key bodyW (zs 2304)).map by8),.cells ((fillL K 1).map by8)]:=by
  refine qa2 qbf qh8 (qak _) (n:=100) (g:=kdS) (bs:=mk61f) ?_ (by simp)
  have e1:ops0.ext (K.flatten.map by8) (0+0*32) 32=key.map by8:=by rw[nExt,Nat.zero_add]; exact k2
  have e2:rdB ((zs 2304).map by8) 0 2304=zs 2304:=rdW (qao _)
  have e3:HF.mask hf0 (key.map by8) [98,111,100,121] (zs 2304)=(maskL key bodyW (zs 2304)).map by8:=qej _ _ _
  have ml:(maskL key bodyW (zs 2304)).length=2304:=by rw[qbd,qao]
  rw[qx3,nAdr,e1,e2,e3,z8_zs 256,xr_eq,hst,add1 (by omega),nSub (by omega) (by omega),nLss]
  simp only[qbl,nInr,nLe,nPlus,nLen,decide_eq_true_eq]
  refine Br.t (decide_eq_true hi) ⟨by omega,by omega,⟨pkey _ k1,pb_zs⟩,⟨by first|exact True.intro|with_reducible rfl|exact rfl,by first|exact True.intro|with_reducible rfl|exact rfl,by first|exact True.intro|with_reducible rfl|exact rfl,maskL key bodyW (zs 2304),zs 256,by with_reducible rfl,by with_reducible rfl,ml,qao _,by omega⟩,by first|exact True.intro|with_reducible rfl|exact rfl,by first|exact True.intro|with_reducible rfl|exact rfl,by first|exact True.intro|with_reducible rfl|exact rfl⟩
 have h3:=hb.post (Weak.pickV [0,1,2,3,5] mk61f 0 (by simp) (by simp) (by simp))
 rw[qmk (show pickN [0,1,2,3,5] 0=some 0 from rfl) (show pickN [0,1,2,3,5] 1=some 1 from rfl) (show pickN [0,1,2,3,5] 2=some 2 from rfl) (show pickN [0,1,2,3,5] 3=some 3 from rfl) (show pickN [0,1,2,3,5] 5=some 4 from rfl) hf] at h3
 have e4:pickH (viewF [.cells B0,.cells B1,.cells (K.flatten.map by8),.cells ((zs 2304).map by8),.cells ((maskL key bodyW (zs 2304)).map by8),.cells ((fillL K 1).map by8)] [0,1,2,3,5] 0) [0,1,2,3,5] [.cells B0,.cells B1,.cells (K.flatten.map by8),.cells ((zs 2304).map by8),.cells ((maskL key bodyW (zs 2304)).map by8),.cells ((fillL K 1).map by8)]
   = [.cells B0,.cells B1,.cells (K.flatten.map by8),.cells ((zs 2304).map by8),.cells ((fillL K 1).map by8)]:=by
  show [renB _ _ true (.cells B0),renB _ _ true (.cells B1),renB _ _ true (.cells (K.flatten.map by8)),renB _ _ true (.cells ((zs 2304).map by8)),renB _ _ true (.cells ((fillL K 1).map by8))]=_
  simp only[renB,qaa f0,qaa f1,qaa (qac _)]
 rw[e4] at h3
 exact h3
theorem qw8(hf:flatL hc)(f0:flatL B0)(f1:flatL B1)(hK:K.length=n)(h32:∀ x,x∈K->x.length=32)(h8:n<=8){i:Nat}(hi:i<n - 1) :
  qap Try.prog 0 lp61f (fr61f hc n c e (.slc 4 0 (256*i) (256*i) 1) (Int.ofNat i)) [.cells B0,.cells B1,.cells (K.flatten.map by8),.cells ((zs 2304).map by8),.cells ((fillL K i).map by8)] .norm
   (fr61f hc n c e (.slc 4 0 (256*(i+1)) (256*(i+1)) 1) (Int.ofNat (i+1))) [.cells B0,.cells B1,.cells (K.flatten.map by8),.cells ((zs 2304).map by8),.cells ((fillL K (i+1)).map by8)]:=by
 have hl:i<K.length:=by omega
 have hx:=List.getElem?_eq_getElem hl
 have k1:=h32 _ (List.getElem_mem hl)
 have k2:=qe2 h32 hx
 have hg:K.getD i []=K[i]:=by rw[List.getD_eq_getElem?_getD,hx]; rfl
 have hst:=qjp K (i:=i) (by omega)
 rw[hg] at hst
 have hkl:K.flatten.length=n*32:=by rw[qdb h32,hK]
 have hfl:=qbn (L:=K) (i:=i) (by omega)
 have hfl2:=qbn (L:=K) (i:=i+1) (by omega)
 generalize K[i]=key at k1 k2 hst
 have hN:256*(i+1)=256*i+256:=by omega
 have hNb:256*i<=1792:=by omega
 rw[hN] at hst hfl2 ⊢
 generalize fillL K i=f at hst hfl
 generalize fillL K (i+1)=f2 at hst hfl2
 generalize 256*i=N at hst hfl hfl2 hNb
 have hb:qap Try.prog 0 lp61f (fr61f hc n c e (.slc 4 0 N N 1) (Int.ofNat i)) [.cells B0,.cells B1,.cells (K.flatten.map by8),.cells ((zs 2304).map by8),.cells (f.map by8)] .norm
   (fr61f hc n c e (.slc 5 0 (N+256) (N+256) 1) (Int.ofNat (i+1))) [.cells B0,.cells B1,.cells (K.flatten.map by8),.cells ((zs 2304).map by8),.cells ((maskL key bodyW (zs 2304)).map by8),.cells (f2.map by8)]:=by
  refine qa2 qbf qh8 (qak _) (n:=100) (g:=kdS) (bs:=mk61f) ?_ (by simp)
  have e1:ops0.ext (K.flatten.map by8) (0+i*32) 32=key.map by8:=by rw[nExt,Nat.zero_add]; exact k2
  have e2:rdB ((zs 2304).map by8) 0 2304=zs 2304:=rdW (qao _)
  have e3:HF.mask hf0 (key.map by8) [98,111,100,121] (zs 2304)=(maskL key bodyW (zs 2304)).map by8:=qej _ _ _
  have ml:(maskL key bodyW (zs 2304)).length=2304:=by rw[qbd,qao]
  rw[qxl,nAdr,e1,e2,e3,z8_zs 256,extW hfl,qhm]
  simp only[nPlus]
  rw[xr_eq,hst,add1 (by omega),nSub (by omega) (by omega),nLss]
  simp only[qbl,nInr,nLe,nPlus,qbw,nLen,nRoom,List.length_map,hfl,decide_eq_true_eq]
  refine Br.t (decide_eq_true hi) ⟨by omega,by omega,⟨pkey _ k1,pb_zs⟩,by omega,?_,⟨by first|exact True.intro|with_reducible rfl|exact rfl,by first|exact True.intro|with_reducible rfl|exact rfl,by first|exact True.intro|with_reducible rfl|exact rfl,⟨maskL key bodyW (zs 2304),f++zs 256,by with_reducible rfl,by with_reducible rfl,ml,by rw[List.length_append,qao,hfl],by omega⟩,hf,f0,f1,qac _,qac _⟩,by first|exact True.intro|with_reducible rfl|exact rfl,by first|exact True.intro|with_reducible rfl|exact rfl,by first|exact True.intro|with_reducible rfl|exact rfl⟩
  have:N<=2304:=by omega
  omega
 have h3:=hb.post (Weak.pickV [0,1,2,3,5] mk61f 0 (by simp) (by simp) (by simp))
 rw[qmk (show pickN [0,1,2,3,5] 0=some 0 from rfl) (show pickN [0,1,2,3,5] 1=some 1 from rfl) (show pickN [0,1,2,3,5] 2=some 2 from rfl) (show pickN [0,1,2,3,5] 3=some 3 from rfl) (show pickN [0,1,2,3,5] 5=some 4 from rfl) hf] at h3
 have e4:pickH (viewF [.cells B0,.cells B1,.cells (K.flatten.map by8),.cells ((zs 2304).map by8),.cells ((maskL key bodyW (zs 2304)).map by8),.cells (f2.map by8)] [0,1,2,3,5] 0) [0,1,2,3,5] [.cells B0,.cells B1,.cells (K.flatten.map by8),.cells ((zs 2304).map by8),.cells ((maskL key bodyW (zs 2304)).map by8),.cells (f2.map by8)]
   = [.cells B0,.cells B1,.cells (K.flatten.map by8),.cells ((zs 2304).map by8),.cells (f2.map by8)]:=by
  show [renB _ _ true (.cells B0),renB _ _ true (.cells B1),renB _ _ true (.cells (K.flatten.map by8)),renB _ _ true (.cells ((zs 2304).map by8)),renB _ _ true (.cells (f2.map by8))]=_
  simp only[renB,qaa f0,qaa f1,qaa (qac _)]
 rw[e4] at h3
 exact h3
end
def vf6:VF6:=⟨fun kcs n=>(fillL (shA kcs 0 n) (n - 1)).map by8,fun n=>decide (n=1)⟩
theorem qnp{K:List (List UInt8)}(h:∀ x,x∈K->x.length=32):ShAt (K.flatten.map by8) 0 K.length K :=
 ⟨rfl,fun i x hx=>⟨h x (List.mem_of_getElem? hx),by rw[Nat.zero_add]; exact qe2 h hx⟩⟩
theorem qv5:LnOK Try.prog (ln61f vf6):=by
 intro n0 b fr H p x e hn0 hp lg
 unfold ln61f at e
 split at e<;>cases e
 rename_i hc n c e B0 B1 B2 B3 h1 h2
 obtain⟨rfl,hb,hf,⟨n1,n8,K,rfl,hK,h32⟩,rfl,hfl,f0,f1⟩:=hp
 have hb:b=lp61f:=hb
 subst hb
 rw[z8_zs 2304]
 have ev:vf6.fil (K.flatten.map by8) n=(fillL K (n - 1)).map by8:=by
  show(fillL (shA _ 0 n) _).map by8=_
  rw[<-hK,qcr (qnp h32)]
 rw[ev]
 refine qam.pre (Weak.forget (by simp) mk61f) (fun lg => ?_) lg
 rw[hf]
 by_cases h:n=1
 ·have hz:vf6.one n=true:=decide_eq_true h
  rw[hz]
  subst h
  refine qal (P:=Try.prog) (n0:=0) (b:=lp61f) (ex := .exit 2) (fr':=fr61f hc 1 c e .nils (Int.ofNat 0)) (H' := [.cells B0,.cells B1,.cells (K.flatten.map by8),.cells ((zs 2304).map by8)]) (by intro h;cases h) (fun _=>(fr61f hc 1 c e .nils (Int.ofNat 0),[.cells B0,.cells B1,.cells (K.flatten.map by8),.cells ((zs 2304).map by8)])) 0 0 (fun j h1 h2=>by omega) ?_ lg
  refine qa2 qbf qh8 (qak _) (n:=100) (g:=kdS) (bs:=mk61f) ?_ (by simp)
  show vm _ _ _ _ _ _ (fr61f hc 1 c e .nils (Int.ofNat 0)) [.cells B0,.cells B1,.cells (K.flatten.map by8),.cells ((zs 2304).map by8)] _ _
  rw[qx3,nSub (by omega) (by omega),nLss]
  exact Br.f (decide_eq_false (by omega)) ⟨rfl,rfl,rfl⟩
 ·have hz:vf6.one n=false:=decide_eq_false h
  rw[hz]
  have h:=qal (P:=Try.prog) (n0:=0) (b:=lp61f) (ex := .exit 2) (fr':=fr61f hc n c e (.slc 4 0 (256*(n - 1)) (256*(n - 1)) 1) (Int.ofNat (n - 1))) (H' := [.cells B0,.cells B1,.cells (K.flatten.map by8),.cells ((zs 2304).map by8),.cells ((fillL K (n - 1)).map by8)]) (by intro h;cases h)
   (fun i=>match i with
    | 0=>(fr61f hc n c e .nils (Int.ofNat 0),[.cells B0,.cells B1,.cells (K.flatten.map by8),.cells ((zs 2304).map by8)])
    | k+1=>(fr61f hc n c e (.slc 4 0 (256*(k+1)) (256*(k+1)) 1) (Int.ofNat (k+1)),[.cells B0,.cells B1,.cells (K.flatten.map by8),.cells ((zs 2304).map by8),.cells ((fillL K (k+1)).map by8)])) (n - 1) 0 (fun i _ hi => ?_) ?_
  ·exact h lg
  ·cases i with
   | zero=>exact qwy hfl f0 f1 hK h32 n8 (by omega)
   | succ k=>exact qw8 hfl f0 f1 hK h32 n8 (by omega)
  ·obtain⟨m,hm⟩:∃ m,n - 1=m+1:=⟨n - 2,by omega⟩
   rw[Nat.zero_add,hm]
   refine qa2 qbf qh8 (qak _) (n:=100) (g:=kdS) (bs:=mk61f) ?_ (by simp)
   show vm _ _ _ _ _ _ (fr61f hc n c e (.slc 4 0 (256*(m+1)) (256*(m+1)) 1) (Int.ofNat (m+1))) [.cells B0,.cells B1,.cells (K.flatten.map by8),.cells ((zs 2304).map by8),.cells ((fillL K (m+1)).map by8)] _ _
   rw[qxl,nSub (by omega) (by omega),nLss]
   exact Br.f (decide_eq_false (by omega)) ⟨rfl,rfl,rfl⟩
end
end Go.Proofs.Vm

namespace Go.Proofs.Vm
set_option maxRecDepth 100000
open Go.Vm
noncomputable section
def mk61z:List Bool := [true,true,true,true,true,true,false,true,true,true,true,true,true,true,true,true,true,true,false,false,true,true,true,true,true,true,true,true,true,true,true,true,true,true,true,true,true,true,true,true,true,true,true,true,true,true,true,true,true,true,true,true,true,true,true,true,true,true,true,true,true,true,true,true,true,true,true,true,true,true,true,true,true,true,true,true,true,true,true,true,true,true,true,true,true,true,true,true,true,true,true,true,true,true,true,true,true,true,true,true,true,true,true,true,true,true,true,true,true,true,true,true,true,true,true,true,true,true,true,true,true,true,true,true,true,true,true,true,true,true,true,true,true,true,true,true,true,true,true,true,true,true,true,true,true,true,true,true,true]
def fr61z:Fr := [.top,.top,.top,.top,.top,.top,.ptr 0 0,.top,.top,.top,.top,.top,.top,.top,.top,.top,.top,.top,.slc 4 0 2048 2048 1,.ptr 3 0,.top,.top,.top,.top,.top,.top,.top,.top,.top,.top,.top,.top,.top,.top,.top,.top,.top,.top,.top,.top,.top,.top,.top,.top,.top,.top,.top,.top,.top,.top,.top,.top,.top,.top,.top,.top,.top,.top,.top,.top,.top,.top,.top,.top,.top,.top,.top,.top,.top,.top,.top,.top,.top,.top,.top,.top,.top,.top,.top,.top,.top,.top,.top,.top,.top,.top,.top,.top,.top,.top,.top,.top,.top,.top,.top,.top,.top,.top,.top,.top,.top,.top,.top,.top,.top,.top,.top,.top,.top,.top,.top,.top,.top,.top,.top,.top,.top,.top,.top,.top,.top,.top,.top,.top,.top,.top,.top,.top,.top,.top,.top,.top,.top,.top,.top,.top,.top,.top,.top,.top,.top,.top,.top,.top,.top,.top,.top,.top,.top]
def qmf(hc:List AV)(n c:Nat)(e:Bool)(i:Int):Fr := [.top,.ros hc 0 n c e,.top,.top,.top,.top,.ptr 0 0,.ptr 1 0,.top,.top,.int .i64 (Int.ofNat n),.top,.slc 2 0 n n 32,.top,.nils,.top,.top,.top,.slc 4 0 2048 2048 1,.ptr 5 0,.int .i64 i,.top,.top,.top,.top,.top,.top,.top,.top,.top,.top,.top,.top,.top,.top,.top,.top,.top,.top,.top,.top,.top,.top,.top,.top,.top,.top,.top,.top,.top,.top,.top,.top,.top,.top,.top,.top,.top,.top,.top,.top,.top,.top,.top,.top,.top,.top,.top,.top,.top,.top,.top,.top,.top,.top,.top,.top,.top,.top,.top,.top,.top,.top,.top,.top,.top,.top,.top,.top,.top,.top,.top,.top,.top,.top,.top,.top,.top,.top,.top,.top,.top,.top,.top,.top,.top,.top,.top,.top,.top,.top,.top,.top,.top,.top,.top,.top,.top,.top,.top,.top,.top,.top,.top,.top,.top,.top,.top,.top,.top,.top,.top,.top,.top,.top,.top,.top,.top,.top,.top,.top,.top,.top,.top,.top,.top,.top,.top,.top]
def qmd(hc:List AV)(n c N:Nat)(e:Bool)(i:Int):Fr := [.top,.ros hc 0 n c e,.top,.top,.top,.top,.ptr 0 0,.ptr 1 0,.top,.top,.int .i64 (Int.ofNat n),.top,.slc 2 0 n n 32,.top,.slc 4 0 N N 1,.top,.top,.top,.slc 5 0 2048 2048 1,.ptr 6 0,.int .i64 i,.top,.top,.top,.top,.top,.top,.top,.top,.top,.top,.top,.top,.top,.top,.top,.top,.top,.top,.top,.top,.top,.top,.top,.top,.top,.top,.top,.top,.top,.top,.top,.top,.top,.top,.top,.top,.top,.top,.top,.top,.top,.top,.top,.top,.top,.top,.top,.top,.top,.top,.top,.top,.top,.top,.top,.top,.top,.top,.top,.top,.top,.top,.top,.top,.top,.top,.top,.top,.top,.top,.top,.top,.top,.top,.top,.top,.top,.top,.top,.top,.top,.top,.top,.top,.top,.top,.top,.top,.top,.top,.top,.top,.top,.top,.top,.top,.top,.top,.top,.top,.top,.top,.top,.top,.top,.top,.top,.top,.top,.top,.top,.top,.top,.top,.top,.top,.top,.top,.top,.top,.top,.top,.top,.top,.top,.top,.top,.top]
def qs8(hc:List AV)(n c:Nat)(e:Bool)(i:Int):Fr := [.top,.ros hc 0 n c e,.top,.top,.top,.top,.ptr 0 0,.ptr 1 0,.top,.top,.int .i64 (Int.ofNat n),.top,.slc 2 0 n n 32,.top,.nils,.top,.top,.top,.slc 4 0 2048 2048 1,.ptr 3 0,.int .i64 i,.top,.top,.top,.top,.top,.top,.top,.top,.top,.top,.top,.top,.top,.top,.top,.top,.top,.top,.top,.top,.top,.top,.top,.top,.top,.top,.top,.top,.top,.top,.top,.top,.top,.top,.top,.top,.top,.top,.top,.top,.top,.top,.top,.top,.top,.top,.top,.top,.top,.top,.top,.top,.top,.top,.top,.top,.top,.top,.top,.top,.top,.top,.top,.top,.top,.top,.top,.top,.top,.top,.top,.top,.top,.top,.top,.top,.top,.top,.top,.top,.top,.top,.top,.top,.top,.top,.top,.top,.top,.top,.top,.top,.top,.top,.top,.top,.top,.top,.top,.top,.top,.top,.top,.top,.top,.top,.top,.top,.top,.top,.top,.top,.top,.top,.top,.top,.top,.top,.top,.top,.top,.top,.top,.top,.top,.top,.top,.top]
structure YB where
 nx:List AV->Nat->List AV->List AV->List AV
 bd:List AV->Nat->List AV->List AV->List AV
def PB6(hc:List AV)(n:Nat)(hc2 kcs fs:List AV):Prop:=∃ hs L hash,In60 hc n kcs fs 0 (256*(n - 1)) hs L hash (fillL L (n - 1))/\1<=n/\hc2=hash.map by8
def ln61b(Y:YB):LnF:=fun n0 b fr H=>match slot fr 1,slot fr 14,H with
 | .ros hc 0 n c e,.nils,[.cells B0,.cells B1,.cells B2,.cells _,.cells B4,.cells B5] =>
  some (n0=0/\VCis b lp61b/\forget mk61b fr=qmf hc n c e (Int.ofNat (n - 1))/\PB6 hc n B1 B2 []/\n=1/\FlatH B0/\B4=z8 2048/\B5=z8 32,.ok (.exit 6) fr61z [.cells B0,.cells B1,.cells B2,.cells (Y.nx hc n B1 B2),.cells (Y.bd hc n B1 B2)])
 | .ros hc 0 n c e,.slc _ 0 N _ 1,[.cells B0,.cells B1,.cells B2,.cells _,.cells B4,.cells B5,.cells B6] =>
  some (n0=0/\VCis b lp61b/\forget mk61b fr=qmd hc n c N e (Int.ofNat (n - 1))/\PB6 hc n B1 B2 B4/\N=256*(n - 1)/\FlatH B0/\B5=z8 2048/\B6=z8 32,.ok (.exit 6) fr61z [.cells B0,.cells B1,.cells B2,.cells (Y.nx hc n B1 B2),.cells (Y.bd hc n B1 B2)])
 | _,_,_=>none
theorem q3m{l:List UInt8}{n:Nat}(h:n<=l.length)(hl:n<137438953472):PB (l.map by8) 0 n :=
 ⟨qac _,by rw[List.length_map,Nat.zero_add]; exact h,hl,l.take n,by rw[List.length_take]; omega,by rw[List.drop_zero,<-List.map_take]⟩
theorem qmm{σ:Nat->Option Nat}{φ:Nat->Option (List AV)}{b':Nat}(h0:σ 0=some 0)(h1:σ 1=some 1)(h2:σ 2=some 2)(h3:σ 3=some 3)(h5:σ b'=some 4){hc fc:List AV}(hf:flatL hc)(hff:flatL fc)(n c:Nat)(e:Bool)(fo fl fcap:Nat)(i:Int)(x:AV)(hx:x = .slc b' 0 2048 2048 1) :
  forget mk61b (renL σ φ true ((fr61b hc n c e fc fo fl fcap i).set 18 x))=fr61b hc n c e fc fo fl fcap i:=by
 subst hx
 show forget mk61b (renL σ φ true ([.top,.ros hc 0 n c e,.top,.top,.top,.top,.ptr 0 0,.ptr 1 0,.top,.top,.int .i64 (Int.ofNat n),.top,.slc 2 0 n n 32,.top,.ros fc fo fl fcap false,.top,.top,.top,.slc b' 0 2048 2048 1,.ptr 3 0,.int .i64 i,.top,.top,.top,.top,.top,.top,.top,.top,.top,.top,.top,.top,.top,.top,.top,.top,.top,.top,.top,.top,.top,.top,.top,.top,.top,.top,.top,.top,.top,.top,.top,.top,.top,.top,.top,.top,.top,.top,.top,.top,.top,.top,.top,.top,.top,.top,.top,.top,.top,.top,.top,.top,.top,.top,.top,.top,.top,.top,.top,.top,.top,.top,.top,.top,.top,.top,.top,.top,.top,.top,.top,.top,.top,.top,.top,.top,.top,.top,.top,.top,.top,.top,.top,.top,.top,.top,.top,.top,.top,.top,.top,.top,.top,.top,.top,.top,.top,.top,.top,.top,.top,.top,.top,.top,.top,.top,.top,.top,.top,.top,.top,.top,.top,.top,.top,.top,.top,.top,.top,.top,.top,.top,.top,.top,.top,.top,.top,.top]))=_
 unfold fr61b mk61b
 simp only[renL,ren,h0,h1,h2,h3,h5,forget,qaa hf,qaa hff]
section
variable {hc:List AV}{n c:Nat}{e:Bool}{kcs fc:List AV}{fo fl fcap:Nat}{hs:List Hop}{L:List (List UInt8)}{hash fil:List UInt8}{B0:List AV}
def S6(B0:List AV)(kcs:List AV)(n:Nat)(hs:List Hop)(L:List (List UInt8))(hash fil:List UInt8)(j:Nat):Hl :=
 [.cells B0,.cells (hash.map by8),.cells kcs,.cells ((bstep L hs hash fil n j).2.map by8),.cells ((bstep L hs hash fil n j).1.map by8)]
theorem q0i(h:In60 hc n kcs fc fo fl hs L hash fil)(f0:FlatH B0){j:Nat}(hj:j<n) :
  qap Try.prog 0 lp61b (fr61b hc n c e fc fo fl fcap (Int.ofNat (n - 1 - j))) (S6 B0 kcs n hs L hash fil j) .norm (fr61b hc n c e fc fo fl fcap (Int.ofNat (n - 1 - j) - 1)) (S6 B0 kcs n hs L hash fil (j+1)):=by
 obtain⟨hops,hflat,hpos,rfl,hLn,hL32,hn8,hh,hff,hfil,hfr,hfl⟩:=h
 have hfl2:fil.length=fl:=hfil.1
 have hmem:∀ h,h∈hs->h.L32:=fun h hm=>let ⟨i,hi⟩:=List.getElem?_of_mem hm;(hops.2 i h hi).1
 obtain⟨b1,b2⟩:=qc2 (L:=L) (hs:=hs) (hash:=hash) (fil:=fil) (n:=n) (by omega) hmem j
 have hi:n - 1 - j<n:=by omega
 have hroom:=hops.len hi
 have hix:n - 1 - j<hs.length:=by rw[hops.1]; exact hi
 have hx:=List.getElem?_eq_getElem hix
 obtain⟨q1,q2⟩:=hops.2 (n - 1 - j) _ hx
 have qp:=hpos _ (List.getElem_mem hix)
 have hgh:hs.getD (n - 1 - j) hop0=hs[n - 1 - j]:=by rw[List.getD_eq_getElem?_getD,hx]; rfl
 have hkl:n - 1 - j<L.length:=by rw[hLn]; exact hi
 have hk:=List.getElem?_eq_getElem hkl
 have k1:=hL32 _ (List.getElem_mem hkl)
 have k2:=qe2 hL32 hk
 have hgk:L.getD (n - 1 - j) []=L[n - 1 - j]:=by rw[List.getD_eq_getElem?_getD,hk]; rfl
 have hkcs:L.flatten.length=n*32:=by rw[qdb hL32,hLn]
 have hS:bstep L hs hash fil n (j+1)=((if j=0 then(maskL L[n - 1 - j] bodyW (partL hs[n - 1 - j] (bstep L hs hash fil n j).2++(bstep L hs hash fil n j).1.take 1792)).take (2048 - fil.length)++fil else maskL L[n - 1 - j] bodyW (partL hs[n - 1 - j] (bstep L hs hash fil n j).2++(bstep L hs hash fil n j).1.take 1792)),
   btagL L[n - 1 - j] (if j=0 then(maskL L[n - 1 - j] bodyW (partL hs[n - 1 - j] (bstep L hs hash fil n j).2++(bstep L hs hash fil n j).1.take 1792)).take (2048 - fil.length)++fil else maskL L[n - 1 - j] bodyW (partL hs[n - 1 - j] (bstep L hs hash fil n j).2++(bstep L hs hash fil n j).1.take 1792)) hash):=by
  show(_,_)=_
  rw[hgh,hgk]
 generalize hs[n - 1 - j]=hp at q1 q2 qp hS
 generalize L[n - 1 - j]=key at k1 k2 hS
 unfold S6
 rw[hS,hfl2]
 generalize (bstep L hs hash fil n j).1=bd at b1
 generalize (bstep L hs hash fil n j).2=nx at b2
 have m1:(partL hp nx++bd.take 1792).length=2048:=by rw[List.length_append,qbb q1 b2,List.length_take,b1]; rfl
 have m2:(maskL key bodyW (partL hp nx++bd.take 1792)).length=2048:=by rw[qbd,m1]
 generalize hM:maskL key bodyW (partL hp nx++bd.take 1792)=M at m2
 generalize hB:(if j=0 then M.take (2048 - fl)++fil else M)=B
 have m3:B.length=2048:=by
  rw[<-hB]
  split
  ·rw[List.length_append,List.length_take,m2,hfl2]; omega
  ·exact m2
 have m4:=qiu key B hash
 have s1:=qba k1
 have s2:=qba b2
 have s3:=qba hh
 have s4:=qba (qbb q1 b2)
 have s6:=qba m2
 have s7:=qba m3
 have s8:=qba b1
 have m5:(partL hp nx++bd).length=2304:=by rw[List.length_append,qbb q1 b2,b1]
 have s5:sl (partL hp nx++bd) 0 2048=partL hp nx++bd.take 1792:=by
  unfold sl
  rw[List.drop_zero,List.take_append,qbb q1 b2,List.take_of_length_le (by rw[qbb q1 b2]; omega)]
 have e1:ops0.ext hc (0+(n - 1 - j)*101) 101=hopC hp:=by rw[nExt,Nat.zero_add]; exact q2
 have e2:ops0.ext (L.flatten.map by8) (0+(n - 1 - j)*32) 32=key.map by8:=by rw[nExt,Nat.zero_add]; exact k2
 have pb2048:qan (B.map by8) 0 2048 B:=by have:=qax B;rw[m3] at this;exact this
 have pbd:PBd (B.map by8) 0 2048:=⟨qac _,by rw[List.length_map,m3]; omega,by omega,_,pb2048⟩
 have hmk:maskL key [98,111,100,121] (partL hp nx++bd.take 1792)=M:=hM
 have hpb:PB ((partL hp nx++bd).map by8) 0 2048:=q3m (by omega) (by omega)
 have esub:ops0.bin .sub .i64 (Int.ofNat n) (Int.ofNat 1)=Int.ofNat (n - 1):=nSub (by omega) (by omega)
 have edec:ops0.bin .sub .i64 (Int.ofNat (n - 1 - j)) (Int.ofNat 1)=Int.ofNat (n - 1 - j) - 1:=by
  show IntKind.i64.wrap (Int.ofNat (n - 1 - j) - 1)=_
  exact qcv (by simp only[Int.ofNat_eq_natCast]; omega) (by simp only[Int.ofNat_eq_natCast]; omega)
 have endA:∀ bb:Blk,∀ X5 X6 X7 X8:Blk,Weak 0 ((fr61b hc n c e fc fo fl fcap (Int.ofNat (n - 1 - j) - 1)).set 18 (.slc 9 0 2048 2048 1)) [.cells B0,.cells (hash.map by8),.cells (L.flatten.map by8),.cells ((btagL key B hash).map by8),bb,X5,X6,X7,X8,.cells (B.map by8)]
   (fr61b hc n c e fc fo fl fcap (Int.ofNat (n - 1 - j) - 1)) [.cells B0,.cells (hash.map by8),.cells (L.flatten.map by8),.cells ((btagL key B hash).map by8),.cells (B.map by8)]:=by
  intro bb X5 X6 X7 X8
  have hw:=Weak.pickV (n0:=0) (fr:=(fr61b hc n c e fc fo fl fcap (Int.ofNat (n - 1 - j) - 1)).set 18 (.slc 9 0 2048 2048 1)) (H := [.cells B0,.cells (hash.map by8),.cells (L.flatten.map by8),.cells ((btagL key B hash).map by8),bb,X5,X6,X7,X8,.cells (B.map by8)]) [0,1,2,3,9] mk61b 0 (by simp) (by simp) (by simp)
  rw[qmm (show pickN [0,1,2,3,9] 0=some 0 from rfl) (show pickN [0,1,2,3,9] 1=some 1 from rfl) (show pickN [0,1,2,3,9] 2=some 2 from rfl) (show pickN [0,1,2,3,9] 3=some 3 from rfl) (show pickN [0,1,2,3,9] 9=some 4 from rfl) hflat hff n c e fo fl fcap _ _ rfl] at hw
  have e4:pickH (viewF [.cells B0,.cells (hash.map by8),.cells (L.flatten.map by8),.cells ((btagL key B hash).map by8),bb,X5,X6,X7,X8,.cells (B.map by8)] [0,1,2,3,9] 0) [0,1,2,3,9] [.cells B0,.cells (hash.map by8),.cells (L.flatten.map by8),.cells ((btagL key B hash).map by8),bb,X5,X6,X7,X8,.cells (B.map by8)] = [.cells B0,.cells (hash.map by8),.cells (L.flatten.map by8),.cells ((btagL key B hash).map by8),.cells (B.map by8)]:=by
   show [renB _ _ true (.cells B0),renB _ _ true (.cells (hash.map by8)),renB _ _ true (.cells (L.flatten.map by8)),renB _ _ true (.cells ((btagL key B hash).map by8)),renB _ _ true (.cells (B.map by8))]=_
   simp only[renB,f0 _ _,qaa (qac _)]
  rw[e4] at hw
  exact hw
 have endB:∀ bb:Blk,∀ X5 X6:Blk,Weak 0 ((fr61b hc n c e fc fo fl fcap (Int.ofNat (n - 1 - j) - 1)).set 18 (.slc 7 0 2048 2048 1)) [.cells B0,.cells (hash.map by8),.cells (L.flatten.map by8),.cells ((btagL key B hash).map by8),bb,X5,X6,.cells (B.map by8)]
   (fr61b hc n c e fc fo fl fcap (Int.ofNat (n - 1 - j) - 1)) [.cells B0,.cells (hash.map by8),.cells (L.flatten.map by8),.cells ((btagL key B hash).map by8),.cells (B.map by8)]:=by
  intro bb X5 X6
  have hw:=Weak.pickV (n0:=0) (fr:=(fr61b hc n c e fc fo fl fcap (Int.ofNat (n - 1 - j) - 1)).set 18 (.slc 7 0 2048 2048 1)) (H := [.cells B0,.cells (hash.map by8),.cells (L.flatten.map by8),.cells ((btagL key B hash).map by8),bb,X5,X6,.cells (B.map by8)]) [0,1,2,3,7] mk61b 0 (by simp) (by simp) (by simp)
  rw[qmm (show pickN [0,1,2,3,7] 0=some 0 from rfl) (show pickN [0,1,2,3,7] 1=some 1 from rfl) (show pickN [0,1,2,3,7] 2=some 2 from rfl) (show pickN [0,1,2,3,7] 3=some 3 from rfl) (show pickN [0,1,2,3,7] 7=some 4 from rfl) hflat hff n c e fo fl fcap _ _ rfl] at hw
  have e4:pickH (viewF [.cells B0,.cells (hash.map by8),.cells (L.flatten.map by8),.cells ((btagL key B hash).map by8),bb,X5,X6,.cells (B.map by8)] [0,1,2,3,7] 0) [0,1,2,3,7] [.cells B0,.cells (hash.map by8),.cells (L.flatten.map by8),.cells ((btagL key B hash).map by8),bb,X5,X6,.cells (B.map by8)] = [.cells B0,.cells (hash.map by8),.cells (L.flatten.map by8),.cells ((btagL key B hash).map by8),.cells (B.map by8)]:=by
   show [renB _ _ true (.cells B0),renB _ _ true (.cells (hash.map by8)),renB _ _ true (.cells (L.flatten.map by8)),renB _ _ true (.cells ((btagL key B hash).map by8)),renB _ _ true (.cells (B.map by8))]=_
   simp only[renB,f0 _ _,qaa (qac _)]
  rw[e4] at hw
  exact hw
 intro cd hcd
 have hv:vm (vcA kdS (cnO2 oz0 of1 hf0) noLn) ops0 noTab 100 0 lp61b (fr61b hc n c e fc fo fl fcap (Int.ofNat (n - 1 - j))) [.cells B0,.cells (hash.map by8),.cells (L.flatten.map by8),.cells (nx.map by8),.cells (bd.map by8)] []
   (bodyX mk61b fun ex fr H=>ex = .norm/\Weak 0 fr H (fr61b hc n c e fc fo fl fcap (Int.ofNat (n - 1 - j) - 1)) [.cells B0,.cells (hash.map by8),.cells (L.flatten.map by8),.cells ((btagL key B hash).map by8),.cells (B.map by8)]):=by
  rw[qxi,esub,edec]
  simp only[nAdr,e1,e2,qg9,s2,s3,qsr q1,s4,s8,qhm,rd_sl,s5,qej,hmk]
  simp only[qbl,nGeq,nInr,nLe,nPlus,nLen,nEq,List.length_map,k1,b1,b2,hh,qbb q1 b2,decide_eq_true_eq]
  refine Br.t (decide_eq_true (Nat.zero_le _)) ?_
  simp only[Nat.reduceLeDiff,Nat.le_refl,true_and]
  refine⟨hi,by omega,⟨⟨hp,q1,qp,rfl⟩,pkey _ b2⟩,hi,by omega,⟨pkey _ k1,hpb⟩,?_⟩
  rw[nEql]
  refine Br.mk (fun hl => ?_) (fun hl => ?_)
  ·have hj0:j=0:=by
    have:=of_decide_eq_true hl
    omega
   have hB0:M.take (2048 - fl)++fil=B:=by rw[<-hB,if_pos hj0]
   have s9:sl M 0 (2048 - fl)=M.take (2048 - fl):=by unfold sl;rw[List.drop_zero]
   have l9:(M.take (2048 - fl)).length=2048 - fl:=by rw[List.length_take,m2]; omega
   have s10:=qba l9
   have ef:ops0.ext fc fo fl=fil.map by8:=by rw[nExt]; exact hfil.2
   have e48:2048 - fl+fl=2048:=by omega
   simp only[subN hfl (by omega),nNat,qbw,nPlus,qs6,Nat.mul_one,Nat.zero_add,Nat.sub_zero,qg9,s9,s10,ef,qhm,hB0,rd_sl,e48,s7,qj2,qgg b2 m4]
   simp only[qbl,nInb,nLe,nLen,nEq,nRoom,List.length_map,m2,l9,m4,decide_eq_true_eq]
   repeat' with_reducible apply And.intro
   all_goals first|exact True.intro|exact endA _ _ _ _ _|exact hi|omega|exact pkey _ k1|exact pkey _ hh|exact pbd|with_reducible rfl
  ·have hj0:¬ j=0:=by
    have:=of_decide_eq_false hl
    omega
   have hB0:M=B:=by rw[<-hB,if_neg hj0]
   simp only[hB0,rd_sl,s7,qj2,qgg b2 m4]
   simp only[qbl,nLe,nLen,nEq,List.length_map,m3,m4,decide_eq_true_eq]
   repeat' with_reducible apply And.intro
   all_goals first|exact True.intro|exact endB _ _ _|exact hi|omega|exact pkey _ k1|exact pkey _ hh|exact pbd|with_reducible rfl
 obtain⟨ex,fr,H,lg,hg,rfl,hw⟩:=qgw (P:=Try.prog) qbf (qai _) (qak _) hv (Nat.zero_le _) cd hcd
 exact⟨_,(hg.post (Weak.forget (Nat.zero_le _) mk61b)).post hw⟩
end
end
end Go.Proofs.Vm

namespace Go.Proofs.Vm
set_option maxRecDepth 100000
open Go.Vm
noncomputable section
theorem Weak.slot{n0:Nat}{fr:Fr}{H:Hl}{k:Nat}{x y:AV}(hn:n0<=H.length)(hk:fr[k]? = some x)(hv:VLe x y):Weak n0 fr H (fr.set k y) H where
 grow:=hn
 does ρ w hg:=by
  refine⟨ρ,hg,Ext.refl _ _ _,fun tmps h=>⟨by rw[List.length_set]; exact h.len,fun i a v ha hv2 => ?_⟩⟩
  rw[List.getElem?_set] at ha
  by_cases hki:k=i
  ·rw[if_pos hki] at ha
   split at ha
   ·cases ha
    subst hki
    exact hv ρ w v (h.at_ k x v hk hv2)
   ·cases ha
  ·rw[if_neg hki] at ha
   exact h.at_ i a v ha hv2
def yb0:YB where
 nx hc n hs kcs:=((bstep (shA kcs 0 n) (hsOf hc n) (qag hs) (fillL (shA kcs 0 n) (n - 1)) n n).2).map by8
 bd hc n hs kcs:=((bstep (shA kcs 0 n) (hsOf hc n) (qag hs) (fillL (shA kcs 0 n) (n - 1)) n n).1).map by8
section
variable {hc:List AV}{n c:Nat}{e:Bool}{kcs fc:List AV}{fo fl fcap:Nat}{hs:List Hop}{L:List (List UInt8)}{hash fil:List UInt8}{B0:List AV}
theorem quq(h:In60 hc n kcs fc fo fl hs L hash fil)(f0:FlatH B0)(h1:1<=n)(lg:List Nat) :
  qam Try.prog 0 lp61b (fr61b hc n c e fc fo fl fcap (Int.ofNat (n - 1))) (S6 B0 kcs n hs L hash fil 0) lg (.exit 6) fr61z (S6 B0 kcs n hs L hash fil n) (List.range 0++lg):=by
 have h8:=h.n8
 have hch:=qal (P:=Try.prog) (n0:=0) (b:=lp61b) (ex := .exit 6) (fr':=fr61z) (H':=S6 B0 kcs n hs L hash fil n) (by intro h;cases h)
  (fun j=>(fr61b hc n c e fc fo fl fcap ((n:Int) - 1 - j),S6 B0 kcs n hs L hash fil j)) n 0 (fun j _ hj => ?_) ?_ lg
 ·have e0:(n:Int) - 1 - (0:Nat)=Int.ofNat (n - 1):=by simp only[Int.ofNat_eq_natCast]; omega
  simp only[e0] at hch
  exact hch
 ·have hb:=q0i (c:=c) (e:=e) (fcap:=fcap) h f0 (j:=j) (by omega)
  have e1:Int.ofNat (n - 1 - j)=(n:Int) - 1 - j:=by simp only[Int.ofNat_eq_natCast]; omega
  have e2:Int.ofNat (n - 1 - j) - 1=(n:Int) - 1 - (j+1:Nat):=by simp only[Int.ofNat_eq_natCast]; omega
  rw[e2,e1] at hb
  exact hb
 ·rw[Nat.zero_add]
  intro cd hcd
  have hv:vm (vcA kdS (cnO2 oz0 of1 hf0) noLn) ops0 noTab 100 0 lp61b (fr61b hc n c e fc fo fl fcap ((n:Int) - 1 - n)) (S6 B0 kcs n hs L hash fil n) []
    (bodyX mk61b fun ex fr H=>ex = .exit 6/\forget mk61z fr=fr61z/\H=S6 B0 kcs n hs L hash fil n):=by
   unfold S6
   rw[qxi,nGeq']
   exact Br.f (decide_eq_false (by simp only[Int.ofNat_eq_natCast]; omega)) ⟨rfl,rfl,rfl⟩
  obtain⟨ex,fr,H,lg,hg,rfl,hf,rfl⟩:=qgw (P:=Try.prog) qbf (qai _) (qak _) hv (Nat.zero_le _) cd hcd
  have h2:=(hg.post (Weak.forget (Nat.zero_le _) mk61b)).post (Weak.forget (Nat.zero_le _) mk61z)
  rw[hf] at h2
  exact⟨_,h2⟩
theorem qx2(h:In60 hc n kcs fc fo fl hs L hash (fillL L (n - 1))):S6 B0 kcs n hs L hash (fillL L (n - 1)) n = [.cells B0,.cells (hash.map by8),.cells kcs,.cells (yb0.nx hc n (hash.map by8) kcs),.cells (yb0.bd hc n (hash.map by8) kcs)]:=by
 have e1:shA kcs 0 n=L:=by rw[h.keys,<-h.len,qcr (qnp h.l32)]
 have e2:hsOf hc n=hs:=qcs h.hops
 show _=([.cells B0,.cells (hash.map by8),.cells kcs,.cells (((bstep (shA kcs 0 n) (hsOf hc n) (qag (hash.map by8)) (fillL (shA kcs 0 n) (n - 1)) n n).2).map by8),.cells (((bstep (shA kcs 0 n) (hsOf hc n) (qag (hash.map by8)) (fillL (shA kcs 0 n) (n - 1)) n n).1).map by8)]:Hl)
 rw[e1,e2,qab]
 rfl
end
theorem weakA{hc:List AV}(hf:flatL hc){B0 B1 B2:List AV}(f0:FlatH B0)(f1:flatL B1)(f2:flatL B2)(n c:Nat)(e:Bool)(i:Int)(B3:List AV) :
  Weak 0 (qmf hc n c e i) [.cells B0,.cells B1,.cells B2,.cells B3,.cells (z8 2048),.cells (z8 32)] (fr61b hc n c e [] 0 0 0 i) [.cells B0,.cells B1,.cells B2,.cells ((zs 32).map by8),.cells ((zs 2048).map by8)]:=by
 have hw:=Weak.pickV (n0:=0) (fr:=qmf hc n c e i) (H := [.cells B0,.cells B1,.cells B2,.cells B3,.cells (z8 2048),.cells (z8 32)]) [0,1,2,5,4] mk61b 0 (by simp) (by simp) (by simp)
 have e1:∀ φ,forget mk61b (renL (pickN [0,1,2,5,4]) φ true (qmf hc n c e i))=qs8 hc n c e i:=by
  intro φ
  have p0:pickN [0,1,2,5,4] 0=some 0:=rfl
  have p1:pickN [0,1,2,5,4] 1=some 1:=rfl
  have p2:pickN [0,1,2,5,4] 2=some 2:=rfl
  have p4:pickN [0,1,2,5,4] 4=some 4:=rfl
  have p5:pickN [0,1,2,5,4] 5=some 3:=rfl
  unfold qmf mk61b qs8
  simp only[renL,ren,forget,p0,p1,p2,p4,p5,qaa hf]
 have e2:pickH (viewF [.cells B0,.cells B1,.cells B2,.cells B3,.cells (z8 2048),.cells (z8 32)] [0,1,2,5,4] 0) [0,1,2,5,4] [.cells B0,.cells B1,.cells B2,.cells B3,.cells (z8 2048),.cells (z8 32)] = [.cells B0,.cells B1,.cells B2,.cells ((zs 32).map by8),.cells ((zs 2048).map by8)]:=by
  show [renB _ _ true (.cells B0),renB _ _ true (.cells B1),renB _ _ true (.cells B2),renB _ _ true (.cells (z8 32)),renB _ _ true (.cells (z8 2048))]=_
  rw[z8_zs,z8_zs]
  simp only[renB,f0 _ _,qaa f1,qaa f2,qaa (qac _)]
 rw[e1,e2] at hw
 refine hw.trans ?_
 exact Weak.slot (k:=14) (Nat.zero_le _) (show(qs8 hc n c e i)[14]? = some .nils from rfl) (VLe.trans VLe.nils (VLe.loose _ _ _ _ _))
theorem weakB{hc:List AV}(hf:flatL hc){B0 B1 B2 fs:List AV}(f0:FlatH B0)(f1:flatL B1)(f2:flatL B2)(ff:flatL fs)(n c N:Nat)(e:Bool)(i:Int)(B3:List AV) :
  Weak 0 (qmd hc n c N e i) [.cells B0,.cells B1,.cells B2,.cells B3,.cells fs,.cells (z8 2048),.cells (z8 32)] (fr61b hc n c e fs 0 N N i) [.cells B0,.cells B1,.cells B2,.cells ((zs 32).map by8),.cells ((zs 2048).map by8)]:=by
 have hw:=Weak.pickV (n0:=0) (fr:=qmd hc n c N e i) (H := [.cells B0,.cells B1,.cells B2,.cells B3,.cells fs,.cells (z8 2048),.cells (z8 32)]) [0,1,2,6,5] mk61b 1 (by simp) (by simp) (by simp)
 have v4:viewF [.cells B0,.cells B1,.cells B2,.cells B3,.cells fs,.cells (z8 2048),.cells (z8 32)] [0,1,2,6,5] 1 4=some fs:=by
  show some (renL _ _ true fs)=_
  rw[qaa ff]
 have e1:forget mk61b (renL (pickN [0,1,2,6,5]) (viewF [.cells B0,.cells B1,.cells B2,.cells B3,.cells fs,.cells (z8 2048),.cells (z8 32)] [0,1,2,6,5] 1) true (qmd hc n c N e i))=fr61b hc n c e fs 0 N N i:=by
  have p0:pickN [0,1,2,6,5] 0=some 0:=rfl
  have p1:pickN [0,1,2,6,5] 1=some 1:=rfl
  have p2:pickN [0,1,2,6,5] 2=some 2:=rfl
  have p4:pickN [0,1,2,6,5] 4=none:=rfl
  have p5:pickN [0,1,2,6,5] 5=some 4:=rfl
  have p6:pickN [0,1,2,6,5] 6=some 3:=rfl
  unfold qmd mk61b fr61b
  simp only[renL,ren,forget,p0,p1,p2,p4,p5,p6,v4,qaa hf]
 have e2:pickH (viewF [.cells B0,.cells B1,.cells B2,.cells B3,.cells fs,.cells (z8 2048),.cells (z8 32)] [0,1,2,6,5] 1) [0,1,2,6,5] [.cells B0,.cells B1,.cells B2,.cells B3,.cells fs,.cells (z8 2048),.cells (z8 32)] = [.cells B0,.cells B1,.cells B2,.cells ((zs 32).map by8),.cells ((zs 2048).map by8)]:=by
  show [renB _ _ true (.cells B0),renB _ _ true (.cells B1),renB _ _ true (.cells B2),renB _ _ true (.cells (z8 32)),renB _ _ true (.cells (z8 2048))]=_
  rw[z8_zs 32,z8_zs 2048]
  simp only[renB,f0 _ _,qaa f1,qaa f2,qaa (qac _)]
 rw[e1,e2] at hw
 exact hw
theorem qvn:LnOK Try.prog (ln61b yb0):=by
 intro n0 b fr H p x e hn0 hp lg
 unfold ln61b at e
 split at e<;>cases e
 ·rename_i hc n c e B0 B1 B2 B3 B4 B5 h1 h2
  obtain⟨rfl,hb,hf,⟨hs,L,hash,hin,hn1,rfl⟩,hone,f0,rfl,rfl⟩:=hp
  have hb:b=lp61b:=hb
  subst hb
  have hin2:In60 hc n B2 [] 0 0 hs L hash (fillL L (n - 1)):=by have:=hin;rw[hone] at this ⊢; exact this
  have fk:flatL B2:=by rw[hin.keys]; exact qac _
  refine qam.pre (Weak.forget (by simp) mk61b) (fun lg => ?_) lg
  rw[hf]
  refine qam.pre (weakA hin.flat f0 (qac _) fk n c e _ B3) (fun lg => ?_) lg
  have:=quq (c:=c) (e:=e) (fcap:=0) hin2 f0 hn1 lg
  rw[qx2 hin2] at this
  exact this
 ·rename_i hc n c e b0 N cap B0 B1 B2 B3 B4 B5 B6 h1 h2
  obtain⟨rfl,hb,hf,⟨hs,L,hash,hin,hn1,rfl⟩,rfl,f0,rfl,rfl⟩:=hp
  have hb:b=lp61b:=hb
  subst hb
  have fk:flatL B2:=by rw[hin.keys]; exact qac _
  refine qam.pre (Weak.forget (by simp) mk61b) (fun lg => ?_) lg
  rw[hf]
  refine qam.pre (weakB hin.flat f0 (qac _) fk hin.fflat n c _ e _ B3) (fun lg => ?_) lg
  have:=quq (c:=c) (e:=e) (fcap:=256*(n - 1)) hin f0 hn1 lg
  rw[qx2 hin] at this
  exact this
end
end Go.Proofs.Vm

namespace Go.Proofs.Vm
set_option maxRecDepth 100000
open Go.Vm
noncomputable section
def ln61v(z:List AV->Nat->Bool):LnF:=fun n0 b fr H=>match slot fr 1,slot fr 0,H with
 | .ros hc 0 n c e,.ros ks ko kn kc ke,[.cells H0,.cells H1] =>
  some (n0=0/\VCis b lp61v/\forget mk61v fr=fr61v ks hc n c e ko kn kc ke 0/\PHs hc n/\n<=8/\FlatH [.agg ks]/\FlatH H0/\FlatH H1,.cond (z hc n) (.ok (.exit 0) (fr61v ks hc n c e ko kn kc ke (Int.ofNat n)) [.cells H0,.cells H1]) (.ok .ret fr61e []))
 | _,_,_=>none
def ln61(V:VF6)(Y:YB)(z:List AV->Nat->Bool):LnF:=lnOr (ln61v z) (lnOr (ln61f V) (ln61b Y))
def endBd(R:AV->Prop)(Q:Nat->Nat->Nat->Nat->List AV->Prop):AV->Hl->List Nat->Prop:=fun r H _=>match r with
 | .tup [.slc b o n c sz,.int .i64 0]=>match nth H b with
  | some (.cells cs)=>flatL cs/\Q o n c sz cs
  | _=>False
 | r=>R r
theorem vc61(V:VF6)(Y:YB)(Z:OZ)(O:OY)(F:HF)(z:List AV->Nat->Bool)(ks hc ns hs:List AV)(n c:Nat)(e:Bool)(ko kn kc:Nat)(ke:Bool)(R:AV->Prop)(Q:Nat->Nat->Nat->Nat->List AV->Prop) :
  (vcall (vcA kdS (cnO2 Z O F) (ln61 V Y z)) ops0 tabV 200 vf61 [.ros ks ko kn kc ke,.ros hc 0 n c e,.agg ns,.agg hs] [] (fun r H lg=>match r with
    | .tup [.nils,x]=>R (.tup [.nils,x])
    | r=>endBd (fun _=>False) Q r H lg)) =
 ((Br (ops0.cmp .lss (ops0.ofn n) (Int.ofNat 1))
 (R (.tup [.nils,(.int .i64 (.ofNat 1))]))
 (Br (ops0.cmp .gtr (ops0.ofn n) (Int.ofNat 8))
 (R (.tup [.nils,(.int .i64 (.ofNat 1))]))
 (Br (ops0.cmp .neq (ops0.ofn kn) (ops0.ofn n))
 (R (.tup [.nils,(.int .i64 (.ofNat 1))]))
 ((((0:Nat)=0) /\
 ((VCis lp61v lp61v) /\
 (((((.ros ks ko kn kc ke)::(.ros hc 0 n c e)::tp 4 ((.ptr 0 0)::(.ptr 1 0) :: .nils::(.int .i64 (.ofNat 0))::(.int .i64 (ops0.ofn n))::(.int .i64 (.ofNat 0))::tp 137 ([]))):Fr)=((.ros ks ko kn kc ke)::(.ros hc 0 n c e)::tp 4 ((.ptr 0 0)::(.ptr 1 0) :: .nils::(.int .i64 (.ofNat 0))::(.int .i64 (.ofNat n))::(.int .i64 (.ofNat 0))::tp 137 ([])))) /\
 ((PHs hc n) /\
 ((n<=8) /\
 ((FlatH [(.agg ks)]) /\
 ((FlatH ns) /\
 (FlatH hs)))))))) /\
 (Br (z hc n)
 (Chk (ops0.le 32 (ops0.len ns))
 (((P65 ks ko kn (ops0.ext ns 0 32)) /\
 (1<=kn)) /\
 ((((0:Nat)=0) /\
 ((VCis lp61f lp61f) /\
 ((((.top::(.ros hc 0 n c e)::tp 4 ((.ptr 0 0)::(.ptr 1 0)::tp 2 ((.int .i64 (.ofNat n)) :: .top::(.slc 2 0 kn kn 32)::(.slc 3 0 2304 2304 1) :: .nils::(.int .i64 (.ofNat 0))::tp 133 ([])))):Fr)=(.top::(.ros hc 0 n c e)::tp 4 ((.ptr 0 0)::(.ptr 1 0)::tp 2 ((.int .i64 (.ofNat n)) :: .top::(.slc 2 0 n n 32)::(.slc 3 0 2304 2304 1) :: .nils::(.int .i64 (.ofNat 0))::tp 133 ([]))))) /\
 ((PK6 (OZ.keys Z (ops0.ext ns 0 32) ks ko kn) n) /\
 ((((z8 2304):(List AV))=(z8 2304)) /\
 ((flatL hc) /\
 ((flatL ns) /\
 (flatL hs)))))))) /\
 (Br (VF6.one V n)
 ((((0:Nat)=0) /\
 ((VCis lp61b lp61b) /\
 ((((.top::(.ros hc 0 n c e)::tp 4 ((.ptr 0 0)::(.ptr 1 0)::tp 2 ((.int .i64 (.ofNat n)) :: .top::(.slc 2 0 n n 32) :: .top :: .nils::tp 3 ((.slc 4 0 2048 2048 1)::(.ptr 5 0)::(.int .i64 (ops0.bin .sub .i64 (Int.ofNat n) (Int.ofNat 1)))::tp 128 ([]))))):Fr)=(.top::(.ros hc 0 n c e)::tp 4 ((.ptr 0 0)::(.ptr 1 0)::tp 2 ((.int .i64 (.ofNat n)) :: .top::(.slc 2 0 n n 32) :: .top :: .nils::tp 3 ((.slc 4 0 2048 2048 1)::(.ptr 5 0)::(.int .i64 (.ofNat (n - 1)))::tp 128 ([])))))) /\
 ((PB6 hc n hs (OZ.keys Z (ops0.ext ns 0 32) ks ko kn) []) /\
 (((n:Nat)=1) /\
 ((FlatH ns) /\
 ((((z8 2048):(List AV))=(z8 2048)) /\
 (((z8 32):(List AV))=(z8 32))))))))) /\
 (Chk (ops0.le 32 (ops0.len ns))
 (Chk (ops0.le 32 (ops0.len ns))
 (Chk (ops0.le 32 (ops0.len (YB.nx Y hc n hs (OZ.keys Z (ops0.ext ns 0 32) ks ko kn))))
 (Chk (ops0.le 32 (ops0.len (ops0.ext ns 0 32)))
 (Chk (ops0.le 32 (ops0.len (YB.nx Y hc n hs (OZ.keys Z (ops0.ext ns 0 32) ks ko kn))))
 (Chk (ops0.le 64 (ops0.len (ops0.app (ops0.ext (ops0.ext ns 0 32) 0 32) (ops0.ext (YB.nx Y hc n hs (OZ.keys Z (ops0.ext ns 0 32) ks ko kn)) 0 32))))
 (Chk (ops0.le 2048 (ops0.len (YB.bd Y hc n hs (OZ.keys Z (ops0.ext ns 0 32) ks ko kn))))
 ((flatL (ops0.app (ops0.ext (ops0.app (ops0.ext (ops0.ext ns 0 32) 0 32) (ops0.ext (YB.nx Y hc n hs (OZ.keys Z (ops0.ext ns 0 32) ks ko kn)) 0 32)) 0 64) (ops0.ext (YB.bd Y hc n hs (OZ.keys Z (ops0.ext ns 0 32) ks ko kn)) 0 2048))) /\
 (Q 0 2112 2112 1 (ops0.app (ops0.ext (ops0.app (ops0.ext (ops0.ext ns 0 32) 0 32) (ops0.ext (YB.nx Y hc n hs (OZ.keys Z (ops0.ext ns 0 32) ks ko kn)) 0 32)) 0 64) (ops0.ext (YB.bd Y hc n hs (OZ.keys Z (ops0.ext ns 0 32) ks ko kn)) 0 2048))))))))))))
 ((((0:Nat)=0) /\
 ((VCis lp61b lp61b) /\
 ((((.top::(.ros hc 0 n c e)::tp 4 ((.ptr 0 0)::(.ptr 1 0)::tp 2 ((.int .i64 (.ofNat n)) :: .top::(.slc 2 0 n n 32) :: .top::(.slc 4 0 (256*(n - 1)) (256*(n - 1)) 1)::tp 3 ((.slc 5 0 2048 2048 1)::(.ptr 6 0)::(.int .i64 (ops0.bin .sub .i64 (Int.ofNat n) (Int.ofNat 1)))::tp 128 ([]))))):Fr)=(.top::(.ros hc 0 n c e)::tp 4 ((.ptr 0 0)::(.ptr 1 0)::tp 2 ((.int .i64 (.ofNat n)) :: .top::(.slc 2 0 n n 32) :: .top::(.slc 4 0 (256*(n - 1)) (256*(n - 1)) 1)::tp 3 ((.slc 5 0 2048 2048 1)::(.ptr 6 0)::(.int .i64 (.ofNat (n - 1)))::tp 128 ([])))))) /\
 ((PB6 hc n hs (OZ.keys Z (ops0.ext ns 0 32) ks ko kn) (VF6.fil V (OZ.keys Z (ops0.ext ns 0 32) ks ko kn) n)) /\
 ((((256*(n - 1)):Nat)=(256*(n - 1))) /\
 ((FlatH ns) /\
 ((((z8 2048):(List AV))=(z8 2048)) /\
 (((z8 32):(List AV))=(z8 32))))))))) /\
 (Chk (ops0.le 32 (ops0.len ns))
 (Chk (ops0.le 32 (ops0.len ns))
 (Chk (ops0.le 32 (ops0.len (YB.nx Y hc n hs (OZ.keys Z (ops0.ext ns 0 32) ks ko kn))))
 (Chk (ops0.le 32 (ops0.len (ops0.ext ns 0 32)))
 (Chk (ops0.le 32 (ops0.len (YB.nx Y hc n hs (OZ.keys Z (ops0.ext ns 0 32) ks ko kn))))
 (Chk (ops0.le 64 (ops0.len (ops0.app (ops0.ext (ops0.ext ns 0 32) 0 32) (ops0.ext (YB.nx Y hc n hs (OZ.keys Z (ops0.ext ns 0 32) ks ko kn)) 0 32))))
 (Chk (ops0.le 2048 (ops0.len (YB.bd Y hc n hs (OZ.keys Z (ops0.ext ns 0 32) ks ko kn))))
 ((flatL (ops0.app (ops0.ext (ops0.app (ops0.ext (ops0.ext ns 0 32) 0 32) (ops0.ext (YB.nx Y hc n hs (OZ.keys Z (ops0.ext ns 0 32) ks ko kn)) 0 32)) 0 64) (ops0.ext (YB.bd Y hc n hs (OZ.keys Z (ops0.ext ns 0 32) ks ko kn)) 0 2048))) /\
 (Q 0 2112 2112 1 (ops0.app (ops0.ext (ops0.app (ops0.ext (ops0.ext ns 0 32) 0 32) (ops0.ext (YB.nx Y hc n hs (OZ.keys Z (ops0.ext ns 0 32) ks ko kn)) 0 32)) 0 64) (ops0.ext (YB.bd Y hc n hs (OZ.keys Z (ops0.ext ns 0 32) ks ko kn)) 0 2048))))))))))))))))
 (R (.tup [.nils,(.int .i64 (.ofNat 1))])))))))):=by kernel_rfl
def qq61(Q:Ex->Fr->Hl->Prop)(ex:Ex)(fr:Fr)(H:Hl):Prop:=match ex with
 | .ret=>Q .ret (forget mk61e fr) []
 | ex=>Q ex (forget mk61v fr) H
theorem qrh:flatL fr61e:=by
 unfold fr61e
 intro a ha
 simp only[List.mem_cons,List.not_mem_nil,or_false] at ha
 rcases ha with rfl|rfl|ha
 all_goals first|rfl|skip
 all_goals (repeat' (rcases ha with rfl|ha))<;>first|rfl|(subst ha;rfl)
theorem q29{hc:List AV}{i:Nat}{h:Hop}(q:(hc.drop (i*101)).take 101=hopC h):hc[i*101]? = some (.int .i64 h.ch):=by
 have h1:((hc.drop (i*101)).take 101)[0]? = hc[i*101]? := by rw[List.getElem?_take,if_pos (by omega),List.getElem?_drop,Nat.add_zero]
 rw[<-h1,q]
 rfl
section
variable {ks hc:List AV}{n c:Nat}{e:Bool}{hs:List Hop}{ko kn kc:Nat}{ke:Bool}{H0 H1:List AV}
theorem qss(hp:HpAt hc n hs){i:Nat}(hi:i<n)(h8:n<=8)(Q:Ex->Fr->Hl->Prop)
  (hg:okAt hs n i=true->Q .norm (fr61v ks hc n c e ko kn kc ke (Int.ofNat (i+1))) ([.cells H0,.cells H1]:Hl))
  (hb:okAt hs n i=false->Q .ret fr61e []) :
  vm (vcA kdS (cnO2 oz0 of1 hf0) noLn) ops0 noTab 100 0 lp61v (fr61v ks hc n c e ko kn kc ke (Int.ofNat i)) [.cells H0,.cells H1] [] (fun ex fr H _=>qq61 Q ex fr H):=by
 refine(qxv oz0 of1 hf0 H0 H1 ks hc n c e ko kn kc ke (Int.ofNat i) Q).mpr ?_
 have hx:=List.getElem?_eq_getElem (show i<hs.length by rw[hp.1]; exact hi)
 obtain⟨q1,q2⟩:=hp.2 i _ hx
 have hgh:hs.getD i hop0=hs[i]'(by rw[hp.1]; exact hi):=by rw[List.getD_eq_getElem?_getD,hx]; rfl
 have hlen:=hp.len hi
 unfold okAt at hg hb
 rw[hgh] at hg hb
 generalize hs[i]'(by rw[hp.1]; exact hi)=h at q1 q2 hg hb
 have e1:ops0.ext hc (0+i*101) 101=hopC h:=by rw[nExt,Nat.zero_add]; exact q2
 have e2:=q29 q2
 rw[nAdr,e1,qx8 q1,add1 (by omega),nLss]
 have esub:ops0.bin .sub .i64 (Int.ofNat n) (Int.ofNat 1)=Int.ofNat (n - 1):=nSub (by omega) (by omega)
 simp only[qbl,nInr,nLe,nPlus,nLen,decide_eq_true_eq,Nat.zero_add,Nat.add_zero]
 refine Br.t (decide_eq_true (by omega)) ⟨hi,by omega,⟨h,q1,rfl⟩,?_⟩
 refine Br.mk (fun hm => ?_) (fun hm => ?_)
 ·refine⟨hi,h.ch,?_,?_⟩
  ·rw[qy2]; exact e2
  rw[nEql',esub,nEql]
  rw[hm] at hg hb
  refine Br.mk (fun hz => ?_) (fun hz => ?_)
  ·refine Br.mk (fun hl => ?_) (fun hl => ?_)
   ·exact hg (by rw[show Int.ofNat 0=0 from rfl] at hz;rw[hz,hl]; rfl)
   ·exact hb (by rw[show Int.ofNat 0=0 from rfl] at hz;rw[hz,hl]; rfl)
  ·refine Br.mk (fun hl => ?_) (fun hl => ?_)
   ·exact hb (by rw[show Int.ofNat 0=0 from rfl] at hz;rw[hz,hl]; rfl)
   ·exact hg (by rw[show Int.ofNat 0=0 from rfl] at hz;rw[hz,hl]; rfl)
 ·exact hb (by rw[hm]; rfl)
theorem qo9(hp:HpAt hc n hs)(h8:n<=8){i:Nat}(hi:i<n)(hok:okAt hs n i=true) :
  qap Try.prog 0 lp61v (fr61v ks hc n c e ko kn kc ke (Int.ofNat i)) [.cells H0,.cells H1] .norm (fr61v ks hc n c e ko kn kc ke (Int.ofNat (i+1))) [.cells H0,.cells H1]:=by
 intro cd hcd
 have h:=qss (ks:=ks) (c:=c) (e:=e) (ko:=ko) (kn:=kn) (kc:=kc) (ke:=ke) (H0:=H0) (H1:=H1) hp hi h8 (qR .norm (fr61v ks hc n c e ko kn kc ke (Int.ofNat (i+1))) [.cells H0,.cells H1]) (fun _=>⟨rfl,rfl,rfl⟩) (fun h=>by rw[hok] at h;cases h)
 obtain⟨ex,fr,H,lg,hg,q⟩:=qgw (P:=Try.prog) qbf (qai _) (qak _) h (Nat.zero_le _) cd hcd
 cases ex with
 | ret=>cases q.1
 | exit k=>cases q.1
 | norm =>
  obtain⟨_,q2,q3⟩:=q
  subst q3
  have h2:=hg.post (Weak.forget (Nat.zero_le _) mk61v)
  rw[q2] at h2
  exact⟨_,h2⟩
theorem qvl(hp:HpAt hc n hs)(h8:n<=8){i:Nat}(hi:i<n)(hok:okAt hs n i=false) :
  qap Try.prog 0 lp61v (fr61v ks hc n c e ko kn kc ke (Int.ofNat i)) [.cells H0,.cells H1] .ret fr61e []:=by
 intro cd hcd
 have h:=qss (ks:=ks) (c:=c) (e:=e) (ko:=ko) (kn:=kn) (kc:=kc) (ke:=ke) (H0:=H0) (H1:=H1) hp hi h8 (qR .ret fr61e []) (fun h=>by rw[hok] at h;cases h) (fun _=>⟨rfl,rfl,rfl⟩)
 obtain⟨ex,fr,H,lg,hg,q⟩:=qgw (P:=Try.prog) qbf (qai _) (qak _) h (Nat.zero_le _) cd hcd
 cases ex with
 | norm=>cases q.1
 | exit k=>cases q.1
 | ret=>exact Goes.toFlat hg q.2.1 qrh
theorem qwk:qap Try.prog 0 lp61v (fr61v ks hc n c e ko kn kc ke (Int.ofNat n)) [.cells H0,.cells H1] (.exit 0) (fr61v ks hc n c e ko kn kc ke (Int.ofNat n)) [.cells H0,.cells H1]:=by
 intro cd hcd
 have h:=qxv oz0 of1 hf0 H0 H1 ks hc n c e ko kn kc ke (Int.ofNat n) (qR (.exit 0) (fr61v ks hc n c e ko kn kc ke (Int.ofNat n)) [.cells H0,.cells H1])
 rw[nLss] at h
 have h2:=h.symm.mp (Br.f (decide_eq_false (by omega)) ⟨rfl,rfl,rfl⟩)
 have h3:vm (vcA kdS (cnO2 oz0 of1 hf0) noLn) ops0 noTab 100 0 lp61v (fr61v ks hc n c e ko kn kc ke (Int.ofNat n)) [.cells H0,.cells H1] [] (fun ex fr H _=>qq61 (qR (.exit 0) (fr61v ks hc n c e ko kn kc ke (Int.ofNat n)) [.cells H0,.cells H1]) ex fr H):=h2
 obtain⟨ex,fr,H,lg,hg,q⟩:=qgw (P:=Try.prog) qbf (qai _) (qak _) h3 (Nat.zero_le _) cd hcd
 cases ex with
 | norm=>cases q.1
 | ret=>cases q.1
 | exit k =>
  obtain⟨q1,q2,q3⟩:=q
  cases q1
  subst q3
  have h2:=hg.post (Weak.forget (Nat.zero_le _) mk61v)
  rw[q2] at h2
  exact⟨_,h2⟩
end
theorem qvt:LnOK Try.prog (ln61v zV):=by
 intro n0 b fr H p x e hn0 hp lg
 unfold ln61v at e
 split at e<;>cases e
 rename_i hc n c e ks ko kn kc ke H0 H1 h1 h2
 obtain⟨rfl,hb,hf,⟨hfl,hn,hs,hL⟩,h8,_,_,_⟩:=hp
 have hb:b=lp61v:=hb
 subst hb
 refine qam.pre (Weak.forget (by simp) mk61v) ?_ lg
 rw[hf]
 unfold zV
 rw[qcs hL]
 cases hz:okHs hs n with
 | true =>
  have h:=qal (P:=Try.prog) (n0:=0) (b:=lp61v) (ex := .exit 0) (fr':=fr61v ks hc n c e ko kn kc ke (Int.ofNat n)) (H' := [.cells H0,.cells H1]) (by intro h;cases h)
   (fun i=>(fr61v ks hc n c e ko kn kc ke (Int.ofNat i),[.cells H0,.cells H1])) n 0 (fun i _ hi=>qo9 hL h8 (by omega) (by
    unfold okHs at hz
    exact List.all_eq_true.1 hz i (List.mem_range.2 (by omega)))) (by rw[Nat.zero_add]; exact qwk)
  exact h
 | false =>
  unfold okHs at hz
  obtain⟨i,hi,hbad⟩:∃ i,(i<n/\okAt hs n i=false)/\∀ j,j<i->okAt hs n j=true:=by
   refine qma ?_
   rw[List.all_eq_false] at hz
   obtain⟨i,hi,hb⟩:=hz
   exact⟨i,List.mem_range.1 hi,by simpa using hb⟩
  have h:=qal (P:=Try.prog) (n0:=0) (b:=lp61v) (ex := .ret) (fr':=fr61e) (H' := []) (by intro h;cases h)
   (fun i=>(fr61v ks hc n c e ko kn kc ke (Int.ofNat i),[.cells H0,.cells H1])) i 0 (fun j _ hj=>qo9 hL h8 (by omega) (hbad j (by omega))) (by rw[Nat.zero_add]; exact qvl hL h8 hi.1 hi.2)
  exact h
theorem qsu:LnOK Try.prog (ln61 vf6 yb0 zV):=qs7 qvt (qs7 qv5 qvn)
def endB2(R:AV->Prop)(Q:Nat->Nat->Nat->Nat->List AV->Prop):AV->Hl->List Nat->Prop:=fun r H lg=>match r with
 | .tup [.nils,x]=>R (.tup [.nils,x])
 | r=>endBd (fun _=>False) Q r H lg
theorem qul{f:Nat}{vals:List AV}{r0:AV}(hr:cutV 0 r0=r0)
  (h:∃ r H' lg,CallTo Try.prog f vals [] r H' lg/\endB2 (fun r=>r=r0) (fun _ _ _ _ _=>False) r H' lg):CallTo Try.prog f vals [] r0 [] []:=by
 obtain⟨r,H',lg,hc,e⟩:=h
 have e:r=r0:=by
  unfold endB2 at e
  split at e
  ·exact e
  ·unfold endBd at e
   split at e
   ·split at e
    ·exact e.2.elim
    ·exact e.elim
   ·exact e.elim
 subst e
 have:=hc.cut 0 (Nat.le_refl 0) (Nat.zero_le _) (lg0 := []) (fun b hb=>by simp at hb)
 rw[hr] at this
 exact this
theorem qto{f:Nat}{vals:List AV}{o m c sz:Nat}{cs:List AV}
  (h:∃ r H' lg,CallTo Try.prog f vals [] r H' lg/\endB2 (fun _=>False) (fun o' m' c' sz' cs'=>o'=o/\m'=m/\c'=c/\sz'=sz/\cs'=cs) r H' lg):CallTo Try.prog f vals [] (.tup [.slc 0 o m c sz,.int .i64 0]) [.cells cs] []:=by
 obtain⟨r,H',lg,hcall,e⟩:=h
 unfold endB2 at e
 split at e
 ·exact e.elim
 ·unfold endBd at e
  split at e
  ·rename_i b o' m' c' sz' _
   split at e
   ·rename_i cs' hb
    obtain⟨hfl,rfl,rfl,rfl,rfl,rfl⟩:=e
    rw[qb5] at hb
    have hlt:b<H'.length:=(List.getElem?_eq_some_iff.1 hb).1
    have h1:=hcall.pick [b] (by simp) (by simpa using hlt) (by simp) (lg0 := []) (by simp)
    have e1:ren (pickN [b]) Go.Vm.noView true (.tup [.slc b o' m' c' sz',.int .i64 0]) = .tup [.slc 0 o' m' c' sz',.int .i64 0]:=by
     simp only[ren,renL,qhu]
    have e2:wkH [b] H' = [.cells cs']:=by
     unfold wkH pickH
     simp only[List.map_cons,List.map_nil,hb,renB,qaa hfl]
    rw[e1,e2] at h1
    exact h1
   ·exact e.elim
  ·exact e.elim
theorem q02{ks hc:List AV}{nn hash:List UInt8}{n:Nat}{hs:List Hop}(c:Nat)(e:Bool){ko kn:Nat}(kc:Nat)(ke:Bool)(hks:flatL ks)(hP:PHs hc n)(hp:HpAt hc n hs)(hkn:kn<1099511627776)(hbad:goodB hs n kn=false) :
  CallTo Try.prog 61 [.ros ks ko kn kc ke,.ros hc 0 n c e,.agg (nn.map by8),.agg (hash.map by8)] [] (.tup [.nils,.int .i64 1]) [] []:=by
 refine qul rfl ?_
 have hv:=vc61 vf6 yb0 oz0 of1 hf0 zV ks hc (nn.map by8) (hash.map by8) n c e ko kn kc ke (fun r=>r = .tup [.nils,.int .i64 1]) (fun _ _ _ _ _=>False)
 have hz:zV hc n=okHs hs n:=by unfold zV;rw[qcs hp]
 rw[hz] at hv
 simp only[nOfn,nLss,nGtr,nNeq] at hv
 refine qcu qbf qsu qn5 (show tabV 61=some vf61 from rfl) (n:=200) (g:=kdS) (hv.mpr ?_)
 refine Br.mk (fun h1=>by first|rfl|trivial) (fun h1 => ?_)
 refine Br.mk (fun h2=>by first|rfl|trivial) (fun h2 => ?_)
 refine Br.mk (fun h3=>by first|rfl|trivial) (fun h3 => ?_)
 have h1:=of_decide_eq_false h1
 have h2:=of_decide_eq_false h2
 have h3:=of_decide_eq_false h3
 have g1:1<=n:=by omega
 have g2:n<=8:=by omega
 refine⟨⟨by first|exact True.intro|rfl,by first|exact True.intro|rfl,by first|exact True.intro|rfl,hP,g2,fun σ φ=>by simp only[renL,ren,qaa hks],FlatH.flat (qac _),FlatH.flat (qac _)⟩,?_⟩
 have:okHs hs n=false:=by
  unfold goodB at hbad
  rw[decide_eq_true g1,decide_eq_true g2,decide_eq_true (by omega:kn=n)] at hbad
  exact hbad
 exact Br.f this (by first|rfl|trivial)
end
end Go.Proofs.Vm

namespace Go.Proofs.Vm
set_option maxRecDepth 100000
open Go.Vm
noncomputable section
theorem qyu{ks hc:List AV}{n:Nat}(c:Nat)(e:Bool){hs:List Hop}{L:List (List UInt8)}{nn hash:List UInt8}{ko:Nat}(kc:Nat)(ke:Bool)(h:Arg60 ks hc n hs L nn hash ko) :
  CallTo Try.prog 61 [.ros ks ko n kc ke,.ros hc 0 n c e,.agg (nn.map by8),.agg (hash.map by8)] [] (.tup [.slc 0 0 2112 2112 1,.int .i64 0]) [.cells ((qcy hs L nn hash).map by8)] []:=by
 obtain⟨hkf,hops,hp,hkeys,hsh,hnn,hhash,h1,h8,hok⟩:=h
 have hn:=hp.1
 have hz:zV hc n=true:=by unfold zV;rw[qcs hp]; exact hok
 have hpos:∀ h,h∈hs->h.pos:=by
  intro h hm
  obtain⟨i,hi⟩:=List.getElem?_of_mem hm
  have hl:i<hs.length:=(List.getElem?_eq_some_iff.1 hi).1
  have:=List.all_eq_true.1 hok i (List.mem_range.2 (by rw[<-hp.1]; exact hl))
  unfold okAt at this
  rw[List.getD_eq_getElem?_getD,hi] at this
  have h2:=(Bool.and_eq_true _ _ ▸ this:_/\_).1
  exact Hop.may_pos h2
 have ek:oz0.keys (nn.map by8) ks ko n=(keysL L nn n).flatten.map by8:=by
  show(keysL (shA ks ko n) (qag _) _).flatten.map by8=_
  rw[qab,qcr hsh]
 have ef:vf6.fil ((keysL L nn n).flatten.map by8) n=(fillL (keysL L nn n) (n - 1)).map by8:=by
  show(fillL (shA _ 0 n) (n - 1)).map by8=_
  rw[qcr (qlq L nn n)]
 have hb:qcy hs L nn hash=nn++(bstep (keysL L nn n) hs hash (fillL (keysL L nn n) (n - 1)) n n).2++(bstep (keysL L nn n) hs hash (fillL (keysL L nn n) (n - 1)) n n).1:=by
  unfold qcy
  rw[hn]
 have K32:=qex L nn n
 have Kl:=qcm L nn n
 have Ksh:=qlq L nn n
 have enx:yb0.nx hc n (hash.map by8) ((keysL L nn n).flatten.map by8)=((bstep (keysL L nn n) hs hash (fillL (keysL L nn n) (n - 1)) n n).2).map by8:=by
  show((bstep (shA _ 0 n) (hsOf hc n) (qag (hash.map by8)) (fillL (shA _ 0 n) (n - 1)) n n).2).map by8=_
  rw[qcr Ksh,qcs hp,qab]
 have ebd:yb0.bd hc n (hash.map by8) ((keysL L nn n).flatten.map by8)=((bstep (keysL L nn n) hs hash (fillL (keysL L nn n) (n - 1)) n n).1).map by8:=by
  show((bstep (shA _ 0 n) (hsOf hc n) (qag (hash.map by8)) (fillL (shA _ 0 n) (n - 1)) n n).1).map by8=_
  rw[qcr Ksh,qcs hp,qab]
 have fl:=qbn (L:=keysL L nn n) (show n - 1<=8 by omega)
 have hmem:∀ h,h∈hs->h.L32:=fun h hm=>let ⟨i,hi⟩:=List.getElem?_of_mem hm;(hp.2 i h hi).1
 obtain⟨b1,b2⟩:=qc2 (L:=keysL L nn n) (hs:=hs) (hash:=hash) (fil:=fillL (keysL L nn n) (n - 1)) (n:=n) (by omega) hmem n
 rw[hb]
 refine qto ?_
 have hv:=vc61 vf6 yb0 oz0 of1 hf0 zV ks hc (nn.map by8) (hash.map by8) n c e ko n kc ke (fun _=>False) (fun o' m' c' sz' cs'=>o'=0/\m'=2112/\c'=2112/\sz'=1/\cs'=(nn++(bstep (keysL L nn n) hs hash (fillL (keysL L nn n) (n - 1)) n n).2++(bstep (keysL L nn n) hs hash (fillL (keysL L nn n) (n - 1)) n n).1).map by8)
 rw[hz,qa5 hnn,ek,ef,enx,ebd] at hv
 generalize hK:keysL L nn n=K at *
 generalize bstep K hs hash (fillL K (n - 1)) n n=bs at *
 generalize hF:fillL K (n - 1)=F at *
 have l1:((nn++bs.2).map by8).length=64:=by rw[List.length_map,List.length_append,hnn,b2]
 have e3:ops0.ext (bs.1.map by8) 0 2048=bs.1.map by8:=by rw[nExt,List.drop_zero,List.take_of_length_le (by rw[List.length_map,b1]; exact Nat.le_refl _)]
 have e5:ops0.app (nn.map by8) (bs.2.map by8)=(nn++bs.2).map by8:=by rw[nApp,List.map_append]
 have e6:ops0.ext ((nn++bs.2).map by8) 0 64=(nn++bs.2).map by8:=by rw[nExt,List.drop_zero,List.take_of_length_le (by rw[l1]; exact Nat.le_refl _)]
 have e7:ops0.app ((nn++bs.2).map by8) (bs.1.map by8)=(nn++bs.2++bs.1).map by8:=by rw[nApp,<-List.map_append]
 have esub:ops0.bin .sub .i64 (Int.ofNat n) (Int.ofNat 1)=Int.ofNat (n - 1):=nSub (by omega) (by omega)
 rw[qa5 hnn,qa5 b2,e5,e6,e3,e7,esub] at hv
 refine qcu qbf qsu qn5 (show tabV 61=some vf61 from rfl) (n:=200) (g:=kdS) (hv.mpr ?_)
 have hPK:PK6 (K.flatten.map by8) n:=⟨h1,h8,K,rfl,Kl,K32⟩
 have tail:∀ R:Prop,R->(Chk (ops0.le 32 (ops0.len (nn.map by8))) (Chk (ops0.le 32 (ops0.len (nn.map by8))) (Chk (ops0.le 32 (ops0.len (bs.2.map by8))) (Chk (ops0.le 32 (ops0.len (nn.map by8))) (Chk (ops0.le 32 (ops0.len (bs.2.map by8))) (Chk (ops0.le 64 (ops0.len ((nn++bs.2).map by8))) (Chk (ops0.le 2048 (ops0.len (bs.1.map by8))) R))))))):=by
  intro R hR
  simp only[qbl,nLe,nLen,l1,List.length_map,hnn,b1,b2,decide_eq_true_eq]
  simp only[Nat.le_refl,true_and]
  exact hR
 refine Br.f (by rw[nOfn,nLss]; exact decide_eq_false (by omega)) (Br.f (by rw[nOfn,nGtr]; exact decide_eq_false (by omega)) (Br.f (by rw[nOfn,nNeq]; exact decide_eq_false (by omega)) ?_))
 refine⟨⟨rfl,rfl,rfl,hops,h8,fun σ φ=>by simp only[renL,ren,qaa hkf],FlatH.flat (qac _),FlatH.flat (qac _)⟩,?_⟩
 refine Br.t rfl ?_
 refine Chk.mk (by rw[nLe,nLen,List.length_map,hnn]; rfl) ⟨⟨⟨hkeys,by omega,pkey _ hnn⟩,h1⟩,⟨⟨rfl,rfl,rfl,hPK,rfl,hops.1,qac _,qac _⟩,?_⟩⟩
 refine Br.mk (fun ho => ?_) (fun ho => ?_)
 ·have ho:=of_decide_eq_true ho
  have hF0:fillL K (n - 1) = []:=by
   rw[hF]
   refine List.eq_nil_of_length_eq_zero ?_
   rw[fl]; omega
  have hin:In60 hc n (K.flatten.map by8) [] 0 (256*(n - 1)) hs K hash (fillL K (n - 1)) :=
   ⟨hp,hops.1,hpos,rfl,Kl,K32,h8,hhash,fun a h=>(by cases h),by rw[hF0]; exact⟨(by simp;omega),(by simp)⟩,by simp;omega,by omega⟩
  refine⟨⟨rfl,rfl,rfl,⟨hs,K,hash,hin,h1,rfl⟩,ho,FlatH.flat (qac _),rfl,rfl⟩,?_⟩
  exact tail _ ⟨qac _,rfl,rfl,rfl,rfl,rfl⟩
 ·have hin:In60 hc n (K.flatten.map by8) (F.map by8) 0 (256*(n - 1)) hs K hash (fillL K (n - 1)) :=
   ⟨hp,hops.1,hpos,rfl,Kl,K32,h8,hhash,qac _,by rw[hF,<-fl]; exact qax F,by rw[List.length_map,fl]; omega,by omega⟩
  refine⟨⟨rfl,rfl,rfl,⟨hs,K,hash,hin,h1,rfl⟩,rfl,FlatH.flat (qac _),rfl,rfl⟩,?_⟩
  exact tail _ ⟨qac _,rfl,rfl,rfl,rfl,rfl⟩
end
end Go.Proofs.Vm

namespace Go.Proofs.Vm
set_option maxRecDepth 100000
open Go.Vm
noncomputable section
def keyT(k:List UInt8):List UInt8:=maskL k bodyW (zs 2304)
theorem qb9(k:List UInt8):(keyT k).length=2304:=by unfold keyT;rw[qbd,qao]
theorem qjk(a b:List UInt8)(n:Nat):(xorL a b).take n=xorL (a.take n) (b.take n):=by unfold xorL;rw[List.take_zipWith]
theorem qg2{a b:List UInt8}{m:Nat}(h:b.length<=m):xorL (a.take m) b=xorL a b:=by
 unfold xorL
 apply List.ext_getElem?
 intro i
 rw[List.getElem?_zipWith,List.getElem?_zipWith,List.getElem?_take]
 by_cases hi:i<m
 ·rw[if_pos hi]
 ·rw[if_neg hi,List.getElem?_eq_none (show b.length<=i by omega)]
  cases a[i]? <;> rfl
theorem qhp{a b:List UInt8}(h:b.length<=a.length):xorL a (xorL a b)=b:=by
 unfold xorL
 apply List.ext_getElem?
 intro i
 rw[List.getElem?_zipWith,List.getElem?_zipWith]
 by_cases hi:i<b.length
 ·rw[List.getElem?_eq_getElem (show i<a.length by omega),List.getElem?_eq_getElem hi]
  simp only
  rw[<-UInt8.xor_assoc,UInt8.xor_self,UInt8.zero_xor]
 ·rw[List.getElem?_eq_none (show b.length<=i by omega)]
  cases a[i]? <;> rfl
theorem qvk(a b c:List UInt8)(h:b.length<=a.length):xorL a (b++c)=xorL a b++xorL (a.drop b.length) c:=by
 have h1:xorL a b=xorL (a.take b.length) b:=(qg2 (Nat.le_refl _)).symm
 rw[h1]
 unfold xorL
 rw[<-List.zipWith_append (by rw[List.length_take]; omega),List.take_append_drop]
theorem q1c{a:List UInt8}{n:Nat}(h:a.length=n):xorL a (zs n)=a:=by
 unfold xorL zs
 apply List.ext_getElem?
 intro i
 rw[List.getElem?_zipWith,List.getElem?_replicate]
 by_cases hi:i<n
 ·rw[if_pos hi,List.getElem?_eq_getElem (show i<a.length by omega)]
  simp only
  rw[UInt8.xor_zero]
 ·rw[if_neg hi,List.getElem?_eq_none (show a.length<=i by omega)]
theorem qjt(k b:List UInt8)(h:b.length<=2304):maskL k bodyW b=xorL (keyT k) b:=by
 have e:zs 2304=zs b.length++zs (2304 - b.length):=by
  unfold zs
  rw[List.replicate_append_replicate]
  congr 1
  omega
 obtain⟨t,ht⟩:=qv0 k bodyW (zs b.length) (zs (2304 - b.length))
 have ek:keyT k=maskL k bodyW (zs b.length)++t:=by
  unfold keyT
  rw[e,ht]
 have hl:(maskL k bodyW (zs b.length)).length=b.length:=by rw[qbd,qao]
 rw[qoq,ek,<-qg2 (a:=_++t) (Nat.le_refl b.length),List.take_append_of_le_length (by omega),List.take_of_length_le (by omega)]
 rfl
theorem qe7{α:Type}{l m:List α}{n:Nat}(h:l.length=n):(l++m).take n=l:=by rw[List.take_append_of_le_length (by omega),List.take_of_length_le (by omega)]
theorem qgm{α:Type}{l m:List α}{n:Nat}(h:l.length=n):(l++m).drop n=m:=by rw[List.drop_append_of_le_length (by omega),List.drop_of_length_le (by omega),List.nil_append]
section
variable {L:List (List UInt8)}{hs:List Hop}{hash:List UInt8}{n:Nat}
abbrev bsB(L:List (List UInt8))(hs:List Hop)(hash:List UInt8)(n j:Nat):List UInt8:=(bstep L hs hash (fillL L (n - 1)) n j).1
abbrev bsT(L:List (List UInt8))(hs:List Hop)(hash:List UInt8)(n j:Nat):List UInt8:=(bstep L hs hash (fillL L (n - 1)) n j).2
theorem qcq(h8:n<=8)(hh:∀ h,h∈hs->h.L32)(j:Nat):(bsB L hs hash n j).length=2048/\(bsT L hs hash n j).length=32 :=
 qc2 (by rw[qbn (show n - 1<=8 by omega)]; omega) hh j
theorem qoa:bsB L hs hash n 1=(maskL (L.getD (n - 1) []) bodyW (partL (hs.getD (n - 1) hop0) (zs 32)++(zs 2048).take 1792)).take (2048 - (fillL L (n - 1)).length)++fillL L (n - 1):=rfl
theorem qk5(j:Nat):bsB L hs hash n (j+2)=maskL (L.getD (n - 1 - (j+1)) []) bodyW (partL (hs.getD (n - 1 - (j+1)) hop0) (bsT L hs hash n (j+1))++(bsB L hs hash n (j+1)).take 1792):=rfl
theorem qlw(j:Nat):bsT L hs hash n (j+1)=btagL (L.getD (n - 1 - j) []) (bsB L hs hash n (j+1)) hash:=rfl
theorem qf1(hh:∀ h,h∈hs->h.L32)(i:Nat){nx:List UInt8}(hn:nx.length=32):(partL (hs.getD i hop0) nx).length=256:=by
 refine qbb ?_ hn
 rw[List.getD_eq_getElem?_getD]
 cases hq:hs[i]? with
 | none=>exact qil
 | some h=>exact hh h (List.mem_of_getElem? hq)
theorem qt4{i:Nat}(h:i<=7):fillL L (i+1)=xorL ((keyT (L.getD i [])).drop (2048 - 256*i)) (fillL L i++zs 256):=by
 rw[<-qjp L h,qm5,show 2304 - 256*(i+1)=2048 - 256*i by omega]
 rfl
theorem qo6(h8:n<=8)(hh:∀ h,h∈hs->h.L32):∀ j,j+1<=n->(bsB L hs hash n (j+1)).drop (2048 - 256*(n - 1 - j))=fillL L (n - 1 - j)
 | 0,hj=>by
  have hf:=qbn (L:=L) (show n - 1<=8 by omega)
  rw[qoa,Nat.sub_zero,hf]
  have hm:((maskL (L.getD (n - 1) []) bodyW (partL (hs.getD (n - 1) hop0) (zs 32)++(zs 2048).take 1792)).take (2048 - 256*(n - 1))).length=2048 - 256*(n - 1):=by
   rw[List.length_take,qbd,List.length_append,qf1 hh _ (qao _),List.length_take,qao]; omega
  rw[List.drop_append_of_le_length (by omega),List.drop_of_length_le (by omega),List.nil_append]
 | j+1,hj=>by
  have ih:=qo6 h8 hh j (by omega)
  obtain⟨i,hi⟩:∃ i,n - 1 - (j+1)=i:=⟨_,rfl⟩
  have hi2:n - 1 - j=i+1:=by omega
  rw[hi2] at ih
  rw[qk5,hi]
  obtain⟨b1,b2⟩:=qcq (L:=L) (hash:=hash) h8 hh (j+1)
  generalize bsB L hs hash n (j+1)=B at ih b1
  generalize bsT L hs hash n (j+1)=T2 at b2
  have hp:=qf1 hh i b2
  have hl:(partL (hs.getD i hop0) T2++B.take 1792).length=2048:=by rw[List.length_append,hp,List.length_take,b1]; rfl
  rw[qjt _ _ (by omega),qiv]
  have e1:(partL (hs.getD i hop0) T2++B.take 1792).drop (2048 - 256*i)=(fillL L (i+1)).take (256*i):=by
   have ed:2048 - 256*i - 256=2048 - 256*(i+1):=by omega
   have et:1792 - (2048 - 256*(i+1))=256*i:=by omega
   rw[List.drop_append,List.drop_of_length_le (by omega),List.nil_append,hp,List.drop_take,ed,et,ih]
  have hf:=qbn (L:=L) (show i<=8 by omega)
  rw[e1,qt4 (by omega),qjk,qe7 hf,qg2 (by omega)]
  refine qhp ?_
  rw[List.length_drop,qb9,hf]
  omega
theorem qsp(h8:n<=8)(hh:∀ h,h∈hs->h.L32){j:Nat}(hj:j+2<=n) :
  maskL (L.getD (n - 1 - (j+1)) []) bodyW (bsB L hs hash n (j+2)++zs 256)=partL (hs.getD (n - 1 - (j+1)) hop0) (bsT L hs hash n (j+1))++bsB L hs hash n (j+1):=by
 have he:=qo6 (L:=L) (hash:=hash) h8 hh j (by omega)
 obtain⟨i,hi⟩:∃ i,n - 1 - (j+1)=i:=⟨_,rfl⟩
 have hi2:n - 1 - j=i+1:=by omega
 rw[hi2] at he
 obtain⟨c1,_⟩:=qcq (L:=L) (hash:=hash) h8 hh (j+2)
 rw[qjt _ _ (by rw[List.length_append,c1,qao]; omega),qvk _ _ _ (by rw[c1,qb9]; omega),c1,qk5,hi]
 obtain⟨b1,b2⟩:=qcq (L:=L) (hash:=hash) h8 hh (j+1)
 generalize bsB L hs hash n (j+1)=B at he b1
 generalize bsT L hs hash n (j+1)=T2 at b2
 have hp:=qf1 hh i b2
 have hl:(partL (hs.getD i hop0) T2++B.take 1792).length=2048:=by rw[List.length_append,hp,List.length_take,b1]; rfl
 have e1:xorL ((keyT (L.getD i [])).drop 2048) (zs 256)=B.drop 1792:=by
  have hf:=qbn (L:=L) (show i<=8 by omega)
  have e2:B.drop 1792=(fillL L (i+1)).drop (256*i):=by
   have ed2:2048 - 256*(i+1)+256*i=1792:=by omega
   rw[<-he,List.drop_drop,ed2]
  have ed:2048 - 256*i+256*i=2048:=by omega
  rw[e2,qt4 (by omega),qiv,List.drop_drop,qgm hf,ed]
 rw[qjt _ _ (by omega),qhp (by rw[qb9]; omega),List.append_assoc,e1,List.take_append_drop]
theorem qrk(h8:n<=8)(h1:1<=n)(hh:∀ h,h∈hs->h.L32):(maskL (L.getD (n - 1) []) bodyW (bsB L hs hash n 1++zs 256)).take 256=partL (hs.getD (n - 1) hop0) (zs 32):=by
 obtain⟨c1,_⟩:=qcq (L:=L) (hash:=hash) h8 hh 1
 have hf:=qbn (L:=L) (show n - 1<=8 by omega)
 have hp:=qf1 hh (n - 1) (qao 32)
 have hl:(partL (hs.getD (n - 1) hop0) (zs 32)++(zs 2048).take 1792).length=2048:=by rw[List.length_append,hp,List.length_take,qao]; rfl
 rw[qjt _ _ (by rw[List.length_append,c1,qao]; omega),qjk,List.take_append_of_le_length (by omega),qoa,hf]
 rw[List.take_append_of_le_length (by rw[List.length_take,qbd,hl]; omega),List.take_take,Nat.min_eq_left (by omega),qjt _ _ (by omega),<-qjk,qhp (by rw[qb9]; omega),List.take_append_of_le_length (by omega),List.take_of_length_le (by omega)]
end
end
end Go.Proofs.Vm

namespace Go.Proofs.Vm
set_option maxRecDepth 100000
open Go.Vm
noncomputable section
theorem qtv:∀ (n x:Nat),x<256 ^ n->nuL (hiL n x)=x
 | 0,x,h=>by
  have:x=0:=by simpa using h
  subst this;rfl
 | n+1,x,h=>by
  rw[qpn,qlx,qtv n (x / 256) (by rw[Nat.div_lt_iff_lt_mul (by omega)]; rw[Nat.pow_succ] at h;omega)]
  have:(UInt8.ofNat x).toNat=x % 256:=by rw[UInt8.toNat_ofNat']
  rw[this]
  omega
theorem qau{a b:List UInt8}{o n k:Nat}(h:a.length=k)(hk:k<=o):sl (a++b) o n=sl b (o - k) n:=by
 unfold sl
 rw[List.drop_append,List.drop_of_length_le (by omega),List.nil_append,h]
theorem qc5{c d:List UInt8}{n:Nat}(h:c.length=n):sl (c++d) 0 n=c:=by
 unfold sl
 rw[List.drop_zero,qe7 h]
structure Hop.i64(h:Hop):Prop where
 am:h.am<9223372036854775808
 tot:h.tot<9223372036854775808
theorem sg_hi{n:Nat}{z:Int}(h0:0<=z)(h:z<9223372036854775808)(hn:z<(256 ^ n:Nat)):sg (nuL (hiL n z.toNat))=z:=by
 rw[qtv n z.toNat (by omega),qqr (by omega)]
 omega
theorem quy{h:Hop}(hl:h.L32)(hm:h.may=true)(hi:h.i64){next:List UInt8}(hn:next.length=32):readH (partL h next)=h/\readN (partL h next)=next/\qbt (partL h next)=true:=by
 obtain⟨l1,l2,l3⟩:=hl
 have k:=of_decide_eq_true hm
 obtain⟨i1,i2⟩:=hi
 have a1:=qc1 2 h.ch.toNat
 have a2:=qc1 8 h.am.toNat
 have a3:=qc1 4 h.ex.toNat
 have a4:=qc1 8 h.tot.toNat
 have a5:=qc1 4 h.idx.toNat
 have p2:(256:Nat) ^ 2=65536:=rfl
 have p4:(256:Nat) ^ 4=4294967296:=rfl
 have p8:(256:Nat) ^ 8=18446744073709551616:=rfl
 have s1:sl (partL h next) 0 2=hiL 2 h.ch.toNat:=qc5 a1
 have s2:sl (partL h next) 2 8=hiL 8 h.am.toNat:=by unfold partL;rw[qau a1 (by omega),Nat.sub_self,qc5 a2]
 have s3:sl (partL h next) 10 4=hiL 4 h.ex.toNat:=by unfold partL;rw[qau a1 (by omega),qau a2 (by omega)]; exact qc5 a3
 have s4:sl (partL h next) 14 32=h.sec:=by unfold partL;rw[qau a1 (by omega),qau a2 (by omega),qau a3 (by omega)]; exact qc5 l1
 have s5:sl (partL h next) 46 8=hiL 8 h.tot.toNat:=by unfold partL;rw[qau a1 (by omega),qau a2 (by omega),qau a3 (by omega),qau l1 (by omega)]; exact qc5 a4
 have s6:sl (partL h next) 54 32=h.set:=by unfold partL;rw[qau a1 (by omega),qau a2 (by omega),qau a3 (by omega),qau l1 (by omega),qau a4 (by omega)]; exact qc5 l2
 have s7:sl (partL h next) 86 4=hiL 4 h.idx.toNat:=by unfold partL;rw[qau a1 (by omega),qau a2 (by omega),qau a3 (by omega),qau l1 (by omega),qau a4 (by omega),qau l2 (by omega)]; exact qc5 a5
 have s8:sl (partL h next) 90 32=h.shr:=by unfold partL;rw[qau a1 (by omega),qau a2 (by omega),qau a3 (by omega),qau l1 (by omega),qau a4 (by omega),qau l2 (by omega),qau a5 (by omega)]; exact qc5 l3
 have s9:sl (partL h next) 122 32=next:=by unfold partL;rw[qau a1 (by omega),qau a2 (by omega),qau a3 (by omega),qau l1 (by omega),qau a4 (by omega),qau l2 (by omega),qau a5 (by omega),qau l3 (by omega)]; exact qc5 hn
 have hr:readH (partL h next)=h:=by
  unfold readH
  rw[s1,s2,s3,s4,s5,s6,s7,s8,sg_hi (by omega) (by omega) (by omega),sg_hi (by omega) (by omega) (by omega),sg_hi (by omega) (by omega) (by omega),sg_hi (by omega) (by omega) (by omega),sg_hi (by omega) (by omega) (by omega)]
 have hrn:readN (partL h next)=next:=s9
 refine⟨hr,hrn,?_⟩
 have hz:=(qng (qbb ⟨l1,l2,l3⟩ hn) (by rw[hr]; exact hm)).1 (by rw[hr,hrn])
 unfold qbt
 rw[hz,hr,hm]
 rfl
def pktL(L:List (List UInt8))(hs:List Hop)(nn hash:List UInt8)(i:Nat):List UInt8 :=
 let n:=hs.length
 let K:=keysL L nn n
 nonL nn i++(bsT K hs hash n (n - i)++bsB K hs hash n (n - i))
theorem qhb(L:List (List UInt8))(hs:List Hop)(nn hash:List UInt8):pktL L hs nn hash 0=qcy hs L nn hash:=by
 unfold pktL qcy
 dsimp only
 rw[Nat.sub_zero,List.append_assoc]
 rfl
theorem qo3{L:List (List UInt8)}{nn:List UInt8}{n i:Nat}(hi:i<n):(keysL L nn n).getD i []=atL (L.getD i []) (nonL nn i):=by
 unfold keysL
 rw[List.getD_eq_getElem?_getD,List.getElem?_map,List.getElem?_range hi]
 rfl
theorem q1f{hs:List Hop}{n i:Nat}(h:okHs hs n=true)(hi:i<n):(hs.getD i hop0).may=true/\((hs.getD i hop0).ch=0↔i=n - 1):=by
 have h1:=List.all_eq_true.1 h i (List.mem_range.2 hi)
 unfold okAt at h1
 rw[Bool.and_eq_true,beq_iff_eq,decide_eq_decide] at h1
 exact h1
theorem qp3{L:List (List UInt8)}{hs:List Hop}{nn hash:List UInt8}(hnn:nn.length=32)(h8:hs.length<=8)(hh:∀ h,h∈hs->h.L32)(hi6:∀ h,h∈hs->h.i64)(hok:okHs hs hs.length=true){i:Nat}(hi:i<hs.length) :
  peelL (L.getD i []) (pktL L hs nn hash i) hash=(0,hs.getD i hop0,if i+1=hs.length then [] else pktL L hs nn hash (i+1))/\(pktL L hs nn hash i).length=2112:=by
 obtain⟨j,hj⟩:∃ j,hs.length - i=j+1:=⟨hs.length - i - 1,by omega⟩
 have hj2:hs.length - 1 - j=i:=by omega
 obtain⟨b1,b2⟩:=qcq (L:=keysL L nn hs.length) (hash:=hash) h8 hh (j+1)
 have n32:=qpz hnn i
 have hk:=qo3 (L:=L) (nn:=nn) hi
 have hgm:hs.getD i hop0∈hs:=by
  rw[List.getD_eq_getElem?_getD,List.getElem?_eq_getElem hi]
  exact List.getElem_mem hi
 obtain⟨m1,m2⟩:=q1f hok hi
 have hp:pktL L hs nn hash i=nonL nn i++(bsT (keysL L nn hs.length) hs hash hs.length (j+1)++bsB (keysL L nn hs.length) hs hash hs.length (j+1)):=by
  unfold pktL
  dsimp only
  rw[hj]
 have hlen:(pktL L hs nn hash i).length=2112:=by
  rw[hp,List.length_append,List.length_append,n32,b1,b2]
 refine⟨?_,hlen⟩
 have hT:=qlw (L:=keysL L nn hs.length) (hs:=hs) (hash:=hash) (n:=hs.length) j
 rw[hj2,hk] at hT
 have hall:∃ nx rest,nx.length=32/\(maskL (atL (L.getD i []) (nonL nn i)) bodyW (bsB (keysL L nn hs.length) hs hash hs.length (j+1)++zs 256)).take 256=partL (hs.getD i hop0) nx /\
   (i+1≠hs.length->(maskL (atL (L.getD i []) (nonL nn i)) bodyW (bsB (keysL L nn hs.length) hs hash hs.length (j+1)++zs 256))=partL (hs.getD i hop0) nx++rest/\nx++rest=bsT (keysL L nn hs.length) hs hash hs.length j++bsB (keysL L nn hs.length) hs hash hs.length j/\rest.length=2048):=by
  cases j with
  | zero =>
   have e:=qrk (L:=keysL L nn hs.length) (hash:=hash) h8 (by omega) hh
   have:hs.length - 1=i:=by omega
   rw[this,hk] at e
   exact⟨zs 32,[],qao _,e,fun h=>absurd (by omega) h⟩
  | succ j =>
   have e:=qsp (L:=keysL L nn hs.length) (hash:=hash) h8 hh (j:=j) (by omega)
   rw[hj2,hk] at e
   obtain⟨c1,c2⟩:=qcq (L:=keysL L nn hs.length) (hash:=hash) h8 hh (j+1)
   refine⟨_,_,c2,?_,fun _=>⟨e,rfl,c1⟩⟩
   rw[e]
   exact qe7 (qf1 hh i c2)
 obtain⟨nx,rest,hnx,ha,hb⟩:=hall
 obtain⟨r1,r2,r3⟩:=quy (hh _ hgm) m1 (hi6 _ hgm) hnx
 generalize bsB (keysL L nn hs.length) hs hash hs.length (j+1)=B at b1 hp ha hb hT
 generalize bsT (keysL L nn hs.length) hs hash hs.length (j+1)=T at b2 hp hT
 have q1:sl (pktL L hs nn hash i) 0 32=nonL nn i:=by rw[hp]; exact qc5 n32
 have q2:sl (pktL L hs nn hash i) 32 32=T:=by rw[hp,qau n32 (by omega)]; exact qc5 b2
 have q3:sl (pktL L hs nn hash i) 64 2048=B:=by
  rw[hp,qau n32 (by omega),qau b2 (by omega)]
  exact qba b1
 have t1:lkL (L.getD i []) (pktL L hs nn hash i)=atL (L.getD i []) (nonL nn i):=by unfold lkL;rw[q1]
 have t2:tagOK (L.getD i []) (pktL L hs nn hash i) hash=true:=by
  unfold tagOK
  rw[t1,q3,q2]
  exact decide_eq_true hT.symm
 have t3:allL (L.getD i []) (pktL L hs nn hash i)=maskL (atL (L.getD i []) (nonL nn i)) bodyW (B++zs 256):=by unfold allL;rw[t1,q3]; rfl
 have t4:hdL (L.getD i []) (pktL L hs nn hash i)=partL (hs.getD i hop0) nx:=by
  unfold hdL
  rw[t3,<-ha]
  unfold sl
  rw[List.drop_zero]
 unfold peelL
 rw[t2,t4,r3,r1,if_neg (by simp),if_neg (by simp)]
 by_cases hl:i+1=hs.length
 ·rw[if_pos (m2.2 (by omega)),if_pos hl]
 ·rw[if_neg (fun h=>hl (by have:=m2.1 h;omega)),if_neg hl]
  obtain⟨h1,h2,h3⟩:=hb hl
  have hnext:nextL (L.getD i []) (pktL L hs nn hash i)=pktL L hs nn hash (i+1):=by
   unfold nextL
   rw[t4,r2,q1,t3,h1,qau (qf1 hh i hnx) (by omega),Nat.sub_self,qba h3,h2]
   unfold pktL
   dsimp only
   rw[show hs.length - (i+1)=j by omega]
   rfl
  rw[hnext]
end
end Go.Proofs.Vm

namespace Go.Proofs.Vm
set_option maxRecDepth 100000
open Go.Vm
noncomputable section
def P60(ks:List AV)(ko kn:Nat)(hc:List AV)(n:Nat)(ns hs:List AV):Prop:=PSh ks ko kn/\PHs hc n/\PKey ns/\PKey hs
def P63(ks:List AV)(pc:List AV)(off len:Nat)(hs:List AV):Prop:=PKey ks/\PB pc off len/\PKey hs
structure BZ where
 gd:List AV->Nat->Nat->Bool
 bl:List AV->Nat->List AV->Nat->List AV->List AV->List AV
 go:List AV->List UInt8->List AV->Bool
 hp:List AV->List UInt8->List AV->List AV
 nx:List AV->List UInt8->List AV->List AV
 er:List AV->List UInt8->List AV->Int
def cnO4(B:BZ)(Z:OZ)(O:OY)(F:HF):CnF:=cnOr (fun f vals H=>match f,vals with
 | 60,[x,y,.agg ns,.agg hs]=>match vw1 H x,vw1 H y with
  | .ros ks ko kn _ _,.ros hc 0 n _ _=>some (P60 ks ko kn hc n ns hs,.cond (B.gd hc n kn) (.ok (.tup [.slc (size H) 0 2112 2112 1,.int .i64 0]) (join H [.cells (B.bl ks ko hc n ns hs)]) []) (.ok (.tup [.nils,.int .i64 1]) H []))
  | _,_=>none
 | 61,[x,y,.agg ns,.agg hs]=>match vw1 H x,vw1 H y with
  | .ros ks ko kn _ _,.ros hc 0 n _ _=>some (P60 ks ko kn hc n ns hs,.cond (B.gd hc n kn) (.ok (.tup [.slc (size H) 0 2112 2112 1,.int .i64 0]) (join H [.cells (B.bl ks ko hc n ns hs)]) []) (.ok (.tup [.nils,.int .i64 1]) H []))
  | _,_=>none
 | 63,[.agg ks,x,.agg hs]=>match vw1 H x with
  | .ros pc off len c _=>some (P63 ks pc off len hs/\len<=c,.cond (B.go ks (rdB pc off len) hs) (.ok (.tup [.agg (B.hp ks (rdB pc off len) hs),.slc (size H) 0 2112 2112 1,.int .i64 0]) (join H [.cells (B.nx ks (rdB pc off len) hs)]) []) (.ok (.tup [.agg (B.hp ks (rdB pc off len) hs),.nils,.int .i64 (B.er ks (rdB pc off len) hs)]) H []))
  | _=>none
 | 64,[.agg ks,x,.agg hs]=>match vw1 H x with
  | .ros pc off len c _=>some (P63 ks pc off len hs/\len<=c,.cond (B.go ks (rdB pc off len) hs) (.ok (.tup [.agg (B.hp ks (rdB pc off len) hs),.slc (size H) 0 2112 2112 1,.int .i64 0]) (join H [.cells (B.nx ks (rdB pc off len) hs)]) []) (.ok (.tup [.agg (B.hp ks (rdB pc off len) hs),.nils,.int .i64 (B.er ks (rdB pc off len) hs)]) H []))
  | _=>none
 | _,_=>none) (cnO2 Z O F)
def keyN(k:UInt8):List UInt8:=k::0::77::List.replicate 29 0
def lk1:List AV:=(keyN 1).map by8
def lk2:List AV:=(keyN 2).map by8
def lk3:List AV:=(keyN 3).map by8
def lk4:List AV:=(keyN 4).map by8
def lvK:List AV:=(keyN 1++keyN 2).map by8
def lvHop(c a:Int):Hop:=⟨c,a,0,List.replicate 32 0,0,List.replicate 32 0,0,List.replicate 32 0⟩
def lvH:List AV:=hopC (lvHop 5 9)++hopC (lvHop 0 8)
def lvP(B:BZ):List AV:=B.bl lvK 0 lvH 2 lk3 lk4
def lvQ(B:BZ):List AV:=B.nx lk1 (rdB (lvP B) 0 2112) lk4
def lvR(B:BZ):List AV:=B.nx lk2 (rdB (lvQ B) 0 2112) lk4
def lvS(B:BZ):List AV:=B.nx lk2 (rdB (lvP B) 0 2112) lk4
def tabW(f:Nat):Option VF:=match f with
 | 62=>some vf62
 | 94=>some vf94
 | _=>none
theorem vc62(B:BZ)(Z:OZ)(O:OY)(F:HF)(Q:AV->Prop) :
  (vcall (vcA kdS (cnO4 B Z O F) noLn) ops0 tabW 200 vf62 [] [] (fun r _ _=>Q r)) =
 (((P60 lvK 0 2 lvH 2 lk3 lk4) /\
 (Br (BZ.gd B lvH 2 2)
 (((P63 lk1 (lvP B) 0 2112 lk4) /\
 (2112<=2112)) /\
 (Br (BZ.go B lk1 (rdB (lvP B) 0 2112) lk4)
 (Chk (ops0.eq (ops0.len (BZ.hp B lk1 (rdB (lvP B) 0 2112) lk4)) 101)
 (Chk (own (.tup [(.agg (BZ.hp B lk1 (rdB (lvP B) 0 2112) lk4)),(.slc 6 0 2112 2112 1),(.int .i64 (.ofNat 0))]))
 (Chk (nmB 6 (.cells (lvP B)))
 (Chk (ownB (.cells (lvP B)))
 (Chk (ownB (.cells (lvQ B)))
 (Chk (nmB 5 (.cells (lvP B)))
 (Chk (ownB (.cells (lvP B)))
 (((P63 lk2 (lvQ B) 0 2112 lk4) /\
 (2112<=2112)) /\
 (Br (BZ.go B lk2 (rdB (lvQ B) 0 2112) lk4)
 (Chk (ops0.eq (ops0.len (BZ.hp B lk2 (rdB (lvQ B) 0 2112) lk4)) 101)
 (Chk (own (.tup [(.agg (BZ.hp B lk2 (rdB (lvQ B) 0 2112) lk4)),(.slc 9 0 2112 2112 1),(.int .i64 (.ofNat 0))]))
 (Chk (nmB 9 (.cells (lvP B)))
 (Chk (nmB 9 (.cells (lvQ B)))
 (Chk (nmB 9 (.cells (ops0.spl hopZ 0 (BZ.hp B lk1 (rdB (lvP B) 0 2112) lk4))))
 (Chk (ownB (.cells (lvP B)))
 (Chk (ownB (.cells (lvQ B)))
 (Chk (ownB (.cells (ops0.spl hopZ 0 (BZ.hp B lk1 (rdB (lvP B) 0 2112) lk4))))
 (Chk (ownB (.cells (lvR B)))
 (Chk (nmB 8 (.cells (lvP B)))
 (Chk (nmB 8 (.cells (lvQ B)))
 (Chk (nmB 8 (.cells (ops0.spl hopZ 0 (BZ.hp B lk1 (rdB (lvP B) 0 2112) lk4))))
 (Chk (ownB (.cells (lvP B)))
 (Chk (ownB (.cells (lvQ B)))
 (Chk (ownB (.cells (ops0.spl hopZ 0 (BZ.hp B lk1 (rdB (lvP B) 0 2112) lk4))))
 (((P63 lk2 (lvP B) 0 2112 lk4) /\
 (2112<=2112)) /\
 (Br (BZ.go B lk2 (rdB (lvP B) 0 2112) lk4)
 (Chk (ops0.eq (ops0.len (BZ.hp B lk2 (rdB (lvP B) 0 2112) lk4)) 101)
 (Chk (own (.tup [(.agg (BZ.hp B lk2 (rdB (lvP B) 0 2112) lk4)),(.slc 12 0 2112 2112 1),(.int .i64 (.ofNat 0))]))
 (Chk (nmB 12 (.cells (lvP B)))
 (Chk (nmB 12 (.cells (lvQ B)))
 (Chk (nmB 12 (.cells (ops0.spl hopZ 0 (BZ.hp B lk1 (rdB (lvP B) 0 2112) lk4))))
 (Chk (nmB 12 (.cells (lvR B)))
 (Chk (nmB 12 (.cells (ops0.spl hopZ 0 (BZ.hp B lk2 (rdB (lvQ B) 0 2112) lk4))))
 (Chk (ownB (.cells (lvP B)))
 (Chk (ownB (.cells (lvQ B)))
 (Chk (ownB (.cells (ops0.spl hopZ 0 (BZ.hp B lk1 (rdB (lvP B) 0 2112) lk4))))
 (Chk (ownB (.cells (lvR B)))
 (Chk (ownB (.cells (ops0.spl hopZ 0 (BZ.hp B lk2 (rdB (lvQ B) 0 2112) lk4))))
 (Chk (ownB (.cells (lvS B)))
 (Chk (nmB 11 (.cells (lvP B)))
 (Chk (nmB 11 (.cells (lvQ B)))
 (Chk (nmB 11 (.cells (ops0.spl hopZ 0 (BZ.hp B lk1 (rdB (lvP B) 0 2112) lk4))))
 (Chk (nmB 11 (.cells (lvR B)))
 (Chk (nmB 11 (.cells (ops0.spl hopZ 0 (BZ.hp B lk2 (rdB (lvQ B) 0 2112) lk4))))
 (Chk (ownB (.cells (lvP B)))
 (Chk (ownB (.cells (lvQ B)))
 (Chk (ownB (.cells (ops0.spl hopZ 0 (BZ.hp B lk1 (rdB (lvP B) 0 2112) lk4))))
 (Chk (ownB (.cells (lvR B)))
 (Chk (ownB (.cells (ops0.spl hopZ 0 (BZ.hp B lk2 (rdB (lvQ B) 0 2112) lk4))))
 (Q (.bool Bool.false)))))))))))))))))))))))))
 (Chk (ops0.eq (ops0.len (BZ.hp B lk2 (rdB (lvP B) 0 2112) lk4)) 101)
 (Chk (own (.tup [(.agg (BZ.hp B lk2 (rdB (lvP B) 0 2112) lk4)),.nils,(.int .i64 (BZ.er B lk2 (rdB (lvP B) 0 2112) lk4))]))
 (Chk (nmB 12 (.cells (lvP B)))
 (Chk (nmB 12 (.cells (lvQ B)))
 (Chk (nmB 12 (.cells (ops0.spl hopZ 0 (BZ.hp B lk1 (rdB (lvP B) 0 2112) lk4))))
 (Chk (nmB 12 (.cells (lvR B)))
 (Chk (nmB 12 (.cells (ops0.spl hopZ 0 (BZ.hp B lk2 (rdB (lvQ B) 0 2112) lk4))))
 (Chk (ownB (.cells (lvP B)))
 (Chk (ownB (.cells (lvQ B)))
 (Chk (ownB (.cells (ops0.spl hopZ 0 (BZ.hp B lk1 (rdB (lvP B) 0 2112) lk4))))
 (Chk (ownB (.cells (lvR B)))
 (Chk (ownB (.cells (ops0.spl hopZ 0 (BZ.hp B lk2 (rdB (lvQ B) 0 2112) lk4))))
 (Chk (nmB 11 (.cells (lvP B)))
 (Chk (nmB 11 (.cells (lvQ B)))
 (Chk (nmB 11 (.cells (ops0.spl hopZ 0 (BZ.hp B lk1 (rdB (lvP B) 0 2112) lk4))))
 (Chk (nmB 11 (.cells (lvR B)))
 (Chk (nmB 11 (.cells (ops0.spl hopZ 0 (BZ.hp B lk2 (rdB (lvQ B) 0 2112) lk4))))
 (Chk (ownB (.cells (lvP B)))
 (Chk (ownB (.cells (lvQ B)))
 (Chk (ownB (.cells (ops0.spl hopZ 0 (BZ.hp B lk1 (rdB (lvP B) 0 2112) lk4))))
 (Chk (ownB (.cells (lvR B)))
 (Chk (ownB (.cells (ops0.spl hopZ 0 (BZ.hp B lk2 (rdB (lvQ B) 0 2112) lk4))))
 (Br (ops0.cmp .eql (BZ.er B lk2 (rdB (lvP B) 0 2112) lk4) (Int.ofNat 70))
 (∃ n:Int,((Nth (ops0.spl hopZ 0 (BZ.hp B lk1 (rdB (lvP B) 0 2112) lk4)) 0 (.int .i64 n)) /\
 (Br (ops0.cmp .eql n (Int.ofNat 5))
 (∃ n1:Int,((Nth (ops0.spl hopZ 0 (BZ.hp B lk1 (rdB (lvP B) 0 2112) lk4)) 1 (.int .i64 n1)) /\
 (Br (ops0.cmp .eql n1 (Int.ofNat 9))
 (∃ n2:Int,((Nth (ops0.spl hopZ 0 (BZ.hp B lk2 (rdB (lvQ B) 0 2112) lk4)) 1 (.int .i64 n2)) /\
 (Br (ops0.cmp .eql n2 (Int.ofNat 8))
 (Q (.bool Bool.false))
 (Q (.bool Bool.false)))))
 (Q (.bool Bool.false)))))
 (Q (.bool Bool.false)))))
 (Q (.bool Bool.false))))))))))))))))))))))))))))))))))))))))))
 (Chk (ops0.eq (ops0.len (BZ.hp B lk2 (rdB (lvQ B) 0 2112) lk4)) 101)
 (Chk (own (.tup [(.agg (BZ.hp B lk2 (rdB (lvQ B) 0 2112) lk4)),.nils,(.int .i64 (BZ.er B lk2 (rdB (lvQ B) 0 2112) lk4))]))
 (Chk (nmB 9 (.cells (lvP B)))
 (Chk (nmB 9 (.cells (lvQ B)))
 (Chk (nmB 9 (.cells (ops0.spl hopZ 0 (BZ.hp B lk1 (rdB (lvP B) 0 2112) lk4))))
 (Chk (ownB (.cells (lvP B)))
 (Chk (ownB (.cells (lvQ B)))
 (Chk (ownB (.cells (ops0.spl hopZ 0 (BZ.hp B lk1 (rdB (lvP B) 0 2112) lk4))))
 (Chk (nmB 8 (.cells (lvP B)))
 (Chk (nmB 8 (.cells (lvQ B)))
 (Chk (nmB 8 (.cells (ops0.spl hopZ 0 (BZ.hp B lk1 (rdB (lvP B) 0 2112) lk4))))
 (Chk (ownB (.cells (lvP B)))
 (Chk (ownB (.cells (lvQ B)))
 (Chk (ownB (.cells (ops0.spl hopZ 0 (BZ.hp B lk1 (rdB (lvP B) 0 2112) lk4))))
 (((P63 lk2 (lvP B) 0 2112 lk4) /\
 (2112<=2112)) /\
 (Br (BZ.go B lk2 (rdB (lvP B) 0 2112) lk4)
 (Chk (ops0.eq (ops0.len (BZ.hp B lk2 (rdB (lvP B) 0 2112) lk4)) 101)
 (Chk (own (.tup [(.agg (BZ.hp B lk2 (rdB (lvP B) 0 2112) lk4)),(.slc 11 0 2112 2112 1),(.int .i64 (.ofNat 0))]))
 (Chk (nmB 11 (.cells (lvP B)))
 (Chk (nmB 11 (.cells (lvQ B)))
 (Chk (nmB 11 (.cells (ops0.spl hopZ 0 (BZ.hp B lk1 (rdB (lvP B) 0 2112) lk4))))
 (Chk (nmB 11 (.cells (ops0.spl hopZ 0 (BZ.hp B lk2 (rdB (lvQ B) 0 2112) lk4))))
 (Chk (ownB (.cells (lvP B)))
 (Chk (ownB (.cells (lvQ B)))
 (Chk (ownB (.cells (ops0.spl hopZ 0 (BZ.hp B lk1 (rdB (lvP B) 0 2112) lk4))))
 (Chk (ownB (.cells (ops0.spl hopZ 0 (BZ.hp B lk2 (rdB (lvQ B) 0 2112) lk4))))
 (Chk (ownB (.cells (lvS B)))
 (Chk (nmB 10 (.cells (lvP B)))
 (Chk (nmB 10 (.cells (lvQ B)))
 (Chk (nmB 10 (.cells (ops0.spl hopZ 0 (BZ.hp B lk1 (rdB (lvP B) 0 2112) lk4))))
 (Chk (nmB 10 (.cells (ops0.spl hopZ 0 (BZ.hp B lk2 (rdB (lvQ B) 0 2112) lk4))))
 (Chk (ownB (.cells (lvP B)))
 (Chk (ownB (.cells (lvQ B)))
 (Chk (ownB (.cells (ops0.spl hopZ 0 (BZ.hp B lk1 (rdB (lvP B) 0 2112) lk4))))
 (Chk (ownB (.cells (ops0.spl hopZ 0 (BZ.hp B lk2 (rdB (lvQ B) 0 2112) lk4))))
 (Br (ops0.cmp .eql (BZ.er B lk2 (rdB (lvQ B) 0 2112) lk4) (Int.ofNat 0))
 (Q (.bool Bool.false))
 (Q (.bool Bool.false))))))))))))))))))))))
 (Chk (ops0.eq (ops0.len (BZ.hp B lk2 (rdB (lvP B) 0 2112) lk4)) 101)
 (Chk (own (.tup [(.agg (BZ.hp B lk2 (rdB (lvP B) 0 2112) lk4)),.nils,(.int .i64 (BZ.er B lk2 (rdB (lvP B) 0 2112) lk4))]))
 (Chk (nmB 11 (.cells (lvP B)))
 (Chk (nmB 11 (.cells (lvQ B)))
 (Chk (nmB 11 (.cells (ops0.spl hopZ 0 (BZ.hp B lk1 (rdB (lvP B) 0 2112) lk4))))
 (Chk (nmB 11 (.cells (ops0.spl hopZ 0 (BZ.hp B lk2 (rdB (lvQ B) 0 2112) lk4))))
 (Chk (ownB (.cells (lvP B)))
 (Chk (ownB (.cells (lvQ B)))
 (Chk (ownB (.cells (ops0.spl hopZ 0 (BZ.hp B lk1 (rdB (lvP B) 0 2112) lk4))))
 (Chk (ownB (.cells (ops0.spl hopZ 0 (BZ.hp B lk2 (rdB (lvQ B) 0 2112) lk4))))
 (Chk (nmB 10 (.cells (lvP B)))
 (Chk (nmB 10 (.cells (lvQ B)))
 (Chk (nmB 10 (.cells (ops0.spl hopZ 0 (BZ.hp B lk1 (rdB (lvP B) 0 2112) lk4))))
 (Chk (nmB 10 (.cells (ops0.spl hopZ 0 (BZ.hp B lk2 (rdB (lvQ B) 0 2112) lk4))))
 (Chk (ownB (.cells (lvP B)))
 (Chk (ownB (.cells (lvQ B)))
 (Chk (ownB (.cells (ops0.spl hopZ 0 (BZ.hp B lk1 (rdB (lvP B) 0 2112) lk4))))
 (Chk (ownB (.cells (ops0.spl hopZ 0 (BZ.hp B lk2 (rdB (lvQ B) 0 2112) lk4))))
 (Br (ops0.cmp .eql (BZ.er B lk2 (rdB (lvQ B) 0 2112) lk4) (Int.ofNat 0))
 (Br (ops0.cmp .eql (BZ.er B lk2 (rdB (lvP B) 0 2112) lk4) (Int.ofNat 70))
 (∃ n:Int,((Nth (ops0.spl hopZ 0 (BZ.hp B lk1 (rdB (lvP B) 0 2112) lk4)) 0 (.int .i64 n)) /\
 (Br (ops0.cmp .eql n (Int.ofNat 5))
 (∃ n1:Int,((Nth (ops0.spl hopZ 0 (BZ.hp B lk1 (rdB (lvP B) 0 2112) lk4)) 1 (.int .i64 n1)) /\
 (Br (ops0.cmp .eql n1 (Int.ofNat 9))
 (∃ n2:Int,((Nth (ops0.spl hopZ 0 (BZ.hp B lk2 (rdB (lvQ B) 0 2112) lk4)) 1 (.int .i64 n2)) /\
 (Br (ops0.cmp .eql n2 (Int.ofNat 8))
 (Q (.bool Bool.true))
 (Q (.bool Bool.false)))))
 (Q (.bool Bool.false)))))
 (Q (.bool Bool.false)))))
 (Q (.bool Bool.false)))
 (Q (.bool Bool.false))))))))))))))))))))))))))))))))))))))))))))))
 (Chk (ops0.eq (ops0.len (BZ.hp B lk1 (rdB (lvP B) 0 2112) lk4)) 101)
 (Chk (own (.tup [(.agg (BZ.hp B lk1 (rdB (lvP B) 0 2112) lk4)),.nils,(.int .i64 (BZ.er B lk1 (rdB (lvP B) 0 2112) lk4))]))
 (Chk (nmB 6 (.cells (lvP B)))
 (Chk (ownB (.cells (lvP B)))
 (Chk (nmB 5 (.cells (lvP B)))
 (Chk (ownB (.cells (lvP B)))
 (((P63 lk2 [] 0 0 lk4) /\
 (0<=0)) /\
 (Br (BZ.go B lk2 [] lk4)
 (Chk (ops0.eq (ops0.len (BZ.hp B lk2 [] lk4)) 101)
 (Chk (own (.tup [(.agg (BZ.hp B lk2 [] lk4)),(.slc 8 0 2112 2112 1),(.int .i64 (.ofNat 0))]))
 (Chk (nmB 8 (.cells (lvP B)))
 (Chk (nmB 8 (.cells (ops0.spl hopZ 0 (BZ.hp B lk1 (rdB (lvP B) 0 2112) lk4))))
 (Chk (ownB (.cells (lvP B)))
 (Chk (ownB (.cells (ops0.spl hopZ 0 (BZ.hp B lk1 (rdB (lvP B) 0 2112) lk4))))
 (Chk (ownB (.cells (BZ.nx B lk2 [] lk4)))
 (Chk (nmB 7 (.cells (lvP B)))
 (Chk (nmB 7 (.cells (ops0.spl hopZ 0 (BZ.hp B lk1 (rdB (lvP B) 0 2112) lk4))))
 (Chk (ownB (.cells (lvP B)))
 (Chk (ownB (.cells (ops0.spl hopZ 0 (BZ.hp B lk1 (rdB (lvP B) 0 2112) lk4))))
 (((P63 lk2 (lvP B) 0 2112 lk4) /\
 (2112<=2112)) /\
 (Br (BZ.go B lk2 (rdB (lvP B) 0 2112) lk4)
 (Chk (ops0.eq (ops0.len (BZ.hp B lk2 (rdB (lvP B) 0 2112) lk4)) 101)
 (Chk (own (.tup [(.agg (BZ.hp B lk2 (rdB (lvP B) 0 2112) lk4)),(.slc 11 0 2112 2112 1),(.int .i64 (.ofNat 0))]))
 (Chk (nmB 11 (.cells (lvP B)))
 (Chk (nmB 11 (.cells (ops0.spl hopZ 0 (BZ.hp B lk1 (rdB (lvP B) 0 2112) lk4))))
 (Chk (nmB 11 (.cells (BZ.nx B lk2 [] lk4)))
 (Chk (nmB 11 (.cells (ops0.spl hopZ 0 (BZ.hp B lk2 [] lk4))))
 (Chk (ownB (.cells (lvP B)))
 (Chk (ownB (.cells (ops0.spl hopZ 0 (BZ.hp B lk1 (rdB (lvP B) 0 2112) lk4))))
 (Chk (ownB (.cells (BZ.nx B lk2 [] lk4)))
 (Chk (ownB (.cells (ops0.spl hopZ 0 (BZ.hp B lk2 [] lk4))))
 (Chk (ownB (.cells (lvS B)))
 (Chk (nmB 10 (.cells (lvP B)))
 (Chk (nmB 10 (.cells (ops0.spl hopZ 0 (BZ.hp B lk1 (rdB (lvP B) 0 2112) lk4))))
 (Chk (nmB 10 (.cells (BZ.nx B lk2 [] lk4)))
 (Chk (nmB 10 (.cells (ops0.spl hopZ 0 (BZ.hp B lk2 [] lk4))))
 (Chk (ownB (.cells (lvP B)))
 (Chk (ownB (.cells (ops0.spl hopZ 0 (BZ.hp B lk1 (rdB (lvP B) 0 2112) lk4))))
 (Chk (ownB (.cells (BZ.nx B lk2 [] lk4)))
 (Chk (ownB (.cells (ops0.spl hopZ 0 (BZ.hp B lk2 [] lk4))))
 (Br (ops0.cmp .eql (BZ.er B lk1 (rdB (lvP B) 0 2112) lk4) (Int.ofNat 0))
 (Q (.bool Bool.false))
 (Q (.bool Bool.false))))))))))))))))))))))
 (Chk (ops0.eq (ops0.len (BZ.hp B lk2 (rdB (lvP B) 0 2112) lk4)) 101)
 (Chk (own (.tup [(.agg (BZ.hp B lk2 (rdB (lvP B) 0 2112) lk4)),.nils,(.int .i64 (BZ.er B lk2 (rdB (lvP B) 0 2112) lk4))]))
 (Chk (nmB 11 (.cells (lvP B)))
 (Chk (nmB 11 (.cells (ops0.spl hopZ 0 (BZ.hp B lk1 (rdB (lvP B) 0 2112) lk4))))
 (Chk (nmB 11 (.cells (BZ.nx B lk2 [] lk4)))
 (Chk (nmB 11 (.cells (ops0.spl hopZ 0 (BZ.hp B lk2 [] lk4))))
 (Chk (ownB (.cells (lvP B)))
 (Chk (ownB (.cells (ops0.spl hopZ 0 (BZ.hp B lk1 (rdB (lvP B) 0 2112) lk4))))
 (Chk (ownB (.cells (BZ.nx B lk2 [] lk4)))
 (Chk (ownB (.cells (ops0.spl hopZ 0 (BZ.hp B lk2 [] lk4))))
 (Chk (nmB 10 (.cells (lvP B)))
 (Chk (nmB 10 (.cells (ops0.spl hopZ 0 (BZ.hp B lk1 (rdB (lvP B) 0 2112) lk4))))
 (Chk (nmB 10 (.cells (BZ.nx B lk2 [] lk4)))
 (Chk (nmB 10 (.cells (ops0.spl hopZ 0 (BZ.hp B lk2 [] lk4))))
 (Chk (ownB (.cells (lvP B)))
 (Chk (ownB (.cells (ops0.spl hopZ 0 (BZ.hp B lk1 (rdB (lvP B) 0 2112) lk4))))
 (Chk (ownB (.cells (BZ.nx B lk2 [] lk4)))
 (Chk (ownB (.cells (ops0.spl hopZ 0 (BZ.hp B lk2 [] lk4))))
 (Br (ops0.cmp .eql (BZ.er B lk1 (rdB (lvP B) 0 2112) lk4) (Int.ofNat 0))
 (Br (ops0.cmp .eql (BZ.er B lk2 (rdB (lvP B) 0 2112) lk4) (Int.ofNat 70))
 (∃ n:Int,((Nth (ops0.spl hopZ 0 (BZ.hp B lk1 (rdB (lvP B) 0 2112) lk4)) 0 (.int .i64 n)) /\
 (Br (ops0.cmp .eql n (Int.ofNat 5))
 (∃ n1:Int,((Nth (ops0.spl hopZ 0 (BZ.hp B lk1 (rdB (lvP B) 0 2112) lk4)) 1 (.int .i64 n1)) /\
 (Br (ops0.cmp .eql n1 (Int.ofNat 9))
 (Q (.bool Bool.false))
 (Q (.bool Bool.false)))))
 (Q (.bool Bool.false)))))
 (Q (.bool Bool.false)))
 (Q (.bool Bool.false))))))))))))))))))))))))))))))))))
 (Chk (ops0.eq (ops0.len (BZ.hp B lk2 [] lk4)) 101)
 (Chk (own (.tup [(.agg (BZ.hp B lk2 [] lk4)),.nils,(.int .i64 (BZ.er B lk2 [] lk4))]))
 (Chk (nmB 8 (.cells (lvP B)))
 (Chk (nmB 8 (.cells (ops0.spl hopZ 0 (BZ.hp B lk1 (rdB (lvP B) 0 2112) lk4))))
 (Chk (ownB (.cells (lvP B)))
 (Chk (ownB (.cells (ops0.spl hopZ 0 (BZ.hp B lk1 (rdB (lvP B) 0 2112) lk4))))
 (Chk (nmB 7 (.cells (lvP B)))
 (Chk (nmB 7 (.cells (ops0.spl hopZ 0 (BZ.hp B lk1 (rdB (lvP B) 0 2112) lk4))))
 (Chk (ownB (.cells (lvP B)))
 (Chk (ownB (.cells (ops0.spl hopZ 0 (BZ.hp B lk1 (rdB (lvP B) 0 2112) lk4))))
 (((P63 lk2 (lvP B) 0 2112 lk4) /\
 (2112<=2112)) /\
 (Br (BZ.go B lk2 (rdB (lvP B) 0 2112) lk4)
 (Chk (ops0.eq (ops0.len (BZ.hp B lk2 (rdB (lvP B) 0 2112) lk4)) 101)
 (Chk (own (.tup [(.agg (BZ.hp B lk2 (rdB (lvP B) 0 2112) lk4)),(.slc 10 0 2112 2112 1),(.int .i64 (.ofNat 0))]))
 (Chk (nmB 10 (.cells (lvP B)))
 (Chk (nmB 10 (.cells (ops0.spl hopZ 0 (BZ.hp B lk1 (rdB (lvP B) 0 2112) lk4))))
 (Chk (nmB 10 (.cells (ops0.spl hopZ 0 (BZ.hp B lk2 [] lk4))))
 (Chk (ownB (.cells (lvP B)))
 (Chk (ownB (.cells (ops0.spl hopZ 0 (BZ.hp B lk1 (rdB (lvP B) 0 2112) lk4))))
 (Chk (ownB (.cells (ops0.spl hopZ 0 (BZ.hp B lk2 [] lk4))))
 (Chk (ownB (.cells (lvS B)))
 (Chk (nmB 9 (.cells (lvP B)))
 (Chk (nmB 9 (.cells (ops0.spl hopZ 0 (BZ.hp B lk1 (rdB (lvP B) 0 2112) lk4))))
 (Chk (nmB 9 (.cells (ops0.spl hopZ 0 (BZ.hp B lk2 [] lk4))))
 (Chk (ownB (.cells (lvP B)))
 (Chk (ownB (.cells (ops0.spl hopZ 0 (BZ.hp B lk1 (rdB (lvP B) 0 2112) lk4))))
 (Chk (ownB (.cells (ops0.spl hopZ 0 (BZ.hp B lk2 [] lk4))))
 (Br (ops0.cmp .eql (BZ.er B lk1 (rdB (lvP B) 0 2112) lk4) (Int.ofNat 0))
 (Br (ops0.cmp .eql (BZ.er B lk2 [] lk4) (Int.ofNat 0))
 (Q (.bool Bool.false))
 (Q (.bool Bool.false)))
 (Q (.bool Bool.false))))))))))))))))))
 (Chk (ops0.eq (ops0.len (BZ.hp B lk2 (rdB (lvP B) 0 2112) lk4)) 101)
 (Chk (own (.tup [(.agg (BZ.hp B lk2 (rdB (lvP B) 0 2112) lk4)),.nils,(.int .i64 (BZ.er B lk2 (rdB (lvP B) 0 2112) lk4))]))
 (Chk (nmB 10 (.cells (lvP B)))
 (Chk (nmB 10 (.cells (ops0.spl hopZ 0 (BZ.hp B lk1 (rdB (lvP B) 0 2112) lk4))))
 (Chk (nmB 10 (.cells (ops0.spl hopZ 0 (BZ.hp B lk2 [] lk4))))
 (Chk (ownB (.cells (lvP B)))
 (Chk (ownB (.cells (ops0.spl hopZ 0 (BZ.hp B lk1 (rdB (lvP B) 0 2112) lk4))))
 (Chk (ownB (.cells (ops0.spl hopZ 0 (BZ.hp B lk2 [] lk4))))
 (Chk (nmB 9 (.cells (lvP B)))
 (Chk (nmB 9 (.cells (ops0.spl hopZ 0 (BZ.hp B lk1 (rdB (lvP B) 0 2112) lk4))))
 (Chk (nmB 9 (.cells (ops0.spl hopZ 0 (BZ.hp B lk2 [] lk4))))
 (Chk (ownB (.cells (lvP B)))
 (Chk (ownB (.cells (ops0.spl hopZ 0 (BZ.hp B lk1 (rdB (lvP B) 0 2112) lk4))))
 (Chk (ownB (.cells (ops0.spl hopZ 0 (BZ.hp B lk2 [] lk4))))
 (Br (ops0.cmp .eql (BZ.er B lk1 (rdB (lvP B) 0 2112) lk4) (Int.ofNat 0))
 (Br (ops0.cmp .eql (BZ.er B lk2 [] lk4) (Int.ofNat 0))
 (Br (ops0.cmp .eql (BZ.er B lk2 (rdB (lvP B) 0 2112) lk4) (Int.ofNat 70))
 (∃ n:Int,((Nth (ops0.spl hopZ 0 (BZ.hp B lk1 (rdB (lvP B) 0 2112) lk4)) 0 (.int .i64 n)) /\
 (Br (ops0.cmp .eql n (Int.ofNat 5))
 (∃ n1:Int,((Nth (ops0.spl hopZ 0 (BZ.hp B lk1 (rdB (lvP B) 0 2112) lk4)) 1 (.int .i64 n1)) /\
 (Br (ops0.cmp .eql n1 (Int.ofNat 9))
 (Q (.bool Bool.false))
 (Q (.bool Bool.false)))))
 (Q (.bool Bool.false)))))
 (Q (.bool Bool.false)))
 (Q (.bool Bool.false)))
 (Q (.bool Bool.false)))))))))))))))))))))))))))))))))))))))
 (Q (.bool Bool.false))))):=by kernel_rfl
end
end Go.Proofs.Vm
