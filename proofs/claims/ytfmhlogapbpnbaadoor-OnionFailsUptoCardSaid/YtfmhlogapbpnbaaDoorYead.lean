/-
  A VERIFIED SYMBOLIC MACHINE, PART Lp: loops.
-/
import Derived.Test.YtfmhlogapbpnbaaDoorYeac
set_option linter.unusedVariables false
set_option linter.unusedSimpArgs false
set_option linter.unusedSectionVars false

namespace Go.Vm
set_option maxRecDepth 100000
noncomputable section
structure Weak(n0:Nat)(fr:Fr)(H:Hl)(fr':Fr)(H':Hl):Prop where
 grow:n0≤H'.length
 does:∀ (ρ:Rho) (w:World),HRel ρ w (fun b=>H[b]?)→∃ ρ',HRel ρ' w (fun b=>H'[b]?)∧Ext n0 ρ w ρ' w∧∀ tmps,FRel ρ w fr tmps→FRel ρ' w fr' tmps
theorem Weak.refl{n0:Nat}{fr:Fr}{H:Hl}(h:n0≤H.length):Weak n0 fr H fr H:=⟨h,fun ρ w hg=>⟨ρ,hg,Ext.refl _ _ _,fun _ h=>h⟩⟩
def forget:List Bool→Fr→Fr
 | true::bs,_::fr => .top::forget bs fr
 | false::bs,x::fr=>x::forget bs fr
 | _,fr=>fr
theorem forget_rel{ρ:Rho}{w:World}:∀ {bs:List Bool} {fr:Fr} {vs:List Value},VRels ρ w fr vs→VRels ρ w (forget bs fr) vs
 | [],fr,vs,h=>by cases fr<;>exact h
 | true::bs,[],vs,h=>h
 | false::bs,[],vs,h=>h
 | true::bs,x::fr,vs,h=>by
  cases vs with
  | nil=>have:=h.len;simp at this
  | cons v vs=>exact .cons (.top v) (forget_rel h.tail)
 | false::bs,x::fr,vs,h=>by
  cases vs with
  | nil=>have:=h.len;simp at this
  | cons v vs=>exact .cons h.head (forget_rel h.tail)
def wkF(ids:List Nat)(bs:List Bool)(fr:Fr):Fr:=forget bs (renL (pickN ids) noView true fr)
def wkH(ids:List Nat)(H:Hl):Hl:=pickH noView ids H
theorem Weak.pick{n0:Nat}{fr:Fr}{H:Hl}(ids:List Nat)(bs:List Bool)(hn:ids.Nodup)(hlt:∀ b,b∈ids→b<H.length)(h0:∀ b,b<n0→ids[b]? = some b) :
  Weak n0 fr H (wkF ids bs fr) (wkH ids H) where
 grow:=by
  simp only[wkH,pickH,List.length_map]
  rcases Nat.eq_zero_or_pos n0 with h|h
  ·omega
  ·have:=(List.getElem?_eq_some_iff.1 (h0 (n0 - 1) (by omega))).1
   omega
 does ρ w hg:=by
  refine⟨pickR ids ρ,hg.pick hn hlt (noView_ok _ _ _ _),⟨Nat.le_refl _,rfl,rfl,rfl,fun _ _ _=>rfl,fun b hb _ => .inl ?_,fun b B F hl => ?_,fun _ _=>rfl⟩,fun tmps h => ?_⟩
  ·simp[pickR,h0 b hb]
  ·obtain⟨b',_,e⟩:=pickR_own hl
   exact .inr ⟨b',F,e⟩
  ·exact forget_rel (rens_rel (fun b c=>pickR_of) (fun _ c B F h=>let ⟨b,_,e⟩:=pickR_own h;⟨b,F,e⟩) (noView_ok _ _ _ _) h)
theorem Weak.forget{n0:Nat}{fr:Fr}{H:Hl}(h:n0≤H.length)(bs:List Bool):Weak n0 fr H (forget bs fr) H:=⟨h,fun ρ w hg=>⟨ρ,hg,Ext.refl _ _ _,fun _ h=>forget_rel h⟩⟩
theorem Goes.post{W:(Exit→Act→World→Prop)→Act→World→Prop}{n0:Nat}{fr fr1 fr2:Fr}{H H1 H2:Hl}{lg lg1:List Nat}{e:Exit}(h:Goes W n0 fr H lg e fr1 H1 lg1)(k:Weak n0 fr1 H1 fr2 H2):Goes W n0 fr H lg e fr2 H2 (List.range n0++lg1) where
 grow:=k.grow
 sub b hb:=List.mem_append_right _ (h.sub b hb)
 keep b hb hn:=absurd (List.mem_append_left _ (List.mem_range.2 hb)) hn
 does ρ w a Q hg hf hQ:=h.does ρ w a Q hg hf fun a' w' ρ' h1 h2 h3 h4=>by
  obtain⟨ρ2,g1,g2,g3⟩:=k.does ρ' w' h1
  exact hQ a' w' ρ2 g1 (g3 _ h2) h3 (h4.trans g2)
theorem Goes.pre{W:(Exit→Act→World→Prop)→Act→World→Prop}{n0:Nat}{fr fr1 fr2:Fr}{H H1 H2:Hl}{lg lg2:List Nat}{e:Exit}(k:Weak n0 fr H fr1 H1)(h:Goes W n0 fr1 H1 lg e fr2 H2 lg2):Goes W n0 fr H lg e fr2 H2 (List.range n0++lg2) where
 grow:=h.grow
 sub b hb:=List.mem_append_right _ (h.sub b hb)
 keep b hb hn:=absurd (List.mem_append_left _ (List.mem_range.2 hb)) hn
 does ρ w a Q hg hf hQ:=by
  obtain⟨ρ1,g1,g2,g3⟩:=k.does ρ w hg
  exact h.does ρ1 w a Q g1 (g3 _ hf) fun a' w' ρ' h1 h2 h3 h4=>hQ a' w' ρ' h1 h2 h3 (g2.trans h4)
theorem Goes.log{W:(Exit→Act→World→Prop)→Act→World→Prop}{n0:Nat}{fr fr1:Fr}{H H1:Hl}{lg lg1 lg2:List Nat}{e:Exit}(h:Goes W n0 fr H lg e fr1 H1 lg1)(hs:∀ b,b∈lg→b∈lg2)
  (hk:∀ b,b<n0→b ∉ lg2→H1[b]? = H[b]?):Goes W n0 fr H lg e fr1 H1 lg2:=⟨h.grow,hs,hk,h.does⟩
def BodyTo(P:Program)(n0:Nat)(b:VC)(fr:Fr)(H:Hl)(ex:Ex)(fr':Fr)(H':Hl):Prop :=
 ∀ c,compile P c=b→∃ lg',Goes (c.wp P) n0 fr H [] (exitOf ex) fr' H' lg'
abbrev OutC:=Ex × Fr × Hl × List Nat
def optC(C:Con):Alg (Option OutC):=stdA (Option OutC) none (conF none C)
def bodyF(bs:List Bool):Ex→Fr→Hl→List Nat→Option OutC:=fun ex fr H _=>some (ex,forget bs fr,H,[])
theorem body_forget{P:Program}{C:Con}(hC:ConOK P C){T:Nat→Option VF}(hT:∀ f vf,T f=some vf→FnOK P f vf){n n0:Nat}{b:VC}{fr fr':Fr}{H H':Hl}{ex:Ex}{bs:List Bool}
  (h:vm (optC C) ops0 T n n0 b fr H [] (bodyF bs)=some (ex,fr',H',[])) (h0:n0≤H.length):BodyTo P n0 b fr H ex fr' H':=by
 intro c hc
 subst hc
 have hfine:(optC C).Fine P (fun x=>x=some (ex,fr',H',[])):=stdA_fine (by simp) (conF_ok (by simp) hC)
 obtain⟨ex1,fr1,H1,lg1,hg,e⟩:=(vm_sound hfine hT n).1 c n0 fr H [] _ h0 h
 unfold bodyF at e
 simp only[Option.some.injEq,Prod.mk.injEq,and_true] at e
 obtain⟨e1,e2,e3⟩:=e
 subst e1;subst e2;subst e3
 exact⟨_,hg.post (Weak.forget hg.grow bs)⟩
def noTab(_:Nat):Option VF:=none
theorem noTab_ok(P:Program):∀ f vf,noTab f=some vf→FnOK P f vf:=fun _ _ h=>by cases h
def tabOne(f:Nat)(vf:VF)(g:Nat):Option VF:=match Nat.beq g f with
 | true=>some vf
 | false=>none
theorem tabOne_ok{P:Program}{f:Nat}{vf:VF}(h:FnOK P f vf):∀ g v,tabOne f vf g=some v→FnOK P g v:=by
 intro g v e
 unfold tabOne at e
 split at e<;>cases e
 rename_i hb
 have:=Nat.eq_of_beq_eq_true hb
 subst this
 exact h
theorem tabOne_self(f:Nat)(vf:VF):tabOne f vf f=some vf:=by simp[tabOne,Nat.beq_refl]
theorem loop_chain{P:Program}{n0:Nat}{b:VC}{ex:Ex}{fr':Fr}{H':Hl}(hex:ex ≠ .norm)(S:Nat→Fr × Hl):∀ (d i:Nat),(∀ j,i≤j→j<i+d→BodyTo P n0 b (S j).1 (S j).2 .norm (S (j+1)).1 (S (j+1)).2) →
  BodyTo P n0 b (S (i+d)).1 (S (i+d)).2 ex fr' H'→∀ lg,LoopTo P n0 b (S i).1 (S i).2 lg ex fr' H' (List.range n0++lg):=by
 have logs:∀ {W n0 fr H lg e fr1 H1 lg1},Goes W n0 fr H [] e fr1 H1 lg1→Goes W n0 fr H lg e fr1 H1 (List.range n0++lg):=by
  intro W n0 fr H lg e fr1 H1 lg1 h
  exact⟨h.grow,fun b hb=>List.mem_append_right _ hb,fun b hb hn=>absurd (List.mem_append_left _ (List.mem_range.2 hb)) hn,h.does⟩
 intro d
 induction d with
 | zero =>
  intro i _ hend lg c hc
  obtain⟨lg1,hg⟩:=hend c hc
  have h1:Goes (LoopWp P c) n0 (S i).1 (S i).2 [] (exitOf ex) fr' H' lg1:=hg.weak fun Q a w hw=>LoopWp.step (wp_mono hw (by
   rintro e a w ⟨rfl,h⟩
   cases ex with
   | norm=>exact absurd rfl hex
   | ret=>exact h
   | exit id=>exact h))
  exact logs h1
 | succ d ih =>
  intro i hround hend lg c hc
  have hl:=ih (i+1) (fun j h1 h2=>hround j (by omega) (by omega)) (by rw[show i+1+d=i+(d+1) by omega]; exact hend) (List.range n0++lg)
  obtain⟨lg1,hg⟩:=hround i (Nat.le_refl _) (by omega) c hc
  have h1:Goes (c.wp P) n0 (S i).1 (S i).2 lg .normal (S (i+1)).1 (S (i+1)).2 (List.range n0++lg):=logs hg
  exact(h1.trans (hl c hc) fun Q a w hw=>LoopWp.step (wp_mono hw (by rintro e a w ⟨rfl,h⟩; exact h))).log (fun b hb=>List.mem_append_right _ hb)
   (fun b hb hn=>absurd (List.mem_append_left _ (List.mem_range.2 hb)) hn)
theorem LoopTo.pre{P:Program}{n0:Nat}{b:VC}{fr fr1 fr':Fr}{H H1 H':Hl}{ex:Ex}(k:Weak n0 fr H fr1 H1)(h:∀ lg,LoopTo P n0 b fr1 H1 lg ex fr' H' (List.range n0++lg)):∀ lg,LoopTo P n0 b fr H lg ex fr' H' (List.range n0++lg) :=
 fun lg c hc=>(Goes.pre k (h lg c hc)).log (fun b hb=>List.mem_append_right _ hb) (fun b hb hn=>absurd (List.mem_append_left _ (List.mem_range.2 hb)) hn)
structure Lent where
 n0:Nat
 b:VC
 fr:Fr
 H:Hl
 ex:Ex
 fr':Fr
 H':Hl
def Lent.OK(P:Program)(e:Lent):Prop:=∀ lg,LoopTo P e.n0 e.b e.fr e.H lg e.ex e.fr' e.H' (List.range e.n0++lg)
def propL(C:Con)(E:Fr→Hl→Option Lent):Alg Prop := { stdA Prop False (conF False C) with
  loop:=fun n0 b fr H lg k u=>match E fr H with
    | some e=>n0=e.n0∧b=e.b∧fr=e.fr∧H=e.H∧k e.ex e.fr' e.H' (List.range e.n0++lg)
    | none=>u () }
theorem propL_fine{P:Program}{C:Con}(hC:ConOK P C){E:Fr→Hl→Option Lent}(hE:∀ fr H e,E fr H=some e→e.OK P):(propL C E).Fine P (fun p=>p) :=
  have h:=stdA_fine (R:=Prop) (ff:=False) (holds:=fun p=>p) (P:=P) (fun h=>h) (conF_ok (ff:=False) (fun h=>h) hC)
  { fail:=h.fail,chk:=h.chk,br:=h.br,get:=h.get,flo:=h.flo,fit:=h.fit,ints:=h.ints,byts:=h.byts,call:=h.call
    loop:=fun n0 b fr H lg k u _ hh=>by
      have hh:match E fr H with
        | some e=>n0=e.n0∧b=e.b∧fr=e.fr∧H=e.H∧k e.ex e.fr' e.H' (List.range e.n0++lg)
        | none=>u ():=hh
      split at hh
      · rename_i e he
        obtain⟨rfl,rfl,rfl,rfl,hk⟩:=hh
        exact .inr ⟨_,_,_,_,hE _ _ e he lg,hk⟩
      · exact .inl hh }
theorem call_loop{P:Program}{C:Con}(hC:ConOK P C){E:Fr→Hl→Option Lent}(hE:∀ fr H e,E fr H=some e→e.OK P){T:Nat→Option VF}(hT:∀ f vf,T f=some vf→FnOK P f vf){f n:Nat}{vf:VF}(hf:T f=some vf){vals:List AV}{H H0:Hl}{r0:AV}(m:Nat)(lg0:List Nat)
  (h:vcall (propL C E) ops0 T n vf vals H (fun r H lg=>cutK m r H lg=some (r0,H0,[]))) (h1:H.length≤m) (hk:∀ b,b<H.length→b ∉ lg0→H0[b]? = H[b]?):CallTo P f vals H r0 H0 lg0:=by
 obtain⟨r,H',lg,hc,e⟩:=vcall_sound (propL_fine hC hE) hT (hT f vf hf) (holds:=fun p=>p) h
 unfold cutK at e
 split at e<;>cases e
 rename_i hm
 rw[size_eq] at hm
 exact hc.cut m h1 (Nat.le_of_ble_eq_true hm) hk
end
end Go.Vm

namespace Go.Vm
set_option maxRecDepth 100000
noncomputable section
def flat:AV→Bool
 | .int _ _ | .bool _ | .flt _ _ | .str _ | .nilp | .nils | .nilf | .nili | .top=>true
 | _=>false
def flatL(cs:List AV):Prop:=∀ a,a∈cs→flat a=true
theorem ren_flat{σ:Nat→Option Nat}{φ:Nat→Option (List AV)}{kp:Bool}{a:AV}(h:flat a=true):ren σ φ kp a=a:=by
 cases a<;>first|rfl|cases h
theorem renL_flat{σ:Nat→Option Nat}{φ:Nat→Option (List AV)}{kp:Bool}{cs:List AV}(h:flatL cs):renL σ φ kp cs=cs:=by
 induction cs with
 | nil=>rfl
 | cons x cs ih=>simp only[renL,ren_flat (h x (by simp)),ih (fun a ha=>h a (by simp[ha]))]
theorem flatL_ints(k:IntKind)(l:List Int):flatL (l.map (AV.int k)):=by
 intro a ha
 obtain⟨n,_,rfl⟩:=List.mem_map.1 ha
 rfl
theorem flatL_append{xs ys:List AV}(h:flatL xs)(k:flatL ys):flatL (xs++ys):=by
 intro a ha
 rcases List.mem_append.1 ha with ha|ha
 ·exact h a ha
 ·exact k a ha
theorem CallTo.one{P:Program}{f:Nat}{vals vals0:List AV}{r:AV}{cs cs':List AV}{H:Hl}{b:Nat}{lg:List Nat}(hc:CallTo P f vals0 [.cells cs] r [.cells cs'] lg)(hb:H[b]? = some (.cells cs))(h1:flatL cs)(h2:flatL cs')
  (h3:∀ φ,renL (pickN [b]) φ true vals=vals0):CallTo P f vals H (backV [b] H.length r) (put H b (.cells cs')) [b]:=by
 have hbl:=(List.getElem?_eq_some_iff.1 hb).1
 have e1:pickH (viewF H [b] 0) [b] H = [.cells cs]:=by
  simp only[pickH,List.map_cons,List.map_nil,hb,renB,renL_flat h1]
 have hc':CallTo P f (renL (pickN [b]) (viewF H [b] 0) true vals) (pickH (viewF H [b] 0) [b] H) r [.cells cs'] [0]:=by
  rw[e1,h3]
  exact⟨hc.real,hc.grow,fun i hi hn=>(by simp at hi hn;omega),hc.does⟩
 have h:=CallTo.frame [b] 0 (by simp) (fun i hi=>by simp at hi;subst hi;exact hbl) hc' (fun i c hp hn=>by
  have:=(placeIn_some hp).2
  rw[Nat.sub_zero] at this
  have:=(List.getElem?_eq_some_iff.1 this).1
  simp at this hn
  omega)
 have e2:backH [b] H [.cells cs']=put H b (.cells cs'):=by
  apply List.ext_getElem?
  intro i
  rw[backH_get,put_eq]
  by_cases hi:i<H.length
  ·rw[if_pos hi]
   by_cases hib:b=i
   ·subst hib
    have hp:placeIn b 0 [b]=some 0:=by simp[placeIn,Nat.beq_refl]
    rw[hp]
    simp only[List.getElem?_cons_zero,Option.getD_some,backB,renB,renL_flat h2]
    rw[List.getElem?_set_self hi]
   ·have hp:placeIn i 0 [b]=none:=by
     have:Nat.beq b i=false:=by
      cases h:Nat.beq b i
      ·rfl
      ·exact absurd (Nat.eq_of_beq_eq_true h) hib
     simp[placeIn,this]
    rw[hp,List.getElem?_set_ne hib]
  ·rw[if_neg hi]
   have t1:([Blk.cells cs']:Hl)[[b].length+(i - H.length)]? = none:=List.getElem?_eq_none (by simp)
   have t2:(H.set b (.cells cs'))[i]? = none:=List.getElem?_eq_none (by rw[List.length_set]; omega)
   rw[t1,t2]
   rfl
 have e3:backL [b] [0] = [b]:=by simp[backL]
 rw[e2,e3] at h
 exact h
theorem CallTo.look{P:Program}{f:Nat}{vals vals0:List AV}{r:AV}{cs:List AV}{H:Hl}{b:Nat}{lg:List Nat}(hc:CallTo P f vals0 [.cells cs] r [.cells cs] lg)(hb:H[b]? = some (.cells cs))(h1:flatL cs)
  (h3:∀ φ,renL (pickN [b]) φ true vals=vals0):CallTo P f vals H (backV [b] H.length r) H []:=by
 have h:=CallTo.one hc hb h1 h1 h3
 have e:put H b (.cells cs)=H:=by
  rw[put_eq]
  apply List.ext_getElem?
  intro i
  by_cases hi:b=i
  ·subst hi
   rw[List.getElem?_set_self (List.getElem?_eq_some_iff.1 hb).1,hb]
  ·rw[List.getElem?_set_ne hi]
 rw[e] at h
 exact⟨h.real,h.grow,fun _ _ _=>rfl,h.does⟩
theorem CallTo.three{P:Program}{f:Nat}{vals vals0:List AV}{r:AV}{cs cs' xs ys:List AV}{H:Hl}{b c d:Nat}{lg:List Nat}(hc:CallTo P f vals0 [.cells cs,.cells xs,.cells ys] r [.cells cs',.cells xs,.cells ys] lg)
  (hb:H[b]? = some (.cells cs)) (hx:H[c]? = some (.cells xs)) (hy:H[d]? = some (.cells ys)) (hbc:b≠c) (hbd:b≠d) (hcd:c≠d) (h1:flatL cs) (h2:flatL cs') (hxf:flatL xs) (hyf:flatL ys)
  (h3:∀ φ,renL (pickN [b,c,d]) φ true vals=vals0):CallTo P f vals H (backV [b,c,d] H.length r) (put H b (.cells cs')) [b]:=by
 have lb:=(List.getElem?_eq_some_iff.1 hb).1
 have lc:=(List.getElem?_eq_some_iff.1 hx).1
 have ld:=(List.getElem?_eq_some_iff.1 hy).1
 have beqf:∀ {x y:Nat},x≠y→Nat.beq x y=false:=by
  intro x y h
  cases e:Nat.beq x y
  ·rfl
  ·exact absurd (Nat.eq_of_beq_eq_true e) h
 have pb:placeIn b 0 [b,c,d]=some 0:=by simp[placeIn,Nat.beq_refl]
 have pc:placeIn c 0 [b,c,d]=some 1:=by simp[placeIn,Nat.beq_refl,beqf hbc]
 have pd:placeIn d 0 [b,c,d]=some 2:=by simp[placeIn,Nat.beq_refl,beqf hbd,beqf hcd]
 have e1:pickH (viewF H [b,c,d] 0) [b,c,d] H = [.cells cs,.cells xs,.cells ys]:=by
  simp only[pickH,List.map_cons,List.map_nil,hb,hx,hy,renB,renL_flat h1,renL_flat hxf,renL_flat hyf]
 have hc':CallTo P f (renL (pickN [b,c,d]) (viewF H [b,c,d] 0) true vals) (pickH (viewF H [b,c,d] 0) [b,c,d] H) r [.cells cs',.cells xs,.cells ys] [0]:=by
  rw[e1,h3]
  refine⟨hc.real,hc.grow,fun i hi hn => ?_,hc.does⟩
  match i,hi,hn with
  | 0,_,hn=>exact absurd (List.mem_singleton.2 rfl) hn
  | 1,_,_=>rfl
  | 2,_,_=>rfl
 have key:∀ i k,placeIn i 0 [b,c,d]=some k→(k=0∧i=b)∨(k=1∧i=c)∨(k=2∧i=d):=by
  intro i k hp
  have:=(placeIn_some hp).2
  rw[Nat.sub_zero] at this
  match k,this with
  | 0,h=>simp at h;exact .inl ⟨rfl,h.symm⟩
  | 1,h=>simp at h;exact .inr (.inl ⟨rfl,h.symm⟩)
  | 2,h=>simp at h;exact .inr (.inr ⟨rfl,h.symm⟩)
  | k+3,h=>simp at h
 have h:=CallTo.frame [b,c,d] 0 (by simp[hbc,hbd,hcd]) (fun i hi=>by
   simp only[List.mem_cons,List.not_mem_nil,or_false] at hi
   rcases hi with rfl|rfl|rfl<;>assumption) hc' (fun i k hp hn=>by
  rcases key i k hp with ⟨rfl,rfl⟩|⟨rfl,rfl⟩|⟨rfl,rfl⟩
  ·exact absurd (List.mem_singleton.2 rfl) hn
  ·simp[backB,renB,renL_flat hxf,hx]
  ·simp[backB,renB,renL_flat hyf,hy])
 have e2:backH [b,c,d] H [.cells cs',.cells xs,.cells ys]=put H b (.cells cs'):=by
  apply List.ext_getElem?
  intro i
  rw[backH_get,put_eq]
  by_cases hi:i<H.length
  ·rw[if_pos hi]
   cases hp:placeIn i 0 [b,c,d] with
   | some k =>
    rcases key i k hp with ⟨rfl,rfl⟩|⟨rfl,rfl⟩|⟨rfl,rfl⟩
    ·rw[List.getElem?_set_self hi]
     simp[backB,renB,renL_flat h2]
    ·rw[List.getElem?_set_ne hbc,hx]
     simp[backB,renB,renL_flat hxf]
    ·rw[List.getElem?_set_ne hbd,hy]
     simp[backB,renB,renL_flat hyf]
   | none =>
    have:b≠i:=fun e=>by subst e;rw[pb] at hp;cases hp
    rw[List.getElem?_set_ne this]
  ·rw[if_neg hi]
   have t1:([Blk.cells cs',.cells xs,.cells ys]:Hl)[[b,c,d].length+(i - H.length)]? = none:=List.getElem?_eq_none (by simp)
   have t2:(H.set b (.cells cs'))[i]? = none:=List.getElem?_eq_none (by rw[List.length_set]; omega)
   rw[t1,t2]
   rfl
 have e3:backL [b,c,d] [0] = [b]:=by simp[backL]
 rw[e2,e3] at h
 exact h
theorem CallTo.new{P:Program}{f:Nat}{vals:List AV}{o:Nat}{cs:List AV}{H:Hl}{lg:List Nat}(hc:CallTo P f vals [] (.ptr 0 o) [.cells cs] lg)(h1:flatL cs)(h3:∀ φ,renL (pickN []) φ true vals=vals) :
  CallTo P f vals H (.ptr (size H) o) (join H [.cells cs]) []:=by
 have hc':CallTo P f (renL (pickN []) (viewF H [] 0) true vals) (pickH (viewF H [] 0) [] H) (.ptr 0 o) [.cells cs] lg:=by
  rw[h3]; exact hc
 have h:=CallTo.frame (H:=H) (vals:=vals) [] 0 List.nodup_nil (fun b hb=>by cases hb) hc' (fun b c hp=>by cases hp)
 have e1:backH [] H [.cells cs]=join H [.cells cs]:=by
  apply List.ext_getElem?
  intro b
  rw[backH_get,join_eq]
  by_cases hb:b<H.length
  ·rw[if_pos hb,List.getElem?_append_left hb]; rfl
  ·rw[if_neg hb,List.getElem?_append_right (by omega)]
   simp only[List.length_nil,Nat.zero_add]
   cases b - H.length with
   | zero=>simp[backB,renB,renL_flat h1]
   | succ d=>simp
 have e2:backL [] lg = []:=by simp[backL]
 have e3:backV [] H.length (.ptr 0 o) = .ptr (size H) o:=by simp[backV,ren,backN,size_eq]
 rw[e1,e2,e3] at h
 exact h
end
end Go.Vm

namespace Go.Vm
set_option maxRecDepth 100000
noncomputable section
def Chk(b:Bool)(r:Prop):Prop:=match b with
 | true=>r
 | false=>False
def Br(b:Bool)(r s:Prop):Prop:=match b with
 | true=>r
 | false=>s
def Nth(cs:List AV)(i:Nat)(v:AV):Prop:=nth cs i=some v
def VCis(b c:VC):Prop:=b=c
theorem Chk.mk{b:Bool}{r:Prop}(h:b=true)(k:r):Chk b r:=by subst h;exact k
theorem Chk.out{b:Bool}{r:Prop}(h:Chk b r):b=true∧r:=by
 cases b with
 | true=>exact⟨rfl,h⟩
 | false=>exact h.elim
theorem Br.mk{b:Bool}{r s:Prop}(h:b=true→r)(k:b=false→s):Br b r s:=by
 cases b with
 | true=>exact h rfl
 | false=>exact k rfl
theorem Br.t{b:Bool}{r s:Prop}(h:b=true)(k:r):Br b r s:=by subst h;exact k
theorem Br.f{b:Bool}{r s:Prop}(h:b=false)(k:s):Br b r s:=by subst h;exact k
theorem Nth.mk{cs:List AV}{i:Nat}{v:AV}(h:cs[i]? = some v):Nth cs i v:=by unfold Nth;rw[nth_eq]; exact h
inductive CRes where
 | ok (r:AV) (H:Hl) (lg:List Nat)
 | cond (c:Bool) (a b:CRes)
def CRes.thn(k:AV→Hl→List Nat→Prop):CRes→Prop
 | .ok r H lg=>k r H lg
 | .cond c a b=>match c with
  | true=>a.thn k
  | false=>b.thn k
def CRes.fin:CRes→AV × Hl × List Nat
 | .ok r H lg=>(r,H,lg)
 | .cond c a b=>match c with
  | true=>a.fin
  | false=>b.fin
theorem CRes.thn_fin{k:AV→Hl→List Nat→Prop}:∀ {x:CRes},x.thn k→k x.fin.1 x.fin.2.1 x.fin.2.2
 | .ok r H lg,h=>h
 | .cond true a b,h=>CRes.thn_fin (x:=a) h
 | .cond false a b,h=>CRes.thn_fin (x:=b) h
inductive LRes where
 | ok (ex:Ex) (fr:Fr) (H:Hl)
 | cond (c:Bool) (a b:LRes)
def LRes.thn(k:Ex→Fr→Hl→Prop):LRes→Prop
 | .ok ex fr H=>k ex fr H
 | .cond c a b=>match c with
  | true=>a.thn k
  | false=>b.thn k
def LRes.fin:LRes→Ex × Fr × Hl
 | .ok ex fr H=>(ex,fr,H)
 | .cond c a b=>match c with
  | true=>a.fin
  | false=>b.fin
theorem LRes.thn_fin{k:Ex→Fr→Hl→Prop}:∀ {x:LRes},x.thn k→k x.fin.1 x.fin.2.1 x.fin.2.2
 | .ok ex fr H,h=>h
 | .cond true a b,h=>LRes.thn_fin (x:=a) h
 | .cond false a b,h=>LRes.thn_fin (x:=b) h
abbrev CnF:=Nat→List AV→Hl→Option (Prop × CRes)
def CnOK(P:Program)(C:CnF):Prop:=∀ f vals H p x,C f vals H=some (p,x)→p→CallTo P f vals H x.fin.1 x.fin.2.1 x.fin.2.2
abbrev LnF:=Nat→VC→Fr→Hl→Option (Prop × LRes)
def LnOK(P:Program)(E:LnF):Prop:=∀ n0 b fr H p x,E n0 b fr H=some (p,x)→n0≤H.length→p→∀ lg,LoopTo P n0 b fr H lg x.fin.1 x.fin.2.1 x.fin.2.2 (List.range n0++lg)
def noCn:CnF:=fun _ _ _=>none
theorem noCn_ok(P:Program):CnOK P noCn:=fun _ _ _ _ _ h=>by cases h
def noLn:LnF:=fun _ _ _ _=>none
theorem noLn_ok(P:Program):LnOK P noLn:=fun _ _ _ _ _ _ h=>by cases h
def cnOr(C D:CnF):CnF:=fun f vals H=>match C f vals H with
 | some x=>some x
 | none=>D f vals H
theorem cnOr_ok{P:Program}{C D:CnF}(h:CnOK P C)(k:CnOK P D):CnOK P (cnOr C D):=by
 intro f vals H p x e hp
 unfold cnOr at e
 split at e
 ·rename_i y hy;cases e;exact h _ _ _ _ _ hy hp
 ·exact k _ _ _ _ _ e hp
def getV(kd:Kd)(cs:List AV)(i:Nat)(k:AV→Prop):Prop :=
 match kd with
 | .any=>match nth cs i with
  | some v=>k v
  | none=>False
 | .int kd=>∃ n,Nth cs i (.int kd n)∧k (.int kd n)
 | .bool=>∃ b,Nth cs i (.bool b)∧Br b (k (.bool true)) (k (.bool false))
 | .str=>∃ s,Nth cs i (.str s)∧k (.str s)
 | .flt kd=>∃ n,Nth cs i (.flt kd n)∧k (.flt kd n)
 | .slc=>∃ ds off len cap e,Nth cs i (.ros ds off len cap e)∧k (.ros ds off len cap e)
theorem Nth.out{cs:List AV}{i:Nat}{v:AV}(h:Nth cs i v):cs[i]? = some v:=by unfold Nth at h;rw[nth_eq] at h;exact h
def kdNo:Kd→Bool:=fun _=>false
def kdYes:Kd→Bool:=fun _=>true
def kdFit:Kd→Bool:=fun k=>match k with
 | .bool=>true
 | _=>false
def vcA(g:Kd→Bool)(C:CnF)(E:LnF):Alg Prop where
 fail:=False
 chk b r:=match b with
  | true=>r
  | false=>False
 br b r s:=match b with
  | true=>r
  | false=>s
 get kd cs i k:=match g kd with
  | true=>getV kd cs i k
  | false=>match nth cs i with
   | some v=>k v
   | none=>False
 flo o k:=∃ r,o=some r∧k r
 fit l n c r s:=match g .any with
  | true=>s
  | false=>match g .bool with
   | false=>s
   | true=>match Nat.ble (l+n) c with
    | true=>r
    | false=>s
 ints kd cs k:=∃ l:List Int,cs=l.map (AV.int kd)∧k l
 byts cs k:=∃ l:List UInt8,cs=l.map (fun b=>AV.int .u8 b.toNat)∧k l
 call f vals H k:=match C f vals H with
  | some (p,x)=>p∧x.thn k
  | none=>False
 loop n0 b fr H lg k u:=match E n0 b fr H with
  | some (p,x)=>p∧x.thn fun ex fr H=>k ex fr H (List.range n0++lg)
  | none=>u ()
theorem vcA_fine{P:Program}{g:Kd→Bool}{C:CnF}(hC:CnOK P C){E:LnF}(hE:LnOK P E):(vcA g C E).Fine P (fun p=>p) where
 fail h:=h
 chk b r h:=by
  cases b with
  | true=>exact⟨rfl,h⟩
  | false=>exact h.elim
 br b r s h:=by
  cases b with
  | true=>exact .inl ⟨rfl,h⟩
  | false=>exact .inr ⟨rfl,h⟩
 get kd cs i k h:=by
  have any:(match nth cs i with
   | some v=>k v
   | none=>False)→∃ v,cs[i]? = some v∧k v:=by
   intro h
   rw[nth_eq] at h
   split at h
   ·rename_i v e;exact⟨v,e,h⟩
   ·exact h.elim
  have h:(match g kd with
   | true=>getV kd cs i k
   | false=>match nth cs i with
    | some v=>k v
    | none=>False):=h
  split at h
  ·cases kd with
   | any=>exact any h
   | int kd=>obtain⟨n,h1,h2⟩:=h;exact⟨_,h1.out,h2⟩
   | bool =>
    obtain⟨b,h1,h2⟩:=h
    cases b with
    | true=>exact⟨_,h1.out,h2⟩
    | false=>exact⟨_,h1.out,h2⟩
   | str=>obtain⟨n,h1,h2⟩:=h;exact⟨_,h1.out,h2⟩
   | flt kd=>obtain⟨n,h1,h2⟩:=h;exact⟨_,h1.out,h2⟩
   | slc=>obtain⟨a,b,c,d,e,h1,h2⟩:=h;exact⟨_,h1.out,h2⟩
  ·exact any h
 flo o k h:=h
 fit l n c r s h:=by
  have h:(match g .any with
   | true=>s
   | false=>match g .bool with
    | false=>s
    | true=>match Nat.ble (l+n) c with
     | true=>r
     | false=>s):=h
  split at h
  ·exact .inr h
  ·split at h
   ·exact .inr h
   ·split at h
    ·rename_i hb;exact .inl ⟨Nat.le_of_ble_eq_true hb,h⟩
    ·exact .inr h
 ints kd cs k h:=h
 byts cs k h:=h
 call f vals H k h:=by
  have h:(match C f vals H with
   | some (p,x)=>p∧x.thn k
   | none=>False):=h
  split at h
  ·rename_i p x e
   exact⟨_,_,_,hC _ _ _ _ _ e h.1,CRes.thn_fin h.2⟩
  ·exact h.elim
 loop n0 b fr H lg k u hn h:=by
  have h:(match E n0 b fr H with
   | some (p,x)=>p∧x.thn fun ex fr H=>k ex fr H (List.range n0++lg)
   | none=>u ()):=h
  split at h
  ·rename_i p x e
   exact .inr ⟨_,_,_,_,hE _ _ _ _ _ _ e hn h.1 lg,LRes.thn_fin h.2⟩
  ·exact .inl h
theorem call_vcx{P:Program}{g:Kd→Bool}{C:CnF}(hC:CnOK P C){E:LnF}(hE:LnOK P E){T:Nat→Option VF}(hT:∀ f vf,T f=some vf→FnOK P f vf){f n:Nat}{vf:VF}(hf:T f=some vf){vals:List AV}{H:Hl}
  {Q:AV→Hl→List Nat→Prop} (h:vcall (vcA g C E) ops0 T n vf vals H Q):∃ r H0 lg,CallTo P f vals H r H0 lg∧Q r H0 lg :=
 vcall_sound (vcA_fine hC hE) hT (hT f vf hf) (holds:=fun p=>p) h
theorem call_x{P:Program}{g:Kd→Bool}{C:CnF}(hC:CnOK P C){E:LnF}(hE:LnOK P E){T:Nat→Option VF}(hT:∀ f vf,T f=some vf→FnOK P f vf){f n:Nat}{vf:VF}(hf:T f=some vf){vals:List AV}{H:Hl}
  {r0:AV} {H0:Hl} {lg0:List Nat} (h:vcall (vcA g C E) ops0 T n vf vals H fun r H' lg=>r=r0∧H'=H0∧lg=lg0):CallTo P f vals H r0 H0 lg0:=by
 obtain⟨r,H',lg,hc,e1,e2,e3⟩:=call_vcx hC hE hT hf h
 subst e1;subst e2;subst e3
 exact hc
def endN(m:AV→Nat)(Q:AV→Hl→Prop):AV→Hl→List Nat→Prop:=fun r H _=>match Nat.ble (m r) (size H) with
 | true=>Q r (cutH (m r) H)
 | false=>False
theorem call_n{P:Program}{g:Kd→Bool}{C:CnF}(hC:CnOK P C){E:LnF}(hE:LnOK P E){T:Nat→Option VF}(hT:∀ f vf,T f=some vf→FnOK P f vf){f n:Nat}{vf:VF}(hf:T f=some vf){vals:List AV}{H:Hl}
  {m:AV→Nat} {r0:AV} {H0:Hl} (lg0:List Nat) (h:vcall (vcA g C E) ops0 T n vf vals H (endN m fun r H'=>r=r0∧H'=H0)) (h1:H.length≤m r0) (hr:cutV (m r0) r0=r0) (hk:∀ b,b<H.length→b ∉ lg0→H0[b]? = H[b]?) :
  CallTo P f vals H r0 H0 lg0:=by
 obtain⟨r,H',lg,hc,e⟩:=vcall_sound (vcA_fine hC hE) hT (hT f vf hf) (holds:=fun p=>p) h
 unfold endN at e
 split at e
 ·rename_i hm
  obtain⟨e1,e2⟩:=e
  subst e1
  rw[size_eq] at hm
  have:=hc.cut (m r) h1 (Nat.le_of_ble_eq_true hm) (lg0:=lg0) (by rw[e2]; exact hk)
  rw[hr,e2] at this
  exact this
 ·exact e.elim
def idsOK(n0:Nat)(ids:List Nat)(sz:Nat):Bool:=decide (ids.Nodup) && (ids.all fun b=>Nat.blt b sz) && (List.range n0).all fun b=>match nth ids b with
 | some c=>Nat.beq c b
 | none=>false
def bodyE(n0:Nat)(ids:Ex→Nat→List Nat)(bs:List Bool)(Q:Ex→Fr→Hl→Prop):Ex→Fr→Hl→List Nat→Prop:=fun ex fr H _ =>
 match idsOK n0 (ids ex (size H)) (size H) with
 | true=>Q ex (wkF (ids ex (size H)) bs fr) (wkH (ids ex (size H)) H)
 | false=>False
theorem idsOK_out{n0:Nat}{ids:List Nat}{sz:Nat}(h:idsOK n0 ids sz=true):ids.Nodup∧(∀ b,b∈ids→b<sz)∧∀ b,b<n0→ids[b]? = some b:=by
 unfold idsOK at h
 simp only[Bool.and_eq_true,decide_eq_true_eq,List.all_eq_true,List.mem_range] at h
 obtain⟨⟨h1,h2⟩,h3⟩:=h
 refine⟨h1,fun b hb=>(blt_iff _ _).1 (h2 b hb),fun b hb => ?_⟩
 have:=h3 b hb
 rw[nth_eq] at this
 split at this
 ·rename_i c e
  rw[e,Nat.eq_of_beq_eq_true this]
 ·cases this
theorem body_vc{P:Program}{g:Kd→Bool}{C:CnF}(hC:CnOK P C){E:LnF}(hE:LnOK P E){T:Nat→Option VF}(hT:∀ f vf,T f=some vf→FnOK P f vf){n n0:Nat}{b:VC}{fr fr0:Fr}{H H0:Hl}{ex0:Ex}{ids:Ex→Nat→List Nat}{bs:List Bool}
  (h:vm (vcA g C E) ops0 T n n0 b fr H [] (bodyE n0 ids bs fun ex fr H=>ex=ex0∧fr=fr0∧H=H0)) (h0:n0≤H.length):BodyTo P n0 b fr H ex0 fr0 H0:=by
 intro c hc
 subst hc
 obtain⟨ex,fr1,H1,lg1,hg,e⟩:=(vm_sound (vcA_fine hC hE) hT n).1 c n0 fr H [] _ h0 h
 have e:(match idsOK n0 (ids ex (size H1)) (size H1) with
  | true=>ex=ex0∧wkF (ids ex (size H1)) bs fr1=fr0∧wkH (ids ex (size H1)) H1=H0
  | false=>False):=e
 split at e
 ·rename_i hi
  rw[size_eq] at hi e
  obtain⟨i1,i2,i3⟩:=idsOK_out hi
  obtain⟨e1,e2,e3⟩:=e
  subst e1;subst e2;subst e3
  exact⟨_,hg.post (Weak.pick _ bs i1 i2 i3)⟩
 ·exact e.elim
def bodyX(bs:List Bool)(Q:Ex→Fr→Hl→Prop):Ex→Fr→Hl→List Nat→Prop:=fun ex fr H _=>Q ex (forget bs fr) H
theorem body_x{P:Program}{g:Kd→Bool}{C:CnF}(hC:CnOK P C){E:LnF}(hE:LnOK P E){T:Nat→Option VF}(hT:∀ f vf,T f=some vf→FnOK P f vf){n n0:Nat}{b:VC}{fr fr0:Fr}{H H0:Hl}{ex0:Ex}{bs:List Bool}
  (h:vm (vcA g C E) ops0 T n n0 b fr H [] (bodyX bs fun ex fr H=>ex=ex0∧fr=fr0∧H=H0)) (h0:n0≤H.length):BodyTo P n0 b fr H ex0 fr0 H0:=by
 intro c hc
 subst hc
 obtain⟨ex,fr1,H1,lg1,hg,e1,e2,e3⟩:=(vm_sound (vcA_fine hC hE) hT n).1 c n0 fr H [] _ h0 h
 subst e1;subst e2;subst e3
 exact⟨_,hg.post (Weak.forget hg.grow bs)⟩
def VLe(a b:AV):Prop:=∀ ρ w v,VRel ρ w a v→VRel ρ w b v
theorem VLe.refl(a:AV):VLe a a:=fun _ _ _ h=>h
theorem VLe.top(a:AV):VLe a .top:=fun _ _ v _ => .top v
theorem VLe.nils:VLe .nils (.ros [] 0 0 0 true):=fun ρ w v h=>by
 rw[inv_nils h]
 exact .ros [] 0 0 0 true 0 0 none 0 [] (fun h=>absurd rfl h) (fun h=>absurd rfl h) rfl (by simp) (by simp) (by simp) (Nat.le_refl _) (Nat.le_refl _) (fun _=>rfl) (fun h=>absurd rfl h)
def FLe(fr fr':Fr):Prop:=fr.length=fr'.length∧∀ (i:Nat) (a b:AV),fr[i]? = some a→fr'[i]? = some b→VLe a b
theorem Weak.le{n0:Nat}{fr fr':Fr}{H:Hl}(h:n0≤H.length)(k:FLe fr fr'):Weak n0 fr H fr' H :=
 ⟨h,fun ρ w hg=>⟨ρ,hg,Ext.refl _ _ _,fun tmps hf=>⟨hf.len.trans k.1,fun i a v ha hv=>by
  have hi:i<fr.length:=by rw[k.1]; exact(List.getElem?_eq_some_iff.1 ha).1
  exact k.2 i fr[i] a (by simp[hi]) ha ρ w v (hf.at_ i fr[i] v (by simp[hi]) hv)⟩⟩⟩
theorem Weak.trans{n0:Nat}{fr fr1 fr2:Fr}{H H1 H2:Hl}(h:Weak n0 fr H fr1 H1)(k:Weak n0 fr1 H1 fr2 H2):Weak n0 fr H fr2 H2 :=
 ⟨k.grow,fun ρ w hg=>by
  obtain⟨ρ1,g1,g2,g3⟩:=h.does ρ w hg
  obtain⟨ρ2,k1,k2,k3⟩:=k.does ρ1 w g1
  exact⟨ρ2,k1,g2.trans k2,fun t ht=>k3 t (g3 t ht)⟩⟩
end
end Go.Vm

namespace Go.Vm
set_option maxRecDepth 100000
noncomputable section
theorem i64_wrap{n:Int}(h0 : -9223372036854775808≤n)(h:n<9223372036854775808):IntKind.i64.wrap n=n:=IntWalk.i64_in n (by omega)
theorem u8_wrap{n:Int}(h0:0≤n)(h:n<256):IntKind.u8.wrap n=n:=by
 simp[IntKind.wrap,IntKind.bits,IntKind.signed]; omega
theorem u64_wrap{n:Int}(h0:0≤n)(h:n<18446744073709551616):IntKind.u64.wrap n=n:=by
 simp[IntKind.wrap,IntKind.bits,IntKind.signed]; omega
theorem nAdd{a b:Nat}(h:a+b<9223372036854775808):ops0.bin .add .i64 (Int.ofNat a) (Int.ofNat b)=Int.ofNat (a+b):=by
 show IntKind.i64.wrap (Int.ofNat a+Int.ofNat b)=_
 rw[i64_wrap (by simp;omega) (by simp;omega)]; rfl
theorem nSub{a b:Nat}(h:b≤a)(h2:a<9223372036854775808):ops0.bin .sub .i64 (Int.ofNat a) (Int.ofNat b)=Int.ofNat (a - b):=by
 show IntKind.i64.wrap (Int.ofNat a - Int.ofNat b)=_
 rw[i64_wrap (by simp;omega) (by simp;omega)]; simp;omega
theorem nMul{a b:Nat}(h:a*b<9223372036854775808):ops0.bin .mul .i64 (Int.ofNat a) (Int.ofNat b)=Int.ofNat (a*b):=by
 have h':(Int.ofNat a*Int.ofNat b)=Int.ofNat (a*b):=rfl
 show IntKind.i64.wrap (Int.ofNat a*Int.ofNat b)=_
 rw[h',i64_wrap (by simp;omega) (by simp only[Int.ofNat_eq_natCast]; omega)]
theorem nQuo{a b:Nat}(h:a<9223372036854775808):ops0.bin .quo .i64 (Int.ofNat a) (Int.ofNat b)=Int.ofNat (a / b):=by
 have h2:a / b≤a:=Nat.div_le_self a b
 show IntKind.i64.wrap ((Int.ofNat a).tdiv (Int.ofNat b))=_
 have e:(Int.ofNat a).tdiv (Int.ofNat b)=Int.ofNat (a / b):=rfl
 rw[e]
 generalize a / b=q at h2 ⊢
 exact i64_wrap (by simp only[Int.ofNat_eq_natCast]; omega) (by simp only[Int.ofNat_eq_natCast]; omega)
theorem nRem{a b:Nat}:ops0.bin .rem .i64 (Int.ofNat a) (Int.ofNat b)=Int.ofNat (a % b):=rfl
theorem nInr{a n:Nat}:ops0.inr (Int.ofNat a) n=decide (a<n):=by
 show(decide (0≤Int.ofNat a) && decide (Int.ofNat a<(n:Int)))=_
 simp
theorem nInb{a n:Nat}:ops0.inb (Int.ofNat a) n=decide (a≤n):=by
 show(decide (0≤Int.ofNat a) && decide (Int.ofNat a≤(n:Int)))=_
 simp
theorem nAdr{o a s:Nat}:ops0.adr o (Int.ofNat a) s=o+a*s:=rfl
theorem nNn{a:Nat}:ops0.nn (Int.ofNat a)=true:=by
 show decide (0≤Int.ofNat a)=true
 simp
theorem nNz{a:Nat}(h:a≠0):ops0.nz (Int.ofNat a)=true:=by
 show(Int.ofNat a != 0)=true
 simp;omega
theorem nNat{a:Nat}:ops0.nat (Int.ofNat a)=a:=rfl
theorem nOfn{a:Nat}:ops0.ofn a=Int.ofNat a:=rfl
theorem nPlus{a b:Nat}:ops0.add a b=a+b:=rfl
theorem nMinus{a b:Nat}:ops0.sub a b=a - b:=rfl
theorem nTimes{a b:Nat}:ops0.mul a b=a*b:=rfl
theorem nLe{a b:Nat}:ops0.le a b=decide (a≤b):=rfl
theorem nLt{a b:Nat}:ops0.lt a b=decide (a<b):=rfl
theorem nEq{a b:Nat}:ops0.eq a b=decide (a=b):=by
 show(a == b)=_
 by_cases h:a=b<;>simp[h]
theorem nLen{cs:List AV}:ops0.len cs=cs.length:=rfl
theorem nExt{cs:List AV}{o n:Nat}:ops0.ext cs o n=(cs.drop o).take n:=rfl
theorem nSet{cs:List AV}{i:Nat}{v:AV}:ops0.set cs i v=cs.set i v:=rfl
theorem nApp{xs ys:List AV}:ops0.app xs ys=xs++ys:=rfl
theorem nRep{n:Nat}{z:List AV}:ops0.rep n z=(List.replicate n z).flatten:=rfl
theorem nSpl{cs xs:List AV}{o:Nat}:ops0.spl cs o xs=cs.take o++(xs++cs.drop (o+xs.length)):=rfl
theorem nMin{a b:Nat}:ops0.min a b=if a≤b then a else b:=rfl
theorem nRoom{l n b:Nat}:ops0.room l n b=decide ((l+n+1)*(b+1)≤1099511627776):=rfl
theorem nMkr{a b c:Nat}:ops0.mkr (Int.ofNat a) (Int.ofNat b) c=(decide (a≤b) && decide ((b+1)*(c+1)≤1099511627776)):=by
 show(decide (0≤Int.ofNat a) && decide (Int.ofNat a≤Int.ofNat b) && decide ((Int.ofNat b+1)*((c:Int)+1)≤1099511627776))=_
 have e:(Int.ofNat b+1)*((c:Int)+1)=(((b+1)*(c+1):Nat):Int):=by simp[Int.natCast_mul]
 rw[e]
 have h1:(decide (0≤Int.ofNat a))=true:=by simp
 have h2:decide (Int.ofNat a≤Int.ofNat b)=decide (a≤b):=by simp
 have h3:decide ((((b+1)*(c+1):Nat):Int)≤1099511627776)=decide ((b+1)*(c+1)≤1099511627776):=by
  by_cases h:(b+1)*(c+1)≤1099511627776
  ·rw[decide_eq_true h,decide_eq_true (by omega)]
  ·rw[decide_eq_false h,decide_eq_false (by omega)]
 rw[h1,h2,h3,Bool.true_and]
theorem nSlen{s:List UInt8}:ops0.slen s=s.length:=rfl
theorem nScells{s:List UInt8}:ops0.scells s=s.map fun b => .int .u8 b.toNat:=rfl
theorem nEqs{s t:List UInt8}:ops0.eqs s t=decide (s=t):=by
 show(s == t)=_
 by_cases h:s=t<;>simp[h]
theorem nEqi{s t:List Int}:ops0.eqi s t=decide (s=t):=by
 show(s == t)=_
 by_cases h:s=t<;>simp[h]
theorem nLss{a b:Nat}:ops0.cmp .lss (Int.ofNat a) (Int.ofNat b)=decide (a<b):=by
 show decide (Int.ofNat a<Int.ofNat b)=_
 simp
theorem nLeq{a b:Nat}:ops0.cmp .leq (Int.ofNat a) (Int.ofNat b)=decide (a≤b):=by
 show decide (Int.ofNat a≤Int.ofNat b)=_
 simp
theorem nGtr{a b:Nat}:ops0.cmp .gtr (Int.ofNat a) (Int.ofNat b)=decide (b<a):=by
 show decide (Int.ofNat a>Int.ofNat b)=_
 simp
theorem nGeq{a b:Nat}:ops0.cmp .geq (Int.ofNat a) (Int.ofNat b)=decide (b≤a):=by
 show decide (Int.ofNat a≥Int.ofNat b)=_
 simp
theorem nEql{a b:Nat}:ops0.cmp .eql (Int.ofNat a) (Int.ofNat b)=decide (a=b):=by
 show(Int.ofNat a == Int.ofNat b)=_
 by_cases h:a=b
 ·simp[h]
 ·simp[h]; omega
theorem nNeq{a b:Nat}:ops0.cmp .neq (Int.ofNat a) (Int.ofNat b)=decide (a≠b):=by
 show(Int.ofNat a != Int.ofNat b)=_
 by_cases h:a=b
 ·simp[h]
 ·simp[h]; omega
theorem nC64{a:Nat}(h:a<18446744073709551616):ops0.cvt .u64 (Int.ofNat a)=Int.ofNat a:=u64_wrap (by simp) (by simp only[Int.ofNat_eq_natCast]; omega)
theorem nC8{a:Nat}(h:a<256):ops0.cvt .u8 (Int.ofNat a)=Int.ofNat a:=u8_wrap (by simp) (by simp only[Int.ofNat_eq_natCast]; omega)
theorem nCi{a:Nat}(h:a<9223372036854775808):ops0.cvt .i64 (Int.ofNat a)=Int.ofNat a:=i64_wrap (by simp only[Int.ofNat_eq_natCast]; omega) (by simp only[Int.ofNat_eq_natCast]; omega)
end
end Go.Vm
