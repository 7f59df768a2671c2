/-
  A VERIFIED SYMBOLIC MACHINE, PART Vc: a run comes to a statement (its words; that it is sound).
-/
import Derived.Test.YtfmhlogapbpnbaaYnac
set_option linter.unusedVariables false
set_option linter.unusedSimpArgs false
set_option linter.unusedSectionVars false

namespace Go.Vm
set_option maxRecDepth 100000
noncomputable section
def Chk(b:Bool)(r:Prop):Prop:=match b with
 | true=>r
 | false=>False
def Br(b:Bool)(r s:Prop):Prop:=match b with
 | true=>r
 | false=>s
def Nth(cs:List AV)(i:Nat)(v:AV):Prop:=nth cs i=some v
def VCis(b c:VC):Prop:=b=c
theorem Chk.mk{b:Bool}{r:Prop}(h:b=true)(k:r):Chk b r:=by subst h;exact k
theorem Chk.out{b:Bool}{r:Prop}(h:Chk b r):b=true/\r:=by
 cases b with
 | true=>exact⟨rfl,h⟩
 | false=>exact h.elim
theorem Br.mk{b:Bool}{r s:Prop}(h:b=true->r)(k:b=false->s):Br b r s:=by
 cases b with
 | true=>exact h rfl
 | false=>exact k rfl
theorem Br.t{b:Bool}{r s:Prop}(h:b=true)(k:r):Br b r s:=by subst h;exact k
theorem Br.f{b:Bool}{r s:Prop}(h:b=false)(k:s):Br b r s:=by subst h;exact k
theorem Nth.mk{cs:List AV}{i:Nat}{v:AV}(h:cs[i]? = some v):Nth cs i v:=by unfold Nth;rw[qb5]; exact h
inductive CRes where
 | ok (r:AV) (H:Hl) (lg:List Nat)
 | cond (c:Bool) (a b:CRes)
def CRes.thn(k:AV->Hl->List Nat->Prop):CRes->Prop
 | .ok r H lg=>k r H lg
 | .cond c a b=>match c with
  | true=>a.thn k
  | false=>b.thn k
def CRes.fin:CRes->AV × Hl × List Nat
 | .ok r H lg=>(r,H,lg)
 | .cond c a b=>match c with
  | true=>a.fin
  | false=>b.fin
theorem CRes.thn_fin{k:AV->Hl->List Nat->Prop}:∀ {x:CRes},x.thn k->k x.fin.1 x.fin.2.1 x.fin.2.2
 | .ok r H lg,h=>h
 | .cond true a b,h=>CRes.thn_fin (x:=a) h
 | .cond false a b,h=>CRes.thn_fin (x:=b) h
inductive LRes where
 | ok (ex:Ex) (fr:Fr) (H:Hl)
 | cond (c:Bool) (a b:LRes)
def LRes.thn(k:Ex->Fr->Hl->Prop):LRes->Prop
 | .ok ex fr H=>k ex fr H
 | .cond c a b=>match c with
  | true=>a.thn k
  | false=>b.thn k
def LRes.fin:LRes->Ex × Fr × Hl
 | .ok ex fr H=>(ex,fr,H)
 | .cond c a b=>match c with
  | true=>a.fin
  | false=>b.fin
theorem LRes.thn_fin{k:Ex->Fr->Hl->Prop}:∀ {x:LRes},x.thn k->k x.fin.1 x.fin.2.1 x.fin.2.2
 | .ok ex fr H,h=>h
 | .cond true a b,h=>LRes.thn_fin (x:=a) h
 | .cond false a b,h=>LRes.thn_fin (x:=b) h
abbrev CnF:=Nat->List AV->Hl->Option (Prop × CRes)
def CnOK(P:Program)(C:CnF):Prop:=∀ f vals H p x,C f vals H=some (p,x)->p->CallTo P f vals H x.fin.1 x.fin.2.1 x.fin.2.2
abbrev LnF:=Nat->VC->Fr->Hl->Option (Prop × LRes)
def LnOK(P:Program)(E:LnF):Prop:=∀ n0 b fr H p x,E n0 b fr H=some (p,x)->n0<=H.length->p->∀ lg,qam P n0 b fr H lg x.fin.1 x.fin.2.1 x.fin.2.2 (List.range n0++lg)
def noCn:CnF:=fun _ _ _=>none
theorem qa3(P:Program):CnOK P noCn:=fun _ _ _ _ _ h=>by cases h
def noLn:LnF:=fun _ _ _ _=>none
theorem qai(P:Program):LnOK P noLn:=fun _ _ _ _ _ _ h=>by cases h
def cnOr(C D:CnF):CnF:=fun f vals H=>match C f vals H with
 | some x=>some x
 | none=>D f vals H
theorem qfl{P:Program}{C D:CnF}(h:CnOK P C)(k:CnOK P D):CnOK P (cnOr C D):=by
 intro f vals H p x e hp
 unfold cnOr at e
 split at e
 ·rename_i y hy;cases e;exact h _ _ _ _ _ hy hp
 ·exact k _ _ _ _ _ e hp
def getV(kd:Kd)(cs:List AV)(i:Nat)(k:AV->Prop):Prop :=
 match kd with
 | .any=>match nth cs i with
  | some v=>k v
  | none=>False
 | .int kd=>∃ n,Nth cs i (.int kd n)/\k (.int kd n)
 | .bool=>∃ b,Nth cs i (.bool b)/\Br b (k (.bool true)) (k (.bool false))
 | .str=>∃ s,Nth cs i (.str s)/\k (.str s)
 | .flt kd=>∃ n,Nth cs i (.flt kd n)/\k (.flt kd n)
 | .slc=>∃ ds off len cap e,Nth cs i (.ros ds off len cap e)/\k (.ros ds off len cap e)
theorem Nth.out{cs:List AV}{i:Nat}{v:AV}(h:Nth cs i v):cs[i]? = some v:=by unfold Nth at h;rw[qb5] at h;exact h
def kdNo:Kd->Bool:=fun _=>false
def kdYes:Kd->Bool:=fun _=>true
def kdFit:Kd->Bool:=fun k=>match k with
 | .bool=>true
 | _=>false
def vcA(g:Kd->Bool)(C:CnF)(E:LnF):Alg Prop where
 fail:=False
 chk b r:=match b with
  | true=>r
  | false=>False
 br b r s:=match b with
  | true=>r
  | false=>s
 get kd cs i k:=match g kd with
  | true=>getV kd cs i k
  | false=>match nth cs i with
   | some v=>k v
   | none=>False
 flo o k:=∃ r,o=some r/\k r
 fit l n c r s:=match g .any with
  | true=>s
  | false=>match g .bool with
   | false=>s
   | true=>match Nat.ble (l+n) c with
    | true=>r
    | false=>s
 ints kd cs k:=∃ l:List Int,cs=l.map (AV.int kd)/\k l
 byts cs k:=∃ l:List UInt8,cs=l.map (fun b=>AV.int .u8 b.toNat)/\k l
 call f vals H k:=match C f vals H with
  | some (p,x)=>p/\x.thn k
  | none=>False
 loop n0 b fr H lg k u:=match E n0 b fr H with
  | some (p,x)=>p/\x.thn fun ex fr H=>k ex fr H (List.range n0++lg)
  | none=>u ()
theorem qct{P:Program}{g:Kd->Bool}{C:CnF}(hC:CnOK P C){E:LnF}(hE:LnOK P E):(vcA g C E).Fine P (fun p=>p) where
 fail h:=h
 chk b r h:=by
  cases b with
  | true=>exact⟨rfl,h⟩
  | false=>exact h.elim
 br b r s h:=by
  cases b with
  | true=>exact .inl ⟨rfl,h⟩
  | false=>exact .inr ⟨rfl,h⟩
 get kd cs i k h:=by
  have any:(match nth cs i with
   | some v=>k v
   | none=>False)->∃ v,cs[i]? = some v/\k v:=by
   intro h
   rw[qb5] at h
   split at h
   ·rename_i v e;exact⟨v,e,h⟩
   ·exact h.elim
  have h:(match g kd with
   | true=>getV kd cs i k
   | false=>match nth cs i with
    | some v=>k v
    | none=>False):=h
  split at h
  ·cases kd with
   | any=>exact any h
   | int kd=>obtain⟨n,h1,h2⟩:=h;exact⟨_,h1.out,h2⟩
   | bool =>
    obtain⟨b,h1,h2⟩:=h
    cases b with
    | true=>exact⟨_,h1.out,h2⟩
    | false=>exact⟨_,h1.out,h2⟩
   | str=>obtain⟨n,h1,h2⟩:=h;exact⟨_,h1.out,h2⟩
   | flt kd=>obtain⟨n,h1,h2⟩:=h;exact⟨_,h1.out,h2⟩
   | slc=>obtain⟨a,b,c,d,e,h1,h2⟩:=h;exact⟨_,h1.out,h2⟩
  ·exact any h
 flo o k h:=h
 fit l n c r s h:=by
  have h:(match g .any with
   | true=>s
   | false=>match g .bool with
    | false=>s
    | true=>match Nat.ble (l+n) c with
     | true=>r
     | false=>s):=h
  split at h
  ·exact .inr h
  ·split at h
   ·exact .inr h
   ·split at h
    ·rename_i hb;exact .inl ⟨Nat.le_of_ble_eq_true hb,h⟩
    ·exact .inr h
 ints kd cs k h:=h
 byts cs k h:=h
 call f vals H k h:=by
  have h:(match C f vals H with
   | some (p,x)=>p/\x.thn k
   | none=>False):=h
  split at h
  ·rename_i p x e
   exact⟨_,_,_,hC _ _ _ _ _ e h.1,CRes.thn_fin h.2⟩
  ·exact h.elim
 loop n0 b fr H lg k u hn h:=by
  have h:(match E n0 b fr H with
   | some (p,x)=>p/\x.thn fun ex fr H=>k ex fr H (List.range n0++lg)
   | none=>u ()):=h
  split at h
  ·rename_i p x e
   exact .inr ⟨_,_,_,_,hE _ _ _ _ _ _ e hn h.1 lg,LRes.thn_fin h.2⟩
  ·exact .inl h
theorem qcu{P:Program}{g:Kd->Bool}{C:CnF}(hC:CnOK P C){E:LnF}(hE:LnOK P E){T:Nat->Option VF}(hT:∀ f vf,T f=some vf->FnOK P f vf){f n:Nat}{vf:VF}(hf:T f=some vf){vals:List AV}{H:Hl}
  {Q:AV->Hl->List Nat->Prop} (h:vcall (vcA g C E) ops0 T n vf vals H Q):∃ r H0 lg,CallTo P f vals H r H0 lg/\Q r H0 lg :=
 qdi (qct hC hE) hT (hT f vf hf) (holds:=fun p=>p) h
theorem qhz{P:Program}{g:Kd->Bool}{C:CnF}(hC:CnOK P C){E:LnF}(hE:LnOK P E){T:Nat->Option VF}(hT:∀ f vf,T f=some vf->FnOK P f vf){f n:Nat}{vf:VF}(hf:T f=some vf){vals:List AV}{H:Hl}
  {r0:AV} {H0:Hl} {lg0:List Nat} (h:vcall (vcA g C E) ops0 T n vf vals H fun r H' lg=>r=r0/\H'=H0/\lg=lg0):CallTo P f vals H r0 H0 lg0:=by
 obtain⟨r,H',lg,hc,e1,e2,e3⟩:=qcu hC hE hT hf h
 subst e1;subst e2;subst e3
 exact hc
def endN(m:AV->Nat)(Q:AV->Hl->Prop):AV->Hl->List Nat->Prop:=fun r H _=>match Nat.ble (m r) (size H) with
 | true=>Q r (cutH (m r) H)
 | false=>False
theorem qb7{P:Program}{g:Kd->Bool}{C:CnF}(hC:CnOK P C){E:LnF}(hE:LnOK P E){T:Nat->Option VF}(hT:∀ f vf,T f=some vf->FnOK P f vf){f n:Nat}{vf:VF}(hf:T f=some vf){vals:List AV}{H:Hl}
  {m:AV->Nat} {r0:AV} {H0:Hl} (lg0:List Nat) (h:vcall (vcA g C E) ops0 T n vf vals H (endN m fun r H'=>r=r0/\H'=H0)) (h1:H.length<=m r0) (hr:cutV (m r0) r0=r0) (hk:∀ b,b<H.length->b ∉ lg0->H0[b]? = H[b]?) :
  CallTo P f vals H r0 H0 lg0:=by
 obtain⟨r,H',lg,hc,e⟩:=qdi (qct hC hE) hT (hT f vf hf) (holds:=fun p=>p) h
 unfold endN at e
 split at e
 ·rename_i hm
  obtain⟨e1,e2⟩:=e
  subst e1
  rw[qay] at hm
  have:=hc.cut (m r) h1 (Nat.le_of_ble_eq_true hm) (lg0:=lg0) (by rw[e2]; exact hk)
  rw[hr,e2] at this
  exact this
 ·exact e.elim
def idsOK(n0:Nat)(ids:List Nat)(sz:Nat):Bool:=decide (ids.Nodup) && (ids.all fun b=>Nat.blt b sz) && (List.range n0).all fun b=>match nth ids b with
 | some c=>Nat.beq c b
 | none=>false
def bodyE(n0:Nat)(ids:Ex->Nat->List Nat)(bs:List Bool)(Q:Ex->Fr->Hl->Prop):Ex->Fr->Hl->List Nat->Prop:=fun ex fr H _ =>
 match idsOK n0 (ids ex (size H)) (size H) with
 | true=>Q ex (wkF (ids ex (size H)) bs fr) (wkH (ids ex (size H)) H)
 | false=>False
theorem qm6{n0:Nat}{ids:List Nat}{sz:Nat}(h:idsOK n0 ids sz=true):ids.Nodup/\(∀ b,b∈ids->b<sz)/\∀ b,b<n0->ids[b]? = some b:=by
 unfold idsOK at h
 simp only[Bool.and_eq_true,decide_eq_true_eq,List.all_eq_true,List.mem_range] at h
 obtain⟨⟨h1,h2⟩,h3⟩:=h
 refine⟨h1,fun b hb=>(qcb _ _).1 (h2 b hb),fun b hb => ?_⟩
 have:=h3 b hb
 rw[qb5] at this
 split at this
 ·rename_i c e
  rw[e,Nat.eq_of_beq_eq_true this]
 ·cases this
theorem qli{P:Program}{g:Kd->Bool}{C:CnF}(hC:CnOK P C){E:LnF}(hE:LnOK P E){T:Nat->Option VF}(hT:∀ f vf,T f=some vf->FnOK P f vf){n n0:Nat}{b:VC}{fr fr0:Fr}{H H0:Hl}{ex0:Ex}{ids:Ex->Nat->List Nat}{bs:List Bool}
  (h:vm (vcA g C E) ops0 T n n0 b fr H [] (bodyE n0 ids bs fun ex fr H=>ex=ex0/\fr=fr0/\H=H0)) (h0:n0<=H.length):qap P n0 b fr H ex0 fr0 H0:=by
 intro c hc
 subst hc
 obtain⟨ex,fr1,H1,lg1,hg,e⟩:=(qdy (qct hC hE) hT n).1 c n0 fr H [] _ h0 h
 have e:(match idsOK n0 (ids ex (size H1)) (size H1) with
  | true=>ex=ex0/\wkF (ids ex (size H1)) bs fr1=fr0/\wkH (ids ex (size H1)) H1=H0
  | false=>False):=e
 split at e
 ·rename_i hi
  rw[qay] at hi e
  obtain⟨i1,i2,i3⟩:=qm6 hi
  obtain⟨e1,e2,e3⟩:=e
  subst e1;subst e2;subst e3
  exact⟨_,hg.post (Weak.pick _ bs i1 i2 i3)⟩
 ·exact e.elim
def bodyX(bs:List Bool)(Q:Ex->Fr->Hl->Prop):Ex->Fr->Hl->List Nat->Prop:=fun ex fr H _=>Q ex (forget bs fr) H
theorem qa2{P:Program}{g:Kd->Bool}{C:CnF}(hC:CnOK P C){E:LnF}(hE:LnOK P E){T:Nat->Option VF}(hT:∀ f vf,T f=some vf->FnOK P f vf){n n0:Nat}{b:VC}{fr fr0:Fr}{H H0:Hl}{ex0:Ex}{bs:List Bool}
  (h:vm (vcA g C E) ops0 T n n0 b fr H [] (bodyX bs fun ex fr H=>ex=ex0/\fr=fr0/\H=H0)) (h0:n0<=H.length):qap P n0 b fr H ex0 fr0 H0:=by
 intro c hc
 subst hc
 obtain⟨ex,fr1,H1,lg1,hg,e1,e2,e3⟩:=(qdy (qct hC hE) hT n).1 c n0 fr H [] _ h0 h
 subst e1;subst e2;subst e3
 exact⟨_,hg.post (Weak.forget hg.grow bs)⟩
def VLe(a b:AV):Prop:=∀ ρ w v,VRel ρ w a v->VRel ρ w b v
theorem VLe.refl(a:AV):VLe a a:=fun _ _ _ h=>h
theorem VLe.top(a:AV):VLe a .top:=fun _ _ v _ => .top v
theorem VLe.nils:VLe .nils (.ros [] 0 0 0 true):=fun ρ w v h=>by
 rw[qdz h]
 exact .ros [] 0 0 0 true 0 0 none 0 [] (fun h=>absurd rfl h) (fun h=>absurd rfl h) rfl (by simp) (by simp) (by simp) (Nat.le_refl _) (Nat.le_refl _) (fun _=>rfl) (fun h=>absurd rfl h)
def FLe(fr fr':Fr):Prop:=fr.length=fr'.length/\∀ (i:Nat) (a b:AV),fr[i]? = some a->fr'[i]? = some b->VLe a b
theorem Weak.le{n0:Nat}{fr fr':Fr}{H:Hl}(h:n0<=H.length)(k:FLe fr fr'):Weak n0 fr H fr' H :=
 ⟨h,fun ρ w hg=>⟨ρ,hg,Ext.refl _ _ _,fun tmps hf=>⟨hf.len.trans k.1,fun i a v ha hv=>by
  have hi:i<fr.length:=by rw[k.1]; exact(List.getElem?_eq_some_iff.1 ha).1
  exact k.2 i fr[i] a (by simp[hi]) ha ρ w v (hf.at_ i fr[i] v (by simp[hi]) hv)⟩⟩⟩
theorem Weak.trans{n0:Nat}{fr fr1 fr2:Fr}{H H1 H2:Hl}(h:Weak n0 fr H fr1 H1)(k:Weak n0 fr1 H1 fr2 H2):Weak n0 fr H fr2 H2 :=
 ⟨k.grow,fun ρ w hg=>by
  obtain⟨ρ1,g1,g2,g3⟩:=h.does ρ w hg
  obtain⟨ρ2,k1,k2,k3⟩:=k.does ρ1 w g1
  exact⟨ρ2,k1,g2.trans k2,fun t ht=>k3 t (g3 t ht)⟩⟩
end
end Go.Vm

namespace Go.Vm
set_option maxRecDepth 100000
noncomputable section
theorem qcv{n:Int}(h0 : -9223372036854775808<=n)(h:n<9223372036854775808):IntKind.i64.wrap n=n:=IntWalk.i64_in n (by omega)
theorem qr1{n:Int}(h0:0<=n)(h:n<256):IntKind.u8.wrap n=n:=by
 simp[IntKind.wrap,IntKind.bits,IntKind.signed]; omega
theorem qwg{n:Int}(h0:0<=n)(h:n<18446744073709551616):IntKind.u64.wrap n=n:=by
 simp[IntKind.wrap,IntKind.bits,IntKind.signed]; omega
theorem nAdd{a b:Nat}(h:a+b<9223372036854775808):ops0.bin .add .i64 (Int.ofNat a) (Int.ofNat b)=Int.ofNat (a+b):=by
 show IntKind.i64.wrap (Int.ofNat a+Int.ofNat b)=_
 rw[qcv (by simp;omega) (by simp;omega)]; rfl
theorem nSub{a b:Nat}(h:b<=a)(h2:a<9223372036854775808):ops0.bin .sub .i64 (Int.ofNat a) (Int.ofNat b)=Int.ofNat (a - b):=by
 show IntKind.i64.wrap (Int.ofNat a - Int.ofNat b)=_
 rw[qcv (by simp;omega) (by simp;omega)]; simp;omega
theorem nMul{a b:Nat}(h:a*b<9223372036854775808):ops0.bin .mul .i64 (Int.ofNat a) (Int.ofNat b)=Int.ofNat (a*b):=by
 have h':(Int.ofNat a*Int.ofNat b)=Int.ofNat (a*b):=rfl
 show IntKind.i64.wrap (Int.ofNat a*Int.ofNat b)=_
 rw[h',qcv (by simp;omega) (by simp only[Int.ofNat_eq_natCast]; omega)]
theorem nQuo{a b:Nat}(h:a<9223372036854775808):ops0.bin .quo .i64 (Int.ofNat a) (Int.ofNat b)=Int.ofNat (a / b):=by
 have h2:a / b<=a:=Nat.div_le_self a b
 show IntKind.i64.wrap ((Int.ofNat a).tdiv (Int.ofNat b))=_
 have e:(Int.ofNat a).tdiv (Int.ofNat b)=Int.ofNat (a / b):=rfl
 rw[e]
 generalize a / b=q at h2 ⊢
 exact qcv (by simp only[Int.ofNat_eq_natCast]; omega) (by simp only[Int.ofNat_eq_natCast]; omega)
theorem nRem{a b:Nat}:ops0.bin .rem .i64 (Int.ofNat a) (Int.ofNat b)=Int.ofNat (a % b):=rfl
theorem nInr{a n:Nat}:ops0.inr (Int.ofNat a) n=decide (a<n):=by
 show(decide (0<=Int.ofNat a) && decide (Int.ofNat a<(n:Int)))=_
 simp
theorem nInb{a n:Nat}:ops0.inb (Int.ofNat a) n=decide (a<=n):=by
 show(decide (0<=Int.ofNat a) && decide (Int.ofNat a<=(n:Int)))=_
 simp
theorem nAdr{o a s:Nat}:ops0.adr o (Int.ofNat a) s=o+a*s:=rfl
theorem nNn{a:Nat}:ops0.nn (Int.ofNat a)=true:=by
 show decide (0<=Int.ofNat a)=true
 simp
theorem nNz{a:Nat}(h:a≠0):ops0.nz (Int.ofNat a)=true:=by
 show(Int.ofNat a != 0)=true
 simp;omega
theorem nNat{a:Nat}:ops0.nat (Int.ofNat a)=a:=rfl
theorem nOfn{a:Nat}:ops0.ofn a=Int.ofNat a:=rfl
theorem nPlus{a b:Nat}:ops0.add a b=a+b:=rfl
theorem qs6{a b:Nat}:ops0.sub a b=a - b:=rfl
theorem qbw{a b:Nat}:ops0.mul a b=a*b:=rfl
theorem nLe{a b:Nat}:ops0.le a b=decide (a<=b):=rfl
theorem nLt{a b:Nat}:ops0.lt a b=decide (a<b):=rfl
theorem nEq{a b:Nat}:ops0.eq a b=decide (a=b):=by
 show(a == b)=_
 by_cases h:a=b<;>simp[h]
theorem nLen{cs:List AV}:ops0.len cs=cs.length:=rfl
theorem nExt{cs:List AV}{o n:Nat}:ops0.ext cs o n=(cs.drop o).take n:=rfl
theorem nSet{cs:List AV}{i:Nat}{v:AV}:ops0.set cs i v=cs.set i v:=rfl
theorem nApp{xs ys:List AV}:ops0.app xs ys=xs++ys:=rfl
theorem nRep{n:Nat}{z:List AV}:ops0.rep n z=(List.replicate n z).flatten:=rfl
theorem nSpl{cs xs:List AV}{o:Nat}:ops0.spl cs o xs=cs.take o++(xs++cs.drop (o+xs.length)):=rfl
theorem nMin{a b:Nat}:ops0.min a b=if a<=b then a else b:=rfl
theorem nRoom{l n b:Nat}:ops0.room l n b=decide ((l+n+1)*(b+1)<=1099511627776):=rfl
theorem nMkr{a b c:Nat}:ops0.mkr (Int.ofNat a) (Int.ofNat b) c=(decide (a<=b) && decide ((b+1)*(c+1)<=1099511627776)):=by
 show(decide (0<=Int.ofNat a) && decide (Int.ofNat a<=Int.ofNat b) && decide ((Int.ofNat b+1)*((c:Int)+1)<=1099511627776))=_
 have e:(Int.ofNat b+1)*((c:Int)+1)=(((b+1)*(c+1):Nat):Int):=by simp[Int.natCast_mul]
 rw[e]
 have h1:(decide (0<=Int.ofNat a))=true:=by simp
 have h2:decide (Int.ofNat a<=Int.ofNat b)=decide (a<=b):=by simp
 have h3:decide ((((b+1)*(c+1):Nat):Int)<=1099511627776)=decide ((b+1)*(c+1)<=1099511627776):=by
  by_cases h:(b+1)*(c+1)<=1099511627776
  ·rw[decide_eq_true h,decide_eq_true (by omega)]
  ·rw[decide_eq_false h,decide_eq_false (by omega)]
 rw[h1,h2,h3,Bool.true_and]
theorem nSlen{s:List UInt8}:ops0.slen s=s.length:=rfl
theorem qly{s:List UInt8}:ops0.scells s=s.map fun b => .int .u8 b.toNat:=rfl
theorem nEqs{s t:List UInt8}:ops0.eqs s t=decide (s=t):=by
 show(s == t)=_
 by_cases h:s=t<;>simp[h]
theorem nEqi{s t:List Int}:ops0.eqi s t=decide (s=t):=by
 show(s == t)=_
 by_cases h:s=t<;>simp[h]
theorem nLss{a b:Nat}:ops0.cmp .lss (Int.ofNat a) (Int.ofNat b)=decide (a<b):=by
 show decide (Int.ofNat a<Int.ofNat b)=_
 simp
theorem nLeq{a b:Nat}:ops0.cmp .leq (Int.ofNat a) (Int.ofNat b)=decide (a<=b):=by
 show decide (Int.ofNat a<=Int.ofNat b)=_
 simp
theorem nGtr{a b:Nat}:ops0.cmp .gtr (Int.ofNat a) (Int.ofNat b)=decide (b<a):=by
 show decide (Int.ofNat a>Int.ofNat b)=_
 simp
theorem nGeq{a b:Nat}:ops0.cmp .geq (Int.ofNat a) (Int.ofNat b)=decide (b<=a):=by
 show decide (Int.ofNat a>=Int.ofNat b)=_
 simp
theorem nEql{a b:Nat}:ops0.cmp .eql (Int.ofNat a) (Int.ofNat b)=decide (a=b):=by
 show(Int.ofNat a == Int.ofNat b)=_
 by_cases h:a=b
 ·simp[h]
 ·simp[h]; omega
theorem nNeq{a b:Nat}:ops0.cmp .neq (Int.ofNat a) (Int.ofNat b)=decide (a≠b):=by
 show(Int.ofNat a != Int.ofNat b)=_
 by_cases h:a=b
 ·simp[h]
 ·simp[h]; omega
theorem nC64{a:Nat}(h:a<18446744073709551616):ops0.cvt .u64 (Int.ofNat a)=Int.ofNat a:=qwg (by simp) (by simp only[Int.ofNat_eq_natCast]; omega)
theorem nC8{a:Nat}(h:a<256):ops0.cvt .u8 (Int.ofNat a)=Int.ofNat a:=qr1 (by simp) (by simp only[Int.ofNat_eq_natCast]; omega)
theorem nCi{a:Nat}(h:a<9223372036854775808):ops0.cvt .i64 (Int.ofNat a)=Int.ofNat a:=qcv (by simp only[Int.ofNat_eq_natCast]; omega) (by simp only[Int.ofNat_eq_natCast]; omega)
end
end Go.Vm

namespace Go.Vm
set_option maxRecDepth 100000
noncomputable section
theorem CallTo.two{P:Program}{f:Nat}{vals vals0:List AV}{r:AV}{cs cs' xs xs':List AV}{H:Hl}{b c:Nat}{lg:List Nat}(hc:CallTo P f vals0 [.cells cs,.cells xs] r [.cells cs',.cells xs'] lg)
  (hb:H[b]? = some (.cells cs)) (hx:H[c]? = some (.cells xs)) (hbc:b≠c) (h1:flatL cs) (h2:flatL cs') (hxf:flatL xs) (hxf':flatL xs')
  (h3:∀ φ,renL (pickN [b,c]) φ true vals=vals0):CallTo P f vals H (backV [b,c] H.length r) (put (put H b (.cells cs')) c (.cells xs')) [b,c]:=by
 have lb:=(List.getElem?_eq_some_iff.1 hb).1
 have lc:=(List.getElem?_eq_some_iff.1 hx).1
 have beqf:∀ {x y:Nat},x≠y->Nat.beq x y=false:=by
  intro x y h
  cases e:Nat.beq x y
  ·rfl
  ·exact absurd (Nat.eq_of_beq_eq_true e) h
 have pb:qaq b 0 [b,c]=some 0:=by simp[qaq,Nat.beq_refl]
 have pc:qaq c 0 [b,c]=some 1:=by simp[qaq,Nat.beq_refl,beqf hbc]
 have e1:pickH (viewF H [b,c] 0) [b,c] H = [.cells cs,.cells xs]:=by
  simp only[pickH,List.map_cons,List.map_nil,hb,hx,renB,qaa h1,qaa hxf]
 have hc':CallTo P f (renL (pickN [b,c]) (viewF H [b,c] 0) true vals) (pickH (viewF H [b,c] 0) [b,c] H) r [.cells cs',.cells xs'] [0,1]:=by
  rw[e1,h3]
  refine⟨hc.real,hc.grow,fun i hi hn => ?_,hc.does⟩
  match i,hi,hn with
  | 0,_,hn=>exact absurd (by simp) hn
  | 1,_,hn=>exact absurd (by simp) hn
 have key:∀ i k,qaq i 0 [b,c]=some k->(k=0/\i=b)∨(k=1/\i=c):=by
  intro i k hp
  have:=(qaw hp).2
  rw[Nat.sub_zero] at this
  match k,this with
  | 0,h=>simp at h;exact .inl ⟨rfl,h.symm⟩
  | 1,h=>simp at h;exact .inr ⟨rfl,h.symm⟩
  | k+2,h=>simp at h
 have h:=CallTo.frame [b,c] 0 (by simp[hbc]) (fun i hi=>by
   simp only[List.mem_cons,List.not_mem_nil,or_false] at hi
   rcases hi with rfl|rfl<;>assumption) hc' (fun i k hp hn=>by
  rcases key i k hp with ⟨rfl,rfl⟩|⟨rfl,rfl⟩
  ·exact absurd (by simp) hn
  ·exact absurd (by simp) hn)
 have e2:backH [b,c] H [.cells cs',.cells xs']=put (put H b (.cells cs')) c (.cells xs'):=by
  apply List.ext_getElem?
  intro i
  rw[qck,qdm,qdm]
  by_cases hi:i<H.length
  ·rw[if_pos hi]
   cases hp:qaq i 0 [b,c] with
   | some k =>
    rcases key i k hp with ⟨rfl,rfl⟩|⟨rfl,rfl⟩
    ·rw[List.getElem?_set_ne (fun e=>hbc e.symm),List.getElem?_set_self hi]
     simp[backB,renB,qaa h2]
    ·rw[List.getElem?_set_self (by rw[List.length_set]; exact hi)]
     simp[backB,renB,qaa hxf']
   | none =>
    have n1:b≠i:=fun e=>by subst e;rw[pb] at hp;cases hp
    have n2:c≠i:=fun e=>by subst e;rw[pc] at hp;cases hp
    rw[List.getElem?_set_ne n2,List.getElem?_set_ne n1]
  ·rw[if_neg hi]
   have t1:([Blk.cells cs',.cells xs']:Hl)[[b,c].length+(i - H.length)]? = none:=List.getElem?_eq_none (by simp)
   have t2:((H.set b (.cells cs')).set c (.cells xs'))[i]? = none:=List.getElem?_eq_none (by rw[List.length_set,List.length_set]; omega)
   rw[t1,t2]
   rfl
 have e3:backL [b,c] [0,1] = [b,c]:=by simp[backL]
 rw[e2,e3] at h
 exact h
def Still(xs:List AV):Prop:=∀ σ φ,renL σ φ true xs=xs
theorem Still.flat{xs:List AV}(h:flatL xs):Still xs:=fun _ _=>qaa h
theorem Still.nil:Still []:=fun _ _=>rfl
theorem Still.cons{x:AV}{xs:List AV}(h:∀ σ φ,ren σ φ true x=x)(k:Still xs):Still (x::xs):=fun σ φ=>by
 simp only[renL,h σ φ,k σ φ]
theorem Still.ros{cs:List AV}(h:Still cs)(o len cap:Nat)(e:Bool)(σ:Nat->Option Nat)(φ:Nat->Option (List AV)):ren σ φ true (.ros cs o len cap e) = .ros cs o len cap e:=by
 simp only[ren,h σ φ]
theorem qee(σ:Nat->Option Nat)(φ:Nat->Option (List AV))(kp:Bool):∀ (a b:List AV),renL σ φ kp (a++b)=renL σ φ kp a++renL σ φ kp b
 | [],b=>by simp[renL]
 | x::a,b=>by simp only[List.cons_append,renL,qee σ φ kp a b]
theorem Still.append{a b:List AV}(h:Still a)(k:Still b):Still (a++b):=fun σ φ=>by rw[qee,h σ φ,k σ φ]
theorem Still.all{xs:List AV}(h:∀ x,x∈xs->∀ σ φ,ren σ φ true x=x):Still xs:=by
 induction xs with
 | nil=>exact .nil
 | cons x xs ih=>exact .cons (h x (by simp)) (ih fun y hy=>h y (by simp[hy]))
theorem Weak.void{n0:Nat}{fr:Fr}{H:Hl}(hn:n0<=H.length){k:Nat}(sz:Nat)(h:fr[k]? = some .nils):Weak n0 fr H (put fr k (.slc H.length 0 0 0 sz)) (H ++ [.cells []]) where
 grow:=by simp;omega
 does ρ w hg:=by
  have hN:(fun b=>H[b]?) H.length=none:=List.getElem?_eq_none (Nat.le_refl _)
  obtain⟨R,E⟩:=hg.nothing hN
  have e:one (fun b=>H[b]?) H.length (.cells [])=fun b=>(H ++ [.cells []])[b]? := by
   funext b
   unfold one
   by_cases hb:b=H.length
   ·subst hb;simp
   ·rw[if_neg hb]
    by_cases hl:b<H.length
    ·show H[b]? = _
     rw[List.getElem?_append_left hl]
    ·show H[b]? = _
     have hl2:(H ++ [Blk.cells []]).length=H.length+1:=by simp
     rw[List.getElem?_eq_none (by omega),List.getElem?_eq_none (by omega)]
  rw[e] at R
  have hbn:∀ b,ρ b ≠ .unborn->b<H.length:=fun b hb=>by
   rcases Nat.lt_or_ge b H.length with h'|h'
   ·exact h'
   ·exact absurd (hg.unborn b (List.getElem?_eq_none h')) hb
  refine⟨_,R,E n0,fun tmps hf => ?_⟩
  have hm:=hf.mono (E H.length) hbn
  rw[qdm]
  refine⟨by rw[List.length_set]; exact hm.len,fun i a v ha hv => ?_⟩
  by_cases hi:k=i
  ·subst hi
   have hk:=(List.getElem?_eq_some_iff.1 h).1
   rw[List.getElem?_set_self hk] at ha
   cases ha
   have:=qdz (hm.at_ k .nils v h hv)
   subst this
   exact .slc _ _ _ _ _ _ (by simp[rho1]) ⟨none,0,rfl,Nat.le_refl _,Nat.le_refl _,fun h=>absurd rfl h⟩ (fun _=>⟨none,rfl,rfl,rfl⟩) (by simp[rho1])
  ·rw[List.getElem?_set_ne hi] at ha
   exact hm.at_ i a v ha hv
theorem CallTo.pick{P:Program}{f:Nat}{vals:List AV}{H H':Hl}{r:AV}{lg lg0:List Nat}(hc:CallTo P f vals H r H' lg)(ids:List Nat)(hn:ids.Nodup)(hlt:∀ b,b∈ids->b<H'.length)(h0:∀ b,b<H.length->ids[b]? = some b)
  (hk:∀ b,b<H.length->b ∉ lg0->(wkH ids H')[b]? = H[b]?):CallTo P f vals H (ren (pickN ids) noView true r) (wkH ids H') lg0 where
 real:=hc.real
 grow:=by
  simp only[wkH,pickH,List.length_map]
  rcases Nat.eq_zero_or_pos H.length with h|h
  ·omega
  ·have:=(List.getElem?_eq_some_iff.1 (h0 (H.length - 1) (by omega))).1
   omega
 keep:=hk
 does ρ w us hg hv:=(hc.does ρ w us hg hv).mono fun e w' h=>by
  obtain⟨v,ρ',rfl,g1,g2,g3⟩:=h
  refine⟨v,pickR ids ρ',rfl,g1.pick hn hlt (qd9 _ _ _ _),qhn (fun b c=>qem) (fun _ c B F h=>let ⟨b,_,e⟩:=qbj h;⟨b,F,e⟩) (qd9 _ _ _ _) g2,
   ⟨g3.size,g3.os,g3.tape,g3.output,g3.keep,fun b hb hn' => ?_,fun b B F hl => ?_,g3.rows⟩⟩
  ·have:pickR ids ρ' b=ρ' b:=by simp[pickR,h0 b hb]
   rw[this]
   exact g3.slot b hb hn'
  ·obtain⟨b',_,e⟩:=qbj hl
   exact g3.fresh b' B F e
def endP(n0:Nat)(ids:AV->Nat->List Nat)(Q:AV->Hl->Prop):AV->Hl->List Nat->Prop:=fun r H _ =>
 match idsOK n0 (ids r (size H)) (size H) with
 | true=>Q (ren (pickN (ids r (size H))) noView true r) (wkH (ids r (size H)) H)
 | false=>False
theorem q1t{P:Program}{g:Kd->Bool}{C:CnF}(hC:CnOK P C){E:LnF}(hE:LnOK P E){T:Nat->Option VF}(hT:∀ f vf,T f=some vf->FnOK P f vf){f n:Nat}{vf:VF}(hf:T f=some vf){vals:List AV}{H:Hl}
  {ids:AV->Nat->List Nat} {r0:AV} {H0:Hl} (lg0:List Nat) (h:vcall (vcA g C E) ops0 T n vf vals H (endP H.length ids fun r H'=>r=r0/\H'=H0)) (hk:∀ b,b<H.length->b ∉ lg0->H0[b]? = H[b]?) :
  CallTo P f vals H r0 H0 lg0:=by
 obtain⟨r,H',lg,hc,e⟩:=qdi (qct hC hE) hT (hT f vf hf) (holds:=fun p=>p) h
 unfold endP at e
 split at e
 ·rename_i hm
  rw[qay] at hm e
  obtain⟨i1,i2,i3⟩:=qm6 hm
  obtain⟨e1,e2⟩:=e
  have:=hc.pick (ids r H'.length) i1 i2 i3 (lg0:=lg0) (by rw[e2]; exact hk)
  rw[e1,e2] at this
  exact this
 ·exact e.elim
def lnOr(C D:LnF):LnF:=fun n0 b fr H=>match C n0 b fr H with
 | some x=>some x
 | none=>D n0 b fr H
theorem qs7{P:Program}{C D:LnF}(h:LnOK P C)(k:LnOK P D):LnOK P (lnOr C D):=by
 intro n0 b fr H p x e hn hp
 unfold lnOr at e
 split at e
 ·rename_i y hy;cases e;exact h _ _ _ _ _ _ hy hn hp
 ·exact k _ _ _ _ _ _ e hn hp
end
end Go.Vm

namespace Go.Vm
set_option maxRecDepth 100000
noncomputable section
def Vw(H:Hl)(x y:AV):Prop:=VLe (ren (pickN []) (viewF H [] 3) true x) y
inductive Vws(H:Hl):List AV->List AV->Prop where
 | nil:Vws H [] []
 | cons {x y:AV} {xs ys:List AV} (h:Vw H x y) (t:Vws H xs ys):Vws H (x::xs) (y::ys)
theorem qnn{H:Hl}{xs ys:List AV}(h:Vws H xs ys){ρ:Rho}{w:World}:∀ {vs:List Value},VRels ρ w (renL (pickN []) (viewF H [] 3) true xs) vs->VRels ρ w ys vs:=by
 induction h with
 | nil=>intro vs hv;exact hv
 | cons h _ ih =>
  intro vs hv
  cases vs with
  | nil=>have:=hv.len;simp[renL] at this
  | cons v vs=>exact .cons (h _ _ _ hv.head) (ih hv.tail)
theorem CallTo.le{P:Program}{f:Nat}{vals vals':List AV}{H H':Hl}{r:AV}{lg:List Nat}(hc:CallTo P f vals' H r H' lg)(h:∀ ρ w us,VRels ρ w vals us->VRels ρ w vals' us):CallTo P f vals H r H' lg :=
 ⟨hc.real,hc.grow,hc.keep,fun ρ w us hg hv=>hc.does ρ w us hg (h ρ w us hv)⟩
theorem CallTo.lookV{P:Program}{f:Nat}{vals vals0:List AV}{r0:AV}{lg:List Nat}{H:Hl}(hc:CallTo P f vals0 [] r0 [] lg)(h:Vws H vals vals0):CallTo P f vals H (backV [] H.length r0) H [] :=
 CallTo.pure 3 (hc.le fun ρ w us hv=>qnn h hv)
theorem CallTo.lookS{P:Program}{f:Nat}{vals vals0:List AV}{o n c sz:Nat}{cs:List AV}{H:Hl}{lg:List Nat}(hc:CallTo P f vals0 [] (.slc 0 o n c sz) [.cells cs] lg)(h1:flatL cs)(h:Vws H vals vals0) :
  CallTo P f vals H (.slc (size H) o n c sz) (join H [.cells cs]) []:=by
 have hc':CallTo P f (renL (pickN []) (viewF H [] 3) true vals) (pickH (viewF H [] 3) [] H) (.slc 0 o n c sz) [.cells cs] lg:=hc.le fun ρ w us hv=>qnn h hv
 have h:=CallTo.frame (H:=H) (vals:=vals) [] 3 List.nodup_nil (fun b hb=>by cases hb) hc' (fun b c hp=>by cases hp)
 have e1:backH [] H [.cells cs]=join H [.cells cs]:=by
  apply List.ext_getElem?
  intro b
  rw[qck,qbx]
  by_cases hb:b<H.length
  ·rw[if_pos hb,List.getElem?_append_left hb]; rfl
  ·rw[if_neg hb,List.getElem?_append_right (by omega)]
   simp only[List.length_nil,Nat.zero_add]
   cases b - H.length with
   | zero=>simp[backB,renB,qaa h1]
   | succ d=>simp
 have e2:backL [] lg = []:=by simp[backL]
 have e3:backV [] H.length (.slc 0 o n c sz) = .slc (size H) o n c sz:=by simp[backV,ren,backN,qay]
 rw[e1,e2,e3] at h
 exact h
theorem Vw.same{H:Hl}{x:AV}(h:∀ σ φ,ren σ φ true x=x):Vw H x x:=by
 unfold Vw
 rw[h]
 exact VLe.refl x
theorem Vw.int(H:Hl)(k:IntKind)(n:Int):Vw H (.int k n) (.int k n) := .same fun _ _=>rfl
theorem Vw.str(H:Hl)(s:List UInt8):Vw H (.str s) (.str s) := .same fun _ _=>rfl
theorem Vw.agg(H:Hl){cs:List AV}(h:Still cs):Vw H (.agg cs) (.agg cs) := .same fun σ φ=>by simp only[ren,h σ φ]
def vw1(H:Hl)(x:AV):AV :=
 match x with
 | .ros cs o n c e => .ros cs o n c e
 | .slc b o n c _=>match nth H b with
  | some (.cells cs) => .ros cs o n c false
  | _ => .top
 | .nils => .ros [] 0 0 0 true
 | _ => .top
theorem Vw.one{H:Hl}{x:AV}{cs:List AV}{o n c:Nat}{e:Bool}(h:vw1 H x = .ros cs o n c e)(hf:flatL cs):Vw H x (.ros cs o n c e):=by
 unfold vw1 at h
 split at h
 ·cases h
  exact .same fun σ φ=>Still.ros (Still.flat hf) o n c e σ φ
 ·rename_i b o' n' c' sz
  split at h<;>cases h
  rename_i hb
  rw[qb5] at hb
  unfold Vw
  have:ren (pickN []) (viewF H [] 3) true (.slc b o n c sz) = .ros cs o n c false:=by
   have e1:pickN [] b=none:=rfl
   have e2:viewF H [] 3 b=some cs:=by
    unfold viewF
    rw[hb]
    simp only[qaa hf]
   simp only[ren,e1,e2]
  rw[this]
  exact VLe.refl _
 ·cases h
  exact VLe.nils
 ·cases h
theorem VLe.ros{cs cs':List AV}(hl:cs.length=cs'.length)(h:∀ (i:Nat) (a b:AV),cs[i]? = some a->cs'[i]? = some b->VLe a b)(o n c:Nat)(e:Bool):VLe (.ros cs o n c e) (.ros cs' o n c e):=by
 intro ρ w v hv
 have hne:cs' ≠ []->cs ≠ []:=fun hn h0=>hn (List.eq_nil_of_length_eq_zero (by rw[<-hl,h0]; rfl))
 cases hv with
 | ros _ _ _ _ _ B F ao cap' vs hlt hp hl' ho hc hr hcap hlen he ha =>
  refine .ros cs' o n c e B F ao cap' vs (fun hn=>hlt (hne hn)) (fun hn=>hp (hne hn)) (by omega) ho hc (fun i a v hi hv => ?_) hcap hlen he ha
  have hi':i<cs.length:=by rw[hl]; exact(List.getElem?_eq_some_iff.1 hi).1
  exact h i cs[i] a (by simp[hi']) hi ρ w v (hr i cs[i] v (by simp[hi']) hv)
def vw2(H:Hl)(x:AV):AV :=
 match x with
 | .ros ps o n c e => .ros (ps.map (vw1 H)) o n c e
 | .slc b o n c _=>match nth H b with
  | some (.cells ps) => .ros (ps.map (vw1 H)) o n c false
  | _ => .top
 | .nils => .ros [] 0 0 0 true
 | _ => .top
def Rows1(ps:List AV):Prop:=∀ p,p∈ps->∃ cs o n c e,p = .ros cs o n c e/\flatL cs
theorem Rows1.still{ps:List AV}(h:Rows1 ps):Still ps:=Still.all fun p hp σ φ=>by
 obtain⟨cs,o,n,c,e,rfl,hf⟩:=h p hp
 exact Still.ros (Still.flat hf) o n c e σ φ
theorem view2{H:Hl}{m:Nat}{x:AV}{cs:List AV}{o n c:Nat}{e:Bool}(h:vw1 H x = .ros cs o n c e)(hf:flatL cs):VLe (ren (pickN []) (viewF H [] (m+1)) true x) (.ros cs o n c e):=by
 unfold vw1 at h
 split at h
 ·cases h
  rw[Still.ros (Still.flat hf) o n c e]
  exact VLe.refl _
 ·rename_i b o' n' c' sz
  split at h<;>cases h
  rename_i hb
  rw[qb5] at hb
  have:ren (pickN []) (viewF H [] (m+1)) true (.slc b o n c sz) = .ros cs o n c false:=by
   have e1:pickN [] b=none:=rfl
   have e2:viewF H [] (m+1) b=some cs:=by
    unfold viewF
    rw[hb]
    simp only[qaa hf]
   simp only[ren,e1,e2]
  rw[this]
  exact VLe.refl _
 ·cases h
  exact VLe.nils
 ·cases h
theorem Vw.two{H:Hl}{x:AV}{ps:List AV}{o n c:Nat}{e:Bool}(h:vw2 H x = .ros ps o n c e)(hf:Rows1 ps):Vw H x (.ros ps o n c e):=by
 have key:∀ (m:Nat) (qs:List AV),Rows1 (qs.map (vw1 H))->∀ o n c e,VLe (.ros (renL (pickN []) (viewF H [] (m+1)) true qs) o n c e) (.ros (qs.map (vw1 H)) o n c e):=by
  intro m qs hq o n c e
  refine VLe.ros (by rw[qbs,List.length_map]) (fun i a b ha hb => ?_) o n c e
  rw[qek] at ha
  rw[List.getElem?_map] at hb
  obtain⟨y,hy,rfl⟩:=Option.map_eq_some_iff.1 ha
  rw[hy] at hb
  cases hb
  obtain⟨cs,o',n',c',e',e1,hcs⟩:=hq (vw1 H y) (List.mem_map.2 ⟨y,List.mem_of_getElem? hy,rfl⟩)
  rw[e1]
  exact view2 e1 hcs
 unfold vw2 at h
 split at h
 ·rename_i qs _ _ _ _
  cases h
  exact key 2 qs hf o n c e
 ·rename_i b o' n' c' sz
  split at h<;>cases h
  rename_i qs hb
  rw[qb5] at hb
  unfold Vw
  have:ren (pickN []) (viewF H [] 3) true (.slc b o n c sz) = .ros (renL (pickN []) (viewF H [] 2) true qs) o n c false:=by
   have e1:pickN [] b=none:=rfl
   have e2:viewF H [] 3 b=some (renL (pickN []) (viewF H [] 2) true qs):=by
    rw[viewF,hb]
   simp only[ren,e1,e2]
  rw[this]
  exact key 1 qs hf o n c false
 ·cases h
  exact VLe.nils
 ·cases h
end
end Go.Vm

namespace Go.Vm
set_option maxRecDepth 100000
noncomputable section
def endB(Q:Nat->Nat->Nat->Nat->List AV->Prop):AV->Hl->List Nat->Prop:=fun r H _=>match r with
 | .slc b o n c sz=>match nth H b with
  | some (.cells cs)=>flatL cs/\Q o n c sz cs
  | _=>False
 | _=>False
theorem qhu(b:Nat):pickN [b] b=some 0:=by
 unfold pickN qaq
 rw[Nat.beq_refl]
theorem qfm{P:Program}{g:Kd->Bool}{C:CnF}(hC:CnOK P C){E:LnF}(hE:LnOK P E){T:Nat->Option VF}(hT:∀ f vf,T f=some vf->FnOK P f vf){f n:Nat}{vf:VF}(hf:T f=some vf){vals:List AV}
  {o m c sz:Nat} {cs:List AV} (h:vcall (vcA g C E) ops0 T n vf vals [] (endB fun o' m' c' sz' cs'=>o'=o/\m'=m/\c'=c/\sz'=sz/\cs'=cs)):CallTo P f vals [] (.slc 0 o m c sz) [.cells cs] []:=by
 obtain⟨r,H',lg,hc,e⟩:=qcu hC hE hT hf h
 unfold endB at e
 split at e
 ·rename_i b o' m' c' sz'
  split at e
  ·rename_i cs' hb
   obtain⟨hfl,rfl,rfl,rfl,rfl,rfl⟩:=e
   rw[qb5] at hb
   have hlt:b<H'.length:=(List.getElem?_eq_some_iff.1 hb).1
   have h1:=hc.pick [b] (by simp) (by simpa using hlt) (by simp) (lg0 := []) (by simp)
   have e1:ren (pickN [b]) noView true (.slc b o' m' c' sz') = .slc 0 o' m' c' sz':=by
    simp only[ren,qhu]
   have e2:wkH [b] H' = [.cells cs']:=by
    simp only[wkH,pickH,List.map_cons,List.map_nil,hb,renB,qaa hfl]
   rw[e1,e2] at h1
   exact h1
  ·exact e.elim
 ·exact e.elim
theorem Weak.pickV{n0:Nat}{fr:Fr}{H:Hl}(ids:List Nat)(bs:List Bool)(n:Nat)(hn:ids.Nodup)(hlt:∀ b,b∈ids->b<H.length)(h0:∀ b,b<n0->ids[b]? = some b) :
  Weak n0 fr H (Go.Vm.forget bs (renL (pickN ids) (viewF H ids n) true fr)) (pickH (viewF H ids n) ids H) where
 grow:=by
  simp only[pickH,List.length_map]
  rcases Nat.eq_zero_or_pos n0 with h|h
  ·omega
  ·have:=(List.getElem?_eq_some_iff.1 (h0 (n0 - 1) (by omega))).1
   omega
 does ρ w hg:=by
  refine⟨pickR ids ρ,hg.pick hn hlt (qif hg n),⟨Nat.le_refl _,rfl,rfl,rfl,fun _ _ _=>rfl,fun b hb _ => .inl ?_,fun b B F hl => ?_,fun _ _=>rfl⟩,fun tmps h => ?_⟩
  ·simp[pickR,h0 b hb]
  ·obtain⟨b',_,e⟩:=qbj hl
   exact .inr ⟨b',F,e⟩
  ·exact qdh (qle (fun b c=>qem) (fun _ c B F h=>let ⟨b,_,e⟩:=qbj h;⟨b,F,e⟩) (qif hg n) h)
theorem qap.post{P:Program}{n0:Nat}{b:VC}{fr fr1 fr2:Fr}{H H1 H2:Hl}{ex:Ex}(h:qap P n0 b fr H ex fr1 H1)(k:Weak n0 fr1 H1 fr2 H2):qap P n0 b fr H ex fr2 H2:=by
 intro c hc
 obtain⟨lg,hg⟩:=h c hc
 exact⟨_,hg.post k⟩
theorem VLe.loose(cs:List AV)(o n c:Nat)(e:Bool):VLe (.ros cs o n c e) (.ros cs o n c false):=by
 intro ρ w v hv
 cases hv with
 | ros _ _ _ _ _ B F ao cap' vs hlt hp hl' ho hc hr hcap hlen he ha =>
  exact .ros cs o n c false B F ao cap' vs hlt hp hl' ho hc hr hcap hlen (fun h=>by cases h) ha
theorem FLe.refl(fr:Fr):FLe fr fr:=⟨rfl,fun i a b ha hb=>by rw[ha] at hb;cases hb;exact VLe.refl _⟩
theorem FLe.put{fr:Fr}{k:Nat}{a b:AV}(h:fr[k]? = some a)(hl:VLe a b):FLe fr (Go.Vm.put fr k b):=by
 have hp:∀ (fr:Fr) (k:Nat),Go.Vm.put fr k b=fr.set k b:=by
  intro fr
  induction fr with
  | nil=>intro k;rfl
  | cons x xs ih =>
   intro k
   cases k with
   | zero=>rfl
   | succ k=>rw[qkw,ih]; rfl
 rw[hp]
 refine⟨by simp,fun i x y hx hy => ?_⟩
 by_cases hi:i=k
 ·subst hi
  rw[h] at hx
  cases hx
  have hlt:=(List.getElem?_eq_some_iff.1 h).1
  rw[List.getElem?_set_self hlt] at hy
  cases hy
  exact hl
 ·rw[List.getElem?_set_ne (by omega)] at hy
  rw[hx] at hy
  cases hy
  exact VLe.refl _
end
end Go.Vm
