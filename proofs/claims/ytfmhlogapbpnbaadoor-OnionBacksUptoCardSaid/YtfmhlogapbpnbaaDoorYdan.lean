/-
  ARGUMENTS AS THE MACHINE SEES THEM: bytes, arrays of whole numbers.
-/
import Derived.Test.YtfmhlogapbpnbaaDoorYdam
import Derived.Test.YtfmhlogapbpnbaaDoorYdaf
import Derived.Test.YtfmhlogapbpnbaaDoorYdaj
import Derived.Test.YtfmhlogapbpnbaaDoorRows
import Derived.ProofKit
set_option linter.unusedVariables false
set_option linter.unusedSimpArgs false
set_option linter.unusedSectionVars false

namespace Go.Proofs.Vm
set_option maxRecDepth 100000
open Go.Vm Go.ChangeShapes Go.WideShapes Go.ChangeAt Go.RowKit
theorem bulk_one{H:Type}(d:DataW H):1 ≤ YtfmhlogapbpnbaaDoor.Rows.uptoBulk d:=by
 cases d with
 | lit l=>cases l<;>simp[YtfmhlogapbpnbaaDoor.Rows.uptoBulk]
 | nil=>simp[YtfmhlogapbpnbaaDoor.Rows.uptoBulk]
 | ptr d=>simp[YtfmhlogapbpnbaaDoor.Rows.uptoBulk]
 | slice elems spare=>simp[YtfmhlogapbpnbaaDoor.Rows.uptoBulk]
 | agg parts=>simp[YtfmhlogapbpnbaaDoor.Rows.uptoBulk]
 | iface t d=>simp[YtfmhlogapbpnbaaDoor.Rows.uptoBulk]
 | map entries=>simp[YtfmhlogapbpnbaaDoor.Rows.uptoBulk]
 | held h=>simp[YtfmhlogapbpnbaaDoor.Rows.uptoBulk]
theorem bulk_part{H:Type}{d:DataW H}{l:List (DataW H)}(h:d∈l) : YtfmhlogapbpnbaaDoor.Rows.uptoBulk d ≤ YtfmhlogapbpnbaaDoor.Rows.uptoBulkAll l:=by
 induction l with
 | nil=>cases h
 | cons x r ih =>
  simp only[YtfmhlogapbpnbaaDoor.Rows.uptoBulkAll]
  cases List.mem_cons.1 h with
  | inl e=>subst e;omega
  | inr e=>have:=ih e;omega
theorem bulk_length{H:Type}(l:List (DataW H)):l.length ≤ YtfmhlogapbpnbaaDoor.Rows.uptoBulkAll l:=by
 induction l with
 | nil=>simp[YtfmhlogapbpnbaaDoor.Rows.uptoBulkAll]
 | cons x r ih=>have:=bulk_one x;simp only[YtfmhlogapbpnbaaDoor.Rows.uptoBulkAll,List.length_cons]; omega
theorem bulk_slice{H:Type}(elems spare:List (DataW H)):elems.length ≤ YtfmhlogapbpnbaaDoor.Rows.uptoBulk (.slice elems spare):=by
 have h1:=bulk_length elems
 simp only[YtfmhlogapbpnbaaDoor.Rows.uptoBulk]
 omega
theorem by8_int{n:Int}(h:(Lit.int .u8 n).wf=true):by8 (UInt8.ofNat n.toNat) = .int .u8 n:=by
 have hx:0≤n∧n≤255:=by simpa[Lit.wf,IntKind.min,IntKind.max,IntKind.signed,IntKind.bits] using h
 unfold by8
 congr 1
 rw[UInt8.toNat_ofNat_of_lt' (by show _<256;omega)]
 simp only[Int.ofNat_eq_natCast]
 omega
def intA':Value→Int
 | .int _ n=>n
 | _=>0
set_option maxRecDepth 100000
theorem open_bytes{H:Type}{enc:TypeId × Value→H}{W:World}{base:Nat}{t e:TypeId}{v:Value}{d:DataW H}{p:List MemPlace}(ht:Tryd.prog.underlying t=some (.slice e))(he:Tryd.prog.underlying e=some (.int .u8))(hc:Tryd.prog.cellsOf e=1)
  (hval:Value.okWide Tryd.prog W .any base t v) (h:DataW.Trod enc Tryd.prog W 0 (fun _=>true) true t v d p) :
  ∃ (pc:List AV) (off len cap:Nat) (ex:Bool) (lb:List UInt8),VRel noRho W (.ros pc off len cap ex) v∧flatL pc∧off+len≤pc.length∧BytesAt pc off len lb∧len ≤ YtfmhlogapbpnbaaDoor.Rows.uptoBulk d∧len≤cap:=by
 obtain⟨a0,len,cap,rfl⟩:=okWide_slice ht hval
 obtain⟨fuel,hf⟩:=h
 rcases open_ints ht he hc hf with ⟨hcs,hx⟩|⟨a,len',cap',zs,hcs,_,hl,hm,hz,hx,hcell,hwz⟩
 ·simp[Value.cells] at hcs
  obtain⟨rfl,rfl,rfl⟩:=hcs
  exact⟨[],0,0,0,true,[],.ros [] 0 0 0 true 0 0 none 0 [] (fun h=>absurd rfl h) (fun h=>absurd rfl h) rfl (by simp) (by simp) (by simp) (Nat.le_refl _) (Nat.le_refl _) (fun _=>rfl) (fun h=>absurd rfl h),fun a ha=>(by cases ha),by simp,⟨rfl,rfl⟩,Nat.zero_le _,Nat.le_refl _⟩
 ·simp[Value.cells] at hcs
  obtain⟨rfl,rfl,rfl⟩:=hcs
  simp only[if_true] at hz
  simp only[Prod.mk.injEq] at hx
  obtain⟨rfl,_⟩:=hx
  have hspot:zs ≠ []→a=⟨a.block,a.off,none⟩:=by
   intro hn
   have h0:0<zs.length:=List.length_pos_iff.2 hn
   have:=hcell 0 h0
   simp only[Addr.add,if_true,World.cell?] at this
   obtain⟨b,o,s⟩:=a
   cases s with
   | none=>rfl
   | some k =>
    exfalso
    split at this<;>simp at this
  have hlt:zs ≠ []→a.block<W.heap.size:=by
   intro hn
   have h0:0<zs.length:=List.length_pos_iff.2 hn
   have:=hcell 0 h0
   simp only[Addr.add,if_true,World.cell?] at this
   rcases Nat.lt_or_ge a.block W.heap.size with h'|h'
   ·exact h'
   ·simp[Array.getElem?_eq_none h'] at this
  refine⟨zs.map (AV.int .u8),0,len,zs.length,true,(zs.take len).map fun n=>UInt8.ofNat n.toNat,?_,?_,?_,⟨by simp;omega,?_⟩,?_,by omega⟩
  ·subst hz
   refine .ros (zs.map (AV.int .u8)) 0 len zs.length true a.block a.off (some a) zs.length (zs.map (Value.int .u8)) (fun hn=>hlt (by intro e;subst e;exact hn rfl)) (fun _ b F' h=>by cases h) (by simp) ?_ ?_ ?_ (Nat.le_refl _) hl (fun _=>rfl) ?_
   ·intro v hv
    obtain⟨n,_,rfl⟩:=List.mem_map.1 hv
    rfl
   ·intro i v hv
    have hi:i<zs.length:=by
     have:=(List.getElem?_eq_some_iff.1 hv).1
     simpa using this
    have hne:zs ≠ []:=by intro e;subst e;simp at hi
    have:=hcell i hi
    rw[hspot hne] at this
    have e2:(Addr.add ⟨a.block,a.off,none⟩ i)=⟨a.block,a.off+i,none⟩:=by
     unfold Addr.add
     by_cases h0:i=0
     ·subst h0;simp
     ·rw[if_neg h0]
    rw[e2] at this
    rw[this]
    rw[List.getElem?_map,List.getElem?_eq_getElem hi] at hv
    have e3:zs.getD i 0=zs[i]:=by simp[hi]
    rw[e3]
    exact hv
   ·intro i a v ha hv
    rw[List.getElem?_map] at ha hv
    obtain⟨n,hn,rfl⟩:=Option.map_eq_some_iff.1 ha
    rw[hn] at hv
    cases hv
    exact .int _ _
   ·intro hn
    have hne:zs ≠ []:=by intro e;subst e;exact hn rfl
    exact congrArg some (hspot hne)
  ·intro a ha
   obtain⟨n,_,rfl⟩:=List.mem_map.1 ha
   rfl
  ·simp;omega
  ·rw[List.drop_zero,←List.map_take,List.map_map]
   apply List.map_congr_left
   intro n hn
   exact(by8_int (hwz n (List.mem_of_mem_take hn))).symm
  ·refine Nat.le_trans ?_ (bulk_slice _ _)
   simp[lits]
   omega
theorem open_arr_ints{W:World}{base:Nat}{t e n:Nat}{k:IntKind}{v:Value}(ht:Tryd.prog.underlying t=some (.array n e))(he:Tryd.prog.underlying e=some (.int k))(hc:Tryd.prog.cellsOf t=n)(hts:Tryd.prog.cellTypes Tryd.prog.depth t=some (List.replicate n e))
  (hval:Value.okWide Tryd.prog W .any base t v):∃ zs:List Int,v = .agg (zs.map (Value.int k)).toArray∧zs.length=n∧∀ z∈zs,k.has z:=by
 simp only[Value.okWide,ht] at hval
 obtain⟨cs,rfl,hsz,ts,h1,_,h3⟩:=hval
 rw[hts] at h1
 cases h1
 rw[hc] at hsz
 have each:∀ (i:Nat) (v:Value),cs[i]? = some v→∃ z,v=Value.int k z∧k.has z:=by
  intro i v hv
  obtain⟨u,hu,hx⟩:=h3 i v hv
  have hue:u=e:=by
   rw[List.getElem?_replicate] at hu
   split at hu<;>cases hu
   rfl
  subst hue
  simp only[Cell.okWide,he,Cell.ok] at hx
  cases v<;>simp_all
 refine⟨cs.toList.map intA',?_,by simp[hsz],?_⟩
 ·congr 1
  apply Array.ext
  ·simp
  ·intro i h1 h2
   have hi:cs[i]? = some cs[i]:=by simp[h1]
   obtain⟨z,hz,_⟩:=each i _ hi
   simp[intA',hz]
 ·intro z hz
  obtain⟨v,hv,rfl⟩:=List.mem_map.1 hz
  obtain⟨i,hi,e⟩:=List.mem_iff_getElem.1 hv
  have hi':cs[i]? = some v:=by
   rw[←e]
   have:i<cs.size:=by simpa using hi
   simp[this]
  obtain⟨z,hz,hh⟩:=each i v hi'
  rw[hz]
  exact hh
theorem arr_rel(w:World)(k:IntKind)(zs:List Int):VRel noRho w (.agg (zs.map (AV.int k))) (.agg (zs.map (Value.int k)).toArray):=by
 refine .agg _ _ (by simp) (fun v hv => ?_) (fun i a v ha hv => ?_)
 ·obtain⟨n,_,rfl⟩:=List.mem_map.1 hv
  rfl
 ·rw[List.getElem?_map] at ha hv
  obtain⟨n,hn,rfl⟩:=Option.map_eq_some_iff.1 ha
  rw[hn] at hv
  cases hv
  exact .int _ _
end Go.Proofs.Vm

namespace Go.Proofs.Vm
set_option maxRecDepth 100000
open Go.Vm Go.ChangeShapes Go.WideShapes Go.ChangeAt Go.RowKit
set_option maxRecDepth 100000
theorem key_of{zs:List Int}{n:Nat}(hz:zs.length=n)(hw:∀ z∈zs,IntKind.u8.has z)(W:World):∃ key:List UInt8,key.length=n∧VRel noRho W (.agg (key.map by8)) (.agg (zs.map (Value.int .u8)).toArray):=by
 refine⟨zs.map fun z=>UInt8.ofNat z.toNat,by simp[hz],?_⟩
 have e:(zs.map fun z=>UInt8.ofNat z.toNat).map by8=zs.map (AV.int .u8):=by
  rw[List.map_map]
  apply List.map_congr_left
  intro z hz'
  refine by8_int ?_
  have:=hw z hz'
  simp only[Lit.wf]
  simpa[IntKind.has,IntKind.min,IntKind.max,IntKind.signed,IntKind.bits] using this
 rw[e]
 exact arr_rel W .u8 zs
theorem spot_of{W:World}{a:Addr}{v:Value}(h:W.cell? a=some v):a=⟨a.block,a.off,none⟩∧a.block<W.heap.size:=by
 obtain⟨b,o,s⟩:=a
 simp only[World.cell?] at h
 constructor
 ·cases s with
  | none=>rfl
  | some k =>
   exfalso
   split at h<;>simp at h
 ·show b<W.heap.size
  rcases Nat.lt_or_ge b W.heap.size with h'|h'
  ·exact h'
  ·simp[Array.getElem?_eq_none h'] at h
theorem add_none{b o i:Nat}:(Addr.add ⟨b,o,none⟩ i)=⟨b,o+i,none⟩:=by
 unfold Addr.add
 by_cases h0:i=0
 ·subst h0;simp
 ·rw[if_neg h0]
end Go.Proofs.Vm

namespace Go.Proofs.Vm
set_option maxRecDepth 100000
open Go.Vm
noncomputable section
end
end Go.Proofs.Vm

namespace Go.Proofs.Vm
set_option maxRecDepth 100000
open Go.Vm Go.ChangeShapes Go.WideShapes Go.ChangeAt Go.RowKit
set_option maxRecDepth 100000
theorem open_row{W:World}{a:Addr}{n m:Nat}{avs:List AV}{vs:List Value}(ha:avs.length=m)(hv:vs.length=m)(hone:∀ v∈vs,vone v=true)
  (hrel:∀ (i:Nat) x v,avs[i]? = some x→vs[i]? = some v→VRel noRho W x v) (hcell:∀ (i:Nat) v,vs[i]? = some v→W.cell? (a.add i)=some v) {cap:Nat} (hcap:n≤cap) (hs:a.spot=none) :
  VRel noRho W (.ros avs 0 n n false) (.slice (some a) n cap):=by
 have hspot:avs ≠ []→a=⟨a.block,a.off,none⟩∧a.block<W.heap.size:=by
  intro hn
  have h0:0<vs.length:=by
   rw[hv,←ha]
   exact List.length_pos_iff.2 hn
  have h1:=hcell 0 vs[0] (List.getElem?_eq_getElem h0)
  have e0:a.add 0=a:=by simp[Addr.add]
  rw[e0] at h1
  exact spot_of h1
 refine .ros avs 0 n n false a.block a.off (some a) cap vs (fun hn=>(hspot hn).2) (fun _ b F' h=>by cases h) (by omega) hone ?_ hrel (by omega) (by omega) (fun h=>by cases h) (fun _=>by obtain⟨b,o,s⟩:=a;cases hs;rfl)
 intro i v hi
 have hlt:i<vs.length:=(List.getElem?_eq_some_iff.1 hi).1
 have hne:avs ≠ []:=by intro e;rw[e] at ha;simp at ha;omega
 have h1:=hcell i v hi
 rw[(hspot hne).1,add_none] at h1
 exact h1
theorem pick_row{α:Type}{n:Nat}{R:Nat→α→Prop}(h:∀ i,i<n→∃ x,R i x):∃ l:List α,l.length=n∧∀ (i:Nat) x,l[i]? = some x→R i x:=by
 induction n with
 | zero=>exact⟨[],rfl,fun i x hx=>by cases hx⟩
 | succ n ih =>
  obtain⟨l,h1,h2⟩:=ih fun i hi=>h i (by omega)
  obtain⟨x,hx⟩:=h n (by omega)
  refine⟨l ++ [x],by simp[h1],fun i y hy => ?_⟩
  rcases Nat.lt_or_ge i n with hi|hi
  ·rw[List.getElem?_append_left (by omega)] at hy
   exact h2 i y hy
  ·have hlt:i<(l ++ [x]).length:=(List.getElem?_eq_some_iff.1 hy).1
   have hin:i=n:=by simp[h1] at hlt;omega
   subst hin
   rw[List.getElem?_append_right (by omega),h1,Nat.sub_self] at hy
   cases hy
   exact hx
theorem flat_get{L:List (List UInt8)}(h:∀ x,x∈L→x.length=32){j:Nat}{b:UInt8}(hj:L.flatten[j]? = some b):∃ x,L[j / 32]? = some x∧x[j % 32]? = some b:=by
 have hlt:j<L.flatten.length:=(List.getElem?_eq_some_iff.1 hj).1
 have hi:j / 32<L.length:=by rw[flat_len h] at hlt;omega
 have hx:=List.getElem?_eq_getElem hi
 refine⟨L[j / 32],hx,?_⟩
 have hd:=sh_drop [] L (j / 32) L[j / 32] h hx
 rw[List.append_nil] at hd
 have e1:((L.flatten.map by8).drop (j / 32*32)).take 32=((L.flatten.drop (j / 32*32)).take 32).map by8:=by rw[List.map_take,List.map_drop]
 rw[e1] at hd
 have hd2:(L.flatten.drop (j / 32*32)).take 32=L[j / 32]:=by
  have:=congrArg bytesA hd
  rwa [bytesA_by8,bytesA_by8] at this
 rw[←hd2,List.getElem?_take,if_pos (by omega),List.getElem?_drop,show j / 32*32+j % 32=j by omega]
 exact hj
end Go.Proofs.Vm

namespace Go.Proofs.Vm
set_option maxRecDepth 100000
open Go.Vm Go.ChangeShapes Go.WideShapes Go.ChangeAt Go.RowKit
set_option maxRecDepth 100000
def v8(b:UInt8):Value := .int .u8 (Int.ofNat b.toNat)
section
variable {H:Type}{enc:TypeId × Value→H}{W:World}{base:Nat}{n:Nat}{cs:List Value}{y:DataW H × List MemPlace}
end
theorem open_keys{H:Type}{enc:TypeId × Value→H}{W:World}{base:Nat}{t e u:TypeId}{v:Value}{d:DataW H}{p:List MemPlace}(ht:Tryd.prog.underlying t=some (.slice e))(he:Tryd.prog.underlying e=some (.array 32 u))
  (hu:Tryd.prog.underlying u=some (.int .u8)) (hc:Tryd.prog.cellsOf e=32) (hcu:Tryd.prog.cellsOf u=1) (hval:Value.okWide Tryd.prog W .any base t v) (h:DataW.Trod enc Tryd.prog W 0 (fun _=>true) true t v d p)
  (hb : YtfmhlogapbpnbaaDoor.Rows.uptoBulk d≤1048576):∃ (cs:List AV) (n c:Nat) (ex:Bool),VRel noRho W (.ros cs 0 n c ex) v∧PSh cs 0 n∧n≤1048576∧cs.length=n*32:=by
 obtain⟨a0,len,cap,rfl⟩:=okWide_slice ht hval
 obtain⟨fuel,hf⟩:=h
 rcases DataW.trod_slice ht hf with ⟨hcs,hx⟩|⟨a,len',cap',elems,rest,n,_,hcs,hx,_,hl,hm,hlen,hel,hsp,hns⟩
 ·simp[Value.cells] at hcs
  obtain⟨rfl,rfl,rfl⟩:=hcs
  exact⟨[],0,0,true,.ros [] 0 0 0 true 0 0 none 0 [] (fun h=>absurd rfl h) (fun h=>absurd rfl h) rfl (by simp) (by simp) (by simp) (Nat.le_refl _) (Nat.le_refl _) (fun _=>rfl) (fun h=>absurd rfl h),
   psh_flat (L := []) (fun x hx=>by cases hx) (by decide) rfl,by omega,rfl⟩
 ·simp[Value.cells] at hcs
  obtain⟨rfl,rfl,rfl⟩:=hcs
  simp only[Prod.mk.injEq] at hx
  obtain⟨rfl,_⟩:=hx
  have hbl:=Nat.le_trans (bulk_slice (elems.map (·.1)) (rest.map (·.1))) hb
  rw[List.length_map,hlen] at hbl
  have hspot:a.spot=none:=by
   simp only[Value.okWide,ht,Cell.okWide,Cell.ok] at hval
   exact hval.2.2.2.1
  have each:∀ i,i<len→∃ x:List UInt8,x.length=32∧∀ (k:Nat) b,x[k]? = some b→W.cell? (a.add (i*32+k))=some (.int .u8 (Int.ofNat b.toNat)):=by
   intro i hi
   have h1:=hel i hi
   rw[hc,List.getElem?_eq_getElem (by omega),Option.bind_eq_some_iff] at h1
   obtain⟨cs',hcs',hy⟩:=h1
   obtain⟨xs,m,_,_,hl1,hl2,hk⟩:=DataW.trod_array he hy
   obtain⟨_,hlc,hcell⟩:=World.cells?_some hcs'
   have cell:∀ k,k<32→∃ b:UInt8,cs'[k]? = some (.int .u8 (Int.ofNat b.toNat)):=by
    intro k hk32
    have h2:=hk k hk32
    rw[hcu,Nat.mul_one,List.getElem?_eq_getElem (by omega)] at h2
    obtain⟨z,hz,_,hw⟩:=DataW.trod_int hu h2
    have hzz:cs'[k]? = some (.int .u8 z):=by
     have:=congrArg (fun l=>l[0]?) hz
     simpa using this
    have hx:0≤z∧z≤255:=by simpa[Lit.wf,IntKind.min,IntKind.max,IntKind.signed,IntKind.bits] using hw
    refine⟨UInt8.ofNat z.toNat,?_⟩
    rw[hzz,UInt8.toNat_ofNat_of_lt' (by show _<256;omega)]
    congr 2
    simp only[Int.ofNat_eq_natCast]
    omega
   obtain⟨x,hx1,hx2⟩:=pick_row cell
   refine⟨x,hx1,fun k b hkb => ?_⟩
   have hk32:k<32:=by
    have:=(List.getElem?_eq_some_iff.1 hkb).1
    omega
   have h3:=hcell k hk32
   rw[hx2 k b hkb] at h3
   have e2:(a.add (i*32)).add k=a.add (i*32+k):=by
    obtain⟨b,o,s⟩:=a
    cases hspot
    rw[add_none,add_none,add_none,Nat.add_assoc]
   rw[e2] at h3
   exact h3
  obtain⟨L,hL1,hL2⟩:=pick_row each
  have h32:∀ x,x∈L→x.length=32:=by
   intro x hx
   obtain⟨i,hi⟩:=List.getElem?_of_mem hx
   exact(hL2 i x hi).1
  refine⟨L.flatten.map by8,len,len,false,open_row (m:=L.flatten.length) (vs:=L.flatten.map fun b=>Value.int .u8 (Int.ofNat b.toNat)) (by rw[List.length_map]) (by rw[List.length_map]) ?_ ?_ ?_ hl hspot,psh_flat h32 (by omega) hL1.symm,hbl,by rw[List.length_map,flat_len h32,hL1]⟩
  ·intro x hx;obtain⟨b,_,rfl⟩:=List.mem_map.1 hx;rfl
  ·intro i x v hx hv
   rw[List.getElem?_map] at hx hv
   obtain⟨b,hb,rfl⟩:=Option.map_eq_some_iff.1 hx
   rw[hb] at hv
   cases hv
   exact .int _ _
  ·intro j v hv
   rw[List.getElem?_map] at hv
   obtain⟨b,hb,rfl⟩:=Option.map_eq_some_iff.1 hv
   obtain⟨x,hx1,hx2⟩:=flat_get h32 hb
   have h4:=(hL2 (j / 32) x hx1).2 (j % 32) b hx2
   rw[show j / 32*32+j % 32=j by omega] at h4
   exact h4
end Go.Proofs.Vm

namespace Go.Proofs.Vm
def headCh:List Char := [.ofNat 104,.ofNat 97,.ofNat 114,.ofNat 110,.ofNat 101,.ofNat 115,.ofNat 115,.ofNat 32,.ofNat 48,.ofNat 54,.ofNat 50,.ofNat 53,.ofNat 48,.ofNat 53,.ofNat 57,.ofNat 53,.ofNat 56,.ofNat 57,.ofNat 55,.ofNat 99,.ofNat 99,.ofNat 49,.ofNat 99,.ofNat 49,.ofNat 51,.ofNat 98,.ofNat 52,.ofNat 99,.ofNat 48,.ofNat 49,.ofNat 101,.ofNat 50,.ofNat 101,.ofNat 56,.ofNat 55,.ofNat 55,.ofNat 100,.ofNat 97,.ofNat 102,.ofNat 100,.ofNat 56,.ofNat 52,.ofNat 57,.ofNat 100,.ofNat 52,.ofNat 51,.ofNat 56,.ofNat 51,.ofNat 102,.ofNat 57,.ofNat 55,.ofNat 52,.ofNat 48,.ofNat 102,.ofNat 57,.ofNat 50,.ofNat 57,.ofNat 54,.ofNat 57,.ofNat 57,.ofNat 100,.ofNat 50,.ofNat 52,.ofNat 56,.ofNat 50,.ofNat 98,.ofNat 53,.ofNat 54,.ofNat 50,.ofNat 53,.ofNat 55,.ofNat 50,.ofNat 32,.ofNat 99,.ofNat 117,.ofNat 116,.ofNat 32,.ofNat 97,.ofNat 116,.ofNat 32,.ofNat 116,.ofNat 111,.ofNat 108,.ofNat 108,.ofNat 104,.ofNat 111,.ofNat 117,.ofNat 115,.ofNat 101,.ofNat 47,.ofNat 116,.ofNat 111,.ofNat 108,.ofNat 108,.ofNat 104,.ofNat 111,.ofNat 117,.ofNat 115,.ofNat 101,.ofNat 108,.ofNat 97,.ofNat 119,.ofNat 48,.ofNat 55,.ofNat 46,.ofNat 79,.ofNat 110,.ofNat 105,.ofNat 111,.ofNat 110,.ofNat 66,.ofNat 97,.ofNat 99,.ofNat 107,.ofNat 115,.ofNat 32,.ofNat 116,.ofNat 111,.ofNat 108,.ofNat 108,.ofNat 104,.ofNat 111,.ofNat 117,.ofNat 115,.ofNat 101,.ofNat 47,.ofNat 116,.ofNat 111,.ofNat 108,.ofNat 108,.ofNat 104,.ofNat 111,.ofNat 117,.ofNat 115,.ofNat 101,.ofNat 108,.ofNat 97,.ofNat 119,.ofNat 48,.ofNat 55,.ofNat 46,.ofNat 79,.ofNat 110,.ofNat 105,.ofNat 111,.ofNat 110,.ofNat 70,.ofNat 97,.ofNat 105,.ofNat 108,.ofNat 115]
theorem head_lit:Tryd.prog.initOrder=String.ofList headCh:=by kernel_rfl
theorem head_list:Tryd.prog.initOrder.toList=headCh:=by rw[head_lit]; exact String.toList_ofList
theorem head_behind:∃ rest,behindMainWord (wordsSigns Tryd.prog.initOrder.toList) = "cut".toList::rest :=
 ⟨(behindMainWord (wordsSigns headCh)).tail,by rw[head_list]; kernel_rfl⟩
theorem strip_cut(rest:List (List Char)):stripLifts liftWords ("cut".toList::rest)=([], "cut".toList::rest):=by kernel_rfl
theorem make_of{P:Program}{rest:List (List Char)}(h:behindMainWord (wordsSigns P.initOrder.toList) = "cut".toList::rest):P.make=some .cut:=by
 unfold Program.make
 rw[h]
 have e1:("cut".toList == "gc".toList || "cut".toList == "spec".toList)=false:=by kernel_rfl
 have e2:("cut".toList == "cut".toList)=true:=by kernel_rfl
 simp only[e1,e2,Bool.true_or,if_true]
 rfl
theorem mayEnter_of{P:Program}{rest:List (List Char)}(h:behindMainWord (wordsSigns P.initOrder.toList) = "cut".toList::rest)(h1:P.laysLater=false)(h2:P.bearsReflect=false)(h3:P.doorFits []=true):P.mayEnter=true:=by
 unfold Program.mayEnter
 rw[h]
 simp only[strip_cut,h1,h2,h3]
 have e2:(List.head? ("cut".toList::rest) == some "cut".toList)=true:=by kernel_rfl
 simp only[e2]
 simp
theorem liftsFinal_of{P:Program}{rest:List (List Char)}(h:behindMainWord (wordsSigns P.initOrder.toList) = "cut".toList::rest):P.liftsFinal=false:=by
 unfold Program.liftsFinal Program.headLifts
 rw[h]
 simp only[strip_cut]
 have e2:(List.head? ("cut".toList::rest) == some "cut".toList)=true:=by kernel_rfl
 have e3:(List.head? ("cut".toList::rest) == some "carried".toList)=false:=by kernel_rfl
 simp only[e2,e3]
 simp
theorem f_laysLater:Tryd.prog.laysLater=false:=by kernel_rfl
theorem f_bearsReflect:Tryd.prog.bearsReflect=false:=by kernel_rfl
theorem f_doorFits:Tryd.prog.doorFits []=true:=by kernel_rfl
theorem f_mayEnter:Tryd.prog.mayEnter=true:=head_behind.elim fun _ h=>mayEnter_of h f_laysLater f_bearsReflect f_doorFits
theorem f_liftsFinal:Tryd.prog.liftsFinal=false:=head_behind.elim fun _ h=>liftsFinal_of h
theorem f_make:Tryd.prog.make=some .cut:=head_behind.elim fun _ h=>make_of h
theorem lifted_of{P:Program}{b:Bool}(h:P.liftsFinal=false)(hb:b=false):(b == P.liftsFinal)=true:=by rw[h,hb]; rfl
theorem made_of{P:Program}{m:Make}(h:P.make=some .cut)(hm:m = .cut):(P.make == some m)=true:=by rw[h,hm]; rfl
end Go.Proofs.Vm
