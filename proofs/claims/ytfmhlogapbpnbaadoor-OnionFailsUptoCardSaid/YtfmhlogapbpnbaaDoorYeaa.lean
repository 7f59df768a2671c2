/-
  A VERIFIED SYMBOLIC MACHINE, PART A: its values, and how they stand to the model's (no program in sight).
-/
import Derived.WalkKit
import Derived.Laws.FloatArith
import Derived.DeepKeys
set_option linter.unusedVariables false
set_option linter.unusedSimpArgs false
set_option linter.unusedSectionVars false

namespace Go.Vm
set_option maxRecDepth 100000
inductive AV where
 | top
 | bool (b:Bool)
 | int (k:IntKind) (n:Int)
 | flt (k:FloatKind) (bits:Nat)
 | str (s:List UInt8)
 | nilp
 | ptr (b o:Nat)
 | nils
 | slc (b o len cap sz:Nat)
 | ros (cells:List AV) (off len cap:Nat) (exact:Bool)
 | rop (cells:List AV) (off:Nat)
 | agg (cs:List AV)
 | tup (vs:List AV)
 | fn (f:Nat) (first captured:List AV)
 | nilf
 | ifc (t:Nat) (v:AV)
 | nili
 | mp (b:Nat)
 deriving Inhabited
def AV.one:AV→Bool
 | .agg _ | .tup _ | .top=>false
 | _=>true
def vone:Value→Bool
 | .agg _ | .tuple _=>false
 | _=>true
inductive Slot where
 | unborn|dead|void
 | live (B F:Nat)
abbrev Rho:=Nat→Slot
def rows(w:World)(B:Nat):Nat :=
 match w.heap[B]? with
 | some (.cells c _ _)=>c.size
 | _=>0
inductive VRel(ρ:Rho)(w:World):AV→Value→Prop where
 | top (v:Value):VRel ρ w .top v
 | bool (b:Bool):VRel ρ w (.bool b) (.bool b)
 | int (k:IntKind) (n:Int):VRel ρ w (.int k n) (.int k n)
 | flt (k:FloatKind) (n:Nat):VRel ρ w (.flt k n) (.float k n)
 | str (s:List UInt8):VRel ρ w (.str s) (.string ⟨s.toArray⟩)
 | nilp:VRel ρ w .nilp (.pointer none)
 | ptr (b o:Nat) (v:Value) (h0:ρ b ≠ .unborn) (h1:ρ b ≠ .void) (hs:∃ a,v = .pointer (some a))
   (h:∀ B F,ρ b = .live B F→v = .pointer (some ⟨B,F+o,none⟩)):VRel ρ w (.ptr b o) v
 | nils:VRel ρ w .nils (.slice none 0 0)
 | slc (b o len cap sz:Nat) (v:Value) (h0:ρ b ≠ .unborn) (hs:∃ ao cap',v = .slice ao len cap'∧len≤cap'∧cap≤cap'∧(cap'≠0→∃ B F,ao=some ⟨B,F,none⟩))
   (hv:ρ b = .void→∃ ao,v = .slice ao 0 0∧len=0∧cap=0)
   (h:∀ B F,ρ b = .live B F→∃ ao cap',cap≤cap'∧len≤cap'∧v = .slice ao len cap' ∧
    (cap'≠0→ao=some ⟨B,F+o,none⟩)∧F+o+cap'*sz≤rows w B):VRel ρ w (.slc b o len cap sz) v
 | ros (cells:List AV) (off len cap:Nat) (exact:Bool) (B F:Nat) (ao:Option Addr) (cap':Nat) (vs:List Value)
   (hlt:cells ≠ []→B<w.heap.size) (hp:cells ≠ []→∀ b F',ρ b ≠ .live B F')
   (hl:vs.length=cells.length) (ho:∀ v∈vs,vone v=true) (hc:∀ i v,vs[i]? = some v→w.cell? ⟨B,F+i,none⟩=some v)
   (hr:∀ (i:Nat) (a:AV) (v:Value),cells[i]? = some a→vs[i]? = some v→VRel ρ w a v)
   (hcap:cap≤cap') (hlen:len≤cap') (he:exact=true→cap'=cap) (ha:cap'≠0→ao=some ⟨B,F+off,none⟩) :
   VRel ρ w (.ros cells off len cap exact) (.slice ao len cap')
 | rop (cells:List AV) (off:Nat) (B F:Nat) (vs:List Value)
   (hlt:cells ≠ []→B<w.heap.size) (hp:cells ≠ []→∀ b F',ρ b ≠ .live B F')
   (hl:vs.length=cells.length) (ho:∀ v∈vs,vone v=true) (hc:∀ i v,vs[i]? = some v→w.cell? ⟨B,F+i,none⟩=some v)
   (hr:∀ (i:Nat) (a:AV) (v:Value),cells[i]? = some a→vs[i]? = some v→VRel ρ w a v) :
   VRel ρ w (.rop cells off) (.pointer (some ⟨B,F+off,none⟩))
 | agg (cs:List AV) (vs:List Value) (hl:vs.length=cs.length) (ho:∀ v∈vs,vone v=true)
   (hr:∀ (i:Nat) (a:AV) (v:Value),cs[i]? = some a→vs[i]? = some v→VRel ρ w a v):VRel ρ w (.agg cs) (.agg vs.toArray)
 | tup (cs:List AV) (vs:List Value) (hl:vs.length=cs.length)
   (hr:∀ (i:Nat) (a:AV) (v:Value),cs[i]? = some a→vs[i]? = some v→VRel ρ w a v):VRel ρ w (.tup cs) (.tuple vs.toArray)
 | fn (f:Nat) (xs ys:List AV) (us vs:List Value) (hl:us.length=xs.length) (hl':vs.length=ys.length)
   (hr:∀ (i:Nat) (a:AV) (v:Value),xs[i]? = some a→us[i]? = some v→VRel ρ w a v)
   (hr':∀ (i:Nat) (a:AV) (v:Value),ys[i]? = some a→vs[i]? = some v→VRel ρ w a v) :
   VRel ρ w (.fn f xs ys) (.func (.func f) us.toArray vs.toArray)
 | nilf:VRel ρ w .nilf .nilFunc
 | ifc (t:Nat) (a:AV) (v:Value) (h:VRel ρ w a v):VRel ρ w (.ifc t a) (.iface t v)
 | nili:VRel ρ w .nili .nilIface
 | mp (b:Nat) (v:Value) (h0:ρ b ≠ .unborn) (hs:∃ a,v = .map (some a)) (h:∀ B F,ρ b = .live B F→v = .map (some B)):VRel ρ w (.mp b) v
structure VRels(ρ:Rho)(w:World)(as:List AV)(vs:List Value):Prop where
 len:vs.length=as.length
 at_:∀ (i:Nat) (a:AV) (v:Value),as[i]? = some a→vs[i]? = some v→VRel ρ w a v
theorem VRels.nil{ρ:Rho}{w:World}:VRels ρ w [] []:=⟨rfl,fun i a v h _=>by simp at h⟩
theorem VRels.cons{ρ:Rho}{w:World}{a:AV}{v:Value}{as:List AV}{vs:List Value}(h:VRel ρ w a v)(t:VRels ρ w as vs):VRels ρ w (a::as) (v::vs) :=
 ⟨by simp[t.len],fun i b u hb hu=>by
  cases i with
  | zero=>simp at hb hu;subst hb;subst hu;exact h
  | succ i=>simp at hb hu;exact t.at_ i b u hb hu⟩
theorem VRels.get{ρ:Rho}{w:World}{as:List AV}{vs:List Value}(h:VRels ρ w as vs){i:Nat}{a:AV}(ha:as[i]? = some a):∃ v,vs[i]? = some v∧VRel ρ w a v:=by
 have hi:i<vs.length:=by rw[h.len]; exact(List.getElem?_eq_some_iff.1 ha).1
 exact⟨vs[i],by simp[hi],h.at_ i a _ ha (by simp[hi])⟩
theorem VRels.append{ρ:Rho}{w:World}{as bs:List AV}{us vs:List Value}(h:VRels ρ w as us)(k:VRels ρ w bs vs):VRels ρ w (as++bs) (us++vs) :=
 ⟨by simp[h.len,k.len],fun i a v ha hv=>by
  have hl:=h.len
  by_cases hi:i<as.length
  ·rw[List.getElem?_append_left hi] at ha
   rw[List.getElem?_append_left (by omega)] at hv
   exact h.at_ i a v ha hv
  ·rw[List.getElem?_append_right (by omega)] at ha
   rw[List.getElem?_append_right (by omega),hl] at hv
   exact k.at_ _ a v ha hv⟩
theorem VRels.take{ρ:Rho}{w:World}{as:List AV}{vs:List Value}(h:VRels ρ w as vs)(n:Nat):VRels ρ w (as.take n) (vs.take n) :=
 ⟨by simp[h.len],fun i a v ha hv=>by
  rw[List.getElem?_take] at ha hv
  split at ha
  ·rename_i hi;rw[if_pos hi] at hv;exact h.at_ i a v ha hv
  ·simp at ha⟩
theorem VRels.drop{ρ:Rho}{w:World}{as:List AV}{vs:List Value}(h:VRels ρ w as vs)(n:Nat):VRels ρ w (as.drop n) (vs.drop n) :=
 ⟨by simp[h.len],fun i a v ha hv=>by
  rw[List.getElem?_drop] at ha hv
  exact h.at_ _ a v ha hv⟩
structure Ext(n:Nat)(ρ:Rho)(w:World)(ρ':Rho)(w':World):Prop where
 size:w.heap.size≤w'.heap.size
 os:w'.os=w.os
 tape:w'.tape=w.tape
 output:w'.output=w.output
 keep:∀ B,B<w.heap.size→(∀ b F,ρ b ≠ .live B F)→w'.heap[B]? = w.heap[B]?
 slot:∀ b,b<n→ρ b ≠ .unborn→ρ' b=ρ b∨ρ' b = .dead
 fresh:∀ b B F,ρ' b = .live B F→w.heap.size≤B∨∃ b' F',ρ b' = .live B F'
 rows:∀ B,B<w.heap.size→rows w' B=rows w B
theorem Ext.refl(n:Nat)(ρ:Rho)(w:World):Ext n ρ w ρ w :=
 ⟨Nat.le_refl _,rfl,rfl,rfl,fun _ _ _=>rfl,fun _ _ _ => .inl rfl,fun b B F h => .inr ⟨b,F,h⟩,fun _ _=>rfl⟩
theorem Ext.unowned{n:Nat}{ρ ρ':Rho}{w w':World}(h:Ext n ρ w ρ' w'){B:Nat}(hB:B<w.heap.size)(hu:∀ b F,ρ b ≠ .live B F):∀ b F,ρ' b ≠ .live B F:=by
 intro b F hl
 rcases h.fresh b B F hl with hf|⟨b',F',hl'⟩
 ·omega
 ·exact hu _ _ hl'
theorem Ext.le{n m:Nat}{ρ ρ':Rho}{w w':World}(h:Ext n ρ w ρ' w')(hm:m≤n):Ext m ρ w ρ' w' :=
 ⟨h.size,h.os,h.tape,h.output,h.keep,fun b hb=>h.slot b (by omega),h.fresh,h.rows⟩
theorem Ext.trans{n:Nat}{ρ ρ' ρ'':Rho}{w w' w'':World}(h:Ext n ρ w ρ' w')(k:Ext n ρ' w' ρ'' w''):Ext n ρ w ρ'' w'' where
 size:=Nat.le_trans h.size k.size
 os:=k.os.trans h.os
 tape:=k.tape.trans h.tape
 output:=k.output.trans h.output
 keep B hB hu:=(k.keep B (Nat.lt_of_lt_of_le hB h.size) (h.unowned hB hu)).trans (h.keep B hB hu)
 slot b hn hb:=by
  rcases h.slot b hn hb with e|e
  ·rcases k.slot b hn (by rw[e]; exact hb) with e'|e'
   ·exact .inl (e'.trans e)
   ·exact .inr e'
  ·rcases k.slot b hn (by rw[e]; simp) with e'|e'
   ·exact .inr (e'.trans e)
   ·exact .inr e'
 fresh b B F hl:=by
  rcases k.fresh b B F hl with hf|⟨b',F',hl'⟩
  ·exact .inl (Nat.le_trans h.size hf)
  ·exact h.fresh b' B F' hl'
 rows B hB:=(k.rows B (Nat.lt_of_lt_of_le hB h.size)).trans (h.rows B hB)
theorem rows_zero{w:World}{B:Nat}(h:w.heap.size≤B):rows w B=0:=by
 simp[rows,Array.getElem?_eq_none h]
theorem cell_keep{w w':World}{B o:Nat}(h:w'.heap[B]? = w.heap[B]?):w'.cell? ⟨B,o,none⟩=w.cell? ⟨B,o,none⟩:=by
 simp[World.cell?,h]
theorem VRel.mono{n:Nat}{ρ ρ':Rho}{w w':World}(e:Ext n ρ w ρ' w')(hb:∀ b,ρ b ≠ .unborn→b<n){a:AV}{v:Value}(h:VRel ρ w a v):VRel ρ' w' a v:=by
 induction h with
 | top v=>exact .top v
 | bool b=>exact .bool b
 | int k n=>exact .int k n
 | flt k n=>exact .flt k n
 | str s=>exact .str s
 | nilp=>exact .nilp
 | ptr b o v h0 h1 hs h =>
  refine .ptr b o v ?_ ?_ hs ?_
  ·rcases e.slot b (hb b h0) h0 with s|s<;>rw[s]
   ·exact h0
   ·simp
  ·rcases e.slot b (hb b h0) h0 with s|s<;>rw[s]
   ·exact h1
   ·simp
  ·intro B F hl
   rcases e.slot b (hb b h0) h0 with s|s
   ·exact h B F (s ▸ hl)
   ·rw[s] at hl;cases hl
 | nils=>exact .nils
 | slc b o len cap sz v h0 hs hv h =>
  refine .slc b o len cap sz v ?_ hs ?_ ?_
  ·rcases e.slot b (hb b h0) h0 with s|s<;>rw[s]
   ·exact h0
   ·simp
  ·intro hl
   rcases e.slot b (hb b h0) h0 with s|s
   ·exact hv (s ▸ hl)
   ·rw[s] at hl;cases hl
  ·intro B F hl
   rcases e.slot b (hb b h0) h0 with s|s
   ·obtain⟨ao,cap',h1,h2,h3,h4,h5⟩:=h B F (s ▸ hl)
    refine⟨ao,cap',h1,h2,h3,h4,?_⟩
    by_cases hB:B<w.heap.size
    ·rw[e.rows B hB]; exact h5
    ·rw[rows_zero (w:=w) (by omega)] at h5;omega
   ·rw[s] at hl;cases hl
 | ros cells off len cap exact B F ao cap' vs hlt hp hl ho hc hr hcap hlen he ha ih =>
  refine .ros cells off len cap exact B F ao cap' vs (fun hn=>Nat.lt_of_lt_of_le (hlt hn) e.size) (fun hn=>e.unowned (hlt hn) (hp hn)) hl ho ?_ ih hcap hlen he ha
  intro i v hv
  have hn:cells ≠ []:=by
   intro h;subst h;simp at hl;subst hl;simp at hv
  rw[cell_keep (e.keep B (hlt hn) (hp hn))]
  exact hc i v hv
 | rop cells off B F vs hlt hp hl ho hc hr ih =>
  refine .rop cells off B F vs (fun hn=>Nat.lt_of_lt_of_le (hlt hn) e.size) (fun hn=>e.unowned (hlt hn) (hp hn)) hl ho ?_ ih
  intro i v hv
  have hn:cells ≠ []:=by
   intro h;subst h;simp at hl;subst hl;simp at hv
  rw[cell_keep (e.keep B (hlt hn) (hp hn))]
  exact hc i v hv
 | agg cs vs hl ho hr ih=>exact .agg cs vs hl ho ih
 | tup cs vs hl hr ih=>exact .tup cs vs hl ih
 | fn f xs ys us vs hl hl' hr hr' ih ih'=>exact .fn f xs ys us vs hl hl' ih ih'
 | nilf=>exact .nilf
 | ifc t a v h ih=>exact .ifc t a v ih
 | nili=>exact .nili
 | mp b v h0 hs h =>
  refine .mp b v ?_ hs ?_
  ·rcases e.slot b (hb b h0) h0 with s|s<;>rw[s]
   ·exact h0
   ·simp
  ·intro B F hl
   rcases e.slot b (hb b h0) h0 with s|s
   ·exact h B F (s ▸ hl)
   ·rw[s] at hl;cases hl
theorem VRels.mono{n:Nat}{ρ ρ':Rho}{w w':World}(e:Ext n ρ w ρ' w')(hb:∀ b,ρ b ≠ .unborn→b<n){as:List AV}{vs:List Value}(h:VRels ρ w as vs):VRels ρ' w' as vs :=
 ⟨h.len,fun i a v ha hv=>(h.at_ i a v ha hv).mono e hb⟩
inductive Blk where
 | dead
 | cells (cs:List AV)
 | set (kd:IntKind) (ks:List Int)
def SetIs(kd:IntKind)(ks:List Int)(es:Array MapEntry):Prop:=(es.toList.map fun e=>(e.key,e.val))=ks.map fun n=>(Value.int kd n,Value.bool true)
abbrev Hp:=Nat→Option Blk
structure HRel(ρ:Rho)(w:World)(g:Hp):Prop where
 unborn:∀ b,g b=none→ρ b = .unborn
 dead:∀ b,g b=some .dead→ρ b = .dead
 inj:∀ b b' B F F',ρ b = .live B F→ρ b' = .live B F'→b=b'
 live:∀ b cs,g b=some (.cells cs)→(ρ b = .void∧cs = [])∨∃ B F c elem lo hi,ρ b = .live B F∧w.heap[B]? = some (.cells c elem (lo,hi))∧F+cs.length≤c.size ∧
  (∀ j,F≤j→j<c.size→¬ (lo≤j∧j<hi))∧(∀ i a,cs[i]? = some a→∃ v,c[F+i]? = some v∧vone v=true∧VRel ρ w a v)
 marks:∀ b B F c elem lo hi,ρ b = .live B F→w.heap[B]? = some (.cells c elem (lo,hi))→lo=hi∨c.size≤lo
 sets:∀ b kd ks,g b=some (.set kd ks)→∃ B F es clock,ρ b = .live B F∧w.heap[B]? = some (.map es clock)∧SetIs kd ks es
theorem HRel.lt{ρ:Rho}{w:World}{g:Hp}(h:HRel ρ w g){b B F:Nat}(hl:ρ b = .live B F):B<w.heap.size:=by
 cases hg:g b with
 | none=>rw[h.unborn b hg] at hl;cases hl
 | some k =>
  cases k with
  | dead=>rw[h.dead b hg] at hl;cases hl
  | cells cs =>
   rcases h.live b cs hg with ⟨hv,_⟩|⟨B',F',c,elem,lo,hi,hl',hh,_⟩
   ·rw[hv] at hl;cases hl
   ·rw[hl'] at hl;cases hl
    rcases Nat.lt_or_ge B w.heap.size with h'|h'
    ·exact h'
    ·simp[Array.getElem?_eq_none h'] at hh
  | set kd ks =>
   obtain⟨B',F',es,clock,hl',hh,_⟩:=h.sets b kd ks hg
   rw[hl'] at hl;cases hl
   rcases Nat.lt_or_ge B w.heap.size with h'|h'
   ·exact h'
   ·simp[Array.getElem?_eq_none h'] at hh
theorem HRel.sets_of{ρ ρ':Rho}{w w':World}{g:Hp}(h:HRel ρ w g){b c:Nat}{kd:IntKind}{ks:List Int}(hb:g b=some (.set kd ks))(hr:ρ' c=ρ b)(hw:∀ B F es clock,ρ b = .live B F→w.heap[B]? = some (.map es clock)→w'.heap[B]? = w.heap[B]?) :
  ∃ B F es clock,ρ' c = .live B F∧w'.heap[B]? = some (.map es clock)∧SetIs kd ks es:=by
 obtain⟨B,F,es,clock,h1,h2,h3⟩:=h.sets b kd ks hb
 exact⟨B,F,es,clock,hr.trans h1,(hw B F es clock h1 h2).trans h2,h3⟩
end Go.Vm

namespace Go.Vm
set_option maxRecDepth 100000
noncomputable section
structure Ops where
 bin:BinOp→IntKind→Int→Int→Int
 shf:BinOp→IntKind→Int→Int→Int
 cmp:BinOp→Int→Int→Bool
 cvt:IntKind→Int→Int
 nz:Int→Bool
 nn:Int→Bool
 inr:Int→Nat→Bool
 inb:Int→Nat→Bool
 adr:Nat→Int→Nat→Nat
 nat:Int→Nat
 ofn:Nat→Int
 add:Nat→Nat→Nat
 sub:Nat→Nat→Nat
 mul:Nat→Nat→Nat
 min:Nat→Nat→Nat
 le:Nat→Nat→Bool
 lt:Nat→Nat→Bool
 eq:Nat→Nat→Bool
 room:Nat→Nat→Nat→Bool
 mkr:Int→Int→Nat→Bool
 len:List AV→Nat
 ext:List AV→Nat→Nat→List AV
 set:List AV→Nat→AV→List AV
 spl:List AV→Nat→List AV→List AV
 app:List AV→List AV→List AV
 rep:Nat→List AV→List AV
 eqs:List UInt8→List UInt8→Bool
 eqi:List Int→List Int→Bool
 slen:List UInt8→Nat
 sget:List UInt8→Int→Int
 scells:List UInt8→List AV
 ssub:List UInt8→Nat→Nat→List UInt8
 has:List Int→Int→Bool
 snoc:List Int→Int→List Int
 fbin:BinOp→FloatKind→Nat→Nat→Option Nat
 fcmp:BinOp→FloatKind→Nat→Nat→Bool
 i2f:FloatKind→Int→Nat
 mnx:Bool→Int→Int→Int
def spliceL{α:Type}(cs:List α)(o:Nat)(xs:List α):List α:=cs.take o++(xs++cs.drop (o+xs.length))
def bin0(op:BinOp)(k:IntKind)(x y:Int):Int :=
 match op with
 | .add=>k.wrap (x+y)
 | .sub=>k.wrap (x - y)
 | .mul=>k.wrap (x*y)
 | .quo=>k.wrap (x.tdiv y)
 | .rem=>x.tmod y
 | .and=>k.wrap ((BitVec.ofInt k.bits x &&& BitVec.ofInt k.bits y).toNat)
 | .or=>k.wrap ((BitVec.ofInt k.bits x ||| BitVec.ofInt k.bits y).toNat)
 | .xor=>k.wrap ((BitVec.ofInt k.bits x ^^^ BitVec.ofInt k.bits y).toNat)
 | .andNot=>k.wrap ((BitVec.ofInt k.bits x &&& ~~~BitVec.ofInt k.bits y).toNat)
 | _=>0
def shf0(op:BinOp)(k:IntKind)(x y:Int):Int :=
 match op with
 | .shl=>k.wrap (x*2 ^ (Nat.min y.toNat k.bits))
 | _=>x.fdiv (2 ^ (Nat.min y.toNat k.bits))
def cmp0(op:BinOp)(x y:Int):Bool :=
 match op with
 | .eql=>x == y
 | .neq=>x != y
 | .lss=>decide (x<y)
 | .leq=>decide (x≤y)
 | .gtr=>decide (x>y)
 | _=>decide (x≥y)
def fcmp0(op:BinOp)(k:FloatKind)(x y:Nat):Bool :=
 match op with
 | .eql=>k.format.order x y == some .eq
 | .neq=>k.format.order x y != some .eq
 | .lss=>k.format.order x y == some .lt
 | .leq=>k.format.order x y == some .lt || k.format.order x y == some .eq
 | .gtr=>k.format.order x y == some .gt
 | _=>k.format.order x y == some .gt || k.format.order x y == some .eq
def ops0:Ops where
 bin:=bin0
 shf:=shf0
 cmp:=cmp0
 cvt k n:=k.wrap n
 nz y:=y != 0
 nn y:=decide (0≤y)
 inr i n:=decide (0≤i) && decide (i<n)
 inb i n:=decide (0≤i) && decide (i≤n)
 adr o i s:=o+i.toNat*s
 nat i:=i.toNat
 ofn n:=(n:Int)
 add a b:=a+b
 sub a b:=a - b
 mul a b:=a*b
 min a b:=if a≤b then a else b
 le a b:=decide (a≤b)
 lt a b:=decide (a<b)
 eq a b:=a == b
 room l n bytes:=decide ((l+n+1)*(bytes+1)≤1099511627776)
 mkr l c bytes:=decide (0≤l) && decide (l≤c) && decide ((c+1)*(bytes+1)≤1099511627776)
 len cs:=cs.length
 ext cs o n:=(cs.drop o).take n
 set cs i v:=cs.set i v
 spl:=spliceL
 app xs ys:=xs++ys
 rep n z:=(List.replicate n z).flatten
 eqs a b:=a == b
 eqi a b:=a == b
 slen s:=s.length
 sget s i:=((s.getD i.toNat 0).toNat:Int)
 scells s:=s.map fun b => .int .u8 b.toNat
 ssub s l h:=(s.take h).drop l
 has ks n:=ks.contains n
 snoc ks n:=ks ++ [n]
 fbin:=floatBits
 fcmp:=fcmp0
 i2f:=floatOfInt
 mnx mx x y:=if mx then(if y>x then y else x) else if y<x then y else x
inductive Arg where
 | t (n:Nat)
 | c (v:AV)
inductive Kd where
 | any|int (k:IntKind)|bool|str|slc
 | flt (k:FloatKind)
inductive VOp where
 | mov|pick|bad
 | alloc (z:List AV)|box
 | mk (z:List AV) (pl:List (Nat × Nat))
 | mks (z:List AV) (len:Nat) (pl:List (Nat × Nat))
 | ld1 (kd:Kd)|ldn (n:Nat)|st1|stn (n:Nat)
 | nilc
 | bin (op:BinOp) (k:IntKind)|div (op:BinOp) (k:IntKind)|shf (op:BinOp) (k:IntKind)|cmp (op:BinOp)
 | scmp (neg:Bool)|bcmp (neg:Bool)|acmp (neg:Bool) (n:Nat) (segs:List (Nat × IntKind × Nat))
 | not|cvt (k:IntKind)|b2s|s2a (n:Nat)
 | fbin (op:BinOp) (k:FloatKind)|fcmp (op:BinOp) (k:FloatKind)|i2f (k:FloatKind)|fmov (k:FloatKind)|mnx (mx:Bool)|s2b
 | mksl (z:List AV) (bytes:Nat)
 | slS (sz:Nat) (lo hi mx:Bool)|slA (n sz:Nat) (lo hi:Bool)
 | fld (off:Nat)|fldv (off:Nat) (kd:Kd)|fldn (off n:Nat)
 | ixA (len sz:Nat)|ixS (sz:Nat)|ixV (len:Nat) (kd:Kd)|ixN (len n:Nat)|ixT
 | len|lenT|lenA (n:Nat)|capN
 | app (sz bytes:Nat)|app0 (sz bytes:Nat) (z:List AV)|cpy (sz:Nat)
 | call (f:Nat)|callv|ext (i:Nat)
 | mkfn (f nf:Nat)|mkif (t:Nat)
 | mkset (kd:IntKind)|look (kd:IntKind)|upd (kd:IntKind)
 | mko (z:List AV) (len sz:Nat) (pl:List (Nat × Nat))|frz|f2b|b2f
structure VO where
 dst:Option Nat
 guard:Option (Nat × Bool)
 op:VOp
 args:List Arg
inductive VC where
 | skip|ret
 | exit (id:Nat)
 | reg (draw:Bool) (bef:List Nat) (ops:List VO)
 | seq (a b:VC)
 | cond (c:Arg) (t e:VC)
 | block (id:Nat) (b:VC)
 | loop (b:VC)
inductive RV where
 | tmp (t:Nat)|cell (t n:Nat)|cell1 (t:Nat) (kd:Kd)
structure VF where
 ntmps:Nat
 results:List RV
 body:VC
inductive Ex where
 | norm|ret
 | exit (id:Nat)
abbrev Fr:=List AV
abbrev Hl:=List Blk
structure Alg(R:Type) where
 fail:R
 chk:Bool→R→R
 br:Bool→R→R→R
 get:Kd→List AV→Nat→(AV→R)→R
 flo:Option Nat→(Nat→R)→R
 fit:Nat→Nat→Nat→R→R→R
 ints:IntKind→List AV→(List Int→R)→R
 byts:List AV→(List UInt8→R)→R
 call:Nat→List AV→Hl→(AV→Hl→List Nat→R)→R
 loop:Nat→VC→Fr→Hl→List Nat→(Ex→Fr→Hl→List Nat→R)→(Unit→R)→R
def nth{α:Type}(l:List α):Nat→Option α :=
 List.rec (fun _=>none) (fun x _ ih n=>Nat.rec (some x) (fun n _=>ih n) n) l
def put{α:Type}(l:List α):Nat→α→List α :=
 List.rec (fun _ _ => []) (fun x xs ih n v=>Nat.rec (v::xs) (fun n _=>x::ih n v) n) l
def slot(l:Fr):Nat→AV :=
 List.rec (fun _ => .tup []) (fun x _ ih n=>Nat.rec x (fun n _=>ih n) n) l
theorem nth_nil{α:Type}(n:Nat):nth ([]:List α) n=none:=rfl
theorem nth_zero{α:Type}(x:α)(xs:List α):nth (x::xs) 0=some x:=rfl
theorem nth_succ{α:Type}(x:α)(xs:List α)(n:Nat):nth (x::xs) (n+1)=nth xs n:=rfl
theorem put_nil{α:Type}(n:Nat)(v:α):put ([]:List α) n v = []:=rfl
theorem put_zero{α:Type}(x:α)(xs:List α)(v:α):put (x::xs) 0 v=v::xs:=rfl
theorem put_succ{α:Type}(x:α)(xs:List α)(n:Nat)(v:α):put (x::xs) (n+1) v=x::put xs n v:=rfl
theorem slot_nil(n:Nat):slot [] n = .tup []:=rfl
theorem slot_zero(x:AV)(xs:Fr):slot (x::xs) 0=x:=rfl
theorem slot_succ(x:AV)(xs:Fr)(n:Nat):slot (x::xs) (n+1)=slot xs n:=rfl
def ev(fr:Fr):Arg→AV
 | .t n=>slot fr n
 | .c v=>v
def evs(fr:Fr):List Arg→List AV
 | [] => []
 | x::xs=>ev fr x::evs fr xs
def setD(fr:Fr)(d:Option Nat)(v:AV):Fr :=
 match d with
 | some d=>put fr d v
 | none=>fr
def size{α:Type}(l:List α):Nat:=List.rec 0 (fun _ _ n=>n+1) l
theorem size_cons{α:Type}(x:α)(xs:List α):size (x::xs)=size xs+1:=rfl
def upto:Nat→List Nat
 | 0 => []
 | n+1=>n::upto n
def join{α:Type}(xs ys:List α):List α:=List.rec ys (fun x _ zs=>x::zs) xs
theorem join_cons{α:Type}(x:α)(xs ys:List α):join (x::xs) ys=x::join xs ys:=rfl
def under(n:Nat):List Nat→List Nat
 | [] => []
 | x::xs=>match Nat.blt x n with
  | true=>x::under n xs
  | false=>under n xs
def has(n:Nat):List Nat→Bool
 | []=>false
 | x::xs=>match Nat.beq x n with
  | true=>true
  | false=>has n xs
def meet:List Nat→List Nat→Bool
 | [],_=>false
 | x::xs,ys=>match has x ys with
  | true=>true
  | false=>meet xs ys
def sameK:IntKind→IntKind→Bool
 | .i8,.i8 | .i16,.i16 | .i32,.i32 | .i64,.i64 | .u8,.u8 | .u16,.u16 | .u32,.u32 | .u64,.u64=>true
 | _,_=>false
def sameF:FloatKind→FloatKind→Bool
 | .f32,.f32 | .f64,.f64=>true
 | _,_=>false
section
variable {R:Type}(A:Alg R)(Ω:Ops)
def cellsK(x:AV)(k:List AV→R):R :=
 match x with
 | .agg cs=>k cs
 | .top | .tup _=>A.fail
 | x=>k [x]
def oneK(x:AV)(r:R):R :=
 match x with
 | .agg _ | .top | .tup _=>A.fail
 | _=>r
def cells1K(x:AV)(n:Nat)(k:List AV→R):R :=
 match x with
 | .agg cs=>A.chk (Ω.eq (Ω.len cs) n) (k cs)
 | .top | .tup _=>A.fail
 | x=>match Nat.beq n 1 with
  | true=>k [x]
  | false=>A.fail
def fillK(z:List AV):List (Nat × Nat)→List AV→(List AV→R)→R
 | [],[],k=>k z
 | (o,n)::pl,x::xs,k=>cells1K A Ω x n fun cs=>A.chk (Ω.le (o+n) (Ω.len z)) (fillK (Ω.spl z o cs) pl xs k)
 | _,_,_=>A.fail
def blkK(H:Hl)(b:Nat)(k:List AV→R):R :=
 match nth H b with
 | some (.cells cs)=>k cs
 | _=>A.fail
def elemsK(H:Hl)(sz:Nat)(x:AV)(k:List AV→Nat→List Nat→R):R :=
 match x with
 | .nils=>k [] 0 []
 | .slc b o len _ _=>blkK A H b fun cs=>A.chk (Ω.le (Ω.add o (Ω.mul len sz)) (Ω.len cs)) (k (Ω.ext cs o (Ω.mul len sz)) len [b])
 | .ros cs off len _ _=>A.chk (Ω.le (Ω.add off (Ω.mul len sz)) (Ω.len cs)) (k (Ω.ext cs off (Ω.mul len sz)) len [])
 | .str s=>match Nat.beq sz 1 with
  | true=>k (Ω.scells s) (Ω.slen s) []
  | false=>A.fail
 | _=>A.fail
def boundsK(lo hi mx:Bool)(xs:List AV)(len cap:Nat)(k:Nat→Nat→Nat→R):R :=
 match lo,hi,mx,xs with
 | false,false,false,[]=>k 0 len cap
 | true,false,false,[.int _ l]=>A.chk (Ω.inb l len) (k (Ω.nat l) len cap)
 | false,true,false,[.int _ h]=>A.chk (Ω.inb h cap) (k 0 (Ω.nat h) cap)
 | true,true,false,[.int _ l,.int _ h]=>A.chk (Ω.inb h cap) (A.chk (Ω.inb l (Ω.nat h)) (k (Ω.nat l) (Ω.nat h) cap))
 | false,true,true,[.int _ h,.int _ m]=>A.chk (Ω.inb m cap) (A.chk (Ω.inb h (Ω.nat m)) (k 0 (Ω.nat h) (Ω.nat m)))
 | true,true,true,[.int _ l,.int _ h,.int _ m] =>
  A.chk (Ω.inb m cap) (A.chk (Ω.inb h (Ω.nat m)) (A.chk (Ω.inb l (Ω.nat h)) (k (Ω.nat l) (Ω.nat h) (Ω.nat m))))
 | _,_,_,_=>A.fail
abbrev CallF(R:Type):=Nat→List AV→Hl→(AV→Hl→List Nat→R)→R
abbrev ExK(R:Type):=AV→Hl→List Nat→List Nat→R
def brB(b:Bool)(neg:Bool)(k:AV→R):R :=
 match neg with
 | false=>A.br b (k (.bool true)) (k (.bool false))
 | true=>A.br b (k (.bool false)) (k (.bool true))
def segsK:List (Nat × IntKind × Nat)→List AV→List AV→(Bool→R)→R
 | [],_,_,k=>k true
 | (o,kd,n)::segs,x,y,k=>A.chk (Ω.le (o+n) (Ω.len x)) (A.chk (Ω.le (o+n) (Ω.len y))
   (A.ints kd (Ω.ext x o n) fun u=>A.ints kd (Ω.ext y o n) fun v=>A.br (Ω.eqi u v) (segsK segs x y k) (k false)))
def xMov(H:Hl)(xs:List AV)(k:ExK R):R :=
 match xs with
 | [x]=>k x H [] []
 | _=>A.fail
def xPick(H:Hl)(xs:List AV)(k:ExK R):R :=
 match xs with
 | [.bool true,x,_]=>k x H [] []
 | [.bool false,_,y]=>k y H [] []
 | _=>A.fail
def xAlloc(z:List AV)(H:Hl)(xs:List AV)(k:ExK R):R :=
 match xs with
 | []=>k (.ptr (size H) 0) (join H [.cells z]) [] []
 | _=>A.fail
def xBox(H:Hl)(xs:List AV)(k:ExK R):R :=
 match xs with
 | [x]=>cellsK A x fun cs=>k (.ptr (size H) 0) (join H [.cells cs]) [] []
 | _=>A.fail
def xMk(z:List AV)(pl:List (Nat × Nat))(H:Hl)(xs:List AV)(k:ExK R):R :=
 match xs with
 | xs=>fillK A Ω z pl xs fun cs=>k (.agg cs) H [] []
def xMks(z:List AV)(len:Nat)(pl:List (Nat × Nat))(H:Hl)(xs:List AV)(k:ExK R):R :=
 match xs with
 | xs=>fillK A Ω z pl xs fun cs=>k (.ros cs 0 len len true) H [] []
def xMko(z:List AV)(len sz:Nat)(pl:List (Nat × Nat))(H:Hl)(xs:List AV)(k:ExK R):R :=
 match xs with
 | xs=>fillK A Ω z pl xs fun cs=>k (.slc (size H) 0 len len sz) (join H [.cells cs]) [] []
def xFrz(H:Hl)(xs:List AV)(k:ExK R):R :=
 match xs with
 | [.slc b o len cap sz]=>blkK A H b fun cs=>A.chk (Ω.lt 0 (Ω.len cs)) (A.chk (Ω.lt 0 len) (k (.slc b o len cap sz) H [] [b]))
 | _=>A.fail
def xLd1(kd:Kd)(H:Hl)(xs:List AV)(k:ExK R):R :=
 match xs with
 | [.ptr b o]=>blkK A H b fun cs=>A.get kd cs o fun v=>k v H [] [b]
 | [.rop cs o]=>A.get kd cs o fun v=>k v H [] []
 | _=>A.fail
def xLdn(n:Nat)(H:Hl)(xs:List AV)(k:ExK R):R :=
 match xs with
 | [.ptr b o]=>blkK A H b fun cs=>A.chk (Ω.le (Ω.add o n) (Ω.len cs)) (k (.agg (Ω.ext cs o n)) H [] [b])
 | [.rop cs o]=>A.chk (Ω.le (Ω.add o n) (Ω.len cs)) (k (.agg (Ω.ext cs o n)) H [] [])
 | _=>A.fail
def xSt1(H:Hl)(xs:List AV)(k:ExK R):R :=
 match xs with
 | [.ptr b o,x]=>oneK A x (blkK A H b fun cs=>A.chk (Ω.lt o (Ω.len cs)) (k (.tup []) (put H b (.cells (Ω.set cs o x))) [b] [b]))
 | _=>A.fail
def xStn(n:Nat)(H:Hl)(xs:List AV)(k:ExK R):R :=
 match xs with
 | [.ptr b o,.agg ys]=>blkK A H b fun cs=>A.chk (Ω.eq (Ω.len ys) n) (A.chk (Ω.le (Ω.add o n) (Ω.len cs)) (k (.tup []) (put H b (.cells (Ω.spl cs o ys))) [b] [b]))
 | _=>A.fail
def xNilc(H:Hl)(xs:List AV)(k:ExK R):R :=
 match xs with
 | [.ptr b o]=>k (.ptr b o) H [] []
 | [.rop cs o]=>k (.rop cs o) H [] []
 | [.fn f a b]=>k (.fn f a b) H [] []
 | _=>A.fail
def xBin(op:BinOp)(kd:IntKind)(H:Hl)(xs:List AV)(k:ExK R):R :=
 match xs with
 | [.int k1 x,.int k2 y]=>match sameK k1 kd,sameK k2 kd with
  | true,true=>k (.int kd (Ω.bin op kd x y)) H [] []
  | _,_=>A.fail
 | _=>A.fail
def xDiv(op:BinOp)(kd:IntKind)(H:Hl)(xs:List AV)(k:ExK R):R :=
 match xs with
 | [.int k1 x,.int k2 y]=>match sameK k1 kd,sameK k2 kd with
  | true,true=>A.chk (Ω.nz y) (k (.int kd (Ω.bin op kd x y)) H [] [])
  | _,_=>A.fail
 | _=>A.fail
def xShf(op:BinOp)(kd:IntKind)(H:Hl)(xs:List AV)(k:ExK R):R :=
 match xs with
 | [.int k1 x,.int _ y]=>match sameK k1 kd with
  | true=>A.chk (Ω.nn y) (k (.int kd (Ω.shf op kd x y)) H [] [])
  | _=>A.fail
 | _=>A.fail
def xCmp(op:BinOp)(H:Hl)(xs:List AV)(k:ExK R):R :=
 match xs with
 | [.int k1 x,.int k2 y]=>match sameK k1 k2 with
  | true=>brB A (Ω.cmp op x y) false fun b=>k b H [] []
  | _=>A.fail
 | _=>A.fail
def xScmp(neg:Bool)(H:Hl)(xs:List AV)(k:ExK R):R :=
 match xs with
 | [.str x,.str y]=>brB A (Ω.eqs x y) neg fun b=>k b H [] []
 | _=>A.fail
def xBcmp(neg:Bool)(H:Hl)(xs:List AV)(k:ExK R):R :=
 match xs with
 | [.bool x,.bool y]=>k (.bool (Bool.xor neg (x == y))) H [] []
 | _=>A.fail
def xAcmp(neg:Bool)(n:Nat)(segs:List (Nat × IntKind × Nat))(H:Hl)(xs:List AV)(k:ExK R):R :=
 match xs with
 | [.agg x,.agg y]=>A.chk (Ω.eq (Ω.len x) n) (A.chk (Ω.eq (Ω.len y) n) (segsK A Ω segs x y fun b=>k (.bool (Bool.xor neg b)) H [] []))
 | _=>A.fail
def xNot(H:Hl)(xs:List AV)(k:ExK R):R :=
 match xs with
 | [.bool true]=>k (.bool false) H [] []
 | [.bool false]=>k (.bool true) H [] []
 | _=>A.fail
def xCvt(kd:IntKind)(H:Hl)(xs:List AV)(k:ExK R):R :=
 match xs with
 | [.int _ x]=>k (.int kd (Ω.cvt kd x)) H [] []
 | _=>A.fail
def xB2s(H:Hl)(xs:List AV)(k:ExK R):R :=
 match xs with
 | [.str _]=>A.fail
 | [x]=>elemsK A Ω H 1 x fun cs _ ft=>A.byts cs fun s=>k (.str s) H [] ft
 | _=>A.fail
def xS2a(n:Nat)(H:Hl)(xs:List AV)(k:ExK R):R :=
 match xs with
 | [.slc b o len _ _]=>A.chk (Ω.le n len) (k (.ptr b o) H [] [])
 | [.ros cs off len _ _]=>A.chk (Ω.le n len) (k (.rop cs off) H [] [])
 | _=>A.fail
def xFbin(op:BinOp)(kd:FloatKind)(H:Hl)(xs:List AV)(k:ExK R):R :=
 match xs with
 | [.flt k1 x,.flt k2 y]=>match sameF k1 kd,sameF k2 kd with
  | true,true=>A.flo (Ω.fbin op kd x y) fun r=>k (.flt kd r) H [] []
  | _,_=>A.fail
 | _=>A.fail
def xFcmp(op:BinOp)(kd:FloatKind)(H:Hl)(xs:List AV)(k:ExK R):R :=
 match xs with
 | [.flt k1 x,.flt k2 y]=>match sameF k1 kd,sameF k2 kd with
  | true,true=>brB A (Ω.fcmp op kd x y) false fun b=>k b H [] []
  | _,_=>A.fail
 | _=>A.fail
def xF2b(H:Hl)(xs:List AV)(k:ExK R):R :=
 match xs with
 | [.flt k1 x]=>match sameF k1 .f64 with
  | true=>k (.int .u64 (Ω.ofn x)) H [] []
  | false=>A.fail
 | _=>A.fail
def xB2f(H:Hl)(xs:List AV)(k:ExK R):R :=
 match xs with
 | [.int k1 x]=>match sameK k1 .u64 with
  | true=>k (.flt .f64 (Ω.nat x)) H [] []
  | false=>A.fail
 | _=>A.fail
def xI2f(kd:FloatKind)(H:Hl)(xs:List AV)(k:ExK R):R :=
 match xs with
 | [.int _ x]=>k (.flt kd (Ω.i2f kd x)) H [] []
 | _=>A.fail
def xFmov(kd:FloatKind)(H:Hl)(xs:List AV)(k:ExK R):R :=
 match xs with
 | [.flt k1 x]=>match sameF k1 kd with
  | true=>k (.flt k1 x) H [] []
  | false=>A.fail
 | _=>A.fail
def xMnx(mx:Bool)(H:Hl)(xs:List AV)(k:ExK R):R :=
 match xs with
 | [.int k1 x,.int k2 y]=>match sameK k1 k2 with
  | true=>k (.int k1 (Ω.mnx mx x y)) H [] []
  | _=>A.fail
 | _=>A.fail
def xS2b(H:Hl)(xs:List AV)(k:ExK R):R :=
 match xs with
 | [.str s]=>k (.slc (size H) 0 (Ω.slen s) (Ω.slen s) 1) (join H [.cells (Ω.scells s)]) [] []
 | _=>A.fail
def xMksl(z:List AV)(bytes:Nat)(H:Hl)(xs:List AV)(k:ExK R):R :=
 match xs with
 | [.int _ l,.int _ c]=>A.chk (Ω.mkr l c bytes) (k (.slc (size H) 0 (Ω.nat l) (Ω.nat c) (size z)) (join H [.cells (Ω.rep (Ω.nat c) z)]) [] [])
 | _=>A.fail
def xSlS(sz:Nat)(lo hi mx:Bool)(H:Hl)(xs:List AV)(k:ExK R):R :=
 match xs with
 | .slc b o len cap sz'::ys=>match Nat.beq sz sz' with
  | true=>boundsK A Ω lo hi mx ys len cap fun l h m=>k (.slc b (Ω.add o (Ω.mul l sz)) (Ω.sub h l) (Ω.sub m l) sz) H [] []
  | false=>A.fail
 | .ros cs off len cap ex::ys =>
  boundsK A Ω lo hi mx ys len cap fun l h m=>k (.ros cs (Ω.add off (Ω.mul l sz)) (Ω.sub h l) (Ω.sub m l) (ex || mx)) H [] []
 | .nils::ys=>boundsK A Ω lo hi mx ys 0 0 fun _ _ _=>k .nils H [] []
 | _=>A.fail
def xSlA(n sz:Nat)(lo hi:Bool)(H:Hl)(xs:List AV)(k:ExK R):R :=
 match xs with
 | .ptr b o::ys=>blkK A H b fun cs=>A.chk (Ω.le (Ω.add o (Ω.mul n sz)) (Ω.len cs))
   (boundsK A Ω lo hi false ys n n fun l h m=>k (.slc b (Ω.add o (Ω.mul l sz)) (Ω.sub h l) (Ω.sub m l) sz) H [] [b])
 | .rop cs o::ys=>boundsK A Ω lo hi false ys n n fun l h m=>k (.ros cs (Ω.add o (Ω.mul l sz)) (Ω.sub h l) (Ω.sub m l) true) H [] []
 | _=>A.fail
def xFld(off:Nat)(H:Hl)(xs:List AV)(k:ExK R):R :=
 match xs with
 | [.ptr b o]=>k (.ptr b (Ω.add o off)) H [] []
 | [.rop cs o]=>k (.rop cs (Ω.add o off)) H [] []
 | _=>A.fail
def xFldv(off:Nat)(kd:Kd)(H:Hl)(xs:List AV)(k:ExK R):R :=
 match xs with
 | [.agg cs]=>A.get kd cs off fun v=>k v H [] []
 | _=>A.fail
def xFldn(off n:Nat)(H:Hl)(xs:List AV)(k:ExK R):R :=
 match xs with
 | [.agg cs]=>A.chk (Ω.le (off+n) (Ω.len cs)) (k (.agg (Ω.ext cs off n)) H [] [])
 | _=>A.fail
def xIxA(len sz:Nat)(H:Hl)(xs:List AV)(k:ExK R):R :=
 match xs with
 | [.ptr b o,.int _ i]=>A.chk (Ω.inr i len) (k (.ptr b (Ω.adr o i sz)) H [] [])
 | [.rop cs o,.int _ i]=>A.chk (Ω.inr i len) (k (.rop cs (Ω.adr o i sz)) H [] [])
 | _=>A.fail
def xIxS(sz:Nat)(H:Hl)(xs:List AV)(k:ExK R):R :=
 match xs with
 | [.slc b o len _ _,.int _ i]=>A.chk (Ω.inr i len) (k (.ptr b (Ω.adr o i sz)) H [] [])
 | [.ros cs off len _ _,.int _ i]=>A.chk (Ω.inr i len) (k (.rop cs (Ω.adr off i sz)) H [] [])
 | _=>A.fail
def xIxV(len:Nat)(kd:Kd)(H:Hl)(xs:List AV)(k:ExK R):R :=
 match xs with
 | [.agg cs,.int _ i]=>A.chk (Ω.inr i len) (A.get kd cs (Ω.nat i) fun v=>k v H [] [])
 | _=>A.fail
def xIxN(len n:Nat)(H:Hl)(xs:List AV)(k:ExK R):R :=
 match xs with
 | [.agg cs,.int _ i]=>A.chk (Ω.inr i len) (A.chk (Ω.le (Ω.add (Ω.adr 0 i n) n) (Ω.len cs)) (k (.agg (Ω.ext cs (Ω.adr 0 i n) n)) H [] []))
 | _=>A.fail
def xIxT(H:Hl)(xs:List AV)(k:ExK R):R :=
 match xs with
 | [.str s,.int _ i]=>A.chk (Ω.inr i (Ω.slen s)) (k (.int .u8 (Ω.sget s i)) H [] [])
 | _=>A.fail
def xLen(H:Hl)(xs:List AV)(k:ExK R):R :=
 match xs with
 | [.nils]=>k (.int .i64 0) H [] []
 | [.slc _ _ len _ _]=>k (.int .i64 (Ω.ofn len)) H [] []
 | [.ros _ _ len _ _]=>k (.int .i64 (Ω.ofn len)) H [] []
 | _=>A.fail
def xCapN(H:Hl)(xs:List AV)(k:ExK R):R :=
 match xs with
 | [.nils]=>k (.int .i64 0) H [] []
 | [.ros _ _ _ cap true]=>k (.int .i64 (Ω.ofn cap)) H [] []
 | _=>A.fail
def xLenT(H:Hl)(xs:List AV)(k:ExK R):R :=
 match xs with
 | [.str s]=>k (.int .i64 (Ω.ofn (Ω.slen s))) H [] []
 | _=>A.fail
def xLenA(n:Nat)(H:Hl)(xs:List AV)(k:ExK R):R :=
 match xs with
 | [_]=>k (.int .i64 n) H [] []
 | _=>A.fail
def xApp(sz bytes:Nat)(H:Hl)(xs:List AV)(k:ExK R):R :=
 match xs with
 | [.nils,y]=>elemsK A Ω H sz y fun cs n ft=>A.chk (Ω.room 0 n bytes) (k (.slc (size H) 0 n n sz) (join H [.cells cs]) [] ft)
 | [.ros _ _ 0 0 true,y]=>elemsK A Ω H sz y fun cs n ft=>A.chk (Ω.room 0 n bytes) (k (.slc (size H) 0 n n sz) (join H [.cells cs]) [] ft)
 | [.ros fs o len cap true,y]=>match Nat.beq cap len with
  | true=>elemsK A Ω H sz (.ros fs o len cap true) fun us m ft1=>elemsK A Ω H sz y fun cs n ft=>A.br (Ω.lt 0 n)
    (A.chk (Ω.room m n bytes) (k (.slc (size H) 0 (Ω.add m n) (Ω.add m n) sz) (join H [.cells (Ω.app us cs)]) [] (join ft1 ft)))
    (k (.ros fs o len cap true) H [] (join ft1 ft))
  | false=>A.fail
 | [.slc b o len cap sz',y]=>match Nat.beq sz sz' with
  | true=>blkK A H b fun bs=>A.chk (Ω.le (Ω.add o (Ω.mul len sz)) (Ω.len bs)) (elemsK A Ω H sz y fun cs n ft=>A.fit len n cap
    (A.chk (Ω.le (Ω.add o (Ω.mul (Ω.add len n) sz)) (Ω.len bs)) (k (.slc b o (Ω.add len n) cap sz) (put H b (.cells (Ω.spl bs (Ω.add o (Ω.mul len sz)) cs))) [b] (b::ft)))
    (A.chk (Ω.room len n bytes)
    (k (.slc (size H) 0 (Ω.add len n) (Ω.add len n) sz) (join (put H b .dead) [.cells (Ω.app (Ω.ext bs o (Ω.mul len sz)) cs)]) [b] (b::ft))))
  | false=>A.fail
 | _=>A.fail
def xApp0(sz bytes:Nat)(z:List AV)(H:Hl)(xs:List AV)(k:ExK R):R :=
 match xs with
 | [.nils,.int _ l]=>A.chk (Ω.nn l) (A.chk (Ω.room 0 (Ω.nat l) bytes) (k (.slc (size H) 0 (Ω.nat l) (Ω.nat l) sz) (join H [.cells (Ω.rep (Ω.nat l) z)]) [] []))
 | [.ros _ _ 0 0 true,.int _ l]=>A.chk (Ω.nn l) (A.chk (Ω.room 0 (Ω.nat l) bytes) (k (.slc (size H) 0 (Ω.nat l) (Ω.nat l) sz) (join H [.cells (Ω.rep (Ω.nat l) z)]) [] []))
 | [.slc b o len _ sz',.int _ l]=>match Nat.beq sz sz' with
  | true=>blkK A H b fun bs=>A.chk (Ω.le (Ω.add o (Ω.mul len sz)) (Ω.len bs)) (A.chk (Ω.nn l) (A.chk (Ω.room len (Ω.nat l) bytes)
    (k (.slc (size H) 0 (Ω.add len (Ω.nat l)) (Ω.add len (Ω.nat l)) sz) (join (put H b .dead) [.cells (Ω.app (Ω.ext bs o (Ω.mul len sz)) (Ω.rep (Ω.nat l) z))]) [b] [b])))
  | false=>A.fail
 | _=>A.fail
def xCpy(sz:Nat)(H:Hl)(xs:List AV)(k:ExK R):R :=
 match xs with
 | [.slc b o len _ sz',y]=>match Nat.beq sz sz' with
  | true=>blkK A H b fun bs=>A.chk (Ω.le (Ω.add o (Ω.mul len sz)) (Ω.len bs)) (elemsK A Ω H sz y fun cs n ft =>
    k (.int .i64 (Ω.ofn (Ω.min n len))) (put H b (.cells (Ω.spl bs o (Ω.ext cs 0 (Ω.mul (Ω.min n len) sz))))) [b] (b::ft))
  | false=>A.fail
 | _=>A.fail
def xCall(cf:CallF R)(f:Nat)(H:Hl)(xs:List AV)(k:ExK R):R :=
 match xs with
 | xs=>cf f xs H fun r H' lg=>k r H' (under (size H) lg) (upto (size H))
def xCallv(cf:CallF R)(H:Hl)(xs:List AV)(k:ExK R):R :=
 match xs with
 | .fn f a b::xs=>cf f (join a (join xs b)) H fun r H' lg=>k r H' (under (size H) lg) (upto (size H))
 | _=>A.fail
def xExt(i:Nat)(H:Hl)(xs:List AV)(k:ExK R):R :=
 match xs with
 | [.tup vs]=>match nth vs i with
  | some v=>k v H [] []
  | none=>A.fail
 | _=>A.fail
def xMkfn(f nf:Nat)(H:Hl)(xs:List AV)(k:ExK R):R :=
 match xs with
 | xs=>k (.fn f (xs.take nf) (xs.drop nf)) H [] []
def xMkif(t:Nat)(H:Hl)(xs:List AV)(k:ExK R):R :=
 match xs with
 | [x]=>oneK A x (k (.ifc t x) H [] [])
 | _=>A.fail
def setK(H:Hl)(b:Nat)(kd:IntKind)(k:List Int→R):R :=
 match nth H b with
 | some (.set kd' ks)=>match sameK kd kd' with
  | true=>k ks
  | false=>A.fail
 | _=>A.fail
def xMkset(kd:IntKind)(H:Hl)(xs:List AV)(k:ExK R):R :=
 match xs with
 | []=>k (.mp (size H)) (join H [.set kd []]) [] []
 | _=>A.fail
def xLook(kd:IntKind)(H:Hl)(xs:List AV)(k:ExK R):R :=
 match xs with
 | [.mp b,.int kd' n]=>match sameK kd kd' with
  | true=>setK A H b kd fun ks=>brB A (Ω.has ks n) false fun v=>k v H [] [b]
  | false=>A.fail
 | _=>A.fail
def xUpd(kd:IntKind)(H:Hl)(xs:List AV)(k:ExK R):R :=
 match xs with
 | [.mp b,.int kd' n,.bool true]=>match sameK kd kd' with
  | true=>setK A H b kd fun ks=>A.chk (Bool.not (Ω.has ks n)) (k (.tup []) (put H b (.set kd (Ω.snoc ks n))) [b] [b])
  | false=>A.fail
 | _=>A.fail
def ex(cf:CallF R)(H:Hl)(vo:VOp)(xs:List AV)(k:ExK R):R :=
 match vo with
 | .mov=>xMov A H xs k
 | .pick=>xPick A H xs k
 | .alloc z=>xAlloc A z H xs k
 | .box=>xBox A H xs k
 | .mk z pl=>xMk A Ω z pl H xs k
 | .mks z len pl=>xMks A Ω z len pl H xs k
 | .mko z len sz pl=>xMko A Ω z len sz pl H xs k
 | .frz=>xFrz A Ω H xs k
 | .f2b=>xF2b A Ω H xs k
 | .b2f=>xB2f A Ω H xs k
 | .ld1 kd=>xLd1 A kd H xs k
 | .ldn n=>xLdn A Ω n H xs k
 | .st1=>xSt1 A Ω H xs k
 | .stn n=>xStn A Ω n H xs k
 | .nilc=>xNilc A H xs k
 | .bin op kd=>xBin A Ω op kd H xs k
 | .div op kd=>xDiv A Ω op kd H xs k
 | .shf op kd=>xShf A Ω op kd H xs k
 | .cmp op=>xCmp A Ω op H xs k
 | .scmp neg=>xScmp A Ω neg H xs k
 | .bcmp neg=>xBcmp A neg H xs k
 | .acmp neg n segs=>xAcmp A Ω neg n segs H xs k
 | .not=>xNot A H xs k
 | .cvt kd=>xCvt A Ω kd H xs k
 | .b2s=>xB2s A Ω H xs k
 | .s2a n=>xS2a A Ω n H xs k
 | .fbin op kd=>xFbin A Ω op kd H xs k
 | .fcmp op kd=>xFcmp A Ω op kd H xs k
 | .i2f kd=>xI2f A Ω kd H xs k
 | .fmov kd=>xFmov A kd H xs k
 | .mnx mx=>xMnx A Ω mx H xs k
 | .s2b=>xS2b A Ω H xs k
 | .mksl z bytes=>xMksl A Ω z bytes H xs k
 | .slS sz lo hi mx=>xSlS A Ω sz lo hi mx H xs k
 | .slA n sz lo hi=>xSlA A Ω n sz lo hi H xs k
 | .fld off=>xFld A Ω off H xs k
 | .fldv off kd=>xFldv A off kd H xs k
 | .fldn off n=>xFldn A Ω off n H xs k
 | .ixA len sz=>xIxA A Ω len sz H xs k
 | .ixS sz=>xIxS A Ω sz H xs k
 | .ixV len kd=>xIxV A Ω len kd H xs k
 | .ixN len n=>xIxN A Ω len n H xs k
 | .ixT=>xIxT A Ω H xs k
 | .len=>xLen A Ω H xs k
 | .capN=>xCapN A Ω H xs k
 | .lenT=>xLenT A Ω H xs k
 | .lenA n=>xLenA A n H xs k
 | .app sz bytes=>xApp A Ω sz bytes H xs k
 | .app0 sz bytes z=>xApp0 A Ω sz bytes z H xs k
 | .cpy sz=>xCpy A Ω sz H xs k
 | .call f=>xCall cf f H xs k
 | .callv=>xCallv A cf H xs k
 | .ext i=>xExt A i H xs k
 | .mkfn f nf=>xMkfn f nf H xs k
 | .mkif t=>xMkif A t H xs k
 | .mkset kd=>xMkset A kd H xs k
 | .look kd=>xLook A Ω kd H xs k
 | .upd kd=>xUpd A Ω kd H xs k
 | .bad=>A.fail
def news(n m:Nat):List Nat:=(upto m).filter fun i => !(Nat.blt i n)
mutual
def nm(n:Nat):AV→Bool
 | .ptr b _=>Nat.blt b n
 | .slc b _ _ _ _=>Nat.blt b n
 | .ros cs _ _ _ _=>nmL n cs
 | .rop cs _=>nmL n cs
 | .agg cs=>nmL n cs
 | .tup cs=>nmL n cs
 | .fn _ xs ys=>match nmL n xs with
  | true=>nmL n ys
  | false=>false
 | .ifc _ v=>nm n v
 | .top=>true
 | .bool _=>true
 | .int _ _=>true
 | .flt _ _=>true
 | .str _=>true
 | .nilp=>true
 | .nils=>true
 | .nilf=>true
 | .nili=>true
 | .mp b=>Nat.blt b n
def nmL(n:Nat):List AV→Bool
 | []=>true
 | x::xs=>match nm n x with
  | true=>nmL n xs
  | false=>false
end
mutual
def own:AV→Bool
 | .ros cs _ _ _ _=>match cs with
  | []=>true
  | _::_=>false
 | .rop cs _=>match cs with
  | []=>true
  | _::_=>false
 | .agg cs=>ownL cs
 | .tup cs=>ownL cs
 | .fn _ xs ys=>match ownL xs with
  | true=>ownL ys
  | false=>false
 | .ifc _ v=>own v
 | .top=>true
 | .bool _=>true
 | .int _ _=>true
 | .flt _ _=>true
 | .str _=>true
 | .nilp=>true
 | .nils=>true
 | .nilf=>true
 | .nili=>true
 | .ptr _ _=>true
 | .slc _ _ _ _ _=>true
 | .mp _=>true
def ownL:List AV→Bool
 | []=>true
 | x::xs=>match own x with
  | true=>ownL xs
  | false=>false
end
def nmB(n:Nat):Blk→Bool
 | .dead=>true
 | .set _ _=>true
 | .cells cs=>nmL n cs
def ownB:Blk→Bool
 | .dead=>true
 | .set _ _=>true
 | .cells cs=>ownL cs
def scL(vals:List AV)(H:Hl)(r:AV)(H':Hl):List Bool :=
 own r::join (vals.map (nm (size H))) (join (H.map (nmB (size H))) (H'.map ownB))
abbrev Rec:=Nat × List Nat × List Nat × Option (Nat × List Bool)
def isCall:VOp→Bool
 | .call _ | .callv=>true
 | _=>false
def limOf(op:VOp)(n:Nat)(oks:List Bool):Option (Nat × List Bool) :=
 match isCall op with
 | true=>some (n,oks)
 | false=>none
def over(n:Nat):List Nat→Bool
 | []=>false
 | x::xs=>match Nat.blt x n with
  | true=>over n xs
  | false=>true
def chkAll:List Bool→R→R
 | [],r=>r
 | b::bs,r=>A.chk b (chkAll bs r)
def raceOneK(bef:Nat)(tch ft:List Nat):List Rec→R→R
 | [],r=>r
 | (i,t,f,l)::rest,r=>match meet t tch || meet t ft || meet f tch with
  | true=>match bef.testBit i with
   | true=>raceOneK bef tch ft rest r
   | false=>A.fail
  | false=>match l with
   | none=>raceOneK bef tch ft rest r
   | some (n,oks)=>match over n tch with
    | false=>raceOneK bef tch ft rest r
    | true=>match bef.testBit i with
     | true=>raceOneK bef tch ft rest r
     | false=>chkAll A oks (raceOneK bef tch ft rest r)
def slotN:List Nat→Nat→Nat
 | [],_=>0
 | x::_,0=>x
 | _::xs,n+1=>slotN xs n
def racesK(bef:List Nat):List Rec→R→R
 | [],r=>r
 | (i,t,f,_)::rest,r=>raceOneK A (slotN bef i) t f rest (racesK bef rest r)
def note(i:Nat)(t f:List Nat)(l:Option (Nat × List Bool))(rs:List Rec):List Rec :=
 match t,f,l with
 | [],[],none=>rs
 | t,f,l=>(i,t,f,l)::rs
inductive Gd where
 | run|pass|bad
def guardOf(fr:Fr):Option (Nat × Bool)→Gd
 | none => .run
 | some (s,want)=>match slot fr s,want with
  | .bool true,true => .run
  | .bool false,false => .run
  | .bool _,_ => .pass
  | .tup [],_ => .pass
  | _,_ => .bad
def vops(cf:CallF R):Nat→List VO→Fr→Hl→List Nat→List Rec→(Fr→Hl→List Nat→List Rec→R)→R
 | _,[],fr,H,lg,rs,k=>k fr H lg rs
 | i,o::os,fr,H,lg,rs,k =>
  match guardOf fr o.guard with
  | .run=>ex A Ω cf H o.op (evs fr o.args) fun r H' tch ft =>
    vops cf (i+1) os (setD fr o.dst r) H' (join tch lg) (note i (join tch (news (size H) (size H'))) ft (limOf o.op (size H) (scL (evs fr o.args) H r H')) rs) k
  | .pass=>vops cf (i+1) os (setD fr o.dst (.tup [])) H lg rs k
  | .bad=>A.fail
def results(rv:List RV)(fr:Fr)(H:Hl)(k:List AV→R):R :=
 match rv with
 | []=>k []
 | .tmp t::rv=>results rv fr H fun vs=>k (slot fr t::vs)
 | .cell1 t kd::rv=>match slot fr t with
  | .ptr b o=>blkK A H b fun cs=>A.get kd cs o fun v=>results rv fr H fun vs=>k (v::vs)
  | _=>A.fail
 | .cell t n::rv=>match slot fr t with
  | .ptr b o=>blkK A H b fun cs=>A.chk (Ω.le (Ω.add o n) (Ω.len cs)) (results rv fr H fun vs=>k (.agg (Ω.ext cs o n)::vs))
  | _=>A.fail
def pack:List AV→AV
 | [v]=>v
 | vs => .tup vs
def pad:Nat→List AV
 | 0 => []
 | n+1 => .tup []::pad n
def vm(T:Nat→Option VF):Nat→Nat→VC→Fr→Hl→List Nat→(Ex→Fr→Hl→List Nat→R)→R
 | 0,_,_,_,_,_,_=>A.fail
 | n+1,n0,c,fr,H,lg,k =>
  match c with
  | .skip=>k .norm fr H lg
  | .ret=>k .ret fr H lg
  | .exit id=>k (.exit id) fr H lg
  | .reg draw bef ops =>
   vops A Ω (fun f vals H k=>match T f with
    | none=>A.call f vals H k
    | some vf=>vm T n (size H) vf.body (join vals (pad (vf.ntmps - size vals))) H [] fun ex fr H' lg=>match ex with
     | .exit _=>A.fail
     | _=>results A Ω vf.results fr H' fun vs=>k (pack vs) H' lg)
    0 ops fr H lg [] fun fr H lg rs=>match draw with
     | false=>k .norm fr H lg
     | true=>racesK A bef rs (k .norm fr H lg)
  | .seq a b=>vm T n n0 a fr H lg fun ex fr H lg=>match ex with
   | .norm=>vm T n n0 b fr H lg k
   | ex=>k ex fr H lg
  | .cond c t e=>match ev fr c with
   | .bool true=>vm T n n0 t fr H lg k
   | .bool false=>vm T n n0 e fr H lg k
   | _=>A.fail
  | .block id b=>vm T n n0 b fr H lg fun ex fr H lg=>match ex with
   | .exit j=>match Nat.beq j id with
    | true=>k .norm fr H lg
    | false=>k (.exit j) fr H lg
   | ex=>k ex fr H lg
  | .loop b=>A.loop n0 b fr H lg k fun _=>vm T n n0 b fr H lg fun ex fr H lg=>match ex with
   | .norm=>vm T n n0 (.loop b) fr H lg k
   | ex=>k ex fr H lg
def vcall(T:Nat→Option VF)(n:Nat)(vf:VF)(vals:List AV)(H:Hl)(k:AV→Hl→List Nat→R):R :=
 vm A Ω T n (size H) vf.body (join vals (pad (vf.ntmps - size vals))) H [] fun ex fr H' lg=>match ex with
  | .exit _=>A.fail
  | _=>results A Ω vf.results fr H' fun vs=>k (pack vs) H' lg
end
end
def vp:List Nat→VC→VC
 | [],c=>c
 | 0::p,.seq x _=>vp p x
 | _::p,.seq _ y=>vp p y
 | 0::p,.cond _ x _=>vp p x
 | _::p,.cond _ _ y=>vp p y
 | _::p,.block _ x=>vp p x
 | _::p,.loop x=>vp p x
 | _,c=>c
def tp:Nat→List AV→List AV
 | 0,l=>l
 | n+1,l => .top::tp n l
end Go.Vm

namespace Go.Vm
set_option maxRecDepth 100000
def OpDo(P:Program)(o:Oper)(a:Act)(w:World)(Post:Value→World→Prop):Prop :=
 ∀ (next:Act→World→Prop) (Q:Exit→Act→World→Prop),(∀ v w',Post v w'→next (a.put o.dst v) w')→o.wp P a w next Q
theorem OpDo.value{P:Program}{o:Oper}{a:Act}{w w':World}{v:Value}{Post:Value→World→Prop}
  (h:(execOp a.eval o).run P w = .ok (.value v) w') (hp:Post v w'):OpDo P o a w Post:=by
 intro next Q hn
 unfold Oper.wp
 rw[h]
 exact hn v w' hp
theorem OpDo.skip{P:Program}{o:Oper}{a:Act}{w w':World}{Post:Value→World→Prop}
  (h:(execOp a.eval o).run P w = .ok .skip w') (hp:Post undef w'):OpDo P o a w Post:=by
 intro next Q hn
 unfold Oper.wp
 rw[h]
 exact hn undef w' hp
theorem nth_eq{α:Type}(l:List α)(i:Nat):nth l i=l[i]? := by
 induction l generalizing i with
 | nil=>simp[nth_nil]
 | cons x l ih=>cases i<;>simp[nth_zero,nth_succ,ih]
theorem put_eq{α:Type}(l:List α)(i:Nat)(v:α):put l i v=l.set i v:=by
 induction l generalizing i with
 | nil=>simp[put_nil]
 | cons x l ih=>cases i<;>simp[put_zero,put_succ,ih]
theorem size_eq{α:Type}(l:List α):size l=l.length:=by
 induction l with
 | nil=>rfl
 | cons x l ih=>simp[size_cons,ih]
theorem join_eq{α:Type}(l m:List α):join l m=l++m:=by
 induction l with
 | nil=>rfl
 | cons x l ih=>simp[join_cons,ih]
theorem blt_iff(a b:Nat):Nat.blt a b=true↔a<b:=by rw[Nat.blt_eq]
theorem mem_upto(n i:Nat):i∈upto n↔i<n:=by
 induction n with
 | zero=>simp[upto]
 | succ n ih=>simp[upto,ih]; omega
theorem mem_under(n i:Nat)(l:List Nat):i∈under n l↔i∈l∧i<n:=by
 induction l with
 | nil=>simp[under]
 | cons x l ih =>
  unfold under
  cases h:Nat.blt x n
  ·have hx:¬ x<n:=by intro h';have:=(blt_iff _ _).2 h';simp[h] at this
   simp only[ih,List.mem_cons]
   constructor
   ·rintro⟨a,b⟩; exact⟨.inr a,b⟩
   ·rintro⟨a|a,b⟩
    ·subst a;exact absurd b hx
    ·exact⟨a,b⟩
  ·have hx:x<n:=(blt_iff _ _).1 h
   simp only[List.mem_cons,ih]
   constructor
   ·rintro(a|⟨a,b⟩)
    ·subst a;exact⟨.inl rfl,hx⟩
    ·exact⟨.inr a,b⟩
   ·rintro⟨a|a,b⟩
    ·exact .inl a
    ·exact .inr ⟨a,b⟩
theorem mem_news(n m i:Nat):i∈news n m↔n≤i∧i<m:=by
 simp only[news,List.mem_filter,mem_upto,Bool.not_eq_true']
 constructor
 ·rintro⟨h1,h2⟩
  refine⟨?_,h1⟩
  rcases Nat.lt_or_ge i n with h|h
  ·have:=(blt_iff _ _).2 h;simp[h2] at this
  ·exact h
 ·rintro⟨h1,h2⟩
  refine⟨h2,?_⟩
  cases h:Nat.blt i n
  ·rfl
  ·have:=(blt_iff _ _).1 h;omega
theorem splice_length{α:Type}(cs:List α)(o:Nat)(xs:List α)(h:o+xs.length≤cs.length):(spliceL cs o xs).length=cs.length:=by
 simp[spliceL]; omega
theorem splice_get{α:Type}(cs:List α)(o:Nat)(xs:List α)(h:o+xs.length≤cs.length)(i:Nat) :
  (spliceL cs o xs)[i]? = if i<o then cs[i]? else if i<o+xs.length then xs[i - o]? else cs[i]? := by
 unfold spliceL
 by_cases h1:i<o
 ·rw[if_pos h1,List.getElem?_append_left (by simp;omega),List.getElem?_take,if_pos h1]
 ·rw[if_neg h1,List.getElem?_append_right (by simp;omega)]
  have e:(cs.take o).length=o:=by simp;omega
  rw[e]
  by_cases h2:i<o+xs.length
  ·rw[if_pos h2,List.getElem?_append_left (by omega)]
  ·rw[if_neg h2,List.getElem?_append_right (by omega),List.getElem?_drop]
   congr 1;omega
theorem cell_at{w:World}{B:Nat}{c:Array Value}{e:TypeId}{fz:Nat × Nat}(h:w.heap[B]? = some (.cells c e fz))(i:Nat) :
  w.cell? ⟨B,i,none⟩=c[i]? := by simp[World.cell?,h]
theorem add_at(B F n:Nat):(⟨B,F,none⟩:Addr).add n=⟨B,F+n,none⟩:=by
 unfold Addr.add
 split
 ·rename_i h;subst h;rfl
 ·rfl
theorem run_load_some{P:Program}{w:World}{a:Addr}{v:Value}(h:w.cell? a=some v):(load a).run P w = .ok v w:=by simp[h]
theorem run_loadCellsFrom'{P:Program}{w:World}{B F:Nat}:∀ (vs:List Value) (i:Nat) (acc:Array Value),(∀ j v,vs[j]? = some v→w.cell? ⟨B,F+(i+j),none⟩=some v) →
  (loadCellsFrom ⟨B,F,none⟩ i vs.length acc).run P w = .ok (acc++vs.toArray) w
 | [],i,acc,_=>by simp[loadCellsFrom]
 | v::vs,i,acc,h=>by
  have h0:=h 0 v (by simp)
  have ih:=run_loadCellsFrom' (P:=P) vs (i+1) (acc.push v) (fun j u hu=>by
   have:=h (j+1) u (by simpa using hu)
   rw[show i+(j+1)=i+1+j by omega] at this
   exact this)
  simp only[List.length_cons,loadCellsFrom,Sem.run_bind,add_at]
  rw[run_load_some (by simpa using h0)]
  simp only[Result.andThen_ok,ih]
  simp
theorem run_loadCells'{P:Program}{w:World}{B F:Nat}(vs:List Value)(n:Nat)(hn:vs.length=n)(h:∀ j v,vs[j]? = some v→w.cell? ⟨B,F+j,none⟩=some v) :
  (loadCells ⟨B,F,none⟩ n).run P w = .ok vs.toArray w:=by
 subst hn
 unfold loadCells
 rw[run_loadCellsFrom' vs 0 #[] (by simpa using h)]
 simp
structure Wrote(w:World)(B:Nat)(c':Array Value)(e:TypeId)(fz:Nat × Nat)(w':World):Prop where
 size:w'.heap.size=w.heap.size
 os:w'.os=w.os
 tape:w'.tape=w.tape
 output:w'.output=w.output
 here:w'.heap[B]? = some (.cells c' e fz)
 other:∀ B',B'≠B→w'.heap[B']? = w.heap[B']?
theorem run_store_row{P:Program}{w:World}{B i:Nat}{c:Array Value}{e:TypeId}{lo hi:Nat}{v:Value}(h:w.heap[B]? = some (.cells c e (lo,hi)))(hi':i<c.size)
  (hf:¬ (lo≤i∧i<hi)) (hv:vone v=true) :
  ∃ w',(store ⟨B,i,none⟩ v).run P w = .ok () w'∧Wrote w B (c.setIfInBounds i v) e (lo,hi) w':=by
 have hv':v.oneCell'=true:=by cases v<;>simp_all [vone,Value.oneCell']
 rw[run_store P w _ v _ hv',cell_at h]
 have hc:c[i]? = some c[i]:=by simp[hi']
 have hfz:w.frozen? ⟨B,i,none⟩=false:=by
  simp only[World.frozen?,h]
  simp only[Bool.and_eq_false_iff,decide_eq_false_iff_not]
  omega
 simp only[hc,hfz]
 simp only[Bool.false_eq_true,if_false]
 refine⟨_,rfl,?_⟩
 have hB:B<w.heap.size:=by
  rcases Nat.lt_or_ge B w.heap.size with h'|h'
  ·exact h'
  ·simp[Array.getElem?_eq_none h'] at h
 refine⟨by simp[World.setCell],rfl,rfl,rfl,?_,?_⟩
 ·simp only[World.setCell,Array.getElem?_modify,if_true,h,Option.map_some,Option.isSome_none,Bool.false_eq_true,if_false]
 ·intro B' hB'
  simp only[World.setCell,Array.getElem?_modify]
  rw[if_neg (fun h=>hB' h.symm)]
theorem splice_cons{c:List Value}{o:Nat}{v:Value}{vs:List Value}(h:o<c.length):spliceL (c.set o v) (o+1) vs=spliceL c o (v::vs):=by
 unfold spliceL
 rw[List.take_succ_eq_append_getElem (by simpa using h)]
 simp only[List.getElem_set_self,List.take_set_of_le (Nat.le_refl _),List.append_assoc,List.cons_append,List.nil_append,List.length_cons]
 congr 3
 rw[List.drop_set_of_lt (by omega)]
 congr 1
 omega
theorem run_storeCells'{P:Program}{B X:Nat}{e:TypeId}{lo hi:Nat}:∀ (vs:List Value) (i:Nat) (c:Array Value) (w:World),w.heap[B]? = some (.cells c e (lo,hi)) →
  X+i+vs.length≤c.size→(∀ j,X≤j→j<c.size→¬ (lo≤j∧j<hi))→(∀ v∈vs,vone v=true) →
  ∃ w',(storeCells ⟨B,X,none⟩ vs i).run P w = .ok () w'∧Wrote w B (spliceL c.toList (X+i) vs).toArray e (lo,hi) w'
 | [],i,c,w,h,hs,hf,hv=>by
  simp only[storeCells,Sem.run_pure]
  refine⟨w,rfl,rfl,rfl,rfl,rfl,?_,fun _ _=>rfl⟩
  rw[h]
  simp[spliceL]
 | v::vs,i,c,w,h,hs,hf,hv=>by
  simp only[List.length_cons] at hs
  simp only[storeCells,Sem.run_bind,add_at]
  obtain⟨w1,hr1,hw1⟩:=run_store_row (P:=P) (v:=v) h (i:=X+i) (by omega) (hf _ (by omega) (by omega)) (hv v (by simp))
  rw[hr1]
  simp only[Result.andThen_ok]
  obtain⟨w2,hr2,hw2⟩:=run_storeCells' (P:=P) (X:=X) vs (i+1) (c.setIfInBounds (X+i) v) w1 hw1.here (by simp;omega) (by simpa using hf) (fun u hu=>hv u (by simp[hu]))
  refine⟨w2,hr2,hw2.size.trans hw1.size,hw2.os.trans hw1.os,hw2.tape.trans hw1.tape,hw2.output.trans hw1.output,?_,fun B' hB'=>(hw2.other B' hB').trans (hw1.other B' hB')⟩
  rw[hw2.here]
  congr 3
  have e2:X+(i+1)=X+i+1:=by omega
  rw[e2,Array.toList_setIfInBounds]
  exact splice_cons (by simp;omega)
def one(g:Hp)(b:Nat)(k:Blk):Hp:=fun i=>if i=b then some k else g i
def rho1(ρ:Rho)(b:Nat)(s:Slot):Rho:=fun i=>if i=b then s else ρ i
theorem HRel.unowned{ρ:Rho}{w:World}{g:Hp}(h:HRel ρ w g){B:Nat}(hB:w.heap.size≤B):∀ b F,ρ b ≠ .live B F:=by
 intro b F hl
 have:=h.lt hl
 omega
def Lies(ρ:Rho)(w:World)(cs:List AV)(F:Nat)(c:Array Value):Prop :=
 ∀ i a,cs[i]? = some a→∃ v,c[F+i]? = some v∧vone v=true∧VRel ρ w a v
theorem Lies.mono{n:Nat}{ρ ρ':Rho}{w w':World}(e:Ext n ρ w ρ' w')(hb:∀ b,ρ b ≠ .unborn→b<n){cs:List AV}{F:Nat}{c:Array Value}(h:Lies ρ w cs F c):Lies ρ' w' cs F c :=
 fun i a ha=>let ⟨v,h1,h2,h3⟩:=h i a ha;⟨v,h1,h2,h3.mono e hb⟩
theorem ext_bound{ρ ρ':Rho}{w w':World}(h:∀ n,Ext n ρ w ρ' w'){a:AV}{v:Value}(hv:VRel ρ w a v):VRel ρ' w' a v:=by
 induction hv with
 | top v=>exact .top v
 | bool b=>exact .bool b
 | int k n=>exact .int k n
 | flt k n=>exact .flt k n
 | str s=>exact .str s
 | nilp=>exact .nilp
 | ptr b o v h0 h1 hs hh =>
  have e:=h (b+1)
  refine .ptr b o v ?_ ?_ hs ?_
  ·rcases e.slot b (by omega) h0 with s|s<;>rw[s]
   ·exact h0
   ·simp
  ·rcases e.slot b (by omega) h0 with s|s<;>rw[s]
   ·exact h1
   ·simp
  ·intro B F hl
   rcases e.slot b (by omega) h0 with s|s
   ·exact hh B F (s ▸ hl)
   ·rw[s] at hl;cases hl
 | nils=>exact .nils
 | slc b o len cap sz v h0 hs hv hh =>
  have e:=h (b+1)
  refine .slc b o len cap sz v ?_ hs ?_ ?_
  ·rcases e.slot b (by omega) h0 with s|s<;>rw[s]
   ·exact h0
   ·simp
  ·intro hl
   rcases e.slot b (by omega) h0 with s|s
   ·exact hv (s ▸ hl)
   ·rw[s] at hl;cases hl
  ·intro B F hl
   rcases e.slot b (by omega) h0 with s|s
   ·obtain⟨ao,cap',h1,h2,h3,h4,h5⟩:=hh B F (s ▸ hl)
    refine⟨ao,cap',h1,h2,h3,h4,?_⟩
    by_cases hB:B<w.heap.size
    ·rw[e.rows B hB]; exact h5
    ·rw[rows_zero (w:=w) (by omega)] at h5;omega
   ·rw[s] at hl;cases hl
 | ros cells off len cap exact B F ao cap' vs hlt hp hl ho hc hr hcap hlen he ha ih =>
  have e:=h 0
  refine .ros cells off len cap exact B F ao cap' vs (fun hn=>Nat.lt_of_lt_of_le (hlt hn) e.size) (fun hn=>e.unowned (hlt hn) (hp hn)) hl ho ?_ ih hcap hlen he ha
  intro i v hv
  have hn:cells ≠ []:=by
   intro h;subst h;simp at hl;subst hl;simp at hv
  rw[cell_keep (e.keep B (hlt hn) (hp hn))]
  exact hc i v hv
 | rop cells off B F vs hlt hp hl ho hc hr ih =>
  have e:=h 0
  refine .rop cells off B F vs (fun hn=>Nat.lt_of_lt_of_le (hlt hn) e.size) (fun hn=>e.unowned (hlt hn) (hp hn)) hl ho ?_ ih
  intro i v hv
  have hn:cells ≠ []:=by
   intro h;subst h;simp at hl;subst hl;simp at hv
  rw[cell_keep (e.keep B (hlt hn) (hp hn))]
  exact hc i v hv
 | agg cs vs hl ho hr ih=>exact .agg cs vs hl ho ih
 | tup cs vs hl hr ih=>exact .tup cs vs hl ih
 | fn f xs ys us vs hl hl' hr hr' ih ih'=>exact .fn f xs ys us vs hl hl' ih ih'
 | nilf=>exact .nilf
 | ifc t a v h ih=>exact .ifc t a v ih
 | nili=>exact .nili
 | mp b v h0 hs hh =>
  have e:=h (b+1)
  refine .mp b v ?_ hs ?_
  ·rcases e.slot b (by omega) h0 with s|s<;>rw[s]
   ·exact h0
   ·simp
  ·intro B F hl
   rcases e.slot b (by omega) h0 with s|s
   ·exact hh B F (s ▸ hl)
   ·rw[s] at hl;cases hl
theorem lies_bound{ρ ρ':Rho}{w w':World}(h:∀ n,Ext n ρ w ρ' w'){cs:List AV}{F:Nat}{c:Array Value}(hl:Lies ρ w cs F c):Lies ρ' w' cs F c :=
 fun i a ha=>let ⟨v,h1,h2,h3⟩:=hl i a ha;⟨v,h1,h2,ext_bound h h3⟩
theorem vrels_bound{ρ ρ':Rho}{w w':World}(h:∀ n,Ext n ρ w ρ' w'){as:List AV}{vs:List Value}(hl:VRels ρ w as vs):VRels ρ' w' as vs :=
 ⟨hl.len,fun i a v ha hv=>ext_bound h (hl.at_ i a v ha hv)⟩
theorem rows_here{w:World}{B:Nat}{c:Array Value}{e:TypeId}{fz:Nat × Nat}(h:w.heap[B]? = some (.cells c e fz)):rows w B=c.size:=by simp[rows,h]
theorem Wrote.ext{ρ:Rho}{w w':World}{b B F:Nat}{c c':Array Value}{e:TypeId}{fz:Nat × Nat}(hl:ρ b = .live B F)(h:w.heap[B]? = some (.cells c e fz))(hw:Wrote w B c' e fz w')
  (hs:c'.size=c.size) (n:Nat):Ext n ρ w ρ w' where
 size:=by rw[hw.size]; exact Nat.le_refl _
 os:=hw.os
 tape:=hw.tape
 output:=hw.output
 keep B' _ hu:=hw.other B' (fun e=>hu b F (e ▸ hl))
 slot _ _ _ := .inl rfl
 fresh b' B' F' h := .inr ⟨b',F',h⟩
 rows B' _:=by
  by_cases hB:B'=B
  ·subst hB;rw[rows_here hw.here,rows_here h,hs]
  ·simp only[rows,hw.other B' hB]
theorem HRel.wrote{ρ:Rho}{w w':World}{g:Hp}(hr:HRel ρ w g){b B F:Nat}{c c':Array Value}{e:TypeId}{lo hi:Nat}{cs cs':List AV}(hg:g b=some (.cells cs))(hl:ρ b = .live B F)
  (h:w.heap[B]? = some (.cells c e (lo,hi))) (hf:∀ j,F≤j→j<c.size→¬ (lo≤j∧j<hi)) (hw:Wrote w B c' e (lo,hi) w') (hs:c'.size=c.size) (hs':F+cs'.length≤c.size)
  (hc:Lies ρ w cs' F c'):HRel ρ w' (one g b (.cells cs')) where
 unborn i hi:=by
  unfold one at hi
  split at hi
  ·cases hi
  ·exact hr.unborn i hi
 dead i hi:=by
  unfold one at hi
  split at hi
  ·cases hi
  ·exact hr.dead i hi
 inj:=hr.inj
 live i ds hi:=by
  have E:∀ n,Ext n ρ w ρ w':=hw.ext hl h hs
  unfold one at hi
  split at hi
  ·rename_i hib;subst hib
   cases hi
   refine .inr ⟨B,F,c',e,lo,_,hl,hw.here,by omega,by rw[hs]; exact hf,lies_bound E hc⟩
  ·rename_i hib
   rcases hr.live i ds hi with ⟨hv,hd⟩|⟨B',F',c2,e2,lo2,hi2,hl2,hh2,hs2,hf2,hc2⟩
   ·exact .inl ⟨hv,hd⟩
   ·have hne:B'≠B:=by
     intro hbb;subst hbb
     exact hib (hr.inj i b B' F' F hl2 hl)
    exact .inr ⟨B',F',c2,e2,lo2,hi2,hl2,(hw.other B' hne).trans hh2,hs2,hf2,lies_bound E hc2⟩
 marks i B' F' c2 e2 lo2 hi2 h1 h2:=by
  by_cases hB:B'=B
  ·subst hB
   rw[hw.here] at h2
   cases h2
   rw[hs]
   exact hr.marks b _ F c e _ _ hl h
  ·rw[hw.other B' hB] at h2
   exact hr.marks i B' F' c2 e2 lo2 hi2 h1 h2
 sets i kd ks hi:=by
  unfold one at hi
  split at hi
  ·cases hi
  ·rename_i hib
   exact hr.sets_of hi rfl fun B' F' es clock h1 h2=>hw.other B' fun e=>by
    subst e
    rw[h] at h2
    cases h2
theorem alloc_ext{ρ:Rho}{w:World}{g:Hp}(hr:HRel ρ w g){N:Nat}(hN:g N=none)(o:Obj)(s:Slot)(hs:∀ B F,s = .live B F→B=w.heap.size)(n:Nat) :
  Ext n ρ w (rho1 ρ N s) { w with heap:=w.heap.push o } where
 size:=by simp
 os:=rfl
 tape:=rfl
 output:=rfl
 keep B hB _:=by simp only[Array.getElem?_push]; rw[if_neg (by omega)]
 slot b _ hb:=by
  left
  unfold rho1
  split
  ·rename_i h;subst h;exact absurd (hr.unborn _ hN) hb
  ·rfl
 fresh b B F hl:=by
  unfold rho1 at hl
  split at hl
  ·exact .inl (Nat.le_of_eq (hs B F hl).symm)
  ·exact .inr ⟨b,F,hl⟩
 rows B hB:=by simp only[rows,Array.getElem?_push]; rw[if_neg (by omega)]
theorem HRel.alloc{ρ:Rho}{w:World}{g:Hp}(hr:HRel ρ w g){N:Nat}(hN:g N=none){c:Array Value}{e:TypeId}{cs:List AV}(hs:cs.length≤c.size)(hc:Lies ρ w cs 0 c) :
  HRel (rho1 ρ N (.live w.heap.size 0)) { w with heap:=w.heap.push (.cells c e) } (one g N (.cells cs)):=by
 have E:∀ n,Ext n ρ w (rho1 ρ N (.live w.heap.size 0)) { w with heap:=w.heap.push (.cells c e) }:=alloc_ext hr hN _ _ (by intro B F h;cases h;rfl)
 constructor
 ·intro i hi
  unfold one at hi
  unfold rho1
  split at hi
  ·cases hi
  ·rename_i h;rw[if_neg h]; exact hr.unborn i hi
 ·intro i hi
  unfold one at hi
  unfold rho1
  split at hi
  ·cases hi
  ·rename_i h;rw[if_neg h]; exact hr.dead i hi
 ·intro b b' B F F' h h'
  unfold rho1 at h h'
  split at h<;>split at h'
  ·rename_i a b;rw[a,b]
  ·cases h;exact absurd h' (hr.unowned (Nat.le_refl _) _ _)
  ·cases h';exact absurd h (hr.unowned (Nat.le_refl _) _ _)
  ·exact hr.inj b b' B F F' h h'
 ·intro i ds hi
  unfold one at hi
  split at hi
  ·rename_i h;subst h
   cases hi
   refine .inr ⟨w.heap.size,0,c,e,0,0,by simp[rho1],by simp,by omega,by omega,lies_bound E hc⟩
  ·rename_i h
   rcases hr.live i ds hi with ⟨hv,hd⟩|⟨B',F',c2,e2,lo2,hi2,hl2,hh2,hs2,hf2,hc2⟩
   ·exact .inl ⟨by simp[rho1,h,hv],hd⟩
   ·refine .inr ⟨B',F',c2,e2,lo2,hi2,by simp[rho1,h,hl2],?_,hs2,hf2,lies_bound E hc2⟩
    have:=hr.lt hl2
    simp only[Array.getElem?_push]
    rw[if_neg (by omega)]
    exact hh2
 ·intro i B F c2 e2 lo hi h1 h2
  unfold rho1 at h1
  split at h1
  ·cases h1
   simp at h2
   obtain⟨_,_,h3,h4⟩:=h2
   exact .inl (h3.symm.trans h4)
  ·have:=hr.lt h1
   simp only[Array.getElem?_push] at h2
   rw[if_neg (by omega)] at h2
   exact hr.marks i B F c2 e2 lo hi h1 h2
 ·intro i kd ks hi
  unfold one at hi
  split at hi
  ·cases hi
  ·rename_i h
   refine hr.sets_of hi (by simp[rho1,h]) fun B' F' es clock h1 _ => ?_
   have:=hr.lt h1
   simp only[Array.getElem?_push]
   rw[if_neg (by omega)]
theorem drew_ext(ρ:Rho)(w:World)(d:Nat)(n:Nat):Ext n ρ w ρ { w with drawn:=d } :=
 ⟨Nat.le_refl _,rfl,rfl,rfl,fun _ _ _=>rfl,fun _ _ _ => .inl rfl,fun b B F h => .inr ⟨b,F,h⟩,fun _ _=>rfl⟩
theorem HRel.drew{ρ:Rho}{w:World}{g:Hp}(hr:HRel ρ w g)(d:Nat):HRel ρ { w with drawn:=d } g :=
 ⟨hr.unborn,hr.dead,hr.inj,fun b cs h=>by
  rcases hr.live b cs h with h'|⟨B,F,c,e,lo,hi,hl,hh,hs,hf,hc⟩
  ·exact .inl h'
  ·exact .inr ⟨B,F,c,e,lo,hi,hl,hh,hs,hf,lies_bound (drew_ext ρ w d) hc⟩,hr.marks,hr.sets⟩
theorem HRel.kill{ρ:Rho}{w:World}{g:Hp}(hr:HRel ρ w g){b:Nat}{k:Blk}(hg:g b=some k) :
  HRel (rho1 ρ b .dead) w (one g b .dead)∧∀ n,Ext n ρ w (rho1 ρ b .dead) w:=by
 have E:∀ n,Ext n ρ w (rho1 ρ b .dead) w:=fun n=>by
  refine⟨Nat.le_refl _,rfl,rfl,rfl,fun _ _ _=>rfl,fun i _ hi => ?_,fun i B F h => ?_,fun _ _=>rfl⟩
  ·unfold rho1
   split
   ·exact .inr rfl
   ·exact .inl rfl
  ·unfold rho1 at h
   split at h
   ·cases h
   ·exact .inr ⟨i,F,h⟩
 refine⟨⟨?_,?_,?_,?_,?_,?_⟩,E⟩
 ·intro i hi
  unfold one at hi
  unfold rho1
  split at hi
  ·cases hi
  ·rename_i h;rw[if_neg h]; exact hr.unborn i hi
 ·intro i hi
  unfold one at hi
  unfold rho1
  split at hi
  ·rename_i h;rw[if_pos h]
  ·rename_i h;rw[if_neg h]; exact hr.dead i hi
 ·intro i j B F F' h h'
  unfold rho1 at h h'
  split at h
  ·cases h
  ·split at h'
   ·cases h'
   ·exact hr.inj i j B F F' h h'
 ·intro i ds hi
  unfold one at hi
  split at hi
  ·cases hi
  ·rename_i h
   rcases hr.live i ds hi with ⟨hv,hd⟩|⟨B',F',c2,e2,lo2,hi2,hl2,hh2,hs2,hf2,hc2⟩
   ·exact .inl ⟨by simp[rho1,h,hv],hd⟩
   ·exact .inr ⟨B',F',c2,e2,lo2,hi2,by simp[rho1,h,hl2],hh2,hs2,hf2,lies_bound E hc2⟩
 ·intro i B F c e lo hi h1 h2
  unfold rho1 at h1
  split at h1
  ·cases h1
  ·exact hr.marks i B F c e lo hi h1 h2
 ·intro i kd ks hi
  unfold one at hi
  split at hi
  ·cases hi
  ·rename_i h
   exact hr.sets_of hi (by simp[rho1,h]) fun _ _ _ _ _ _=>rfl
theorem HRel.newSet{ρ:Rho}{w:World}{g:Hp}(hr:HRel ρ w g){N:Nat}(hN:g N=none)(kd:IntKind) :
  HRel (rho1 ρ N (.live w.heap.size 0)) { w with heap:=w.heap.push (.map #[] 0) } (one g N (.set kd []))∧∀ n,Ext n ρ w (rho1 ρ N (.live w.heap.size 0)) { w with heap:=w.heap.push (.map #[] 0) }:=by
 have E:∀ n,Ext n ρ w (rho1 ρ N (.live w.heap.size 0)) { w with heap:=w.heap.push (.map #[] 0) }:=alloc_ext hr hN _ _ (by intro B F h;cases h;rfl)
 refine⟨⟨?_,?_,?_,?_,?_,?_⟩,E⟩
 ·intro i hi
  unfold one at hi
  unfold rho1
  split at hi
  ·cases hi
  ·rename_i h;rw[if_neg h]; exact hr.unborn i hi
 ·intro i hi
  unfold one at hi
  unfold rho1
  split at hi
  ·cases hi
  ·rename_i h;rw[if_neg h]; exact hr.dead i hi
 ·intro b b' B F F' h h'
  unfold rho1 at h h'
  split at h<;>split at h'
  ·rename_i a b;rw[a,b]
  ·cases h;exact absurd h' (hr.unowned (Nat.le_refl _) _ _)
  ·cases h';exact absurd h (hr.unowned (Nat.le_refl _) _ _)
  ·exact hr.inj b b' B F F' h h'
 ·intro i ds hi
  unfold one at hi
  split at hi
  ·cases hi
  ·rename_i h
   rcases hr.live i ds hi with ⟨hv,hd⟩|⟨B',F',c2,e2,lo2,hi2,hl2,hh2,hs2,hf2,hc2⟩
   ·exact .inl ⟨by simp[rho1,h,hv],hd⟩
   ·refine .inr ⟨B',F',c2,e2,lo2,hi2,by simp[rho1,h,hl2],?_,hs2,hf2,lies_bound E hc2⟩
    have:=hr.lt hl2
    simp only[Array.getElem?_push]
    rw[if_neg (by omega)]
    exact hh2
 ·intro i B F c2 e2 lo hi h1 h2
  unfold rho1 at h1
  split at h1
  ·cases h1
   simp at h2
  ·have:=hr.lt h1
   simp only[Array.getElem?_push] at h2
   rw[if_neg (by omega)] at h2
   exact hr.marks i B F c2 e2 lo hi h1 h2
 ·intro i kd' ks hi
  unfold one at hi
  split at hi
  ·rename_i h;subst h
   cases hi
   exact⟨w.heap.size,0,#[],0,by simp[rho1],by simp,rfl⟩
  ·rename_i h
   refine hr.sets_of hi (by simp[rho1,h]) fun B' F' es clock h1 _ => ?_
   have:=hr.lt h1
   simp only[Array.getElem?_push]
   rw[if_neg (by omega)]
theorem HRel.turnSet{ρ:Rho}{w w':World}{g:Hp}(hr:HRel ρ w g){b B F:Nat}{kd:IntKind}{ks ks':List Int}{es es':Array MapEntry}{clock clock':Nat}(hg:g b=some (.set kd ks))(hl:ρ b = .live B F)
  (h:w.heap[B]? = some (.map es clock)) (hw:w' = { w with heap:=w.heap.setIfInBounds B (.map es' clock') }) (hs:SetIs kd ks' es'):HRel ρ w' (one g b (.set kd ks'))∧∀ n,Ext n ρ w ρ w':=by
 have hB:=hr.lt hl
 have other:∀ B',B'≠B→w'.heap[B']? = w.heap[B']? := fun B' hn=>by subst hw;simp only[Array.getElem?_setIfInBounds]; rw[if_neg (fun e=>hn e.symm)]
 have here:w'.heap[B]? = some (.map es' clock'):=by subst hw;simp[hB]
 have E:∀ n,Ext n ρ w ρ w':=fun n=>by
  refine⟨by subst hw;simp,by subst hw;rfl,by subst hw;rfl,by subst hw;rfl,fun B' _ hu=>other B' fun e=>hu b F (e ▸ hl),fun _ _ _ => .inl rfl,fun b' B' F' h => .inr ⟨b',F',h⟩,fun B' _ => ?_⟩
  by_cases hn:B'=B
  ·subst hn;simp only[rows,here,h]
  ·simp only[rows,other B' hn]
 refine⟨⟨?_,?_,hr.inj,?_,?_,?_⟩,E⟩
 ·intro i hi
  unfold one at hi
  split at hi
  ·cases hi
  ·exact hr.unborn i hi
 ·intro i hi
  unfold one at hi
  split at hi
  ·cases hi
  ·exact hr.dead i hi
 ·intro i ds hi
  unfold one at hi
  split at hi
  ·cases hi
  ·rename_i hib
   rcases hr.live i ds hi with ⟨hv,hd⟩|⟨B',F',c2,e2,lo2,hi2,hl2,hh2,hs2,hf2,hc2⟩
   ·exact .inl ⟨hv,hd⟩
   ·have hne:B'≠B:=by
     intro hbb;subst hbb
     exact hib (hr.inj i b B' F' F hl2 hl)
    exact .inr ⟨B',F',c2,e2,lo2,hi2,hl2,(other B' hne).trans hh2,hs2,hf2,lies_bound E hc2⟩
 ·intro i B' F' c2 e2 lo2 hi2 h1 h2
  by_cases hn:B'=B
  ·subst hn
   rw[here] at h2
   cases h2
  ·rw[other B' hn] at h2
   exact hr.marks i B' F' c2 e2 lo2 hi2 h1 h2
 ·intro i kd' ks2 hi
  unfold one at hi
  split at hi
  ·rename_i hib;subst hib
   cases hi
   exact⟨B,F,es',clock',hl,here,hs⟩
  ·rename_i hib
   exact hr.sets_of hi rfl fun B' F' _ _ h1 _=>other B' fun e=>by
    subst e
    exact hib (hr.inj i b B' F' F h1 hl)
end Go.Vm

namespace Go.Vm
set_option maxRecDepth 100000
def toAV:Value→Option AV
 | .bool b=>some (.bool b)
 | .int k n=>some (.int k n)
 | .float k n=>some (.flt k n)
 | .string s=>some (.str s.data.toList)
 | .pointer none=>some .nilp
 | .slice none 0 0=>some .nils
 | .nilFunc=>some .nilf
 | .nilIface=>some .nili
 | _=>none
theorem toAV_rel{v:Value}{a:AV}(h:toAV v=some a)(ρ:Rho)(w:World):VRel ρ w a v:=by
 unfold toAV at h
 split at h<;>first
  | (cases h;first|exact .bool _|exact .int _ _|exact .flt _ _|exact .nilp|exact .nils|exact .nilf|exact .nili|exact .str _)
  | cases h
theorem toAV_one{v:Value}{a:AV}(h:toAV v=some a):vone v=true:=by
 unfold toAV at h
 split at h<;>first|rfl|cases h
def toAVs:List Value→Option (List AV)
 | []=>some []
 | v::vs=>match toAV v,toAVs vs with
  | some a,some as=>some (a::as)
  | _,_=>none
theorem toAVs_rel{vs:List Value}{as:List AV}(h:toAVs vs=some as):as.length=vs.length∧∀ (i:Nat) (a:AV),as[i]? = some a→∃ v,vs[i]? = some v∧toAV v=some a:=by
 induction vs generalizing as with
 | nil=>cases h;exact⟨rfl,fun i a ha=>by simp at ha⟩
 | cons v vs ih =>
  unfold toAVs at h
  split at h
  ·rename_i x y hx hy
   cases h
   obtain⟨hl,hi⟩:=ih hy
   refine⟨by simp[hl],fun i a ha => ?_⟩
   cases i with
   | zero=>simp at ha;subst ha;exact⟨v,by simp,hx⟩
   | succ i=>simp at ha;obtain⟨u,h1,h2⟩:=hi i a ha;exact⟨u,by simpa using h1,h2⟩
  ·cases h
theorem toAVs_lies{vs:List Value}{as:List AV}(h:toAVs vs=some as)(ρ:Rho)(w:World):Lies ρ w as 0 vs.toArray:=by
 intro i a ha
 obtain⟨v,h1,h2⟩:=(toAVs_rel h).2 i a ha
 exact⟨v,by simpa using h1,toAV_one h2,toAV_rel h2 ρ w⟩
def argOf:Operand→Option Arg
 | .tmp t=>some (.t t)
 | .const v=>match v with
  | .tuple vs=>if vs.size=0 then some (.c (.tup [])) else none
  | v=>(toAV v).map .c
 | .func f=>some (.c (.fn f [] []))
 | .global _=>none
def argsOf:List Operand→Option (List Arg)
 | []=>some []
 | x::xs=>match argOf x,argsOf xs with
  | some a,some as=>some (a::as)
  | _,_=>none
abbrev FRel(ρ:Rho)(w:World)(fr:Fr)(tmps:Array Value):Prop:=VRels ρ w fr tmps.toList
theorem slot_eq(fr:Fr)(t:Nat):slot fr t=fr[t]?.getD (.tup []):=by
 induction fr generalizing t with
 | nil=>simp[slot_nil]
 | cons x fr ih=>cases t<;>simp[slot_zero,slot_succ,ih]
theorem undef_rel(ρ:Rho)(w:World):VRel ρ w (.tup []) undef := .tup [] [] rfl (fun i a v h _=>by simp at h)
theorem slot_rel{ρ:Rho}{w:World}{fr:Fr}{tmps:Array Value}(h:FRel ρ w fr tmps)(t:Nat):VRel ρ w (slot fr t) (tmps.getD t undef):=by
 rw[slot_eq]
 have hl:=h.len
 cases hf:fr[t]? with
 | none =>
  have:tmps.getD t undef=undef:=by
   have hn:tmps.size≤t:=by simp at hf hl;omega
   simp[Array.getD,Nat.not_lt.2 hn]
  rw[this]
  exact undef_rel ρ w
 | some a =>
  obtain⟨v,hv,hr⟩:=h.get hf
  have:tmps.getD t undef=v:=by
   have h':tmps[t]? = some v:=by simpa using hv
   simp[h']
  rw[this]
  exact hr
theorem arg_rel{ρ:Rho}{w:World}{fr:Fr}{a:Act}(h:FRel ρ w fr a.tmps){x:Operand}{y:Arg}(hy:argOf x=some y):VRel ρ w (ev fr y) (a.eval x):=by
 unfold argOf at hy
 split at hy
 ·cases hy;exact slot_rel h _
 ·split at hy
  ·split at hy
   ·rename_i hs
    cases hy
    have e:=Array.size_eq_zero_iff.1 hs
    subst e
    exact undef_rel ρ w
   ·cases hy
  ·obtain⟨b,hb,e⟩:=Option.map_eq_some_iff.1 hy
   subst e
   exact toAV_rel hb ρ w
 ·cases hy
  exact .fn _ [] [] [] [] rfl rfl (fun i a v h _=>by simp at h) (fun i a v h _=>by simp at h)
 ·cases hy
theorem args_rel{ρ:Rho}{w:World}{fr:Fr}{a:Act}(h:FRel ρ w fr a.tmps){xs:List Operand}{ys:List Arg}(hy:argsOf xs=some ys):VRels ρ w (evs fr ys) (xs.map a.eval):=by
 induction xs generalizing ys with
 | nil=>cases hy;exact .nil
 | cons x xs ih =>
  unfold argsOf at hy
  split at hy
  ·rename_i p q hp hq
   cases hy
   exact .cons (arg_rel h hp) (ih hq)
  ·cases hy
def agree(g:Hp)(H:Hl)(l:List Nat):Prop:=∀ b,b∈l→g b=H[b]?
def upd(g:Hp)(H':Hl)(l:List Nat):Hp:=fun b=>if b∈l then H'[b]? else g b
structure StepOK(P:Program)(o:Oper)(xs:List Operand)(avs:List AV)(H:Hl)(r:AV)(H':Hl)(tch ft:List Nat):Prop where
 grow:H.length≤H'.length
 old:∀ b,b∈tch→b<H.length
 keep:∀ b,b<H.length→b ∉ tch→H'[b]? = H[b]?
 does:∀ (ρ:Rho) (w:World) (a:Act) (g:Hp),VRels ρ w avs (xs.map a.eval)→agree g H ft→agree g H tch→(∀ b,H.length≤b→b<H'.length→g b=none)→HRel ρ w g →
  OpDo P o a w (fun v w'=>∃ ρ',HRel ρ' w' (upd g H' (tch++news H.length H'.length))∧VRel ρ' w' r v∧∀ n,Ext n ρ w ρ' w')
theorem news_self(n:Nat):news n n = []:=by
 apply List.eq_nil_iff_forall_not_mem.2
 intro i hi
 have:=(mem_news n n i).1 hi
 omega
theorem news_succ(n:Nat):news n (n+1) = [n]:=by
 have h:∀ i,i∈upto n→(!(Nat.blt i n))=false:=by
  intro i hi
  have:=(blt_iff i n).2 ((mem_upto n i).1 hi)
  simp[this]
 have hn:(!(Nat.blt n n))=true:=by
  cases h:Nat.blt n n
  ·rfl
  ·have:=(blt_iff n n).1 h;omega
 simp only[news,upto,List.filter_cons,hn,if_true]
 congr 1
 apply List.filter_eq_nil_iff.2
 intro i hi
 simp[h i hi]
theorem upd_nil(g:Hp)(H':Hl):upd g H' []=g:=by funext b;simp[upd]
theorem StepOK.quiet{P:Program}{o:Oper}{xs:List Operand}{avs:List AV}{H:Hl}{r:AV}{ft:List Nat}
  (h:∀ (ρ:Rho) (w:World) (a:Act) (g:Hp),VRels ρ w avs (xs.map a.eval)→agree g H ft→HRel ρ w g→∃ v,(execOp a.eval o).run P w = .ok (.value v) w∧VRel ρ w r v) :
  StepOK P o xs avs H r H [] ft where
 grow:=Nat.le_refl _
 old b hb:=by cases hb
 keep _ _ _:=rfl
 does ρ w a g hx hf _ _ hg:=by
  obtain⟨v,hr,hv⟩:=h ρ w a g hx hf hg
  refine OpDo.value hr ⟨ρ,?_,hv,fun n=>Ext.refl n ρ w⟩
  rw[news_self,List.append_nil,upd_nil]
  exact hg
theorem upd_one{g:Hp}{H:Hl}{k:Blk}:upd g (H ++ [k]) ([]++news H.length (H ++ [k]).length)=one g H.length k:=by
 funext b
 simp only[upd,one,List.nil_append,List.length_append,List.length_cons,List.length_nil,Nat.zero_add,news_succ,List.mem_singleton]
 by_cases h:b=H.length
 ·subst h;simp
 ·simp[h]
theorem StepOK.alloc{P:Program}{o:Oper}{xs:List Operand}{avs:List AV}{H:Hl}{r:AV}{ft:List Nat}{cs:List AV}
  (h:∀ (ρ:Rho) (w:World) (a:Act) (g:Hp),VRels ρ w avs (xs.map a.eval)→agree g H ft→HRel ρ w g→∃ v d c e,(execOp a.eval o).run P w = .ok (.value v) { w with heap:=w.heap.push (.cells c e),drawn:=d } ∧
   cs.length≤c.size∧Lies ρ w cs 0 c∧∀ ρ' w',ρ' H.length = .live w.heap.size 0→rows w' w.heap.size=c.size→VRel ρ' w' r v) :
  StepOK P o xs avs H r (H ++ [.cells cs]) [] ft where
 grow:=by simp
 old b hb:=by cases hb
 keep b hb _:=by rw[List.getElem?_append_left hb]
 does ρ w a g hx hf _ hn hg:=by
  obtain⟨v,d,c,e,hr,hs,hc,hv⟩:=h ρ w a g hx hf hg
  have hN:g H.length=none:=hn _ (Nat.le_refl _) (by simp)
  have R:=(hg.alloc hN (e:=e) hs hc).drew d
  have E:∀ n,Ext n ρ w (rho1 ρ H.length (.live w.heap.size 0)) { w with heap:=w.heap.push (.cells c e) }:=alloc_ext hg hN _ _ (by intro B F h;cases h;rfl)
  refine OpDo.value hr ⟨rho1 ρ H.length (.live w.heap.size 0),?_,?_,fun n=>(E n).trans (drew_ext _ _ d n)⟩
  ·rw[upd_one]; exact R
  ·exact hv _ _ (by simp[rho1]) (by simp[rows])
theorem run_size{P:Program}{t:TypeId}{i:TypeInfo}(h:P.info? t=some i)(w:World):(sizeOf t).run P w = .ok i.size w:=by
 simp[sizeOf,typeInfo,h]
theorem run_zero{P:Program}{t:TypeId}{i:TypeInfo}{z:Value}(h:P.info? t=some i)(hz:i.zero=some z)(w:World):(zeroValue t).run P w = .ok z w:=by
 simp[zeroValue,typeInfo,h,hz]
def isAggD:TypeDesc→Bool
 | .struct _ | .array _ _=>true
 | _=>false
theorem run_agg{P:Program}{t:TypeId}{d:TypeDesc}(h:P.underlying t=some d)(w:World):(isAgg t).run P w = .ok (isAggD d) w:=by
 unfold isAgg
 rw[Sem.run_bind,run_underlying h w]
 cases d<;>rfl
end Go.Vm

namespace Go.Vm
set_option maxRecDepth 100000
structure CallTo(P:Program)(f:Nat)(vals:List AV)(H:Hl)(r:AV)(H':Hl)(lg:List Nat):Prop where
 real:∀ (args:Array Value) (w:World),(callFunc f args).run P w = .ok (.enter f args) w
 grow:H.length≤H'.length
 keep:∀ b,b<H.length→b ∉ lg→H'[b]? = H[b]?
 does:∀ (ρ:Rho) (w:World) (us:List Value),HRel ρ w (fun b=>H[b]?)→VRels ρ w vals us →
  Calls P f us.toArray w (fun e w'=>∃ v ρ',e = .returned v∧HRel ρ' w' (fun b=>H'[b]?)∧VRel ρ' w' r v∧Ext H.length ρ w ρ' w')
structure Alg.Good{R:Type}(A:Alg R)(holds:R→Prop):Prop where
 fail:¬ holds A.fail
 chk:∀ b r,holds (A.chk b r)→b=true∧holds r
 br:∀ b r s,holds (A.br b r s)→(b=true∧holds r)∨(b=false∧holds s)
 get:∀ kd cs i k,holds (A.get kd cs i k)→∃ v,cs[i]? = some v∧holds (k v)
 flo:∀ o k,holds (A.flo o k)→∃ r,o=some r∧holds (k r)
 fit:∀ l n c r s,holds (A.fit l n c r s)→(l+n≤c∧holds r)∨holds s
 ints:∀ kd cs k,holds (A.ints kd cs k)→∃ l:List Int,cs=l.map (AV.int kd)∧holds (k l)
 byts:∀ cs k,holds (A.byts cs k)→∃ l:List UInt8,cs=l.map (fun b=>AV.int .u8 b.toNat)∧holds (k l)
theorem VRels.one{ρ:Rho}{w:World}{a:AV}{v:Value}(h:VRels ρ w [a] [v]):VRel ρ w a v:=h.at_ 0 a v rfl rfl
theorem VRels.two{ρ:Rho}{w:World}{a b:AV}{u v:Value}(h:VRels ρ w [a,b] [u,v]):VRel ρ w a u∧VRel ρ w b v:=⟨h.at_ 0 a u rfl rfl,h.at_ 1 b v rfl rfl⟩
theorem VRels.three{ρ:Rho}{w:World}{a b c:AV}{u v x:Value}(h:VRels ρ w [a,b,c] [u,v,x]):VRel ρ w a u∧VRel ρ w b v∧VRel ρ w c x :=
 ⟨h.at_ 0 a u rfl rfl,h.at_ 1 b v rfl rfl,h.at_ 2 c x rfl rfl⟩
theorem VRels.head{ρ:Rho}{w:World}{a:AV}{as:List AV}{v:Value}{vs:List Value}(h:VRels ρ w (a::as) (v::vs)):VRel ρ w a v:=h.at_ 0 a v rfl rfl
theorem VRels.tail{ρ:Rho}{w:World}{a:AV}{as:List AV}{v:Value}{vs:List Value}(h:VRels ρ w (a::as) (v::vs)):VRels ρ w as vs :=
 ⟨by have:=h.len;simpa using this,fun i x u hx hu=>h.at_ (i+1) x u (by simpa using hx) (by simpa using hu)⟩
theorem inv_bool{ρ:Rho}{w:World}{b:Bool}{v:Value}(h:VRel ρ w (.bool b) v):v = .bool b:=by cases h;rfl
theorem inv_int{ρ:Rho}{w:World}{k:IntKind}{n:Int}{v:Value}(h:VRel ρ w (.int k n) v):v = .int k n:=by cases h;rfl
theorem inv_flt{ρ:Rho}{w:World}{k:FloatKind}{n:Nat}{v:Value}(h:VRel ρ w (.flt k n) v):v = .float k n:=by cases h;rfl
theorem inv_str{ρ:Rho}{w:World}{s:List UInt8}{v:Value}(h:VRel ρ w (.str s) v):v = .string ⟨s.toArray⟩:=by cases h;rfl
theorem inv_nils{ρ:Rho}{w:World}{v:Value}(h:VRel ρ w .nils v):v = .slice none 0 0:=by cases h;rfl
theorem sameK_eq{a b:IntKind}(h:sameK a b=true):a=b:=by cases a<;>cases b<;>first|rfl|cases h
theorem sameF_eq{a b:FloatKind}(h:sameF a b=true):a=b:=by cases a<;>cases b<;>first|rfl|cases h
theorem one_rel{ρ:Rho}{w:World}{x:AV}{v:Value}(h:VRel ρ w x v)(hx:x.one=true):vone v=true∧v.cells = #[v]:=by
 cases h with
 | ptr b o v h0 h1 hs _=>obtain⟨a,rfl⟩:=hs;exact⟨rfl,rfl⟩
 | slc b o len cap sz v h0 hs _ _=>obtain⟨a,c,rfl,_⟩:=hs;exact⟨rfl,rfl⟩
 | mp b v h0 hs _=>obtain⟨a,rfl⟩:=hs;exact⟨rfl,rfl⟩
 | top=>cases hx
 | agg=>cases hx
 | tup=>cases hx
 | _=>exact⟨rfl,rfl⟩
theorem lies_one{ρ:Rho}{w:World}{x:AV}{v:Value}(h:VRel ρ w x v)(hx:x.one=true):Lies ρ w [x] 0 #[v]:=by
 intro i a ha
 cases i with
 | zero=>simp at ha;subst ha;exact⟨v,by simp,(one_rel h hx).1,h⟩
 | succ i=>simp at ha
theorem lies_agg{ρ:Rho}{w:World}{cs:List AV}{v:Value}(h:VRel ρ w (.agg cs) v):∃ vs:List Value,v = .agg vs.toArray∧vs.length=cs.length∧(∀ v∈vs,vone v=true)∧Lies ρ w cs 0 vs.toArray:=by
 cases h with
 | agg _ vs hl ho hr =>
  refine⟨vs,rfl,hl,ho,fun i a ha => ?_⟩
  have hi:i<vs.length:=by rw[hl]; exact(List.getElem?_eq_some_iff.1 ha).1
  exact⟨vs[i],by simp[hi],ho _ (List.getElem_mem _),hr i a _ ha (by simp[hi])⟩
theorem agg_of_lies{ρ:Rho}{w:World}{cs:List AV}{vs:List Value}(hl:vs.length=cs.length)(h:Lies ρ w cs 0 vs.toArray):VRel ρ w (.agg cs) (.agg vs.toArray):=by
 refine .agg cs vs hl ?_ ?_
 ·intro v hv
  obtain⟨i,hi,e⟩:=List.mem_iff_getElem.1 hv
  have hi':i<cs.length:=by omega
  obtain⟨u,h1,h2,_⟩:=h i cs[i] (by simp)
  have h1':vs[i]? = some u:=by simpa using h1
  rw[List.getElem?_eq_getElem hi] at h1'
  rw[←e,Option.some.inj h1']; exact h2
 ·intro i a v ha hv
  obtain⟨u,h1,_,h3⟩:=h i a ha
  have h1':vs[i]? = some u:=by simpa using h1
  have e:v=u:=Option.some.inj (hv.symm.trans h1')
  rw[e]; exact h3
theorem Lies.sub{ρ:Rho}{w:World}{cs:List AV}{F:Nat}{c:Array Value}(h:Lies ρ w cs F c)(o n:Nat):Lies ρ w ((cs.drop o).take n) (F+o) c:=by
 intro i a ha
 rw[List.getElem?_take] at ha
 split at ha
 ·rw[List.getElem?_drop] at ha
  have:=h _ a ha
  rw[←Nat.add_assoc] at this
  exact this
 ·cases ha
theorem Lies.values{ρ:Rho}{w:World}{cs:List AV}{F:Nat}{c:Array Value}(h:Lies ρ w cs F c) :
  ∃ vs:List Value,vs.length=cs.length∧(∀ i v,vs[i]? = some v→c[F+i]? = some v)∧Lies ρ w cs 0 vs.toArray∧∀ v∈vs,vone v=true:=by
 induction cs generalizing F with
 | nil=>exact⟨[],rfl,fun i v h=>by simp at h,fun i a ha=>by simp at ha,fun v hv=>by simp at hv⟩
 | cons a cs ih =>
  have ht:Lies ρ w cs (F+1) c:=fun i b hb=>by
   have:=h (i+1) b (by simpa using hb)
   rw[show F+(i+1)=F+1+i by omega] at this
   exact this
  obtain⟨vs,h1,h2,h3,h4⟩:=ih ht
  obtain⟨v,hv,ho,hr⟩:=h 0 a rfl
  refine⟨v::vs,by simp[h1],?_,?_,?_⟩
  ·intro i u hu
   cases i with
   | zero=>simp at hu;subst hu;exact hv
   | succ i =>
    have:=h2 i u (by simpa using hu)
    rw[show F+(i+1)=F+1+i by omega]
    exact this
  ·intro i b hb
   cases i with
   | zero=>simp at hb;subst hb;exact⟨v,by simp,ho,hr⟩
   | succ i =>
    obtain⟨u,g1,g2,g3⟩:=h3 i b (by simpa using hb)
    exact⟨u,by simpa using g1,g2,g3⟩
  ·intro u hu
   cases hu with
   | head=>exact ho
   | tail _ hu=>exact h4 u hu
section
variable {R:Type}{A:Alg R}{holds:R→Prop}(good:A.Good holds)
include good
theorem oneK_sound{x:AV}{r:R}(h:holds (oneK A x r)):x.one=true∧holds r:=by
 cases x<;>first|exact(good.fail h).elim|exact⟨rfl,h⟩
theorem cellsK_sound{x:AV}{k:List AV→R}(h:holds (cellsK A x k)):∃ cs,holds (k cs)∧∀ ρ w v,VRel ρ w x v→cs.length=v.cells.size∧Lies ρ w cs 0 v.cells:=by
 cases x with
 | agg cs =>
  refine⟨cs,h,fun ρ w v hv => ?_⟩
  obtain⟨vs,rfl,hl,_,hc⟩:=lies_agg hv
  exact⟨by simp[Value.cells,hl],hc⟩
 | top=>exact(good.fail h).elim
 | tup=>exact(good.fail h).elim
 | _ =>
  refine⟨_,h,fun ρ w v hv => ?_⟩
  obtain⟨h1,h2⟩:=one_rel hv rfl
  rw[h2]
  exact⟨rfl,lies_one hv rfl⟩
theorem cells1K_sound{x:AV}{n:Nat}{k:List AV→R}(h:holds (cells1K A ops0 x n k)):∃ cs,holds (k cs)∧cs.length=n∧∀ ρ w v,VRel ρ w x v→v.cells.size=n∧Lies ρ w cs 0 v.cells:=by
 cases x with
 | agg cs =>
  obtain⟨e,h⟩:=good.chk _ _ h
  have e:cs.length=n:=by simpa[ops0] using e
  refine⟨cs,h,e,fun ρ w v hv => ?_⟩
  obtain⟨vs,rfl,hl,_,hc⟩:=lies_agg hv
  exact⟨by simp[Value.cells,hl,e],hc⟩
 | top=>exact(good.fail h).elim
 | tup=>exact(good.fail h).elim
 | _ =>
  simp only[cells1K] at h
  split at h
  ·rename_i e
   have e:=Nat.eq_of_beq_eq_true e
   subst e
   refine⟨_,h,rfl,fun ρ w v hv => ?_⟩
   obtain⟨h1,h2⟩:=one_rel hv rfl
   rw[h2]
   exact⟨rfl,lies_one hv rfl⟩
  ·exact(good.fail h).elim
theorem blkK_sound{H:Hl}{b:Nat}{k:List AV→R}(h:holds (blkK A H b k)):∃ cs,H[b]? = some (.cells cs)∧holds (k cs):=by
 unfold blkK at h
 rw[nth_eq] at h
 split at h
 ·rename_i cs e;exact⟨cs,e,h⟩
 ·exact(good.fail h).elim
theorem brB_sound{b neg:Bool}{k:AV→R}(h:holds (brB A b neg k)):holds (k (.bool (Bool.xor neg b))):=by
 cases neg
 ·rcases good.br _ _ _ (show holds (A.br b _ _) from h) with ⟨e,h2⟩|⟨e,h2⟩<;>subst e<;>exact h2
 ·rcases good.br _ _ _ (show holds (A.br b _ _) from h) with ⟨e,h2⟩|⟨e,h2⟩<;>subst e<;>exact h2
end
theorem ptr_live{ρ:Rho}{w:World}{g:Hp}(hg:HRel ρ w g){b o:Nat}{cs:List AV}(hb:g b=some (.cells cs)){v:Value}(h:VRel ρ w (.ptr b o) v) :
  ∃ B F c e lo hi,ρ b = .live B F∧v = .pointer (some ⟨B,F+o,none⟩)∧w.heap[B]? = some (.cells c e (lo,hi))∧F+cs.length≤c.size ∧
   (∀ j,F≤j→j<c.size→¬ (lo≤j∧j<hi))∧Lies ρ w cs F c:=by
 cases h with
 | ptr _ _ _ h0 h1 hs hh =>
  rcases hg.live b cs hb with ⟨hv,_⟩|⟨B,F,c,e,lo,hi,hl,hc,hsz,hf,hli⟩
  ·exact absurd hv h1
  ·exact⟨B,F,c,e,lo,hi,hl,hh B F hl,hc,hsz,hf,hli⟩
structure Elems(P:Program)(ρ:Rho)(w:World)(sz:Nat)(v:Value)(cs:List AV)(n:Nat):Prop where
 len:cs.length=n*sz
 lenOf:(Builtin.lenOf v).run P w = .ok n w
 first:∀ m,m≤n→∃ vs:List Value,vs.length=m*sz∧(Builtin.firstCells sz m v).run P w = .ok vs.toArray w∧Lies ρ w (cs.take (m*sz)) 0 vs.toArray∧∀ v∈vs,vone v=true
theorem row_first{P:Program}{ρ:Rho}{w:World}{B X sz n cap':Nat}{ao:Option Addr}{cs:List AV}{vs:List Value}(hl:vs.length=cs.length)(hcs:cs.length=n*sz)
  (ha:n*sz≠0→ao=some ⟨B,X,none⟩) (hn:ao=none→n=0) (hc:∀ i v,vs[i]? = some v→w.cell? ⟨B,X+i,none⟩=some v) (hli:Lies ρ w cs 0 vs.toArray) (ho:∀ v∈vs,vone v=true) :
  Elems P ρ w sz (.slice ao n cap') cs n where
 len:=hcs
 lenOf:=by simp[Builtin.lenOf]
 first m hm:=by
  have hmn:m*sz≤n*sz:=Nat.mul_le_mul_right _ hm
  refine⟨vs.take (m*sz),by simp;omega,?_,?_,fun v hv=>ho v (List.mem_of_mem_take hv)⟩
  ·cases ao with
   | none =>
    have:=hn rfl
    subst this
    have:m=0:=by omega
    subst this
    simp[Builtin.firstCells]
   | some a =>
    simp only[Builtin.firstCells]
    by_cases hz:m*sz=0
    ·rw[hz]; simp[loadCells,loadCellsFrom]
    ·have:=ha (by omega)
     cases this
     refine run_loadCells' _ _ (by simp;omega) ?_
     intro j v hv
     rw[List.getElem?_take] at hv
     split at hv
     ·exact hc j v hv
     ·cases hv
  ·intro i a hia
   rw[List.getElem?_take] at hia
   split at hia
   ·rename_i hi
    obtain⟨v,h1,h2,h3⟩:=hli i a hia
    refine⟨v,?_,h2,h3⟩
    simp only[Nat.zero_add] at h1 ⊢
    simp only[List.getElem?_toArray] at h1 ⊢
    rw[List.getElem?_take,if_pos hi]; exact h1
   ·cases hia
section
variable {R:Type}{A:Alg R}{holds:R→Prop}(good:A.Good holds)
include good
theorem elemsK_sound{H:Hl}{sz:Nat}{x:AV}{k:List AV→Nat→List Nat→R}(h:holds (elemsK A ops0 H sz x k)) :
    ∃ cs n ft,holds (k cs n ft)∧∀ (P:Program) (ρ:Rho) (w:World) (g:Hp) (v:Value),VRel ρ w x v→agree g H ft→HRel ρ w g→Elems P ρ w sz v cs n:=by
  cases x with
  | nils =>
    refine⟨[],0,[],h,fun P ρ w g v hv _ _ => ?_⟩
    rw[inv_nils hv]
    exact row_first (B:=0) (X:=0) (vs := []) rfl (by simp) (by simp) (fun _=>rfl) (fun i v h=>by simp at h) (fun i a ha=>by simp at ha) (fun v hv=>by simp at hv)
  | slc b o len cap sz' =>
    simp only[elemsK] at h
    obtain⟨bs,hb,h⟩:=blkK_sound good h
    obtain⟨hle,h⟩:=good.chk _ _ h
    have hle:o+len*sz≤bs.length:=by simpa[ops0] using hle
    refine⟨_,_,_,h,fun P ρ w g v hv hag hg => ?_⟩
    have hgb:g b=some (.cells bs):=(hag b (by simp)).trans hb
    cases hv with
    | slc _ _ _ _ _ _ h0 hs hvo hh =>
      rcases hg.live b bs hgb with ⟨hvd,hbs⟩|⟨B,F,c,e,lo,hi,hl,hc,hsz,hf,hli⟩
      · obtain⟨ao,rfl,rfl,rfl⟩:=hvo hvd
        subst hbs
        exact row_first (B:=0) (X:=0) (vs := []) (by simp[ops0]) (by simp[ops0]) (by simp) (fun _=>rfl) (fun i v h=>by simp at h) (fun i a ha=>by simp[ops0] at ha) (fun v hv=>by simp at hv)
      · obtain⟨ao,cap',h1,h2,rfl,h4,h5⟩:=hh B F hl
        have hsub:=Lies.sub (show Lies ρ w bs F c from hli) o (len*sz)
        obtain⟨vs,hvl,hvc,hvl2,hvo2⟩:=hsub.values
        have hlen:((bs.drop o).take (len*sz)).length=len*sz:=by simp;omega
        refine row_first (B:=B) (X:=F+o) (vs:=vs) hvl hlen ?_ ?_ ?_ hvl2 hvo2
        · intro hn
          exact h4 (by intro h; subst h; have : len = 0 := by omega
                       subst this;simp at hn)
        · intro hn
          have:cap'=0:=by
            rcases Nat.eq_zero_or_pos cap' with h|h
            · exact h
            · have:=h4 (by omega); rw[hn] at this;cases this
          omega
        · intro i v hv
          rw[cell_at hc]
          exact hvc i v hv
  | ros cells off len cap ex =>
    simp only[elemsK] at h
    obtain⟨hle,h⟩:=good.chk _ _ h
    have hle:off+len*sz≤cells.length:=by simpa[ops0] using hle
    refine⟨_,_,_,h,fun P ρ w g v hv hag hg => ?_⟩
    cases hv with
    | ros _ _ _ _ _ B F ao cap' vs hlt hp hl ho hc hr hcap hlen he ha =>
      have hli:Lies ρ w cells 0 vs.toArray:=by
        intro i a hia
        have hi:i<vs.length:=by rw[hl]; exact(List.getElem?_eq_some_iff.1 hia).1
        exact⟨vs[i],by simp[hi],ho _ (List.getElem_mem _),hr i a _ hia (by simp[hi])⟩
      have hsub:=hli.sub off (len*sz)
      obtain⟨us,hul,huc,hul2,huo2⟩:=hsub.values
      have hlen2:((cells.drop off).take (len*sz)).length=len*sz:=by simp;omega
      refine row_first (B:=B) (X:=F+off) (vs:=us) hul hlen2 ?_ ?_ ?_ hul2 huo2
      · intro hn
        exact ha (by intro h; subst h; have : len = 0 := by omega
                     subst this;simp at hn)
      · intro hn
        have:cap'=0:=by
          rcases Nat.eq_zero_or_pos cap' with h|h
          · exact h
          · have:=ha (by omega); rw[hn] at this;cases this
        omega
      · intro i v hv
        have:=huc i v hv
        rw[Nat.add_assoc]
        exact hc (off+i) v (by simpa using this)
  | str s =>
    simp only[elemsK] at h
    split at h
    · rename_i hsz
      have hsz:=Nat.eq_of_beq_eq_true hsz
      subst hsz
      refine⟨_,_,_,h,fun P ρ w g v hv _ _ => ?_⟩
      rw[inv_str hv]
      refine⟨by simp[ops0],by simp[Builtin.lenOf,ops0,ByteArray.size],fun m hm => ?_⟩
      have hm:m≤s.length:=by simpa[ops0] using hm
      refine⟨(s.take m).map fun b => .int .u8 b.toNat,by simp;omega,?_,?_,?_⟩
      · simp only[Builtin.firstCells,Sem.run_pure]
        congr 1
        rw[ByteArray.data_extract]
        simp[List.extract_toArray,List.map_take]
      · intro i a hia
        simp only[ops0,Nat.mul_one,List.getElem?_take,List.getElem?_map] at hia
        split at hia
        · rename_i hi
          cases hsi:s[i]? with
          | none=>simp[hsi] at hia
          | some c =>
            simp[hsi] at hia;subst hia
            exact⟨.int .u8 c.toNat,by simp[hi,hsi],rfl,.int _ _⟩
        · cases hia
      · intro v hv
        obtain⟨c,_,rfl⟩:=List.mem_map.1 hv
        rfl
    · exact(good.fail h).elim
  | _=>exact(good.fail h).elim
end
end Go.Vm

namespace Go.Vm
set_option maxRecDepth 100000
def Does(P:Program)(o:Oper)(xs:List Operand)(avs:List AV)(H:Hl)(Q:AV→Hl→List Nat→List Nat→Prop):Prop :=
 ∃ r H' tch ft,Q r H' tch ft∧StepOK P o xs avs H r H' tch ft
section
variable {P:Program}{o:Oper}{avs:List AV}{H:Hl}
theorem quiet1{x:Operand}{xa r:AV}{ft:List Nat}
  (h:∀ (ρ:Rho) (w:World) (a:Act) (g:Hp),VRel ρ w xa (a.eval x)→agree g H ft→HRel ρ w g→∃ v,(execOp a.eval o).run P w = .ok (.value v) w∧VRel ρ w r v):StepOK P o [x] [xa] H r H [] ft :=
 .quiet fun ρ w a g hx=>h ρ w a g hx.one
theorem quiet2{x y:Operand}{xa ya r:AV}{ft:List Nat}
  (h:∀ (ρ:Rho) (w:World) (a:Act) (g:Hp),VRel ρ w xa (a.eval x)→VRel ρ w ya (a.eval y)→agree g H ft→HRel ρ w g→∃ v,(execOp a.eval o).run P w = .ok (.value v) w∧VRel ρ w r v):StepOK P o [x,y] [xa,ya] H r H [] ft :=
 .quiet fun ρ w a g hx=>h ρ w a g hx.two.1 hx.two.2
theorem agree_one{g:Hp}{b:Nat}{k:Blk}(h:agree g H [b])(hb:H[b]? = some k):g b=some k:=(h b (by simp)).trans hb
theorem run_ld1{t:TypeId}{d:TypeDesc}(h:P.underlying t=some d)(hd:isAggD d=false)(a:Addr)(w:World){v:Value}(hv:w.cell? a=some v):(loadVar t a).run P w = .ok v w:=by
 unfold loadVar
 rw[Sem.run_bind,run_agg h,hd]
 simp only[Result.andThen_ok,Bool.false_eq_true,if_false]
 exact run_load_some hv
theorem run_ldn{t:TypeId}{d:TypeDesc}{i:TypeInfo}(h:P.underlying t=some d)(hd:isAggD d=true)(hi:P.info? t=some i){B X:Nat}{w:World}{vs:List Value}(hl:vs.length=i.size)
  (hv:∀ j v,vs[j]? = some v→w.cell? ⟨B,X+j,none⟩=some v):(loadVar t ⟨B,X,none⟩).run P w = .ok (.agg vs.toArray) w:=by
 unfold loadVar
 rw[Sem.run_bind,run_agg h,hd]
 simp only[Result.andThen_ok,if_true,Sem.run_bind,run_size hi]
 rw[run_loadCells' vs i.size hl hv]
 rfl
theorem upd_self{g:Hp}{H:Hl}{b:Nat}{k:Blk}(hb:b<H.length):upd g (H.set b k) ([b]++news H.length (H.set b k).length)=one g b k:=by
 funext i
 simp only[upd,one,List.length_set,news_self,List.append_nil,List.mem_singleton]
 by_cases h:i=b
 ·subst h;simp[hb]
 ·simp[h]
theorem store_step{xs:List Operand}{b:Nat}{cs cs':List AV}{r:AV}(hb:H[b]? = some (.cells cs))(hs:cs'.length=cs.length){ft:List Nat}
  (h:∀ (ρ:Rho) (w:World) (a:Act) (g:Hp),VRels ρ w avs (xs.map a.eval)→HRel ρ w g→agree g H ft→∀ B F c e lo hi,ρ b = .live B F→w.heap[B]? = some (.cells c e (lo,hi))→F+cs.length≤c.size →
   (∀ j,F≤j→j<c.size→¬ (lo≤j∧j<hi))→Lies ρ w cs F c→∃ w' c' n,((execOp a.eval o).run P w = .ok n w'∧(n = .skip∨∃ v,n = .value v∧VRel ρ w r v))∧Wrote w B c' e (lo,hi) w'∧c'.size=c.size∧Lies ρ w cs' F c')
  (hne:cs ≠ []∨∀ (ρ:Rho) (w:World) (a:Act) (g:Hp),VRels ρ w avs (xs.map a.eval)→HRel ρ w g→ρ b ≠ .void) (hr:r = .tup []∨∀ (a:Act) (w w':World) n,(execOp a.eval o).run P w = .ok n w'→n ≠ .skip) :
  StepOK P o xs avs H r (H.set b (.cells cs')) [b] ft where
 grow:=by simp
 old i hi:=by
  have hbl:=(List.getElem?_eq_some_iff.1 hb).1
  simp at hi;subst hi;exact hbl
 keep i hi hn:=by
  simp at hn
  rw[List.getElem?_set_ne (fun h=>hn h.symm)]
 does ρ w a g hx hf ht _ hg:=by
  have hbl:=(List.getElem?_eq_some_iff.1 hb).1
  have hgb:g b=some (.cells cs):=agree_one ht hb
  rcases hg.live b cs hgb with ⟨hv,hcs⟩|⟨B,F,c,e,lo,hi,hl,hc,hsz,hf2,hli⟩
  ·rcases hne with hne|hne
   ·exact absurd hcs hne
   ·exact absurd hv (hne ρ w a g hx hg)
  ·obtain⟨w',c',n,⟨hrun,hn⟩,hw,hcs,hli'⟩:=h ρ w a g hx hg hf B F c e lo hi hl hc hsz hf2 hli
   have E:∀ n,Ext n ρ w ρ w':=hw.ext hl hc hcs
   have R:=hg.wrote hgb hl hc hf2 hw hcs (by omega) hli'
   rcases hn with rfl|⟨v,rfl,hv⟩
   ·refine OpDo.skip hrun ⟨ρ,?_,?_,E⟩
    ·rw[upd_self hbl]; exact R
    ·rcases hr with rfl|hr
     ·exact undef_rel ρ w'
     ·exact absurd rfl (hr a w w' _ hrun)
   ·refine OpDo.value hrun ⟨ρ,?_,ext_bound E hv,E⟩
    rw[upd_self hbl]; exact R
end
end Go.Vm

namespace Go.Vm
set_option maxRecDepth 100000
section
variable {R:Type}{A:Alg R}{holds:R→Prop}(good:A.Good holds){P:Program}{o:Oper}{avs:List AV}{H:Hl}{cf:CallF R}{k:ExK R}
include good
theorem s_mov{x:Operand}(ho:o.op = .move x∨o.op = .assign x)(h:holds (ex A ops0 cf H .mov avs k)):Does P o [x] avs H fun r H' t f=>holds (k r H' t f):=by
 rcases avs with _|⟨xa,_|⟨_,_⟩⟩
 ·exact(good.fail h).elim
 ·refine⟨_,_,_,_,h,quiet1 fun ρ w a g hv _ _=>⟨_,?_,hv⟩⟩
  rcases ho with ho|ho<;>simp[execOp,ho]
 ·exact(good.fail h).elim
theorem s_pick{c x y:Operand}(ho:o.op = .pick c x y)(h:holds (ex A ops0 cf H .pick avs k)):Does P o [c,x,y] avs H fun r H' t f=>holds (k r H' t f):=by
 rcases avs with _|⟨ca,_|⟨xa,_|⟨ya,_|⟨_,_⟩⟩⟩⟩
 ·exact(good.fail h).elim
 ·cases ca<;>first|exact(good.fail h).elim|(rename_i b;cases b<;>exact(good.fail h).elim)
 ·cases ca<;>first|exact(good.fail h).elim|(rename_i b;cases b<;>exact(good.fail h).elim)
 ·cases ca with
  | bool b =>
   cases b with
   | true=>exact⟨_,_,_,_,h,.quiet fun ρ w a g hx _ _=>⟨a.eval x,by simp[execOp,ho,inv_bool hx.three.1,asBool],hx.three.2.1⟩⟩
   | false=>exact⟨_,_,_,_,h,.quiet fun ρ w a g hx _ _=>⟨a.eval y,by simp[execOp,ho,inv_bool hx.three.1,asBool],hx.three.2.2⟩⟩
  | _=>exact(good.fail h).elim
 ·cases ca<;>first|exact(good.fail h).elim|(rename_i b;cases b<;>exact(good.fail h).elim)
theorem s_alloc{e:TypeId}{i:TypeInfo}{z:Value}{zs:List AV}(ho:o.op = .alloc e)(hi:P.info? e=some i)(hz:i.zero=some z)(hs:toAVs z.cells.toList=some zs)
  (h:holds (ex A ops0 cf H (.alloc zs) avs k)):Does P o [] avs H fun r H' t f=>holds (k r H' t f):=by
 rcases avs with _|⟨_,_⟩
 ·have h:holds (k (.ptr (size H) 0) (join H [.cells zs]) [] []):=h
  rw[size_eq,join_eq] at h
  refine⟨_,_,_,_,h,.alloc fun ρ w a g hx _ hg=>⟨.pointer (some ⟨w.heap.size,0,none⟩),w.drawn,z.cells,e,?_,?_,?_,?_⟩⟩
  ·simp[execOp,ho,Instr.alloc,run_zero hi hz,newVar,newRow]
  ·rw[(toAVs_rel hs).1]; simp
  ·have:=toAVs_lies hs ρ w;simpa using this
  ·intro ρ' w' hl hr
   refine .ptr _ _ _ (by rw[hl]; simp) (by rw[hl]; simp) ⟨_,rfl⟩ ?_
   intro B F h'
   rw[hl] at h';cases h';rfl
 ·exact(good.fail h).elim
theorem s_box{e:TypeId}{x:Operand}(ho:o.op = .box e x)(h:holds (ex A ops0 cf H .box avs k)):Does P o [x] avs H fun r H' t f=>holds (k r H' t f):=by
 rcases avs with _|⟨xa,_|⟨_,_⟩⟩
 ·exact(good.fail h).elim
 ·have h:holds (cellsK A xa fun cs=>k (.ptr (size H) 0) (join H [.cells cs]) [] []):=h
  obtain⟨cs,h,hc⟩:=cellsK_sound good h
  rw[size_eq,join_eq] at h
  refine⟨_,_,_,_,h,.alloc fun ρ w a g hx _ hg=>⟨.pointer (some ⟨w.heap.size,0,none⟩),w.drawn,(a.eval x).cells,e,?_,?_,?_,?_⟩⟩
  ·simp[execOp,ho,Instr.box,newVar,newRow]
  ·rw[(hc ρ w _ hx.one).1]; exact Nat.le_refl _
  ·exact(hc ρ w _ hx.one).2
  ·intro ρ' w' hl hr
   refine .ptr _ _ _ (by rw[hl]; simp) (by rw[hl]; simp) ⟨_,rfl⟩ ?_
   intro B F h'
   rw[hl] at h';cases h';rfl
 ·exact(good.fail h).elim
theorem s_ld1{t:TypeId}{x:Operand}{d:TypeDesc}{kd:Kd}(ho:o.op = .load t x)(hd:P.underlying t=some d)(ha:isAggD d=false)(h:holds (ex A ops0 cf H (.ld1 kd) avs k)) :
  Does P o [x] avs H fun r H' t f=>holds (k r H' t f):=by
 rcases avs with _|⟨xa,_|⟨_,_⟩⟩
 ·exact(good.fail h).elim
 ·cases xa with
  | ptr b of =>
   have h:holds (blkK A H b fun cs=>A.get kd cs of fun v=>k v H [] [b]):=h
   obtain⟨cs,hb,h⟩:=blkK_sound good h
   obtain⟨r,hr,h⟩:=good.get _ _ _ _ h
   refine⟨_,_,_,_,h,quiet1 fun ρ w a g hv hag hg => ?_⟩
   obtain⟨B,F,c,e,lo,hi,hl,hve,hc,hsz,hf,hli⟩:=ptr_live hg (agree_one hag hb) hv
   obtain⟨v,h1,h2,h3⟩:=hli of r hr
   refine⟨v,?_,h3⟩
   simp only[execOp,ho,hve,Instr.loadAt,Instr.sureAddr,Sem.run_bind,Sem.run_pure,Result.andThen_ok]
   rw[run_ld1 hd ha _ w (by rw[cell_at hc]; exact h1)]
   rfl
  | rop cs of =>
   have h:holds (A.get kd cs of fun v=>k v H [] []):=h
   obtain⟨r,hr,h⟩:=good.get _ _ _ _ h
   refine⟨_,_,_,_,h,quiet1 fun ρ w a g hv hag hg => ?_⟩
   generalize hve:a.eval x=ve at hv
   cases hv with
   | rop _ _ B F vs hlt hp hl ho' hc hr' =>
    have hi:of<vs.length:=by rw[hl]; exact(List.getElem?_eq_some_iff.1 hr).1
    have hvi:vs[of]? = some vs[of]:=by simp[hi]
    refine⟨vs[of],?_,hr' of r _ hr hvi⟩
    simp only[execOp,ho,hve,Instr.loadAt,Instr.sureAddr,Sem.run_bind,Sem.run_pure,Result.andThen_ok]
    rw[run_ld1 hd ha _ w (hc of _ hvi)]
    rfl
  | _=>exact(good.fail h).elim
 ·cases xa<;>exact(good.fail h).elim
theorem s_ldn{t:TypeId}{x:Operand}{d:TypeDesc}{i:TypeInfo}(ho:o.op = .load t x)(hd:P.underlying t=some d)(ha:isAggD d=true)(hi:P.info? t=some i)
  (h:holds (ex A ops0 cf H (.ldn i.size) avs k)):Does P o [x] avs H fun r H' t f=>holds (k r H' t f):=by
 rcases avs with _|⟨xa,_|⟨_,_⟩⟩
 ·exact(good.fail h).elim
 ·cases xa with
  | ptr b of =>
   have h:holds (blkK A H b fun cs=>A.chk (ops0.le (ops0.add of i.size) (ops0.len cs)) (k (.agg (ops0.ext cs of i.size)) H [] [b])):=h
   obtain⟨cs,hb,h⟩:=blkK_sound good h
   obtain⟨hle,h⟩:=good.chk _ _ h
   have hle:of+i.size≤cs.length:=by simpa[ops0] using hle
   refine⟨_,_,_,_,h,quiet1 fun ρ w a g hv hag hg => ?_⟩
   obtain⟨B,F,c,e,lo,hi',hl,hve,hc,hsz,hf,hli⟩:=ptr_live hg (agree_one hag hb) hv
   obtain⟨vs,h1,h2,h3,h4⟩:=(hli.sub of i.size).values
   have hlen:((cs.drop of).take i.size).length=i.size:=by simp;omega
   refine⟨.agg vs.toArray,?_,agg_of_lies h1 h3⟩
   simp only[execOp,ho,hve,Instr.loadAt,Instr.sureAddr,Sem.run_bind,Sem.run_pure,Result.andThen_ok]
   rw[run_ldn hd ha hi (h1.trans hlen) (fun j v hj=>by rw[cell_at hc]; exact h2 j v hj)]
   rfl
  | rop cs of =>
   have h:holds (A.chk (ops0.le (ops0.add of i.size) (ops0.len cs)) (k (.agg (ops0.ext cs of i.size)) H [] [])):=h
   obtain⟨hle,h⟩:=good.chk _ _ h
   have hle:of+i.size≤cs.length:=by simpa[ops0] using hle
   refine⟨_,_,_,_,h,quiet1 fun ρ w a g hv hag hg => ?_⟩
   generalize hve:a.eval x=ve at hv
   cases hv with
   | rop _ _ B F vs hlt hp hl ho' hc hr' =>
    have hli:Lies ρ w cs 0 vs.toArray:=by
     intro j b hj
     have hi:j<vs.length:=by rw[hl]; exact(List.getElem?_eq_some_iff.1 hj).1
     exact⟨vs[j],by simp[hi],ho' _ (List.getElem_mem _),hr' j b _ hj (by simp[hi])⟩
    obtain⟨us,h1,h2,h3,h4⟩:=(hli.sub of i.size).values
    have hlen:((cs.drop of).take i.size).length=i.size:=by simp;omega
    refine⟨.agg us.toArray,?_,agg_of_lies h1 h3⟩
    simp only[execOp,ho,hve,Instr.loadAt,Instr.sureAddr,Sem.run_bind,Sem.run_pure,Result.andThen_ok]
    rw[run_ldn hd ha hi (h1.trans hlen) (fun j v hj=>by
     have:=h2 j v hj
     rw[Nat.add_assoc]
     exact hc (of+j) v (by simpa using this))]
    rfl
  | _=>exact(good.fail h).elim
 ·cases xa<;>exact(good.fail h).elim
omit good in
theorem run_storeVar{P:Program}{t:TypeId}{i:TypeInfo}(hi:P.info? t=some i)(a:Addr)(v:Value)(hs:v.cells.size=i.size)(w:World) :
  (storeVar t a v).run P w=(storeCells a v.cells.toList).run P w:=by
 unfold storeVar
 simp only[Sem.run_bind,run_size hi,Result.andThen_ok]
 rw[if_neg (by simp[hs])]
theorem s_st1{t:TypeId}{x y:Operand}{i:TypeInfo}(ho:o.op = .store t x y)(hi:P.info? t=some i)(h1:i.size=1)(h:holds (ex A ops0 cf H .st1 avs k)) :
  Does P o [x,y] avs H fun r H' t f=>holds (k r H' t f):=by
 rcases avs with _|⟨xa,_|⟨ya,_|⟨_,_⟩⟩⟩
 ·exact(good.fail h).elim
 ·cases xa<;>exact(good.fail h).elim
 ·cases xa with
  | ptr b of =>
   have h:holds (oneK A ya (blkK A H b fun cs=>A.chk (ops0.lt of (ops0.len cs)) (k (.tup []) (put H b (.cells (ops0.set cs of ya))) [b] [b]))):=h
   obtain⟨hone,h⟩:=oneK_sound good h
   obtain⟨cs,hb,h⟩:=blkK_sound good h
   obtain⟨hlt,h⟩:=good.chk _ _ h
   have hlt:of<cs.length:=by simpa[ops0] using hlt
   rw[put_eq] at h
   refine⟨_,_,_,_,h,store_step hb (by simp[ops0]) ?_ (.inl (by intro h;subst h;simp at hlt)) (.inl rfl)⟩
   intro ρ w a g hx hg hag B F c e lo hi' hl hc hsz hf hli
   obtain⟨hxv,hyv⟩:=hx.two
   obtain⟨B',F',c',e',lo',hi'',hl',hve,hc',_⟩:=ptr_live hg (agree_one hag hb) hxv
   rw[hl] at hl';cases hl'
   obtain⟨ho1,ho2⟩:=one_rel hyv hone
   obtain⟨w',hr,hw⟩:=run_storeCells' (P:=P) (X:=F+of) [a.eval y] 0 c w hc (by simp;omega) (fun j h1 h2=>hf j (by omega) h2) (by simpa using ho1)
   refine⟨w',_,.skip,⟨?_,.inl rfl⟩,hw,?_,?_⟩
   ·simp only[execOp,ho,hve,Instr.storeAt,Instr.sureAddr,Sem.run_bind,Sem.run_pure,Result.andThen_ok]
    rw[run_storeVar hi _ _ (by rw[ho2,h1]; rfl),ho2]
    simp only[] at hr ⊢
    rw[hr]
    rfl
   ·have:=splice_length c.toList (F+of+0) [a.eval y] (by simp;omega)
    simpa using this
   ·intro j u hj
    have hg2:=splice_get c.toList (F+of+0) [a.eval y] (by simp;omega) (F+j)
    simp only[ops0,List.getElem?_set] at hj
    simp only[List.getElem?_toArray]
    rw[hg2]
    by_cases hjo:of=j
    ·subst hjo
     rw[if_pos rfl,if_pos hlt] at hj
     cases hj
     rw[if_neg (by omega),if_pos (by simp)]
     exact⟨a.eval y,by simp,ho1,hyv⟩
    ·rw[if_neg hjo] at hj
     obtain⟨v,h1,h2,h3⟩:=hli j u hj
     refine⟨v,?_,h2,h3⟩
     split
     ·simpa using h1
     ·rw[if_neg (by simp;omega)]; simpa using h1
  | _=>exact(good.fail h).elim
 ·cases xa<;>exact(good.fail h).elim
theorem s_stn{t:TypeId}{x y:Operand}{i:TypeInfo}(ho:o.op = .store t x y)(hi:P.info? t=some i)(h:holds (ex A ops0 cf H (.stn i.size) avs k)) :
  Does P o [x,y] avs H fun r H' t f=>holds (k r H' t f):=by
 rcases avs with _|⟨xa,_|⟨ya,_|⟨_,_⟩⟩⟩
 ·exact(good.fail h).elim
 ·cases xa<;>exact(good.fail h).elim
 ·cases xa with
  | ptr b of =>
   cases ya with
   | agg ys =>
    have h:holds (blkK A H b fun cs=>A.chk (ops0.eq (ops0.len ys) i.size) (A.chk (ops0.le (ops0.add of i.size) (ops0.len cs)) (k (.tup []) (put H b (.cells (ops0.spl cs of ys))) [b] [b]))):=h
    obtain⟨cs,hb,h⟩:=blkK_sound good h
    obtain⟨heq,h⟩:=good.chk _ _ h
    obtain⟨hle,h⟩:=good.chk _ _ h
    have heq:ys.length=i.size:=by simpa[ops0] using heq
    have hle:of+i.size≤cs.length:=by simpa[ops0] using hle
    rw[put_eq] at h
    by_cases hne:cs = []
    ·subst hne
     simp at hle
     have hys:ys = []:=by apply List.eq_nil_of_length_eq_zero;omega
     subst hys
     refine⟨_,_,_,_,h,store_step hb (by simp[ops0,spliceL]) ?_ (.inr ?_) (.inl rfl)⟩
     ·intro ρ w a g hx hg hag B F c e lo hi' hl hc hsz hf hli
      obtain⟨hxv,hyv⟩:=hx.two
      obtain⟨B',F',c',e',lo',hi'',hl',hve,hc',_⟩:=ptr_live hg (agree_one hag hb) hxv
      rw[hl] at hl';cases hl'
      obtain⟨vs,hyve,hvl,hvo,hvli⟩:=lies_agg hyv
      have hvs:vs = []:=by apply List.eq_nil_of_length_eq_zero;simpa using hvl
      subst hvs
      obtain⟨w',hr,hw⟩:=run_storeCells' (P:=P) (X:=F+of) [] 0 c w hc (by simp at hsz ⊢; omega) (fun j h1 h2=>hf j (by omega) h2) (by simp)
      refine⟨w',_,.skip,⟨?_,.inl rfl⟩,hw,by simp[spliceL],?_⟩
      ·simp only[execOp,ho,hve,hyve,Instr.storeAt,Instr.sureAddr,Sem.run_bind,Sem.run_pure,Result.andThen_ok]
       rw[run_storeVar hi _ _ (by simp[Value.cells]; omega)]
       simp only[Value.cells]
       rw[hr]
       rfl
      ·intro j u hj;simp[ops0,spliceL] at hj
     ·intro ρ w a g hx hg
      have:=hx.two.1
      cases this with
      | ptr _ _ _ h0 h1 _ _=>exact h1
    ·refine⟨_,_,_,_,h,store_step hb (by rw[show ops0.spl cs of ys=spliceL cs of ys from rfl]; exact splice_length _ _ _ (by omega)) ?_ (.inl hne) (.inl rfl)⟩
     intro ρ w a g hx hg hag B F c e lo hi' hl hc hsz hf hli
     obtain⟨hxv,hyv⟩:=hx.two
     obtain⟨B',F',c',e',lo',hi'',hl',hve,hc',_⟩:=ptr_live hg (agree_one hag hb) hxv
     rw[hl] at hl';cases hl'
     obtain⟨vs,hyve,hvl,hvo,hvli⟩:=lies_agg hyv
     obtain⟨w',hr,hw⟩:=run_storeCells' (P:=P) (X:=F+of) vs 0 c w hc (by omega) (fun j h1 h2=>hf j (by omega) h2) hvo
     refine⟨w',_,.skip,⟨?_,.inl rfl⟩,hw,?_,?_⟩
     ·simp only[execOp,ho,hve,hyve,Instr.storeAt,Instr.sureAddr,Sem.run_bind,Sem.run_pure,Result.andThen_ok]
      rw[run_storeVar hi _ _ (by simp[Value.cells]; omega)]
      simp only[Value.cells]
      rw[hr]
      rfl
     ·have:=splice_length c.toList (F+of+0) vs (by simp;omega)
      simpa using this
     ·intro j u hj
      have hg1:=splice_get cs of ys (by omega) j
      have hg2:=splice_get c.toList (F+of+0) vs (by simp;omega) (F+j)
      rw[show ops0.spl cs of ys=spliceL cs of ys from rfl,hg1] at hj
      simp only[List.getElem?_toArray]
      rw[hg2]
      by_cases h1:j<of
      ·rw[if_pos h1] at hj
       rw[if_pos (by omega)]
       obtain⟨v,g1,g2,g3⟩:=hli j u hj
       exact⟨v,by simpa using g1,g2,g3⟩
      ·rw[if_neg h1] at hj
       rw[if_neg (by omega)]
       by_cases h2:j<of+ys.length
       ·rw[if_pos h2] at hj
        rw[if_pos (by omega)]
        obtain⟨v,g1,g2,g3⟩:=hvli (j - of) u hj
        refine⟨v,?_,g2,g3⟩
        rw[show F+j - (F+of+0)=0+(j - of) by omega]
        simpa using g1
       ·rw[if_neg h2] at hj
        rw[if_neg (by omega)]
        obtain⟨v,g1,g2,g3⟩:=hli j u hj
        exact⟨v,by simpa using g1,g2,g3⟩
   | _=>exact(good.fail h).elim
  | _=>exact(good.fail h).elim
 ·cases xa<;>first|exact(good.fail h).elim|(cases ya<;>exact(good.fail h).elim)
theorem s_nilc{x:Operand}(ho:o.op = .nilCheck x)(h:holds (ex A ops0 cf H .nilc avs k)):Does P o [x] avs H fun r H' t f=>holds (k r H' t f):=by
 rcases avs with _|⟨xa,_|⟨_,_⟩⟩
 ·exact(good.fail h).elim
 ·cases xa with
  | ptr b of =>
   refine⟨_,_,_,_,h,quiet1 fun ρ w a g hv _ _=>⟨a.eval x,?_,hv⟩⟩
   generalize hve:a.eval x=ve at hv
   cases hv with
   | ptr _ _ _ _ _ hs _=>obtain⟨ad,rfl⟩:=hs;simp[execOp,ho,hve]
  | rop cs of =>
   refine⟨_,_,_,_,h,quiet1 fun ρ w a g hv _ _=>⟨a.eval x,?_,hv⟩⟩
   generalize hve:a.eval x=ve at hv
   cases hv with
   | rop=>simp[execOp,ho,hve]
  | fn f p q =>
   refine⟨_,_,_,_,h,quiet1 fun ρ w a g hv _ _=>⟨a.eval x,?_,hv⟩⟩
   generalize hve:a.eval x=ve at hv
   cases hv with
   | fn=>simp[execOp,ho,hve]
  | _=>exact(good.fail h).elim
 ·cases xa<;>exact(good.fail h).elim
omit good in
theorem run_binOp_int{op:BinOp}{t:TypeId}{x y:Operand}{yt:TypeId}{a:Act}{w:World}{k1 k2:IntKind}{m n:Int}(ho:o.op = .binOp op t x y yt)(hx:a.eval x = .int k1 m)(hy:a.eval y = .int k2 n){v:Value}
  (h:(binOp op t (.int k1 m) (.int k2 n)).run P w = .ok v w):(execOp a.eval o).run P w = .ok (.value v) w:=by
 simp only[execOp,ho,hx,hy,Sem.run_bind]
 have hg:(eqGuard op t x y (.int k1 m) (.int k2 n)).run P w = .ok () w:=by
  unfold eqGuard
  split<;>rfl
 rw[hg]
 simp only[Result.andThen_ok,h]
 rfl
theorem s_bin{op:BinOp}{t:TypeId}{x y:Operand}{yt:TypeId}{kd:IntKind}(ho:o.op = .binOp op t x y yt)(hop:op = .add∨op = .sub∨op = .mul∨op = .and∨op = .or∨op = .xor∨op = .andNot)
  (h:holds (ex A ops0 cf H (.bin op kd) avs k)):Does P o [x,y] avs H fun r H' t f=>holds (k r H' t f):=by
 rcases avs with _|⟨xa,_|⟨ya,_|⟨_,_⟩⟩⟩
 ·exact(good.fail h).elim
 ·cases xa<;>exact(good.fail h).elim
 ·cases xa with
  | int k1 m =>
   cases ya with
   | int k2 n =>
    simp only[ex,xBin] at h
    split at h
    ·rename_i e1 e2
     have e1:=sameK_eq e1
     have e2:=sameK_eq e2
     subst e1;subst e2
     refine⟨_,_,_,_,h,quiet2 fun ρ w a g hv hu _ _=>⟨_,run_binOp_int ho (inv_int hv) (inv_int hu) ?_,.int _ _⟩⟩
     rcases hop with rfl|rfl|rfl|rfl|rfl|rfl|rfl<;>simp[binOp,Op.intArith,Op.intBits,ops0,bin0]
    ·exact(good.fail h).elim
   | _=>exact(good.fail h).elim
  | _=>exact(good.fail h).elim
 ·cases xa<;>first|exact(good.fail h).elim|(cases ya<;>exact(good.fail h).elim)
theorem s_div{op:BinOp}{t:TypeId}{x y:Operand}{yt:TypeId}{kd:IntKind}(ho:o.op = .binOp op t x y yt)(hop:op = .quo∨op = .rem)
  (h:holds (ex A ops0 cf H (.div op kd) avs k)):Does P o [x,y] avs H fun r H' t f=>holds (k r H' t f):=by
 rcases avs with _|⟨xa,_|⟨ya,_|⟨_,_⟩⟩⟩
 ·exact(good.fail h).elim
 ·cases xa<;>exact(good.fail h).elim
 ·cases xa with
  | int k1 m =>
   cases ya with
   | int k2 n =>
    simp only[ex,xDiv] at h
    split at h
    ·rename_i e1 e2
     have e1:=sameK_eq e1
     have e2:=sameK_eq e2
     subst e1;subst e2
     obtain⟨hz,h⟩:=good.chk _ _ h
     have hz:n≠0:=by simpa[ops0] using hz
     refine⟨_,_,_,_,h,quiet2 fun ρ w a g hv hu _ _=>⟨_,run_binOp_int ho (inv_int hv) (inv_int hu) ?_,.int _ _⟩⟩
     rcases hop with rfl|rfl<;>simp[binOp,Op.intDiv,ops0,bin0,hz]
    ·exact(good.fail h).elim
   | _=>exact(good.fail h).elim
  | _=>exact(good.fail h).elim
 ·cases xa<;>first|exact(good.fail h).elim|(cases ya<;>exact(good.fail h).elim)
theorem s_shf{op:BinOp}{t:TypeId}{x y:Operand}{yt:TypeId}{kd:IntKind}(ho:o.op = .binOp op t x y yt)(hop:op = .shl∨op = .shr)
    (h:holds (ex A ops0 cf H (.shf op kd) avs k)):Does P o [x,y] avs H fun r H' t f=>holds (k r H' t f):=by
  rcases avs with _|⟨xa,_|⟨ya,_|⟨_,_⟩⟩⟩
  · exact(good.fail h).elim
  · cases xa<;>exact(good.fail h).elim
  · cases xa with
    | int k1 m =>
      cases ya with
      | int k2 n =>
        simp only[ex,xShf] at h
        split at h
        · rename_i e1
          have e1:=sameK_eq e1
          subst e1
          obtain⟨hz,h⟩:=good.chk _ _ h
          have hz : ¬ n < 0 := by have : 0 ≤ n := by simpa [ops0] using hz
                                  omega
          refine⟨_,_,_,_,h,quiet2 fun ρ w a g hv hu _ _=>⟨_,run_binOp_int ho (inv_int hv) (inv_int hu) ?_,.int _ _⟩⟩
          rcases hop with rfl|rfl<;>simp only[binOp,Op.shift,ops0,shf0,if_neg hz,Sem.run_pure]<;>rfl
        · exact(good.fail h).elim
      | _=>exact(good.fail h).elim
    | _=>exact(good.fail h).elim
  · cases xa<;>first|exact(good.fail h).elim|(cases ya<;>exact(good.fail h).elim)
theorem s_cmp{op:BinOp}{t:TypeId}{x y:Operand}{yt:TypeId}(ho:o.op = .binOp op t x y yt)(hop:op = .eql∨op = .neq∨op = .lss∨op = .leq∨op = .gtr∨op = .geq)
  (h:holds (ex A ops0 cf H (.cmp op) avs k)):Does P o [x,y] avs H fun r H' t f=>holds (k r H' t f):=by
 rcases avs with _|⟨xa,_|⟨ya,_|⟨_,_⟩⟩⟩
 ·exact(good.fail h).elim
 ·cases xa<;>exact(good.fail h).elim
 ·cases xa with
  | int k1 m =>
   cases ya with
   | int k2 n =>
    simp only[ex,xCmp] at h
    split at h
    ·rename_i e1
     have e1:=sameK_eq e1
     subst e1
     have h:=brB_sound good h
     refine⟨_,_,_,_,h,quiet2 fun ρ w a g hv hu _ _=>⟨_,run_binOp_int ho (inv_int hv) (inv_int hu) ?_,.bool _⟩⟩
     rcases hop with rfl|rfl|rfl|rfl|rfl|rfl<;>simp[binOp,Op.intCmp,ops0,cmp0]
    ·exact(good.fail h).elim
   | _=>exact(good.fail h).elim
  | _=>exact(good.fail h).elim
 ·cases xa<;>first|exact(good.fail h).elim|(cases ya<;>exact(good.fail h).elim)
end
end Go.Vm

namespace Go.Vm
set_option maxRecDepth 100000
section
variable {R:Type}{A:Alg R}{holds:R→Prop}(good:A.Good holds){P:Program}{o:Oper}{avs:List AV}{H:Hl}{cf:CallF R}{k:ExK R}
include good
theorem s_scmp{neg:Bool}{t:TypeId}{x y:Operand}{yt:TypeId}(ho:o.op = .binOp (if neg then .neq else .eql) t x y yt)
  (h:holds (ex A ops0 cf H (.scmp neg) avs k)):Does P o [x,y] avs H fun r H' t f=>holds (k r H' t f):=by
 rcases avs with _|⟨xa,_|⟨ya,_|⟨_,_⟩⟩⟩
 ·exact(good.fail h).elim
 ·cases xa<;>exact(good.fail h).elim
 ·cases xa with
  | str m =>
   cases ya with
   | str n =>
    have h:holds (brB A (ops0.eqs m n) neg fun b=>k b H [] []):=h
    have h:=brB_sound good h
    refine⟨_,_,_,_,h,quiet2 fun ρ w a g hv hu _ _=>⟨.bool (Bool.xor neg (ops0.eqs m n)),?_,.bool _⟩⟩
    have hb:((⟨m.toArray⟩:ByteArray).toList == (⟨n.toArray⟩:ByteArray).toList)=(m == n):=by
     rw[ByteArray.toList_eq,ByteArray.toList_eq]
    cases neg<;>simp[execOp,ho,inv_str hv,inv_str hu,eqGuard,binOp,Op.stringOp,ops0,hb]
   | _=>exact(good.fail h).elim
  | _=>exact(good.fail h).elim
 ·cases xa<;>first|exact(good.fail h).elim|(cases ya<;>exact(good.fail h).elim)
omit good in
theorem run_equal_bool{t:TypeId}(ht:P.underlying t=some .bool)(m n:Bool)(w:World):(Op.equal t (.bool m) (.bool n)).run P w = .ok (m == n) w:=by
 have h:∀ d,(Op.equalIn (d+1) t (.bool m) (.bool n)).run P w = .ok (m == n) w:=by
  intro d
  simp only[Op.equalIn,Sem.run_bind,run_underlying ht,Result.andThen_ok]
  rfl
 exact h 9999
theorem s_bcmp{neg:Bool}{t:TypeId}{x y:Operand}{yt:TypeId}(ho:o.op = .binOp (if neg then .neq else .eql) t x y yt)(ht:P.underlying t=some .bool)
  (h:holds (ex A ops0 cf H (.bcmp neg) avs k)):Does P o [x,y] avs H fun r H' t f=>holds (k r H' t f):=by
 rcases avs with _|⟨xa,_|⟨ya,_|⟨_,_⟩⟩⟩
 ·exact(good.fail h).elim
 ·cases xa<;>exact(good.fail h).elim
 ·cases xa with
  | bool m =>
   cases ya with
   | bool n =>
    refine⟨_,_,_,_,h,quiet2 fun ρ w a g hv hu _ _=>⟨_,?_,.bool _⟩⟩
    have hq:=run_equal_bool ht m n w
    cases neg
    ·simp only[Bool.false_eq_true,if_false] at ho
     simp only[execOp,ho,inv_bool hv,inv_bool hu,eqGuard,binOp,Sem.run_bind,Sem.run_pure,Result.andThen_ok,Bool.not_true,Bool.false_eq_true,if_false,hq,Bool.false_bne]
    ·simp only[if_true] at ho
     simp only[execOp,ho,inv_bool hv,inv_bool hu,eqGuard,binOp,Sem.run_bind,Sem.run_pure,Result.andThen_ok,Bool.not_true,Bool.false_eq_true,if_false,hq,Bool.true_bne]
   | _=>exact(good.fail h).elim
  | _=>exact(good.fail h).elim
 ·cases xa<;>first|exact(good.fail h).elim|(cases ya<;>exact(good.fail h).elim)
theorem s_not{t:TypeId}{x:Operand}(ho:o.op = .unOp .not t x)(h:holds (ex A ops0 cf H .not avs k)):Does P o [x] avs H fun r H' t f=>holds (k r H' t f):=by
 rcases avs with _|⟨xa,_|⟨_,_⟩⟩
 ·exact(good.fail h).elim
 ·cases xa with
  | bool b=>cases b<;>exact⟨_,_,_,_,h,quiet1 fun ρ w a g hv _ _=>⟨_,by simp[execOp,ho,inv_bool hv,Op.unary],.bool _⟩⟩
  | _=>exact(good.fail h).elim
 ·cases xa<;>first|exact(good.fail h).elim|(rename_i b;cases b<;>exact(good.fail h).elim)
theorem s_cvt{s t:TypeId}{x:Operand}{d:TypeDesc}{kd:IntKind}(ho:o.op = .convert s t x)(hs:P.underlying s=some d)(ht:P.underlying t=some (.int kd))
  (h:holds (ex A ops0 cf H (.cvt kd) avs k)):Does P o [x] avs H fun r H' t f=>holds (k r H' t f):=by
 rcases avs with _|⟨xa,_|⟨_,_⟩⟩
 ·exact(good.fail h).elim
 ·cases xa with
  | int kx n=>exact⟨_,_,_,_,h,quiet1 fun ρ w a g hv _ _=>⟨_,by
    simp only[execOp,ho,inv_int hv,convert,Sem.run_bind,run_underlying hs,run_underlying ht,Result.andThen_ok]
    cases d<;>rfl,.int _ _⟩⟩
  | _=>exact(good.fail h).elim
 ·cases xa<;>exact(good.fail h).elim
theorem s_s2a{t:TypeId}{x:Operand}{n:Nat}{e:TypeId}(ho:o.op = .sliceToArrayPointer t x)(ht:P.underlying t=some (.array n e))(hn:n≠0)
  (h:holds (ex A ops0 cf H (.s2a n) avs k)):Does P o [x] avs H fun r H' t f=>holds (k r H' t f):=by
 rcases avs with _|⟨xa,_|⟨_,_⟩⟩
 ·exact(good.fail h).elim
 ·cases xa with
  | slc b of len cap sz =>
   obtain⟨hle,h⟩:=good.chk _ _ (show holds (A.chk (ops0.le n len) (k (.ptr b of) H [] [])) from h)
   have hle:n≤len:=by simpa[ops0] using hle
   refine⟨_,_,_,_,h,quiet1 fun ρ w a g hv _ _ => ?_⟩
   generalize hve:a.eval x=ve at hv
   cases hv with
   | slc _ _ _ _ _ _ h0 hs hvo hh =>
    obtain⟨ao,cap',rfl,h1,h2,h3⟩:=hs
    refine⟨.pointer ao,?_,.ptr _ _ _ h0 ?_ ?_ ?_⟩
    ·have:¬ len<n:=by omega
     simp[execOp,ho,hve,Instr.arrayAt,run_underlying ht,this]
    ·intro hvd
     obtain⟨_,_,h4,_⟩:=hvo hvd
     omega
    ·obtain⟨B,F,rfl⟩:=h3 (by omega)
     exact⟨_,rfl⟩
    ·intro B F hl
     obtain⟨ao',cap2,g1,g2,g3,g4,g5⟩:=hh B F hl
     cases g3
     rw[g4 (by omega)]
  | ros cs off len cap ex =>
   obtain⟨hle,h⟩:=good.chk _ _ (show holds (A.chk (ops0.le n len) (k (.rop cs off) H [] [])) from h)
   have hle:n≤len:=by simpa[ops0] using hle
   refine⟨_,_,_,_,h,quiet1 fun ρ w a g hv _ _ => ?_⟩
   generalize hve:a.eval x=ve at hv
   cases hv with
   | ros _ _ _ _ _ B F ao cap' vs hlt hp hl ho' hc hr hcap hlen he ha =>
    refine⟨.pointer ao,?_,?_⟩
    ·have:¬ len<n:=by omega
     simp[execOp,ho,hve,Instr.arrayAt,run_underlying ht,this]
    ·rw[ha (by omega)]
     exact .rop _ _ B F vs hlt hp hl ho' hc hr
  | _=>exact(good.fail h).elim
 ·cases xa<;>exact(good.fail h).elim
theorem s_fld{s:TypeId}{x:Operand}{f:Nat}{fs:Array Field}{fd:Field}{i:TypeInfo}(ho:o.op = .fieldAddr s x f)(hs:P.underlying s=some (.struct fs))(hf:fs[f]? = some fd)
  (hi:P.info? fd.type=some i) (h0:i.size≠0) (h:holds (ex A ops0 cf H (.fld fd.offset) avs k)):Does P o [x] avs H fun r H' t f=>holds (k r H' t f):=by
 have hrun:∀ (a:Act) (w:World) (ad:Addr),a.eval x = .pointer (some ad)→(execOp a.eval o).run P w = .ok (.value (.pointer (some (ad.add fd.offset)))) w:=by
  intro a w ad hve
  simp[execOp,ho,hve,Instr.fieldAt,run_underlying hs,hf,Instr.sureAddr,fieldPlace,run_size hi,h0]
 rcases avs with _|⟨xa,_|⟨_,_⟩⟩
 ·exact(good.fail h).elim
 ·cases xa with
  | ptr b of =>
   refine⟨_,_,_,_,h,quiet1 fun ρ w a g hv _ _ => ?_⟩
   generalize hve:a.eval x=ve at hv
   cases hv with
   | ptr _ _ _ g0 g1 hs2 hh =>
    obtain⟨ad,rfl⟩:=hs2
    refine⟨_,hrun a w ad hve,.ptr _ _ _ g0 g1 ⟨_,rfl⟩ ?_⟩
    intro B F hl
    have:=hh B F hl
    cases this
    rw[add_at]
    simp[ops0,Nat.add_assoc]
  | rop cs of =>
   refine⟨_,_,_,_,h,quiet1 fun ρ w a g hv _ _ => ?_⟩
   generalize hve:a.eval x=ve at hv
   cases hv with
   | rop _ _ B F vs hlt hp hl ho' hc hr =>
    refine⟨_,hrun a w _ hve,?_⟩
    rw[add_at,Nat.add_assoc]
    exact .rop _ _ B F vs hlt hp hl ho' hc hr
  | _=>exact(good.fail h).elim
 ·cases xa<;>exact(good.fail h).elim
omit good in
theorem run_part1{t:TypeId}{d:TypeDesc}(hd:P.underlying t=some d)(ha:isAggD d=false)(cs:Array Value)(off:Nat)(w:World){v:Value}(hv:cs[off]? = some v):(part t cs off).run P w = .ok v w:=by
 simp[part,run_agg hd,ha,hv]
omit good in
theorem run_partn{t:TypeId}{d:TypeDesc}{i:TypeInfo}(hd:P.underlying t=some d)(ha:isAggD d=true)(hi:P.info? t=some i)(cs:Array Value)(off:Nat)(w:World) :
  (part t cs off).run P w = .ok (.agg (cs.extract off (off+i.size))) w:=by
 simp[part,run_agg hd,ha,run_size hi]
omit good in
theorem agg_sub{ρ:Rho}{w:World}{cs:List AV}{vs:List Value}(hl:vs.length=cs.length)(hli:Lies ρ w cs 0 vs.toArray)(off n:Nat) :
  VRel ρ w (.agg ((cs.drop off).take n)) (.agg (vs.toArray.extract off (off+n))):=by
 have e:vs.toArray.extract off (off+n)=((vs.drop off).take n).toArray:=by
  simp[List.extract_toArray,List.extract_eq_take_drop]
 rw[e]
 refine agg_of_lies (by simp[hl]) ?_
 intro j b hj
 rw[List.getElem?_take] at hj
 split at hj
 ·rename_i hjn
  rw[List.getElem?_drop] at hj
  obtain⟨v,h1,h2,h3⟩:=hli _ b hj
  refine⟨v,?_,h2,h3⟩
  simp only[Nat.zero_add,List.getElem?_toArray] at h1 ⊢
  rw[List.getElem?_take,if_pos hjn,List.getElem?_drop]
  exact h1
 ·cases hj
theorem s_fldv{s:TypeId}{x:Operand}{f:Nat}{fs:Array Field}{fd:Field}{d:TypeDesc}(ho:o.op = .field s x f)(hs:P.underlying s=some (.struct fs))(hf:fs[f]? = some fd)
  (hd:P.underlying fd.type=some d) (ha:isAggD d=false) {kd:Kd} (h:holds (ex A ops0 cf H (.fldv fd.offset kd) avs k)):Does P o [x] avs H fun r H' t f=>holds (k r H' t f):=by
 rcases avs with _|⟨xa,_|⟨_,_⟩⟩
 ·exact(good.fail h).elim
 ·cases xa with
  | agg cs =>
   obtain⟨r,hr,h⟩:=good.get _ _ _ _ (show holds (A.get kd cs fd.offset fun v=>k v H [] []) from h)
   refine⟨_,_,_,_,h,quiet1 fun ρ w a g hv _ _ => ?_⟩
   obtain⟨vs,hve,hl,_,hli⟩:=lies_agg hv
   obtain⟨v,h1,h2,h3⟩:=hli _ r hr
   refine⟨v,?_,h3⟩
   simp only[Nat.zero_add] at h1
   simp[execOp,ho,hve,Instr.field,run_underlying hs,hf,asAgg,run_part1 hd ha _ _ w h1]
  | _=>exact(good.fail h).elim
 ·cases xa<;>exact(good.fail h).elim
theorem s_fldn{s:TypeId}{x:Operand}{f:Nat}{fs:Array Field}{fd:Field}{d:TypeDesc}{i:TypeInfo}(ho:o.op = .field s x f)(hs:P.underlying s=some (.struct fs))(hf:fs[f]? = some fd)
  (hd:P.underlying fd.type=some d) (ha:isAggD d=true) (hi:P.info? fd.type=some i) (h:holds (ex A ops0 cf H (.fldn fd.offset i.size) avs k)):Does P o [x] avs H fun r H' t f=>holds (k r H' t f):=by
 rcases avs with _|⟨xa,_|⟨_,_⟩⟩
 ·exact(good.fail h).elim
 ·cases xa with
  | agg cs =>
   obtain⟨hle,h⟩:=good.chk _ _ (show holds (A.chk (ops0.le (fd.offset+i.size) (ops0.len cs)) (k (.agg (ops0.ext cs fd.offset i.size)) H [] [])) from h)
   refine⟨_,_,_,_,h,quiet1 fun ρ w a g hv _ _ => ?_⟩
   obtain⟨vs,hve,hl,_,hli⟩:=lies_agg hv
   refine⟨_,?_,agg_sub hl hli fd.offset i.size⟩
   simp[execOp,ho,hve,Instr.field,run_underlying hs,hf,asAgg,run_partn hd ha hi]
  | _=>exact(good.fail h).elim
 ·cases xa<;>exact(good.fail h).elim
omit good in
theorem inr0{i:Int}{n:Nat}(h:ops0.inr i n=true):0≤i∧i<n:=by simpa[ops0] using h
omit good in
theorem inb0{i:Int}{n:Nat}(h:ops0.inb i n=true):0≤i∧i≤n:=by simpa[ops0] using h
theorem s_ixA{t:TypeId}{x y:Operand}{n:Nat}{e:TypeId}{i:TypeInfo}(ho:o.op = .indexAddr t x y)(ht:P.underlying t=some (.array n e))(hi:P.info? e=some i)
  (h:holds (ex A ops0 cf H (.ixA n i.size) avs k)):Does P o [x,y] avs H fun r H' t f=>holds (k r H' t f):=by
 have hrun:∀ (a:Act) (w:World) (ad:Addr) (kd:IntKind) (j:Int),a.eval x = .pointer (some ad)→a.eval y = .int kd j→0≤j∧j<n →
   (execOp a.eval o).run P w = .ok (.value (.pointer (some (ad.add (j.toNat*i.size))))) w:=by
  intro a w ad kd j hve hye hj
  simp[execOp,ho,hve,hye,Instr.indexAt,asIntOf,run_underlying ht,Instr.sureAddr,run_size hi,hj]
 rcases avs with _|⟨xa,_|⟨ya,_|⟨_,_⟩⟩⟩
 ·exact(good.fail h).elim
 ·cases xa<;>exact(good.fail h).elim
 ·cases xa with
  | ptr b of =>
   cases ya with
   | int kd j =>
    obtain⟨hj,h⟩:=good.chk _ _ (show holds (A.chk (ops0.inr j n) (k (.ptr b (ops0.adr of j i.size)) H [] [])) from h)
    refine⟨_,_,_,_,h,quiet2 fun ρ w a g hv hu _ _ => ?_⟩
    generalize hve:a.eval x=ve at hv
    cases hv with
    | ptr _ _ _ g0 g1 hs2 hh =>
     obtain⟨ad,rfl⟩:=hs2
     refine⟨_,hrun a w ad kd j hve (inv_int hu) (inr0 hj),.ptr _ _ _ g0 g1 ⟨_,rfl⟩ ?_⟩
     intro B F hl
     have:=hh B F hl
     cases this
     rw[add_at]
     simp[ops0,Nat.add_assoc]
   | _=>exact(good.fail h).elim
  | rop cs of =>
   cases ya with
   | int kd j =>
    obtain⟨hj,h⟩:=good.chk _ _ (show holds (A.chk (ops0.inr j n) (k (.rop cs (ops0.adr of j i.size)) H [] [])) from h)
    refine⟨_,_,_,_,h,quiet2 fun ρ w a g hv hu _ _ => ?_⟩
    generalize hve:a.eval x=ve at hv
    cases hv with
    | rop _ _ B F vs hlt hp hl ho' hc hr =>
     refine⟨_,hrun a w _ kd j hve (inv_int hu) (inr0 hj),?_⟩
     rw[add_at,Nat.add_assoc]
     exact .rop _ _ B F vs hlt hp hl ho' hc hr
   | _=>exact(good.fail h).elim
  | _=>exact(good.fail h).elim
 ·cases xa<;>first|exact(good.fail h).elim|(cases ya<;>exact(good.fail h).elim)
theorem s_ixS{t:TypeId}{x y:Operand}{e:TypeId}{i:TypeInfo}(ho:o.op = .indexAddr t x y)(ht:P.underlying t=some (.slice e))(hi:P.info? e=some i)
  (h:holds (ex A ops0 cf H (.ixS i.size) avs k)):Does P o [x,y] avs H fun r H' t f=>holds (k r H' t f):=by
 have hrun:∀ (a:Act) (w:World) (ad:Addr) (len cap:Nat) (kd:IntKind) (j:Int),a.eval x = .slice (some ad) len cap→a.eval y = .int kd j→0≤j∧j<len →
   (execOp a.eval o).run P w = .ok (.value (.pointer (some (ad.add (j.toNat*i.size))))) w:=by
  intro a w ad len cap kd j hve hye hj
  simp[execOp,ho,hve,hye,Instr.indexAt,asIntOf,run_underlying ht,run_size hi,hj]
 rcases avs with _|⟨xa,_|⟨ya,_|⟨_,_⟩⟩⟩
 ·exact(good.fail h).elim
 ·cases xa<;>exact(good.fail h).elim
 ·cases xa with
  | slc b of len cap sz =>
   cases ya with
   | int kd j =>
    obtain⟨hj,h⟩:=good.chk _ _ (show holds (A.chk (ops0.inr j len) (k (.ptr b (ops0.adr of j i.size)) H [] [])) from h)
    refine⟨_,_,_,_,h,quiet2 fun ρ w a g hv hu _ _ => ?_⟩
    generalize hve:a.eval x=ve at hv
    have hj':=inr0 hj
    cases hv with
    | slc _ _ _ _ _ _ h0 hs hvo hh =>
     obtain⟨ao,cap',rfl,h1,h2,h3⟩:=hs
     obtain⟨B0,F0,rfl⟩:=h3 (by omega)
     refine⟨_,hrun a w _ _ _ kd j hve (inv_int hu) hj',.ptr _ _ _ h0 ?_ ⟨_,rfl⟩ ?_⟩
     ·intro hvd
      obtain⟨_,_,h4,_⟩:=hvo hvd
      omega
     ·intro B F hl
      obtain⟨ao',cap2,g1,g2,g3,g4,g5⟩:=hh B F hl
      cases g3
      have:=g4 (by omega)
      cases this
      rw[add_at]
      simp[ops0,Nat.add_assoc]
   | _=>exact(good.fail h).elim
  | ros cs off len cap ex =>
   cases ya with
   | int kd j =>
    obtain⟨hj,h⟩:=good.chk _ _ (show holds (A.chk (ops0.inr j len) (k (.rop cs (ops0.adr off j i.size)) H [] [])) from h)
    have hj':=inr0 hj
    refine⟨_,_,_,_,h,quiet2 fun ρ w a g hv hu _ _ => ?_⟩
    generalize hve:a.eval x=ve at hv
    cases hv with
    | ros _ _ _ _ _ B F ao cap' vs hlt hp hl ho' hc hr hcap hlen he ha =>
     have hao:=ha (by omega)
     subst hao
     refine⟨_,hrun a w _ _ _ kd j hve (inv_int hu) hj',?_⟩
     rw[add_at,Nat.add_assoc]
     exact .rop _ _ B F vs hlt hp hl ho' hc hr
   | _=>exact(good.fail h).elim
  | _=>exact(good.fail h).elim
 ·cases xa<;>first|exact(good.fail h).elim|(cases ya<;>exact(good.fail h).elim)
theorem s_ext{x:Operand}{i:Nat}(ho:o.op = .extract x i)(h:holds (ex A ops0 cf H (.ext i) avs k)):Does P o [x] avs H fun r H' t f=>holds (k r H' t f):=by
 rcases avs with _|⟨xa,_|⟨_,_⟩⟩
 ·exact(good.fail h).elim
 ·cases xa with
  | tup vs =>
   simp only[ex,xExt,nth_eq] at h
   split at h
   ·rename_i r hr
    refine⟨_,_,_,_,h,quiet1 fun ρ w a g hv _ _ => ?_⟩
    generalize hve:a.eval x=ve at hv
    cases hv with
    | tup _ us hl hr' =>
     have hi:i<us.length:=by rw[hl]; exact(List.getElem?_eq_some_iff.1 hr).1
     refine⟨us[i],?_,hr' i r _ hr (by simp[hi])⟩
     simp[execOp,ho,hve,Instr.extract,hi]
   ·exact(good.fail h).elim
  | _=>exact(good.fail h).elim
 ·cases xa<;>exact(good.fail h).elim
theorem s_mkif{t:TypeId}{x:Operand}{d:TypeDesc}(ho:o.op = .makeInterface t x)(ht:P.underlying t=some d)(hd:∀ ms,d ≠ .interface ms)(h:holds (ex A ops0 cf H (.mkif t) avs k)) :
  Does P o [x] avs H fun r H' t f=>holds (k r H' t f):=by
 rcases avs with _|⟨xa,_|⟨_,_⟩⟩
 ·exact(good.fail h).elim
 ·obtain⟨_,h⟩:=oneK_sound good (show holds (oneK A xa (k (.ifc t xa) H [] [])) from h)
  refine⟨_,_,_,_,h,quiet1 fun ρ w a g hv _ _=>⟨.iface t (a.eval x),?_,.ifc _ _ _ hv⟩⟩
  simp only[execOp,ho,Instr.makeInterface,Sem.run_bind,run_underlying ht,Result.andThen_ok]
  cases d<;>first|rfl|exact absurd rfl (hd _)
 ·exact(good.fail h).elim
omit good in
theorem s_mkfn{f:Nat}{xs ys:Array Operand}(ho:o.op = .makeFunc (.func f) xs ys)(h:holds (ex A ops0 cf H (.mkfn f xs.size) avs k)) :
  Does P o (xs.toList++ys.toList) avs H fun r H' t f=>holds (k r H' t f):=by
 refine⟨_,_,_,_,h,.quiet fun ρ w a g hx _ _=>⟨.func (.func f) (xs.map a.eval) (ys.map a.eval),by simp[execOp,ho,Instr.makeFunc],?_⟩⟩
 have h1:=hx.take xs.size
 have h2:=hx.drop xs.size
 have e1:((xs.toList++ys.toList).map a.eval).take xs.size=(xs.map a.eval).toList:=by
  rw[←List.map_take]; simp
 have e2:((xs.toList++ys.toList).map a.eval).drop xs.size=(ys.map a.eval).toList:=by
  rw[←List.map_drop]; simp
 rw[e1] at h1
 rw[e2] at h2
 have:=VRel.fn (ρ:=ρ) (w:=w) f (avs.take xs.size) (avs.drop xs.size) (xs.map a.eval).toList (ys.map a.eval).toList h1.len h2.len h1.at_ h2.at_
 rw[Array.toArray_toList,Array.toArray_toList] at this
 exact this
end
end Go.Vm

namespace Go.Vm
set_option maxRecDepth 100000
section
variable {P:Program}
theorem run_equal_int(d:Nat){t:TypeId}{kd:IntKind}(ht:P.underlying t=some (.int kd))(m n:Int)(w:World):(Op.equalIn (d+1) t (.int kd m) (.int kd n)).run P w = .ok (m == n) w:=by
 simp only[Op.equalIn,Sem.run_bind,run_underlying ht,Result.andThen_ok]
 rfl
def IntsT(P:Program)(t:TypeId)(kd:IntKind)(n:Nat):Prop :=
 (P.underlying t=some (.int kd)∧n=1)∨∃ e i j,P.underlying t=some (.array n e)∧P.underlying e=some (.int kd)∧P.info? e=some i∧i.size=1∧P.info? t=some j∧j.size=n
theorem run_items{e:TypeId}{kd:IntKind}{i:TypeInfo}(he:P.underlying e=some (.int kd))(hi:P.info? e=some i)(hs:i.size=1)(d:Nat)(w:World)(us vs:List Int)(xs ys:Array Value)
  (hx:xs=(us.map (Value.int kd)).toArray) (hy:ys=(vs.map (Value.int kd)).toArray):∀ (is:List Nat),(∀ i∈is,i<us.length∧i<vs.length) →
  (Op.eqItems (d+1) e (P.cellsOf e) xs ys is).run P w = .ok (is.all fun i=>us.getD i 0 == vs.getD i 0) w
 | [],_=>by simp[Op.eqItems]
 | j::is,h=>by
  have hc:P.cellsOf e=1:=by simp[Program.cellsOf,hi,hs]
  obtain⟨h1,h2⟩:=h j (by simp)
  have ih:=run_items he hi hs d w us vs xs ys hx hy is (fun i hi=>h i (by simp[hi]))
  have e1:xs[j]? = some (.int kd us[j]):=by subst hx;simp[h1]
  have e2:ys[j]? = some (.int kd vs[j]):=by subst hy;simp[h2]
  rw[hc] at ih
  simp only[Op.eqItems,Sem.run_bind,hc,Nat.mul_one,run_part1 he rfl xs j w e1,run_part1 he rfl ys j w e2,Result.andThen_ok,run_equal_int d he,List.all_cons]
  have g1:us.getD j 0=us[j]:=by simp[h1]
  have g2:vs.getD j 0=vs[j]:=by simp[h2]
  rw[g1,g2]
  cases hb:(us[j] == vs[j])
  ·simp
  ·simp[ih]
theorem all_range(us vs:List Int)(n:Nat)(h1:us.length=n)(h2:vs.length=n):((List.range n).all fun i=>us.getD i 0 == vs.getD i 0)=(us == vs):=by
 rw[Bool.eq_iff_iff]
 simp only[List.all_eq_true,List.mem_range,beq_iff_eq]
 constructor
 ·intro h
  apply List.ext_getElem (by omega)
  intro i hi hj
  have:=h i (by omega)
  simpa[hi,hj] using this
 ·intro h i _
  rw[h]
theorem run_ints(d:Nat){t e:TypeId}{i:TypeInfo}{kd:IntKind}{n:Nat}(hT:P.underlying t=some (.array n e)∧P.underlying e=some (.int kd)∧P.info? e=some i∧i.size=1)(us vs:List Int)(h1:us.length=n)(h2:vs.length=n)(w:World) :
  (Op.equalIn (d+2) t (.agg (us.map (Value.int kd)).toArray) (.agg (vs.map (Value.int kd)).toArray)).run P w = .ok (us == vs) w:=by
 obtain⟨ha,hb,hc,hd⟩:=hT
 rw[run_equalIn_array w (d+1) _ _ ha hc,run_items hb hc hd d w us vs _ _ rfl rfl (List.range n) (fun i hi=>by have:=List.mem_range.1 hi;omega),all_range us vs n h1 h2]
inductive Segs(P:Program):List Field→List (Nat × IntKind × Nat)→Prop where
 | nil:Segs P [] []
 | cons (f:Field) (fs:List Field) (kd:IntKind) (n:Nat) (segs:List (Nat × IntKind × Nat)) (hn:f.name ≠ "_") (hT:IntsT P f.type kd n) (h:Segs P fs segs):Segs P (f::fs) ((f.offset,kd,n)::segs)
inductive RowT(P:Program):TypeId→Nat→List (Nat × IntKind × Nat)→Prop where
 | arr (t e:TypeId) (kd:IntKind) (n:Nat) (i:TypeInfo) (ht:P.underlying t=some (.array n e)) (he:P.underlying e=some (.int kd)) (hi:P.info? e=some i) (h1:i.size=1):RowT P t n [(0,kd,n)]
 | str (t:TypeId) (fs:Array Field) (n:Nat) (segs:List (Nat × IntKind × Nat)) (ht:P.underlying t=some (.struct fs)) (hp:P.stoodInHeld t=false) (h:Segs P fs.toList segs):RowT P t n segs
theorem lies_ints{ρ:Rho}{w:World}{kd:IntKind}{us:List Int}{vs:List Value}(hl:vs.length=us.length)(h:Lies ρ w (us.map (AV.int kd)) 0 vs.toArray):vs=us.map (Value.int kd):=by
 apply List.ext_getElem (by simp[hl])
 intro i hi hj
 have hiu:i<us.length:=by omega
 obtain⟨v,h1,_,h3⟩:=h i (.int kd us[i]) (by simp[hiu])
 have h1':vs[i]? = some v:=by simpa using h1
 rw[List.getElem?_eq_getElem hi] at h1'
 rw[Option.some.inj h1',inv_int h3]
 simp
section
variable {R:Type}{A:Alg R}{holds:R→Prop}(good:A.Good holds)
include good
theorem segsK_sound{segs:List (Nat × IntKind × Nat)}{x y:List AV}{k:Bool→R}(h:holds (segsK A ops0 segs x y k)) :
  ∃ b,holds (k b)∧∀ fs,Segs P fs segs→∀ (ρ:Rho) (w:World) (xs ys:List Value) (d:Nat),xs.length=x.length→ys.length=y.length→Lies ρ w x 0 xs.toArray→Lies ρ w y 0 ys.toArray →
   (Op.eqFields (d+2) xs.toArray ys.toArray fs).run P w = .ok b w:=by
 induction segs with
 | nil =>
  refine⟨true,h,fun fs hs ρ w xs ys d _ _ _ _ => ?_⟩
  cases hs
  simp[Op.eqFields]
 | cons s segs ih =>
  obtain⟨off,kd,n⟩:=s
  obtain⟨hx,h⟩:=good.chk _ _ (show holds (A.chk _ _) from h)
  obtain⟨hy,h⟩:=good.chk _ _ h
  have hx:off+n≤x.length:=by simpa[ops0] using hx
  have hy:off+n≤y.length:=by simpa[ops0] using hy
  obtain⟨us,hus,h⟩:=good.ints _ _ _ h
  obtain⟨vs,hvs,h⟩:=good.ints _ _ _ h
  have hus:(x.drop off).take n=us.map (AV.int kd):=hus
  have hvs:(y.drop off).take n=vs.map (AV.int kd):=hvs
  have hul:us.length=n:=by
   have:=congrArg List.length hus
   simp at this;omega
  have hvl:vs.length=n:=by
   have:=congrArg List.length hvs
   simp at this;omega
  have key:∀ (f:Field) (hT:IntsT P f.type kd n) (hf:f.offset=off) (ρ:Rho) (w:World) (xs ys:List Value) (d:Nat),xs.length=x.length→ys.length=y.length→Lies ρ w x 0 xs.toArray→Lies ρ w y 0 ys.toArray →
    ∃ a b,(part f.type xs.toArray f.offset).run P w = .ok a w∧(part f.type ys.toArray f.offset).run P w = .ok b w∧(Op.equalIn (d+2) f.type a b).run P w = .ok (us == vs) w:=by
   intro f hT hf ρ w xs ys d hxl hyl hlx hly
   have sub:∀ (z:List AV) (zs:List Value) (ts:List Int),zs.length=z.length→Lies ρ w z 0 zs.toArray→off+n≤z.length→(z.drop off).take n=ts.map (AV.int kd)→ts.length=n →
     (zs.drop off).take n=ts.map (Value.int kd):=by
    intro z zs ts hl hli ho he hn
    refine lies_ints (ρ:=ρ) (w:=w) (by simp;omega) ?_
    rw[←he]
    intro i a hi
    rw[List.getElem?_take] at hi
    split at hi
    ·rename_i hin
     rw[List.getElem?_drop] at hi
     obtain⟨v,g1,g2,g3⟩:=hli _ a hi
     refine⟨v,?_,g2,g3⟩
     simp only[Nat.zero_add,List.getElem?_toArray] at g1 ⊢
     rw[List.getElem?_take,if_pos hin,List.getElem?_drop]
     exact g1
    ·cases hi
   have ex:=sub x xs us hxl hlx hx hus hul
   have ey:=sub y ys vs hyl hly hy hvs hvl
   rcases hT with ⟨ht,hn⟩|⟨e,i,j,ht,he,hi,hs,hj,hjn⟩
   ·subst hn
    match us,hul,vs,hvl with
    | [u],_,[v],_ =>
     refine⟨.int kd u,.int kd v,?_,?_,?_⟩
     ·refine run_part1 ht rfl _ _ w ?_
      have:=congrArg (·[0]?) ex
      simp[List.getElem?_take,List.getElem?_drop] at this
      simpa[hf] using this
     ·refine run_part1 ht rfl _ _ w ?_
      have:=congrArg (·[0]?) ey
      simp[List.getElem?_take,List.getElem?_drop] at this
      simpa[hf] using this
     ·rw[run_equal_int (d+1) ht]
      simp
   ·refine⟨.agg (us.map (Value.int kd)).toArray,.agg (vs.map (Value.int kd)).toArray,?_,?_,run_ints d ⟨ht,he,hi,hs⟩ us vs hul hvl w⟩
    ·rw[run_partn ht rfl hj,hjn,hf,←ex]
     simp[List.extract_toArray,List.extract_eq_take_drop]
    ·rw[run_partn ht rfl hj,hjn,hf,←ey]
     simp[List.extract_toArray,List.extract_eq_take_drop]
  rcases good.br _ _ _ h with ⟨hb,h⟩|⟨hb,h⟩
  ·obtain⟨b,hk,hb2⟩:=ih h
   refine⟨b,hk,fun fs hs ρ w xs ys d hxl hyl hlx hly => ?_⟩
   cases hs with
   | cons f fs kd n segs hn hT hr =>
    obtain⟨p,q,h1,h2,h3⟩:=key f hT rfl ρ w xs ys d hxl hyl hlx hly
    have hb:(us == vs)=true:=hb
    simp only[Op.eqFields,if_pos hn,Sem.run_bind,h1,h2,h3,Result.andThen_ok,hb]
    simp only[Bool.not_true,Bool.false_eq_true,if_false]
    exact hb2 fs hr ρ w xs ys d hxl hyl hlx hly
  ·refine⟨false,h,fun fs hs ρ w xs ys d hxl hyl hlx hly => ?_⟩
   cases hs with
   | cons f fs kd n segs hn hT hr =>
    obtain⟨p,q,h1,h2,h3⟩:=key f hT rfl ρ w xs ys d hxl hyl hlx hly
    have hb:(us == vs)=false:=hb
    simp only[Op.eqFields,if_pos hn,Sem.run_bind,h1,h2,h3,Result.andThen_ok,hb]
    simp
theorem segsK_arr{kd:IntKind}{n:Nat}{x y:List AV}{k:Bool→R}(h:holds (segsK A ops0 [(0,kd,n)] x y k))(hx:x.length=n)(hy:y.length=n) :
  ∃ us vs:List Int,x=us.map (AV.int kd)∧y=vs.map (AV.int kd)∧holds (k (us == vs)):=by
 obtain⟨_,h⟩:=good.chk _ _ (show holds (A.chk _ _) from h)
 obtain⟨_,h⟩:=good.chk _ _ h
 obtain⟨us,hus,h⟩:=good.ints _ _ _ h
 obtain⟨vs,hvs,h⟩:=good.ints _ _ _ h
 have hus:(x.drop 0).take n=us.map (AV.int kd):=hus
 have hvs:(y.drop 0).take n=vs.map (AV.int kd):=hvs
 rw[List.drop_zero,List.take_of_length_le (by omega)] at hus hvs
 refine⟨us,vs,hus,hvs,?_⟩
 rcases good.br _ _ _ h with ⟨hb,h⟩|⟨hb,h⟩
 ·have hb:(us == vs)=true:=hb
  rw[hb]; exact h
 ·have hb:(us == vs)=false:=hb
  rw[hb]; exact h
end
end
end Go.Vm

namespace Go.Vm
set_option maxRecDepth 100000
section
variable {R:Type}{A:Alg R}{holds:R→Prop}(good:A.Good holds){P:Program}{o:Oper}{avs:List AV}{H:Hl}{cf:CallF R}{k:ExK R}
include good
omit good in
theorem run_acmp{neg:Bool}{t:TypeId}{x y:Operand}{yt:TypeId}(ho:o.op = .binOp (if neg then .neq else .eql) t x y yt)(hg:P.eqGuardType P.depth t=false){a:Act}{w:World}{xs ys:Array Value}
  (hx:a.eval x = .agg xs) (hy:a.eval y = .agg ys) {b:Bool} (h:(Op.equalIn 10000 t (.agg xs) (.agg ys)).run P w = .ok b w):(execOp a.eval o).run P w = .ok (.value (.bool (Bool.xor neg b))) w:=by
 have hgd:∀ op,(op = .eql∨op = .neq)→(eqGuard op t x y (.agg xs) (.agg ys)).run P w = .ok () w:=by
  intro op hop
  rcases hop with rfl|rfl<;>simp[eqGuard,hg]
 cases neg
 ·simp only[Bool.false_eq_true,if_false] at ho
  simp only[execOp,ho,hx,hy,Sem.run_bind,hgd _ (.inl rfl),Result.andThen_ok,run_eql_struct,h,Sem.run_pure,Bool.false_bne]
 ·simp only[if_true] at ho
  simp only[execOp,ho,hx,hy,Sem.run_bind,hgd _ (.inr rfl),Result.andThen_ok,run_neq_struct,h,Sem.run_pure,Bool.true_bne]
theorem s_acmp{neg:Bool}{t:TypeId}{x y:Operand}{yt:TypeId}{n:Nat}{segs:List (Nat × IntKind × Nat)}(ho:o.op = .binOp (if neg then .neq else .eql) t x y yt)(hT:RowT P t n segs)
  (hg:P.eqGuardType P.depth t=false) (h:holds (ex A ops0 cf H (.acmp neg n segs) avs k)):Does P o [x,y] avs H fun r H' t f=>holds (k r H' t f):=by
 rcases avs with _|⟨xa,_|⟨ya,_|⟨_,_⟩⟩⟩
 ·exact(good.fail h).elim
 ·cases xa<;>exact(good.fail h).elim
 ·cases xa with
  | agg xs =>
   cases ya with
   | agg ys =>
    obtain⟨hx,h⟩:=good.chk _ _ (show holds (A.chk _ _) from h)
    obtain⟨hy,h⟩:=good.chk _ _ h
    have hx:xs.length=n:=by simpa[ops0] using hx
    have hy:ys.length=n:=by simpa[ops0] using hy
    cases hT with
    | arr e kd _ i ht he hi h1 =>
     obtain⟨us,vs,hus,hvs,h⟩:=segsK_arr good h hx hy
     refine⟨_,_,_,_,h,quiet2 fun ρ w a g hv hu _ _=>⟨_,?_,.bool _⟩⟩
     obtain⟨ps,hpe,hpl,_,hpli⟩:=lies_agg hv
     obtain⟨qs,hqe,hql,_,hqli⟩:=lies_agg hu
     have hul:us.length=n:=by rw[←hx,hus]; simp
     have hvl:vs.length=n:=by rw[←hy,hvs]; simp
     rw[hus] at hpli
     rw[hvs] at hqli
     have e1:=lies_ints (by omega) hpli
     have e2:=lies_ints (by omega) hqli
     refine run_acmp ho hg hpe hqe ?_
     rw[e1,e2]
     exact run_ints 9998 ⟨ht,he,hi,h1⟩ us vs hul hvl w
    | str fs _ _ ht hp hs =>
     obtain⟨b,h,hb⟩:=segsK_sound good h
     refine⟨_,_,_,_,h,quiet2 fun ρ w a g hv hu _ _=>⟨_,?_,.bool _⟩⟩
     obtain⟨ps,hpe,hpl,_,hpli⟩:=lies_agg hv
     obtain⟨qs,hqe,hql,_,hqli⟩:=lies_agg hu
     refine run_acmp ho hg hpe hqe ?_
     have hfs:P.fieldsOf t=fs:=by simp[Program.fieldsOf,ht]
     rw[show(10000:Nat)=9999+1 from rfl,run_equalIn_struct w 9999 t _ _ (by rw[hfs]; exact ht) hp,hfs]
     exact hb fs.toList hs ρ w ps qs 9997 hpl hql hpli hqli
   | _=>exact(good.fail h).elim
  | _=>exact(good.fail h).elim
 ·cases xa<;>first|exact(good.fail h).elim|(cases ya<;>exact(good.fail h).elim)
omit good in
theorem foldl_bytes(l:List UInt8)(s:ByteArray):(l.map fun b=>(b.toNat:Int)).foldl (fun r n=>r.push (UInt8.ofNat n.toNat)) s=⟨s.data++l.toArray⟩:=by
 induction l generalizing s with
 | nil=>simp
 | cons b l ih =>
  simp only[List.map_cons,List.foldl_cons,ih]
  simp[ByteArray.push]
theorem s_b2s{s t:TypeId}{x:Operand}{e:TypeId}(ho:o.op = .convert s t x)(hs:P.underlying s=some (.slice e))(he:P.underlying e=some (.int .u8))(ht:P.underlying t=some .string)
  (h:holds (ex A ops0 cf H .b2s avs k)):Does P o [x] avs H fun r H' t f=>holds (k r H' t f):=by
 have main:∀ {xa:AV},(∀ ρ w v,VRel ρ w xa v→∃ ao n c,v = .slice ao n c)→holds (elemsK A ops0 H 1 xa fun cs _ ft=>A.byts cs fun s=>k (.str s) H [] ft) →
   Does P o [x] [xa] H fun r H' t f=>holds (k r H' t f):=by
  intro xa hsl h
  obtain⟨cs,n,ft,h,hel⟩:=elemsK_sound good h
  obtain⟨l,hl,h⟩:=good.byts _ _ h
  refine⟨_,_,_,_,h,quiet1 fun ρ w a g hv hag hg=>⟨_,?_,.str l⟩⟩
  have E:=hel P ρ w g _ hv hag hg
  obtain⟨ao,m,c,hve⟩:=hsl ρ w _ hv
  rw[hve] at E
  have hm:m=n:=by
   have:=E.lenOf
   simp[Builtin.lenOf] at this
   exact this
  subst hm
  have hcl:=E.len
  obtain⟨vs,h1,h2,h3,_⟩:=E.first m (Nat.le_refl _)
  have hll:l.length=m:=by
   have:=congrArg List.length hl
   simp at this;omega
  rw[List.take_of_length_le (by omega),hl] at h3
  have hmap:(l.map fun b=>AV.int .u8 b.toNat)=(l.map fun b=>(b.toNat:Int)).map (AV.int .u8):=by simp
  rw[hmap] at h3
  have hvs:=lies_ints (by simp;omega) h3
  have hconv:(execOp a.eval o).run P w=((Conv.bytesToString (.slice ao m c)).run P w).andThen fun v w' => .ok (.value v) w':=by
   simp only[execOp,ho,hve,Sem.run_bind,run_convert_bytes_string w s t e ao m c hs he ht,Sem.run_pure]
  rw[hconv]
  cases ao with
  | none =>
   have:m*1=0:=by
    simp only[Builtin.firstCells,Sem.run_pure,Result.ok.injEq,and_true] at h2
    have:=congrArg Array.size h2
    simp at this;omega
   have hln:l = []:=by apply List.eq_nil_of_length_eq_zero;omega
   subst hln
   simp only[Conv.bytesToString,Sem.run_pure,Result.andThen_ok]
   rfl
  | some ad =>
   simp only[Builtin.firstCells,Nat.mul_one] at h2
   rw[run_bytesToString w ad m c (l.map fun b=>(b.toNat:Int)) (by rw[h2,hvs]),foldl_bytes]
   simp[ByteArray.empty,ByteArray.emptyWithCapacity]
   rfl
 rcases avs with _|⟨xa,_|⟨_,_⟩⟩
 ·exact(good.fail h).elim
 ·cases xa with
  | str=>exact(good.fail h).elim
  | nils=>exact main (fun ρ w v hv=>⟨none,0,0,inv_nils hv⟩) h
  | slc b of len cap sz=>exact main (fun ρ w v hv=>by
    cases hv with
    | slc _ _ _ _ _ _ h0 hs hvo hh=>obtain⟨ao,c,rfl,_⟩:=hs;exact⟨_,_,_,rfl⟩) h
  | ros cs off len cap ex=>exact main (fun ρ w v hv=>by cases hv;exact⟨_,_,_,rfl⟩) h
  | _=>exact(good.fail h).elim
 ·cases xa<;>exact(good.fail h).elim
omit good in
theorem run_builtin{b:Builtin}{args:Array Operand}{ats:Array TypeId}(ho:o.op = .call { callee := .builtin b,args,argTypes:=ats })(a:Act)(w:World) :
  (execOp a.eval o).run P w=(builtin b ats o.type (args.map fun | .const _=>true|_=>false) (args.map a.eval)).run P w:=by
 simp only[execOp,ho,resolve,Sem.run_bind,Sem.run_pure,Result.andThen_ok,invoke]
 rfl
theorem s_len{x:Operand}{t e:TypeId}(ho:o.op = .call { callee := .builtin .len,args := #[x],argTypes := #[t] })(ht:P.underlying t=some (.slice e))
  (h:holds (ex A ops0 cf H .len avs k)):Does P o [x] avs H fun r H' t f=>holds (k r H' t f):=by
 have slice:∀ (a:Act) (w:World) ao n c,a.eval x = .slice ao n c→(execOp a.eval o).run P w = .ok (.value (.int .i64 (n:Int))) w:=by
  intro a w ao n c hve
  rw[run_builtin ho]
  simp[builtin,Builtin.len_,run_underlying ht,hve,goInt]
 rcases avs with _|⟨xa,_|⟨_,_⟩⟩
 ·exact(good.fail h).elim
 ·cases xa with
  | nils=>exact⟨_,_,_,_,h,quiet1 fun ρ w a g hv _ _=>⟨_,slice a w _ _ _ (inv_nils hv),.int _ _⟩⟩
  | slc b of len cap sz =>
   refine⟨_,_,_,_,h,quiet1 fun ρ w a g hv _ _ => ?_⟩
   generalize hve:a.eval x=ve at hv
   cases hv with
   | slc _ _ _ _ _ _ h0 hs hvo hh=>obtain⟨ao,c,rfl,_⟩:=hs;exact⟨_,slice a w _ _ _ hve,.int _ _⟩
  | ros cs off len cap ex =>
   refine⟨_,_,_,_,h,quiet1 fun ρ w a g hv _ _ => ?_⟩
   generalize hve:a.eval x=ve at hv
   cases hv with
   | ros=>exact⟨_,slice a w _ _ _ hve,.int _ _⟩
  | _=>exact(good.fail h).elim
 ·cases xa<;>exact(good.fail h).elim
theorem s_lenT{x:Operand}{t:TypeId}(ho:o.op = .call { callee := .builtin .len,args := #[x],argTypes := #[t] })(ht:P.underlying t=some .string)
  (h:holds (ex A ops0 cf H .lenT avs k)):Does P o [x] avs H fun r H' t f=>holds (k r H' t f):=by
 rcases avs with _|⟨xa,_|⟨_,_⟩⟩
 ·exact(good.fail h).elim
 ·cases xa with
  | str s =>
   refine⟨_,_,_,_,h,quiet1 fun ρ w a g hv _ _=>⟨_,?_,.int _ _⟩⟩
   rw[run_builtin ho]
   simp[builtin,Builtin.len_,run_underlying ht,inv_str hv,goInt]
   rfl
  | _=>exact(good.fail h).elim
 ·cases xa<;>exact(good.fail h).elim
omit good in
theorem s_lenA{x:Operand}{t e:TypeId}{n:Nat}(ho:o.op = .call { callee := .builtin .len,args := #[x],argTypes := #[t] })(ht:P.underlying t=some (.array n e))
  (h:holds (ex A ops0 cf H (.lenA n) avs k)) (good:A.Good holds):Does P o [x] avs H fun r H' t f=>holds (k r H' t f):=by
 rcases avs with _|⟨xa,_|⟨_,_⟩⟩
 ·exact(good.fail h).elim
 ·refine⟨_,_,_,_,h,quiet1 fun ρ w a g hv _ _=>⟨_,?_,.int _ _⟩⟩
  rw[run_builtin ho]
  simp[builtin,Builtin.len_,run_underlying ht,goInt]
 ·exact(good.fail h).elim
end
end Go.Vm
