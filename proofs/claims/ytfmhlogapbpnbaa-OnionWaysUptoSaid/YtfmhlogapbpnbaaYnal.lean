/-
  ONION, PART 11: what comes to stand at a body's end.
-/
import Derived.Test.YtfmhlogapbpnbaaYnak
import Derived.Test.YtfmhlogapbpnbaaYnad
import Derived.RangeFuncLeaves
import Derived.RangeFuncCalls
import Derived.RangeFuncMany
set_option linter.unusedVariables false
set_option linter.unusedSimpArgs false
set_option linter.unusedSectionVars false

namespace Go.Proofs.Vm
set_option maxRecDepth 100000
open Go.Vm
noncomputable section
def tabF(f:Nat):Option VF:=match f with
 | 84=>some vf84
 | 86=>some vf86
 | _=>none
noncomputable def lp84:VC:=vp [1,1,0,1,0,0] vf84.body
def fr84(x:AV)(cs:List AV)(o m c:Nat)(e:Bool)(i:Int):Fr := [.top,.top,.top,x,.top,.top,.top,.top,.top,.top,.top,.ros cs o m c e,.int .i64 (Int.ofNat m),.int .i64 i,.top,.top,.top,.top,.top,.top,.top,.top,.top,.top,.top,.top,.top,.top,.top,.top,.top,.top,.top,.top,.top]
def mk84:List Bool := [true,true,true,false,true,true,true,true,true,true,true,false,false,false,true,true,true,true,true,true,true,true,true,true,true,true,true,true,true,true,true,true,true,true,true]
structure VF7 where
 fil:List AV->Nat->Nat->List AV
def P84(cs:List AV)(o m:Nat):Prop:=flatL cs/\m<=7/\o+m*32<=cs.length/\∃ L,ShAt cs o m L
def ln84(V:VF7)(z:Nat->Bool):LnF:=fun n0 b fr H=>match slot fr 11,slot fr 12,slot fr 3,H with
 | .ros cs o m c e,.int .i64 (.ofNat _),.nils,[] =>
  some (n0=0/\VCis b lp84/\forget mk84 fr=fr84 .nils cs o m c e 0/\P84 cs o m,.cond (z m) (.ok (.exit 0) (fr84 .nils cs o m c e 0) []) (.ok (.exit 0) (fr84 (.slc 0 (2304 - 256*m) (256*m) (256*m) 1) cs o m c e m) [.cells (V.fil cs o m)]))
 | _,_,_,_=>none
theorem vc84(Z:OZ)(O:OY)(F:HF)(V:VF7)(z:Nat->Bool)(cs:List AV)(o m c:Nat)(e:Bool)(R:AV->Prop)(Q:Nat->Nat->Nat->Nat->List AV->Prop) :
  (vcall (vcA kdS (cnO2 Z O F) (ln84 V z)) ops0 tabF 100 vf84 [.ros cs o (m+1) c e] [] (fun r H lg=>match r with
    | .nils=>R .nils
    | r=>endB Q r H lg)) =
 ((Chk (ops0.inb (ops0.bin .sub .i64 (ops0.ofn (m+1)) (Int.ofNat 1)) c)
 ((((0:Nat)=0) /\
 ((VCis lp84 lp84) /\
 ((((tp 3 (.nils::tp 7 ((.ros cs o (ops0.sub (ops0.nat (ops0.bin .sub .i64 (ops0.ofn (m+1)) (Int.ofNat 1))) 0) c (Bool.or e Bool.false))::(.int .i64 (ops0.ofn (ops0.sub (ops0.nat (ops0.bin .sub .i64 (ops0.ofn (m+1)) (Int.ofNat 1))) 0)))::(.int .i64 (.ofNat 0))::tp 21 ([])))):Fr)=(tp 3 (.nils::tp 7 ((.ros cs o (ops0.sub (ops0.nat (ops0.bin .sub .i64 (ops0.ofn (m+1)) (Int.ofNat 1))) 0) c (Bool.or e Bool.false))::(.int .i64 (.ofNat (ops0.sub (ops0.nat (ops0.bin .sub .i64 (ops0.ofn (m+1)) (Int.ofNat 1))) 0)))::(.int .i64 (.ofNat 0))::tp 21 ([]))))) /\
 (P84 cs o (ops0.sub (ops0.nat (ops0.bin .sub .i64 (ops0.ofn (m+1)) (Int.ofNat 1))) 0))))) /\
 (Br (z (ops0.sub (ops0.nat (ops0.bin .sub .i64 (ops0.ofn (m+1)) (Int.ofNat 1))) 0))
 (R .nils)
 ((flatL (VF7.fil V cs o (ops0.sub (ops0.nat (ops0.bin .sub .i64 (ops0.ofn (m+1)) (Int.ofNat 1))) 0))) /\
 (Q (2304 - (256*(ops0.sub (ops0.nat (ops0.bin .sub .i64 (ops0.ofn (m+1)) (Int.ofNat 1))) 0))) (256*(ops0.sub (ops0.nat (ops0.bin .sub .i64 (ops0.ofn (m+1)) (Int.ofNat 1))) 0)) (256*(ops0.sub (ops0.nat (ops0.bin .sub .i64 (ops0.ofn (m+1)) (Int.ofNat 1))) 0)) 1 (VF7.fil V cs o (ops0.sub (ops0.nat (ops0.bin .sub .i64 (ops0.ofn (m+1)) (Int.ofNat 1))) 0)))))))):=by kernel_rfl
theorem qxs(Z:OZ)(O:OY)(F:HF)(cs:List AV)(o m c:Nat)(e:Bool)(i:Int)(Q:Ex->Fr->Hl->Prop) :
  (vm (vcA kdS (cnO2 Z O F) noLn) ops0 tabF 100 0 lp84 (fr84 .nils cs o m c e i) [] [] (bodyX mk84 Q)) =
 ((Br (ops0.cmp .lss i (Int.ofNat m))
 (Chk (ops0.inr i m)
 (Chk (ops0.le (ops0.add (ops0.adr o i 32) 32) (ops0.len cs))
 (Chk (ops0.eq (ops0.len (ops0.ext cs (ops0.adr o i 32) 32)) 32)
 (Chk (ops0.le 32 (ops0.len (ops0.spl (z8 32) 0 (ops0.ext cs (ops0.adr o i 32) 32))))
 (Chk (ops0.le 32 (ops0.len (ops0.ext (ops0.spl (z8 32) 0 (ops0.ext cs (ops0.adr o i 32) 32)) 0 32)))
 (((PKey (ops0.ext (ops0.ext (ops0.spl (z8 32) 0 (ops0.ext cs (ops0.adr o i 32) 32)) 0 32) 0 32)) /\
 (PB (z8 2304) 0 2304)) /\
 (Q Ex.norm (tp 3 ((.slc 3 2048 256 256 1)::tp 7 ((.ros cs o m c e)::(.int .i64 (.ofNat m))::(.int .i64 (ops0.bin .add .i64 i (Int.ofNat 1)))::tp 21 ([])))) [(.cells (ops0.spl (z8 32) 0 (ops0.ext cs (ops0.adr o i 32) 32))),(.cells (z8 2304)),(.cells (ops0.ext (ops0.spl (z8 32) 0 (ops0.ext cs (ops0.adr o i 32) 32)) 0 32)),(.cells (HF.mask F (ops0.ext (ops0.ext (ops0.spl (z8 32) 0 (ops0.ext cs (ops0.adr o i 32) 32)) 0 32) 0 32) [98,111,100,121] (List.replicate 2304 (0:UInt8))))])))))))
 (Q (Ex.exit 0) (tp 3 (.nils::tp 7 ((.ros cs o m c e)::(.int .i64 (.ofNat m))::(.int .i64 i)::tp 21 ([])))) []))):=by kernel_rfl
theorem qyn(Z:OZ)(O:OY)(F:HF)(os cs:List AV)(of n o m c:Nat)(e:Bool)(i:Int)(Q:Ex->Fr->Hl->Prop) :
  (vm (vcA kdS (cnO2 Z O F) noLn) ops0 tabF 100 0 lp84 (fr84 (.slc 0 of n n 1) cs o m c e i) [.cells os] [] (bodyX mk84 Q)) =
 ((Br (ops0.cmp .lss i (Int.ofNat m))
 (Chk (ops0.inr i m)
 (Chk (ops0.le (ops0.add (ops0.adr o i 32) 32) (ops0.len cs))
 (Chk (ops0.eq (ops0.len (ops0.ext cs (ops0.adr o i 32) 32)) 32)
 (Chk (ops0.inb (ops0.bin .sub .i64 (Int.ofNat 2048) (ops0.ofn n)) 2304)
 (Chk (ops0.le (ops0.add (ops0.add 0 (ops0.mul (ops0.nat (ops0.bin .sub .i64 (Int.ofNat 2048) (ops0.ofn n))) 1)) (ops0.mul (ops0.sub 2304 (ops0.nat (ops0.bin .sub .i64 (Int.ofNat 2048) (ops0.ofn n)))) 1)) 2304)
 (Chk (ops0.le (ops0.add of (ops0.mul n 1)) (ops0.len os))
 (Chk (ops0.le 32 (ops0.len (ops0.spl (z8 32) 0 (ops0.ext cs (ops0.adr o i 32) 32))))
 (Chk (ops0.le 32 (ops0.len (ops0.ext (ops0.spl (z8 32) 0 (ops0.ext cs (ops0.adr o i 32) 32)) 0 32)))
 (((PKey (ops0.ext (ops0.ext (ops0.spl (z8 32) 0 (ops0.ext cs (ops0.adr o i 32) 32)) 0 32) 0 32)) /\
 (PB (ops0.spl (z8 2304) (ops0.add 0 (ops0.mul (ops0.nat (ops0.bin .sub .i64 (Int.ofNat 2048) (ops0.ofn n))) 1)) (ops0.ext (ops0.ext os of (ops0.mul n 1)) 0 (ops0.mul (ops0.min n (ops0.sub 2304 (ops0.nat (ops0.bin .sub .i64 (Int.ofNat 2048) (ops0.ofn n))))) 1))) 0 2304)) /\
 (Chk (ops0.inb (ops0.bin .sub .i64 (Int.ofNat 2048) (ops0.ofn n)) 2304)
 (Q Ex.norm (tp 3 ((.slc 4 (ops0.add 0 (ops0.mul (ops0.nat (ops0.bin .sub .i64 (Int.ofNat 2048) (ops0.ofn n))) 1)) (ops0.sub 2304 (ops0.nat (ops0.bin .sub .i64 (Int.ofNat 2048) (ops0.ofn n)))) (ops0.sub 2304 (ops0.nat (ops0.bin .sub .i64 (Int.ofNat 2048) (ops0.ofn n)))) 1)::tp 7 ((.ros cs o m c e)::(.int .i64 (.ofNat m))::(.int .i64 (ops0.bin .add .i64 i (Int.ofNat 1)))::tp 21 ([])))) [(.cells os),(.cells (ops0.spl (z8 32) 0 (ops0.ext cs (ops0.adr o i 32) 32))),(.cells (ops0.spl (z8 2304) (ops0.add 0 (ops0.mul (ops0.nat (ops0.bin .sub .i64 (Int.ofNat 2048) (ops0.ofn n))) 1)) (ops0.ext (ops0.ext os of (ops0.mul n 1)) 0 (ops0.mul (ops0.min n (ops0.sub 2304 (ops0.nat (ops0.bin .sub .i64 (Int.ofNat 2048) (ops0.ofn n))))) 1)))),(.cells (ops0.ext (ops0.spl (z8 32) 0 (ops0.ext cs (ops0.adr o i 32) 32)) 0 32)),(.cells (HF.mask F (ops0.ext (ops0.ext (ops0.spl (z8 32) 0 (ops0.ext cs (ops0.adr o i 32) 32)) 0 32) 0 32) [98,111,100,121] (rdB (ops0.spl (z8 2304) (ops0.add 0 (ops0.mul (ops0.nat (ops0.bin .sub .i64 (Int.ofNat 2048) (ops0.ofn n))) 1)) (ops0.ext (ops0.ext os of (ops0.mul n 1)) 0 (ops0.mul (ops0.min n (ops0.sub 2304 (ops0.nat (ops0.bin .sub .i64 (Int.ofNat 2048) (ops0.ofn n))))) 1))) 0 2304)))])))))))))))
 (Q (Ex.exit 0) (tp 3 ((.slc 0 of n n 1)::tp 7 ((.ros cs o m c e)::(.int .i64 (.ofNat m))::(.int .i64 i)::tp 21 ([])))) [(.cells os)]))):=by kernel_rfl
def zs(n:Nat):List UInt8:=List.replicate n 0
theorem qao(n:Nat):(zs n).length=n:=List.length_replicate
def qdd(i:Nat)(x:List UInt8):List UInt8:=zs (2048 - 256*i)++(x++zs 256)
def fillA(L:List (List UInt8)):Nat->List UInt8
 | 0=>zs 2304
 | i+1=>maskL (L.getD i []) bodyW (qdd i ((fillA L i).drop (2304 - 256*i)))
def fillL(L:List (List UInt8))(i:Nat):List UInt8:=(fillA L i).drop (2304 - 256*i)
theorem qcz(L:List (List UInt8)):∀ i,i<=8->(fillA L i).length=2304
 | 0,_=>qao _
 | i+1,h=>by
  have ih:=qcz L i (by omega)
  show(maskL _ _ _).length=_
  rw[qbd]
  unfold qdd
  simp only[List.length_append,qao,List.length_drop,ih]
  omega
theorem qbn{L:List (List UInt8)}{i:Nat}(h:i<=8):(fillL L i).length=256*i:=by
 unfold fillL
 rw[List.length_drop,qcz L i h]
 omega
theorem qkz{i:Nat}(hi:i<=8){x:List UInt8}(h:x.length=256*i):(qdd i x).length=2304:=by
 unfold qdd
 simp only[List.length_append,qao,h]
 omega
theorem q1w{n o:Nat}{x:List UInt8}(h:o+x.length<=n):ops0.spl (z8 n) o (x.map by8)=(zs o++(x++zs (n - o - x.length))).map by8:=by
 rw[nSpl,z8_eq,<-List.map_take,<-List.map_drop,List.length_map,<-List.map_append,<-List.map_append,List.take_replicate,List.drop_replicate,Nat.min_eq_left (by omega),Nat.sub_sub]
 rfl
theorem q24(a b:Nat):zs a++zs b=zs (a+b):=by
 unfold zs
 rw[List.replicate_append_replicate]
theorem subN{a b:Nat}(h:b<=a)(h2:a<9223372036854775808):ops0.bin .sub .i64 (Int.ofNat a) (ops0.ofn b)=Int.ofNat (a - b):=by rw[nOfn]; exact nSub h h2
theorem qfo:∀ f vf,tabF f=some vf->FnOK Try.prog f vf:=by
 intro f vf h
 unfold tabF at h
 split at h<;>cases h
 ·exact ok84
 ·exact ok86
theorem qox{σ:Nat->Option Nat}{φ:Nat->Option (List AV)}{cs:List AV}(hcs:flatL cs)(o m c:Nat)(e:Bool)(x:AV)(i:Int) :
  forget mk84 (renL σ φ true (fr84 x cs o m c e i))=fr84 (ren σ φ true x) cs o m c e i:=by
 unfold fr84 mk84
 simp only[renL,ren,forget,qaa hcs]
theorem q04{cs:List AV}{o m:Nat}{L:List (List UInt8)}(c:Nat)(e:Bool)(hcs:flatL cs)(ho:o+m*32<=cs.length)(h:ShAt cs o m L)(hm:m<=7)(hj:0<m) :
  qap Try.prog 0 lp84 (fr84 .nils cs o m c e (Int.ofNat 0)) [] .norm (fr84 (.slc 0 (2304 - 256*1) (256*1) (256*1) 1) cs o m c e (Int.ofNat 1)) [.cells ((fillA L 1).map by8)]:=by
 have hl:0<L.length:=by rw[h.1]; exact hj
 have hx:=List.getElem?_eq_getElem hl
 obtain⟨h1,h2⟩:=h.2 0 L[0] hx
 have hg:L.getD 0 []=L[0]:=by rw[List.getD_eq_getElem?_getD,hx]; rfl
 have ef:fillA L 1=maskL L[0] bodyW (zs 2304):=by
  show maskL (L.getD 0 []) bodyW (qdd 0 ((zs 2304).drop 2304))=_
  rw[hg]
  have:(zs 2304).drop 2304 = []:=List.drop_of_length_le (by rw[qao]; omega)
  rw[this]
  have e3:qdd 0 []=zs 2304:=by
   show zs 2048++([]++zs 256)=_
   rw[List.nil_append,q24]
  rw[e3]
 rw[ef]
 generalize L[0]=x at h1 h2
 have s1:=qba h1
 have hb:qap Try.prog 0 lp84 (fr84 .nils cs o m c e (Int.ofNat 0)) [] .norm (fr84 (.slc 3 2048 256 256 1) cs o m c e (Int.ofNat 1)) [.cells (x.map by8),.cells (z8 2304),.cells (x.map by8),.cells ((maskL x bodyW (zs 2304)).map by8)]:=by
  refine qa2 qbf (qai _) qfo (n:=100) (g:=kdS) (bs:=mk84) ?_ (by simp)
  have e1:ops0.ext cs (o+0*32) 32=x.map by8:=by rw[nExt]; exact h2
  have hmk:maskL x [98,111,100,121] (List.replicate 2304 0)=maskL x bodyW (zs 2304):=rfl
  rw[qxs]
  simp only[nAdr,e1,spl32 h1,qg9,s1,qej,hmk,add1 (show 0<9223372036854775807 by omega)]
  simp only[qbl,nLss,nInr,nLe,nPlus,nLen,nEq,List.length_map,h1,decide_eq_true_eq]
  refine Br.t (decide_eq_true hj) ?_
  repeat' with_reducible apply And.intro
  all_goals first|exact True.intro|omega|exact pkey _ h1|exact⟨qnm _,by rw[qer]; omega,by omega,zs 2304,qao _,by rw[z8_eq,List.drop_zero,List.take_of_length_le (by rw[List.length_map,List.length_replicate]; omega)]; rfl⟩|with_reducible rfl|rfl
 have h3:=hb.post (Weak.pickV [3] mk84 2 (by simp) (by simp) (by simp))
 rw[qox hcs] at h3
 have e4:pickH (viewF [.cells (x.map by8),.cells (z8 2304),.cells (x.map by8),.cells ((maskL x bodyW (zs 2304)).map by8)] [3] 2) [3] [.cells (x.map by8),.cells (z8 2304),.cells (x.map by8),.cells ((maskL x bodyW (zs 2304)).map by8)] = [.cells ((maskL x bodyW (zs 2304)).map by8)]:=by
  show [renB _ _ true (.cells ((maskL x bodyW (zs 2304)).map by8))]=_
  simp only[renB,qaa (qac _)]
 have p2:pickN [3] 3=some 0:=rfl
 rw[e4] at h3
 simp only[ren,p2] at h3
 exact h3
theorem qy6{cs:List AV}{o m i:Nat}{L:List (List UInt8)}(c:Nat)(e:Bool)(hcs:flatL cs)(ho:o+m*32<=cs.length)(h:ShAt cs o m L)(hm:m<=7)(hi:1<=i)(hj:i<m) :
  qap Try.prog 0 lp84 (fr84 (.slc 0 (2304 - 256*i) (256*i) (256*i) 1) cs o m c e (Int.ofNat i)) [.cells ((fillA L i).map by8)] .norm
   (fr84 (.slc 0 (2304 - 256*(i+1)) (256*(i+1)) (256*(i+1)) 1) cs o m c e (Int.ofNat (i+1))) [.cells ((fillA L (i+1)).map by8)]:=by
 have hl:i<L.length:=by rw[h.1]; exact hj
 have hx:=List.getElem?_eq_getElem hl
 obtain⟨h1,h2⟩:=h.2 i L[i] hx
 have hg:L.getD i []=L[i]:=by rw[List.getD_eq_getElem?_getD,hx]; rfl
 have hA:=qcz L i (by omega)
 have hF:=qbn (L:=L) (i:=i) (by omega)
 have ef:fillA L (i+1)=maskL L[i] bodyW (qdd i (fillL L i)):=by
  show maskL (L.getD i []) bodyW _=_
  rw[hg]
  rfl
 rw[ef]
 generalize L[i]=x at h1 h2
 have s1:=qba h1
 have es:sl (fillA L i) (2304 - 256*i) (256*i)=fillL L i:=by
  unfold sl fillL
  rw[List.take_of_length_le (by rw[List.length_drop]; omega)]
 have hI:=qkz (i:=i) (by omega) hF
 have ei:zs (2048 - 256*i)++(fillL L i++zs (2304 - (2048 - 256*i) - (fillL L i).length))=qdd i (fillL L i):=by
  rw[hF,show 2304 - (2048 - 256*i) - 256*i=256 by omega]
  rfl
 have s2:=qba hI
 have s3:=qba hF
 have hmin:ops0.min (256*i) (2304 - (2048 - 256*i))=256*i:=by rw[nMin,if_pos (by omega)]
 have en:2304 - (2048 - 256*i)=256*(i+1):=by omega
 have eo:2048 - 256*i=2304 - 256*(i+1):=by omega
 have hsp:ops0.spl (z8 2304) (2048 - 256*i) ((fillL L i).map by8)=(qdd i (fillL L i)).map by8:=by rw[q1w (by omega),ei]
 have hb:qap Try.prog 0 lp84 (fr84 (.slc 0 (2304 - 256*i) (256*i) (256*i) 1) cs o m c e (Int.ofNat i)) [.cells ((fillA L i).map by8)] .norm (fr84 (.slc 4 (2304 - 256*(i+1)) (256*(i+1)) (256*(i+1)) 1) cs o m c e (Int.ofNat (i+1)))
   [.cells ((fillA L i).map by8),.cells (x.map by8),.cells ((qdd i (fillL L i)).map by8),.cells (x.map by8),.cells ((maskL x bodyW (qdd i (fillL L i))).map by8)]:=by
  refine qa2 qbf (qai _) qfo (n:=100) (g:=kdS) (bs:=mk84) ?_ (by simp)
  have e1:ops0.ext cs (o+i*32) 32=x.map by8:=by rw[nExt]; exact h2
  have hmk:∀ y,maskL x [98,111,100,121] y=maskL x bodyW y:=fun _=>rfl
  rw[qyn]
  simp only[nAdr,e1,spl32 h1,qg9,s1,subN (show 256*i<=2048 by omega) (by omega),nNat,nPlus,qs6,qbw,Nat.mul_one,Nat.zero_add,es,hmin,s3,hsp,rd_sl,s2,qej,hmk,add1 (show i<9223372036854775807 by omega)]
  rw[en,eo]
  simp only[qbl,nLss,nInr,nInb,nLe,nLen,nEq,List.length_map,h1,hA,decide_eq_true_eq]
  refine Br.t (decide_eq_true hj) ?_
  repeat' with_reducible apply And.intro
  all_goals first|exact True.intro|omega|exact pkey _ h1|exact qbz _ 2304 hI.symm (by omega)|with_reducible rfl|rfl
 have h3:=hb.post (Weak.pickV [4] mk84 2 (by simp) (by simp) (by simp))
 rw[qox hcs] at h3
 have e4:∀ A B C D E:List UInt8,pickH (viewF [.cells (A.map by8),.cells (B.map by8),.cells (C.map by8),.cells (D.map by8),.cells (E.map by8)] [4] 2) [4] [.cells (A.map by8),.cells (B.map by8),.cells (C.map by8),.cells (D.map by8),.cells (E.map by8)] = [.cells (E.map by8)]:=by
  intro A B C D E
  show [renB _ _ true (.cells (E.map by8))]=_
  simp only[renB,qaa (qac _)]
 have p2:pickN [4] 4=some 0:=rfl
 rw[e4] at h3
 simp only[ren,p2] at h3
 exact h3
def fil0:VF7:=⟨fun cs o m=>(fillA (shA cs o m) m).map by8⟩
theorem qso:LnOK Try.prog (ln84 fil0 isZ):=by
 intro n0 b fr H p x e hn0 hp lg
 unfold ln84 at e
 split at e<;>cases e
 rename_i cs o m c e mm h1 h2 h3
 obtain⟨rfl,hb,hf,hcs,hm,ho,L,hL⟩:=hp
 have hb:b=lp84:=hb
 subst hb
 cases m with
 | zero =>
  refine qam.pre (Weak.forget (by simp) mk84) ?_ lg
  rw[hf]
  refine qal (P:=Try.prog) (n0:=0) (b:=lp84) (ex := .exit 0) (fr':=fr84 .nils cs o 0 c e (Int.ofNat 0)) (H' := []) (by intro h;cases h) (fun _=>(fr84 .nils cs o 0 c e (Int.ofNat 0),[])) 0 0 (fun j h1 h2=>by omega) ?_
  refine qa2 qbf (qai _) qfo (n:=100) (g:=kdS) (bs:=mk84) ?_ (by simp)
  rw[qxs,nLss]
  exact Br.f (decide_eq_false (by omega)) ⟨rfl,rfl,rfl⟩
 | succ k =>
  have e2:fil0.fil cs o (k+1)=(fillA L (k+1)).map by8:=by
   show(fillA (shA cs o (k+1)) _).map by8=_
   rw[qcr hL]
  have hz:isZ (k+1)=false:=rfl
  rw[e2,hz]
  refine qam.pre (Weak.forget (by simp) mk84) ?_ lg
  rw[hf]
  have h:=qal (P:=Try.prog) (n0:=0) (b:=lp84) (ex := .exit 0) (fr':=fr84 (.slc 0 (2304 - 256*(k+1)) (256*(k+1)) (256*(k+1)) 1) cs o (k+1) c e (Int.ofNat (k+1))) (H' := [.cells ((fillA L (k+1)).map by8)]) (by intro h;cases h)
   (fun i=>match i with
    | 0=>(fr84 .nils cs o (k+1) c e (Int.ofNat 0),[])
    | j+1=>(fr84 (.slc 0 (2304 - 256*(j+1)) (256*(j+1)) (256*(j+1)) 1) cs o (k+1) c e (Int.ofNat (j+1)),[.cells ((fillA L (j+1)).map by8)])) (k+1) 0 (fun i _ hi => ?_) ?_
  ·exact h
  ·cases i with
   | zero=>exact q04 c e hcs ho hL hm (by omega)
   | succ j=>exact qy6 c e hcs ho hL hm (by omega) (by omega)
  ·rw[Nat.zero_add]
   refine qa2 qbf (qai _) qfo (n:=100) (g:=kdS) (bs:=mk84) ?_ (by simp)
   show vm _ _ _ _ _ _ (fr84 (.slc 0 (2304 - 256*(k+1)) (256*(k+1)) (256*(k+1)) 1) cs o (k+1) c e (Int.ofNat (k+1))) [.cells ((fillA L (k+1)).map by8)] _ _
   rw[qyn,nLss]
   exact Br.f (decide_eq_false (by omega)) ⟨rfl,rfl,rfl⟩
theorem qwh{g:Kd->Bool}{C:CnF}(hC:CnOK Try.prog C){E:LnF}(hE:LnOK Try.prog E){T:Nat->Option VF}(hT:∀ f vf,T f=some vf->FnOK Try.prog f vf){f n:Nat}{vf:VF}(hf:T f=some vf){vals:List AV}
  (h:vcall (vcA g C E) ops0 T n vf vals [] (fun r H lg=>match r with
   | .nils=>(AV.nils = .nils)
   | r=>endB (fun _ _ _ _ _=>False) r H lg)):CallTo Try.prog f vals [] .nils [] []:=by
 obtain⟨r,H',lg,hc,e⟩:=qcu hC hE hT hf h
 have e:r = .nils:=by
  split at e
  ·rfl
  ·unfold endB at e
   split at e
   ·split at e
    ·exact e.2.elim
    ·exact e.elim
   ·exact e.elim
 subst e
 have:=hc.cut 0 (Nat.le_refl 0) (Nat.zero_le _) (lg0 := []) (fun b hb=>by simp at hb)
 exact this
theorem qvm{g:Kd->Bool}{C:CnF}(hC:CnOK Try.prog C){E:LnF}(hE:LnOK Try.prog E){T:Nat->Option VF}(hT:∀ f vf,T f=some vf->FnOK Try.prog f vf){f n:Nat}{vf:VF}(hf:T f=some vf){vals:List AV}{o m c sz:Nat}{cs:List AV}
  (h:vcall (vcA g C E) ops0 T n vf vals [] (fun r H lg=>match r with
   | .nils=>False
   | r=>endB (fun o' m' c' sz' cs'=>o'=o/\m'=m/\c'=c/\sz'=sz/\cs'=cs) r H lg)):CallTo Try.prog f vals [] (.slc 0 o m c sz) [.cells cs] []:=by
 refine qfm hC hE hT hf (n:=n) (g:=g) ?_
 have ee:(fun(r:AV) (H:Hl) (lg:List Nat)=>match r with
  | .nils=>False
  | r=>endB (fun o' m' c' sz' cs'=>o'=o/\m'=m/\c'=c/\sz'=sz/\cs'=cs) r H lg)=endB (fun o' m' c' sz' cs'=>o'=o/\m'=m/\c'=c/\sz'=sz/\cs'=cs):=by
  funext r H lg
  cases r<;>rfl
 rw[ee] at h
 exact h
theorem q17{cs:List AV}{o m:Nat}(c:Nat)(e:Bool){L:List (List UInt8)}(hcs:flatL cs)(hm:m<=7)(ho:o+m*32<=cs.length)(hL:ShAt cs o m L)(hc:m+1<=c) :
  (m=0->CallTo Try.prog 84 [.ros cs o (m+1) c e] [] .nils [] [])/\(m≠0->CallTo Try.prog 84 [.ros cs o (m+1) c e] [] (.slc 0 (2304 - 256*m) (256*m) (256*m) 1) [.cells ((fillA L m).map by8)] []):=by
 have e1:ops0.nat (ops0.bin .sub .i64 (ops0.ofn (m+1)) (Int.ofNat 1))=m:=by
  rw[nOfn,nSub (by omega) (by omega)]
  rfl
 have e0:ops0.sub m 0=m:=rfl
 have e2:ops0.inb (ops0.bin .sub .i64 (ops0.ofn (m+1)) (Int.ofNat 1)) c=true:=by
  rw[nOfn,nSub (by omega) (by omega),nInb]
  exact decide_eq_true (by omega)
 have e3:fil0.fil cs o m=(fillA L m).map by8:=by
  show(fillA (shA cs o m) _).map by8=_
  rw[qcr hL]
 constructor
 ·intro h0
  refine qwh qbf qso qfo (show tabF 84=some vf84 from rfl) (n:=100) (g:=kdS) ?_
  rw[vc84 oz0 of1 hf0 fil0 isZ cs o m c e (fun _=>AV.nils = .nils) (fun _ _ _ _ _=>False),e1,e0]
  refine Chk.mk e2 ⟨⟨rfl,rfl,rfl,hcs,hm,ho,L,hL⟩,Br.t (decide_eq_true h0) rfl⟩
 ·intro h0
  refine qvm qbf qso qfo (show tabF 84=some vf84 from rfl) (n:=100) (g:=kdS) ?_
  rw[vc84 oz0 of1 hf0 fil0 isZ cs o m c e (fun _=>False) (fun o' m' c' sz' cs'=>o'=2304 - 256*m/\m'=256*m/\c'=256*m/\sz'=1/\cs'=(fillA L m).map by8),e1,e0,e3]
  exact Chk.mk e2 ⟨⟨rfl,rfl,rfl,hcs,hm,ho,L,hL⟩,Br.f (decide_eq_false h0) ⟨qac _,rfl,rfl,rfl,rfl,rfl⟩⟩
end
end Go.Proofs.Vm

namespace Go.Vm
set_option maxRecDepth 100000
noncomputable section
abbrev FR(l:Nat):Fence:=Fence.wide.inRound l
theorem q2w(l:Nat)(P:Program)(m:Machine):Machine.fenced P (FR l) m:=fenced_wide P m
def okR:Code->Bool
 | .region _ ops _=>ops.toList.all fun o=>match o.op with
  | .defer _=>false
  | _=>true
 | .seq a b=>okR a && okR b
 | .cond _ a b=>okR a && okR b
 | .block _ b=>okR b
 | .skip | .exit _ | .ret=>true
 | _=>false
theorem ql9{F:Fence}{n:Nat}{P:Program}{row:String}{args:Array Value}{w:World}{R:Value->World->Prop}(hF:∀ m,Machine.fenced P F m)(h:Rows P row args w R):RowsIn F n P row args w R:=by
 intro c cs _
 obtain⟨v,w',r,s⟩:=h c cs
 exact⟨v,w',r,(StepsIn.of_steps s).mono fun m _=>hF m⟩
theorem qzr{l:Nat}{P:Program}{o:Oper}{a:Act}{next next':Act->World->Prop}{Q:Exit->Act->World->Prop}(hn:∀ a w,next a w->next' a w){r:Result Next}(h:o.upon P a next Q r):o.uponIn (FR l) 0 P a next' Q r:=by
 have hd:(FR l).depth.isSome=true->1<=0:=fun h=>by cases h
 unfold Oper.upon at h
 split at h
 ·exact hn _ _ h
 ·exact hn _ _ h
 ·exact hn _ _ h
 ·refine⟨hd,CallsIn.inRound l (callsIn_wide.2 (Calls.mono h ?_))⟩
  intro e w hh
  cases e with
  | returned v=>exact hn _ _ hh
  | panicked c=>exact hh
  | outgrown=>exact hh
 ·exact⟨hd,ql9 (q2w l P) (Rows.mono h fun v w' k=>hn _ _ k)⟩
 ·exact h
 ·exact h.elim
theorem qgr{l:Nat}{P:Program}{all:Array Oper}{Q:Exit->Act->World->Prop}(hQ:¬ LetsOut Q)(hd:∀ o,o∈all.toList->∀ c,o.op ≠ .defer c) :
  ∀ (is:List Nat) (a:Act) (w:World),wpOps P all Q is a w->wpOpsIn (FR l) 0 P all Q is a w
 | [],a,w,h=>h
 | i::rest,a,w,h=>by
  simp only[wpOps,wpOpsIn] at h ⊢
  cases ho:all[i]? with
  | none =>
   simp only[ho] at h ⊢
   exact qgr hQ hd rest a w h
  | some o =>
   simp only[ho] at h ⊢
   by_cases hw:Region.wanted o (yielded all a.tmps)=true
   ·rw[if_pos hw] at h ⊢
    rcases h with h|⟨_,h2⟩
    ·refine⟨fun _ _=>trivial,?_⟩
     rw[Oper.semAt_eq _ _ _ (hd o (List.mem_of_getElem? (by rw[Array.getElem?_toList]; exact ho)))]
     exact qzr (fun a w k=>qgr hQ hd rest a w k) h
    ·exact absurd h2 hQ
   ·rw[if_neg hw] at h ⊢
    exact⟨fun _ _=>trivial,qgr hQ hd rest _ w h⟩
theorem qtc{l id:Nat}{P:Program}{all:Array Oper}{draw:Bool}{Q:Exit->Act->World->Prop}{a:Act}{w:World}(hd:okR (.region id all draw)=true)(h:RegWp P all draw (fun e1 a1 w1=>e1 = .normal/\Q .normal a1 w1) a w) :
  (Code.region id all draw).wpIn (FR l) 0 P Q a w:=by
 have hQ:¬ LetsOut (fun e1 a1 w1=>e1=Exit.normal/\Q .normal a1 w1):=fun⟨_,_,h,_⟩=>by cases h
 have hdd:∀ o,o∈all.toList->∀ c,o.op ≠ .defer c:=by
  intro o ho c e
  have:=(List.all_eq_true.1 (show(all.toList.all fun o=>match o.op with
   | .defer _=>false
   | _=>true)=true from hd)) o ho
  rw[e] at this
  cases this
 have hm:∀ (e:Exit) (a:Act) (w:World),(fun e1 a1 w1=>e1=Exit.normal/\Q .normal a1 w1) e a w->Q e a w:=fun e a w ⟨h1,h2⟩=>h1 ▸ h2
 cases draw with
 | false=>exact wpIn_mono (wpIn_region (qgr hQ hdd _ a w h)) hm
 | true=>exact wpIn_mono (wpIn_region_draw fun t=>qgr hQ hdd _ a _ (h t)) hm
section
variable {R:Type}{A:Alg R}{holds:R->Prop}{P:Program}(fine:A.Fine P holds){T:Nat->Option VF}(hT:∀ f vf,T f=some vf->FnOK P f vf)
include fine hT
theorem qho(l:Nat):∀ (n:Nat) (c:Code),okR c=true->∀ n0 fr H lg (k:Ex->Fr->Hl->List Nat->R),n0<=H.length->holds (vm A ops0 T n n0 (qaf P c) fr H lg k) ->
  ∃ ex fr' H' lg',Goes (c.wpIn (FR l) 0 P) n0 fr H lg (qdt ex) fr' H' lg'/\holds (k ex fr' H' lg')
 | 0,c,_,n0,fr,H,lg,k,_,h=>(fine.fail h).elim
 | n+1,c,hc,n0,fr,H,lg,k,hn0,h=>by
  have ihS:=qho l n
  have hcf:qf7 P holds (fun f vals H k=>match T f with
    | none=>A.call f vals H k
    | some vf=>vm A ops0 T n (size H) vf.body (join vals (pad (vf.ntmps - size vals))) H [] fun ex fr H' lg=>match ex with
     | .exit _=>A.fail
     | _=>results A ops0 vf.results fr H' fun vs=>k (pack vs) H' lg):=by
   intro f vals H k h
   simp only at h
   split at h
   ·exact fine.call f vals H k h
   ·rename_i vf hvf
    exact qfr fine (hT f vf hvf) (qdy fine hT n).1 h
  cases c with
  | skip=>exact⟨.norm,fr,H,lg,⟨hn0,fun b hb=>hb,fun b _ _=>rfl,fun ρ w a Q h1 h2 hQ=>wpIn_skip (hQ a w ρ h1 h2 rfl (Ext.refl _ _ _))⟩,h⟩
  | ret=>exact⟨.ret,fr,H,lg,⟨hn0,fun b hb=>hb,fun b _ _=>rfl,fun ρ w a Q h1 h2 hQ=>wpIn_ret (hQ a w ρ h1 h2 rfl (Ext.refl _ _ _))⟩,h⟩
  | exit id=>exact⟨.exit id,fr,H,lg,⟨hn0,fun b hb=>hb,fun b _ _=>rfl,fun ρ w a Q h1 h2 hQ=>wpIn_exit (hQ a w ρ h1 h2 rfl (Ext.refl _ _ _))⟩,h⟩
  | region id ops draw =>
   obtain⟨fr',H',lg',hg,h⟩:=qjy fine.toGood hcf (all:=ops) (draw:=draw) (n0:=n0) (fr:=fr) (H:=H) (lg:=lg) (k:=fun fr H lg=>k .norm fr H lg) hn0 (fun d bef vs e=>by
    have h:holds (vm A ops0 T (n+1) n0 (regOf P ops draw) fr H lg k):=h
    rw[e] at h
    exact h)
   exact⟨.norm,fr',H',lg',hg.weak fun Q a w hw=>qtc hc hw,h⟩
  | seq x y =>
   have hc:okR x=true/\okR y=true:=by simpa[okR] using hc
   obtain⟨ex,fr',H',lg',hg,h⟩:=ihS x hc.1 n0 fr H lg _ hn0 h
   cases ex with
   | norm =>
    obtain⟨ex2,fr2,H2,lg2,hg2,h⟩:=ihS y hc.2 n0 fr' H' lg' k hg.grow h
    exact⟨ex2,fr2,H2,lg2,hg.trans hg2 fun Q a w hw=>wpIn_seq (wpIn_mono hw (by rintro e a w ⟨rfl,h⟩; exact h)),h⟩
   | ret=>exact⟨.ret,fr',H',lg',hg.weak fun Q a w hw=>wpIn_seq (wpIn_mono hw (by rintro e a w ⟨rfl,h⟩; exact h)),h⟩
   | exit id=>exact⟨.exit id,fr',H',lg',hg.weak fun Q a w hw=>wpIn_seq (wpIn_mono hw (by rintro e a w ⟨rfl,h⟩; exact h)),h⟩
  | cond c x y =>
   have hc2:okR x=true/\okR y=true:=by simpa[okR] using hc
   simp only[qaf] at h
   cases hc:argOf c with
   | none=>rw[hc] at h;exact(fine.fail h).elim
   | some z =>
    rw[hc] at h
    have h:holds (match ev fr z with
     | .bool true=>vm A ops0 T n n0 (qaf P x) fr H lg k
     | .bool false=>vm A ops0 T n n0 (qaf P y) fr H lg k
     | _=>A.fail):=h
    split at h
    ·rename_i hev
     obtain⟨ex,fr',H',lg',hg,h⟩:=ihS x hc2.1 n0 fr H lg k hn0 h
     refine⟨ex,fr',H',lg',⟨hg.grow,hg.sub,hg.keep,fun ρ w a Q h1 h2 hQ => ?_⟩,h⟩
     have:=qje h2 hc
     rw[hev] at this
     exact wpIn_cond_true (qca this) (hg.does ρ w a Q h1 h2 hQ)
    ·rename_i hev
     obtain⟨ex,fr',H',lg',hg,h⟩:=ihS y hc2.2 n0 fr H lg k hn0 h
     refine⟨ex,fr',H',lg',⟨hg.grow,hg.sub,hg.keep,fun ρ w a Q h1 h2 hQ => ?_⟩,h⟩
     have:=qje h2 hc
     rw[hev] at this
     exact wpIn_cond_false (qca this) (hg.does ρ w a Q h1 h2 hQ)
    ·exact(fine.fail h).elim
  | block id x =>
   replace h:=ihS x hc n0 fr H lg _ hn0 h
   obtain⟨ex,fr',H',lg',hg,h⟩:=h
   cases ex with
   | norm=>exact⟨.norm,fr',H',lg',hg.weak fun Q a w hw=>wpIn_block (wpIn_mono hw (by rintro e a w ⟨rfl,h⟩; exact h)),h⟩
   | ret=>exact⟨.ret,fr',H',lg',hg.weak fun Q a w hw=>wpIn_block (wpIn_mono hw (by rintro e a w ⟨rfl,h⟩; exact h)),h⟩
   | exit j =>
    simp only at h
    split at h
    ·rename_i hj
     have hj:=Nat.eq_of_beq_eq_true hj
     subst hj
     exact⟨.norm,fr',H',lg',hg.weak fun Q a w hw=>wpIn_block (wpIn_mono hw (by rintro e a w ⟨rfl,h⟩; simpa[qdt,Exit.inBlock] using h)),h⟩
    ·rename_i hj
     have hj:j≠id:=by intro e;subst e;simp[Nat.beq_refl] at hj
     exact⟨.exit j,fr',H',lg',hg.weak fun Q a w hw=>wpIn_block (wpIn_mono hw (by rintro e a w ⟨rfl,h⟩; simpa[qdt,Exit.inBlock,hj] using h)),h⟩
  | _=>cases hc
omit fine hT in
def SeqWp(P:Program):List Code->(Exit->Act->World->Prop)->Act->World->Prop
 | [],Q,a,w=>Q .normal a w
 | c::cs,Q,a,w=>c.wp P (fun e a w=>e = .normal/\SeqWp P cs Q a w) a w
def vcSeq(P:Program):List Code->VC
 | [] => .skip
 | c::cs => .seq (qaf P c) (vcSeq P cs)
theorem qnd:∀ (cs:List Code) (n n0:Nat) (fr:Fr) (H:Hl) (lg:List Nat) (k:Fr->Hl->R),n0<=H.length ->
  holds (vm A ops0 T n n0 (vcSeq P cs) fr H lg fun ex fr H _=>match ex with
   | .norm=>k fr H
   | _=>A.fail)->∃ fr' H' lg',Goes (SeqWp P cs) n0 fr H lg .normal fr' H' lg'/\holds (k fr' H')
 | _,0,n0,fr,H,lg,k,_,h=>(fine.fail h).elim
 | [],n+1,n0,fr,H,lg,k,hn0,h=>⟨fr,H,lg,⟨hn0,fun b hb=>hb,fun b _ _=>rfl,fun ρ w a Q h1 h2 hQ=>hQ a w ρ h1 h2 rfl (Ext.refl _ _ _)⟩,h⟩
 | c::cs,n+1,n0,fr,H,lg,k,hn0,h=>by
  obtain⟨ex,fr',H',lg',hg,h⟩:=(qdy fine hT n).1 c n0 fr H lg _ hn0 h
  cases ex with
  | norm =>
   obtain⟨fr2,H2,lg2,hg2,h⟩:=qnd cs n n0 fr' H' lg' k hg.grow h
   exact⟨fr2,H2,lg2,hg.trans hg2 fun Q a w hw=>hw,h⟩
  | ret=>exact(fine.fail h).elim
  | exit id=>exact(fine.fail h).elim
end
theorem VRel.monoN{n:Nat}{ρ ρ':Rho}{w w':World}(e:Ext n ρ w ρ' w'){a:AV}{v:Value}(h:VRel ρ w a v)(hn:nm n a=true):VRel ρ' w' a v:=by
 induction h with
 | top v=>exact .top v
 | bool b=>exact .bool b
 | int k n=>exact .int k n
 | flt k n=>exact .flt k n
 | str s=>exact .str s
 | nilp=>exact .nilp
 | ptr b o v h0 h1 hs h =>
  have hb:b<n:=(qcb _ _).1 (by simpa only[nm] using hn)
  refine .ptr b o v ?_ ?_ hs ?_
  ·rcases e.slot b hb h0 with s|s<;>rw[s]
   ·exact h0
   ·simp
  ·rcases e.slot b hb h0 with s|s<;>rw[s]
   ·exact h1
   ·simp
  ·intro B F hl
   rcases e.slot b hb h0 with s|s
   ·exact h B F (s ▸ hl)
   ·rw[s] at hl;cases hl
 | nils=>exact .nils
 | slc b o len cap sz v h0 hs hv h =>
  have hb:b<n:=(qcb _ _).1 (by simpa only[nm] using hn)
  refine .slc b o len cap sz v ?_ hs ?_ ?_
  ·rcases e.slot b hb h0 with s|s<;>rw[s]
   ·exact h0
   ·simp
  ·intro hl
   rcases e.slot b hb h0 with s|s
   ·exact hv (s ▸ hl)
   ·rw[s] at hl;cases hl
  ·intro B F hl
   rcases e.slot b hb h0 with s|s
   ·obtain⟨ao,cap',h1,h2,h3,h4,h5⟩:=h B F (s ▸ hl)
    refine⟨ao,cap',h1,h2,h3,h4,?_⟩
    by_cases hB:B<w.heap.size
    ·rw[e.rows B hB]; exact h5
    ·rw[qjo (w:=w) (by omega)] at h5;omega
   ·rw[s] at hl;cases hl
 | ros cells off len cap exact B F ao cap' vs hlt hp hl ho hc hr hcap hlen he ha ih =>
  have hn:nmL n cells=true:=by simpa only[nm] using hn
  refine .ros cells off len cap exact B F ao cap' vs (fun hn=>Nat.lt_of_lt_of_le (hlt hn) e.size) (fun hn=>e.unowned (hlt hn) (hp hn)) hl ho ?_ (fun i a v ha hv=>ih i a v ha hv (qc6 hn ha)) hcap hlen he ha
  intro i v hv
  have hn:cells ≠ []:=by
   intro h;subst h;simp at hl;subst hl;simp at hv
  rw[qed (e.keep B (hlt hn) (hp hn))]
  exact hc i v hv
 | rop cells off B F vs hlt hp hl ho hc hr ih =>
  have hn:nmL n cells=true:=by simpa only[nm] using hn
  refine .rop cells off B F vs (fun hn=>Nat.lt_of_lt_of_le (hlt hn) e.size) (fun hn=>e.unowned (hlt hn) (hp hn)) hl ho ?_ (fun i a v ha hv=>ih i a v ha hv (qc6 hn ha))
  intro i v hv
  have hn:cells ≠ []:=by
   intro h;subst h;simp at hl;subst hl;simp at hv
  rw[qed (e.keep B (hlt hn) (hp hn))]
  exact hc i v hv
 | agg cs vs hl ho hr ih =>
  have hn:nmL n cs=true:=by simpa only[nm] using hn
  exact .agg cs vs hl ho (fun i a v ha hv=>ih i a v ha hv (qc6 hn ha))
 | tup cs vs hl hr ih =>
  have hn:nmL n cs=true:=by simpa only[nm] using hn
  exact .tup cs vs hl (fun i a v ha hv=>ih i a v ha hv (qc6 hn ha))
 | fn f xs ys us vs hl hl' hr hr' ih ih' =>
  have hn:nmL n xs=true/\nmL n ys=true:=by
   simp only[nm] at hn
   split at hn
   ·rename_i h1;exact⟨h1,hn⟩
   ·cases hn
  exact .fn f xs ys us vs hl hl' (fun i a v ha hv=>ih i a v ha hv (qc6 hn.1 ha)) (fun i a v ha hv=>ih' i a v ha hv (qc6 hn.2 ha))
 | nilf=>exact .nilf
 | ifc t a v h ih=>exact .ifc t a v (ih (by simpa only[nm] using hn))
 | nili=>exact .nili
theorem VRels.monoN{n:Nat}{ρ ρ':Rho}{w w':World}(e:Ext n ρ w ρ' w'){az:List AV}{vs:List Value}(h:VRels ρ w az vs)(hn:nmL n az=true):VRels ρ' w' az vs :=
 ⟨h.len,fun i a v ha hv=>(h.at_ i a v ha hv).monoN e (qc6 hn ha)⟩
theorem VRel.obj{ρ:Rho}{w w':World}(size:w'.heap.size=w.heap.size)(cell:∀ (B o:Nat) (v:Value),w.cell? ⟨B,o,none⟩=some v->w'.cell? ⟨B,o,none⟩=some v)(rw_:∀ B,rows w' B=rows w B){a:AV}{v:Value}(h:VRel ρ w a v):VRel ρ w' a v:=by
 induction h with
 | slc b o len cap sz v h0 hs hv h =>
  refine .slc b o len cap sz v h0 hs hv fun B F hl => ?_
  obtain⟨ao,cap',h1,h2,h3,h4,h5⟩:=h B F hl
  exact⟨ao,cap',h1,h2,h3,h4,by rw[rw_]; exact h5⟩
 | ros cells off len cap exact B F ao cap' vs hlt hp hl ho hc hr hcap hlen he ha ih =>
  exact .ros cells off len cap exact B F ao cap' vs (by rw[size]; exact hlt) hp hl ho (fun i v hv=>cell _ _ _ (hc i v hv)) ih hcap hlen he ha
 | rop cells off B F vs hlt hp hl ho hc hr ih =>
  exact .rop cells off B F vs (by rw[size]; exact hlt) hp hl ho (fun i v hv=>cell _ _ _ (hc i v hv)) ih
 | top v=>exact .top v
 | bool b=>exact .bool b
 | int k n=>exact .int k n
 | flt k n=>exact .flt k n
 | str s=>exact .str s
 | nilp=>exact .nilp
 | ptr b o v h0 h1 hs h=>exact .ptr b o v h0 h1 hs h
 | nils=>exact .nils
 | agg cs vs hl ho hr ih=>exact .agg cs vs hl ho ih
 | tup cs vs hl hr ih=>exact .tup cs vs hl ih
 | fn f xs ys us vs hl hl' hr hr' ih ih'=>exact .fn f xs ys us vs hl hl' ih ih'
 | nilf=>exact .nilf
 | ifc t a v h ih=>exact .ifc t a v ih
 | nili=>exact .nili
def noRow:Obj->Bool
 | .loop _ | .deferred _=>true
 | _=>false
theorem qv4{w:World}{l:Nat}{o o':Obj}(h:w.heap[l]? = some o)(ho:noRow o=true)(B x:Nat)(v:Value)(hc:w.cell? ⟨B,x,none⟩=some v):(w.putObj l o').cell? ⟨B,x,none⟩=some v:=by
 by_cases hB:B=l
 ·subst hB
  simp only[World.cell?,h] at hc
  cases o<;>cases ho<;>cases hc
 ·have e:(w.putObj l o').heap[B]? = w.heap[B]? := World.putObj_heap_other hB
  rw[qed e]
  exact hc
section
variable {w:World}{l:Nat}{o o':Obj}(h:w.heap[l]? = some o)(ho:noRow o=true)(ho':noRow o'=true)
include h ho ho'
theorem qo4(B:Nat):rows (w.putObj l o') B=rows w B:=by
 by_cases hB:B=l
 ·subst hB
  have hlt:B<w.heap.size:=(Array.getElem?_eq_some_iff.1 h).1
  simp only[rows,h,World.putObj_heap_same hlt]
  cases o<;>cases ho<;>cases o'<;>cases ho'<;>rfl
 ·simp only[rows,World.putObj_heap_other hB]
theorem qok{ρ:Rho}{a:AV}{v:Value}(hv:VRel ρ w a v):VRel ρ (w.putObj l o') a v:=hv.obj World.putObj_size (qv4 h ho) (qo4 h ho ho')
theorem qpr{ρ:Rho}{g:Hp}(hg:HRel ρ w g):HRel ρ (w.putObj l o') g where
 unborn:=hg.unborn
 dead:=hg.dead
 inj:=hg.inj
 live b cs hb:=by
  rcases hg.live b cs hb with h'|⟨B,F,c,e,lo,hi,h1,h2,h3,h4,h5⟩
  ·exact .inl h'
  ·have hB:B≠l:=by
    intro e';subst e';rw[h] at h2;cases h2;cases ho
   exact .inr ⟨B,F,c,e,lo,hi,h1,(World.putObj_heap_other hB).trans h2,h3,h4,fun i a ha=>let ⟨v,q1,q2,q3⟩:=h5 i a ha;⟨v,q1,q2,qok h ho ho' q3⟩⟩
 marks b B F c e lo hi hl hh:=by
  by_cases hB:B=l
  ·subst hB
   have hlt:B<w.heap.size:=(Array.getElem?_eq_some_iff.1 h).1
   rw[World.putObj_heap_same hlt] at hh
   cases hh;cases ho'
  ·rw[World.putObj_heap_other hB] at hh
   exact hg.marks b B F c e lo hi hl hh
theorem qu0{n:Nat}{ρ0 ρ:Rho}{w0:World}(hl:w0.heap.size<=l)(E:Ext n ρ0 w0 ρ w):Ext n ρ0 w0 ρ (w.putObj l o') where
 size:=by rw[World.putObj_size]; exact E.size
 os:=E.os
 tape:=E.tape
 output:=E.output
 keep B hB hu:=(World.putObj_heap_other (by omega)).trans (E.keep B hB hu)
 slot:=E.slot
 fresh:=E.fresh
 rows B hB:=(qo4 h ho ho' B).trans (E.rows B hB)
end
theorem qjn{ρ:Rho}{w:World}{g:Hp}{o:Obj}(ho:noRow o=true)(hg:HRel ρ w g):HRel ρ (w.alloc o) g/\(∀ n,Ext n ρ w ρ (w.alloc o))/\∀ {a:AV} {v:Value},VRel ρ w a v->VRel ρ (w.alloc o) a v:=by
 have old:∀ B,B<w.heap.size->(w.alloc o).heap[B]? = w.heap[B]? := fun B hB=>by simp only[World.alloc,Array.getElem?_push]; rw[if_neg (by omega)]
 have E:∀ n,Ext n ρ w ρ (w.alloc o):=fun n=>⟨by rw[World.size_alloc]; omega,rfl,rfl,rfl,fun B hB _=>old B hB,fun _ _ _ => .inl rfl,fun b B F h => .inr ⟨b,F,h⟩,fun B hB=>by simp only[rows,old B hB]⟩
 have hb:∀ {a:AV} {v:Value},VRel ρ w a v->VRel ρ (w.alloc o) a v:=fun hv=>qcf E hv
 exact⟨⟨hg.unborn,hg.dead,hg.inj,fun b cs hb'=>by
  rcases hg.live b cs hb' with h'|⟨B,F,c,e,lo,hi,h1,h2,h3,h4,h5⟩
  ·exact .inl h'
  ·exact .inr ⟨B,F,c,e,lo,hi,h1,(old B (hg.lt h1)).trans h2,h3,h4,fun i a ha=>let ⟨v,q1,q2,q3⟩:=h5 i a ha;⟨v,q1,q2,hb q3⟩⟩,
  fun b B F c e lo hi hl hh=>hg.marks b B F c e lo hi hl (by rw[old B (hg.lt hl)] at hh;exact hh)⟩,E,hb⟩
end
end Go.Vm

namespace Go.Vm
set_option maxRecDepth 100000
noncomputable section
theorem que{P:Program}{o:Oper}{a:Act}{next:Act->World->Prop}{Q:Exit->Act->World->Prop}{r:Result Next}(h:o.upon P a next Q r):o.uponIn Fence.wide 0 P a next Q r:=by
 have hd:Fence.wide.depth.isSome=true->1<=0:=fun h=>by cases h
 unfold Oper.upon at h
 split at h
 ·exact h
 ·exact h
 ·exact h
 ·exact⟨hd,callsIn_wide.2 h⟩
 ·exact⟨hd,ql9 (fenced_wide P) h⟩
 ·exact h
 ·exact h.elim
section
variable {P:Program}{all:Array Oper}{Q:Exit->Act->World->Prop}{i:Nat}{rest:List Nat}{o:Oper}{a:Act}{w:World}
theorem qot(ho:all[i]? = some o)(hg:o.guard=none)(h:o.uponIn Fence.wide 0 P a (wpOpsIn Fence.wide 0 P all Q rest) Q ((execOp a.eval o).run P w)):wpOpsIn Fence.wide 0 P all Q (i::rest) a w:=by
 simp only[wpOpsIn,ho]
 have hw:Region.wanted o (yielded all a.tmps)=true:=by unfold Region.wanted;rw[hg]
 rw[if_pos hw]
 exact⟨fun _ _=>trivial,h⟩
theorem qga{x:Operand}{d:Nat}(ho:all[i]? = some o)(hg:o.guard=none)(hd:o.dst=some d)(hm:o.op = .move x∨o.op = .assign x)(h:wpOpsIn Fence.wide 0 P all Q rest (a.put (some d) (a.eval x)) w) :
  wpOpsIn Fence.wide 0 P all Q (i::rest) a w:=by
 refine qot ho hg ?_
 have e:(execOp a.eval o).run P w = .ok (.value (a.eval x)) w:=by
  rcases hm with hm|hm<;>simp[execOp,hm]
 rw[e,Oper.uponIn_value,hd]
 exact h
def qhc:CallF Prop:=fun _ _ _ _=>False
theorem qrw(P:Program):qf7 P (fun p=>p) qhc:=fun _ _ _ _ h=>h.elim
theorem qd1{vo:VOp}{xs:List Operand}{avs:List AV}{H:Hl}{r:AV}{ρ:Rho}{d:Nat}(ho:all[i]? = some o)(hg:o.guard=none)(hd:o.dst=some d)(hc:copOf P o.op=some (vo,xs))(hn:qf8 vo=false)
  (h:ex (vcA kdNo noCn noLn) ops0 qhc H vo avs fun r' H' t _=>r'=r/\H'=H/\t = []) (hH:HRel ρ w (fun b=>H[b]?)) (hx:VRels ρ w avs (xs.map a.eval))
  (k:∀ v w' ρ',HRel ρ' w' (fun b=>H[b]?)->VRel ρ' w' r v->(∀ n,Ext n ρ w ρ' w')->wpOpsIn Fence.wide 0 P all Q rest (a.put (some d) v) w'):wpOpsIn Fence.wide 0 P all Q (i::rest) a w:=by
 have good:(vcA kdNo noCn noLn).Good (fun p=>p):=(qct (qa3 P) (qai P)).toGood
 obtain⟨r',H',t,f,⟨rfl,rfl,rfl⟩,hs,_⟩:=qqq good (qrw P) (holds:=fun p=>p) hc h
 have hdo:=hs.does ρ w a (fun b=>H'[b]?) hx (fun _ _=>rfl) (fun _ _=>rfl) (fun b hb _=>List.getElem?_eq_none hb) hH
 refine qot ho hg ?_
 have:=hdo (wpOpsIn Fence.wide 0 P all Q rest) Q (fun v w' ⟨ρ',h1,h2,h3⟩=>by
  rw[hd]
  refine k v w' ρ' ?_ h2 h3
  have e:upd (fun b=>H'[b]?) H' ([]++news H'.length H'.length)=fun b=>H'[b]? := by rw[List.nil_append,qfs,qk1]
  rw[e] at h1
  exact h1)
 exact que this
theorem qwu{f x y:Operand}{ts:Array TypeId}{d l:Nat}{rec:Loop}{S:World->Prop}(ho:all[i]? = some o)(hg:o.guard=none)(hd:o.dst=some d)(hop:o.op = .call { callee := .value f,args := #[x,y],argTypes:=ts })
  (hf:a.eval f = .func (.yield l) #[] #[]) (hl:w.heap[l]? = some (.loop rec)) (hs:rec.params.size=2)
  (hr:RoundIn Fence.wide 0 P l rec.fn ((rec.params.zip #[a.eval x,a.eval y]).foldl (fun t (p,v)=>t.setIfInBounds p v) rec.tmps) rec.assign rec.body w fun e w'=>e = .returned (.bool true)/\S w')
  (k:∀ w',S w'->wpOpsIn Fence.wide 0 P all Q rest (a.put (some d) (.bool true)) w'):wpOpsIn Fence.wide 0 P all Q (i::rest) a w:=by
 refine qot ho hg ?_
 have hy:=run_yield (P:=P) (args := #[a.eval x,a.eval y]) hl (by rw[hs]; rfl)
 have e:(execOp a.eval o).run P w = .ok (.round l rec.fn ((rec.params.zip #[a.eval x,a.eval y]).foldl (fun t (p,v)=>t.setIfInBounds p v) rec.tmps) rec.assign rec.body) w:=by
  rw[<-hy]
  simp only[execOp,hop,resolve,hf]
  simp[go_sem,invoke]
 rw[e,Oper.uponIn_round]
 refine⟨(fun h=>by cases h),hr.mono ?_⟩
 rintro e' w' ⟨rfl,h⟩
 rw[hd]
 exact k w' h
end
theorem qa4{a:Act}{d:Nat}{v:Value}(h:d<a.tmps.size):(a.put (some d) v).eval (.tmp d)=v:=by
 simp[Act.put,Act.eval,h]
theorem qae{a:Act}{d k:Nat}{v:Value}(h:k≠d):(a.put (some d) v).eval (.tmp k)=a.eval (.tmp k):=by
 simp[Act.put,Act.eval,Ne.symm h]
theorem qav{a:Act}{d:Nat}{v:Value}:(a.put (some d) v).tmps.size=a.tmps.size:=by simp[Act.put]
structure St(n0:Nat)(ρ0:Rho)(w0:World)(l:Nat)(rec:Loop)(H:Hl)(ρ:Rho)(W:World):Prop where
 mem:HRel ρ W (fun b=>H[b]?)
 ext:Ext n0 ρ0 w0 ρ W
 rec_:W.heap[l]? = some (.loop rec)
 def_:W.heap[rec.defers]? = some (.deferred (some []))
theorem HRel.noLoop{ρ:Rho}{w:World}{g:Hp}(h:HRel ρ w g)(hb:∀ b F B,ρ b = .live B F->∃ k,g b=some k){l:Nat}{o:Obj}(hl:w.heap[l]? = some o)(ho:noRow o=true):∀ b F,ρ b ≠ .live l F:=by
 intro b F hr
 obtain⟨k,hk⟩:=hb b F l hr
 cases k with
 | dead=>rw[h.dead b hk] at hr;cases hr
 | cells cs =>
  rcases h.live b cs hk with ⟨hv,_⟩|⟨B,F',c,e,lo,hi,h1,h2,_⟩
  ·rw[hv] at hr;cases hr
  ·rw[h1] at hr
   cases hr
   rw[hl] at h2
   cases h2
   cases ho
theorem HRel.bound{ρ:Rho}{w:World}{H:Hl}(h:HRel ρ w (fun b=>H[b]?)):∀ b F B,ρ b = .live B F->∃ k,(fun b=>H[b]?) b=some k:=by
 intro b F B hr
 rcases Nat.lt_or_ge b H.length with hb|hb
 ·exact⟨H[b],List.getElem?_eq_getElem hb⟩
 ·have:=h.unborn b (List.getElem?_eq_none hb)
  rw[this] at hr;cases hr
theorem St.step{n0:Nat}{ρ0 ρ ρ':Rho}{w0 W W':World}{l:Nat}{rec:Loop}{H H':Hl}(h:St n0 ρ0 w0 l rec H ρ W)(h1:HRel ρ' W' (fun b=>H'[b]?))(E:Ext n0 ρ W ρ' W'):St n0 ρ0 w0 l rec H' ρ' W' where
 mem:=h1
 ext:=h.ext.trans E
 rec_:=(E.keep l (Array.getElem?_eq_some_iff.1 h.rec_).1 (h.mem.noLoop h.mem.bound h.rec_ rfl)).trans h.rec_
 def_:=(E.keep rec.defers (Array.getElem?_eq_some_iff.1 h.def_).1 (h.mem.noLoop h.mem.bound h.def_ rfl)).trans h.def_
theorem St.turn{n0:Nat}{ρ0 ρ:Rho}{w0 W:World}{l:Nat}{rec rec':Loop}{H:Hl}(h:St n0 ρ0 w0 l rec H ρ W)(hl:w0.heap.size<=l)(hd:rec'.defers=rec.defers):St n0 ρ0 w0 l rec' H ρ (W.putObj l (.loop rec')) where
 mem:=qpr h.rec_ rfl rfl h.mem
 ext:=qu0 h.rec_ rfl rfl hl h.ext
 rec_:=World.putObj_heap_same (Array.getElem?_eq_some_iff.1 h.rec_).1
 def_:=by
  have hne:rec'.defers≠l:=by
   intro e
   have h2:=h.def_
   rw[<-hd,e,h.rec_] at h2
   cases h2
  rw[World.putObj_heap_other hne,hd]
  exact h.def_
theorem qwp{P:Program}{n0:Nat}{ρ0 ρ:Rho}{w0 W:World}{l:Nat}{rec:Loop}{tmps:Array Value}{fr fr1 fr2 fr3:Fr}{H H1 H2 H3:Hl}{lg1 lg2:List Nat}(hl:w0.heap.size<=l)(hready:rec.state = .ready)(hpend:rec.pending=none)
  (ha:Goes (rec.assign.wpIn (FR l) 0 P) n0 fr H [] .normal fr1 H1 lg1) (hb:Goes (rec.body.wpIn (FR l) 0 P) n0 fr1 H1 [] .normal fr2 H2 lg2) (hw:Weak n0 fr2 H2 fr3 H3)
  (h:St n0 ρ0 w0 l rec H ρ W) (hf:FRel ρ W fr tmps) :
  RoundIn Fence.wide 0 P l rec.fn tmps rec.assign rec.body W fun e W'=>e = .returned (.bool true)/\∃ ρ',St n0 ρ0 w0 l rec H3 ρ' W':=by
 refine roundIn_of_wpIn (F:=Fence.wide) (n:=0) trivial ?_
 refine ha.does ρ W { tmps:=tmps,defers := [] } _ h.mem hf fun a1 w1 ρ1 g1 f1 _ E1 => ?_
 have h1:=h.step g1 E1
 refine⟨_,run_beginRound h1.rec_ hready,?_⟩
 have h2:=h1.turn (rec' := { rec with state := .busy }) hl rfl
 have f2:FRel ρ1 (w1.putObj l (.loop { rec with state := .busy })) fr1 a1.tmps:=⟨f1.len,fun i x v hx hv=>qok h1.rec_ rfl rfl (f1.at_ i x v hx hv)⟩
 refine hb.does ρ1 _ a1 _ h2.mem f2 fun a2 w2 ρ2 g2 f3 _ E2 => ?_
 have h3:=h2.step g2 E2
 obtain⟨ρ3,g3,E3,_⟩:=hw.does ρ2 w2 g2
 have h4:=h3.step g3 E3
 refine⟨.bool true,_,run_endRound none h4.rec_,rfl,ρ3,?_⟩
 have h5:=h4.turn (rec' := { { rec with state := .busy } with state := .ready,pending:=none }) hl rfl
 have e:({ { rec with state := .busy } with state := .ready,pending:=none }:Loop)=rec:=by
  obtain⟨s,p,f,t,ps,az,bd,df⟩:=rec
  dsimp only at hready hpend
  subst hready;subst hpend
  rfl
 show St n0 ρ0 w0 l rec H3 ρ3 (w2.putObj l (.loop { { rec with state := .busy } with state:=if(none:Option Code).isNone then .ready else .done,pending:=none }))
 rw[e] at h5
 have e2:({ { rec with state := .busy } with state:=if(none:Option Code).isNone then .ready else .done,pending:=none }:Loop)=rec:=by
  obtain⟨s,p,f,t,ps,az,bd,df⟩:=rec
  dsimp only at hready hpend
  subst hready;subst hpend
  rfl
 rw[e2]
 exact h5
end
end Go.Vm

namespace Go.Proofs.Vm
set_option maxRecDepth 100000
open Go.Vm
noncomputable section
noncomputable def lc:Code->Code
 | .seq a _=>a
 | .block _ b=>b
 | .loop b=>b
 | c=>c
noncomputable def rc:Code->Code
 | .seq _ b=>b
 | c=>c
noncomputable def rgO:Code->Array Oper
 | .region _ o _=>o
 | _ => #[]
noncomputable def c105:Code:=Try.f105.body.getD .skip
noncomputable def a105:Array Oper:=rgO (lc c105)
noncomputable def l105:Code:=lc (lc (rc c105))
noncomputable def b105:Array Oper:=rgO (lc (lc l105))
noncomputable def d105:Array Oper:=rgO (lc (lc (lc (rc l105))))
noncomputable def e105:Array Oper:=rgO (rc (rc l105))
theorem qzw:Try.f105.body=some (.seq (.region 0 a105 false) (.block 0 (.loop (.seq (.seq (.region 1 b105 false) (.cond (.tmp 8) .skip (.exit 0))) (.seq (.block 1 (.seq (.region 3 d105 false) (.cond (.tmp 18) .ret .skip))) (.region 2 e105 false)))))):=by kernel_rfl
noncomputable def opA(ops:Array Oper)(i:Nat):Oper:=ops.getD i default
theorem qxc{H:Hl}{b o:Nat}{cs:List AV}{v:AV}{kd:Kd}(hb:H[b]? = some (.cells cs))(hv:cs[o]? = some v):ex (vcA kdNo noCn noLn) ops0 qhc H (.ld1 kd) [.ptr b o] fun r' H' t _=>r'=v/\H'=H/\t = []:=by
 show(match nth H b with
  | some (.cells cs)=>(match nth cs o with
   | some v'=>(v'=v/\H=H/\([]:List Nat) = [])
   | none=>False)
  | _=>False)
 rw[qb5,hb]
 show(match nth cs o with
   | some v'=>(v'=v/\H=H/\([]:List Nat) = [])
   | none=>False)
 rw[qb5,hv]
 exact⟨rfl,rfl,rfl⟩
theorem q4q{H:Hl}{b o n:Nat}{cs:List AV}{v:List AV}(hb:H[b]? = some (.cells cs))(hl:o+n<=cs.length)(hv:(cs.drop o).take n=v):ex (vcA kdNo noCn noLn) ops0 qhc H (.ldn n) [.ptr b o] fun r' H' t _=>r' = .agg v/\H'=H/\t = []:=by
 show(match nth H b with
  | some (.cells cs)=>(match ops0.le (o+n) cs.length with
   | true=>(AV.agg ((cs.drop o).take n) = .agg v/\H=H/\([]:List Nat) = [])
   | false=>False)
  | _=>False)
 rw[qb5,hb]
 show(match ops0.le (o+n) cs.length with
   | true=>(AV.agg ((cs.drop o).take n) = .agg v/\H=H/\([]:List Nat) = [])
   | false=>False)
 rw[nLe,decide_eq_true hl]
 exact⟨by rw[hv],rfl,rfl⟩
theorem q3r{H:Hl}{b o n c sz i:Nat}(hi:i<n):ex (vcA kdNo noCn noLn) ops0 qhc H (.ixS sz) [.slc b o n c sz,.int .i64 (Int.ofNat i)] fun r' H' t _=>r' = .ptr b (o+i*sz)/\H'=H/\t = []:=by
 show(match ops0.inr (Int.ofNat i) n with
  | true=>(AV.ptr b (o+i*sz) = .ptr b (o+i*sz)/\H=H/\([]:List Nat) = [])
  | false=>False)
 rw[nInr,decide_eq_true hi]
 exact⟨rfl,rfl,rfl⟩
theorem q33{H:Hl}{op:BinOp}{x y:Int}{b:Bool}(h:ops0.cmp op x y=b):ex (vcA kdNo noCn noLn) ops0 qhc H (.cmp op) [.int .i64 x,.int .i64 y] fun r' H' t _=>r' = .bool b/\H'=H/\t = []:=by
 show(match ops0.cmp op x y with
  | true=>(AV.bool true = .bool b/\H=H/\([]:List Nat) = [])
  | false=>(AV.bool false = .bool b/\H=H/\([]:List Nat) = []))
 rw[h]
 cases b<;>exact⟨rfl,rfl,rfl⟩
theorem qxm{H:Hl}{op:BinOp}{x y z:Int}(h:ops0.bin op .i64 x y=z):ex (vcA kdNo noCn noLn) ops0 qhc H (.bin op .i64) [.int .i64 x,.int .i64 y] fun r' H' t _=>r' = .int .i64 z/\H'=H/\t = [] :=
 ⟨by rw[h],rfl,rfl⟩
theorem q22{H:Hl}{b o n c sz:Nat}:ex (vcA kdNo noCn noLn) ops0 qhc H .len [.slc b o n c sz] fun r' H' t _=>r' = .int .i64 (Int.ofNat n)/\H'=H/\t = []:=⟨rfl,rfl,rfl⟩
theorem q2j{H:Hl}:ex (vcA kdNo noCn noLn) ops0 qhc H .not [.bool true] fun r' H' t _=>r' = .bool false/\H'=H/\t = []:=⟨rfl,rfl,rfl⟩
theorem vr1{ρ:Rho}{w:World}{x:AV}{v:Value}(h:VRel ρ w x v):VRels ρ w [x] [v] := .cons h .nil
theorem vr2{ρ:Rho}{w:World}{x y:AV}{u v:Value}(h:VRel ρ w x u)(k:VRel ρ w y v):VRels ρ w [x,y] [u,v] := .cons h (.cons k .nil)
structure Back(H:Nat->Hl)(n0 bs bk n:Nat)(kcs:List AV):Prop where
 box:∀ j,j<=n->(H j)[bs]? = some (.cells [.slc bk 0 n n 32])
 keys:∀ j,j<=n->(H j)[bk]? = some (.cells kcs)
 len:n*32<=kcs.length
 bs_lt:bs<n0
 n_lt:n<4294967296
set_option maxRecDepth 100000 in
theorem qy3{H:Nat->Hl}{n0 bs bk n:Nat}{kcs:List AV}(hB:Back H n0 bs bk n kcs){ρ0:Rho}{w0:World}{l:Nat}{rec:Loop}{pv:Value}(hps:rec.params.size=2)
  (hpv:∀ ρ W,Ext n0 ρ0 w0 ρ W->VRel ρ W (.ptr bs 0) pv)
  (hround:∀ j,j<n->∀ ρ W kv,St n0 ρ0 w0 l rec (H j) ρ W->VRel ρ W (.agg ((kcs.drop ((n - 1 - j)*32)).take 32)) kv ->
   RoundIn Fence.wide 0 Try.prog l rec.fn ((rec.params.zip #[.int .i64 (Int.ofNat (n - 1 - j)),kv]).foldl (fun t (p,v)=>t.setIfInBounds p v) rec.tmps) rec.assign rec.body W fun e W'=>e = .returned (.bool true)/\∃ ρ',St n0 ρ0 w0 l rec (H (j+1)) ρ' W')
  {ρ:Rho} {W:World} (h0:St n0 ρ0 w0 l rec (H 0) ρ W) :
  CallsIn Fence.wide 0 Try.prog 105 #[.func (.yield l) #[] #[],pv] W fun e W'=>(∃ v,e = .returned v)/\∃ ρ',St n0 ρ0 w0 l rec (H n) ρ' W':=by
 refine callsIn_of_wp Try.func105 qzw trivial ?_
 let I:Act->World->Prop:=fun a w=>a.tmps.size=19/\a.defers = []/\a.eval (.tmp 0) = .func (.yield l) #[] #[]/\a.eval (.tmp 1)=pv/\∃ j,j<=n/\a.eval (.tmp 3) = .int .i64 ((n:Int) - 1 - j)/\∃ ρ,St n0 ρ0 w0 l rec (H j) ρ w
 let μ:Act->World->Nat:=fun a _=>match a.eval (.tmp 3) with
  | .int _ z=>(z+1).toNat
  | _=>0
 have ra:List.range a105.size = [0,1,2,3]:=by kernel_rfl
 have rb:List.range b105.size = [0,1]:=by kernel_rfl
 have rd:List.range d105.size = [0,1,2,3,4,5,6,7]:=by kernel_rfl
 have re:List.range e105.size = [0,1,2]:=by kernel_rfl
 refine wpIn_seq (wpIn_region ?_)
 rw[ra]
 generalize hact:({ tmps := #[.func (.yield l) #[] #[],pv]++Array.replicate (Try.f105.ntmps - (#[Value.func (.yield l) #[] #[],pv]:Array Value).size) undef,defers := [] }:Act)=a0
 have hnt:Try.f105.ntmps=19:=by kernel_rfl
 have s0:a0.tmps.size=19:=by rw[<-hact,hnt]; simp
 have d0:a0.defers = []:=by rw[<-hact]
 have t0:a0.eval (.tmp 0) = .func (.yield l) #[] #[]:=by rw[<-hact,hnt]; simp[Act.eval]
 have t1:a0.eval (.tmp 1)=pv:=by rw[<-hact,hnt]; simp[Act.eval]
 clear hact
 refine qd1 (o:=opA a105 0) (d:=4) (H:=H 0) (r := .slc bk 0 n n 32) (vo := .ld1 .slc) (xs := [.tmp 1]) (by kernel_rfl) (by kernel_rfl) (by kernel_rfl) (by kernel_rfl) rfl (qxc (hB.box 0 (Nat.zero_le _)) rfl) h0.mem (vr1 (by show VRel ρ W _ (a0.eval (.tmp 1)); rw[t1]; exact hpv ρ W h0.ext)) ?_
 intro v4 W4 ρ4 m4 x4 E4
 have h4:=h0.step m4 (E4 n0)
 refine qd1 (o:=opA a105 1) (d:=5) (H:=H 0) (r := .int .i64 (Int.ofNat n)) (vo := .len) (xs := [.tmp 4]) (by kernel_rfl) (by kernel_rfl) (by kernel_rfl) (by kernel_rfl) rfl q22 h4.mem (vr1 (by show VRel ρ4 W4 _ ((a0.put (some 4) v4).eval (.tmp 4)); rw[qa4 (by omega)]; exact x4)) ?_
 intro v5 W5 ρ5 m5 x5 E5
 have h5:=h4.step m5 (E5 n0)
 have hv5:=qa1 x5
 subst hv5
 refine qd1 (o:=opA a105 2) (d:=6) (H:=H 0) (r := .int .i64 ((n:Int) - 1)) (vo := .bin .sub .i64) (xs := [.tmp 5,.const (.int .i64 1)]) (by kernel_rfl) (by kernel_rfl) (by kernel_rfl) (by kernel_rfl) rfl (qxm (y:=1) (by
   show IntKind.i64.wrap (Int.ofNat n - 1)=_
   have:=hB.n_lt
   exact qcv (by simp only[Int.ofNat_eq_natCast]; omega) (by simp only[Int.ofNat_eq_natCast]; omega))) h5.mem (vr2 (by show VRel ρ5 W5 _ (((a0.put (some 4) v4).put (some 5) _).eval (.tmp 5)); rw[qa4 (by rw[qav]; omega)]; exact .int _ _) (.int _ _)) ?_
 intro v6 W6 ρ6 m6 x6 E6
 have h6:=h5.step m6 (E6 n0)
 have hv6:=qa1 x6
 subst hv6
 refine qga (o:=opA a105 3) (x := .tmp 6) (d:=3) (by kernel_rfl) (by kernel_rfl) (by kernel_rfl) (.inr (by kernel_rfl)) ?_
 generalize ha3:(((a0.put (some 4) v4).put (some 5) (.int .i64 (Int.ofNat n))).put (some 6) (.int .i64 ((n:Int) - 1)))=a3
 have e36:a3.eval (.tmp 6) = .int .i64 ((n:Int) - 1):=by rw[<-ha3]; exact qa4 (by rw[qav,qav]; omega)
 have e30:a3.eval (.tmp 0) = .func (.yield l) #[] #[]:=by rw[<-ha3,qae (by omega),qae (by omega),qae (by omega),t0]
 have e31:a3.eval (.tmp 1)=pv:=by rw[<-ha3,qae (by omega),qae (by omega),qae (by omega),t1]
 have s3:a3.tmps.size=19:=by rw[<-ha3,qav,qav,qav,s0]
 have d3:a3.defers = []:=by rw[<-ha3]; exact d0
 rw[e36]
 show(Code.block 0 _).wpIn _ _ _ _ _ _
 refine wpIn_block (wpIn_loop I μ ⟨by rw[qav]; exact s3,d3,by rw[qae (by omega)]; exact e30,by rw[qae (by omega)]; exact e31,0,Nat.zero_le _,by rw[qa4 (by omega)]; simp,_,h6⟩ ?_)
 rintro a w ⟨sz,df,q0,q1,j,hj,q3,ρj,hst⟩
 refine wpIn_seq (wpIn_seq (wpIn_region ?_))
 rw[rb]
 refine qga (o:=opA b105 0) (x := .tmp 3) (d:=7) (by kernel_rfl) (by kernel_rfl) (by kernel_rfl) (.inl (by kernel_rfl)) ?_
 rw[q3]
 have hcmp:ops0.cmp .geq ((n:Int) - 1 - j) (Int.ofNat 0)=decide (j<n):=by
  rw[nGeq']
  by_cases h:j<n
  ·rw[decide_eq_true h]; exact decide_eq_true (by simp only[Int.ofNat_eq_natCast]; omega)
  ·rw[decide_eq_false h]; exact decide_eq_false (by simp only[Int.ofNat_eq_natCast]; omega)
 refine qd1 (o:=opA b105 1) (d:=8) (H:=H j) (r := .bool (decide (j<n))) (vo := .cmp .geq) (xs := [.tmp 7,.const (.int .i64 0)]) (by kernel_rfl) (by kernel_rfl) (by kernel_rfl) (by kernel_rfl) rfl (q33 (y:=Int.ofNat 0) hcmp) hst.mem (vr2 (by show VRel ρj w _ ((a.put (some 7) _).eval (.tmp 7)); rw[qa4 (by omega)]; exact .int _ _) (.int _ _)) ?_
 intro v8 W8 ρ8 m8 x8 E8
 have h8:=hst.step m8 (E8 n0)
 have hv8:=qca x8
 subst hv8
 show(Code.cond (.tmp 8) .skip (.exit 0)).wpIn _ _ _ _ _ _
 have c8:((a.put (some 7) (.int .i64 ((n:Int) - 1 - j))).put (some 8) (.bool (decide (j<n)))).eval (.tmp 8) = .bool (decide (j<n)):=qa4 (by rw[qav]; omega)
 refine wpIn_cond c8 ?_
 by_cases hjn:j<n
 ·
  rw[decide_eq_true hjn,if_pos rfl]
  refine wpIn_skip ?_
  show(Code.seq _ _).wpIn _ _ _ _ _ _
  generalize hb:((a.put (some 7) (.int .i64 ((n:Int) - 1 - j))).put (some 8) (.bool true))=b0
  have sb:b0.tmps.size=19:=by rw[<-hb,qav,qav,sz]
  have db:b0.defers = []:=by rw[<-hb]; exact df
  have b00:b0.eval (.tmp 0) = .func (.yield l) #[] #[]:=by rw[<-hb,qae (by omega),qae (by omega),q0]
  have b01:b0.eval (.tmp 1)=pv:=by rw[<-hb,qae (by omega),qae (by omega),q1]
  have b03:b0.eval (.tmp 3) = .int .i64 (Int.ofNat (n - 1 - j)):=by
   rw[<-hb,qae (by omega),qae (by omega),q3]
   congr 1
   simp only[Int.ofNat_eq_natCast]
   omega
  clear hb
  refine wpIn_seq (wpIn_block (wpIn_seq (wpIn_region ?_)))
  rw[rd]
  refine qga (o:=opA d105 0) (x := .tmp 0) (d:=11) (by kernel_rfl) (by kernel_rfl) (by kernel_rfl) (.inl (by kernel_rfl)) ?_
  refine qga (o:=opA d105 1) (x := .tmp 3) (d:=12) (by kernel_rfl) (by kernel_rfl) (by kernel_rfl) (.inl (by kernel_rfl)) ?_
  rw[qae (by omega),b00,b03]
  generalize hb:((b0.put (some 11) (.func (.yield l) #[] #[])).put (some 12) (.int .i64 (Int.ofNat (n - 1 - j))))=b1
  have sb1:b1.tmps.size=19:=by rw[<-hb,qav,qav,sb]
  have db1:b1.defers = []:=by rw[<-hb]; exact db
  have b10:b1.eval (.tmp 0) = .func (.yield l) #[] #[]:=by rw[<-hb,qae (by omega),qae (by omega),b00]
  have b11:b1.eval (.tmp 1)=pv:=by rw[<-hb,qae (by omega),qae (by omega),b01]
  have b13:b1.eval (.tmp 3) = .int .i64 (Int.ofNat (n - 1 - j)):=by rw[<-hb,qae (by omega),qae (by omega),b03]
  have bb1:b1.eval (.tmp 11) = .func (.yield l) #[] #[]:=by rw[<-hb,qae (by omega),qa4 (by omega)]
  have bb2:b1.eval (.tmp 12) = .int .i64 (Int.ofNat (n - 1 - j)):=by rw[<-hb,qa4 (by rw[qav]; omega)]
  clear hb
  refine qd1 (o:=opA d105 2) (d:=13) (H:=H j) (r := .slc bk 0 n n 32) (vo := .ld1 .slc) (xs := [.tmp 1]) (by kernel_rfl) (by kernel_rfl) (by kernel_rfl) (by kernel_rfl) rfl (qxc (hB.box j hj) rfl) h8.mem (vr1 (by show VRel ρ8 W8 _ (b1.eval (.tmp 1)); rw[b11]; exact hpv ρ8 W8 h8.ext)) ?_
  intro v13 W13 ρ13 m13 x13 E13
  have h13:=h8.step m13 (E13 n0)
  refine qga (o:=opA d105 3) (x := .tmp 3) (d:=14) (by kernel_rfl) (by kernel_rfl) (by kernel_rfl) (.inl (by kernel_rfl)) ?_
  rw[qae (by omega),b13]
  refine qd1 (o:=opA d105 4) (d:=15) (H:=H j) (r := .ptr bk (0+(n - 1 - j)*32)) (vo := .ixS 32) (xs := [.tmp 13,.tmp 14]) (by kernel_rfl) (by kernel_rfl) (by kernel_rfl) (by kernel_rfl) rfl (q3r (b:=bk) (o:=0) (n:=n) (c:=n) (i:=n - 1 - j) (by omega)) h13.mem (vr2
   (by show VRel ρ13 W13 _ (((b1.put (some 13) v13).put (some 14) _).eval (.tmp 13)); rw[qae (by omega),qa4 (by omega)]; exact x13)
   (by show VRel ρ13 W13 _ (((b1.put (some 13) v13).put (some 14) _).eval (.tmp 14)); rw[qa4 (by rw[qav]; omega)]; exact .int _ _)) ?_
  intro v15 W15 ρ15 m15 x15 E15
  have h15:=h13.step m15 (E15 n0)
  have hlen:=hB.len
  refine qd1 (o:=opA d105 5) (d:=16) (H:=H j) (r := .agg ((kcs.drop ((n - 1 - j)*32)).take 32)) (vo := .ldn 32) (xs := [.tmp 15]) (by kernel_rfl) (by kernel_rfl) (by kernel_rfl) (by kernel_rfl) rfl (q4q (o:=0+(n - 1 - j)*32) (hB.keys j hj) (by omega) (by rw[Nat.zero_add])) h15.mem (vr1
   (by show VRel ρ15 W15 _ ((((b1.put (some 13) v13).put (some 14) _).put (some 15) v15).eval (.tmp 15)); rw[qa4 (by rw[qav,qav]; omega)]; exact x15)) ?_
  intro v16 W16 ρ16 m16 x16 E16
  have h16:=h15.step m16 (E16 n0)
  generalize hb:((((b1.put (some 13) v13).put (some 14) (.int .i64 (Int.ofNat (n - 1 - j)))).put (some 15) v15).put (some 16) v16)=b2
  have sb2:b2.tmps.size=19:=by rw[<-hb,qav,qav,qav,qav,sb1]
  have db2:b2.defers = []:=by rw[<-hb]; exact db1
  have b20:b2.eval (.tmp 0) = .func (.yield l) #[] #[]:=by rw[<-hb,qae (by omega),qae (by omega),qae (by omega),qae (by omega),b10]
  have b21:b2.eval (.tmp 1)=pv:=by rw[<-hb,qae (by omega),qae (by omega),qae (by omega),qae (by omega),b11]
  have b23:b2.eval (.tmp 3) = .int .i64 (Int.ofNat (n - 1 - j)):=by rw[<-hb,qae (by omega),qae (by omega),qae (by omega),qae (by omega),b13]
  have b2b:b2.eval (.tmp 11) = .func (.yield l) #[] #[]:=by rw[<-hb,qae (by omega),qae (by omega),qae (by omega),qae (by omega),bb1]
  have b2c:b2.eval (.tmp 12) = .int .i64 (Int.ofNat (n - 1 - j)):=by rw[<-hb,qae (by omega),qae (by omega),qae (by omega),qae (by omega),bb2]
  have b2d:b2.eval (.tmp 16)=v16:=by rw[<-hb,qa4 (by rw[qav,qav,qav]; omega)]
  clear hb
  refine qwu (o:=opA d105 6) (f := .tmp 11) (x := .tmp 12) (y := .tmp 16) (ts := #[3,23]) (d:=17) (l:=l) (rec:=rec) (S:=fun W'=>∃ ρ',St n0 ρ0 w0 l rec (H (j+1)) ρ' W') (by kernel_rfl) (by kernel_rfl) (by kernel_rfl) (by kernel_rfl) b2b h16.rec_ hps
   (by rw[b2c,b2d]; exact hround j hjn ρ16 W16 v16 h16 x16) ?_
  rintro W17 ⟨ρ17,h17⟩
  refine qd1 (o:=opA d105 7) (d:=18) (H:=H (j+1)) (r := .bool false) (vo := .not) (xs := [.tmp 17]) (by kernel_rfl) (by kernel_rfl) (by kernel_rfl) (by kernel_rfl) rfl q2j h17.mem (vr1 (by show VRel ρ17 W17 _ ((b2.put (some 17) _).eval (.tmp 17)); rw[qa4 (by omega)]; exact .bool _)) ?_
  intro v18 W18 ρ18 m18 x18 E18
  have h18:=h17.step m18 (E18 n0)
  have hv18:=qca x18
  subst hv18
  show(Code.cond (.tmp 18) .ret .skip).wpIn _ _ _ _ _ _
  refine wpIn_cond_false (qa4 (by rw[qav]; omega)) (wpIn_skip ?_)
  show(Code.region 2 e105 false).wpIn _ _ _ _ _ _
  generalize hb:((b2.put (some 17) (.bool true)).put (some 18) (.bool false))=b3
  have sb3:b3.tmps.size=19:=by rw[<-hb,qav,qav,sb2]
  have db3:b3.defers = []:=by rw[<-hb]; exact db2
  have b30:b3.eval (.tmp 0) = .func (.yield l) #[] #[]:=by rw[<-hb,qae (by omega),qae (by omega),b20]
  have b31:b3.eval (.tmp 1)=pv:=by rw[<-hb,qae (by omega),qae (by omega),b21]
  have b33:b3.eval (.tmp 3) = .int .i64 (Int.ofNat (n - 1 - j)):=by rw[<-hb,qae (by omega),qae (by omega),b23]
  clear hb
  refine wpIn_region ?_
  rw[re]
  refine qga (o:=opA e105 0) (x := .tmp 3) (d:=9) (by kernel_rfl) (by kernel_rfl) (by kernel_rfl) (.inl (by kernel_rfl)) ?_
  rw[b33]
  refine qd1 (o:=opA e105 1) (d:=10) (H:=H (j+1)) (r := .int .i64 ((n:Int) - 1 - ((j+1:Nat):Int))) (vo := .bin .sub .i64) (xs := [.tmp 9,.const (.int .i64 1)]) (by kernel_rfl) (by kernel_rfl) (by kernel_rfl) (by kernel_rfl) rfl (qxm (y:=1) (by
    show IntKind.i64.wrap (Int.ofNat (n - 1 - j) - 1)=_
    have:=hB.n_lt
    rw[qcv (by simp only[Int.ofNat_eq_natCast]; omega) (by simp only[Int.ofNat_eq_natCast]; omega)]
    simp only[Int.ofNat_eq_natCast]
    omega)) h18.mem (vr2 (by show VRel ρ18 W18 _ ((b3.put (some 9) _).eval (.tmp 9)); rw[qa4 (by omega)]; exact .int _ _) (.int _ _)) ?_
  intro v10 W10 ρ10 m10 x10 E10
  have h10:=h18.step m10 (E10 n0)
  have hv10:=qa1 x10
  subst hv10
  refine qga (o:=opA e105 2) (x := .tmp 10) (d:=3) (by kernel_rfl) (by kernel_rfl) (by kernel_rfl) (.inr (by kernel_rfl)) ?_
  rw[qa4 (by rw[qav]; omega)]
  refine⟨⟨by rw[qav,qav,qav]; exact sb3,db3,by rw[qae (by omega),qae (by omega),qae (by omega)]; exact b30,by rw[qae (by omega),qae (by omega),qae (by omega)]; exact b31,j+1,hjn,by rw[qa4 (by rw[qav,qav]; omega)],_,h10⟩,?_⟩
  show μ _ W10<μ a w
  have m1:μ a w=n - j:=by
   show(match a.eval (.tmp 3) with
    | .int _ z=>(z+1).toNat
    | _=>0)=_
   rw[q3]
   show(((n:Int) - 1 - j)+1).toNat=_
   omega
  have m2:∀ (x:Act) W,x.eval (.tmp 3) = .int .i64 ((n:Int) - 1 - ((j+1:Nat):Int))->μ x W=n - (j+1):=by
   intro x W h
   show(match x.eval (.tmp 3) with
    | .int _ z=>(z+1).toNat
    | _=>0)=_
   rw[h]
   show(((n:Int) - 1 - ((j+1:Nat):Int))+1).toNat=_
   omega
  rw[m1,m2 _ W10 (qa4 (by rw[qav,qav]; omega))]
  omega
 ·
  rw[decide_eq_false hjn,if_neg (by simp)]
  refine wpIn_exit ?_
  have hjn:j=n:=by omega
  subst hjn
  simp only[Exit.then,Exit.inBlock,if_true]
  have hres:(results Try.f105 (((a.put (some 7) (.int .i64 ((j:Int) - 1 - j))).put (some 8) (.bool false))).tmps).run Try.prog W8 = .ok (.tuple #[]) W8:=by
   have:Try.f105.results = #[]:=by kernel_rfl
   simp[results,this]
  exact⟨df,_,hres,⟨_,rfl⟩,_,h8⟩
end
end Go.Proofs.Vm

namespace Go.Proofs.Vm
set_option maxRecDepth 100000
open Go.Vm
noncomputable section
def as60:VC:=(.seq (.reg .false [] [⟨(.some 17),.none,.mov,[(.t 61)]⟩]) (.reg .false [] [⟨(.some 18),.none,(.alloc [(.int .u8 (.ofNat 0)),(.int .u8 (.ofNat 0)),(.int .u8 (.ofNat 0)),(.int .u8 (.ofNat 0)),(.int .u8 (.ofNat 0)),(.int .u8 (.ofNat 0)),(.int .u8 (.ofNat 0)),(.int .u8 (.ofNat 0)),(.int .u8 (.ofNat 0)),(.int .u8 (.ofNat 0)),(.int .u8 (.ofNat 0)),(.int .u8 (.ofNat 0)),(.int .u8 (.ofNat 0)),(.int .u8 (.ofNat 0)),(.int .u8 (.ofNat 0)),(.int .u8 (.ofNat 0)),(.int .u8 (.ofNat 0)),(.int .u8 (.ofNat 0)),(.int .u8 (.ofNat 0)),(.int .u8 (.ofNat 0)),(.int .u8 (.ofNat 0)),(.int .u8 (.ofNat 0)),(.int .u8 (.ofNat 0)),(.int .u8 (.ofNat 0)),(.int .u8 (.ofNat 0)),(.int .u8 (.ofNat 0)),(.int .u8 (.ofNat 0)),(.int .u8 (.ofNat 0)),(.int .u8 (.ofNat 0)),(.int .u8 (.ofNat 0)),(.int .u8 (.ofNat 0)),(.int .u8 (.ofNat 0))]),[]⟩,⟨.none,.none,(.stn 32),[(.t 18),(.t 62)]⟩]))
def bd60:VC:=(.block 3 (.seq (.reg .true [0,0,0,6,14,0,62,0,128,510,1023,2047] [⟨(.some 63),.none,(.ldn 32),[(.t 18)]⟩,⟨(.some 64),.none,(.ld1 .slc),[(.t 5)]⟩,⟨(.some 65),.none,.mov,[(.t 17)]⟩,⟨(.some 66),.none,(.ixS 101),[(.t 64),(.t 65)]⟩,⟨(.some 67),.none,(.ldn 101),[(.t 66)]⟩,⟨(.some 68),.none,(.ldn 32),[(.t 16)]⟩,⟨(.some 69),.none,(.call 87),[(.t 67),(.t 68)]⟩,⟨(.some 70),.none,(.ld1 .slc),[(.t 15)]⟩,⟨(.some 71),.none,(.slS 1 .false .true .false),[(.t 70),(.c (.int .i64 (.ofNat 1792)))]⟩,⟨(.some 72),.none,(.app 1 1),[(.t 69),(.t 71)]⟩,⟨(.some 73),.none,(.call 86),[(.t 63),(.t 72)]⟩,⟨.none,.none,.st1,[(.t 15),(.t 73)]⟩]) (.seq (.seq (.reg .false [] [⟨(.some 74),.none,.mov,[(.t 17)]⟩,⟨(.some 75),.none,(.ld1 (.int .i64)),[(.t 10)]⟩,⟨(.some 76),.none,(.cmp .eql),[(.t 74),(.t 75)]⟩]) (.cond (.t 76) (.reg .true [0,0,2,6,15,0,63] [⟨(.some 77),.none,(.ld1 .slc),[(.t 15)]⟩,⟨(.some 78),.none,(.ld1 .slc),[(.t 14)]⟩,⟨(.some 79),.none,.len,[(.t 78)]⟩,⟨(.some 80),.none,(.bin .sub .i64),[(.c (.int .i64 (.ofNat 2048))),(.t 79)]⟩,⟨(.some 81),.none,(.slS 1 .true .false .false),[(.t 77),(.t 80)]⟩,⟨(.some 82),.none,(.ld1 .slc),[(.t 14)]⟩,⟨(.some 83),.none,(.cpy 1),[(.t 81),(.t 82)]⟩]) .skip)) (.reg .false [] [⟨(.some 84),.none,(.ldn 32),[(.t 18)]⟩,⟨(.some 85),.none,(.ld1 .slc),[(.t 15)]⟩,⟨(.some 86),.none,(.ldn 32),[(.t 7)]⟩,⟨(.some 87),.none,(.call 88),[(.t 84),(.t 85),(.t 86)]⟩,⟨.none,.none,(.stn 32),[(.t 16),(.t 87)]⟩]))))
def H60(hc:List AV)(n c:Nat)(e:Bool)(ns hs:List AV)(m:Int)(kcs:List AV)(xe:AV)(nx bd:List AV):Hl :=
 [.cells [.ros hc 0 n c e],.cells ns,.cells hs,.cells [.int .i64 m],.cells kcs,.cells [xe],.cells [.slc 9 0 2048 2048 1],.cells nx,.cells [.slc 4 0 n n 32],.cells bd]
def fr60(i:Int)(ks:List AV):Fr := [.top,.top,.top,.top,.top,.ptr 0 0,.ptr 1 0,.ptr 2 0,.top,.top,.ptr 3 0,.top,.top,.top,.ptr 5 0,.ptr 6 0,.ptr 7 0,.top,.top,.top,.top,.top,.top,.top,.top,.top,.top,.top,.top,.top,.top,.top,.top,.top,.top,.top,.top,.top,.top,.top,.top,.top,.top,.top,.top,.top,.top,.top,.top,.top,.top,.top,.top,.top,.top,.top,.top,.top,.top,.top,.top,.int .i64 i,.agg ks,.top,.top,.top,.top,.top,.top,.top,.top,.top,.top,.top,.top,.top,.top,.top,.top,.top,.top,.top,.top,.top,.top,.top,.top,.top,.top,.top,.top,.top]
def fr60b(i:Int)(ks:List AV):Fr := [.top,.top,.top,.top,.top,.ptr 0 0,.ptr 1 0,.ptr 2 0,.top,.top,.ptr 3 0,.top,.top,.top,.ptr 5 0,.ptr 6 0,.ptr 7 0,.int .i64 i,.ptr 10 0,.top,.top,.top,.top,.top,.top,.top,.top,.top,.top,.top,.top,.top,.top,.top,.top,.top,.top,.top,.top,.top,.top,.top,.top,.top,.top,.top,.top,.top,.top,.top,.top,.top,.top,.top,.top,.top,.top,.top,.top,.top,.top,.int .i64 i,.agg ks,.top,.top,.top,.top,.top,.top,.top,.top,.top,.top,.top,.top,.top,.top,.top,.top,.top,.top,.top,.top,.top,.top,.top,.top,.top,.top,.top,.top,.top]
theorem vra60(Z:OZ)(O:OY)(F:HF)(H0:Blk)(H1 H2 H3 H4 H5 H6 H7 H8 H9:Blk)(i:Int)(ks:List AV)(Q:Ex->Fr->Hl->Prop) :
  (vm (vcA kdS (cnO2 Z O F) noLn) ops0 tabF 100 9 as60 (fr60 i ks) [H0,H1,H2,H3,H4,H5,H6,H7,H8,H9] [] (fun ex fr H _=>Q ex fr H)) =
 ((Chk (ops0.eq (ops0.len ks) 32)
 (Q Ex.norm [AV.top,AV.top,AV.top,AV.top,AV.top,(AV.ptr 0 0),(AV.ptr 1 0),(AV.ptr 2 0),AV.top,AV.top,(AV.ptr 3 0),AV.top,AV.top,AV.top,(AV.ptr 5 0),(AV.ptr 6 0),(AV.ptr 7 0),(AV.int IntKind.i64 i),(AV.ptr 10 0),AV.top,AV.top,AV.top,AV.top,AV.top,AV.top,AV.top,AV.top,AV.top,AV.top,AV.top,AV.top,AV.top,AV.top,AV.top,AV.top,AV.top,AV.top,AV.top,AV.top,AV.top,AV.top,AV.top,AV.top,AV.top,AV.top,AV.top,AV.top,AV.top,AV.top,AV.top,AV.top,AV.top,AV.top,AV.top,AV.top,AV.top,AV.top,AV.top,AV.top,AV.top,AV.top,(AV.int IntKind.i64 i),(AV.agg ks),AV.top,AV.top,AV.top,AV.top,AV.top,AV.top,AV.top,AV.top,AV.top,AV.top,AV.top,AV.top,AV.top,AV.top,AV.top,AV.top,AV.top,AV.top,AV.top,AV.top,AV.top,AV.top,AV.top,AV.top,AV.top,AV.top,AV.top,AV.top,AV.top] [H0,H1,H2,H3,H4,H5,H6,H7,H8,H9,(Blk.cells (ops0.spl (z8 32) 0 ks))]))):=by kernel_rfl
theorem vrb60(Z:OZ)(O:OY)(F:HF)(hc:List AV)(n c:Nat)(e:Bool)(ns hs:List AV)(m:Int)(kcs fc:List AV)(fo fl fcap:Nat)(nx bd ks:List AV)(i:Int)(Q:Ex->Fr->Hl->Prop) :
  (vm (vcA kdS (cnO2 Z O F) noLn) ops0 tabF 100 9 bd60 (fr60b i ks) (join (H60 hc n c e ns hs m kcs (.ros fc fo fl fcap false) nx bd) [.cells ks]) [] (fun ex fr H _=>Q ex fr H)) =
 ((Chk (ops0.le 32 (ops0.len ks))
 (Chk (ops0.inr i n)
 (Chk (ops0.le (ops0.add (ops0.adr 0 i 101) 101) (ops0.len hc))
 (Chk (ops0.le 32 (ops0.len nx))
 (((PHp (ops0.ext hc (ops0.adr 0 i 101) 101)) /\
 (PKey (ops0.ext nx 0 32))) /\
 (Chk (ops0.le 256 (ops0.len (OZ.part Z (ops0.ext hc (ops0.adr 0 i 101) 101) (ops0.ext nx 0 32))))
 (Chk (ops0.le 1792 (ops0.len bd))
 (Chk (ops0.le 32 (ops0.len (ops0.ext ks 0 32)))
 (((PKey (ops0.ext (ops0.ext ks 0 32) 0 32)) /\
 (PB (ops0.app (ops0.ext (OZ.part Z (ops0.ext hc (ops0.adr 0 i 101) 101) (ops0.ext nx 0 32)) 0 256) (ops0.ext bd 0 1792)) 0 2048)) /\
 (∃ n1:Int,((Nth [(AV.int IntKind.i64 m)] 0 (AV.int IntKind.i64 n1)) /\
 (Br (ops0.cmp BinOp.eql i n1)
 (Chk (ops0.inb (ops0.bin BinOp.sub IntKind.i64 (Int.ofNat 2048) (ops0.ofn fl)) 2048)
 (Chk (ops0.le (ops0.add (ops0.add 0 (ops0.mul (ops0.nat (ops0.bin BinOp.sub IntKind.i64 (Int.ofNat 2048) (ops0.ofn fl))) 1)) (ops0.mul (ops0.sub 2048 (ops0.nat (ops0.bin BinOp.sub IntKind.i64 (Int.ofNat 2048) (ops0.ofn fl)))) 1)) (ops0.len (HF.mask F (ops0.ext (ops0.ext ks 0 32) 0 32) [98,111,100,121] (rdB (ops0.app (ops0.ext (OZ.part Z (ops0.ext hc (ops0.adr 0 i 101) 101) (ops0.ext nx 0 32)) 0 256) (ops0.ext bd 0 1792)) 0 2048))))
 (Chk (ops0.le (ops0.add fo (ops0.mul fl 1)) (ops0.len fc))
 (Chk (ops0.le 32 (ops0.len ks))
 (Chk (ops0.le 32 (ops0.len hs))
 (((PKey (ops0.ext ks 0 32)) /\
 ((PKey (ops0.ext hs 0 32)) /\
 (PBd (ops0.spl (HF.mask F (ops0.ext (ops0.ext ks 0 32) 0 32) [98,111,100,121] (rdB (ops0.app (ops0.ext (OZ.part Z (ops0.ext hc (ops0.adr 0 i 101) 101) (ops0.ext nx 0 32)) 0 256) (ops0.ext bd 0 1792)) 0 2048)) (ops0.add 0 (ops0.mul (ops0.nat (ops0.bin BinOp.sub IntKind.i64 (Int.ofNat 2048) (ops0.ofn fl))) 1)) (ops0.ext (ops0.ext fc fo (ops0.mul fl 1)) 0 (ops0.mul (ops0.min fl (ops0.sub 2048 (ops0.nat (ops0.bin BinOp.sub IntKind.i64 (Int.ofNat 2048) (ops0.ofn fl))))) 1))) 0 2048))) /\
 (Chk (ops0.eq (ops0.len (OY.btg O (ops0.ext ks 0 32) (rdB (ops0.spl (HF.mask F (ops0.ext (ops0.ext ks 0 32) 0 32) [98,111,100,121] (rdB (ops0.app (ops0.ext (OZ.part Z (ops0.ext hc (ops0.adr 0 i 101) 101) (ops0.ext nx 0 32)) 0 256) (ops0.ext bd 0 1792)) 0 2048)) (ops0.add 0 (ops0.mul (ops0.nat (ops0.bin BinOp.sub IntKind.i64 (Int.ofNat 2048) (ops0.ofn fl))) 1)) (ops0.ext (ops0.ext fc fo (ops0.mul fl 1)) 0 (ops0.mul (ops0.min fl (ops0.sub 2048 (ops0.nat (ops0.bin BinOp.sub IntKind.i64 (Int.ofNat 2048) (ops0.ofn fl))))) 1))) 0 2048) (ops0.ext hs 0 32))) 32)
 (Chk (ops0.le 32 (ops0.len nx))
 (Q Ex.norm [AV.top,AV.top,AV.top,AV.top,AV.top,(AV.ptr 0 0),(AV.ptr 1 0),(AV.ptr 2 0),AV.top,AV.top,(AV.ptr 3 0),AV.top,AV.top,AV.top,(AV.ptr 5 0),(AV.ptr 6 0),(AV.ptr 7 0),(AV.int IntKind.i64 i),(AV.ptr 10 0),AV.top,AV.top,AV.top,AV.top,AV.top,AV.top,AV.top,AV.top,AV.top,AV.top,AV.top,AV.top,AV.top,AV.top,AV.top,AV.top,AV.top,AV.top,AV.top,AV.top,AV.top,AV.top,AV.top,AV.top,AV.top,AV.top,AV.top,AV.top,AV.top,AV.top,AV.top,AV.top,AV.top,AV.top,AV.top,AV.top,AV.top,AV.top,AV.top,AV.top,AV.top,AV.top,(AV.int IntKind.i64 i),(AV.agg ks),(AV.agg (ops0.ext ks 0 32)),(AV.ros hc 0 n c e),(AV.int IntKind.i64 i),(AV.rop hc (ops0.adr 0 i 101)),(AV.agg (ops0.ext hc (ops0.adr 0 i 101) 101)),(AV.agg (ops0.ext nx 0 32)),(AV.slc 11 0 256 256 1),(AV.slc 9 0 2048 2048 1),(AV.slc 9 0 1792 2048 1),(AV.slc 12 0 2048 2048 1),(AV.slc 14 0 2048 2048 1),(AV.int IntKind.i64 i),(AV.int IntKind.i64 n1),(AV.bool Bool.true),(AV.slc 14 0 2048 2048 1),(AV.ros fc fo fl fcap Bool.false),(AV.int IntKind.i64 (ops0.ofn fl)),(AV.int IntKind.i64 (ops0.bin BinOp.sub IntKind.i64 (Int.ofNat 2048) (ops0.ofn fl))),(AV.slc 14 (ops0.add 0 (ops0.mul (ops0.nat (ops0.bin BinOp.sub IntKind.i64 (Int.ofNat 2048) (ops0.ofn fl))) 1)) (ops0.sub 2048 (ops0.nat (ops0.bin BinOp.sub IntKind.i64 (Int.ofNat 2048) (ops0.ofn fl)))) (ops0.sub 2048 (ops0.nat (ops0.bin BinOp.sub IntKind.i64 (Int.ofNat 2048) (ops0.ofn fl)))) 1),(AV.ros fc fo fl fcap Bool.false),(AV.int IntKind.i64 (ops0.ofn (ops0.min fl (ops0.sub 2048 (ops0.nat (ops0.bin BinOp.sub IntKind.i64 (Int.ofNat 2048) (ops0.ofn fl))))))),(AV.agg (ops0.ext ks 0 32)),(AV.slc 14 0 2048 2048 1),(AV.agg (ops0.ext hs 0 32)),(AV.agg (OY.btg O (ops0.ext ks 0 32) (rdB (ops0.spl (HF.mask F (ops0.ext (ops0.ext ks 0 32) 0 32) [98,111,100,121] (rdB (ops0.app (ops0.ext (OZ.part Z (ops0.ext hc (ops0.adr 0 i 101) 101) (ops0.ext nx 0 32)) 0 256) (ops0.ext bd 0 1792)) 0 2048)) (ops0.add 0 (ops0.mul (ops0.nat (ops0.bin BinOp.sub IntKind.i64 (Int.ofNat 2048) (ops0.ofn fl))) 1)) (ops0.ext (ops0.ext fc fo (ops0.mul fl 1)) 0 (ops0.mul (ops0.min fl (ops0.sub 2048 (ops0.nat (ops0.bin BinOp.sub IntKind.i64 (Int.ofNat 2048) (ops0.ofn fl))))) 1))) 0 2048) (ops0.ext hs 0 32))),AV.top,AV.top,AV.top,AV.top] [(Blk.cells [(AV.ros hc 0 n c e)]),(Blk.cells ns),(Blk.cells hs),(Blk.cells [(AV.int IntKind.i64 m)]),(Blk.cells kcs),(Blk.cells [(AV.ros fc fo fl fcap Bool.false)]),(Blk.cells [(AV.slc 14 0 2048 2048 1)]),(Blk.cells (ops0.spl nx 0 (OY.btg O (ops0.ext ks 0 32) (rdB (ops0.spl (HF.mask F (ops0.ext (ops0.ext ks 0 32) 0 32) [98,111,100,121] (rdB (ops0.app (ops0.ext (OZ.part Z (ops0.ext hc (ops0.adr 0 i 101) 101) (ops0.ext nx 0 32)) 0 256) (ops0.ext bd 0 1792)) 0 2048)) (ops0.add 0 (ops0.mul (ops0.nat (ops0.bin BinOp.sub IntKind.i64 (Int.ofNat 2048) (ops0.ofn fl))) 1)) (ops0.ext (ops0.ext fc fo (ops0.mul fl 1)) 0 (ops0.mul (ops0.min fl (ops0.sub 2048 (ops0.nat (ops0.bin BinOp.sub IntKind.i64 (Int.ofNat 2048) (ops0.ofn fl))))) 1))) 0 2048) (ops0.ext hs 0 32)))),(Blk.cells [(AV.slc 4 0 n n 32)]),(Blk.cells bd),(Blk.cells ks),Blk.dead,(Blk.cells (ops0.app (ops0.ext (OZ.part Z (ops0.ext hc (ops0.adr 0 i 101) 101) (ops0.ext nx 0 32)) 0 256) (ops0.ext bd 0 1792))),(Blk.cells (ops0.ext ks 0 32)),(Blk.cells (ops0.spl (HF.mask F (ops0.ext (ops0.ext ks 0 32) 0 32) [98,111,100,121] (rdB (ops0.app (ops0.ext (OZ.part Z (ops0.ext hc (ops0.adr 0 i 101) 101) (ops0.ext nx 0 32)) 0 256) (ops0.ext bd 0 1792)) 0 2048)) (ops0.add 0 (ops0.mul (ops0.nat (ops0.bin BinOp.sub IntKind.i64 (Int.ofNat 2048) (ops0.ofn fl))) 1)) (ops0.ext (ops0.ext fc fo (ops0.mul fl 1)) 0 (ops0.mul (ops0.min fl (ops0.sub 2048 (ops0.nat (ops0.bin BinOp.sub IntKind.i64 (Int.ofNat 2048) (ops0.ofn fl))))) 1))))])))))))))
 (Chk (ops0.le 32 (ops0.len ks))
 (Chk (ops0.le 32 (ops0.len hs))
 (((PKey (ops0.ext ks 0 32)) /\
 ((PKey (ops0.ext hs 0 32)) /\
 (PBd (HF.mask F (ops0.ext (ops0.ext ks 0 32) 0 32) [98,111,100,121] (rdB (ops0.app (ops0.ext (OZ.part Z (ops0.ext hc (ops0.adr 0 i 101) 101) (ops0.ext nx 0 32)) 0 256) (ops0.ext bd 0 1792)) 0 2048)) 0 2048))) /\
 (Chk (ops0.eq (ops0.len (OY.btg O (ops0.ext ks 0 32) (rdB (HF.mask F (ops0.ext (ops0.ext ks 0 32) 0 32) [98,111,100,121] (rdB (ops0.app (ops0.ext (OZ.part Z (ops0.ext hc (ops0.adr 0 i 101) 101) (ops0.ext nx 0 32)) 0 256) (ops0.ext bd 0 1792)) 0 2048)) 0 2048) (ops0.ext hs 0 32))) 32)
 (Chk (ops0.le 32 (ops0.len nx))
 (Q Ex.norm [AV.top,AV.top,AV.top,AV.top,AV.top,(AV.ptr 0 0),(AV.ptr 1 0),(AV.ptr 2 0),AV.top,AV.top,(AV.ptr 3 0),AV.top,AV.top,AV.top,(AV.ptr 5 0),(AV.ptr 6 0),(AV.ptr 7 0),(AV.int IntKind.i64 i),(AV.ptr 10 0),AV.top,AV.top,AV.top,AV.top,AV.top,AV.top,AV.top,AV.top,AV.top,AV.top,AV.top,AV.top,AV.top,AV.top,AV.top,AV.top,AV.top,AV.top,AV.top,AV.top,AV.top,AV.top,AV.top,AV.top,AV.top,AV.top,AV.top,AV.top,AV.top,AV.top,AV.top,AV.top,AV.top,AV.top,AV.top,AV.top,AV.top,AV.top,AV.top,AV.top,AV.top,AV.top,(AV.int IntKind.i64 i),(AV.agg ks),(AV.agg (ops0.ext ks 0 32)),(AV.ros hc 0 n c e),(AV.int IntKind.i64 i),(AV.rop hc (ops0.adr 0 i 101)),(AV.agg (ops0.ext hc (ops0.adr 0 i 101) 101)),(AV.agg (ops0.ext nx 0 32)),(AV.slc 11 0 256 256 1),(AV.slc 9 0 2048 2048 1),(AV.slc 9 0 1792 2048 1),(AV.slc 12 0 2048 2048 1),(AV.slc 14 0 2048 2048 1),(AV.int IntKind.i64 i),(AV.int IntKind.i64 n1),(AV.bool Bool.false),AV.top,AV.top,AV.top,AV.top,AV.top,AV.top,AV.top,(AV.agg (ops0.ext ks 0 32)),(AV.slc 14 0 2048 2048 1),(AV.agg (ops0.ext hs 0 32)),(AV.agg (OY.btg O (ops0.ext ks 0 32) (rdB (HF.mask F (ops0.ext (ops0.ext ks 0 32) 0 32) [98,111,100,121] (rdB (ops0.app (ops0.ext (OZ.part Z (ops0.ext hc (ops0.adr 0 i 101) 101) (ops0.ext nx 0 32)) 0 256) (ops0.ext bd 0 1792)) 0 2048)) 0 2048) (ops0.ext hs 0 32))),AV.top,AV.top,AV.top,AV.top] [(Blk.cells [(AV.ros hc 0 n c e)]),(Blk.cells ns),(Blk.cells hs),(Blk.cells [(AV.int IntKind.i64 m)]),(Blk.cells kcs),(Blk.cells [(AV.ros fc fo fl fcap Bool.false)]),(Blk.cells [(AV.slc 14 0 2048 2048 1)]),(Blk.cells (ops0.spl nx 0 (OY.btg O (ops0.ext ks 0 32) (rdB (HF.mask F (ops0.ext (ops0.ext ks 0 32) 0 32) [98,111,100,121] (rdB (ops0.app (ops0.ext (OZ.part Z (ops0.ext hc (ops0.adr 0 i 101) 101) (ops0.ext nx 0 32)) 0 256) (ops0.ext bd 0 1792)) 0 2048)) 0 2048) (ops0.ext hs 0 32)))),(Blk.cells [(AV.slc 4 0 n n 32)]),(Blk.cells bd),(Blk.cells ks),Blk.dead,(Blk.cells (ops0.app (ops0.ext (OZ.part Z (ops0.ext hc (ops0.adr 0 i 101) 101) (ops0.ext nx 0 32)) 0 256) (ops0.ext bd 0 1792))),(Blk.cells (ops0.ext ks 0 32)),(Blk.cells (HF.mask F (ops0.ext (ops0.ext ks 0 32) 0 32) [98,111,100,121] (rdB (ops0.app (ops0.ext (OZ.part Z (ops0.ext hc (ops0.adr 0 i 101) 101) (ops0.ext nx 0 32)) 0 256) (ops0.ext bd 0 1792)) 0 2048)))]))))))))))))))))))):=by kernel_rfl
noncomputable def c60:Code:=Try.f60.body.getD .skip
noncomputable def rfA:Code->Code
 | .rangeFunc _ _ a _=>a
 | c=>c
noncomputable def rfB:Code->Code
 | .rangeFunc _ _ _ b=>b
 | c=>c
noncomputable def rs:Nat->Code->Code
 | 0,c=>c
 | n+1,c=>rs n (rc c)
noncomputable def rf60:Code:=lc (rc (lc (rs 8 c60)))
noncomputable def asg60:Code:=rfA rf60
noncomputable def bod60:Code:=rfB rf60
theorem q2k:qaf Try.prog asg60=as60:=by kernel_rfl
theorem q2r:qaf Try.prog bod60=bd60:=by kernel_rfl
theorem asg_r:okR asg60=true:=by kernel_rfl
theorem bod_r:okR bod60=true:=by kernel_rfl
theorem qwi{P:Program}{g:Kd->Bool}{C:CnF}(hC:CnOK P C){E:LnF}(hE:LnOK P E){T:Nat->Option VF}(hT:∀ f vf,T f=some vf->FnOK P f vf){n n0 l:Nat}{c:Code}{b:VC}(hcomp:qaf P c=b)(hok:okR c=true){fr fr1:Fr}{H H1:Hl}
  (h:vm (vcA g C E) ops0 T n n0 b fr H [] (fun ex fr' H' _=>ex = .norm/\fr'=fr1/\H'=H1)) (h0:n0<=H.length):∃ lg',Goes (c.wpIn (FR l) 0 P) n0 fr H [] .normal fr1 H1 lg':=by
 subst hcomp
 obtain⟨ex,fr',H',lg',hg,rfl,rfl,rfl⟩:=qho (qct hC hE) hT l n c hok n0 fr H [] _ h0 h
 exact⟨lg',hg⟩
theorem quu{P:Program}{g:Kd->Bool}{C:CnF}(hC:CnOK P C){E:LnF}(hE:LnOK P E){T:Nat->Option VF}(hT:∀ f vf,T f=some vf->FnOK P f vf){n n0 l:Nat}{c:Code}{b:VC}(hcomp:qaf P c=b)(hok:okR c=true){fr:Fr}{H H1:Hl}
  (h:vm (vcA g C E) ops0 T n n0 b fr H [] (fun ex _ H' _=>ex = .norm/\H'=H1)) (h0:n0<=H.length):∃ fr1 lg',Goes (c.wpIn (FR l) 0 P) n0 fr H [] .normal fr1 H1 lg':=by
 subst hcomp
 obtain⟨ex,fr',H',lg',hg,rfl,rfl⟩:=qho (qct hC hE) hT l n c hok n0 fr H [] _ h0 h
 exact⟨fr',lg',hg⟩
def bstep(L:List (List UInt8))(hs:List Hop)(hash fil:List UInt8)(n:Nat):Nat->List UInt8 × List UInt8
 | 0=>(zs 2048,zs 32)
 | j+1 =>
  let p:=bstep L hs hash fil n j
  let k:=L.getD (n - 1 - j) []
  let m:=maskL k bodyW (partL (hs.getD (n - 1 - j) hop0) p.2++p.1.take 1792)
  let b:=if j=0 then m.take (2048 - fil.length)++fil else m
  (b,btagL k b hash)
def HpAt(hc:List AV)(n:Nat)(hs:List Hop):Prop:=hs.length=n/\∀ (i:Nat) h,hs[i]? = some h->h.L32/\(hc.drop (i*101)).take 101=hopC h
theorem HpAt.len{hc:List AV}{n:Nat}{hs:List Hop}(h:HpAt hc n hs){i:Nat}(hi:i<n):i*101+101<=hc.length:=by
 have hl:i<hs.length:=by rw[h.1]; exact hi
 obtain⟨h1,h2⟩:=h.2 i hs[i] (List.getElem?_eq_getElem hl)
 have:=congrArg List.length h2
 rw[List.length_take,List.length_drop,qa8 h1] at this
 omega
theorem qc2{L:List (List UInt8)}{hs:List Hop}{hash fil:List UInt8}{n:Nat}(hf:fil.length<=2048)(hh:∀ h,h∈hs->h.L32):∀ j,(bstep L hs hash fil n j).1.length=2048/\(bstep L hs hash fil n j).2.length=32
 | 0=>⟨qao _,qao _⟩
 | j+1=>by
  have ih:=qc2 (L:=L) (hash:=hash) hf hh j (n:=n)
  have h32:(hs.getD (n - 1 - j) hop0).L32:=by
   rw[List.getD_eq_getElem?_getD]
   cases hq:hs[n - 1 - j]? with
   | none=>exact qil
   | some h=>exact hh h (List.mem_of_getElem? hq)
  have hm:(maskL (L.getD (n - 1 - j) []) bodyW (partL (hs.getD (n - 1 - j) hop0) (bstep L hs hash fil n j).2++(bstep L hs hash fil n j).1.take 1792)).length=2048:=by
   rw[qbd,List.length_append,qbb h32 ih.2,List.length_take,ih.1]
   rfl
  refine⟨?_,qiu _ _ _⟩
  show(if j=0 then _ else _:List UInt8).length=_
  split
  ·rw[List.length_append,List.length_take,hm]; omega
  ·exact hm
theorem qsr{h:Hop}(hl:h.L32)(next:List UInt8):oz0.part (hopC h) (next.map by8)=(partL h next).map by8:=qim hl next
theorem q09{a x:List UInt8}{o:Nat}(h:o+x.length=a.length):ops0.spl (a.map by8) o (x.map by8)=(a.take o++x).map by8:=by
 rw[nSpl,<-List.map_take,<-List.map_drop,List.length_map,List.drop_of_length_le (by omega),List.map_nil,List.append_nil,<-List.map_append]
structure In60(hc:List AV)(n:Nat)(kcs fc:List AV)(fo fl:Nat)(hs:List Hop)(L:List (List UInt8))(hash fil:List UInt8):Prop where
 hops:HpAt hc n hs
 flat:flatL hc
 pos:∀ h,h∈hs->h.pos
 keys:kcs=L.flatten.map by8
 len:L.length=n
 l32:∀ x,x∈L->x.length=32
 n8:n<=8
 hash:hash.length=32
 fflat:flatL fc
 fil:qan fc fo fl fil
 froom:fo+fl<=fc.length
 fl_le:fl<=2048
def S60(hc:List AV)(n c:Nat)(e:Bool)(ns:List AV)(kcs fc:List AV)(fo fl fcap:Nat)(hs:List Hop)(L:List (List UInt8))(hash fil:List UInt8)(j:Nat):Hl :=
 H60 hc n c e ns (hash.map by8) (Int.ofNat (n - 1)) kcs (.ros fc fo fl fcap false) ((bstep L hs hash fil n j).2.map by8) ((bstep L hs hash fil n j).1.map by8)
theorem qe2{L:List (List UInt8)}(h:∀ x,x∈L->x.length=32){i:Nat}{x:List UInt8}(hx:L[i]? = some x):((L.flatten.map by8).drop (i*32)).take 32=x.map by8:=by
 have:=qlu [] L i x h hx
 rwa [List.append_nil] at this
theorem q0a{hc:List AV}{n c:Nat}{e:Bool}{ns:List AV}{kcs fc:List AV}{fo fl fcap:Nat}{hs:List Hop}{L:List (List UInt8)}{hash fil:List UInt8}(h:In60 hc n kcs fc fo fl hs L hash fil)(hns:flatL ns){j:Nat}(hj:j<n)(l:Nat) :
  ∃ fr1 H1 lg1 fr2 H2 lg2 fr3,Goes (asg60.wpIn (FR l) 0 Try.prog) 9 (fr60 (Int.ofNat (n - 1 - j)) ((kcs.drop ((n - 1 - j)*32)).take 32)) (S60 hc n c e ns kcs fc fo fl fcap hs L hash fil j) [] .normal fr1 H1 lg1 /\
   Goes (bod60.wpIn (FR l) 0 Try.prog) 9 fr1 H1 [] .normal fr2 H2 lg2/\Weak 9 fr2 H2 fr3 (S60 hc n c e ns kcs fc fo fl fcap hs L hash fil (j+1)):=by
 obtain⟨hops,hflat,hpos,rfl,hLn,hL32,hn8,hh,hff,hfil,hfr,hfl⟩:=h
 have hfl2:fil.length=fl:=hfil.1
 have hmem:∀ h,h∈hs->h.L32:=fun h hm=>let ⟨i,hi⟩:=List.getElem?_of_mem hm;(hops.2 i h hi).1
 obtain⟨b1,b2⟩:=qc2 (L:=L) (hs:=hs) (hash:=hash) (fil:=fil) (n:=n) (by omega) hmem j
 have hi:n - 1 - j<n:=by omega
 have hroom:=hops.len hi
 have hix:n - 1 - j<hs.length:=by rw[hops.1]; exact hi
 have hx:=List.getElem?_eq_getElem hix
 obtain⟨q1,q2⟩:=hops.2 (n - 1 - j) _ hx
 have qp:=hpos _ (List.getElem_mem hix)
 have hgh:hs.getD (n - 1 - j) hop0=hs[n - 1 - j]:=by rw[List.getD_eq_getElem?_getD,hx]; rfl
 have hkl:n - 1 - j<L.length:=by rw[hLn]; exact hi
 have hk:=List.getElem?_eq_getElem hkl
 have k1:=hL32 _ (List.getElem_mem hkl)
 have hgk:L.getD (n - 1 - j) []=L[n - 1 - j]:=by rw[List.getD_eq_getElem?_getD,hk]; rfl
 rw[qe2 hL32 hk]
 have hS:bstep L hs hash fil n (j+1)=((if j=0 then(maskL L[n - 1 - j] bodyW (partL hs[n - 1 - j] (bstep L hs hash fil n j).2++(bstep L hs hash fil n j).1.take 1792)).take (2048 - fil.length)++fil else maskL L[n - 1 - j] bodyW (partL hs[n - 1 - j] (bstep L hs hash fil n j).2++(bstep L hs hash fil n j).1.take 1792)),
   btagL L[n - 1 - j] (if j=0 then(maskL L[n - 1 - j] bodyW (partL hs[n - 1 - j] (bstep L hs hash fil n j).2++(bstep L hs hash fil n j).1.take 1792)).take (2048 - fil.length)++fil else maskL L[n - 1 - j] bodyW (partL hs[n - 1 - j] (bstep L hs hash fil n j).2++(bstep L hs hash fil n j).1.take 1792)) hash):=by
  show(_,_)=_
  rw[hgh,hgk]
 generalize hs[n - 1 - j]=hp at q1 q2 qp hS
 generalize L[n - 1 - j]=key at k1 hS
 unfold S60
 rw[hS,hfl2]
 generalize (bstep L hs hash fil n j).1=bd at b1
 generalize (bstep L hs hash fil n j).2=nx at b2
 have m1:(partL hp nx++bd.take 1792).length=2048:=by rw[List.length_append,qbb q1 b2,List.length_take,b1]; rfl
 have m2:(maskL key bodyW (partL hp nx++bd.take 1792)).length=2048:=by rw[qbd,m1]
 generalize hM:maskL key bodyW (partL hp nx++bd.take 1792)=M at m2
 generalize hB:(if j=0 then M.take (2048 - fl)++fil else M)=B
 have m3:B.length=2048:=by
  rw[<-hB]
  split
  ·rw[List.length_append,List.length_take,m2,hfl2]; omega
  ·exact m2
 have m4:=qiu key B hash
 have s1:=qba k1
 have s2:=qba b2
 have s3:=qba hh
 have s4:=qba (qbb q1 b2)
 have s5:=qba m1
 have s6:=qba m2
 have s7:=qba m3
 have s8:sl bd 0 1792=bd.take 1792:=by unfold sl;rw[List.drop_zero]
 have e1:ops0.ext hc (0+(n - 1 - j)*101) 101=hopC hp:=by rw[nExt,Nat.zero_add]; exact q2
 have pb2048:qan (B.map by8) 0 2048 B:=by have:=qax B;rw[m3] at this;exact this
 have pbd:PBd (B.map by8) 0 2048:=⟨qac _,by rw[List.length_map,m3]; omega,by omega,_,pb2048⟩
 have hmk:maskL key [98,111,100,121] (partL hp nx++bd.take 1792)=M:=hM
 obtain⟨lg1,g1⟩:=qwi (P:=Try.prog) qbf (qai _) qfo (n:=100) (g:=kdS) (l:=l) (n0:=9) (fr1:=fr60b (Int.ofNat (n - 1 - j)) (key.map by8)) (fr:=fr60 (Int.ofNat (n - 1 - j)) (key.map by8))
  (H:=H60 hc n c e ns (hash.map by8) (Int.ofNat (n - 1)) (L.flatten.map by8) (.ros fc fo fl fcap false) (nx.map by8) (bd.map by8))
  (H1:=join (H60 hc n c e ns (hash.map by8) (Int.ofNat (n - 1)) (L.flatten.map by8) (.ros fc fo fl fcap false) (nx.map by8) (bd.map by8)) [.cells (key.map by8)]) q2k asg_r (by
   unfold H60
   rw[vra60,spl32 k1]
   exact Chk.mk (eq32' k1) ⟨rfl,rfl,rfl⟩) (by unfold H60;simp)
 have hk2:∃ fr2 lg2,Goes (bod60.wpIn (FR l) 0 Try.prog) 9 (fr60b (Int.ofNat (n - 1 - j)) (key.map by8)) (join (H60 hc n c e ns (hash.map by8) (Int.ofNat (n - 1)) (L.flatten.map by8) (.ros fc fo fl fcap false) (nx.map by8) (bd.map by8)) [.cells (key.map by8)]) [] .normal fr2
   [.cells [.ros hc 0 n c e],.cells ns,.cells (hash.map by8),.cells [.int .i64 (Int.ofNat (n - 1))],.cells (L.flatten.map by8),.cells [.ros fc fo fl fcap false],.cells [.slc 14 0 2048 2048 1],.cells ((btagL key B hash).map by8),.cells [.slc 4 0 n n 32],.cells (bd.map by8),.cells (key.map by8),.dead,.cells ((partL hp nx++bd.take 1792).map by8),.cells (key.map by8),.cells (B.map by8)] lg2:=by
  refine quu (P:=Try.prog) qbf (qai _) qfo (n:=100) (g:=kdS) (l:=l) (n0:=9) q2r bod_r ?_ (by unfold H60;simp[qbx])
  rw[vrb60]
  simp only[nAdr,e1,qg9,s1,s2,s3,qsr q1,s4,s8,qhm,rd_sl,s5,qej,hmk]
  simp only[qbl,nInr,nLe,nPlus,nLen,nEq,List.length_map,k1,b1,b2,hh,qbb q1 b2,Nat.zero_add,decide_eq_true_eq]
  simp only[Nat.reduceLeDiff,Nat.le_refl,true_and]
  refine⟨hi,hroom,⟨⟨hp,q1,qp,rfl⟩,pkey _ b2⟩,⟨pkey _ k1,qbz _ 2048 m1.symm (by omega)⟩,_,rfl,?_⟩
  rw[nEql]
  refine Br.mk (fun hl => ?_) (fun hl => ?_)
  ·have hj0:j=0:=by
    have:=of_decide_eq_true hl
    omega
   have hB0:M.take (2048 - fl)++fil=B:=by rw[<-hB,if_pos hj0]
   have hmin:ops0.min fl (2048 - (2048 - fl))=fl:=by rw[nMin,if_pos (by omega)]
   have s9:=qba hfl2
   have hsp:ops0.spl (M.map by8) (2048 - fl) (fil.map by8)=B.map by8:=by rw[q09 (by omega),hB0]
   have ef:ops0.ext fc fo fl=fil.map by8:=by rw[nExt]; exact hfil.2
   simp only[ef,subN hfl (by omega),nNat,nPlus,qbw,qs6,Nat.mul_one,Nat.zero_add,hmin,qg9,s9,hsp,rd_sl,s7,qj2,qgg b2 m4]
   simp only[qbl,nInb,nLe,nLen,nEq,List.length_map,m2,m3,m4,decide_eq_true_eq]
   repeat' with_reducible apply And.intro
   all_goals first|exact True.intro|omega|exact pkey _ k1|exact pkey _ hh|exact pbd|with_reducible rfl
  ·have hj0:¬ j=0:=by
    have:=of_decide_eq_false hl
    omega
   have hB0:M=B:=by rw[<-hB,if_neg hj0]
   simp only[hB0,rd_sl,s7,qj2,qgg b2 m4]
   simp only[qbl,nLe,nLen,nEq,List.length_map,m3,m4,decide_eq_true_eq]
   repeat' with_reducible apply And.intro
   all_goals first|exact True.intro|omega|exact pkey _ k1|exact pkey _ hh|exact pbd|with_reducible rfl
 obtain⟨fr2,lg2,g2⟩:=hk2
 have hw:=Weak.pickV (n0:=9) (fr:=fr2) (H := [.cells [.ros hc 0 n c e],.cells ns,.cells (hash.map by8),.cells [.int .i64 (Int.ofNat (n - 1))],.cells (L.flatten.map by8),.cells [.ros fc fo fl fcap false],.cells [.slc 14 0 2048 2048 1],.cells ((btagL key B hash).map by8),.cells [.slc 4 0 n n 32],.cells (bd.map by8),.cells (key.map by8),.dead,.cells ((partL hp nx++bd.take 1792).map by8),.cells (key.map by8),.cells (B.map by8)]) [0,1,2,3,4,5,6,7,8,14] [] 2 (by simp) (by simp) (by decide)
 have e4:pickH (viewF [.cells [.ros hc 0 n c e],.cells ns,.cells (hash.map by8),.cells [.int .i64 (Int.ofNat (n - 1))],.cells (L.flatten.map by8),.cells [.ros fc fo fl fcap false],.cells [.slc 14 0 2048 2048 1],.cells ((btagL key B hash).map by8),.cells [.slc 4 0 n n 32],.cells (bd.map by8),.cells (key.map by8),.dead,.cells ((partL hp nx++bd.take 1792).map by8),.cells (key.map by8),.cells (B.map by8)] [0,1,2,3,4,5,6,7,8,14] 2) [0,1,2,3,4,5,6,7,8,14]
   [.cells [.ros hc 0 n c e],.cells ns,.cells (hash.map by8),.cells [.int .i64 (Int.ofNat (n - 1))],.cells (L.flatten.map by8),.cells [.ros fc fo fl fcap false],.cells [.slc 14 0 2048 2048 1],.cells ((btagL key B hash).map by8),.cells [.slc 4 0 n n 32],.cells (bd.map by8),.cells (key.map by8),.dead,.cells ((partL hp nx++bd.take 1792).map by8),.cells (key.map by8),.cells (B.map by8)] =
   H60 hc n c e ns (hash.map by8) (Int.ofNat (n - 1)) (L.flatten.map by8) (.ros fc fo fl fcap false) ((btagL key B hash).map by8) (B.map by8):=by
  have p4:pickN [0,1,2,3,4,5,6,7,8,14] 4=some 4:=rfl
  have p14:pickN [0,1,2,3,4,5,6,7,8,14] 14=some 9:=rfl
  show [renB _ _ true (.cells [.ros hc 0 n c e]),renB _ _ true (.cells ns),renB _ _ true (.cells (hash.map by8)),renB _ _ true (.cells [.int .i64 (Int.ofNat (n - 1))]),renB _ _ true (.cells (L.flatten.map by8)),renB _ _ true (.cells [.ros fc fo fl fcap false]),renB _ _ true (.cells [.slc 14 0 2048 2048 1]),renB _ _ true (.cells ((btagL key B hash).map by8)),renB _ _ true (.cells [.slc 4 0 n n 32]),renB _ _ true (.cells (B.map by8))]=_
  simp only[renB,renL,ren,qaa hflat,qaa hns,qaa hff,qaa (qac _),p4,p14]
  rfl
 rw[e4] at hw
 exact⟨_,_,lg1,_,_,lg2,_,g1,g2,hw⟩
end
end Go.Proofs.Vm

namespace Go.Proofs.Vm
set_option maxRecDepth 100000
open Go.Vm
noncomputable section
def PHs(hc:List AV)(n:Nat):Prop:=flatL hc/\n<1099511627776/\∃ hs,HpAt hc n hs
def FlatH(H0:List AV):Prop:=∀ (σ:Nat->Option Nat) (φ:Nat->Option (List AV)),renL σ φ true H0=H0
noncomputable def lp60:VC:=vp [1,1,1,0,1,0,0] vf60.body
def fr60v(ks hc:List AV)(m n c:Nat)(e:Bool)(ko kn kc:Nat)(ke:Bool)(i:Int):Fr := [.ros ks ko kn kc ke,.top,.top,.top,.top,.ptr 0 0,.ptr 1 0,.ptr 2 0,.nils,.int .i64 0,.ptr 3 0,.top,.top,.top,.top,.top,.top,.top,.top,.top,.top,.top,.top,.top,.top,.top,.top,.top,.top,.top,.top,.top,.top,.ros hc 0 n c e,.int .i64 (Int.ofNat m),.int .i64 i,.top,.top,.top,.top,.top,.top,.top,.top,.top,.top,.top,.top,.top,.top,.top,.top,.top,.top,.top,.top,.top,.top,.top,.top,.top,.top,.top,.top,.top,.top,.top,.top,.top,.top,.top,.top,.top,.top,.top,.top,.top,.top,.top,.top,.top,.top,.top,.top,.top,.top,.top,.top,.top,.top,.top,.top]
def mk60v:List Bool := [false,true,true,true,true,false,false,false,false,false,false,true,true,true,true,true,true,true,true,true,true,true,true,true,true,true,true,true,true,true,true,true,true,false,false,false,true,true,true,true,true,true,true,true,true,true,true,true,true,true,true,true,true,true,true,true,true,true,true,true,true,true,true,true,true,true,true,true,true,true,true,true,true,true,true,true,true,true,true,true,true,true,true,true,true,true,true,true,true,true,true,true]
def fr60e:Fr := [.top,.top,.top,.top,.top,.top,.top,.top,.nils,.int .i64 1,.top,.top,.top,.top,.top,.top,.top,.top,.top,.top,.top,.top,.top,.top,.top,.top,.top,.top,.top,.top,.top,.top,.top,.top,.top,.top,.top,.top,.top,.top,.top,.top,.top,.top,.top,.top,.top,.top,.top,.top,.top,.top,.top,.top,.top,.top,.top,.top,.top,.top,.top,.top,.top,.top,.top,.top,.top,.top,.top,.top,.top,.top,.top,.top,.top,.top,.top,.top,.top,.top,.top,.top,.top,.top,.top,.top,.top,.top,.top,.top,.top,.top]
def mk60e:List Bool := [true,true,true,true,true,true,true,true,false,false,true,true,true,true,true,true,true,true,true,true,true,true,true,true,true,true,true,true,true,true,true,true,true,true,true,true,true,true,true,true,true,true,true,true,true,true,true,true,true,true,true,true,true,true,true,true,true,true,true,true,true,true,true,true,true,true,true,true,true,true,true,true,true,true,true,true,true,true,true,true,true,true,true,true,true,true,true,true,true,true,true,true]
def tabV(f:Nat):Option VF:=match f with
 | 60=>some vf60
 | 61=>some vf61
 | 82=>some vf82
 | _=>none
def ln60(z:List AV->Nat->Bool):LnF:=fun n0 b fr H=>match slot fr 33,slot fr 0,H with
 | .ros hc 0 n c e,.ros ks ko kn kc ke,[.cells H0,.cells H1,.cells H2,.cells M] =>
  some (n0=0/\VCis b lp60/\forget mk60v fr=fr60v ks hc n n c e ko kn kc ke 0/\M = [.int .i64 (Int.ofNat (n - 1))]/\PHs hc n/\FlatH [.agg ks]/\FlatH H0/\FlatH H1/\FlatH H2,.cond (z hc n) (.ok (.exit 0) (fr60v ks hc n n c e ko kn kc ke (Int.ofNat n)) [.cells H0,.cells H1,.cells H2,.cells M]) (.ok .ret fr60e []))
 | _,_,_=>none
theorem vcl60(Z:OZ)(O:OY)(F:HF)(H0 H1 H2:List AV)(m:Int)(ks hc:List AV)(n c:Nat)(e:Bool)(ko kn kc:Nat)(ke:Bool)(i:Int)(Q:Ex->Fr->Hl->Prop) :
  (vm (vcA kdS (cnO2 Z O F) noLn) ops0 noTab 100 0 lp60 (fr60v ks hc n n c e ko kn kc ke i) [.cells H0,.cells H1,.cells H2,.cells [.int .i64 m]] [] (fun ex fr H _=>match ex with
    | .ret=>Q .ret (forget mk60e fr) []
    | ex=>Q ex (forget mk60v fr) H)) =
 ((Br (ops0.cmp .lss i (Int.ofNat n))
 (Chk (ops0.inr i n)
 (Chk (ops0.le (ops0.add (ops0.adr 0 i 101) 101) (ops0.len hc))
 (Chk (ops0.eq (ops0.len (ops0.ext hc (ops0.adr 0 i 101) 101)) 101)
 (Chk (ops0.le 101 (ops0.len (ops0.spl hopZ 0 (ops0.ext hc (ops0.adr 0 i 101) 101))))
 ((PHop (ops0.ext (ops0.spl hopZ 0 (ops0.ext hc (ops0.adr 0 i 101) 101)) 0 101)) /\
 (Br (OZ.may Z (ops0.ext (ops0.spl hopZ 0 (ops0.ext hc (ops0.adr 0 i 101) 101)) 0 101))
 (∃ n1:Int,((Nth (ops0.spl hopZ 0 (ops0.ext hc (ops0.adr 0 i 101) 101)) 0 (.int .i64 n1)) /\
 (Br (ops0.cmp .eql n1 (Int.ofNat 0))
 (∃ n2:Int,((Nth [(.int .i64 m)] 0 (.int .i64 n2)) /\
 (Br (ops0.cmp .eql i n2)
 (Q Ex.norm ((.ros ks ko kn kc ke)::tp 4 ((.ptr 0 0)::(.ptr 1 0)::(.ptr 2 0) :: .nils::(.int .i64 (.ofNat 0))::(.ptr 3 0)::tp 22 ((.ros hc 0 n c e)::(.int .i64 (.ofNat n))::(.int .i64 (ops0.bin .add .i64 i (Int.ofNat 1)))::tp 56 ([])))) [(.cells H0),(.cells H1),(.cells H2),(.cells [(.int .i64 m)]),(.cells (ops0.spl hopZ 0 (ops0.ext hc (ops0.adr 0 i 101) 101)))])
 (Q Ex.ret (tp 8 (.nils::(.int .i64 (.ofNat 1))::tp 82 ([]))) []))))
 (∃ n2:Int,((Nth [(.int .i64 m)] 0 (.int .i64 n2)) /\
 (Br (ops0.cmp .eql i n2)
 (Q Ex.ret (tp 8 (.nils::(.int .i64 (.ofNat 1))::tp 82 ([]))) [])
 (Q Ex.norm ((.ros ks ko kn kc ke)::tp 4 ((.ptr 0 0)::(.ptr 1 0)::(.ptr 2 0) :: .nils::(.int .i64 (.ofNat 0))::(.ptr 3 0)::tp 22 ((.ros hc 0 n c e)::(.int .i64 (.ofNat n))::(.int .i64 (ops0.bin .add .i64 i (Int.ofNat 1)))::tp 56 ([])))) [(.cells H0),(.cells H1),(.cells H2),(.cells [(.int .i64 m)]),(.cells (ops0.spl hopZ 0 (ops0.ext hc (ops0.adr 0 i 101) 101)))])))))))
 (Q Ex.ret (tp 8 (.nils::(.int .i64 (.ofNat 1))::tp 82 ([]))) [])))))))
 (Q (Ex.exit 0) ((.ros ks ko kn kc ke)::tp 4 ((.ptr 0 0)::(.ptr 1 0)::(.ptr 2 0) :: .nils::(.int .i64 (.ofNat 0))::(.ptr 3 0)::tp 22 ((.ros hc 0 n c e)::(.int .i64 (.ofNat n))::(.int .i64 i)::tp 56 ([])))) [(.cells H0),(.cells H1),(.cells H2),(.cells [(.int .i64 m)])]))):=by kernel_rfl
theorem vc60v(Z:OZ)(O:OY)(F:HF)(z:List AV->Nat->Bool)(ks hc ns hs:List AV)(n c:Nat)(e:Bool)(ko kn kc:Nat)(ke:Bool)(Q:AV->Hl->Prop) :
  (vcall (vcA kdS (cnO2 Z O F) (ln60 z)) ops0 tabV 200 vf60 [.ros ks ko kn kc ke,.ros hc 0 n c e,.agg ns,.agg hs] [] (endN (fun _=>0) Q)) =
 ((Br (ops0.cmp .geq (ops0.ofn n) (Int.ofNat 1))
 (Br (ops0.cmp .leq (ops0.ofn n) (Int.ofNat 8))
 (Br (ops0.cmp .neq (ops0.ofn kn) (ops0.ofn n))
 (Q (.tup [.nils,(.int .i64 (.ofNat 1))]) [])
 ((((0:Nat)=0) /\
 ((VCis lp60 lp60) /\
 (((((.ros ks ko kn kc ke)::tp 4 ((.ptr 0 0)::(.ptr 1 0)::(.ptr 2 0) :: .nils::(.int .i64 (.ofNat 0))::(.ptr 3 0)::tp 22 ((.ros hc 0 n c e)::(.int .i64 (ops0.ofn n))::(.int .i64 (.ofNat 0))::tp 56 ([])))):Fr)=((.ros ks ko kn kc ke)::tp 4 ((.ptr 0 0)::(.ptr 1 0)::(.ptr 2 0) :: .nils::(.int .i64 (.ofNat 0))::(.ptr 3 0)::tp 22 ((.ros hc 0 n c e)::(.int .i64 (.ofNat n))::(.int .i64 (.ofNat 0))::tp 56 ([]))))) /\
 ((([(.int .i64 (ops0.bin .sub .i64 (ops0.ofn n) (Int.ofNat 1)))]:(List AV)) = [(.int .i64 (.ofNat (n - 1)))]) /\
 ((PHs hc n) /\
 ((FlatH [(.agg ks)]) /\
 ((FlatH [(.ros hc 0 n c e)]) /\
 ((FlatH ns) /\
 (FlatH hs))))))))) /\
 (Br (z hc n)
 (Chk (ops0.le 32 (ops0.len ns))
 (((P65 ks ko kn (ops0.ext ns 0 32)) /\
 (1<=kn)) /\
 False))
 (Q (.tup [.nils,(.int .i64 (.ofNat 1))]) []))))
 (Q (.tup [.nils,(.int .i64 (.ofNat 1))]) []))
 (Q (.tup [.nils,(.int .i64 (.ofNat 1))]) []))):=by kernel_rfl
theorem qgw{P:Program}{g:Kd->Bool}{C:CnF}(hC:CnOK P C){E:LnF}(hE:LnOK P E){T:Nat->Option VF}(hT:∀ f vf,T f=some vf->FnOK P f vf){n n0:Nat}{b:VC}{fr:Fr}{H:Hl}{Q:Ex->Fr->Hl->Prop}
  (h:vm (vcA g C E) ops0 T n n0 b fr H [] (fun ex fr' H' _=>Q ex fr' H')) (h0:n0<=H.length):∀ c,qaf P c=b->∃ ex fr' H' lg',Goes (c.wp P) n0 fr H [] (qdt ex) fr' H' lg'/\Q ex fr' H':=by
 intro c hc
 subst hc
 obtain⟨ex,fr1,H1,lg1,hg,e⟩:=(qdy (qct hC hE) hT n).1 c n0 fr H [] _ h0 h
 exact⟨ex,fr1,H1,lg1,hg,e⟩
theorem Goes.toFlat{W:(Exit->Act->World->Prop)->Act->World->Prop}{fr fr1 fr2:Fr}{H H1:Hl}{lg1:List Nat}{e:Exit}{mk:List Bool}(h:Goes W 0 fr H [] e fr1 H1 lg1)(hf:forget mk fr1=fr2)(hfl:flatL fr2):∃ lg2,Goes W 0 fr H [] e fr2 [] lg2:=by
 have h2:=h.post (Weak.forget (Nat.zero_le _) mk)
 rw[hf] at h2
 have h3:=h2.post (Weak.pickV [] [] 0 (by simp) (by simp) (by simp))
 rw[qaa hfl] at h3
 have e1:forget [] fr2=fr2:=by cases fr2<;>rfl
 rw[e1] at h3
 exact⟨_,h3⟩
theorem qx8{h:Hop}(hl:h.L32):oz0.may (hopC h)=h.may:=by
 show(hopOf (hopC h)).may=_
 rw[qkt hl]
def okAt(hs:List Hop)(n i:Nat):Bool:=(hs.getD i hop0).may && (decide ((hs.getD i hop0).ch=0) == decide (i=n - 1))
theorem qrc:flatL fr60e:=by
 unfold fr60e
 intro a ha
 simp only[List.mem_cons,List.not_mem_nil,or_false] at ha
 rcases ha with rfl|rfl|ha
 all_goals first|rfl|skip
 all_goals (repeat' (rcases ha with rfl|ha))<;>first|rfl|(subst ha;rfl)
theorem qub{σ:Nat->Option Nat}{φ:Nat->Option (List AV)}(h0:σ 0=some 0)(h1:σ 1=some 1)(h2:σ 2=some 2)(h3:σ 3=some 3){ks hc:List AV}(hks:∀ (σ:Nat->Option Nat) (φ:Nat->Option (List AV)),renL σ φ true ks=ks)(hhc:flatL hc)(m n c:Nat)(e:Bool)(ko kn kc:Nat)(ke:Bool)(i:Int) :
  forget mk60v (renL σ φ true (fr60v ks hc m n c e ko kn kc ke i))=fr60v ks hc m n c e ko kn kc ke i:=by
 unfold fr60v mk60v
 simp only[renL,ren,h0,h1,h2,h3,forget,hks _ _,qaa hhc]
def qq(Q:Ex->Fr->Hl->Prop)(ex:Ex)(fr:Fr)(H:Hl):Prop:=match ex with
 | .ret=>Q .ret (forget mk60e fr) []
 | ex=>Q ex (forget mk60v fr) H
def qN(fr0:Fr)(A:Hl)(ex:Ex)(fr:Fr)(H:Hl):Prop:=ex = .norm/\fr=fr0/\∃ X,H=join A [.cells X]
def qR(ex0:Ex)(fr0:Fr)(H0:Hl)(ex:Ex)(fr:Fr)(H:Hl):Prop:=ex=ex0/\fr=fr0/\H=H0
theorem qph{ks hc:List AV}{n c:Nat}{e:Bool}{hs:List Hop}(ko kn kc:Nat)(ke:Bool)(H0 H1 H2:List AV)(hp:HpAt hc n hs)(hroom:0<n){i:Nat}(hi:i<n)(Q:Ex->Fr->Hl->Prop)
  (hg:okAt hs n i=true->∀ X,Q .norm (fr60v ks hc n n c e ko kn kc ke (Int.ofNat (i+1))) (([.cells H0,.cells H1,.cells H2,.cells [.int .i64 (Int.ofNat (n - 1))],.cells X]:Hl)))
  (hb:okAt hs n i=false->Q .ret fr60e []) (hn:n<1099511627776) :
  vm (vcA kdS (cnO2 oz0 of1 hf0) noLn) ops0 noTab 100 0 lp60 (fr60v ks hc n n c e ko kn kc ke (Int.ofNat i)) [.cells H0,.cells H1,.cells H2,.cells [.int .i64 (Int.ofNat (n - 1))]] [] (fun ex fr H _=>qq Q ex fr H):=by
 show vm (vcA kdS (cnO2 oz0 of1 hf0) noLn) ops0 noTab 100 0 lp60 (fr60v ks hc n n c e ko kn kc ke (Int.ofNat i)) [.cells H0,.cells H1,.cells H2,.cells [.int .i64 (Int.ofNat (n - 1))]] [] (fun ex fr H _=>match ex with
   | .ret=>Q .ret (forget mk60e fr) []
   | ex=>Q ex (forget mk60v fr) H)
 have hx:=List.getElem?_eq_getElem (show i<hs.length by rw[hp.1]; exact hi)
 obtain⟨q1,q2⟩:=hp.2 i _ hx
 have hgh:hs.getD i hop0=hs[i]'(by rw[hp.1]; exact hi):=by rw[List.getD_eq_getElem?_getD,hx]; rfl
 have hlen:=hp.len hi
 unfold okAt at hg hb
 rw[hgh] at hg hb
 generalize hs[i]'(by rw[hp.1]; exact hi)=h at q1 q2 hg hb
 have e1:ops0.ext hc (0+i*101) 101=hopC h:=by rw[nExt,Nat.zero_add]; exact q2
 rw[vcl60,nAdr,e1,qfg q1,qhg q1,qx8 q1,add1 (by omega),nLss]
 simp only[qbl,nInr,nLe,nPlus,nLen,nEq,qa8 q1,decide_eq_true_eq]
 refine Br.t (decide_eq_true (by omega)) ⟨hi,by omega,True.intro,Nat.le_refl _,⟨h,q1,rfl⟩,?_⟩
 refine Br.mk (fun hm => ?_) (fun hm => ?_)
 ·refine⟨h.ch,rfl,?_⟩
  rw[nEql']
  refine Br.mk (fun hz => ?_) (fun hz => ?_)
  ·refine⟨_,rfl,?_⟩
   rw[nEql]
   rw[hm] at hg hb
   refine Br.mk (fun hl => ?_) (fun hl => ?_)
   ·exact hg (by rw[show Int.ofNat 0=0 from rfl] at hz;rw[hz,hl]; rfl) _
   ·exact hb (by rw[show Int.ofNat 0=0 from rfl] at hz;rw[hz,hl]; rfl)
  ·refine⟨_,rfl,?_⟩
   rw[nEql]
   rw[hm] at hg hb
   refine Br.mk (fun hl => ?_) (fun hl => ?_)
   ·exact hb (by rw[show Int.ofNat 0=0 from rfl] at hz;rw[hz,hl]; rfl)
   ·exact hg (by rw[show Int.ofNat 0=0 from rfl] at hz;rw[hz,hl]; rfl) _
 ·exact hb (by rw[hm]; rfl)
section
variable {ks hc:List AV}{n c:Nat}{e:Bool}{hs:List Hop}{ko kn kc:Nat}{ke:Bool}{H0 H1 H2:List AV}
abbrev Hv(H0 H1 H2:List AV)(n:Nat):Hl := [.cells H0,.cells H1,.cells H2,.cells [.int .i64 (Int.ofNat (n - 1))]]
theorem FlatH.flat{l:List AV}(h:flatL l):FlatH l:=fun _ _=>qaa h
theorem FlatH.ros{l:List AV}(h:flatL l)(a b c:Nat)(e:Bool):FlatH [.ros l a b c e]:=fun _ _=>by simp only[renL,ren,qaa h]
theorem qr8(hks:∀ (σ:Nat->Option Nat) (φ:Nat->Option (List AV)),renL σ φ true ks=ks)(hhc:flatL hc)(f0:FlatH H0)(f1:FlatH H1)(f2:FlatH H2)(hp:HpAt hc n hs)(hn:n<1099511627776){i:Nat}(hi:i<n)(hok:okAt hs n i=true) :
  qap Try.prog 0 lp60 (fr60v ks hc n n c e ko kn kc ke (Int.ofNat i)) (Hv H0 H1 H2 n) .norm (fr60v ks hc n n c e ko kn kc ke (Int.ofNat (i+1))) (Hv H0 H1 H2 n):=by
 intro cd hcd
 have h:=qph (ks:=ks) ko kn kc ke (e:=e) (c:=c) H0 H1 H2 hp (by omega) hi (qN (fr60v ks hc n n c e ko kn kc ke (Int.ofNat (i+1))) (Hv H0 H1 H2 n)) (fun _ X=>⟨rfl,rfl,X,rfl⟩) (fun h=>by rw[hok] at h;cases h) hn
 obtain⟨ex,fr,H,lg,hg,q⟩:=qgw (P:=Try.prog) qbf (qai _) (qak _) h (Nat.zero_le _) cd hcd
 cases ex with
 | ret=>cases q.1
 | exit k=>cases q.1
 | norm =>
  obtain⟨_,q2,X,q3⟩:=q
  have q3:H = [.cells H0,.cells H1,.cells H2,.cells [.int .i64 (Int.ofNat (n - 1))],.cells X]:=q3
  subst q3
  have h2:=hg.post (Weak.forget (Nat.zero_le _) mk60v)
  rw[q2] at h2
  have h3:=h2.post (Weak.pickV [0,1,2,3] mk60v 0 (by simp) (by simp) (by simp))
  rw[qub (show pickN [0,1,2,3] 0=some 0 from rfl) (show pickN [0,1,2,3] 1=some 1 from rfl) (show pickN [0,1,2,3] 2=some 2 from rfl) (show pickN [0,1,2,3] 3=some 3 from rfl) hks hhc] at h3
  have e4:pickH (viewF [.cells H0,.cells H1,.cells H2,.cells [.int .i64 (Int.ofNat (n - 1))],.cells X] [0,1,2,3] 0) [0,1,2,3] [.cells H0,.cells H1,.cells H2,.cells [.int .i64 (Int.ofNat (n - 1))],.cells X]=Hv H0 H1 H2 n:=by
   show [renB _ _ true (.cells H0),renB _ _ true (.cells H1),renB _ _ true (.cells H2),renB _ _ true (.cells [.int .i64 (Int.ofNat (n - 1))])]=_
   simp only[renB,f0 _ _,f1 _ _,f2 _ _,renL,ren]
  rw[e4] at h3
  exact⟨_,h3⟩
theorem q1b(hp:HpAt hc n hs)(hn:n<1099511627776){i:Nat}(hi:i<n)(hok:okAt hs n i=false) :
  qap Try.prog 0 lp60 (fr60v ks hc n n c e ko kn kc ke (Int.ofNat i)) (Hv H0 H1 H2 n) .ret fr60e []:=by
 intro cd hcd
 have h:=qph (ks:=ks) ko kn kc ke (e:=e) (c:=c) H0 H1 H2 hp (by omega) hi (qR .ret fr60e []) (fun h=>by rw[hok] at h;cases h) (fun _=>⟨rfl,rfl,rfl⟩) hn
 obtain⟨ex,fr,H,lg,hg,q⟩:=qgw (P:=Try.prog) qbf (qai _) (qak _) h (Nat.zero_le _) cd hcd
 cases ex with
 | norm=>cases q.1
 | exit k=>cases q.1
 | ret=>exact Goes.toFlat hg q.2.1 qrc
theorem qyw:qap Try.prog 0 lp60 (fr60v ks hc n n c e ko kn kc ke (Int.ofNat n)) (Hv H0 H1 H2 n) (.exit 0) (fr60v ks hc n n c e ko kn kc ke (Int.ofNat n)) (Hv H0 H1 H2 n):=by
 intro cd hcd
 have h:=vcl60 oz0 of1 hf0 H0 H1 H2 (Int.ofNat (n - 1)) ks hc n c e ko kn kc ke (Int.ofNat n) (qR (.exit 0) (fr60v ks hc n n c e ko kn kc ke (Int.ofNat n)) (Hv H0 H1 H2 n))
 rw[nLss] at h
 have h2:=h.symm.mp (Br.f (decide_eq_false (by omega)) ⟨rfl,rfl,rfl⟩)
 have h3:vm (vcA kdS (cnO2 oz0 of1 hf0) noLn) ops0 noTab 100 0 lp60 (fr60v ks hc n n c e ko kn kc ke (Int.ofNat n)) (Hv H0 H1 H2 n) [] (fun ex fr H _=>qq (qR (.exit 0) (fr60v ks hc n n c e ko kn kc ke (Int.ofNat n)) (Hv H0 H1 H2 n)) ex fr H):=h2
 obtain⟨ex,fr,H,lg,hg,q⟩:=qgw (P:=Try.prog) qbf (qai _) (qak _) h3 (Nat.zero_le _) cd hcd
 cases ex with
 | norm=>cases q.1
 | ret=>cases q.1
 | exit k =>
  obtain⟨q1,q2,q3⟩:=q
  cases q1
  subst q3
  have h2:=hg.post (Weak.forget (Nat.zero_le _) mk60v)
  rw[q2] at h2
  exact⟨_,h2⟩
end
def okHs(hs:List Hop)(n:Nat):Bool:=(List.range n).all (okAt hs n)
def hsOf(hc:List AV)(n:Nat):List Hop:=(List.range n).map fun i=>hopOf ((hc.drop (i*101)).take 101)
theorem qcs{hc:List AV}{n:Nat}{hs:List Hop}(h:HpAt hc n hs):hsOf hc n=hs:=by
 apply List.ext_getElem?
 intro i
 unfold hsOf
 by_cases hi:i<n
 ·have hl:i<hs.length:=by rw[h.1]; exact hi
  obtain⟨h1,h2⟩:=h.2 i hs[i] (List.getElem?_eq_getElem hl)
  rw[List.getElem?_map,List.getElem?_range hi,List.getElem?_eq_getElem hl]
  simp only[Option.map_some]
  rw[h2,qkt h1]
 ·rw[List.getElem?_eq_none (by rw[List.length_map,List.length_range]; omega),List.getElem?_eq_none (by rw[h.1]; omega)]
def zV(hc:List AV)(n:Nat):Bool:=okHs (hsOf hc n) n
theorem qtl{ks:List AV}(h:FlatH [.agg ks]):∀ (σ:Nat->Option Nat) (φ:Nat->Option (List AV)),renL σ φ true ks=ks:=by
 intro σ φ
 have:=h σ φ
 simp only[renL,ren,List.cons.injEq,AV.agg.injEq,and_true] at this
 exact this
theorem qma{p:Nat->Bool}{n:Nat}:(∃ i,i<n/\p i=false)->∃ i,(i<n/\p i=false)/\∀ j,j<i->p j=true:=by
 induction n with
 | zero=>rintro⟨i,hi,_⟩; omega
 | succ n ih =>
  rintro⟨i,hi,hb⟩
  by_cases h:∃ i,i<n/\p i=false
  ·obtain⟨k,⟨k1,k2⟩,k3⟩:=ih h
   exact⟨k,⟨by omega,k2⟩,k3⟩
  ·refine⟨i,⟨hi,hb⟩,fun j hj => ?_⟩
   cases ho:p j with
   | true=>rfl
   | false=>exact absurd ⟨j,by omega,ho⟩ h
theorem qs0:LnOK Try.prog (ln60 zV):=by
 intro n0 b fr H p x e hn0 hp lg
 unfold ln60 at e
 split at e<;>cases e
 rename_i hc n c e ks ko kn kc ke H0 H1 H2 M h1 h2
 obtain⟨rfl,hb,hf,rfl,⟨hfl,hn,hs,hL⟩,hks,f0,f1,f2⟩:=hp
 have hb:b=lp60:=hb
 subst hb
 have hks:=qtl hks
 refine qam.pre (Weak.forget (by simp) mk60v) ?_ lg
 rw[hf]
 unfold zV
 rw[qcs hL]
 cases hz:okHs hs n with
 | true =>
  have h:=qal (P:=Try.prog) (n0:=0) (b:=lp60) (ex := .exit 0) (fr':=fr60v ks hc n n c e ko kn kc ke (Int.ofNat n)) (H':=Hv H0 H1 H2 n) (by intro h;cases h)
   (fun i=>(fr60v ks hc n n c e ko kn kc ke (Int.ofNat i),Hv H0 H1 H2 n)) n 0 (fun i _ hi=>qr8 hks hfl f0 f1 f2 hL hn (by omega) (by
    unfold okHs at hz
    exact List.all_eq_true.1 hz i (List.mem_range.2 (by omega)))) (by rw[Nat.zero_add]; exact qyw)
  exact h
 | false =>
  unfold okHs at hz
  obtain⟨i,hi,hbad⟩:∃ i,(i<n/\okAt hs n i=false)/\∀ j,j<i->okAt hs n j=true:=by
   refine qma ?_
   rw[List.all_eq_false] at hz
   obtain⟨i,hi,hb⟩:=hz
   exact⟨i,List.mem_range.1 hi,by simpa using hb⟩
  have h:=qal (P:=Try.prog) (n0:=0) (b:=lp60) (ex := .ret) (fr':=fr60e) (H' := []) (by intro h;cases h)
   (fun i=>(fr60v ks hc n n c e ko kn kc ke (Int.ofNat i),Hv H0 H1 H2 n)) i 0 (fun j _ hj=>qr8 hks hfl f0 f1 f2 hL hn (by omega) (hbad j (by omega))) (by rw[Nat.zero_add]; exact q1b hL hn hi.1 hi.2)
  exact h
theorem qn5:∀ f vf,tabV f=some vf->FnOK Try.prog f vf:=by
 intro f vf h
 unfold tabV at h
 split at h<;>cases h
 ·exact ok60
 ·exact ok61
 ·exact ok82
def goodB(hs:List Hop)(n kn:Nat):Bool:=decide (1<=n) && decide (n<=8) && decide (kn=n) && okHs hs n
theorem qzt{ks hc:List AV}{nn hash:List UInt8}{n:Nat}{hs:List Hop}(c:Nat)(e:Bool){ko kn:Nat}(kc:Nat)(ke:Bool)(hks:flatL ks)(hP:PHs hc n)(hp:HpAt hc n hs)(hkn:kn<1099511627776)(hbad:goodB hs n kn=false) :
  CallTo Try.prog 60 [.ros ks ko kn kc ke,.ros hc 0 n c e,.agg (nn.map by8),.agg (hash.map by8)] [] (.tup [.nils,.int .i64 1]) [] []:=by
 refine qb7 qbf qs0 qn5 (show tabV 60=some vf60 from rfl) (n:=200) (g:=kdS) (m:=fun _=>0) [] ?_ (Nat.le_refl 0) rfl (fun b hb=>by simp at hb)
 have hn:=hP.2.1
 have hz:zV hc n=okHs hs n:=by unfold zV;rw[qcs hp]
 rw[vc60v,hz]
 simp only[nOfn,nGeq,nLeq,nNeq]
 refine Br.mk (fun h1 => ?_) (fun h1=>by trivial)
 refine Br.mk (fun h2 => ?_) (fun h2=>by trivial)
 refine Br.mk (fun h3=>by trivial) (fun h3 => ?_)
 have h1:=of_decide_eq_true h1
 have h2:=of_decide_eq_true h2
 have h3:=of_decide_eq_false h3
 have g1:1<=n:=h1
 have g2:n<=8:=h2
 refine⟨⟨by trivial,by trivial,by trivial,?_,hP,?_,FlatH.ros hP.1 _ _ _ _,FlatH.flat (qac _),FlatH.flat (qac _)⟩,?_⟩
 ·rw[nSub (by omega) (by omega)]
 ·exact fun σ φ=>by simp only[renL,ren,qaa hks]
 ·have:okHs hs n=false:=by
   unfold goodB at hbad
   rw[decide_eq_true g1,decide_eq_true g2,decide_eq_true (by omega:kn=n)] at hbad
   exact hbad
  exact Br.f this (by trivial)
end
end Go.Proofs.Vm

namespace Go.Proofs.Vm
set_option maxRecDepth 100000
open Go.Vm
noncomputable section
structure VFn where
 fil:List AV->Nat->List AV
 one:Nat->Bool
def PFil(kc:List AV)(n:Nat):Prop:=flatL kc/\1<=n/\n<=8/\n*32<=kc.length/\∃ L,ShAt kc 0 n L
def cnP(V:VFn)(Z:OZ)(O:OY)(F:HF):CnF:=cnOr (fun f vals H=>match f,vals with
 | 84,[x]=>match vw1 H x with
  | .ros kc 0 n c _=>some (PFil kc n/\n<=c,.cond (V.one n) (.ok .nils H []) (.ok (.slc (size H) (2304 - 256*(n - 1)) (256*(n - 1)) (256*(n - 1)) 1) (join H [.cells (V.fil kc n)]) []))
  | _=>none
 | _,_=>none) (cnO2 Z O F)
def vL:VC->VC
 | .seq a _=>a
 | c=>c
def vR:VC->VC
 | .seq _ b=>b
 | c=>c
def vRs:Nat->VC->VC
 | 0,c=>c
 | n+1,c=>vRs n (vR c)
def vAt(n:Nat):VC:=vL (vRs n vf60.body)
def pre60:VC := .seq (vAt 0) (.seq (vAt 1) (.seq (vAt 2) (.seq (vAt 3) (.seq (vAt 4) (.seq (vAt 5) (.seq (vAt 6) (.seq (vAt 7) (.seq (vL (vAt 8)) .skip))))))))
def suf60:VC:=vRs 9 vf60.body
def tab60(f:Nat):Option VF:=match f with
 | 60=>some vf60
 | 82=>some vf82
 | 85=>some vf85
 | 89=>some vf89
 | 96=>some vf96
 | 110=>some vf110
 | _=>none
def fr60s:Fr := [.top,.top,.top,.top,.top,.top,.ptr 1 0,.top,.top,.top,.top,.top,.top,.top,.top,.ptr 6 0,.ptr 7 0,.top,.top,.top,.top,.top,.top,.top,.top,.top,.top,.top,.top,.top,.top,.top,.top,.top,.top,.top,.top,.top,.top,.top,.top,.top,.top,.top,.top,.top,.top,.top,.top,.top,.top,.top,.top,.top,.top,.top,.top,.top,.top,.top,.top,.top,.top,.top,.top,.top,.top,.top,.top,.top,.top,.top,.top,.top,.top,.top,.top,.top,.top,.top,.top,.top,.top,.top,.top,.top,.top,.top,.top,.top,.top,.top]
theorem vpre(V:VFn)(Z:OZ)(O:OY)(F:HF)(z:List AV->Nat->Bool)(ks hc ns hs:List AV)(n c:Nat)(e:Bool)(ko kn kc:Nat)(ke:Bool)(Q:Fr->Hl->Prop) :
  (vm (vcA kdS (cnP V Z O F) (ln60 z)) ops0 tab60 200 0 pre60 (join [.ros ks ko kn kc ke,.ros hc 0 n c e,.agg ns,.agg hs] (pad 88)) [] [] (fun ex fr H _=>match ex with
    | .norm=>Q fr H
    | _=>False)) =
 ((Chk (ops0.cmp BinOp.geq (ops0.ofn n) (Int.ofNat 1))
 (Chk (ops0.cmp BinOp.leq (ops0.ofn n) (Int.ofNat 8))
 (Br (ops0.cmp BinOp.neq (ops0.ofn kn) (ops0.ofn n))
 False
 ((((0:Nat)=0) /\
 ((VCis lp60 lp60) /\
 ((([(AV.ros ks ko kn kc ke),AV.top,AV.top,AV.top,AV.top,(AV.ptr 0 0),(AV.ptr 1 0),(AV.ptr 2 0),AV.nils,(AV.int IntKind.i64 (Int.ofNat 0)),(AV.ptr 3 0),AV.top,AV.top,AV.top,AV.top,AV.top,AV.top,AV.top,AV.top,AV.top,AV.top,AV.top,AV.top,AV.top,AV.top,AV.top,AV.top,AV.top,AV.top,AV.top,AV.top,AV.top,AV.top,(AV.ros hc 0 n c e),(AV.int IntKind.i64 (ops0.ofn n)),(AV.int IntKind.i64 (Int.ofNat 0)),AV.top,AV.top,AV.top,AV.top,AV.top,AV.top,AV.top,AV.top,AV.top,AV.top,AV.top,AV.top,AV.top,AV.top,AV.top,AV.top,AV.top,AV.top,AV.top,AV.top,AV.top,AV.top,AV.top,AV.top,AV.top,AV.top,AV.top,AV.top,AV.top,AV.top,AV.top,AV.top,AV.top,AV.top,AV.top,AV.top,AV.top,AV.top,AV.top,AV.top,AV.top,AV.top,AV.top,AV.top,AV.top,AV.top,AV.top,AV.top,AV.top,AV.top,AV.top,AV.top,AV.top,AV.top,AV.top,AV.top]:Fr) = [(AV.ros ks ko kn kc ke),AV.top,AV.top,AV.top,AV.top,(AV.ptr 0 0),(AV.ptr 1 0),(AV.ptr 2 0),AV.nils,(AV.int IntKind.i64 (Int.ofNat 0)),(AV.ptr 3 0),AV.top,AV.top,AV.top,AV.top,AV.top,AV.top,AV.top,AV.top,AV.top,AV.top,AV.top,AV.top,AV.top,AV.top,AV.top,AV.top,AV.top,AV.top,AV.top,AV.top,AV.top,AV.top,(AV.ros hc 0 n c e),(AV.int IntKind.i64 (Int.ofNat n)),(AV.int IntKind.i64 (Int.ofNat 0)),AV.top,AV.top,AV.top,AV.top,AV.top,AV.top,AV.top,AV.top,AV.top,AV.top,AV.top,AV.top,AV.top,AV.top,AV.top,AV.top,AV.top,AV.top,AV.top,AV.top,AV.top,AV.top,AV.top,AV.top,AV.top,AV.top,AV.top,AV.top,AV.top,AV.top,AV.top,AV.top,AV.top,AV.top,AV.top,AV.top,AV.top,AV.top,AV.top,AV.top,AV.top,AV.top,AV.top,AV.top,AV.top,AV.top,AV.top,AV.top,AV.top,AV.top,AV.top,AV.top,AV.top,AV.top,AV.top,AV.top]) /\
 ((([(AV.int IntKind.i64 (ops0.bin BinOp.sub IntKind.i64 (ops0.ofn n) (Int.ofNat 1)))]:(List AV)) = [(AV.int IntKind.i64 (Int.ofNat (n - 1)))]) /\
 ((PHs hc n) /\
 ((FlatH [(AV.agg ks)]) /\
 ((FlatH [(AV.ros hc 0 n c e)]) /\
 ((FlatH ns) /\
 (FlatH hs))))))))) /\
 (Chk (z hc n)
 (Chk (ops0.le 32 (ops0.len ns))
 (((P65 ks ko kn (ops0.ext ns 0 32)) /\
 (1<=kn)) /\
 (((PFil (OZ.keys Z (ops0.ext ns 0 32) ks ko kn) kn) /\
 (kn<=kn)) /\
 (Br (VFn.one V kn)
 (Q [(AV.ros ks ko kn kc ke),AV.top,AV.top,AV.top,AV.top,(AV.ptr 0 0),(AV.ptr 1 0),(AV.ptr 2 0),AV.nils,(AV.int IntKind.i64 (Int.ofNat 0)),(AV.ptr 3 0),AV.top,AV.top,(AV.slc 4 0 kn kn 32),(AV.ptr 5 0),(AV.ptr 7 0),(AV.ptr 8 0),AV.top,AV.top,AV.top,AV.top,AV.top,AV.top,AV.top,AV.top,AV.top,AV.top,AV.top,AV.top,AV.top,AV.top,AV.top,AV.top,(AV.ros hc 0 n c e),(AV.int IntKind.i64 (Int.ofNat n)),(AV.int IntKind.i64 (Int.ofNat n)),AV.top,AV.top,AV.top,AV.top,AV.top,AV.top,AV.top,AV.top,AV.top,AV.top,AV.top,AV.top,AV.top,AV.top,AV.top,AV.top,AV.top,(AV.ros ks ko kn kc ke),(AV.agg (ops0.ext ns 0 32)),(AV.slc 4 0 kn kn 32),(AV.slc 4 0 kn kn 32),AV.nils,(AV.slc 6 0 2048 2048 1),(AV.slc 4 0 kn kn 32),(AV.fn 105 [] [(AV.ptr 9 0)]),AV.top,AV.top,AV.top,AV.top,AV.top,AV.top,AV.top,AV.top,AV.top,AV.top,AV.top,AV.top,AV.top,AV.top,AV.top,AV.top,AV.top,AV.top,AV.top,AV.top,AV.top,AV.top,AV.top,AV.top,AV.top,AV.top,AV.top,AV.top,AV.top,AV.top,AV.top] [(Blk.cells [(AV.ros hc 0 n c e)]),(Blk.cells ns),(Blk.cells hs),(Blk.cells [(AV.int IntKind.i64 (ops0.bin BinOp.sub IntKind.i64 (ops0.ofn n) (Int.ofNat 1)))]),(Blk.cells (OZ.keys Z (ops0.ext ns 0 32) ks ko kn)),(Blk.cells [AV.nils]),(Blk.cells (z8 2048)),(Blk.cells [(AV.slc 6 0 2048 2048 1)]),(Blk.cells (z8 32)),(Blk.cells [(AV.slc 4 0 kn kn 32)])])
 (Q [(AV.ros ks ko kn kc ke),AV.top,AV.top,AV.top,AV.top,(AV.ptr 0 0),(AV.ptr 1 0),(AV.ptr 2 0),AV.nils,(AV.int IntKind.i64 (Int.ofNat 0)),(AV.ptr 3 0),AV.top,AV.top,(AV.slc 4 0 kn kn 32),(AV.ptr 6 0),(AV.ptr 8 0),(AV.ptr 9 0),AV.top,AV.top,AV.top,AV.top,AV.top,AV.top,AV.top,AV.top,AV.top,AV.top,AV.top,AV.top,AV.top,AV.top,AV.top,AV.top,(AV.ros hc 0 n c e),(AV.int IntKind.i64 (Int.ofNat n)),(AV.int IntKind.i64 (Int.ofNat n)),AV.top,AV.top,AV.top,AV.top,AV.top,AV.top,AV.top,AV.top,AV.top,AV.top,AV.top,AV.top,AV.top,AV.top,AV.top,AV.top,AV.top,(AV.ros ks ko kn kc ke),(AV.agg (ops0.ext ns 0 32)),(AV.slc 4 0 kn kn 32),(AV.slc 4 0 kn kn 32),(AV.slc 5 (2304 - (256*(kn - 1))) (256*(kn - 1)) (256*(kn - 1)) 1),(AV.slc 7 0 2048 2048 1),(AV.slc 4 0 kn kn 32),(AV.fn 105 [] [(AV.ptr 10 0)]),AV.top,AV.top,AV.top,AV.top,AV.top,AV.top,AV.top,AV.top,AV.top,AV.top,AV.top,AV.top,AV.top,AV.top,AV.top,AV.top,AV.top,AV.top,AV.top,AV.top,AV.top,AV.top,AV.top,AV.top,AV.top,AV.top,AV.top,AV.top,AV.top,AV.top,AV.top] [(Blk.cells [(AV.ros hc 0 n c e)]),(Blk.cells ns),(Blk.cells hs),(Blk.cells [(AV.int IntKind.i64 (ops0.bin BinOp.sub IntKind.i64 (ops0.ofn n) (Int.ofNat 1)))]),(Blk.cells (OZ.keys Z (ops0.ext ns 0 32) ks ko kn)),(Blk.cells (VFn.fil V (OZ.keys Z (ops0.ext ns 0 32) ks ko kn) kn)),(Blk.cells [(AV.slc 5 (2304 - (256*(kn - 1))) (256*(kn - 1)) (256*(kn - 1)) 1)]),(Blk.cells (z8 2048)),(Blk.cells [(AV.slc 7 0 2048 2048 1)]),(Blk.cells (z8 32)),(Blk.cells [(AV.slc 4 0 kn kn 32)])]))))))))))):=by kernel_rfl
theorem vsuf(V:VFn)(Z:OZ)(O:OY)(F:HF)(B0 B3 B4 B5 B8:Blk)(ns hs nx bd:List AV)(Q:Ex->Fr->Hl->Prop) :
  (vm (vcA kdS (cnP V Z O F) noLn) ops0 tab60 200 0 suf60 fr60s [B0,.cells ns,.cells hs,B3,B4,B5,.cells [.slc 9 0 2048 2048 1],.cells nx,B8,.cells bd] [] (fun ex fr H _=>Q ex fr H)) =
 ((Chk (ops0.le 32 (ops0.len ns))
 (Chk (ops0.le 32 (ops0.len nx))
 (Chk (ops0.le 32 (ops0.len (ops0.ext ns 0 32)))
 (Chk (ops0.le 32 (ops0.len (ops0.ext nx 0 32)))
 (Chk (ops0.le 32 (ops0.len (ops0.ext ns 0 32)))
 (Chk (ops0.le 32 (ops0.len (ops0.app [] (ops0.ext (ops0.ext ns 0 32) 0 32))))
 (Chk (ops0.le 32 (ops0.len (ops0.ext nx 0 32)))
 (Chk (ops0.le 64 (ops0.len (ops0.app (ops0.ext (ops0.app [] (ops0.ext (ops0.ext ns 0 32) 0 32)) 0 32) (ops0.ext (ops0.ext nx 0 32) 0 32))))
 (Chk (ops0.le 2048 (ops0.len bd))
 (Q Ex.ret [AV.top,AV.top,AV.top,AV.top,AV.top,AV.top,(AV.ptr 1 0),AV.top,(AV.slc 15 0 2112 2112 1),(AV.int IntKind.i64 (Int.ofNat 0)),AV.top,AV.top,AV.top,AV.top,AV.top,(AV.ptr 6 0),(AV.ptr 7 0),AV.top,AV.top,AV.top,AV.top,AV.top,AV.top,AV.top,AV.top,AV.top,AV.top,AV.top,AV.top,AV.top,AV.top,AV.top,AV.top,AV.top,AV.top,AV.top,AV.top,AV.top,AV.top,AV.top,AV.top,AV.top,AV.top,AV.top,AV.top,AV.top,AV.top,AV.top,AV.top,AV.top,AV.top,AV.top,AV.top,AV.top,AV.top,AV.top,AV.top,AV.top,AV.top,AV.top,AV.top,AV.top,AV.top,AV.top,AV.top,AV.top,AV.top,AV.top,AV.top,AV.top,AV.top,AV.top,AV.top,AV.top,AV.top,AV.top,AV.top,AV.top,AV.top,AV.top,AV.top,AV.top,AV.top,AV.top,AV.top,AV.top,AV.top,AV.top,(AV.agg (ops0.ext ns 0 32)),(AV.agg (ops0.ext nx 0 32)),(AV.slc 9 0 2048 2048 1),(AV.slc 15 0 2112 2112 1)] [B0,(Blk.cells ns),(Blk.cells hs),B3,B4,B5,(Blk.cells [(AV.slc 9 0 2048 2048 1)]),(Blk.cells nx),B8,(Blk.cells bd),(Blk.cells (ops0.ext ns 0 32)),(Blk.cells (ops0.ext nx 0 32)),Blk.dead,Blk.dead,Blk.dead,(Blk.cells (ops0.app (ops0.ext (ops0.app (ops0.ext (ops0.app [] (ops0.ext (ops0.ext ns 0 32) 0 32)) 0 32) (ops0.ext (ops0.ext nx 0 32) 0 32)) 0 64) (ops0.ext bd 0 2048)))]))))))))))):=by kernel_rfl
end
end Go.Proofs.Vm

namespace Go.Proofs.Vm
set_option maxRecDepth 100000
open Go.Vm
noncomputable section
def frc60:Fr := [.top,.top,.top,.top,.top,.ptr 0 0,.ptr 1 0,.ptr 2 0,.nils,.int .i64 0,.ptr 3 0,.top,.top,.top,.ptr 5 0,.ptr 6 0,.ptr 7 0,.top,.top,.top,.top,.top,.top,.top,.top,.top,.top,.top,.top,.top,.top,.top,.top,.top,.top,.top,.top,.top,.top,.top,.top,.top,.top,.top,.top,.top,.top,.top,.top,.top,.top,.top,.top,.top,.top,.top,.top,.top,.top,.top,.fn 105 [] [.ptr 8 0],.top,.top,.top,.top,.top,.top,.top,.top,.top,.top,.top,.top,.top,.top,.top,.top,.top,.top,.top,.top,.top,.top,.top,.top,.top,.top,.top,.top,.top,.top,.top]
def mkc60:List Bool := [true,true,true,true,true,false,false,false,false,false,false,true,true,true,false,false,false,true,true,true,true,true,true,true,true,true,true,true,true,true,true,true,true,true,true,true,true,true,true,true,true,true,true,true,true,true,true,true,true,true,true,true,true,true,true,true,true,true,true,true,false,true,true,true,true,true,true,true,true,true,true,true,true,true,true,true,true,true,true,true,true,true,true,true,true,true,true,true,true,true,true,true]
def frA60:Fr := [.top,.top,.top,.top,.top,.ptr 0 0,.ptr 1 0,.ptr 2 0,.nils,.int .i64 0,.ptr 3 0,.top,.top,.top,.ptr 5 0,.ptr 7 0,.ptr 8 0,.top,.top,.top,.top,.top,.top,.top,.top,.top,.top,.top,.top,.top,.top,.top,.top,.top,.top,.top,.top,.top,.top,.top,.top,.top,.top,.top,.top,.top,.top,.top,.top,.top,.top,.top,.top,.top,.top,.top,.top,.top,.top,.top,.fn 105 [] [.ptr 9 0],.top,.top,.top,.top,.top,.top,.top,.top,.top,.top,.top,.top,.top,.top,.top,.top,.top,.top,.top,.top,.top,.top,.top,.top,.top,.top,.top,.top,.top,.top,.top]
def frB60:Fr := [.top,.top,.top,.top,.top,.ptr 0 0,.ptr 1 0,.ptr 2 0,.nils,.int .i64 0,.ptr 3 0,.top,.top,.top,.ptr 6 0,.ptr 8 0,.ptr 9 0,.top,.top,.top,.top,.top,.top,.top,.top,.top,.top,.top,.top,.top,.top,.top,.top,.top,.top,.top,.top,.top,.top,.top,.top,.top,.top,.top,.top,.top,.top,.top,.top,.top,.top,.top,.top,.top,.top,.top,.top,.top,.top,.top,.fn 105 [] [.ptr 10 0],.top,.top,.top,.top,.top,.top,.top,.top,.top,.top,.top,.top,.top,.top,.top,.top,.top,.top,.top,.top,.top,.top,.top,.top,.top,.top,.top,.top,.top,.top,.top]
theorem qjh{L L':List (List UInt8)}:∀ (m:Nat),(∀ i,i<m->L.getD i []=L'.getD i [])->fillA L m=fillA L' m
 | 0,_=>rfl
 | m+1,h=>by
  show maskL (L.getD m []) bodyW (qdd m ((fillA L m).drop _))=maskL (L'.getD m []) bodyW (qdd m ((fillA L' m).drop _))
  rw[qjh m fun i hi=>h i (by omega),h m (by omega)]
def vfn0:VFn:=⟨fun kc n=>(fillA (shA kc 0 n) (n - 1)).map by8,fun n=>decide (n=1)⟩
theorem quz{cs:List AV}{o n m:Nat}{L:List (List UInt8)}(h:ShAt cs o n L)(hm:m<=n):ShAt cs o m (L.take m):=by
 refine⟨by rw[List.length_take,h.1]; omega,fun i x hx => ?_⟩
 rw[List.getElem?_take] at hx
 split at hx
 ·exact h.2 i x hx
 ·cases hx
theorem qx9:CnOK Try.prog (cnP vfn0 oz0 of1 hf0):=by
 refine qfl ?_ qbf
 intro f vals H p x e hp
 dsimp only at e
 split at e
 ·rename_i y
  split at e<;>cases e
  rename_i kc n c ex hv
  obtain⟨⟨hf,h1,h8,hl,L,hL⟩,hc⟩:=hp
  have hn1:n - 1+1=n:=by omega
  have h84:=q17 (m:=n - 1) (o:=0) c ex hf (by omega) (by omega) (quz hL (by omega)) (by omega)
  rw[hn1] at h84
  have hfa:fillA (L.take (n - 1)) (n - 1)=fillA (shA kc 0 n) (n - 1):=by
   rw[qcr hL]
   refine qjh _ fun i hi => ?_
   rw[List.getD_eq_getElem?_getD,List.getD_eq_getElem?_getD,List.getElem?_take,if_pos hi]
  by_cases h:n=1
  ·have hz:vfn0.one n=true:=decide_eq_true h
   rw[hz]
   exact CallTo.lookV (H:=H) (h84.1 (by omega)) (.cons (Vw.one hv hf) .nil)
  ·have hz:vfn0.one n=false:=decide_eq_false h
   rw[hz]
   have h2:=h84.2 (by omega)
   rw[hfa] at h2
   exact CallTo.lookS (H:=H) h2 (qac _) (.cons (Vw.one hv hf) .nil)
 ·cases e
theorem qpv:∀ f vf,tab60 f=some vf->FnOK Try.prog f vf:=by
 intro f vf h
 unfold tab60 at h
 split at h<;>cases h
 ·exact ok60
 ·exact ok82
 ·exact ok85
 ·exact ok89
 ·exact ok96
 ·exact ok110
theorem Weak.trans{n0:Nat}{fr fr1 fr2:Fr}{H H1 H2:Hl}(h:Weak n0 fr H fr1 H1)(k:Weak n0 fr1 H1 fr2 H2):Weak n0 fr H fr2 H2 where
 grow:=k.grow
 does ρ w hg:=by
  obtain⟨ρ1,g1,E1,f1⟩:=h.does ρ w hg
  obtain⟨ρ2,g2,E2,f2⟩:=k.does ρ1 w g1
  exact⟨ρ2,g2,E1.trans E2,fun t ht=>f2 t (f1 t ht)⟩
theorem Weak.cell{n0:Nat}{fr:Fr}{A B:Hl}{x y:AV}(hn:n0<=(A ++ .cells [x]::B).length)(hv:VLe x y):Weak n0 fr (A ++ .cells [x]::B) fr (A ++ .cells [y]::B) where
 grow:=by simp at hn ⊢; exact hn
 does ρ w hg:=by
  have e:∀ b,b≠A.length->(A ++ .cells [x]::B)[b]? = (A ++ .cells [y]::B)[b]? := by
   intro b hb
   rcases Nat.lt_or_ge b A.length with h|h
   ·rw[List.getElem?_append_left h,List.getElem?_append_left h]
   ·rw[List.getElem?_append_right h,List.getElem?_append_right h]
    obtain⟨k,hk⟩:∃ k,b - A.length=k+1:=⟨b - A.length - 1,by omega⟩
    rw[hk]; rfl
  have e1:(A ++ .cells [x]::B)[A.length]? = some (.cells [x]):=by rw[List.getElem?_append_right (Nat.le_refl _),Nat.sub_self]; rfl
  have e2:(A ++ .cells [y]::B)[A.length]? = some (.cells [y]):=by rw[List.getElem?_append_right (Nat.le_refl _),Nat.sub_self]; rfl
  refine⟨ρ,⟨fun b hb => ?_,fun b hb => ?_,hg.inj,fun b cs hb => ?_,hg.marks⟩,Ext.refl _ _ _,fun _ h=>h⟩
  ·by_cases h:b=A.length
   ·subst h;rw[e2] at hb;cases hb
   ·exact hg.unborn b (by rw[e b h]; exact hb)
  ·by_cases h:b=A.length
   ·subst h;rw[e2] at hb;cases hb
   ·exact hg.dead b (by rw[e b h]; exact hb)
  ·by_cases h:b=A.length
   ·subst h
    rw[e2] at hb
    cases hb
    rcases hg.live A.length _ e1 with ⟨_,h0⟩|⟨B',F,c,el,lo,hi,h1,h2,h3,h4,h5⟩
    ·cases h0
    ·refine .inr ⟨B',F,c,el,lo,hi,h1,h2,h3,h4,fun i a ha => ?_⟩
     cases i with
     | zero =>
      cases ha
      obtain⟨v,v1,v2,v3⟩:=h5 0 x rfl
      exact⟨v,v1,v2,hv ρ w v v3⟩
     | succ i=>cases ha
   ·exact hg.live b cs (by rw[e b h]; exact hb)
def pcs60:List Code := [lc (rs 0 c60),lc (rs 1 c60),lc (rs 2 c60),lc (rs 3 c60),lc (rs 4 c60),lc (rs 5 c60),lc (rs 6 c60),lc (rs 7 c60),lc (lc (rs 8 c60))]
theorem q2s:vcSeq Try.prog pcs60=pre60:=by kernel_rfl
structure Arg60(ks hc:List AV)(n:Nat)(hs:List Hop)(L:List (List UInt8))(nn hash:List UInt8)(ko:Nat):Prop where
 kf:flatL ks
 hops:PHs hc n
 hp:HpAt hc n hs
 keys:PSh ks ko n
 sh:ShAt ks ko n L
 nn:nn.length=32
 hash:hash.length=32
 n1:1<=n
 n8:n<=8
 ok:okHs hs n=true
theorem z8_zs(n:Nat):z8 n=(zs n).map by8:=by unfold zs z8;rw[List.map_replicate]
theorem quh(L:List (List UInt8)){n:Nat}(h1:1<=n)(h8:n<=8)(hn:n≠1):qan ((fillA L (n - 1)).map by8) (2304 - 256*(n - 1)) (256*(n - 1)) (fillL L (n - 1)):=by
 have hl:=qcz L (n - 1) (by omega)
 refine⟨by unfold fillL;rw[List.length_drop,hl]; omega,?_⟩
 unfold fillL
 rw[<-List.map_drop,List.take_of_length_le (by rw[List.length_map,List.length_drop,hl]; omega)]
def Pre60(hc:List AV)(n c:Nat)(e:Bool)(nn hash:List UInt8)(hs:List Hop)(K:List (List UInt8))(fr:Fr)(H:Hl):Prop :=
 ∃ fc fo fl fcap,In60 hc n (K.flatten.map by8) fc fo fl hs K hash (fillL K (n - 1))/\Weak 0 fr H frc60 (S60 hc n c e (nn.map by8) (K.flatten.map by8) fc fo fl fcap hs K hash (fillL K (n - 1)) 0)
theorem qlq(L:List (List UInt8))(nn:List UInt8)(n:Nat):ShAt ((keysL L nn n).flatten.map by8) 0 n (keysL L nn n):=by
 refine⟨qcm _ _ _,fun i x hx=>⟨qex _ _ _ x (List.mem_of_getElem? hx),?_⟩⟩
 rw[Nat.zero_add]
 exact qe2 (qex _ _ _) hx
theorem qzc{ks hc:List AV}{n:Nat}(c:Nat)(e:Bool){hs:List Hop}{L:List (List UInt8)}{nn hash:List UInt8}{ko:Nat}(kc:Nat)(ke:Bool)(h:Arg60 ks hc n hs L nn hash ko) :
  vm (vcA kdS (cnP vfn0 oz0 of1 hf0) (ln60 zV)) ops0 tab60 200 0 pre60 (join [.ros ks ko n kc ke,.ros hc 0 n c e,.agg (nn.map by8),.agg (hash.map by8)] (pad 88)) [] [] (fun ex fr H _=>match ex with
   | .norm=>Pre60 hc n c e nn hash hs (keysL L nn n) fr H
   | _=>False):=by
 obtain⟨hkf,hops,hp,hkeys,hsh,hnn,hhash,h1,h8,hok⟩:=h
 have hz:zV hc n=true:=by unfold zV;rw[qcs hp]; exact hok
 have hpos:∀ h,h∈hs->h.pos:=by
  intro h hm
  obtain⟨i,hi⟩:=List.getElem?_of_mem hm
  have hl:i<hs.length:=(List.getElem?_eq_some_iff.1 hi).1
  have:=List.all_eq_true.1 hok i (List.mem_range.2 (by rw[<-hp.1]; exact hl))
  unfold okAt at this
  rw[List.getD_eq_getElem?_getD,hi] at this
  have h2:=(Bool.and_eq_true _ _ ▸ this:_/\_).1
  exact Hop.may_pos h2
 have ek:oz0.keys (nn.map by8) ks ko n=(keysL L nn n).flatten.map by8:=by
  show(keysL (shA ks ko n) (qag _) _).flatten.map by8=_
  rw[qab,qcr hsh]
 have hkl:((keysL L nn n).flatten.map by8).length=n*32:=by rw[List.length_map,qdb (qex L nn n),qcm]
 have ef:vfn0.fil ((keysL L nn n).flatten.map by8) n=(fillA (keysL L nn n) (n - 1)).map by8:=by
  show(fillA (shA _ 0 n) (n - 1)).map by8=_
  rw[qcr (qlq L nn n)]
 refine(vpre vfn0 oz0 of1 hf0 zV ks hc (nn.map by8) (hash.map by8) n c e ko n kc ke (Pre60 hc n c e nn hash hs (keysL L nn n))).mpr ?_
 rw[hz,qa5 hnn,ek,ef]
 generalize hK:keysL L nn n=K at *
 have K32:∀ x,x∈K->x.length=32:=by rw[<-hK]; exact qex _ _ _
 have Kl:K.length=n:=by rw[<-hK]; exact qcm _ _ _
 have Ksh:ShAt (K.flatten.map by8) 0 n K:=by rw[<-hK]; exact qlq L nn n
 refine Chk.mk (by rw[nOfn,nGeq]; exact decide_eq_true h1) (Chk.mk (by rw[nOfn,nLeq]; exact decide_eq_true h8) (Br.f (by rw[nOfn,nNeq]; simp) ?_))
 refine⟨⟨rfl,rfl,rfl,by rw[nOfn,nSub h1 (by omega)],hops,fun σ φ=>by simp only[renL,ren,qaa hkf],FlatH.ros hops.1 _ _ _ _,FlatH.flat (qac _),FlatH.flat (qac _)⟩,?_⟩
 refine Chk.mk rfl (Chk.mk (by rw[nLen,List.length_map,hnn]; rfl) ⟨⟨⟨hkeys,by omega,pkey _ hnn⟩,h1⟩,⟨⟨qac _,h1,h8,by omega,K,Ksh⟩,Nat.le_refl _⟩,?_⟩)
 have es:ops0.bin .sub .i64 (ops0.ofn n) (Int.ofNat 1)=Int.ofNat (n - 1):=by rw[nOfn,nSub h1 (by omega)]
 rw[es]
 refine Br.mk (fun ho => ?_) (fun ho => ?_)
 ·have ho:=of_decide_eq_true ho
  subst ho
  have hf0:fillL K (1 - 1) = []:=List.eq_nil_of_length_eq_zero (by unfold fillL;rw[List.length_drop,qcz K _ (by omega)])
  refine⟨[],0,0,0,⟨hp,hops.1,hpos,rfl,Kl,K32,h8,hhash,(fun a h=>by cases h),by rw[hf0]; exact⟨rfl,rfl⟩,Nat.le_refl _,Nat.zero_le _⟩,?_⟩
  refine(Weak.forget (Nat.zero_le _) mkc60).trans ?_
  show Weak 0 frA60 _ _ _
  have w1:=Weak.pickV (n0:=0) (fr:=frA60) (H := [.cells [.ros hc 0 1 c e],.cells (nn.map by8),.cells (hash.map by8),.cells [.int .i64 (Int.ofNat (1 - 1))],.cells (K.flatten.map by8),.cells [.nils],.cells (z8 2048),.cells [.slc 6 0 2048 2048 1],.cells (z8 32),.cells [.slc 4 0 1 1 32]]) [0,1,2,3,4,5,7,8,9,6] mkc60 1 (by simp) (by simp) (by simp)
  have e1:∀ φ,forget mkc60 (renL (pickN [0,1,2,3,4,5,7,8,9,6]) φ true frA60)=frc60:=by
   intro φ
   have p0:pickN [0,1,2,3,4,5,7,8,9,6] 0=some 0:=rfl
   have p1:pickN [0,1,2,3,4,5,7,8,9,6] 1=some 1:=rfl
   have p2:pickN [0,1,2,3,4,5,7,8,9,6] 2=some 2:=rfl
   have p3:pickN [0,1,2,3,4,5,7,8,9,6] 3=some 3:=rfl
   have p5:pickN [0,1,2,3,4,5,7,8,9,6] 5=some 5:=rfl
   have p7:pickN [0,1,2,3,4,5,7,8,9,6] 7=some 6:=rfl
   have p8:pickN [0,1,2,3,4,5,7,8,9,6] 8=some 7:=rfl
   have p9:pickN [0,1,2,3,4,5,7,8,9,6] 9=some 8:=rfl
   unfold frA60 mkc60 frc60
   simp only[renL,ren,forget,p0,p1,p2,p3,p5,p7,p8,p9]
  rw[e1] at w1
  refine w1.trans ?_
  have e2:pickH (viewF [.cells [.ros hc 0 1 c e],.cells (nn.map by8),.cells (hash.map by8),.cells [.int .i64 (Int.ofNat (1 - 1))],.cells (K.flatten.map by8),.cells [.nils],.cells (z8 2048),.cells [.slc 6 0 2048 2048 1],.cells (z8 32),.cells [.slc 4 0 1 1 32]] [0,1,2,3,4,5,7,8,9,6] 1) [0,1,2,3,4,5,7,8,9,6] [.cells [.ros hc 0 1 c e],.cells (nn.map by8),.cells (hash.map by8),.cells [.int .i64 (Int.ofNat (1 - 1))],.cells (K.flatten.map by8),.cells [.nils],.cells (z8 2048),.cells [.slc 6 0 2048 2048 1],.cells (z8 32),.cells [.slc 4 0 1 1 32]]
    = H60 hc 1 c e (nn.map by8) (hash.map by8) (Int.ofNat (1 - 1)) (K.flatten.map by8) .nils ((zs 32).map by8) ((zs 2048).map by8):=by
   show [renB _ _ true (.cells [.ros hc 0 1 c e]),renB _ _ true (.cells (nn.map by8)),renB _ _ true (.cells (hash.map by8)),renB _ _ true (.cells [.int .i64 (Int.ofNat (1 - 1))]),renB _ _ true (.cells (K.flatten.map by8)),renB _ _ true (.cells [.nils]),renB _ _ true (.cells [.slc 6 0 2048 2048 1]),renB _ _ true (.cells (z8 32)),renB _ _ true (.cells [.slc 4 0 1 1 32]),renB _ _ true (.cells (z8 2048))]=_
   have p4:pickN [0,1,2,3,4,5,7,8,9,6] 4=some 4:=rfl
   have p6:pickN [0,1,2,3,4,5,7,8,9,6] 6=some 9:=rfl
   rw[z8_zs,z8_zs]
   simp only[renB,renL,ren,p4,p6,qaa hops.1,qaa (qac _)]
   rfl
  rw[e2]
  exact Weak.cell (A := [.cells [.ros hc 0 1 c e],.cells (nn.map by8),.cells (hash.map by8),.cells [.int .i64 (Int.ofNat (1 - 1))],.cells (K.flatten.map by8)]) (Nat.zero_le _) (VLe.trans VLe.nils (VLe.loose _ _ _ _ _))
 ·have ho:n≠1:=of_decide_eq_false ho
  refine⟨(fillA K (n - 1)).map by8,2304 - 256*(n - 1),256*(n - 1),256*(n - 1),⟨hp,hops.1,hpos,rfl,Kl,K32,h8,hhash,qac _,quh K h1 h8 ho,by rw[List.length_map,qcz K _ (by omega)]; omega,by omega⟩,?_⟩
  refine(Weak.forget (Nat.zero_le _) mkc60).trans ?_
  show Weak 0 frB60 _ _ _
  have w1:=Weak.pickV (n0:=0) (fr:=frB60) (H := [.cells [.ros hc 0 n c e],.cells (nn.map by8),.cells (hash.map by8),.cells [.int .i64 (Int.ofNat (n - 1))],.cells (K.flatten.map by8),.cells ((fillA K (n - 1)).map by8),.cells [.slc 5 (2304 - 256*(n - 1)) (256*(n - 1)) (256*(n - 1)) 1],.cells (z8 2048),.cells [.slc 7 0 2048 2048 1],.cells (z8 32),.cells [.slc 4 0 n n 32]]) [0,1,2,3,4,6,8,9,10,7] mkc60 1 (by simp) (by simp) (by simp)
  have e1:∀ φ,forget mkc60 (renL (pickN [0,1,2,3,4,6,8,9,10,7]) φ true frB60)=frc60:=by
   intro φ
   have p0:pickN [0,1,2,3,4,6,8,9,10,7] 0=some 0:=rfl
   have p1:pickN [0,1,2,3,4,6,8,9,10,7] 1=some 1:=rfl
   have p2:pickN [0,1,2,3,4,6,8,9,10,7] 2=some 2:=rfl
   have p3:pickN [0,1,2,3,4,6,8,9,10,7] 3=some 3:=rfl
   have p6:pickN [0,1,2,3,4,6,8,9,10,7] 6=some 5:=rfl
   have p8:pickN [0,1,2,3,4,6,8,9,10,7] 8=some 6:=rfl
   have p9:pickN [0,1,2,3,4,6,8,9,10,7] 9=some 7:=rfl
   have p10:pickN [0,1,2,3,4,6,8,9,10,7] 10=some 8:=rfl
   unfold frB60 mkc60 frc60
   simp only[renL,ren,forget,p0,p1,p2,p3,p6,p8,p9,p10]
  rw[e1] at w1
  have e2:pickH (viewF [.cells [.ros hc 0 n c e],.cells (nn.map by8),.cells (hash.map by8),.cells [.int .i64 (Int.ofNat (n - 1))],.cells (K.flatten.map by8),.cells ((fillA K (n - 1)).map by8),.cells [.slc 5 (2304 - 256*(n - 1)) (256*(n - 1)) (256*(n - 1)) 1],.cells (z8 2048),.cells [.slc 7 0 2048 2048 1],.cells (z8 32),.cells [.slc 4 0 n n 32]] [0,1,2,3,4,6,8,9,10,7] 1) [0,1,2,3,4,6,8,9,10,7] [.cells [.ros hc 0 n c e],.cells (nn.map by8),.cells (hash.map by8),.cells [.int .i64 (Int.ofNat (n - 1))],.cells (K.flatten.map by8),.cells ((fillA K (n - 1)).map by8),.cells [.slc 5 (2304 - 256*(n - 1)) (256*(n - 1)) (256*(n - 1)) 1],.cells (z8 2048),.cells [.slc 7 0 2048 2048 1],.cells (z8 32),.cells [.slc 4 0 n n 32]]
    = H60 hc n c e (nn.map by8) (hash.map by8) (Int.ofNat (n - 1)) (K.flatten.map by8) (.ros ((fillA K (n - 1)).map by8) (2304 - 256*(n - 1)) (256*(n - 1)) (256*(n - 1)) false) ((zs 32).map by8) ((zs 2048).map by8):=by
   show [renB _ _ true (.cells [.ros hc 0 n c e]),renB _ _ true (.cells (nn.map by8)),renB _ _ true (.cells (hash.map by8)),renB _ _ true (.cells [.int .i64 (Int.ofNat (n - 1))]),renB _ _ true (.cells (K.flatten.map by8)),renB _ _ true (.cells [.slc 5 (2304 - 256*(n - 1)) (256*(n - 1)) (256*(n - 1)) 1]),renB _ _ true (.cells [.slc 7 0 2048 2048 1]),renB _ _ true (.cells (z8 32)),renB _ _ true (.cells [.slc 4 0 n n 32]),renB _ _ true (.cells (z8 2048))]=_
   have p4:pickN [0,1,2,3,4,6,8,9,10,7] 4=some 4:=rfl
   have p7:pickN [0,1,2,3,4,6,8,9,10,7] 7=some 9:=rfl
   have p5:pickN [0,1,2,3,4,6,8,9,10,7] 5=none:=rfl
   have v5:viewF [.cells [.ros hc 0 n c e],.cells (nn.map by8),.cells (hash.map by8),.cells [.int .i64 (Int.ofNat (n - 1))],.cells (K.flatten.map by8),.cells ((fillA K (n - 1)).map by8),.cells [.slc 5 (2304 - 256*(n - 1)) (256*(n - 1)) (256*(n - 1)) 1],.cells (z8 2048),.cells [.slc 7 0 2048 2048 1],.cells (z8 32),.cells [.slc 4 0 n n 32]] [0,1,2,3,4,6,8,9,10,7] 1 5=some ((fillA K (n - 1)).map by8):=by
    show some (renL _ _ true ((fillA K (n - 1)).map by8))=_
    rw[qaa (qac _)]
   rw[z8_zs,z8_zs] at v5 ⊢
   simp only[renB,renL,ren,p4,p5,p7,v5,qaa hops.1,qaa (qac _)]
   rfl
  rw[e2] at w1
  exact w1
end
end Go.Proofs.Vm
