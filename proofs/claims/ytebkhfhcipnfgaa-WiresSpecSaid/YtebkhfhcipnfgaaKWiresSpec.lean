/-
 WiresSpec: the statement holds.
-/
import Derived.Test.YtebkhfhcipnfgaaTb4
import Derived.Test.YtebkhfhcipnfgaaChecked
import Derived.Test.YtebkhfhcipnfgaaRows
namespace Go.Proofs.Ytebkhfhcipnfgaa
set_option linter.unusedVariables false
set_option linter.unusedSimpArgs false
set_option maxHeartbeats 4000000
set_option maxRecDepth 100000
set_option linter.defProp false
theorem s0 {p:Prop} (h:p:=by rw[fu]; omega):p:=h
theorem An {p:Prop} (h:p:=by rw[e3]; simp):p:=h
theorem S7 {p:Prop} (h:p:=by rw[Fi]; simp; omega):p:=h
theorem Tc {p:Prop} (h:p:=by simp[fL]; omega):p:=h
theorem Td {p:Prop} (h:p:=by rw[List.length_cons]; omega):p:=h
theorem Tf {p:Prop} (h:p:=by rw[List.drop_zero]; simp; omega):p:=h
theorem Tg {p:Prop} (h:p:=by rw[decide_eq_false_iff_not]; omega):p:=h
def Uw:=@List.forall_mem_cons
def UC:=@bne_self_eq_false
def U7:=@BitVec.toNat_ofInt
def Vf:=@decide_eq_false_iff_not
def Vk:=@List.not_mem_nil
def Vt:=@Bool.not_false
def VD:=@decide_eq_true_iff
def VP:=@Int.fdiv_eq_ediv_of_nonneg
def Wb:=@Nat.pow_le_pow_right
def Wh:=@Nat.mul_assoc
def Wj:=@UInt8.ofNat_toNat
def Wt:=@List.length_drop
def WA:=@Int.le_refl
def WG:=@Nat.mul_le_mul
def WM:=@List.cons.inj
def WN:=@List.any_cons
def WR:=@ByteArray.toList_eq
def WU:=@Nat.pow_succ
def WX:=@Nat.pow_add
section
open Go.Proofs.Try (prog)
theorem xh:ew av:=fun x y h=>by
 unfold av at h
 simp only[Uj,A.v.injEq,UQ,US,UM,VF,Vr] at h
 have h3:=qM x y (by simp[h])
 obtain ⟨xKind,xN,xS,lx⟩:=x; obtain ⟨yKind,yN,yS,ly⟩:=y
 simp_all
theorem dc:ew ar:=fun x y h=>by
 obtain ⟨xFrom,xTo,xData⟩:=x; obtain ⟨yFrom,yTo,yData⟩:=y
 simp only[ar,Uj,A.v.injEq,A.imm.injEq,UQ,US,UM,VF,Vr,map_inj (mz)] at h
 simp_all
theorem jQ:ew au:=fun x y h=>by
 obtain ⟨x0_,x1_⟩:=x; obtain ⟨y0_,y1_⟩:=y
 simp only[au,Uj,A.v.injEq,A.imm.injEq,UQ,US,UM,VF,Vr] at h
 simp_all
theorem jt:ew b6:=fun x y h=>by
 obtain ⟨xQueue,xApart⟩:=x; obtain ⟨yQueue,yApart⟩:=y
 simp only[b6,Uj,A.v.injEq,A.imm.injEq,UQ,US,UM,VF,Vr,map_inj (dc),map_inj (mz),map_inj (jQ)] at h
 simp_all
theorem iB:ew aE:=fun x y h=>by
 obtain ⟨xNo,xRole,xBar,xProgram⟩:=x; obtain ⟨yNo,yRole,yBar,yProgram⟩:=y
 simp only[aE,Uj,A.v.injEq,A.imm.injEq,UQ,US,UM,VF,Vr] at h
 simp_all
theorem ou:ew aC:=fun x y h=>by
 obtain ⟨xCues,xGot,xDid⟩:=x; obtain ⟨yCues,yGot,yDid⟩:=y
 simp only[aC,Uj,A.v.injEq,A.imm.injEq,UQ,US,UM,VF,Vr,map_inj (iB),map_inj (qP .i64)] at h
 simp_all
theorem dh:ew ak:=fun x y h=>by
 obtain ⟨⟨xNetQueue,xNetApart⟩,xEars,xBar⟩:=x; obtain ⟨⟨yNetQueue,yNetApart⟩,yEars,yBar⟩:=y
 simp only[ak,Uj,A.v.injEq,A.imm.injEq,UQ,US,UM,VF,Vr,map_inj (dc),map_inj (mz),map_inj (jQ),map_inj (ou),map_inj (iB),map_inj (qP .i64)] at h
 simp_all
theorem nD:ew ax:=fun x y h=>by
 obtain ⟨xkind,⟨xcueNo,xcueRole,xcueBar,xcueProgram⟩,⟨xreportRole,xreportBar,xreportProgram⟩⟩:=x; obtain ⟨ykind,⟨ycueNo,ycueRole,ycueBar,ycueProgram⟩,⟨yreportRole,yreportBar,yreportProgram⟩⟩:=y
 simp only[ax,Uj,A.v.injEq,A.imm.injEq,UQ,US,UM,VF,Vr] at h
 simp_all
theorem cH {T:Type} {c:T->List A} (h:ew c):ew (fun x=>A.agg (c x)):=fun x y e=>h x y (A.agg.inj e)
theorem kE {T:Type} {f:T->List A} (h:ew f):ew (fun l:List T=>A.imm (l.map f) false):=fun x y e=>(map_inj h x y).1 (A.imm.inj e).1
theorem eF (k:IntKind):ew (fun n=>A.v (.int k n)):=fun x y e=>by simpa using e
theorem de {X:Type} {f:X->A} (hf:ew f):ew (fun x=>[f x]):=fun x y e=>hf x y (WM e).1
theorem gY {X Y:Type} {f:X->A} {g:Y->List A} (hf:ew f) (hg:ew g):ew (fun x:X×Y=>f x.1 :: g x.2):=fun x y e=>Prod.ext (hf _ _ (WM e).1) (hg _ _ (WM e).2)
theorem eh:ew al:=fun x y h=>xh x y (by rw[cJ,cJ]; exact h)
noncomputable def C0:Nat->List A->Option A:=fun _ _=>none
def bJ (C:Nat->List A->Option A):Prop:=∀ (k:Nat) (args:List A) (r:A),C k args=some r->en prog (cx C0).glob k args r
theorem Oj:bJ C0:=fun k args r h=>(by cases h)
theorem eU {C:Nat->List A->Option A} {k:Nat} {c:List A->Option A} (h:bJ C) (hc:∀ args r,c args=some r->en prog (cx C0).glob k args r):bJ (fC C k c):=fun j args r hr=>by
 simp only[fC] at hr
 rw[bu] at hr
 split at hr
 ·rename_i hj
  rw[TC hj]; exact hc args r hr
 ·exact h j args r hr
theorem Gc {C:Nat->List A->Option A} (hC:bJ C) (N k:Nat) (args:List A) (r:A) (h:MN C N k args=some r):en prog (cx C0).glob k args r:=by
 unfold MN at h
 split at h
 ·rename_i x H he
  cases h
  exact n0 (cx:=cx C) (fun k args r _ h=>hC k args r h) r8 he
 ·cases h
theorem yd:∀ m,bJ (Cn m)
 | 0=>fun k args r h=>(by cases h)
 | m+1=>fun k args r h=>Gc (yd m) 1000 k args r h
theorem b9 {X Y:Type} {C:Nat->List A->Option A} {k:Nat} {x:X->List A} {G:X->Option Y} {f:Y->A} (hC:bJ C) (h:∀ a,J (fun (o:R) y=>∃ v,o.1=.ret v/\bC o.2 v=f y) (aF (cx C) (dI (cx C) (aB+8)) (bF (cx C) (aB+8)) (aB+8) k (x a) [] 0) some (G a) some):bJ (fC C k fun args=>bG x (fun a=>(G a).map f) args):=eU hC fun args r h'=>by
 obtain ⟨a,y,rfl,hy,rfl⟩:=di h'
 exact xv (cx:=cx C) (fun k args r _ h=>hC k args r h) r8 (h a) hy
def Qz (x:Int×Int×Int):List A:=[(iA x.1),(iA x.2.1),(iA x.2.2)]
theorem Nt:ew Qz:=gY (eF .i64) (gY (eF .i64) (de (eF .i64)))
noncomputable def PM (args:List A):Option A:=bG Qz (fun x=>(xO x.1 x.2.1 x.2.2).map fun y=>(bA y)) args
noncomputable def C1:Nat->List A->Option A:=fC C0 30 PM
theorem GP:bJ C1:=b9 Oj fun x=>Q9 C0 aB  x.1 x.2.1 x.2.2
def Eo (x:Unit):List A:=[]
theorem Nu:ew Eo:=fun _ _ _=>rfl
noncomputable def PN (args:List A):Option A:=bG Eo (fun x=>(Mv ).map fun y=>(A.agg [(A.imm (List.map ar y.Queue) false),(A.imm (List.map au y.Apart) false)])) args
noncomputable def C2:Nat->List A->Option A:=fC C1 31 PN
theorem GQ:bJ C2:=b9 GP fun x=>Ra C1 aB
def pP (x:Int):List A:=[(iA x)]
theorem Na:ew pP:=de (eF .i64)
noncomputable def PA (args:List A):Option A:=bG pP (fun x=>(Eu x).map fun y=>(A.tup [(A.agg (ak y.1)),(iA y.2)])) args
theorem Eb {C:Nat->List A->Option A} (h:∀ a,C 30 a=PM a):p0 C:=fun a0 a1 a2=>(h _).trans (aM _ Nt (a0,a1,a2))
theorem OA {C:Nat->List A->Option A} (h:∀ a,C 31 a=PN a):EK C:=fun _=>(h _).trans (aM _ Nu ())
noncomputable def C3:Nat->List A->Option A:=fC C2 11 PA
theorem GR:bJ C3:=b9 GQ fun x=>QV C2 aB (Eb fun _=>r8) (OA fun _=>r8) x
def QO (x:Int×Int):List A:=[(iA x.1),(iA x.2)]
theorem NS:ew QO:=gY (eF .i64) (de (eF .i64))
noncomputable def Qa (args:List A):Option A:=bG QO (fun x=>(Lh x.1 x.2).map fun y=>(A.agg [(iA y.1),(iA y.2)])) args
noncomputable def C4:Nat->List A->Option A:=fC C3 72 Qa
theorem GS:bJ C4:=b9 GR fun x=>Rz C3 aB  x.1 x.2
def QJ (x:(Int×Int)):List A:=[(A.agg (au x))]
theorem NN:ew QJ:=de (cH (jQ))
noncomputable def P5 (args:List A):Option A:=bG QJ (fun x=>(Hv x).map fun y=>(bA y)) args
noncomputable def C5:Nat->List A->Option A:=fC C4 64 P5
theorem GU:bJ C5:=b9 GS fun x=>Ru C4 aB  x
def Er (x:az):List A:=[(A.agg (ar x))]
theorem NH:ew Er:=de (cH (dc))
noncomputable def P0 (args:List A):Option A:=bG Er (fun x=>(Hs x).map fun y=>(bA y)) args
theorem Kg {C:Nat->List A->Option A} (h:∀ a,C 64 a=P5 a):xU C:=fun a0=>(h _).trans (aM _ NN a0)
theorem OQ {C:Nat->List A->Option A} (h:∀ a,C 72 a=Qa a):EU C:=fun a0 a1=>(h _).trans (aM _ NS (a0,a1))
noncomputable def C6:Nat->List A->Option A:=fC C5 56 P0
theorem GV:bJ C6:=b9 GU fun x=>Rm C5 aB (Kg fun _=>r8) (OQ fun _=>r8) x
def QI (x:az):List A:=[(A.agg (ar x))]
theorem NM:ew QI:=de (cH (dc))
noncomputable def P4 (args:List A):Option A:=bG QI (fun x=>(HZ x).map fun y=>(bA y)) args
theorem Ke {C:Nat->List A->Option A} (h:∀ a,C 56 a=P0 a):As C:=fun a0=>(h _).trans (aM _ NH a0)
noncomputable def C7:Nat->List A->Option A:=fC C6 63 P4
theorem GW:bJ C7:=b9 GV fun x=>Rt C6 aB (Ke fun _=>r8) x
def xJ (x:(List az)):List A:=[(A.imm (List.map ar x) false),(A.fn (Fn.func 63) [] [])]
theorem Dc:ew xJ:=fun x y h=>by
 simp only[xJ,Py,map_inj (dc),map_inj (mz)] at h
 exact h
noncomputable def B4 (args:List A):Option A:=bG xJ (fun x=>(tf x).map fun y=>(iA y)) args
theorem OM {C:Nat->List A->Option A} (h:∀ a,C 63 a=P4 a):Au C:=fun a0=>(h _).trans (aM _ NM a0)
noncomputable def C8:Nat->List A->Option A:=fC C7 88 B4
theorem GX:bJ C8:=b9 GW fun x=>FX C7 aB (OM fun _=>r8) x
def xI (x:(List az)):List A:=[(A.imm (List.map ar x) false),(A.fn (Fn.func 63) [] [])]
theorem Db:ew xI:=fun x y h=>by
 simp only[xI,Py,map_inj (dc),map_inj (mz)] at h
 exact h
noncomputable def B1 (args:List A):Option A:=bG xI (fun x=>(pY x).map fun y=>(bA y)) args
theorem Ee {C:Nat->List A->Option A} (h:∀ a,C 88 a=B4 a):uL C:=fun a0=>(h _).trans (aM _ Dc a0)
noncomputable def C9:Nat->List A->Option A:=fC C8 62 B1
theorem GY:bJ C9:=b9 GX fun x=>FW C8 aB (Ee fun _=>r8) x
def Kz (x:Int):List A:=[(iA x)]
theorem Jp:ew Kz:=de (eF .i64)
noncomputable def JL (args:List A):Option A:=bG Kz (fun x=>(uI x).map fun y=>(bA y)) args
noncomputable def Ly:Nat->List A->Option A:=fC C9 106 JL
theorem Dm:bJ Ly:=b9 GY fun x=>MC C9 aB  x
def CC (x:bo):List A:=[(A.agg (b6 x))]
theorem Nw:ew CC:=de (cH (jt))
noncomputable def PO (args:List A):Option A:=bG CC (fun x=>(Ho x).map fun y=>(iA y)) args
theorem J6 {C:Nat->List A->Option A} (h:∀ a,C 106 a=JL a):tg C:=fun a0=>(h _).trans (aM _ Jp a0)
theorem Ed {C:Nat->List A->Option A} (h:∀ a,C 62 a=B1 a):uK C:=fun a0=>(h _).trans (aM _ Db a0)
noncomputable def Lz:Nat->List A->Option A:=fC Ly 33 PO
theorem Dn:bJ Lz:=b9 Dm fun x=>Rc Ly aB (J6 fun _=>r8) (Ed fun _=>r8) (Kg fun _=>r8) x
def Qw (x:bw×Int):List A:=[(A.agg (aE x.1)),(iA x.2)]
theorem Nm:ew Qw:=gY (cH (iB)) (de (eF .i64))
noncomputable def Ln (args:List A):Option A:=bG Qw (fun x=>(FO x.1 x.2).map fun y=>(bA y)) args
noncomputable def LA:Nat->List A->Option A:=fC Lz 24 Ln
theorem Dp:bJ LA:=b9 Dn fun x=>Q3 Lz aB (Eb fun _=>r8) x.1 x.2
def QA (x:bH×Int×Int×Int):List A:=[(A.agg (aC x.1)),(iA x.2.1),(iA x.2.2.1),(iA x.2.2.2)]
theorem Nx:ew QA:=gY (cH (ou)) (gY (eF .i64) (gY (eF .i64) (de (eF .i64))))
noncomputable def PQ (args:List A):Option A:=bG QA (fun x=>(HT x.1 x.2.1 x.2.2.1 x.2.2.2).map fun y=>(bA y)) args
theorem Ha {C:Nat->List A->Option A} (h:∀ a,C 24 a=Ln a):rW C:=fun a0 a1=>(h _).trans (aM _ Nm (a0,a1))
noncomputable def LB:Nat->List A->Option A:=fC LA 34 PQ
theorem Dq:bJ LB:=b9 Dp fun x=>Rd LA aB (Ha fun _=>r8) (Eb fun _=>r8) x.1 x.2.1 x.2.2.1 x.2.2.2
def KA (x:Int):List A:=[(A.v (.int .u64 x))]
theorem Jq:ew KA:=de (eF .u64)
noncomputable def JM (args:List A):Option A:=bG KA (fun x=>(z9 x).map fun y=>(iA y)) args
noncomputable def LC:Nat->List A->Option A:=fC LB 108 JM
theorem Dr:bJ LC:=b9 Dq fun x=>MD LB aB  x
def QK (x:(List UInt8)):List A:=[(A.imm (List.map c8 x) false)]
theorem NO:ew QK:=de (kE (mz))
noncomputable def P6 (args:List A):Option A:=bG QK (fun x=>(Ia x).map fun y=>(A.tup [(A.agg (al y.1)),(iA y.2)])) args
theorem J7 {C:Nat->List A->Option A} (h:∀ a,C 108 a=JM a):th C:=fun a0=>(h _).trans (aM _ Jq a0)
noncomputable def LD:Nat->List A->Option A:=fC LC 66 P6
theorem Ds:bJ LD:=b9 Dr fun x=>Rv LC aB (J7 fun _=>r8) x
def QB (x:(List UInt8)):List A:=[(A.imm (List.map c8 x) false)]
theorem Ny:ew QB:=de (kE (mz))
noncomputable def PR (args:List A):Option A:=bG QB (fun x=>(HU x).map fun y=>(A.tup [(A.agg (ax y.1)),(bA y.2)])) args
theorem ON {C:Nat->List A->Option A} (h:∀ a,C 66 a=P6 a):ES C:=fun a0=>(h _).trans (aM _ NO a0)
noncomputable def LF:Nat->List A->Option A:=fC LD 35 PR
theorem Dt:bJ LF:=b9 Ds fun x=>Re LD aB (ON fun _=>r8) x
def Qs (x:aw):List A:=[(A.agg (ak x))]
theorem Nc:ew Qs:=de (cH (dh))
noncomputable def PC (args:List A):Option A:=bG Qs (fun x=>(Ev x).map fun y=>(iA y)) args
theorem Kb {C:Nat->List A->Option A} (h:∀ a,C 33 a=PO a):Aj C:=fun a0=>(h _).trans (aM _ Nw a0)
theorem OC {C:Nat->List A->Option A} (h:∀ a,C 34 a=PQ a):Ak C:=fun a0 a1 a2 a3=>(h _).trans (aM _ Nx (a0,a1,a2,a3))
theorem OD {C:Nat->List A->Option A} (h:∀ a,C 35 a=PR a):Al C:=fun a0=>(h _).trans (aM _ Ny a0)
noncomputable def LG:Nat->List A->Option A:=fC LF 13 PC
theorem yE:bJ LG:=b9 Dt fun x=>QX LF aB (Ha fun _=>r8) (Eb fun _=>r8) (Kb fun _=>r8) (OC fun _=>r8) (OD fun _=>r8) x
def Lx (x:aq):List A:=[(A.agg (al x))]
theorem Js:ew Lx:=de (cH eh)
noncomputable def Oc (args:List A):Option A:=bG Lx (fun x=>(Lj x).map fun y=>(A.tup [(iA y.1),(bA y.2)])) args
noncomputable def GM (q:Nat) (args:List A):Option A:=bG Lx (fun x=>(E0 q x).map fun y=>(A.tup [(iA y.1),(bA y.2)])) args
noncomputable def wB (q:Nat):Nat->List A->Option A:=fC LG 96 (GM q)
theorem SZ (q:Nat):wE (wB q) (E0 q):=fun a0=>(by kernel_rfl:_=GM q (Lx a0)).trans (aM _ Js a0)
theorem FA:∀ (q:Nat) (args:List A) (r:A) (h:GM q args=some r),en prog (cx C0).glob 96 args r
 | 0,args,r,h=>by
  obtain ⟨x,y,rfl,hy,rfl⟩:=di h
  cases hy
 | q+1,args,r,h=>by
  obtain ⟨x,y,rfl,hy,rfl⟩:=di h
  exact xv (f:=fun (y:(Int×Bool))=>(A.tup [(iA y.1),(bA y.2)])) (cx:=cx (wB q)) (fun k args r _ h=>eU yE (FA q) k args r h) r8 (RF (wB q) aB  (E0 q) (SZ q) x) hy
theorem Oi (args:List A) (r:A) (h:Oc args=some r):en prog (cx C0).glob 96 args r:=FA aB args r h
noncomputable def LH:Nat->List A->Option A:=fC LG 96 Oc
theorem Du:bJ LH:=eU yE Oi
def QQ (x:aq):List A:=[(A.agg (al x))]
theorem NU:ew QQ:=de (cH eh)
noncomputable def Qb (args:List A):Option A:=bG QQ (fun x=>(Ig x).map fun y=>(iA y)) args
theorem OW {C:Nat->List A->Option A} (h:∀ a,C 96 a=Oc a):EX C:=fun a0=>(h _).trans (aM _ Js a0)
noncomputable def LI:Nat->List A->Option A:=fC LH 83 Qb
theorem Dv:bJ LI:=b9 Du fun x=>RB LH aB (OW fun _=>r8) x
def QT (x:Int):List A:=[(iA x)]
theorem NX:ew QT:=de (eF .i64)
noncomputable def Qe (args:List A):Option A:=bG QT (fun x=>(FR x).map fun y=>(A.v (.int .u64 y))) args
noncomputable def LJ:Nat->List A->Option A:=fC LI 99 Qe
theorem Dw:bJ LJ:=b9 Dv fun x=>RG LI aB  x
def Es (x:aq):List A:=[(A.agg (al x))]
theorem NI:ew Es:=de (cH eh)
noncomputable def P1 (args:List A):Option A:=bG Es (fun x=>(FQ x).map fun y=>(A.tup [(A.imm (List.map c8 y.1) false),(iA y.2)])) args
theorem OU {C:Nat->List A->Option A} (h:∀ a,C 83 a=Qb a):EW C:=fun a0=>(h _).trans (aM _ NU a0)
theorem OX {C:Nat->List A->Option A} (h:∀ a,C 99 a=Qe a):rY C:=fun a0=>(h _).trans (aM _ NX a0)
noncomputable def LK:Nat->List A->Option A:=fC LJ 58 P1
theorem Dx:bJ LK:=b9 Dw fun x=>Rn LJ aB (OU fun _=>r8) (OX fun _=>r8) x
def Qy (x:aP):List A:=[(A.agg (ax x))]
theorem Np:ew Qy:=de (cH (nD))
noncomputable def PJ (args:List A):Option A:=bG Qy (fun x=>(HQ x).map fun y=>(A.imm (List.map c8 y) false)) args
theorem OJ {C:Nat->List A->Option A} (h:∀ a,C 58 a=P1 a):EN C:=fun a0=>(h _).trans (aM _ NI a0)
noncomputable def LL:Nat->List A->Option A:=fC LK 26 PJ
theorem Dy:bJ LL:=b9 Dx fun x=>Q5 LK aB (OJ fun _=>r8) x
def Qx (x:bo×az):List A:=[(A.agg (b6 x.1)),(A.agg (ar x.2))]
theorem Nn:ew Qx:=gY (cH (jt)) (de (cH (dc)))
noncomputable def PI (args:List A):Option A:=bG Qx (fun x=>(HP x.1 x.2).map fun y=>(A.tup [(A.agg [(A.imm (List.map ar y.1.Queue) false),(A.imm (List.map au y.1.Apart) false)]),(iA y.2)])) args
noncomputable def LM:Nat->List A->Option A:=fC LL 25 PI
theorem Dz:bJ LM:=b9 Dy fun x=>Q4 LL aB (Kb fun _=>r8) (Ke fun _=>r8) x.1 x.2
def x9 (x:aw×bw):List A:=[(A.agg (ak x.1)),(A.agg (aE x.2))]
theorem SO:ew x9:=gY (cH (dh)) (de (cH (iB)))
noncomputable def o9 (args:List A):Option A:=bG x9 (fun x=>(G9 x.1 x.2).map fun y=>(A.tup [(A.agg (ak y.1)),(iA y.2)])) args
theorem G6 {C:Nat->List A->Option A} (h:∀ a,C 13 a=PC a):xQ C:=fun a0=>(h _).trans (aM _ Nc a0)
theorem Ow {C:Nat->List A->Option A} (h:∀ a,C 25 a=PI a):EG C:=fun a0 a1=>(h _).trans (aM _ Nn (a0,a1))
theorem Ox {C:Nat->List A->Option A} (h:∀ a,C 26 a=PJ a):EH C:=fun a0=>(h _).trans (aM _ Np a0)
noncomputable def Po:Nat->List A->Option A:=fC LM 9 o9
theorem DA:bJ Po:=b9 Dz fun x=>T9 LM aB (G6 fun _=>r8) (Ha fun _=>r8) (Ow fun _=>r8) (Ox fun _=>r8) x.1 x.2
def Pn (x:aw×Int):List A:=[(A.agg (ak x.1)),(iA x.2)]
theorem Nj:ew Pn:=gY (cH (dh)) (de (eF .i64))
noncomputable def Oa (args:List A):Option A:=bG Pn (fun x=>(Lg x.1 x.2).map fun y=>(A.tup [(A.agg (ak y.1)),(iA y.2)])) args
theorem M3:∀ e∈Kq,Cn 24 21 (Pn e.1)=(fun (y:(aw×Int))=>some (A.tup [(A.agg (ak y.1)),(iA y.2)])) e.2:=Uw.2 ⟨Jh,Uw.2 ⟨Ji,fun _ h=>absurd h Vk⟩⟩
theorem Og (args:List A) (r:A) (h:Oa args=some r):en prog (cx C0).glob 21 args r:=by
 obtain ⟨x,y,rfl,hy,rfl⟩:=di h
 exact yd 24 21 _ _ (M3 (x,y) (oA hy))
noncomputable def Pp:Nat->List A->Option A:=fC Po 21 Oa
theorem DB:bJ Pp:=eU DA Og
def CB (x:aw×(List Int)×(List Int)):List A:=[(A.agg (ak x.1)),(A.imm (List.map (cI .i64) x.2.1) false),(A.imm (List.map (cI .i64) x.2.2) false)]
theorem Ni:ew CB:=gY (cH (dh)) (gY (kE (qP .i64)) (de (kE (qP .i64))))
noncomputable def N9 (args:List A):Option A:=bG CB (fun x=>(Hn x.1 x.2.1 x.2.2).map fun y=>(A.tup [(A.agg (ak y.1)),(iA y.2)])) args
theorem M1:∀ e∈Kp,Cn 24 19 (CB e.1)=(fun (y:(aw×Int))=>some (A.tup [(A.agg (ak y.1)),(iA y.2)])) e.2:=Uw.2 ⟨Jd,Uw.2 ⟨Je,Uw.2 ⟨Jf,Uw.2 ⟨Jg,fun _ h=>absurd h Vk⟩⟩⟩⟩
theorem Oe (args:List A) (r:A) (h:N9 args=some r):en prog (cx C0).glob 19 args r:=by
 obtain ⟨x,y,rfl,hy,rfl⟩:=di h
 exact yd 24 19 _ _ (M1 (x,y) (oA hy))
noncomputable def Pq:Nat->List A->Option A:=fC Pp 19 N9
theorem DC:bJ Pq:=eU DB Oe
def yY (x:aw×Int):List A:=[(A.agg (ak x.1)),(iA x.2)]
theorem Ng:ew yY:=gY (cH (dh)) (de (eF .i64))
noncomputable def N8 (args:List A):Option A:=bG yY (fun x=>(FN x.1 x.2).map fun y=>(A.tup [(A.agg (ak y.1)),(A.agg (aA y.2.1)),(bA y.2.2.1),(iA y.2.2.2)])) args
theorem M0:∀ e∈Ko,Cn 24 16 (yY e.1)=(fun (y:(aw×bz×Bool×Int))=>some (A.tup [(A.agg (ak y.1)),(A.agg (aA y.2.1)),(bA y.2.2.1),(iA y.2.2.2)])) e.2:=Uw.2 ⟨I8,Uw.2 ⟨I9,Uw.2 ⟨Ja,Uw.2 ⟨Jb,Uw.2 ⟨Jc,fun _ h=>absurd h Vk⟩⟩⟩⟩⟩
theorem Od (args:List A) (r:A) (h:N8 args=some r):en prog (cx C0).glob 16 args r:=by
 obtain ⟨x,y,rfl,hy,rfl⟩:=di h
 exact yd 24 16 _ _ (M0 (x,y) (oA hy))
noncomputable def LN:Nat->List A->Option A:=fC Pq 16 N8
theorem DD:bJ LN:=eU DC Od
def wy (x:(List Int)×(List Int)):List A:=[(A.imm (List.map (cI .i64) x.1) false),(A.imm (List.map (cI .i64) x.2) false)]
theorem NG:ew wy:=gY (kE (qP .i64)) (de (kE (qP .i64)))
noncomputable def PZ (args:List A):Option A:=bG wy (fun x=>(Hr x.1 x.2).map fun y=>(bA y)) args
noncomputable def LO:Nat->List A->Option A:=fC LN 55 PZ
theorem DE:bJ LO:=b9 DD fun x=>Rl LN aB  x.1 x.2
def Qu (x:(List bH)×(List bH)):List A:=[(A.imm (List.map aC x.1) false),(A.imm (List.map aC x.2) false)]
theorem Nk:ew Qu:=gY (kE (ou)) (de (kE (ou)))
noncomputable def PG (args:List A):Option A:=bG Qu (fun x=>(CI x.1 x.2).map fun y=>(bA y)) args
theorem OI {C:Nat->List A->Option A} (h:∀ a,C 55 a=PZ a):Ar C:=fun a0 a1=>(h _).trans (aM _ NG (a0,a1))
noncomputable def LP:Nat->List A->Option A:=fC LO 22 PG
theorem DF:bJ LP:=b9 DE fun x=>Q1 LO aB (OI fun _=>r8) x.1 x.2
def x7 (x:Unit):List A:=[]
theorem SM:ew x7:=fun _ _ _=>rfl
noncomputable def o7 (args:List A):Option A:=bG x7 (fun x=>(G7 ).map fun y=>(bA y)) args
theorem J8 {C:Nat->List A->Option A} (h:∀ a,C 11 a=PA a):Ag C:=fun a0=>(h _).trans (aM _ Na a0)
theorem Oo {C:Nat->List A->Option A} (h:∀ a,C 16 a=N8 a):EB C:=fun a0 a1=>(h _).trans (aM _ Ng (a0,a1))
theorem Ot {C:Nat->List A->Option A} (h:∀ a,C 19 a=N9 a):ED C:=fun a0 a1 a2=>(h _).trans (aM _ Ni (a0,a1,a2))
theorem Ou {C:Nat->List A->Option A} (h:∀ a,C 21 a=Oa a):EE C:=fun a0 a1=>(h _).trans (aM _ Nj (a0,a1))
theorem Ka {C:Nat->List A->Option A} (h:∀ a,C 22 a=PG a):Ai C:=fun a0 a1=>(h _).trans (aM _ Nk (a0,a1))
theorem Qo {C:Nat->List A->Option A} (h:∀ a,C 9 a=o9 a):FV C:=fun a0 a1=>(h _).trans (aM _ SO (a0,a1))
noncomputable def LQ:Nat->List A->Option A:=fC LP 7 o7
theorem DG:bJ LQ:=b9 DF fun x=>T7 LP aB (J8 fun _=>r8) (G6 fun _=>r8) (Oo fun _=>r8) (Ot fun _=>r8) (Ou fun _=>r8) (Ka fun _=>r8) (Qo fun _=>r8)
def Qv (x:bo):List A:=[(A.agg (b6 x))]
theorem Nl:ew Qv:=de (cH (jt))
noncomputable def PH (args:List A):Option A:=bG Qv (fun x=>(HO x).map fun y=>(bA y)) args
noncomputable def LR:Nat->List A->Option A:=fC LQ 23 PH
theorem DH:bJ LR:=b9 DG fun x=>Q2 LQ aB  x
def x8 (x:aw):List A:=[(A.agg (ak x))]
theorem SN:ew x8:=de (cH (dh))
noncomputable def o8 (args:List A):Option A:=bG x8 (fun x=>(G8 x).map fun y=>(bA y)) args
theorem Ov {C:Nat->List A->Option A} (h:∀ a,C 23 a=PH a):EF C:=fun a0=>(h _).trans (aM _ Nl a0)
noncomputable def LS:Nat->List A->Option A:=fC LR 8 o8
theorem DI:bJ LS:=b9 DH fun x=>T8 LR aB (Ov fun _=>r8) x
def FL (x:Int×Int×Int):List A:=[(iA x.1),(iA x.2.1),(iA x.2.2)]
theorem Nz:ew FL:=gY (eF .i64) (gY (eF .i64) (de (eF .i64)))
noncomputable def PS (args:List A):Option A:=bG FL (fun x=>(zT x.1 x.2.1 x.2.2).map fun y=>(bA y)) args
noncomputable def LU:Nat->List A->Option A:=fC LS 36 PS
theorem DJ:bJ LU:=b9 DI fun x=>Rf LS aB  x.1 x.2.1 x.2.2
def QL (x:Int):List A:=[(iA x)]
theorem NP:ew QL:=de (eF .i64)
noncomputable def P7 (args:List A):Option A:=bG QL (fun x=>(Ew x).map fun y=>(bA y)) args
noncomputable def LV:Nat->List A->Option A:=fC LU 67 P7
theorem DK:bJ LV:=b9 DJ fun x=>Rw LU aB  x
def Et (x:az):List A:=[(A.agg (ar x))]
theorem NJ:ew Et:=de (cH (dc))
noncomputable def P2 (args:List A):Option A:=bG Et (fun x=>(Ht x).map fun y=>(bA y)) args
theorem Kh {C:Nat->List A->Option A} (h:∀ a,C 67 a=P7 a):xV C:=fun a0=>(h _).trans (aM _ NP a0)
noncomputable def LX:Nat->List A->Option A:=fC LV 59 P2
theorem DL:bJ LX:=b9 DK fun x=>Ro LV aB (Kh fun _=>r8) x
def Hj (x:bo):List A:=[(A.agg (b6 x))]
theorem NA:ew Hj:=de (cH (jt))
noncomputable def PU (args:List A):Option A:=bG Hj (fun x=>(Hp x).map fun y=>(iA y)) args
theorem Kf {C:Nat->List A->Option A} (h:∀ a,C 59 a=P2 a):xR C:=fun a0=>(h _).trans (aM _ NJ a0)
noncomputable def LY:Nat->List A->Option A:=fC LX 37 PU
theorem DM:bJ LY:=b9 DL fun x=>Rg LX aB (Kf fun _=>r8) (Kh fun _=>r8) x
def Em (x:bw×Int):List A:=[(A.agg (aE x.1)),(iA x.2)]
theorem Nq:ew Em:=gY (cH (iB)) (de (eF .i64))
noncomputable def PK (args:List A):Option A:=bG Em (fun x=>(FP x.1 x.2).map fun y=>(bA y)) args
theorem Ec {C:Nat->List A->Option A} (h:∀ a,C 36 a=PS a):rX C:=fun a0 a1 a2=>(h _).trans (aM _ Nz (a0,a1,a2))
noncomputable def LZ:Nat->List A->Option A:=fC LY 27 PK
theorem DN:bJ LZ:=b9 DM fun x=>Q6 LY aB (Ec fun _=>r8) x.1 x.2
def QC (x:aw×Int):List A:=[(A.agg (ak x.1)),(iA x.2)]
theorem NB:ew QC:=gY (cH (dh)) (de (eF .i64))
noncomputable def PV (args:List A):Option A:=bG QC (fun x=>(HV x.1 x.2).map fun y=>(bA y)) args
theorem Hb {C:Nat->List A->Option A} (h:∀ a,C 27 a=PK a):uJ C:=fun a0 a1=>(h _).trans (aM _ Nq (a0,a1))
noncomputable def L0:Nat->List A->Option A:=fC LZ 38 PV
theorem yF:bJ L0:=b9 DN fun x=>Rh LZ aB (Hb fun _=>r8) (Ec fun _=>r8) x.1 x.2
def Ek (x:aq):List A:=[(A.agg (al x))]
theorem Fc:ew Ek:=de (cH eh)
noncomputable def GI (args:List A):Option A:=bG Ek (fun x=>(CG x).map fun y=>(bA y)) args
noncomputable def BW (q:Nat) (args:List A):Option A:=bG Ek (fun x=>(uM q x).map fun y=>(bA y)) args
noncomputable def sY (q:Nat):Nat->List A->Option A:=fC L0 102 (BW q)
theorem OZ (q:Nat):ti (sY q) (uM q):=fun a0=>(by kernel_rfl:_=BW q (Ek a0)).trans (aM _ Fc a0)
theorem B6:∀ (q:Nat) (args:List A) (r:A) (h:BW q args=some r),en prog (cx C0).glob 102 args r
 | 0,args,r,h=>by
  obtain ⟨x,y,rfl,hy,rfl⟩:=di h
  cases hy
 | q+1,args,r,h=>by
  obtain ⟨x,y,rfl,hy,rfl⟩:=di h
  exact xv (f:=fun (y:Bool)=>(bA y)) (cx:=cx (sY q)) (fun k args r _ h=>eU yF (B6 q) k args r h) r8 (My (sY q) aB  (uM q) (OZ q) x) hy
theorem JN (args:List A) (r:A) (h:GI args=some r):en prog (cx C0).glob 102 args r:=B6 aB args r h
noncomputable def L3:Nat->List A->Option A:=fC L0 102 GI
theorem yG:bJ L3:=eU yF JN
def El (x:aq):List A:=[(A.agg (al x))]
theorem Fe:ew El:=de (cH eh)
noncomputable def GJ (args:List A):Option A:=bG El (fun x=>(CH x).map fun y=>(iA y)) args
noncomputable def BX (q:Nat) (args:List A):Option A:=bG El (fun x=>(uN q x).map fun y=>(iA y)) args
noncomputable def sZ (q:Nat):Nat->List A->Option A:=fC L3 103 (BX q)
theorem O0 (q:Nat):tj (sZ q) (uN q):=fun a0=>(by kernel_rfl:_=BX q (El a0)).trans (aM _ Fe a0)
theorem B7:∀ (q:Nat) (args:List A) (r:A) (h:BX q args=some r),en prog (cx C0).glob 103 args r
 | 0,args,r,h=>by
  obtain ⟨x,y,rfl,hy,rfl⟩:=di h
  cases hy
 | q+1,args,r,h=>by
  obtain ⟨x,y,rfl,hy,rfl⟩:=di h
  exact xv (f:=fun (y:Int)=>(iA y)) (cx:=cx (sZ q)) (fun k args r _ h=>eU yG (B7 q) k args r h) r8 (Mz (sZ q) aB  (uN q) (O0 q) x) hy
theorem JO (args:List A) (r:A) (h:GJ args=some r):en prog (cx C0).glob 103 args r:=B7 aB args r h
noncomputable def L4:Nat->List A->Option A:=fC L3 103 GJ
theorem DP:bJ L4:=eU yG JO
def QR (x:aq):List A:=[(A.agg (al x))]
theorem NV:ew QR:=de (cH eh)
noncomputable def Qc (args:List A):Option A:=bG QR (fun x=>(Hw x).map fun y=>(iA y)) args
theorem J4 {C:Nat->List A->Option A} (h:∀ a,C 102 a=GI a):Ac C:=fun a0=>(h _).trans (aM _ Fc a0)
theorem J5 {C:Nat->List A->Option A} (h:∀ a,C 103 a=GJ a):Ad C:=fun a0=>(h _).trans (aM _ Fe a0)
noncomputable def L5:Nat->List A->Option A:=fC L4 85 Qc
theorem DQ:bJ L5:=b9 DP fun x=>RC L4 aB (J4 fun _=>r8) (J5 fun _=>r8) x
def Hi (x:Int):List A:=[(iA x)]
theorem Jo:ew Hi:=de (eF .i64)
noncomputable def JK (args:List A):Option A:=bG Hi (fun x=>(z8 x).map fun y=>(A.v (.int .u64 y))) args
noncomputable def L6:Nat->List A->Option A:=fC L5 105 JK
theorem yH:bJ L6:=b9 DQ fun x=>MB L5 aB  x
def Cu (x:Int):List A:=[(A.v (.int .u64 x))]
theorem Ff:ew Cu:=de (eF .u64)
noncomputable def GK (args:List A):Option A:=bG Cu (fun x=>(za x).map fun y=>(A.imm (List.map c8 y) false)) args
noncomputable def BZ (q:Nat) (args:List A):Option A:=bG Cu (fun x=>(uO q x).map fun y=>(A.imm (List.map c8 y) false)) args
noncomputable def ta (q:Nat):Nat->List A->Option A:=fC L6 104 (BZ q)
theorem O1 (q:Nat):xW (ta q) (uO q):=fun a0=>(by kernel_rfl:_=BZ q (Cu a0)).trans (aM _ Ff a0)
theorem B8:∀ (q:Nat) (args:List A) (r:A) (h:BZ q args=some r),en prog (cx C0).glob 104 args r
 | 0,args,r,h=>by
  obtain ⟨x,y,rfl,hy,rfl⟩:=di h
  cases hy
 | q+1,args,r,h=>by
  obtain ⟨x,y,rfl,hy,rfl⟩:=di h
  exact xv (f:=fun (y:(List UInt8))=>(A.imm (List.map c8 y) false)) (cx:=cx (ta q)) (fun k args r _ h=>eU yH (B8 q) k args r h) r8 (MA (ta q) aB  (uO q) (O1 q) x) hy
theorem JP (args:List A) (r:A) (h:GK args=some r):en prog (cx C0).glob 104 args r:=B8 aB args r h
noncomputable def L7:Nat->List A->Option A:=fC L6 104 GK
theorem yI:bJ L7:=eU yH JP
def Lw (x:aq):List A:=[(A.agg (al x))]
theorem Jr:ew Lw:=de (cH eh)
noncomputable def Ob (args:List A):Option A:=bG Lw (fun x=>(Ih x).map fun y=>(A.imm (List.map c8 y) false)) args
noncomputable def GL (q:Nat) (args:List A):Option A:=bG Lw (fun x=>(EZ q x).map fun y=>(A.imm (List.map c8 y) false)) args
noncomputable def pX (q:Nat):Nat->List A->Option A:=fC L7 86 (GL q)
theorem SY (q:Nat):wD (pX q) (EZ q):=fun a0=>(by kernel_rfl:_=GL q (Lw a0)).trans (aM _ Jr a0)
theorem wb (q:Nat):Ae (pX q):=fun a0=>(by kernel_rfl:_=GK (Cu a0)).trans (aM _ Ff a0)
theorem wc (q:Nat):Af (pX q):=fun a0=>(by kernel_rfl:_=JK (Hi a0)).trans (aM _ Jo a0)
theorem Fz:∀ (q:Nat) (args:List A) (r:A) (h:GL q args=some r),en prog (cx C0).glob 86 args r
 | 0,args,r,h=>by
  obtain ⟨x,y,rfl,hy,rfl⟩:=di h
  cases hy
 | q+1,args,r,h=>by
  obtain ⟨x,y,rfl,hy,rfl⟩:=di h
  exact xv (f:=fun (y:(List UInt8))=>(A.imm (List.map c8 y) false)) (cx:=cx (pX q)) (fun k args r _ h=>eU yI (Fz q) k args r h) r8 (RD (pX q) aB (wb q) (wc q) (EZ q) (SY q) x) hy
theorem Oh (args:List A) (r:A) (h:Ob args=some r):en prog (cx C0).glob 86 args r:=Fz aB args r h
noncomputable def L8:Nat->List A->Option A:=fC L7 86 Ob
theorem DR:bJ L8:=eU yI Oh
def QP (x:(List UInt8)):List A:=[(A.imm (List.map c8 x) false)]
theorem NT:ew QP:=de (kE (mz))
noncomputable def Lr (args:List A):Option A:=bG QP (fun x=>(Ie x).map fun y=>(A.tup [(A.agg (al y.1)),(iA y.2)])) args
theorem Ki {C:Nat->List A->Option A} (h:∀ a,C 85 a=Qc a):Aw C:=fun a0=>(h _).trans (aM _ NV a0)
theorem Kj {C:Nat->List A->Option A} (h:∀ a,C 86 a=Ob a):Ax C:=fun a0=>(h _).trans (aM _ Jr a0)
noncomputable def L9:Nat->List A->Option A:=fC L8 76 Lr
theorem DS:bJ L9:=b9 DR fun x=>RA L8 aB (Ki fun _=>r8) (Kj fun _=>r8) x
def QF (x:(List UInt8)):List A:=[(A.imm (List.map c8 x) false)]
theorem NF:ew QF:=de (kE (mz))
noncomputable def PY (args:List A):Option A:=bG QF (fun x=>(Hq x).map fun y=>(A.tup [(A.imm (List.map (cI .i64) y.1) false),(bA y.2)])) args
theorem OS {C:Nat->List A->Option A} (h:∀ a,C 76 a=Lr a):EV C:=fun a0=>(h _).trans (aM _ NT a0)
noncomputable def Ma:Nat->List A->Option A:=fC L9 47 PY
theorem DT:bJ Ma:=b9 DS fun x=>Rk L9 aB (OS fun _=>r8) x
def rD (x:(List UInt8)):List A:=[(A.imm (List.map c8 x) false)]
theorem Nh:ew rD:=de (kE (mz))
noncomputable def PF (args:List A):Option A:=bG rD (fun x=>(HN x).map fun y=>(A.tup [(A.agg (aE y.1)),(bA y.2)])) args
theorem Kd {C:Nat->List A->Option A} (h:∀ a,C 47 a=PY a):Aq C:=fun a0=>(h _).trans (aM _ NF a0)
noncomputable def Mc:Nat->List A->Option A:=fC Ma 17 PF
theorem DU:bJ Mc:=b9 DT fun x=>Q0 Ma aB (Kd fun _=>r8) x
def QM (x:(List UInt8)):List A:=[(A.imm (List.map c8 x) false)]
theorem NQ:ew QM:=de (kE (mz))
noncomputable def P8 (args:List A):Option A:=bG QM (fun x=>(Ib x).map fun y=>(A.tup [(A.agg (aA y.1)),(bA y.2)])) args
noncomputable def Md:Nat->List A->Option A:=fC Mc 68 P8
theorem DV:bJ Md:=b9 DU fun x=>Rx Mc aB (Kd fun _=>r8) x
def QD (x:aw×az):List A:=[(A.agg (ak x.1)),(A.agg (ar x.2))]
theorem NC:ew QD:=gY (cH (dh)) (de (cH (dc)))
noncomputable def PW (args:List A):Option A:=bG QD (fun x=>(HW x.1 x.2).map fun y=>(bA y)) args
theorem Oq {C:Nat->List A->Option A} (h:∀ a,C 17 a=PF a):EC C:=fun a0=>(h _).trans (aM _ Nh a0)
theorem OO {C:Nat->List A->Option A} (h:∀ a,C 68 a=P8 a):ET C:=fun a0=>(h _).trans (aM _ NQ a0)
noncomputable def Me:Nat->List A->Option A:=fC Md 39 PW
theorem DW:bJ Me:=b9 DV fun x=>Ri Md aB (Oq fun _=>r8) (Hb fun _=>r8) (Ec fun _=>r8) (OO fun _=>r8) x.1 x.2
def Qt (x:aw):List A:=[(A.agg (ak x))]
theorem Nd:ew Qt:=de (cH (dh))
noncomputable def PD (args:List A):Option A:=bG Qt (fun x=>(Hl x).map fun y=>(iA y)) args
theorem Kc {C:Nat->List A->Option A} (h:∀ a,C 37 a=PU a):Am C:=fun a0=>(h _).trans (aM _ NA a0)
theorem OE {C:Nat->List A->Option A} (h:∀ a,C 38 a=PV a):Ao C:=fun a0 a1=>(h _).trans (aM _ NB (a0,a1))
theorem OG {C:Nat->List A->Option A} (h:∀ a,C 39 a=PW a):Ap C:=fun a0 a1=>(h _).trans (aM _ NC (a0,a1))
noncomputable def Mf:Nat->List A->Option A:=fC Me 14 PD
theorem DX:bJ Mf:=b9 DW fun x=>QY Me aB (Ec fun _=>r8) (Kc fun _=>r8) (OE fun _=>r8) (OG fun _=>r8) x
def QS (x:Int):List A:=[(iA x)]
theorem NW:ew QS:=de (eF .i64)
noncomputable def Qd (args:List A):Option A:=bG QS (fun x=>(Li x).map fun y=>(A.agg (al y))) args
noncomputable def Mg:Nat->List A->Option A:=fC Mf 87 Qd
theorem DY:bJ Mg:=b9 DX fun x=>RE Mf aB  x
def QH (x:(List Int)):List A:=[(A.imm (List.map (cI .i64) x) false)]
theorem NL:ew QH:=de (kE (qP .i64))
noncomputable def P3 (args:List A):Option A:=bG QH (fun x=>(HY x).map fun y=>(A.agg (al y))) args
theorem OV {C:Nat->List A->Option A} (h:∀ a,C 87 a=Qd a):Ay C:=fun a0=>(h _).trans (aM _ NW a0)
noncomputable def Mh:Nat->List A->Option A:=fC Mg 61 P3
theorem DZ:bJ Mh:=b9 DY fun x=>Rs Mg aB (OV fun _=>r8) x
def QG (x:aq):List A:=[(A.agg (al x))]
theorem NK:ew QG:=de (cH eh)
noncomputable def Lq (args:List A):Option A:=bG QG (fun x=>(Hu x).map fun y=>(A.tup [(A.imm (List.map c8 y.1) false),(iA y.2)])) args
noncomputable def Mi:Nat->List A->Option A:=fC Mh 60 Lq
theorem D0:bJ Mi:=b9 DZ fun x=>Rq Mh aB (Ki fun _=>r8) (Kj fun _=>r8) x
def zS (x:bw):List A:=[(A.agg (aE x))]
theorem Ns:ew zS:=de (cH (iB))
noncomputable def Lo (args:List A):Option A:=bG zS (fun x=>(HS x).map fun y=>(A.imm (List.map c8 y) false)) args
theorem OK {C:Nat->List A->Option A} (h:∀ a,C 60 a=Lq a):EO C:=fun a0=>(h _).trans (aM _ NK a0)
theorem OL {C:Nat->List A->Option A} (h:∀ a,C 61 a=P3 a):EP C:=fun a0=>(h _).trans (aM _ NL a0)
noncomputable def Mj:Nat->List A->Option A:=fC Mi 29 Lo
theorem D1:bJ Mj:=b9 D0 fun x=>Q8 Mi aB (OK fun _=>r8) (OL fun _=>r8) x
def En (x:bo×az):List A:=[(A.agg (b6 x.1)),(A.agg (ar x.2))]
theorem Nr:ew En:=gY (cH (jt)) (de (cH (dc)))
noncomputable def PL (args:List A):Option A:=bG En (fun x=>(HR x.1 x.2).map fun y=>(A.tup [(A.agg [(A.imm (List.map ar y.1.Queue) false),(A.imm (List.map au y.1.Apart) false)]),(iA y.2)])) args
noncomputable def Mk:Nat->List A->Option A:=fC Mj 28 PL
theorem D2:bJ Mk:=b9 D1 fun x=>Q7 Mj aB (Kc fun _=>r8) (Kf fun _=>r8) x.1 x.2
def wx (x:aw×bw):List A:=[(A.agg (ak x.1)),(A.agg (aE x.2))]
theorem M9:ew wx:=gY (cH (dh)) (de (cH (iB)))
noncomputable def Pz (args:List A):Option A:=bG wx (fun x=>(HL x.1 x.2).map fun y=>(A.tup [(A.agg (ak y.1)),(iA y.2)])) args
theorem J9 {C:Nat->List A->Option A} (h:∀ a,C 14 a=PD a):Ah C:=fun a0=>(h _).trans (aM _ Nd a0)
theorem Oy {C:Nat->List A->Option A} (h:∀ a,C 28 a=PL a):EI C:=fun a0 a1=>(h _).trans (aM _ Nr (a0,a1))
theorem Oz {C:Nat->List A->Option A} (h:∀ a,C 29 a=Lo a):EJ C:=fun a0=>(h _).trans (aM _ Ns a0)
noncomputable def Ml:Nat->List A->Option A:=fC Mk 10 Pz
theorem D3:bJ Ml:=b9 D2 fun x=>QU Mk aB (J9 fun _=>r8) (Hb fun _=>r8) (Oy fun _=>r8) (Oz fun _=>r8) x.1 x.2
def Ep (x:Unit):List A:=[]
theorem Nv:ew Ep:=fun _ _ _=>rfl
noncomputable def Lp (args:List A):Option A:=bG Ep (fun x=>(Mw ).map fun y=>(A.agg [(A.imm (List.map ar y.Queue) false),(A.imm (List.map au y.Apart) false)])) args
noncomputable def Mm:Nat->List A->Option A:=fC Ml 32 Lp
theorem D4:bJ Mm:=b9 D3 fun x=>Rb Ml aB
def Qr (x:Int):List A:=[(iA x)]
theorem Nb:ew Qr:=de (eF .i64)
noncomputable def PB (args:List A):Option A:=bG Qr (fun x=>(HM x).map fun y=>(A.tup [(A.agg (ak y.1)),(iA y.2)])) args
theorem OB {C:Nat->List A->Option A} (h:∀ a,C 32 a=Lp a):EL C:=fun _=>(h _).trans (aM _ Nv ())
noncomputable def Mn:Nat->List A->Option A:=fC Mm 12 PB
theorem D5:bJ Mn:=b9 D4 fun x=>QW Mm aB (OB fun _=>r8) x
def QN (x:az×az):List A:=[(A.agg (ar x.1)),(A.agg (ar x.2))]
theorem NR:ew QN:=gY (cH (dc)) (de (cH (dc)))
noncomputable def P9 (args:List A):Option A:=bG QN (fun x=>(Ic x.1 x.2).map fun y=>(bA y)) args
noncomputable def Mo:Nat->List A->Option A:=fC Mn 69 P9
theorem D6:bJ Mo:=b9 D5 fun x=>Ry Mn aB  x.1 x.2
def QE (x:bo×bo):List A:=[(A.agg (b6 x.1)),(A.agg (b6 x.2))]
theorem ND:ew QE:=gY (cH (jt)) (de (cH (jt)))
noncomputable def PX (args:List A):Option A:=bG QE (fun x=>(HX x.1 x.2).map fun y=>(bA y)) args
theorem OP {C:Nat->List A->Option A} (h:∀ a,C 69 a=P9 a):Av C:=fun a0 a1=>(h _).trans (aM _ NR (a0,a1))
noncomputable def Mp:Nat->List A->Option A:=fC Mo 40 PX
theorem D7:bJ Mp:=b9 D6 fun x=>Rj Mo aB (OP fun _=>r8) x.1 x.2
def zR (x:aw×aw):List A:=[(A.agg (ak x.1)),(A.agg (ak x.2))]
theorem Nf:ew zR:=gY (cH (dh)) (de (cH (dh)))
noncomputable def PE (args:List A):Option A:=bG zR (fun x=>(Hm x.1 x.2).map fun y=>(bA y)) args
theorem OH {C:Nat->List A->Option A} (h:∀ a,C 40 a=PX a):EM C:=fun a0 a1=>(h _).trans (aM _ ND (a0,a1))
noncomputable def Mq:Nat->List A->Option A:=fC Mp 15 PE
theorem D8:bJ Mq:=b9 D7 fun x=>QZ Mp aB (Ka fun _=>r8) (OH fun _=>r8) x.1 x.2
def x3 (x:Int×aw×bw):List A:=[(iA x.1),(A.agg (ak x.2.1)),(A.agg (aE x.2.2))]
theorem SK:ew x3:=gY (eF .i64) (gY (cH (dh)) (de (cH (iB))))
noncomputable def o3 (args:List A):Option A:=bG x3 (fun x=>(G3 x.1 x.2.1 x.2.2).map fun y=>(bA y)) args
theorem Ol {C:Nat->List A->Option A} (h:∀ a,C 10 a=Pz a):Ey C:=fun a0 a1=>(h _).trans (aM _ M9 (a0,a1))
theorem Om {C:Nat->List A->Option A} (h:∀ a,C 12 a=PB a):Ez C:=fun a0=>(h _).trans (aM _ Nb a0)
theorem On {C:Nat->List A->Option A} (h:∀ a,C 15 a=PE a):EA C:=fun a0 a1=>(h _).trans (aM _ Nf (a0,a1))
theorem SU {C:Nat->List A->Option A} (h:∀ a,C 7 a=o7 a):Ik C:=fun _=>(h _).trans (aM _ SM ())
theorem SV {C:Nat->List A->Option A} (h:∀ a,C 8 a=o8 a):Il C:=fun a0=>(h _).trans (aM _ SN a0)
theorem SQ (args:List A) (r:A) (h:o3 args=some r):en prog (cx C0).glob 3 args r:=by
 obtain ⟨x,y,rfl,hy,rfl⟩:=di h
 exact xv (f:=fun (y:Bool)=>(bA y)) (cx:=cx Mq) (fun k args r _ h=>D8 k args r h) r8 (T3 Mq aB (Ol fun _=>r8) (J8 fun _=>r8) (Om fun _=>r8) (G6 fun _=>r8) (J9 fun _=>r8) (On fun _=>r8) (SU fun _=>r8) (SV fun _=>r8) (Qo fun _=>r8) x.1 x.2.1 x.2.2) hy
end
section
open Go.RowKit Go.ChangeShapes Go.WideShapes Go.ChangeAt Go.Deep
theorem F5 {args:Array Value} (h:args.size=3):∃ a0 a1 a2,args=#[a0,a1,a2]:=by
 match args,h with | ⟨[a0,a1,a2]⟩,_=>exact⟨a0,a1,a2,rfl⟩
mutual
def bM:aq->Prop
 | .mk Kind N S L=>(fc Kind/\fc N/\(S.size<=lS)/\L.length<=lS)/\fo L
def fo:List aq->Prop
 | []=>True
 | x :: r=>bM x/\fo r
end
theorem ln:∀ (l:List aq),fo l↔∀ z∈l,bM z
 | []=>by rw[fo]; simp
 | x :: r=>by rw[fo,ln r]; simp
theorem dn (x:aq):bM x↔fc x.Kind/\fc x.N/\(x.S.size<=lS)/\(x.L.length<=lS/\∀ z∈x.L,bM z):=by
 cases x
 rw[bM,ln]
 simp only[and_assoc]
def pG (x:az):Prop:=fc x.From/\fc x.To/\(x.Data.length<=lS)
def vY (x:bo):Prop:=(x.Queue.length<=lS/\∀ z∈x.Queue,pG z)/\(x.Apart.length<=lS/\∀ z∈x.Apart,(fc z.1/\fc z.2))
def iD (x:bw):Prop:=fc x.No/\fc x.Role/\fc x.Bar/\fc x.Program
def vX (x:bH):Prop:=(x.Cues.length<=lS/\∀ z∈x.Cues,iD z)/\(x.Got.length<=lS/\∀ z∈x.Got,fc z)/\(x.Did.length<=lS/\∀ z∈x.Did,fc z)
def q7 (x:aw):Prop:=vY x.Net/\(x.Ears.length<=lS/\∀ z∈x.Ears,vX z)/\fc x.Bar
theorem J0:pK Try.prog 48 ar pG:=pK.of (fQ (fs:=#[Field.mk "From" 3 0 false "" "" 0,Field.mk "To" 3 1 false "" "" 8,Field.mk "Data" 46 2 false "" "" 16]) (Ts:=[_,_,_]) r8 r8 ⟨(jU r8),(jU r8),(zK (e:=5) (es:=1) (c:=c8) r8 r8 (by decide) (fun _=>rfl) (J2 r8)),trivial⟩) fun l h=>by
 obtain ⟨_,_,rfl,⟨x0,rfl,h0⟩,_,_,rfl,⟨x1,rfl,h1⟩,_,_,rfl,⟨x2,rfl,h2⟩,rfl⟩:=h
 exact⟨⟨x0,x1,x2⟩,by simp[ar,cI,cB,cS,cL,av,ar,au,b6,aE,aC,ak,aA,ax,aZ,cp,aD],h0,h1,h2⟩
theorem G1:pK Try.prog 115 au (fun x=>(fc x.1/\fc x.2)):=pK.of (uy (n:=2) (e:=3) r8 r8 (jU r8)) fun l h=>by
 obtain ⟨_,_,rfl,⟨x0,rfl,h0⟩,_,_,rfl,⟨x1,rfl,h1⟩,rfl⟩:=h
 exact⟨(x0,x1),by simp[cI,cB,cS,cL,av,ar,au,b6,aE,aC,ak,aA,ax,aZ,cp,aD],h0,h1⟩
theorem JY:pK Try.prog 25 b6 vY:=pK.of (fQ (fs:=#[Field.mk "Queue" 22 0 false "" "" 0,Field.mk "Apart" 23 1 false "" "" 24]) (Ts:=[_,_]) r8 r8 ⟨(jv (e:=48) (es:=3) (c:=ar) r8 r8 (by decide) (fun _=>rfl) J0),(jv (e:=115) (es:=2) (c:=au) r8 r8 (by decide) (fun _=>rfl) G1),trivial⟩) fun l h=>by
 obtain ⟨_,_,rfl,⟨x0,rfl,h0⟩,_,_,rfl,⟨x1,rfl,h1⟩,rfl⟩:=h
 exact⟨⟨x0,x1⟩,by simp[b6,cI,cB,cS,cL,av,ar,au,b6,aE,aC,ak,aA,ax,aZ,cp,aD],h0,h1⟩
theorem FG:pK Try.prog 30 aE iD:=pK.of (fQ (fs:=#[Field.mk "No" 3 0 false "" "" 0,Field.mk "Role" 3 1 false "" "" 8,Field.mk "Bar" 3 2 false "" "" 16,Field.mk "Program" 3 3 false "" "" 24]) (Ts:=[_,_,_,_]) r8 r8 ⟨(jU r8),(jU r8),(jU r8),(jU r8),trivial⟩) fun l h=>by
 obtain ⟨_,_,rfl,⟨x0,rfl,h0⟩,_,_,rfl,⟨x1,rfl,h1⟩,_,_,rfl,⟨x2,rfl,h2⟩,_,_,rfl,⟨x3,rfl,h3⟩,rfl⟩:=h
 exact⟨⟨x0,x1,x2,x3⟩,by simp[aE,cI,cB,cS,cL,av,ar,au,b6,aE,aC,ak,aA,ax,aZ,cp,aD],h0,h1,h2,h3⟩
theorem J1:pK Try.prog 55 aC vX:=pK.of (fQ (fs:=#[Field.mk "Cues" 53 0 false "" "" 0,Field.mk "Got" 50 1 false "" "" 24,Field.mk "Did" 50 2 false "" "" 48]) (Ts:=[_,_,_]) r8 r8 ⟨(jv (e:=30) (es:=4) (c:=aE) r8 r8 (by decide) (fun _=>rfl) FG),(jv (e:=3) (es:=1) (c:=(cI .i64)) r8 r8 (by decide) (fun _=>rfl) (jU r8)),(jv (e:=3) (es:=1) (c:=(cI .i64)) r8 r8 (by decide) (fun _=>rfl) (jU r8)),trivial⟩) fun l h=>by
 obtain ⟨_,_,rfl,⟨x0,rfl,h0⟩,_,_,rfl,⟨x1,rfl,h1⟩,_,_,rfl,⟨x2,rfl,h2⟩,rfl⟩:=h
 exact⟨⟨x0,x1,x2⟩,by simp[aC,cI,cB,cS,cL,av,ar,au,b6,aE,aC,ak,aA,ax,aZ,cp,aD],h0,h1,h2⟩
theorem JZ:pK Try.prog 28 ak q7:=pK.of (fQ (fs:=#[Field.mk "Net" 25 0 false "" "" 0,Field.mk "Ears" 26 2 false "" "" 48,Field.mk "Bar" 3 3 false "" "" 72]) (Ts:=[_,_,_]) r8 r8 ⟨JY,(jv (e:=55) (es:=3) (c:=aC) r8 r8 (by decide) (fun _=>rfl) J1),(jU r8),trivial⟩) fun l h=>by
 obtain ⟨_,_,rfl,⟨x0,rfl,h0⟩,_,_,rfl,⟨x1,rfl,h1⟩,_,_,rfl,⟨x2,rfl,h2⟩,rfl⟩:=h
 exact⟨⟨x0,x1,x2⟩,by simp[ak,cI,cB,cS,cL,av,ar,au,b6,aE,aC,ak,aA,ax,aZ,cp,aD],h0,h1,h2⟩
def EY:Prop:=∀ (a0:Int) (a1:aw) (a2:bw),fc a0->q7 a1->iD a2->G3 a0 a1 a2=some true
theorem Kw (hp:EY) (W:World) (base:Nat) (args:Array Value) {H:Type} {enc:TypeId×Value->H} (hg:pZ enc Try.prog W base Try.f3.params args) (hl:∀ (G:Nat) (vs:List Value),(cx C0).glob G=some vs->∀ (j:Nat) (v:Value),vs[j]? = some v->W.cell? ⟨G,j,none⟩=some v) :
  Calls Try.prog 3 args W fun e W'=>e=.returned (.bool true)/\Below W.heap.size W W':=by
 obtain ⟨v0,v1,v2,rfl⟩:=F5 hg.1
 obtain ⟨a0,b0,w0⟩:=Gv hg 0 rfl rfl r8
 obtain ⟨a1,b1,w1⟩:=sF hg 1 rfl rfl (fs:=#[Field.mk "Net" 25 0 false "" "" 0,Field.mk "Ears" 26 2 false "" "" 48,Field.mk "Bar" 3 3 false "" "" 72]) r8 JZ
 obtain ⟨a2,b2,w2⟩:=sF hg 2 rfl rfl (fs:=#[Field.mk "No" 3 0 false "" "" 0,Field.mk "Role" 3 1 false "" "" 8,Field.mk "Bar" 3 2 false "" "" 16,Field.mk "Program" 3 3 false "" "" 24]) r8 FG
 refine Gx (glob:=(cx C0).glob) (SQ _ _ ((aM _ SK (a0,a1,a2)).trans (by simp only[hp a0 a1 a2 b0 b1 b2]; rfl))) hl ?_
 exact p4 w0 (p4 w1 (p4 w2 x5))
end
@[simp] theorem or_some (a b:Bool):(bif a then some true else some b)=some (a || b):=by cases a<;>rfl
@[simp] theorem Ir (a b:Bool):(bif a then some b else some false)=some (a&&b):=by cases a<;>rfl
theorem dv {n:Int} (h:-9223372036854775808<=n) (h':n<=9223372036854775807):wr .i64 n=n:=by
 simp only[wr,IntKind.wrap,IntKind.bits,IntKind.signed]
 simp
 omega
theorem bE {T:Type} (l:List T) (i:Nat):bK l (i:Int)=l[i]?:=by simp[bK]
theorem fu:aB=1208925819614629174706176:=rfl
mutual
def lP:aq->Nat
 | .mk _ _ s l=>1+s.size / 200+kK l
def kK:List aq->Nat
 | []=>0
 | x :: r=>lP x+kK r
end
theorem dY (v:aq):lP v=1+v.S.size / 200+kK v.L:=by cases v; rw[lP]
theorem mT (v:aq):1<=lP v:=by rw[dY]; omega
theorem kM:kK []=0:=by rw[kK]
theorem jf (x:aq) (r:List aq):kK (x :: r)=lP x+kK r:=by rw[kK]
theorem dN:∀ l:List aq,l.length<=kK l
 | []=>TL _
 | x :: r=>by rw[jf,TM]; have:=dN r; have:=mT x; omega
theorem gE:∀ {l:List aq} {x:aq},x∈l->lP x<=kK l
 | y :: r,x,h=>by
  rw[jf]
  rcases Ud.1 h with rfl | h
  ·omega
  ·have:=gE h; omega
def emp (s:ByteArray):Bool:=iI s (ByteArray.mk #[])
mutual
def qH:aq->Bool
 | .mk k n s l=>bif k==1 then emp s&&((l.length:Int)==0) else bif k==2 then (n==0)&&((l.length:Int)==0) else bif k==3 then jP l&&((n==0)&&emp s) else false
def jP:List aq->Bool
 | []=>true
 | x :: r=>qH x&&jP r
end
mutual
def dep:aq->Nat
 | .mk k _ _ l=>bif k==3 then ma l+1 else 0
def ma:List aq->Nat
 | []=>0
 | x :: r=>max (dep x) (ma r)
end
theorem mo (v:aq):qH v=bif v.Kind==1 then emp v.S&&((v.L.length:Int)==0) else bif v.Kind==2 then (v.N==0)&&((v.L.length:Int)==0) else bif v.Kind==3 then jP v.L&&((v.N==0)&&emp v.S) else false:=by cases v; rw[qH]
theorem nr (v:aq):dep v=bif v.Kind==3 then ma v.L+1 else 0:=by cases v; rw[dep]
theorem ot:jP []=true:=by rw[jP]
theorem kD (x:aq) (r:List aq):jP (x :: r)=(qH x&&jP r):=by rw[jP]
theorem mc:ma []=0:=by rw[ma]
theorem kB (x:aq) (r:List aq):ma (x :: r)=max (dep x) (ma r):=by rw[ma]
mutual
theorem CS:∀ v:aq,dep v<=lP v
 | .mk k n s l=>by
  rw[dep,lP]
  have:=n7 l
  cases k==3<;>simp<;>omega
theorem n7:∀ l:List aq,ma l<=kK l
 | []=>by rw[mc]; omega
 | x :: r=>by
  rw[kB,jf]
  have:=CS x; have:=n7 r; omega
end
theorem BC (self:aq->Option Int) (n:Nat) (z:Int) (v:aq) (hn:lP v<=1100000) (hself:∀ e∈v.L,self e=some (dep e:Int)) :
  ∀ (k m i d:Nat),i+k=v.L.length->k<m->fV self n v m (d:Int) (i:Int)=some ((max d (ma (v.L.drop i)):Nat):Int)
 | 0,m,i,d,h1,h2=>by
  obtain ⟨m,rfl⟩:∃ q,m=q+1:=⟨m - 1,r7⟩
  rw[fV,Tx r7,TS.2 r7,mc]
  simp
 | k+1,m,i,d,h1,h2=>by
  obtain ⟨m,rfl⟩:∃ q,m=q+1:=⟨m - 1,r7⟩
  have hi:i<v.L.length:=r7
  have hl:=dN v.L
  rw[dY] at hn
  rw[fV,Tq r7,TB hi,kB]
  simp only[Tn,bE,Tj hi,Ti,hself _ (Ub hi)]
  rw[dv r7 r7,show (i:Int)+1=((i+1:Nat):Int) by omega,show (if (d:Int)<(dep v.L[i]:Int) then (dep v.L[i]:Int) else (d:Int))=((max d (dep v.L[i]):Nat):Int) by split<;>omega]
  rw[BC self n z v (by rw[dY]; exact hn) hself k m (i+1) _ r7 r7]
  congr 2
  omega
theorem Qn:∀ (q:Nat) (v:aq),lP v<=q->lP v<=1100000->uN q v=some (dep v:Int)
 | 0,v,h,_=>by have:=mT v; omega
 | q+1,v,h,hn=>by
  show zZ (uN q) aB v=_
  unfold zZ
  rw[nr]
  cases hk:v.Kind==3 with
  | false=>rw[show (v.Kind != 3)=true by rw[bne,hk]; rfl]; rfl
  | true=>
   rw[show (v.Kind != 3)=false by rw[bne,hk]; rfl]
   have hl:=dN v.L
   have hn':=hn
   rw[dY] at hn' h
   have:=BC (uN q) aB 0 v hn (fun e he=>by
    have:=gE he
    exact Qn q e r7 r7) v.L.length (aB+8) 0 0 r7 s0
   rw[show ((0:Nat):Int)=0 from rfl] at this
   simp only[Tk,this,Ti,T5,Tn]
   have hd:=n7 v.L
   rw[dv r7 r7]
   first | done | (congr 1; try omega)
theorem BB (self:aq->Option Bool) (n:Nat) (z:Bool) (v:aq) (hn:lP v<=1100000) (hself:∀ e∈v.L,self e=some (qH e)) :
  ∀ (k m i:Nat),i+k=v.L.length->k<m->fU self n v m (i:Int)=some (bif jP (v.L.drop i) then .inr () else .inl false)
 | 0,m,i,h1,h2=>by
  obtain ⟨m,rfl⟩:∃ q,m=q+1:=⟨m - 1,r7⟩
  rw[fU,Tx r7,TS.2 r7,ot]
  rfl
 | k+1,m,i,h1,h2=>by
  obtain ⟨m,rfl⟩:∃ q,m=q+1:=⟨m - 1,r7⟩
  have hi:i<v.L.length:=r7
  have hl:=dN v.L
  rw[dY] at hn
  rw[fU,Tq r7,TB hi,kD]
  simp only[Tn,bE,Tj hi,Ti,hself _ (Ub hi)]
  cases qH v.L[i] with
  | false=>rfl
  | true=>
   rw[dv r7 r7,show (i:Int)+1=((i+1:Nat):Int) by omega]
   exact BB self n z v (by rw[dY]; exact hn) hself k m (i+1) r7 r7
theorem FF:∀ (q:Nat) (v:aq),lP v<=q->lP v<=1100000->uM q v=some (qH v)
 | 0,v,h,_=>by have:=mT v; omega
 | q+1,v,h,hn=>by
  show zY (uM q) aB v=_
  unfold zY
  rw[mo]
  cases hk1:v.Kind==1 with
  | true=>simp only[Tn]; show Option.bind (bif emp v.S then _ else _) _=_; cases emp v.S<;>rfl
  | false=>
   cases hk2:v.Kind==2 with
   | true=>simp only[Tn,Tk]; cases v.N==0<;>rfl
   | false=>
    cases hk3:v.Kind==3 with
    | false=>rfl
    | true=>
     have hl:=dN v.L
     have hn':=hn
     rw[dY] at hn' h
     have:=BB (uM q) aB false v hn (fun e he=>by
      have:=gE he
      exact FF q e r7 r7) v.L.length (aB+8) 0 r7 s0
     rw[show ((0:Nat):Int)=0 from rfl] at this
     simp only[Tk,Tn,this,Ti,T5]
     cases jP v.L with
     | false=>rfl
     | true=>show Option.bind (bif v.N==0 then some (emp v.S) else _) _=_; cases v.N==0<;>rfl
def iq (v:aq):Int:=bif qH v then (bif decide (16<dep v) then 2 else 0) else 1
theorem Pw (v:aq) (hn:lP v<=1100000):Hw v=some (iq v):=by
 unfold Hw Le CG CH
 rw[FF _ v s0 hn,Qn _ v s0 hn]
 simp only[Ti]
 unfold iq
 cases qH v with
 | false=>rfl
 | true=>
  simp only[TF,Tk,Tn]
  by_cases h:16<dep v
  ·rw[Tq h,Tq r7]; rfl
  ·rw[Tx h,Tx r7]; rfl
theorem BA (self:aq->Option (Int×Bool)) (n:Nat) (z:Bool) (v:aq) (w a b c d:Bool) (hn:lP v<=1100000) (hself:∀ e∈v.L,∃ x,self e=some (x,qH e)/\(qH e=true->x=(dep e:Int))) :
  ∀ (k m i t:Nat),i+k=v.L.length->k<m->∃ r,jk self n z v.L (v.L.length:Int) v w a b c m (t:Int) (i:Int)=some r/\(match r with | .inl p=>jP (v.L.drop i)=false/\p.1=0/\p.2=false | .inr x=>jP (v.L.drop i)=true/\x=((max t (ma (v.L.drop i)):Nat):Int))
 | 0,m,i,t,h1,h2=>by
  obtain ⟨m,rfl⟩:∃ q,m=q+1:=⟨m - 1,r7⟩
  rw[jk,Tx r7,TS.2 r7,ot,mc]
  exact⟨_,rfl,rfl,r9⟩
 | k+1,m,i,t,h1,h2=>by
  obtain ⟨m,rfl⟩:∃ q,m=q+1:=⟨m - 1,r7⟩
  have hi:i<v.L.length:=r7
  have hl:=dN v.L
  rw[dY] at hn
  obtain ⟨x,h3,h4⟩:=hself _ (Ub hi)
  rw[jk,Tq r7,TB hi,kD,kB]
  simp only[Tn,bE,Tj hi,Ti,h3]
  cases hf:qH v.L[i] with
  | false=>exact⟨_,rfl,rfl,rfl,rfl⟩
  | true=>
   rw[h4 hf]
   simp only[TF,Tk,TU]
   rw[dv r7 r7,show (i:Int)+1=((i+1:Nat):Int) by omega,show (if (t:Int)<(dep v.L[i]:Int) then (dep v.L[i]:Int) else (t:Int))=((max t (dep v.L[i]):Nat):Int) by split<;>omega]
   have:=BA self n z v w a b c d (by rw[dY]; exact hn) hself k m (i+1) (max t (dep v.L[i])) r7 r7
   rw[show max t (max (dep v.L[i]) (ma (v.L.drop (i+1))))=max (max t (dep v.L[i])) (ma (v.L.drop (i+1))) by omega]
   exact this
theorem FE:∀ (q:Nat) (v:aq),lP v<=q->lP v<=1100000->∃ x,E0 q v=some (x,qH v)/\(qH v=true->x=(dep v:Int))
 | 0,v,h,_=>by have:=mT v; omega
 | q+1,v,h,hn=>by
  have hl:=dN v.L
  have hn':=hn
  rw[dY] at hn' h
  obtain ⟨r,h1,h2⟩:=BA (E0 q) aB false v false (emp v.S&&((v.L.length:Int)==0)) ((v.N==0)&&((v.L.length:Int)==0)) ((v.N==0)&&emp v.S) false hn (fun e he=>by
   have:=gE he
   exact FE q e r7 r7) v.L.length (aB+8) 0 0 r7 s0
  rw[show ((0:Nat):Int)=0 from rfl] at h1
  rw[T5] at h2
  show ∃ x,HJ (E0 q) aB v=_/\_
  unfold HJ
  rw[show (bif iI v.S (ByteArray.mk #[]) then some ((v.L.length:Int)==0) else some false)=some (emp v.S&&((v.L.length:Int)==0)) from by unfold emp; cases iI v.S (ByteArray.mk #[])<;>rfl,
   show (bif v.N==0 then some ((v.L.length:Int)==0) else some false)=some ((v.N==0)&&((v.L.length:Int)==0)) from by cases v.N==0<;>rfl,
   show (bif v.N==0 then some (iI v.S (ByteArray.mk #[])) else some false)=some ((v.N==0)&&emp v.S) from by unfold emp; cases v.N==0<;>rfl]
  simp only[Ti]
  rw[mo,nr]
  by_cases k1:v.Kind<1
  ·rw[Tq k1]
   refine⟨0,?_,?_⟩
   ·rw[show (v.Kind==1)=false from so,show (v.Kind==2)=false from so,show (v.Kind==3)=false from so]; rfl
   ·rw[show (v.Kind==1)=false from so,show (v.Kind==2)=false from so,show (v.Kind==3)=false from so]; intro h; cases h
  by_cases k2:3<v.Kind
  ·rw[Tx k1,Tq k2]
   refine⟨0,?_,?_⟩
   ·rw[show (v.Kind==1)=false from so,show (v.Kind==2)=false from so,show (v.Kind==3)=false from so]; rfl
   ·rw[show (v.Kind==1)=false from so,show (v.Kind==2)=false from so,show (v.Kind==3)=false from so]; intro h; cases h
  rw[Tx k1,Tx k2]
  simp only[Tk,Tn,Ti]
  rcases (show v.Kind=1∨v.Kind=2∨v.Kind=3 by omega) with hk | hk | hk
  ·rw[hk]
   simp only[show decide ((1:Int)=0)=false from rfl,show decide ((1:Int)=1)=true from rfl,show decide ((1:Int)<3)=true from rfl,show ((1:Int)==1)=true from rfl,show ((1:Int)==3)=false from rfl,Tk,Tn,Ti]
   cases emp v.S&&((v.L.length:Int)==0) with
   | false=>exact⟨0,rfl,fun h=>by cases h⟩
   | true=>exact⟨0,rfl,fun _=>rfl⟩
  ·rw[hk]
   simp only[show decide ((2:Int)=0)=false from rfl,show decide ((2:Int)=1)=false from rfl,show decide ((2:Int)=2)=true from rfl,show decide ((2:Int)<3)=true from rfl,show ((2:Int)==1)=false from rfl,show ((2:Int)==2)=true from rfl,show ((2:Int)==3)=false from rfl,Tk,Tn,Ti]
   cases (v.N==0)&&((v.L.length:Int)==0) with
   | false=>exact⟨0,rfl,fun h=>by cases h⟩
   | true=>exact⟨0,rfl,fun _=>rfl⟩
  ·rw[hk]
   simp only[show decide ((3:Int)=0)=false from rfl,show decide ((3:Int)=1)=false from rfl,show decide ((3:Int)=2)=false from rfl,show decide ((3:Int)=3)=true from rfl,show decide ((3:Int)<3)=false from rfl,show ((3:Int)==1)=false from rfl,show ((3:Int)==2)=false from rfl,show ((3:Int)==3)=true from rfl,Tk,Tn,Ti]
   cases hc:(v.N==0)&&emp v.S with
   | false=>exact⟨0,r9,fun h=>by simp at h⟩
   | true=>
    rw[hc] at h1
    simp only[TF,Tk,h1,Ti]
    cases r with
    | inl p=>
     obtain ⟨h3,h4,h5⟩:=h2
     obtain ⟨p1,p2⟩:=p
     refine⟨0,?_,fun h=>?_⟩
     ·rw[h3]; simp only at h4 h5; subst h4; subst h5; rfl
     ·rw[h3] at h; cases h
    | inr x=>
     obtain ⟨h3,h4⟩:=h2
     have hd:=n7 v.L
     refine⟨_,by rw[h3]; rfl,fun _=>?_⟩
     rw[h4,dv r7 r7]
     omega
theorem SD (v:aq) (hn:lP v<=1100000):Ig v=some (iq v):=by
 unfold Ig Ld Lj
 obtain ⟨x,h1,h2⟩:=FE aB v s0 hn
 rw[h1,Ti]
 unfold iq
 cases hf:qH v with
 | false=>rfl
 | true=>
  rw[h2 hf]
  simp only[TF,Tk,Tn]
  by_cases h:16<dep v
  ·rw[Tq h,Tq r7]; rfl
  ·rw[Tx h,Tx r7]; rfl
theorem Fi:dm=140737488355328:=r8
theorem gR {T:Type} (b:Nat) (l l2:List T) (h:(l.length+l2.length)*b<=dm):c7 b l l2=some (l++l2):=by unfold c7; rw[Tq h]; rfl
theorem kX (l l2:List UInt8) (h:l.length+l2.length<=140737488355328):c7 1 l l2=some (l++l2):=gR _ _ _ (by rw[Fi]; omega)
def num (n:Nat):List UInt8:=if h:n<128 then [UInt8.ofNat n] else UInt8.ofNat (n % 128+128) :: num (n / 128)
termination_by n
decreasing_by omega
theorem nH {n:Nat} (h:n<128):num n=[UInt8.ofNat n]:=by rw[num]; exact dif_pos h
theorem uq {n:Nat} (h:¬ n<128):num n=UInt8.ofNat (n % 128+128) :: num (n / 128):=by rw[num]; exact dif_neg h
theorem yD:∀ (k n:Nat),n<128 ^ k->(num n).length<=max k 1
 | 0,n,h=>by rw[nH (by simpa using TE h (by decide))]; simp
 | k+1,n,h=>by
  by_cases h1:n<128
  ·rw[nH h1]; simp
  ·rw[uq h1,TM]
   have hk:0<k:=by
    rcases VA k with rfl | hk
    ·simp at h; omega
    ·exact hk
   have:=yD k (n / 128) (by rw[VI (by decide)]; rw[WU] at h; exact h)
   omega
theorem jS {n:Nat} (h:n<18446744073709551616):(num n).length<=10:=yD 10 n (TE h (by decide))
theorem Hh (n:Nat):wr .u8 (n:Int)=((n % 256:Nat):Int):=by
 unfold wr IntKind.wrap
 simp[IntKind.bits,IntKind.signed]
theorem JS:∀ c:Fin 256,lT .u8 (c.val:Int) 128=((c.val % 128+128:Nat):Int):=by decide +kernel
theorem GO (n:Nat):lT .u8 (wr .u8 (n:Int)) 128=((n % 128+128:Nat):Int):=by
 rw[Hh]
 have:=JS ⟨n % 256,VJ _ (by decide)⟩
 rw[this]
 simp only
 congr 2
 omega
theorem O4 (n:Nat):mF .u64 (n:Int) 7=((n / 128:Nat):Int):=by
 unfold mF
 show Int.fdiv (n:Int) (2 ^ 7)=_
 rw[VP _ (by decide)]
 rfl
theorem jb (G:Nat->Int->List UInt8->Option (Int×List UInt8)) (hG:∀ m v l,G (m+1) v l=bif decide (128<=v) then (bif (decide (0<=(lT .u8 (wr .u8 (v)) 128))&&decide ((lT .u8 (wr .u8 (v)) 128)<256)) then (Option.bind (c7 1 l ([(UInt8.ofNat (Int.toNat (lT .u8 (wr .u8 (v)) 128)))])) fun y=>G m (mF .u64 v 7) y) else none) else some (v,l)) :
  ∀ (k m n:Nat) (l:List UInt8),n<128 ^ k->k<=11->k<m->l.length+k<=140737488355328->∃ (y:Nat) (ini:List UInt8),y<128/\G m (n:Int) l=some ((y:Int),l++ini)/\num n=ini++[UInt8.ofNat y]
 | 0,m,n,l,h,_,hm,hl=>by
  obtain ⟨m,rfl⟩:∃ q,m=q+1:=⟨m - 1,r7⟩
  have h:n<1:=h
  exact⟨n,[],r7,by rw[hG,Tx r7,Uy]; rfl,by rw[nH r7]; rfl⟩
 | k+1,m,n,l,h,hk,hm,hl=>by
  obtain ⟨m,rfl⟩:∃ q,m=q+1:=⟨m - 1,r7⟩
  by_cases h1:n<128
  ·exact⟨n,[],h1,by rw[hG,Tx r7,Uy]; rfl,by rw[nH h1]; rfl⟩
  ·have hq:n / 128<128 ^ k:=by rw[VI (by decide)]; rw[WU] at h; exact h
   rw[hG,Tq r7,GO,Tq r7,Tq r7,O4,VZ]
   simp only[Tn,Vx]
   rw[kX _ _ so,Ti]
   obtain ⟨y,ini,h2,h3,h4⟩:=jb G hG k m (n / 128) (l++[UInt8.ofNat (n % 128+128)]) hq r7 r7 so
   exact⟨y,UInt8.ofNat (n % 128+128) :: ini,h2,by rw[h3,Ug]; rfl,by rw[uq h1,h4]; rfl⟩
theorem O7 {y:Nat} (h:y<128):wr .u8 (y:Int)=(y:Int):=by rw[Hh,VM r7]
theorem GZ:∀ (k q n:Nat),n<128 ^ k->k<=11->k<q->n<18446744073709551616->uO q (n:Int)=some (num n)
 | 0,q,n,h,_,hq,hn=>by
  obtain ⟨q,rfl⟩:∃ p,q=p+1:=⟨q - 1,r7⟩
  have h:n<1:=h
  show wC (uO q) aB _=_
  unfold wC
  rw[Tq r7,O7 r7,Tq r7,Tq r7,nH r7]
  rfl
 | k+1,q,n,h,hk,hq,hn=>by
  obtain ⟨q,rfl⟩:∃ p,q=p+1:=⟨q - 1,r7⟩
  show wC (uO q) aB _=_
  unfold wC
  by_cases h1:n<128
  ·rw[Tq r7,O7 h1,Tq r7,Tq r7,nH h1]
   rfl
  ·have hk0:0<k:=by
    rcases VA k with rfl | hk
    ·simp at h; omega
    ·exact hk
   have hq2:n / 128<128 ^ k:=by rw[VI (by decide)]; rw[WU] at h; exact h
   have e1:Int.tmod (n:Int) 128=((n % 128:Nat):Int):=rfl
   have e2:Int.tdiv (n:Int) 128=((n / 128:Nat):Int):=rfl
   have wu:∀ z:Nat,z<18446744073709551616->wr .u64 (z:Int)=(z:Int):=fun z hz=>by
    unfold wr IntKind.wrap
    simp[IntKind.bits,IntKind.signed]
    omega
   rw[Tx r7]
   simp only[Tk]
   rw[e1,e2,show ((n % 128:Nat):Int)+128=((n % 128+128:Nat):Int) by omega,wu _ r7,wu _ r7,Hh (n % 128+128),VM (show n % 128+128<256 by omega),Tq r7,Tq r7,VZ]
   simp only[Tn,Tk,Vx]
   rw[GZ k q (n / 128) hq2 r7 r7 r7,Ti,kX _ _ (by have:=jS (n:=n / 128) r7; simp; omega),uq h1]
   rfl
theorem M5 (n:Nat) (h:n<18446744073709551616):za (n:Int)=some (num n):=GZ 10 aB n (TE h (by decide)) r7 s0 h
def uE (n:Int):Nat:=if 0<=n then (2*n).toNat else (-2*n - 1).toNat
theorem xH (z:Int):wr .u64 z=z % 18446744073709551616:=by
 unfold wr IntKind.wrap
 simp[IntKind.bits,IntKind.signed]
theorem nP {n:Int} (h:fc n):uE n<18446744073709551616:=by
 obtain ⟨h1,h2⟩:=h
 unfold uE; split<;>omega
theorem SG (n:Int) (h:fc n):z8 n=some (uE n:Int):=by
 obtain ⟨h1,h2⟩:=h
 unfold z8 CD uE
 by_cases h0:0<=n
 ·rw[Tq h0,Ty h0]
  simp only[Tn,xH]
  congr 1; omega
 ·rw[Tx h0,Tw h0,dv (n:=n+1) r7 r7,dv (n:=0 - (n+1)) r7 r7]
  simp only[Tk,xH]
  congr 1; omega
theorem xor_zero (a:Int) (h:0<=a) (h':a<18446744073709551616):pQ .u64 a 0=a:=by
 unfold pQ
 show IntKind.wrap .u64 ((BitVec.ofInt 64 a ^^^ BitVec.ofInt 64 0).toNat:Int)=a
 rw[show BitVec.ofInt 64 0=0#64 from rfl,BitVec.xor_zero]
 have:=xH ((BitVec.ofInt 64 a).toNat:Int)
 unfold wr at this
 rw[this,U7]
 omega
theorem Cv (a:Int) (h:0<=a) (h':a<18446744073709551616):pQ .u64 a 18446744073709551615=18446744073709551615 - a:=by
 unfold pQ
 show IntKind.wrap .u64 ((BitVec.ofInt 64 a ^^^ BitVec.ofInt 64 18446744073709551615).toNat:Int)=_
 rw[show BitVec.ofInt 64 18446744073709551615=BitVec.allOnes 64 from rfl,BitVec.xor_allOnes,BitVec.toNat_not]
 have:=xH (((2 ^ 64 - 1 - (BitVec.ofInt 64 a).toNat:Nat)):Int)
 unfold wr at this
 rw[this,U7]
 omega
theorem M4 (n:Int) (h:fc n):FR n=some (uE n:Int):=by
 obtain ⟨h1,h2⟩:=h
 unfold FR Lf
 have e1:nO .u64 (wr .u64 n) 1=(2*n) % 18446744073709551616:=by
  unfold nO
  have:=xH (wr .u64 n*2 ^ 1)
  unfold wr at this ⊢
  show IntKind.wrap .u64 (IntKind.wrap .u64 n*2 ^ 1)=_
  rw[this]
  have h4:=xH n
  unfold wr at h4
  rw[h4]; omega
 have e2:mF .i64 n 63=n / 9223372036854775808:=by
  unfold mF
  show Int.fdiv n (2 ^ 63)=_
  rw[VP _ (by decide)]
  rfl
 rw[e1,e2]
 congr 1
 unfold uE
 by_cases h0:0<=n
 ·rw[Ty h0,show n / 9223372036854775808=0 by omega,show wr .u64 0=0 from rfl,xor_zero _ r7 r7]; omega
 ·rw[Tw h0,show n / 9223372036854775808=-1 by omega,show wr .u64 (-1)=18446744073709551615 from rfl,Cv _ r7 r7]; omega
mutual
def ir:aq->List UInt8
 | .mk k n s l=>bif k==1 then 1 :: num (uE n) else bif k==2 then 2 :: (num s.size++kA s) else 3 :: (num l.length++jy l)
def jy:List aq->List UInt8
 | []=>[]
 | x :: r=>ir x++jy r
end
theorem dx (v:aq):ir v=bif v.Kind==1 then 1 :: num (uE v.N) else bif v.Kind==2 then 2 :: (num v.S.size++kA v.S) else 3 :: (num v.L.length++jy v.L):=by cases v; rw[ir]
theorem mf:jy []=[]:=by rw[jy]
theorem fz (x:aq) (r:List aq):jy (x :: r)=ir x++jy r:=by rw[jy]
theorem fL (s:ByteArray):(kA s).length=s.size:=rfl
mutual
theorem ym:∀ (v:aq),bM v->lP v<=1100000->(ir v).length<=420*lP v
 | .mk k n s l,h,hn=>by
  rw[bM] at h
  obtain ⟨⟨_,h2,_,_⟩,h5⟩:=h
  rw[lP] at hn
  have h1:=qp l h5 r7
  have h3:=dN l
  rw[ir,lP]
  have l1:=jS (n:=uE n) (nP h2)
  have l2:=jS (n:=s.size) r7
  have l3:=jS (n:=l.length) r7
  cases k==1 with
  | true=>simp only[Tn,TM]; omega
  | false=>
   cases k==2 with
   | true=>simp only[Tn,Tk,TM,TH,fL]; omega
   | false=>simp only[Tk,TM,TH]; omega
theorem qp:∀ (l:List aq),fo l->kK l<=1100000->(jy l).length<=420*kK l
 | [],_,_=>by rw[mf,kM]; simp
 | x :: r,h,hn=>by
  rw[fo] at h
  rw[jf] at hn ⊢
  have h1:=ym x h.1 r7
  have h2:=qp r h.2 r7
  rw[fz,TH]; omega
end
theorem zu {v:aq} (h:bM v) (hn:lP v<=1100000):(ir v).length<=462000000:=by have:=ym v h hn; omega
theorem w6 {v:aq} (h:bM v) (hn:lP v<=1100000):(jy v.L).length<=462000000:=by
 have h4:=((dn v).1 h).2.2.2.2
 rw[dY] at hn
 have:=qp v.L ((ln _).2 h4) r7; omega
theorem lB {v:aq} (hn:lP v<=1100000):v.S.size<=220000000:=by rw[dY] at hn; omega
theorem Bz (self:aq->Option (List UInt8)) (n:Nat) (z:List UInt8) (v:aq) (hv:bM v) (hn:lP v<=1100000) (hself:∀ e∈v.L,self e=some (ir e)) :
  ∀ (k m i:Nat) (l:List UInt8),i+k=v.L.length->k<m->l.length+(jy (v.L.drop i)).length<=140737488355328->jj self n v m (i:Int) l=some (l++jy (v.L.drop i))
 | 0,m,i,l,h1,h2,h3=>by
  obtain ⟨m,rfl⟩:∃ q,m=q+1:=⟨m - 1,r7⟩
  rw[jj,Tx r7,TS.2 r7,mf,Uy]
  rfl
 | k+1,m,i,l,h1,h2,h3=>by
  obtain ⟨m,rfl⟩:∃ q,m=q+1:=⟨m - 1,r7⟩
  have hi:i<v.L.length:=r7
  have hl:=dN v.L
  have hn':=hn
  rw[dY] at hn'
  rw[TB hi,fz,TH] at h3
  rw[jj,Tq r7,TB hi,fz]
  simp only[Tn,bE,Tj hi,Ti,hself _ (Ub hi)]
  rw[kX _ _ r7,Ti,dv r7 r7,show (i:Int)+1=((i+1:Nat):Int) by omega]
  rw[Bz self n z v hv hn hself k m (i+1) _ r7 r7 S9,Ug]
theorem rS (n:Nat) (h:n<18446744073709551616):wr .u64 (n:Int)=(n:Int):=by rw[xH]; omega
theorem Qm:∀ (q:Nat) (v:aq),bM v->lP v<=q->lP v<=1100000->EZ q v=some (ir v)
 | 0,v,_,h,_=>by have:=mT v; omega
 | q+1,v,hv,h,hn=>by
  obtain ⟨_,h2,_,_,h4⟩:=(dn v).1 hv
  have hs:=lB hn
  have he:=w6 hv hn
  have hl:=dN v.L
  have hn':=hn
  rw[dY] at hn' h
  have l1:=jS (n:=uE v.N) (nP h2)
  have l2:=jS (n:=v.S.size) r7
  have l3:=jS (n:=v.L.length) r7
  show HI (EZ q) aB v=_
  unfold HI
  rw[dx]
  cases hk1:v.Kind==1 with
  | true=>
   simp only[Tn,SG _ h2,Ti,M5 _ (nP h2)]
   rw[kX _ _ so]; rfl
  | false=>
   cases hk2:v.Kind==2 with
   | true=>
    simp only[Tn,Tk]
    rw[rS _ r7,M5 _ r7,Ti,kX _ _ so,Ti,kX _ _ Tc]
    simp
   | false=>
    simp only[Tk]
    rw[rS _ r7,M5 _ r7,Ti,kX _ _ so,Ti]
    have:=Bz (EZ q) aB [] v hv hn (fun e he=>by
     have:=gE he
     exact Qm q e (h4 e he) r7 r7) v.L.length (aB+8) 0 ([(3:UInt8)]++num v.L.length) r7 s0 Tf
    rw[show ((0:Nat):Int)=0 from rfl,T5] at this
    rw[this]
    simp
theorem Px (v:aq) (hv:bM v) (hn:lP v<=1100000):Ih v=some (ir v):=Qm aB v hv s0 hn
theorem mq:∀ {l:List aq},jP l=true->∀ e∈l,qH e=true
 | x :: r,h,e,he=>by
  rw[kD,Tl] at h
  rcases Ud.1 he with rfl | he
  ·exact h.1
  ·exact mq h.2 e he
theorem om {v:aq} (h:qH v=true):v.Kind=1∨v.Kind=2∨(v.Kind=3/\jP v.L=true):=by
 rw[mo] at h
 cases h1:v.Kind==1 with
 | true=>exact .inl (by simpa using h1)
 | false=>
  cases h2:v.Kind==2 with
  | true=>exact .inr (.inl (by simpa using h2))
  | false=>
   cases h3:v.Kind==3 with
   | true=>
    rw[h1,h2,h3] at h
    simp only[Tn,Tk,Tl] at h
    exact .inr (.inr ⟨by simpa using h3,h.1⟩)
   | false=>rw[h1,h2,h3] at h; cases h
theorem vq {y:Nat} (h:y<128) {β:Type} (k:List UInt8->Option β) (l:List UInt8) (hl:l.length<=1000000000000) :
  (bif (decide (0<=(wr .u8 (y:Int)))&&decide ((wr .u8 (y:Int))<256)) then Option.bind (c7 1 l ([(UInt8.ofNat (Int.toNat (wr .u8 (y:Int))))])) k else none)=k (l++[UInt8.ofNat y]):=by
 rw[O7 h,Tq r7,Tq r7,kX _ _ so,VZ]
 rfl
theorem FD {n:Nat} (h:n<18446744073709551616):n<128 ^ 10:=TE h (by decide)
theorem BF (self:aq->aq->(List UInt8)->aq->Option (List UInt8)) (n:Nat) (hn:50<=n) (z:List UInt8) (b0 b3 x:aq) (L:List aq) (hL:kK L<=1100000) (hf:jP L=true) (hok:∀ e∈L,bM e)
  (hself:∀ e∈L,e.Kind=3->∀ l:List UInt8,l.length+(ir e).length<=100000000000->self b0 b3 l e=some (l++ir e)) :
  ∀ (k m i:Nat) (l:List UInt8),i+k=L.length->k<m->l.length+(jy (L.drop i)).length<=100000000000->eb self n z L (L.length:Int) b0 b3 x m (i:Int) l=some (l++jy (L.drop i))
 | 0,m,i,l,h1,h2,h3=>by
  obtain ⟨m,rfl⟩:∃ q,m=q+1:=⟨m - 1,r7⟩
  rw[eb,Tx r7,TS.2 r7,mf,Uy]
  rfl
 | k+1,m,i,l,h1,h2,h3=>by
  obtain ⟨m,rfl⟩:∃ q,m=q+1:=⟨m - 1,r7⟩
  have hi:i<L.length:=r7
  have hl:=dN L
  have hme:L[i]∈L:=Ub hi
  have hne:=gE hme
  have hs:=lB (v:=L[i]) r7
  obtain ⟨_,hN,_,_,_⟩:=(dn L[i]).1 (hok _ hme)
  rw[TB hi,fz,TH] at h3
  have ih:=BF self n hn z b0 b3 x L hL hf hok hself k m (i+1) (l++ir L[i]) r7 r7 S9
  rw[eb,Tq r7,TB hi,fz]
  simp only[Tn,bE,Tj hi,Ti]
  rw[dv r7 r7,show (i:Int)+1=((i+1:Nat):Int) by omega,<-Ug]
  have h3':=h3
  rw[dx] at h3
  generalize hE:jy (L.drop (i+1))=E at h3 h3' ih ⊢
  rcases om (mq hf _ hme) with hk | hk | ⟨hk,_⟩
  ·rw[hk] at h3 ⊢
   simp only[show ((1:Int)==1)=true from rfl,Tn,TM] at h3
   simp only[show decide ((1:Int)=0)=false from rfl,show decide ((1:Int)=1)=true from rfl,Tn,Tk,M4 _ hN,Ti]
   rw[kX _ _ so,Ti]
   obtain ⟨y,ini,e1,e2,e3⟩:=jb (fa n) (fun _ _ _=>rfl) 10 (n+6) (uE L[i].N) (l++[1]) (FD (nP hN)) r7 r7 so
   have e4:(num (uE L[i].N)).length=ini.length+1:=An
   try simp only at e2
   rw[e2,Ti]
   try simp only
   rw[vq e1 _ _ so]
   rw[dx,hk] at ih
   simp only[show ((1:Int)==1)=true from rfl,Tn,e3] at ih
   rw[dx,hk]
   simp only[show ((1:Int)==1)=true from rfl,Tn,e3]
   rw[<-ih]
   congr 1
   simp
  ·rw[hk] at h3 ⊢
   simp only[show ((2:Int)==1)=false from rfl,show ((2:Int)==2)=true from rfl,Tn,Tk,TM,TH,fL] at h3
   simp only[show decide ((2:Int)=0)=false from rfl,show decide ((2:Int)=1)=false from rfl,show decide ((2:Int)=2)=true from rfl,Tn,Tk]
   rw[kX _ _ so,Ti,rS _ r7]
   obtain ⟨y,ini,e1,e2,e3⟩:=jb (fa n) (fun _ _ _=>rfl) 10 (n+6) L[i].S.size (l++[2]) (FD r7) r7 r7 so
   have e4:(num L[i].S.size).length=ini.length+1:=An
   try simp only at e2
   rw[e2,Ti]
   try simp only
   rw[vq e1 _ _ so,kX _ _ Tc,Ti]
   rw[dx,hk] at ih
   simp only[show ((2:Int)==1)=false from rfl,show ((2:Int)==2)=true from rfl,Tn,Tk,e3] at ih
   rw[dx,hk]
   simp only[show ((2:Int)==1)=false from rfl,show ((2:Int)==2)=true from rfl,Tn,Tk,e3]
   rw[<-ih]
   congr 1
   simp
  ·rw[hk]
   simp only[show decide ((3:Int)=0)=false from rfl,show decide ((3:Int)=1)=false from rfl,show decide ((3:Int)=2)=false from rfl,show decide ((3:Int)=3)=true from rfl,Tn,Tk]
   rw[hself _ hme hk l r7,Ti]
   exact ih
theorem HH:∀ (q N:Nat) (b0 b3:aq) (l:List UInt8) (v:aq),v.Kind=3->qH v=true->bM v->lP v<=q->lP v<=1100000->q+2000000<=N->l.length+(ir v).length<=100000000000->tl N b0 b3 l v=some (l++ir v)
 | 0,N,b0,b3,l,v,_,_,_,h,_,_,_=>by have:=mT v; omega
 | q+1,N,b0,b3,l,v,hk,hf,hv,h,hn,hN,hl=>by
  obtain ⟨N,rfl⟩:∃ p,N=p+1:=⟨N - 1,r7⟩
  obtain ⟨_,h2,_,_,h4⟩:=(dn v).1 hv
  have hll:=dN v.L
  have hn':=hn
  rw[dY] at hn' h
  have hfs:jP v.L=true:=by
   rcases om hf with h | h | h
   ·omega
   ·omega
   ·exact h.2
  show (bif Nat.ble 8 N then rV (tl N) (N - 8) b0 b3 l v else none)=_
  rw[Ut (by omega:8<=N)]
  simp only[Tn]
  unfold rV
  rw[dx,hk] at hl ⊢
  simp only[show ((3:Int)==1)=false from rfl,show ((3:Int)==2)=false from rfl,Tk,TM,TH] at hl ⊢
  rw[kX _ _ so,Ti,rS _ r7]
  obtain ⟨y,ini,e1,e2,e3⟩:=jb (ji (N - 8)) (fun _ _ _=>rfl) 10 (N - 8+7) v.L.length (l++[3]) (FD r7) r7 r7 so
  have e4:(num v.L.length).length=ini.length+1:=An
  try simp only at e2
  rw[e2,Ti]
  try simp only
  rw[vq e1 _ _ so]
  have:=BF (tl N) (N - 8) r7 [] b0 b3 v v.L r7 hfs h4 (fun e he hke l' hl'=>by
   have:=gE he
   exact HH q N b0 b3 l' e hke (mq hfs e he) (h4 e he) r7 r7 r7 hl') v.L.length (N - 8+8) 0 (l++[3]++ini++[UInt8.ofNat y]) r7 r7 Tf
  rw[show ((0:Nat):Int)=0 from rfl,T5] at this
  rw[this,e3]
  simp
theorem Bx (n:Nat) (hn:50<=n) (z:List UInt8) (b0 b3:aq) (L:List aq) (hL:kK L<=1100000) (hf:jP L=true) (hok:∀ e∈L,bM e)
  (hself:∀ e∈L,e.Kind=3->∀ l:List UInt8,l.length+(ir e).length<=100000000000->tl (n+7) b0 b3 l e=some (l++ir e)) :
  ∀ (k m i:Nat) (l:List UInt8),i+k=L.length->k<m->l.length+(jy (L.drop i)).length<=100000000000->ft n z L (L.length:Int) b0 b3 m (i:Int) l=some (l++jy (L.drop i))
 | 0,m,i,l,h1,h2,h3=>by
  obtain ⟨m,rfl⟩:∃ q,m=q+1:=⟨m - 1,r7⟩
  rw[ft,Tx r7,TS.2 r7,mf,Uy]
  rfl
 | k+1,m,i,l,h1,h2,h3=>by
  obtain ⟨m,rfl⟩:∃ q,m=q+1:=⟨m - 1,r7⟩
  have hi:i<L.length:=r7
  have hl:=dN L
  have hme:L[i]∈L:=Ub hi
  have hne:=gE hme
  have hs:=lB (v:=L[i]) r7
  obtain ⟨_,hN,_,_,_⟩:=(dn L[i]).1 (hok _ hme)
  rw[TB hi,fz,TH] at h3
  have ih:=Bx n hn z b0 b3 L hL hf hok hself k m (i+1) (l++ir L[i]) r7 r7 S9
  rw[ft,Tq r7,TB hi,fz]
  simp only[Tn,bE,Tj hi,Ti]
  rw[dv r7 r7,show (i:Int)+1=((i+1:Nat):Int) by omega,<-Ug]
  have h3':=h3
  rw[dx] at h3
  generalize hE:jy (L.drop (i+1))=E at h3 h3' ih ⊢
  rcases om (mq hf _ hme) with hk | hk | ⟨hk,_⟩
  ·rw[hk] at h3 ⊢
   simp only[show ((1:Int)==1)=true from rfl,Tn,TM] at h3
   simp only[show decide ((1:Int)=0)=false from rfl,show decide ((1:Int)=1)=true from rfl,Tn,Tk,M4 _ hN,Ti]
   rw[kX _ _ so,Ti]
   obtain ⟨y,ini,e1,e2,e3⟩:=jb (gP n) (fun _ _ _=>rfl) 10 (n+5) (uE L[i].N) (l++[1]) (FD (nP hN)) r7 r7 so
   have e4:(num (uE L[i].N)).length=ini.length+1:=An
   try simp only at e2
   rw[e2,Ti]
   try simp only
   rw[vq e1 _ _ so]
   rw[dx,hk] at ih
   simp only[show ((1:Int)==1)=true from rfl,Tn,e3] at ih
   rw[dx,hk]
   simp only[show ((1:Int)==1)=true from rfl,Tn,e3]
   rw[<-ih]
   congr 1
   simp
  ·rw[hk] at h3 ⊢
   simp only[show ((2:Int)==1)=false from rfl,show ((2:Int)==2)=true from rfl,Tn,Tk,TM,TH,fL] at h3
   simp only[show decide ((2:Int)=0)=false from rfl,show decide ((2:Int)=1)=false from rfl,show decide ((2:Int)=2)=true from rfl,Tn,Tk]
   rw[kX _ _ so,Ti,rS _ r7]
   obtain ⟨y,ini,e1,e2,e3⟩:=jb (gP n) (fun _ _ _=>rfl) 10 (n+5) L[i].S.size (l++[2]) (FD r7) r7 r7 so
   have e4:(num L[i].S.size).length=ini.length+1:=An
   try simp only at e2
   rw[e2,Ti]
   try simp only
   rw[vq e1 _ _ so,kX _ _ Tc,Ti]
   rw[dx,hk] at ih
   simp only[show ((2:Int)==1)=false from rfl,show ((2:Int)==2)=true from rfl,Tn,Tk,e3] at ih
   rw[dx,hk]
   simp only[show ((2:Int)==1)=false from rfl,show ((2:Int)==2)=true from rfl,Tn,Tk,e3]
   rw[<-ih]
   congr 1
   simp
  ·rw[hk]
   simp only[show decide ((3:Int)=0)=false from rfl,show decide ((3:Int)=1)=false from rfl,show decide ((3:Int)=2)=false from rfl,show decide ((3:Int)=3)=true from rfl,Tn,Tk]
   rw[hself _ hme hk l r7,Ti]
   exact ih
theorem CQ {v:aq} (h:iq v=0):qH v=true:=by
 unfold iq at h
 cases hf:qH v with
 | true=>rfl
 | false=>rw[hf] at h; cases h
def zt (v:aq):List UInt8×Int:=bif iq v==0 then (ir v,0) else ([],iq v)
theorem SB (v:aq) (hv:bM v) (hn:lP v<=1100000):FQ v=some (zt v):=by
 unfold FQ K2
 rw[SD v hn,Ti]
 unfold zt
 cases hc:iq v==0 with
 | false=>rw[show (iq v != 0)=true by rw[bne,hc]; rfl]; rfl
 | true=>
  rw[show (iq v != 0)=false by rw[bne,hc]; rfl]
  have hf:=CQ (by simpa using hc)
  obtain ⟨_,h2,_,_,h4⟩:=(dn v).1 hv
  have hs:=lB hn
  have he:=zu hv hn
  have hll:=dN v.L
  have hn':=hn
  rw[dY] at hn'
  simp only[Tk,Tn]
  rw[dx] at he ⊢
  rcases om hf with hk | hk | ⟨hk,hfs⟩
  ·rw[hk] at he ⊢
   simp only[show decide ((1:Int)=0)=false from rfl,show decide ((1:Int)=1)=true from rfl,show ((1:Int)==1)=true from rfl,Tn,Tk,M4 _ h2,Ti] at he ⊢
   rw[kX _ _ r9,Ti]
   obtain ⟨y,ini,e1,e2,e3⟩:=jb (gx aB) (fun _ _ _=>rfl) 10 (aB+6) (uE v.N) ([]++[1]) (FD (nP h2)) r7 s0 r9
   have e4:(num (uE v.N)).length=ini.length+1:=An
   have l1:=jS (nP h2)
   try simp only at e2
   rw[e2,Ti]
   try simp only
   rw[vq e1 _ _ so,e3]
   simp
  ·rw[hk] at he ⊢
   simp only[show decide ((2:Int)=0)=false from rfl,show decide ((2:Int)=1)=false from rfl,show decide ((2:Int)=2)=true from rfl,show ((2:Int)==1)=false from rfl,show ((2:Int)==2)=true from rfl,Tn,Tk,TM,TH,fL] at he ⊢
   rw[kX _ _ r9,Ti,rS _ r7]
   obtain ⟨y,ini,e1,e2,e3⟩:=jb (gx aB) (fun _ _ _=>rfl) 10 (aB+6) v.S.size ([]++[2]) (FD r7) r7 s0 r9
   have e4:(num v.S.size).length=ini.length+1:=An
   have l1:=jS (n:=v.S.size) r7
   try simp only at e2
   rw[e2,Ti]
   try simp only
   rw[vq e1 _ _ so,kX _ _ Tc,Ti,e3]
   simp
  ·rw[hk] at he ⊢
   simp only[show decide ((3:Int)=0)=false from rfl,show decide ((3:Int)=1)=false from rfl,show decide ((3:Int)=2)=false from rfl,show decide ((3:Int)=3)=true from rfl,show ((3:Int)==1)=false from rfl,show ((3:Int)==2)=false from rfl,Tn,Tk,TM,TH] at he ⊢
   rw[kX _ _ r9,Ti,rS _ r7]
   obtain ⟨y,ini,e1,e2,e3⟩:=jb (gx aB) (fun _ _ _=>rfl) 10 (aB+6) v.L.length ([]++[3]) (FD r7) r7 s0 r9
   have e4:(num v.L.length).length=ini.length+1:=An
   have l1:=jS (n:=v.L.length) r7
   try simp only at e2
   rw[e2,Ti]
   try simp only
   rw[vq e1 _ _ so]
   have:=Bx aB s0 [] v v v.L r7 hfs h4 (fun e he' hke l' hl'=>by
    have:=gE he'
    exact HH 1100000 (aB+7) v v l' e hke (mq hfs e he') (h4 e he') r7 r7 s0 hl') v.L.length (aB+7) 0 ([]++[3]++ini++[UInt8.ofNat y]) r7 s0 Tf
   rw[show ((0:Nat):Int)=0 from rfl,T5] at this
   rw[this,e3]
   simp
theorem SC (v:aq) (hv:bM v) (hn:lP v<=1100000):Hu v=some (zt v):=by
 unfold Hu K4
 rw[Pw v hn,Ti]
 unfold zt
 cases hc:iq v==0 with
 | false=>rw[show (iq v != 0)=true by rw[bne,hc]; rfl]; rfl
 | true=>
  rw[show (iq v != 0)=false by rw[bne,hc]; rfl]
  simp only[Tk,Tn,Px v hv hn,Ti]
theorem xC (s:ByteArray):iI s s=true:=by unfold iI; exact UN _
def iR:Nat->List UInt8->Option (Nat×List UInt8)
 | _,[]=>none
 | c,b :: r=>if (0<c/\b.toNat=0)∨(9<=c/\1<b.toNat) then none else if b.toNat<128 then some (b.toNat,r) else match iR (c+1) r with
  | some (n,t)=>some (b.toNat - 128+128*n,t)
  | none=>none
theorem pw (c:Nat):2 ^ (7*(c+1))=128*2 ^ (7*c):=by rw[VQ,WX]; omega
theorem vH:∀ (l:List UInt8) (c n:Nat) (r:List UInt8),iR c l=some (n,r)->c<=9->l=num n++r/\(0<c->n≠0)/\2 ^ (7*c)*n<18446744073709551616
 | [],c,n,r,h,_=>by rw[iR] at h; cases h
 | b :: l,c,n,r,h,hc=>by
  have hb:=b.toNat_lt
  rw[iR] at h
  split at h
  ·cases h
  rename_i h1
  split at h
  ·rename_i h2
   cases h
   refine⟨?_,fun h3 h4=>h1 (.inl ⟨h3,h4⟩),?_⟩
   ·rw[nH h2,Wj]; rfl
   ·have:2 ^ (7*9)=9223372036854775808:=by decide
    by_cases h9:c=9
    ·subst h9; omega
    ·have h8:2 ^ (7*c)<=2 ^ 56:=Wb (by decide) r7
     have h7:2 ^ (7*c)*b.toNat<=2 ^ 56*127:=WG h8 r7
     omega
  ·rename_i h2
   split at h
   ·rename_i m t h3
    cases h
    have h9:c≠9:=fun h=>h1 (.inr ⟨r7,r7⟩)
    obtain ⟨h4,h5,h6⟩:=vH l (c+1) m _ h3 r7
    have h5:=h5 r7
    refine⟨?_,fun _=>r7,?_⟩
    ·rw[uq r7,show (b.toNat - 128+128*m) % 128+128=b.toNat by omega,show (b.toNat - 128+128*m) / 128=m by omega,Wj,h4]
     rfl
    ·rw[pw] at h6
     have h8:2 ^ (7*c)*(b.toNat - 128)+2 ^ (7*c)*(128*m)<18446744073709551616:=by
      have e:2 ^ (7*c)*(128*m)=128*2 ^ (7*c)*m:=by rw[Ux 128 (2 ^ (7*c)),Wh]
      rw[e]
      have hlt:b.toNat - 128<128:=r7
      have h10:2 ^ (7*c)*(b.toNat - 128)<2 ^ (7*c)*128:=Nat.mul_lt_mul_of_pos_left hlt (Nat.two_pow_pos _)
      have h11:2 ^ (7*c)*128*m<18446744073709551616:=by rw[Ux (2 ^ (7*c))]; exact h6
      have hd:18446744073709551616=2 ^ (7*c)*128*2 ^ (64 - (7*c+7)):=by
       rw[Wh,show 128*2 ^ (64 - (7*c+7))=2 ^ (64 - 7*c) by
        rw[show 128=2 ^ 7 from rfl,<-WX]; congr 1; omega,<-WX,show 7*c+(64 - 7*c)=64 by omega]
      rw[hd] at h11
      have h12:m<2 ^ (64 - (7*c+7)):=Nat.lt_of_mul_lt_mul_left h11
      have h13:2 ^ (7*c)*128*(m+1)<=2 ^ (7*c)*128*2 ^ (64 - (7*c+7)):=Vi _ h12
      rw[<-hd,VQ,Nat.mul_one] at h13
      rw[Ux 128 (2 ^ (7*c))]
      omega
     rw[VQ]; exact h8
   ·cases h
theorem gD {l:List UInt8} {n:Nat} {r:List UInt8} (h:iR 0 l=some (n,r)):l=num n++r/\n<18446744073709551616/\r.length<l.length:=by
 obtain ⟨h1,_,h2⟩:=vH l 0 n r h r7
 refine⟨h1,r7,?_⟩
 have:num n≠[]:=by
  rw[num]; split<;>simp
 have:=List.length_pos_iff.2 this
 rw[h1,TH]; omega
theorem F4:∀ c:Fin 256,nW .u8 (c.val:Int) 127=((c.val % 128:Nat):Int):=by decide +kernel
theorem Qp {b c:Nat} (hc:c<=9) (h:c=9->b<=1) (hb:b<128):nO .u64 (wr .u64 (b:Int)) (wr .i64 (7*(c:Int)))=((2 ^ (7*c)*b:Nat):Int):=by
 rw[dv r7 r7,rS _ r7]
 unfold nO
 rw[show (7*(c:Int)).toNat=7*c by omega,show min (7*c) (IntKind.bits .u64)=7*c from UY (by show 7*c<=64; omega)]
 have e:((b:Int)*2 ^ (7*c))=((2 ^ (7*c)*b:Nat):Int):=by rw[VB,Int.natCast_pow,WT]; rfl
 rw[e]
 have:=rS (2 ^ (7*c)*b) (by
  have h9:2 ^ (7*9)=9223372036854775808:=by decide
  by_cases h1:c=9
  ·have:=h h1; subst h1; rcases (show b=0∨b=1 by omega) with rfl | rfl<;>omega
  ·have h8:2 ^ (7*c)<=2 ^ 56:=Wb (by decide) r7
   have:=WG h8 (show b<=127 by omega)
   omega)
 exact this
theorem Jw {a b c:Nat} (hc:c<=9) (h:c=9->b<=1) (hb:b<128) (ha:a<2 ^ (7*c)):a+2 ^ (7*c)*b<18446744073709551616:=by
 have h9:2 ^ (7*9)=9223372036854775808:=by decide
 by_cases h1:c=9
 ·have:=h h1; subst h1; rcases (show b=0∨b=1 by omega) with rfl | rfl<;>omega
 ·have h8:2 ^ (7*c)<=2 ^ 56:=Wb (by decide) r7
  have:=WG h8 (show b<=127 by omega)
  omega
theorem SS {a b c:Nat} (hc:c<=9) (h:c=9->b<=1) (hb:b<128) (ha:a<2 ^ (7*c)):lT .u64 (a:Int) ((2 ^ (7*c)*b:Nat):Int)=((a+2 ^ (7*c)*b:Nat):Int):=by
 have h1:=Jw hc h hb ha
 unfold lT
 show IntKind.wrap .u64 ((BitVec.ofInt 64 (a:Int) ||| BitVec.ofInt 64 ((2 ^ (7*c)*b:Nat):Int)).toNat:Int)=_
 rw[BitVec.toNat_or,U7,U7]
 have e1:((a:Int) % ((2 ^ 64:Nat):Int)).toNat=a:=r7
 have e2:(((2 ^ (7*c)*b:Nat):Int) % ((2 ^ 64:Nat):Int)).toNat=2 ^ (7*c)*b:=r7
 rw[e1,e2,Nat.or_comm,<-Nat.two_pow_add_eq_or_of_lt ha,Wm]
 exact rS _ h1
theorem ux (G:Nat->Int->Int->List UInt8->Option ((List UInt8)⊕(Int×List UInt8))) (hG:∀ m v6 v7 v8,G (m+1) v6 v7 v8=bif (!(decide (1<=((v8.length:Int))))) then (some ((Sum.inl v8))) else (Option.bind (iJ v8 0 1) fun y13=>Option.bind (iJ v8 1 ((v8.length:Int))) fun y14=>Option.bind (bK y13 0) fun y15=>Option.bind (bif (v7==0) then (some true) else (some (((y15.toNat:Int)) != 0))) fun y17=>Option.bind (bif y17 then (Option.bind (bif (decide (v7<9)) then (some true) else (some (decide (((y15.toNat:Int))<=1)))) fun y22=>some y22) else (some false)) fun y25=>bif (!y25) then (some ((Sum.inl y14))) else (bif decide (0<=(wr .i64 (7*v7))) then (bif (decide (((y15.toNat:Int))<128)) then (some ((Sum.inr ((lT .u64 v6 (nO .u64 (wr .u64 (nW .u8 ((y15.toNat:Int)) 127)) (wr .i64 (7*v7))),y14))))) else (G m (lT .u64 v6 (nO .u64 (wr .u64 (nW .u8 ((y15.toNat:Int)) 127)) (wr .i64 (7*v7)))) (wr .i64 (v7+1)) y14)) else none))) :
  ∀ (l:List UInt8) (m a c:Nat),c<=9->10<=m+c->a<2 ^ (7*c)->match iR c l with
   | some (n,r)=>G m (a:Int) (c:Int) l=some (.inr (((a+2 ^ (7*c)*n:Nat):Int),r))
   | none=>∃ r,G m (a:Int) (c:Int) l=some (.inl r)
 | [],m,a,c,hc,hm,ha=>by
  obtain ⟨m,rfl⟩:∃ q,m=q+1:=⟨m - 1,r7⟩
  rw[iR,hG]
  exact⟨_,rfl⟩
 | b :: l,m,a,c,hc,hm,ha=>by
  obtain ⟨m,rfl⟩:∃ q,m=q+1:=⟨m - 1,r7⟩
  have hb:=b.toNat_lt
  have hs1:iJ (b :: l) 0 1=some [b]:=by
   unfold iJ
   rw[show decide ((1:Int)<=((b :: l).length:Int))=true from Tq Td]
   rfl
  have hs2:iJ (b :: l) 1 ((b :: l).length:Int)=some l:=by
   unfold iJ
   rw[show decide ((1:Int)<=((b :: l).length:Int))=true from Tq Td,Tq (WA _)]
   simp
  have hc1:(bif ((c:Int)==0) then (some true) else (some (((b.toNat:Int)) != 0)))=some (!decide (0<c/\b.toNat=0)):=by
   by_cases h:c=0
   ·subst h; simp
   ·rw[show ((c:Int)==0)=false by simp; omega]
    simp only[Tk]
    congr 1
    rw[Ur]
    simp
    omega
  have hc2:(bif (decide ((c:Int)<9)) then (some true) else (some (decide (((b.toNat:Int))<=1))))=some (!decide (9<=c/\1<b.toNat)):=by
   by_cases h:c<9
   ·rw[Tq r7]
    simp only[Tn]
    congr 1
    rw[Ur]
    simp
    omega
   ·rw[Tx r7]
    simp only[Tk]
    congr 1
    rw[Ur]
    simp
    omega
  have e127:nW .u8 ((b.toNat:Int)) 127=((b.toNat % 128:Nat):Int):=F4 ⟨b.toNat,hb⟩
  rw[iR,hG,hs1,hs2,Tq (show (1:Int)<=((b :: l).length:Int) by rw[TM]; omega)]
  simp only[TF,Tk,Ti,show bK [b] 0=some b from rfl,hc1,hc2]
  by_cases h:(0<c/\b.toNat=0)∨(9<=c/\1<b.toNat)
  ·rw[Ty h]
   refine⟨l,?_⟩
   by_cases h5:0<c/\b.toNat=0
   ·rw[Tq h5]; rfl
   ·rw[Tx h5,Tq (show 9<=c/\1<b.toNat by omega)]; rfl
  ·rw[Tw h,Tx (show ¬ (0<c/\b.toNat=0) by omega),Tx (show ¬ (9<=c/\1<b.toNat) by omega)]
   have hb9:c=9->b.toNat % 128<=1:=fun h9=>r7
   rw[e127,Qp hc hb9 r7,SS hc hb9 r7 ha,Tq (show 0<=wr .i64 (7*(c:Int)) by rw[dv r7 r7]; omega)]
   simp only[Vt,Tn,Ti,TF,Tk]
   by_cases h8:b.toNat<128
   ·rw[Ty h8,Tq r7,VM h8]
    rfl
   ·rw[Tw h8,Tx r7,dv (n:=(c:Int)+1) r7 r7]
    have hlt:a+2 ^ (7*c)*(b.toNat % 128)<2 ^ (7*(c+1)):=by
     rw[pw]
     have:=Vi (2 ^ (7*c)) (show b.toNat % 128<=127 by omega)
     omega
    have ih:=ux G hG l m (a+2 ^ (7*c)*(b.toNat % 128)) (c+1) r7 r7 hlt
    rw[show ((c+1:Nat):Int)=(c:Int)+1 by omega] at ih
    simp only[Tk]
    cases hg:iR (c+1) l with
    | none=>rw[hg] at ih; exact ih
    | some p=>
     obtain ⟨n,r⟩:=p
     rw[hg] at ih
     simp only at ih ⊢
     rw[ih,pw]
     congr 4
     rw[VQ,show b.toNat % 128=b.toNat - 128 by omega,U5,Ux 128 (2 ^ (7*c)),Wh]
theorem yM (bs:List UInt8) (hbs:bs.length<=1100000) (G:Nat->Int->Int->Int->Bool->Option ((Int×Int×Bool)⊕(Int×Bool))) (hG:∀ m v5 v6 v8,G (m+1) v5 v6 v8 false=(Option.bind (bif (decide (((bs.length:Int))<=v8)) then (some ((0,v8,true))) else (Option.bind (bK bs (wr .i64 ((wr .i64 (v8+1)) - 1))) fun y=>some (((y.toNat:Int),wr .i64 (v8+1),false)))) fun (y348:Int×Int×Bool)=>Option.bind (bif (v6==9) then (some (decide (1<y348.1))) else (some false)) fun y350=>Option.bind (bif y350 then (some true) else (Option.bind (bif (decide (0<v6)) then (some (y348.1==0)) else (some false)) fun y355=>some y355)) fun y358=>bif y358 then (some ((Sum.inl ((0,y348.2.1,true))))) else (bif decide (0<=(wr .i64 (7*v6))) then (bif (decide (y348.1<128)) then (some ((Sum.inl ((wr .u64 (v5+(nO .u64 (wr .u64 (Int.tmod y348.1 128)) (wr .i64 (7*v6)))),y348.2.1,y348.2.2))))) else (G m (wr .u64 (v5+(nO .u64 (wr .u64 (Int.tmod y348.1 128)) (wr .i64 (7*v6))))) (wr .i64 (v6+1)) y348.2.1 y348.2.2)) else none))) :
  ∀ (k i m a c:Nat),i+k=bs.length->c<=9->10<=m+c->a<2 ^ (7*c)->match iR c (bs.drop i) with
   | some (n,r)=>∃ j:Nat,G m (a:Int) (c:Int) (i:Int) false=some (.inl (((a+2 ^ (7*c)*n:Nat):Int),(j:Int),false))/\r=bs.drop j/\j<=bs.length
   | none=>∃ (x:Int) (j:Nat),G m (a:Int) (c:Int) (i:Int) false=some (.inl (x,(j:Int),true))/\j<=bs.length
 | 0,i,m,a,c,hi,hc,hm,ha=>by
  obtain ⟨m,rfl⟩:∃ q,m=q+1:=⟨m - 1,r7⟩
  rw[TS.2 r7,iR,hG,Tq r7]
  simp only[Tn,Ti]
  rw[show (bif ((c:Int)==9) then (some (decide ((1:Int)<0))) else (some false))=some false by cases (c:Int)==9<;>rfl,Tq (show 0<=wr .i64 (7*(c:Int)) by rw[dv r7 r7]; omega)]
  by_cases h:(0:Int)<c
  ·rw[Tq h]; exact⟨_,i,rfl,r7⟩
  ·rw[Tx h]; exact⟨_,i,rfl,r7⟩
 | k+1,i,m,a,c,hi,hc,hm,ha=>by
  obtain ⟨m,rfl⟩:∃ q,m=q+1:=⟨m - 1,r7⟩
  have hil:i<bs.length:=r7
  rw[TB hil]
  generalize hb':bs[i]=b
  have hb:=b.toNat_lt
  have hc1:(bif ((c:Int)==9) then (some (decide (1<((b.toNat:Int))))) else (some false))=some (decide (9<=c/\1<b.toNat)):=by
   by_cases h:c=9
   ·subst h; simp; omega
   ·rw[show ((c:Int)==9)=false by simp; omega]
    simp only[Tk]
    congr 1
    rw[Ur]
    simp
    omega
  have hc2:(bif (decide (0<(c:Int))) then (some (((b.toNat:Int))==0)) else (some false))=some (decide (0<c/\b.toNat=0)):=by
   by_cases h:0<c
   ·rw[Tq r7]
    simp only[Tn]
    congr 1
    rw[Ur]
    simp
    omega
   ·rw[Tx r7]
    simp only[Tk]
    congr 1
    rw[Ur]
    simp
    omega
  have e127:Int.tmod ((b.toNat:Int)) 128=((b.toNat % 128:Nat):Int):=rfl
  rw[iR,hG,Tx r7,dv (n:=(i:Int)+1) r7 r7,show (i:Int)+1 - 1=(i:Int) by omega,dv (n:=(i:Int)) r7 r7,bE,Tj hil,hb']
  simp only[Tk,Ti,hc1,hc2]
  by_cases h:(0<c/\b.toNat=0)∨(9<=c/\1<b.toNat)
  ·rw[Ty h]
   refine⟨0,i+1,?_,r7⟩
   by_cases h5:9<=c/\1<b.toNat
   ·rw[Tq h5]; rfl
   ·rw[Tx h5,Tq (show 0<c/\b.toNat=0 by omega)]; rfl
  ·rw[Tw h,Tx (show ¬ (0<c/\b.toNat=0) by omega),Tx (show ¬ (9<=c/\1<b.toNat) by omega)]
   have hb9:c=9->b.toNat % 128<=1:=fun h9=>r7
   have h64:=Jw hc hb9 (show b.toNat % 128<128 by omega) ha
   rw[e127,Qp hc hb9 r7,show (a:Int)+((2 ^ (7*c)*(b.toNat % 128):Nat):Int)=((a+2 ^ (7*c)*(b.toNat % 128):Nat):Int) from (Int.natCast_add _ _).symm,rS _ h64,Tq (show 0<=wr .i64 (7*(c:Int)) by rw[dv r7 r7]; omega)]
   simp only[Vt,Tn,Ti,TF,Tk]
   by_cases h8:b.toNat<128
   ·rw[Ty h8,Tq r7,VM h8]
    exact⟨i+1,rfl,rfl,r7⟩
   ·rw[Tw h8,Tx r7,dv (n:=(c:Int)+1) r7 r7]
    have hlt:a+2 ^ (7*c)*(b.toNat % 128)<2 ^ (7*(c+1)):=by
     rw[pw]
     have:=Vi (2 ^ (7*c)) (show b.toNat % 128<=127 by omega)
     omega
    have ih:=yM bs hbs G hG k (i+1) m (a+2 ^ (7*c)*(b.toNat % 128)) (c+1) r7 r7 r7 hlt
    rw[show ((c+1:Nat):Int)=(c:Int)+1 by omega,show ((i+1:Nat):Int)=(i:Int)+1 by omega] at ih
    simp only[Tk]
    cases hg:iR (c+1) (bs.drop (i+1)) with
    | none=>rw[hg] at ih; exact ih
    | some p=>
     obtain ⟨n,r⟩:=p
     rw[hg] at ih
     simp only at ih ⊢
     obtain ⟨j,ih,h10,h11⟩:=ih
     refine⟨j,?_,h10,h11⟩
     rw[ih,pw]
     congr 4
     rw[VQ,show b.toNat % 128=b.toNat - 128 by omega,U5,Ux 128 (2 ^ (7*c)),Wh]
theorem yU (a b:ByteArray):iI a b=decide (a=b):=by
 rw[Ur]
 unfold iI
 rw[WR,WR]
 cases a; cases b
 simp
theorem Eg (a b:List UInt8):iI (fK a) (fK b)=decide (a=b):=by
 rw[yU,Ur]
 simp[fK]
theorem yc (l:List UInt8):kA (fK l)=l:=by simp[fK,kA]
theorem zp (l:List UInt8):(fK l).size=l.length:=by rw[<-fL,yc]
theorem Be {s:ByteArray}:emp s=true↔s=ByteArray.empty:=by
 unfold emp
 rw[yU,VD]
 rfl
def sg (u:Nat):Int:=if u % 2=1 then -((u / 2:Nat):Int) - 1 else ((u / 2:Nat):Int)
theorem Cy (u:Nat):uE (sg u)=u:=by unfold sg; split<;>(unfold uE; split<;>omega)
theorem Kn {u:Nat} (h:u<18446744073709551616):fc (sg u):=by unfold sg fc; split<;>omega
theorem Kx (z:Int):wr .i64 z=if 9223372036854775808<=z % 18446744073709551616 then z % 18446744073709551616 - 18446744073709551616 else z % 18446744073709551616:=by
 simp only[wr,IntKind.wrap,IntKind.bits,IntKind.signed]
 simp
theorem MM (z:Int) (h:-9223372036854775808<=z) (h':z<=9223372036854775807):wr .i64 ((BitVec.ofInt 64 z).toNat:Int)=z:=by
 rw[Kx,U7]
 split<;>omega
theorem xM (a:Int) (h:0<=a) (h':a<=9223372036854775807):pQ .i64 a 0=a:=by
 unfold pQ
 show wr .i64 ((BitVec.ofInt 64 a ^^^ BitVec.ofInt 64 0).toNat:Int)=a
 rw[show BitVec.ofInt 64 0=0#64 from rfl,BitVec.xor_zero]
 exact MM a r7 h'
theorem xK (a:Int) (h:0<=a) (h':a<=9223372036854775807):pQ .i64 a (-1)=-a - 1:=by
 unfold pQ
 show wr .i64 ((BitVec.ofInt 64 a ^^^ BitVec.ofInt 64 (-1)).toNat:Int)=_
 rw[show BitVec.ofInt 64 (-1)=BitVec.allOnes 64 from rfl,BitVec.xor_allOnes,BitVec.toNat_not,Kx,U7]
 split<;>omega
theorem MJ (u:Nat) (h:u<18446744073709551616):nW .u64 (u:Int) 1=((u % 2:Nat):Int):=by
 unfold nW
 show wr .u64 ((BitVec.ofInt 64 (u:Int) &&& BitVec.ofInt 64 1).toNat:Int)=_
 rw[BitVec.toNat_and,U7,show (BitVec.ofInt 64 1).toNat=1 from rfl,Nat.and_one_is_mod,show ((u:Int) % ((2 ^ 64:Nat):Int)).toNat=u by omega,rS _ r7]
theorem SH (u:Nat) (h:u<18446744073709551616):z9 (u:Int)=some (sg u):=by
 unfold z9 CF
 have e1:mF .u64 (u:Int) 1=((u / 2:Nat):Int):=by
  unfold mF
  show Int.fdiv (u:Int) (2 ^ 1)=_
  rw[VP _ (by decide)]
  rfl
 rw[e1,MJ u h,dv (n:=((u / 2:Nat):Int)) r7 r7,dv (n:=((u % 2:Nat):Int)) r7 r7,dv r7 r7]
 congr 1
 unfold sg
 by_cases h2:u % 2=1
 ·rw[Ty h2,h2,show (0:Int) - ((1:Nat):Int)=-1 from rfl,xK _ r7 r7]
 ·rw[Tw h2,show u % 2=0 by omega,show (0:Int) - ((0:Nat):Int)=0 from rfl,xM _ r7 r7]
def gM (f:List UInt8->Option (aq×List UInt8)):Nat->List UInt8->Option (List aq×List UInt8)
 | 0,l=>some ([],l)
 | n+1,l=>match f l with
  | none=>none
  | some (v,r)=>match gM f n r with
   | none=>none
   | some (vs,t)=>some (v :: vs,t)
def vF (b:UInt8) (l:List UInt8) (h:Nat->List UInt8->Option (List aq×List UInt8)):Option (aq×List UInt8):=
 if b.toNat=1 then (match iR 0 l with
  | none=>none
  | some (n,r)=>some (.mk 1 (sg n) ByteArray.empty [],r))
 else if b.toNat=2 then (match iR 0 l with
  | none=>none
  | some (n,r)=>if n<=r.length then some (.mk 2 0 (fK (r.take n)) [],r.drop n) else none)
 else if b.toNat=3 then (match iR 0 l with
  | none=>none
  | some (n,r)=>if n<=r.length then (match h n r with
   | none=>none
   | some (vs,t)=>some (.mk 3 0 ByteArray.empty vs,t)) else none)
 else none
def gK:Nat->List UInt8->Option (aq×List UInt8)
 | _,[]=>none
 | 0,b :: l=>vF b l fun _ _=>none
 | k+1,b :: l=>vF b l (gM (gK k))
def Got (k:Nat) (l:List UInt8) (v:aq) (r:List UInt8):Prop:=l=ir v++r/\qH v=true/\dep v<=k/\bM v/\lP v<=(ir v).length
theorem sE {f:List UInt8->Option (aq×List UInt8)} {k:Nat} (hf:∀ l v r,l.length<=1100000->f l=some (v,r)->Got k l v r):∀ (n:Nat) (l:List UInt8) (vs:List aq) (r:List UInt8),l.length<=1100000->gM f n l=some (vs,r) ->
  l=jy vs++r/\jP vs=true/\ma vs<=k/\(∀ e∈vs,bM e)/\kK vs<=(jy vs).length/\vs.length=n
 | 0,l,vs,r,_,h=>by
  rw[gM] at h; cases h
  refine⟨?_,ot,by rw[mc]; omega,fun _ h=>absurd h (Vk),by rw[kM]; omega,rfl⟩
  rw[mf]; rfl
 | n+1,l,vs,r,hl,h=>by
  rw[gM] at h
  split at h
  ·cases h
  rename_i v t hv
  split at h
  ·cases h
  rename_i ws u hw
  cases h
  obtain ⟨h1,h2,h3,h4,h5⟩:=hf l v t hl hv
  rw[h1,TH] at hl
  obtain ⟨g1,g2,g3,g4,g5,g6⟩:=sE hf n t ws r r7 hw
  refine⟨?_,?_,?_,?_,?_,?_⟩
  ·rw[h1,g1,fz,Ug]
  ·rw[kD,h2,g2]; rfl
  ·rw[kB]; omega
  ·intro e he
   rcases Ud.1 he with rfl | he
   ·exact h4
   ·exact g4 e he
  ·rw[jf,fz,TH]; omega
  ·rw[TM,g6]
theorem O6 {b:UInt8} {n:Nat} (h:b.toNat=n):b=UInt8.ofNat n:=by rw[<-h,Wj]
theorem vG {h:Nat->List UInt8->Option (List aq×List UInt8)} {k:Nat} {b:UInt8} {l:List UInt8} {v:aq} {r:List UInt8} (hl:l.length<=1100000)
  (hh:∀ n t vs u,t.length<=1100000->h n t=some (vs,u)->t=jy vs++u/\jP vs=true/\ma vs+1<=k/\(∀ e∈vs,bM e)/\kK vs<=(jy vs).length/\vs.length=n)
  (e:vF b l h=some (v,r)):Got k (b :: l) v r:=by
 have okm:lS=9223372036854775807:=rfl
 unfold vF at e
 split at e
 ·rename_i h1
  split at e
  ·cases e
  rename_i n t hn
  obtain ⟨h2,h3,_⟩:=gD hn
  cases e
  refine⟨?_,?_,?_,?_,?_⟩
  ·rw[O6 h1,h2,dx]
   simp only[show ((1:Int)==1)=true from rfl,Tn,Cy]
   rfl
  ·rw[mo]
   simp only[show ((1:Int)==1)=true from rfl,Tn,Be.2]
   rfl
  ·rw[nr]
   simp only[show ((1:Int)==3)=false from rfl,Tk]
   omega
  ·exact(dn _).2 ⟨⟨r9,r9⟩,Kn h3,r9,r9,fun _ h=>absurd h Vk⟩
  ·rw[dY,dx]
   simp only[show ((1:Int)==1)=true from rfl,Tn,Cy,kM,TM]
   have:(ByteArray.empty:ByteArray).size=0:=rfl
   omega
 split at e
 ·rename_i h1
  split at e
  ·cases e
  rename_i n t hn
  obtain ⟨h2,h3,h4⟩:=gD hn
  split at e
  ·rename_i h5
   cases e
   have hs:(fK (t.take n)).size=n:=by rw[zp,Uz]; omega
   refine⟨?_,?_,?_,?_,?_⟩
   ·rw[O6 h1,h2,dx]
    simp only[show ((2:Int)==1)=false from rfl,show ((2:Int)==2)=true from rfl,Tn,Tk,hs,yc]
    rw[Uc,Ug,UP]
    rfl
   ·rw[mo]
    rfl
   ·rw[nr]
    simp only[show ((2:Int)==3)=false from rfl,Tk]
    omega
   ·refine(dn _).2 ⟨⟨r9,r9⟩,⟨r9,r9⟩,?_,r9,fun _ h=>absurd h Vk⟩
    show (fK (t.take n)).size<=lS
    rw[hs]; omega
   ·rw[dY,dx]
    simp only[show ((2:Int)==1)=false from rfl,show ((2:Int)==2)=true from rfl,Tn,Tk,kM,TM,TH,fL,hs]
    omega
  ·cases e
 split at e
 ·rename_i h1
  split at e
  ·cases e
  rename_i n t hn
  obtain ⟨h2,h3,h4⟩:=gD hn
  split at e
  ·rename_i h5
   split at e
   ·cases e
   rename_i vs u hv
   cases e
   obtain ⟨g1,g2,g3,g4,g5,g6⟩:=hh n t vs r r7 hv
   refine⟨?_,?_,?_,?_,?_⟩
   ·rw[O6 h1,h2,dx,g1]
    simp only[show ((3:Int)==1)=false from rfl,show ((3:Int)==2)=false from rfl,Tk,g6]
    rw[Uc,Ug]
    rfl
   ·rw[mo]
    simp only[show ((3:Int)==1)=false from rfl,show ((3:Int)==2)=false from rfl,show ((3:Int)==3)=true from rfl,Tn,Tk,g2,Be.2]
    rfl
   ·rw[nr]
    simp only[show ((3:Int)==3)=true from rfl,Tn]
    omega
   ·refine(dn _).2 ⟨⟨r9,r9⟩,⟨r9,r9⟩,r9,?_,g4⟩
    show vs.length<=lS
    omega
   ·rw[dY,dx]
    simp only[show ((3:Int)==1)=false from rfl,show ((3:Int)==2)=false from rfl,Tk,TM,TH]
    have:(ByteArray.empty:ByteArray).size=0:=rfl
    omega
  ·cases e
 ·cases e
theorem qK:∀ (k:Nat) (l:List UInt8) (v:aq) (r:List UInt8),l.length<=1100000->gK k l=some (v,r)->Got k l v r
 | 0,[],v,r,_,h=>by rw[gK] at h; cases h
 | k+1,[],v,r,_,h=>by rw[gK] at h; cases h
 | 0,b :: l,v,r,hl,h=>by
  rw[gK] at h
  rw[TM] at hl
  exact vG r7 (fun _ _ _ _ _ h=>by cases h) h
 | k+1,b :: l,v,r,hl,h=>by
  rw[gK] at h
  rw[TM] at hl
  refine vG r7 (fun n t vs u ht hv=>?_) h
  obtain ⟨g1,g2,g3,g4,g5,g6⟩:=sE (fun l v r hl h=>qK k l v r hl h) n t vs u ht hv
  exact⟨g1,g2,r7,g4,g5,g6⟩
theorem A4 (l:List aq) (x:aq) (h:l.length<=1100000):c7 56 l [x]=some (l++[x]):=gR _ _ _ S7
theorem Bn {k:Nat} {l:List UInt8} {v:aq} {r:List UInt8} (hl:l.length<=1100000) (h:gK k l=some (v,r)):r.length<=l.length:=by
 have:=(qK k l v r hl h).1
 rw[this,TH]; omega
theorem BD (f:List UInt8->Option (aq×List UInt8)) (self:(List UInt8)->Int->Option (Bool×aq×(List UInt8))) (N d n:Nat) (z0 z1:Int) (z2:ByteArray) (hd:d<=16) (hn:n<=1100000)
  (hf:∀ l:List UInt8,l.length<=1100000->match f l with
   | some (v,r)=>self l ((d:Int)+1)=some (true,v,r)/\r.length<=l.length
   | none=>∃ v r,self l ((d:Int)+1)=some (false,v,r)) :
  ∀ (k m i:Nat) (l:List UInt8) (acc:List aq),i+k=n->k<m->l.length<=1100000->acc.length<=i->match gM f k l with
   | some (vs,r)=>gh self N (d:Int) (n:Int) z0 z1 z2 m (i:Int) l acc=some (.inr (r,acc++vs))
   | none=>∃ x,gh self N (d:Int) (n:Int) z0 z1 z2 m (i:Int) l acc=some (.inl x)
 | 0,m,i,l,acc,h1,h2,h3,h4=>by
  obtain ⟨m,rfl⟩:∃ q,m=q+1:=⟨m - 1,r7⟩
  rw[gM,gh,Tx r7]
  simp
 | k+1,m,i,l,acc,h1,h2,h3,h4=>by
  obtain ⟨m,rfl⟩:∃ q,m=q+1:=⟨m - 1,r7⟩
  have hl:=hf l h3
  rw[gM,gh,Tq r7,dv (n:=(d:Int)+1) r7 r7,dv (n:=(i:Int)+1) r7 r7]
  simp only[Tn]
  cases hv:f l with
  | none=>
   rw[hv] at hl
   obtain ⟨v,r,hl⟩:=hl
   simp only
   rw[hl]
   exact⟨_,rfl⟩
  | some p=>
   obtain ⟨v,r⟩:=p
   rw[hv] at hl
   simp only at hl ⊢
   rw[hl.1]
   simp only[Ti,Tn]
   rw[A4 _ _ r7,Ti,show (i:Int)+1=((i+1:Nat):Int) by omega]
   have ih:=BD f self N d n z0 z1 z2 hd hn hf k m (i+1) r (acc++[v]) r7 r7 r7 so
   cases hr:gM f k r with
   | none=>rw[hr] at ih; exact ih
   | some p=>
    obtain ⟨vs,t⟩:=p
    rw[hr] at ih
    simp only at ih ⊢
    rw[ih]; simp
theorem b1 {b:UInt8} (n:Nat) (h:n<256):(wr .i64 ((b.toNat:Int))==(n:Int))=decide (b.toNat=n):=by
 have:=b.toNat_lt
 rw[dv r7 r7,Ur]
 simp
 omega
theorem Qq:∀ (k N d:Nat) (l:List UInt8),d+k=16->2000000+k<=N->l.length<=1100000->match gK k l with
  | some (v,r)=>zU N l (d:Int)=some (true,v,r)
  | none=>∃ v r,zU N l (d:Int)=some (false,v,r)
 | k,N,d,[],hd,hN,hl=>by
  obtain ⟨N,rfl⟩:∃ q,N=q+1:=⟨N - 1,r7⟩
  have:gK k []=none:=by cases k<;>rw[gK]
  rw[this]
  show ∃ v r,(bif Nat.ble 8 N then uG (zU N) (N - 8) [] d else none)=_
  rw[Ut (by omega:8<=N)]
  exact⟨_,_,rfl⟩
 | k,N,d,b :: l,hd,hN,hl=>by
  obtain ⟨N,rfl⟩:∃ q,N=q+1:=⟨N - 1,r7⟩
  rw[TM] at hl
  have hb:=b.toNat_lt
  have hs1:iJ (b :: l) 0 1=some [b]:=by
   unfold iJ
   rw[show decide ((1:Int)<=((b :: l).length:Int))=true from Tq Td]
   rfl
  have hs2:iJ (b :: l) 1 ((b :: l).length:Int)=some l:=by
   unfold iJ
   rw[show decide ((1:Int)<=((b :: l).length:Int))=true from Tq Td,Tq (WA _)]
   simp
  have eW:zU (N+1) (b :: l) (d:Int)=uG (zU N) (N - 8) (b :: l) (d:Int):=by
   show (bif Nat.ble 8 N then uG (zU N) (N - 8) (b :: l) d else none)=_
   rw[Ut (by omega:8<=N)]; rfl
  have eg:gK k (b :: l)=vF b l (match k with | 0=>fun _ _=>none | k+1=>gM (gK k)):=by cases k<;>rw[gK]
  rw[eW,eg]
  unfold uG
  rw[hs1,hs2,Tq (show (1:Int)<=((b :: l).length:Int) by rw[TM]; omega)]
  simp only[TF,Tk,Ti,show bK [b] 0=some b from rfl]
  rw[show (wr .i64 ((b.toNat:Int))==1)=decide (b.toNat=1) from b1 1 r7,show (wr .i64 ((b.toNat:Int))==2)=decide (b.toNat=2) from b1 2 r7,show (wr .i64 ((b.toNat:Int))==3)=decide (b.toNat=3) from b1 3 r7,dv (n:=(b.toNat:Int)) r7 r7]
  unfold vF
  by_cases h1:b.toNat=1
  ·rw[Ty h1,Tq h1]
   have hr:=ux (ed (N - 8+1)) (fun _ _ _ _=>rfl) l (N - 8+7) 0 0 r7 r7 (by decide)
   simp only[Tn]
   cases hg:iR 0 l with
   | none=>
    rw[hg] at hr
    obtain ⟨r,hr⟩:=hr
    refine⟨default,r,?_⟩
    exact(Ue (fun x=>Option.bind x _) hr).trans rfl
   | some p=>
    obtain ⟨n,r⟩:=p
    rw[hg] at hr
    obtain ⟨_,hn,_⟩:=gD hg
    simp only at hr ⊢
    refine(Ue (fun x=>Option.bind x _) hr).trans ?_
    rw[show (0+2 ^ (7*0)*n:Nat)=n by omega]
    simp only[Ti,SH n hn]
    rw[h1]; rfl
  rw[Tw h1,Tx h1]
  simp only[Tk]
  by_cases h2:b.toNat=2
  ·rw[Ty h2,Tq h2]
   have hr:=ux (ed (N - 8)) (fun _ _ _ _=>rfl) l (N - 8+6) 0 0 r7 r7 (by decide)
   simp only[Tn]
   cases hg:iR 0 l with
   | none=>
    rw[hg] at hr
    obtain ⟨r,hr⟩:=hr
    refine⟨default,r,?_⟩
    exact(Ue (fun x=>Option.bind x _) hr).trans rfl
   | some p=>
    obtain ⟨n,r⟩:=p
    rw[hg] at hr
    obtain ⟨_,hn,hrl⟩:=gD hg
    simp only at hr ⊢
    by_cases hnr:n<=r.length
    ·rw[Ty hnr]
     refine(Ue (fun x=>Option.bind x _) hr).trans ?_
     rw[show (0+2 ^ (7*0)*n:Nat)=n by omega]
     simp only[Ti]
     rw[rS _ (show r.length<18446744073709551616 by omega),dv (n:=(n:Int)) r7 r7,Tq (show (n:Int)<=(r.length:Int) by omega)]
     simp only[TF,Tk]
     unfold iJ
     rw[Tq (show (n:Int)<=(r.length:Int) by omega),Tq (show (0:Int)<=(n:Int) by omega),Tq (WA _)]
     simp[h2]
     exact Uo r9
    ·rw[Tw hnr]
     refine⟨default,r,?_⟩
     refine(Ue (fun x=>Option.bind x _) hr).trans ?_
     rw[show (0+2 ^ (7*0)*n:Nat)=n by omega]
     simp only[Ti]
     rw[rS _ (show r.length<18446744073709551616 by omega),Tx (show ¬ (n:Int)<=(r.length:Int) by omega)]
     rfl
  rw[Tw h2,Tx h2]
  simp only[Tk]
  by_cases h3:b.toNat=3
  ·rw[Ty h3,Tq h3]
   simp only[Tn]
   cases k with
   | zero=>
    rw[Tx (show ¬ ((d:Int)<16) by omega)]
    have:∃ v r,(bif !false then some (false,(default:aq),l) else none)=some (false,v,r):=⟨_,_,rfl⟩
    cases hg:iR 0 l with
    | none=>exact⟨_,_,rfl⟩
    | some p=>
     obtain ⟨n,r⟩:=p
     simp only
     split<;>rename_i hx
     ·split at hx<;>cases hx
     ·exact⟨_,_,rfl⟩
   | succ k=>
    rw[Tq (show ((d:Int)<16) by omega)]
    have hr:=ux (ed (N - 8)) (fun _ _ _ _=>rfl) l (N - 8+6) 0 0 r7 r7 (by decide)
    simp only[TF,Tk]
    cases hg:iR 0 l with
    | none=>
     rw[hg] at hr
     obtain ⟨r,hr⟩:=hr
     refine⟨default,r,?_⟩
     exact(Ue (fun x=>Option.bind x _) hr).trans rfl
    | some p=>
     obtain ⟨n,r⟩:=p
     rw[hg] at hr
     obtain ⟨_,hn,hrl⟩:=gD hg
     simp only at hr ⊢
     by_cases hnr:n<=r.length
     ·rw[Ty hnr]
      have hL:=BD (gK k) (zU N) (N - 8) d n (b.toNat:Int) 0 ByteArray.empty r7 r7 (fun l hl=>by
       have:=Qq k N (d+1) l r7 r7 hl
       cases hgv:gK k l with
       | none=>rw[hgv] at this; exact this
       | some p=>
        obtain ⟨v,r⟩:=p
        rw[hgv] at this
        exact⟨this,Bn hl hgv⟩) n (N - 8+8) 0 r [] r7 r7 r7 r9
      cases hls:gM (gK k) n r with
      | none=>
       rw[hls] at hL
       obtain ⟨x,hL⟩:=hL
       refine⟨default,x,?_⟩
       refine(Ue (fun x=>Option.bind x _) hr).trans ?_
       rw[show (0+2 ^ (7*0)*n:Nat)=n by omega]
       simp only[Ti]
       rw[rS _ (show r.length<18446744073709551616 by omega),dv (n:=(n:Int)) r7 r7,Tq (show (n:Int)<=(r.length:Int) by omega)]
       simp only[TF,Tk]
       exact(Ue (fun x=>Option.bind x _) hL).trans rfl
      | some p=>
       obtain ⟨vs,t⟩:=p
       rw[hls] at hL
       simp only at hL ⊢
       refine(Ue (fun x=>Option.bind x _) hr).trans ?_
       rw[show (0+2 ^ (7*0)*n:Nat)=n by omega]
       simp only[Ti]
       rw[rS _ (show r.length<18446744073709551616 by omega),dv (n:=(n:Int)) r7 r7,Tq (show (n:Int)<=(r.length:Int) by omega)]
       simp only[TF,Tk]
       refine(Ue (fun x=>Option.bind x _) hL).trans ?_
       rw[h3]; rfl
     ·rw[Tw hnr]
      refine⟨default,r,?_⟩
      refine(Ue (fun x=>Option.bind x _) hr).trans ?_
      rw[show (0+2 ^ (7*0)*n:Nat)=n by omega]
      simp only[Ti]
      rw[rS _ (show r.length<18446744073709551616 by omega),Tx (show ¬ (n:Int)<=(r.length:Int) by omega)]
      rfl
  ·rw[Tw h3,Tx h3]
   exact⟨_,_,rfl⟩
def iP (bs:List UInt8):aq×Int:=match gK 16 bs with
 | some (v,[])=>(v,0)
 | _=>(.mk 0 0 ByteArray.empty [],10)
theorem SE (bs:List UInt8) (h:bs.length<=1100000):Ia bs=some (iP bs):=by
 unfold Ia K8
 have hw:=Qq 16 (aB+8) 0 bs r7 s0 h
 rw[show ((0:Nat):Int)=0 from rfl] at hw
 unfold iP
 cases hg:gK 16 bs with
 | none=>
  rw[hg] at hw
  obtain ⟨v,r,hw⟩:=hw
  rw[hw]; rfl
 | some p=>
  obtain ⟨v,r⟩:=p
  rw[hg] at hw
  simp only at hw
  rw[hw]
  cases r with
  | nil=>rfl
  | cons a r=>
   have:(((a :: r).length:Int)==0)=false:=so
   simp only[Ti,Tn]
   rw[this]; rfl
theorem yg {bs:List UInt8} {v:aq} (h:bs.length<=1100000) (e:iP bs=(v,0)):bs=ir v/\iq v=0/\bM v/\lP v<=1100000:=by
 unfold iP at e
 split at e
 ·rename_i u hg
  cases e
  obtain ⟨h1,h2,h3,h4,h5⟩:=qK 16 bs v [] h hg
  rw[Uy] at h1
  refine⟨h1,?_,h4,?_⟩
  ·unfold iq
   rw[h2]
   simp only[Tn]
   rw[Tx r7]; rfl
  ·rw[h1] at h; omega
 ·cases e
theorem wY (bs:List UInt8):(∃ v,iP bs=(v,0))∨iP bs=(.mk 0 0 ByteArray.empty [],10):=by
 unfold iP
 split
 ·exact .inl ⟨_,rfl⟩
 ·exact .inr rfl
theorem BE (bs:List UInt8) (f:List UInt8->Option (aq×List UInt8)) (self:(List UInt8)->Int->Bool->Int->Option (aq×Int×Bool)) (N d n:Nat) (z4 z5:Int) (z6:ByteArray) (hd:d<=16) (hn:n<=1100000)
  (hf:∀ i:Nat,i<=bs.length->match f (bs.drop i) with
   | some (v,r)=>∃ j:Nat,self bs (i:Int) false ((d:Int)+1)=some (v,(j:Int),false)/\r=bs.drop j/\j<=bs.length
   | none=>∃ (v:aq) (j:Nat),self bs (i:Int) false ((d:Int)+1)=some (v,(j:Int),true)/\j<=bs.length) :
  ∀ (k m i j:Nat) (acc:List aq),i+k=n->k<m->j<=bs.length->acc.length<=i->match gM f k (bs.drop j) with
   | some (vs,r)=>∃ j':Nat,fw self N (d:Int) (n:Int) bs z4 z5 z6 m (i:Int) (j:Int) false acc=some ((j':Int),false,acc++vs)/\r=bs.drop j'/\j'<=bs.length
   | none=>∃ (j':Nat) (l:List aq),fw self N (d:Int) (n:Int) bs z4 z5 z6 m (i:Int) (j:Int) false acc=some ((j':Int),true,l)/\j'<=bs.length
 | 0,m,i,j,acc,h1,h2,h3,h4=>by
  obtain ⟨m,rfl⟩:∃ q,m=q+1:=⟨m - 1,r7⟩
  rw[gM,fw,Tx r7]
  exact⟨j,by rw[Uy]; rfl,rfl,h3⟩
 | k+1,m,i,j,acc,h1,h2,h3,h4=>by
  obtain ⟨m,rfl⟩:∃ q,m=q+1:=⟨m - 1,r7⟩
  have hl:=hf j h3
  rw[gM,fw,Tq r7,dv (n:=(d:Int)+1) r7 r7,show (i:Int)+1=((i+1:Nat):Int) by omega,rS _ r7]
  simp only[Tn,Vt,Ti]
  cases hv:f (bs.drop j) with
  | none=>
   rw[hv] at hl
   obtain ⟨v,j',hl,hj⟩:=hl
   simp only
   rw[hl]
   simp only[Ti]
   rw[A4 _ _ r7,Ti]
   obtain ⟨m,rfl⟩:∃ q,m=q+1:=⟨m - 1,r7⟩
   refine⟨j',acc++[v],?_,hj⟩
   rw[fw]
   cases decide (((i+1:Nat):Int)<(n:Int))<;>rfl
  | some p=>
   obtain ⟨v,r⟩:=p
   rw[hv] at hl
   obtain ⟨j',hl,hr,hj⟩:=hl
   simp only
   rw[hl]
   simp only[Ti]
   rw[A4 _ _ r7,Ti,hr]
   have ih:=BE bs f self N d n z4 z5 z6 hd hn hf k m (i+1) j' (acc++[v]) r7 r7 hj so
   cases hg:gM f k (bs.drop j') with
   | none=>rw[hg] at ih; exact ih
   | some p=>
    obtain ⟨vs,t⟩:=p
    rw[hg] at ih
    simp only at ih ⊢
    obtain ⟨j2,ih,h5,h6⟩:=ih
    exact⟨j2,by rw[ih]; simp,h5,h6⟩
theorem S0 (n:Nat) (h:n<18446744073709551616) (j:Int) (b:Bool):(bif ((Int.tmod (n:Int) 2)==1) then (some (((aq.mk 1 (wr .i64 ((wr .i64 (0 - (wr .i64 (wr .u64 (Int.tdiv (n:Int) 2))))) - 1)) ByteArray.empty ([])),j,b))) else (some (((aq.mk 1 (wr .i64 (wr .u64 (Int.tdiv (n:Int) 2))) ByteArray.empty ([])),j,b))))=some (aq.mk 1 (sg n) ByteArray.empty [],j,b):=by
 have e1:Int.tmod (n:Int) 2=((n % 2:Nat):Int):=rfl
 have e2:Int.tdiv (n:Int) 2=((n / 2:Nat):Int):=rfl
 rw[e1,e2,rS _ r7,dv (n:=((n / 2:Nat):Int)) r7 r7,dv (n:=0 - ((n / 2:Nat):Int)) r7 r7,dv (n:=0 - ((n / 2:Nat):Int) - 1) r7 r7]
 unfold sg
 by_cases h2:n % 2=1
 ·rw[Ty h2,h2,show (0:Int) - ((n / 2:Nat):Int)=-((n / 2:Nat):Int) by omega]; rfl
 ·rw[Tw h2,show n % 2=0 by omega]; rfl
theorem Ef (x j:Int):∃ v,(bif ((Int.tmod x 2)==1) then (some (((aq.mk 1 (wr .i64 ((wr .i64 (0 - (wr .i64 (wr .u64 (Int.tdiv x 2))))) - 1)) ByteArray.empty ([])),j,true))) else (some (((aq.mk 1 (wr .i64 (wr .u64 (Int.tdiv x 2))) ByteArray.empty ([])),j,true))))=some (v,j,true):=by
 cases (Int.tmod x 2)==1<;>exact⟨_,rfl⟩
def M6:Nat->Nat->List UInt8->Option (List aq×List UInt8)
 | 0=>fun _ _=>none
 | k+1=>gM (gK k)
theorem GH (bs:List UInt8) (hbs:bs.length<=1100000) (n i m:Nat) (hi:i<=bs.length) (hm:10<=m):match iR 0 (bs.drop i) with
  | some (u,r)=>∃ j:Nat,(Option.bind (eH n bs m 0 0 (i:Int) false) fun o=>match o with | (Sum.inl ((y368,y369,y370)))=>some ((y368,y369,y370)) | (Sum.inr ((y374,y375)))=>some (((0:Int),y374,y375)))=some ((u:Int),(j:Int),false)/\r=bs.drop j/\j<=bs.length
  | none=>∃ (x:Int) (j:Nat),(Option.bind (eH n bs m 0 0 (i:Int) false) fun o=>match o with | (Sum.inl ((y368,y369,y370)))=>some ((y368,y369,y370)) | (Sum.inr ((y374,y375)))=>some (((0:Int),y374,y375)))=some (x,(j:Int),true)/\j<=bs.length:=by
 have hr:=yM bs hbs (eH n bs) (fun _ _ _ _=>rfl) (bs.length - i) i m 0 0 r7 r7 r7 (by decide)
 cases hg:iR 0 (bs.drop i) with
 | none=>
  rw[hg] at hr
  obtain ⟨x,j,hr,hj⟩:=hr
  exact⟨x,j,(Ue (fun x=>Option.bind x _) hr).trans rfl,hj⟩
 | some p=>
  obtain ⟨u,r⟩:=p
  rw[hg] at hr
  obtain ⟨j,hr,h1,h2⟩:=hr
  rw[show (0+2 ^ (7*0)*u:Nat)=u by omega] at hr
  exact⟨j,(Ue (fun x=>Option.bind x _) hr).trans rfl,h1,h2⟩
theorem Pk (bs:List UInt8) (hbs:bs.length<=1100000):∀ (k N d i:Nat),d+k=16->2000000+k<=N->i<=bs.length->match gK k (bs.drop i) with
  | some (v,r)=>∃ j:Nat,AZ N bs (i:Int) false (d:Int)=some (v,(j:Int),false)/\r=bs.drop j/\j<=bs.length
  | none=>∃ (v:aq) (j:Nat),AZ N bs (i:Int) false (d:Int)=some (v,(j:Int),true)/\j<=bs.length
 | k,N,d,i,hd,hN,hi=>by
  obtain ⟨N,rfl⟩:∃ q,N=q+1:=⟨N - 1,r7⟩
  have eW:AZ (N+1) bs (i:Int) false (d:Int)=uH (AZ N) (N - 8) bs (i:Int) false (d:Int):=by
   show (bif Nat.ble 8 N then uH (AZ N) (N - 8) bs (i:Int) false (d:Int) else none)=_
   rw[Ut (by omega:8<=N)]; rfl
  rw[eW]
  by_cases hil:i<bs.length
  ·rw[TB hil]
   generalize hb':bs[i]=b
   have hb:=b.toNat_lt
   have eg:gK k (b :: bs.drop (i+1))=vF b (bs.drop (i+1)) (M6 k):=by cases k<;>(rw[gK]; rfl)
   rw[eg]
   unfold uH
   rw[Tx r7,dv (n:=(i:Int)+1) r7 r7,show (i:Int)+1 - 1=(i:Int) by omega,dv (n:=(i:Int)) r7 r7,bE,Tj hil,hb']
   simp only[Tk,Ti]
   rw[show ((b.toNat:Int)==1)=decide (b.toNat=1) by rw[Ur]; simp; omega,show ((b.toNat:Int)==2)=decide (b.toNat=2) by rw[Ur]; simp; omega,show ((b.toNat:Int)==3)=decide (b.toNat=3) by rw[Ur]; simp; omega]
   have ei:(i:Int)+1=((i+1:Nat):Int):=r7
   rw[ei]
   unfold vF
   by_cases h1:b.toNat=1
   ·rw[Ty h1,Tq h1]
    have hr:=GH bs hbs (N - 8) (i+1) (N - 8+7) r7 r7
    simp only[Tn]
    cases hg:iR 0 (bs.drop (i+1)) with
    | none=>
     rw[hg] at hr
     obtain ⟨x,j,hr,hj⟩:=hr
     obtain ⟨v,hv⟩:=Ef x j
     refine⟨v,j,?_,hj⟩
     exact(Ue (fun x=>Option.bind x _) hr).trans hv
    | some p=>
     obtain ⟨n,r⟩:=p
     rw[hg] at hr
     obtain ⟨_,hn,_⟩:=gD hg
     obtain ⟨j,hr,hrj,hj⟩:=hr
     simp only
     refine⟨j,?_,hrj,hj⟩
     refine(Ue (fun x=>Option.bind x _) hr).trans ?_
     exact S0 n hn j false
   rw[Tw h1,Tx h1]
   simp only[Tk]
   by_cases h2:b.toNat=2
   ·rw[Ty h2,Tq h2]
    have hr:=GH bs hbs (N - 8) (i+1) (N - 8+7) r7 r7
    simp only[Tn]
    cases hg:iR 0 (bs.drop (i+1)) with
    | none=>
     rw[hg] at hr
     obtain ⟨x,j,hr,hj⟩:=hr
     refine⟨.mk 0 0 ByteArray.empty [],j,?_,hj⟩
     exact(Ue (fun x=>Option.bind x _) hr).trans rfl
    | some p=>
     obtain ⟨n,r⟩:=p
     rw[hg] at hr
     obtain ⟨_,hn,hrl⟩:=gD hg
     obtain ⟨j,hr,hrj,hj⟩:=hr
     have hlr:r.length=bs.length - j:=by rw[hrj,Wt]
     have el:wr .u64 (wr .i64 ((bs.length:Int) - (j:Int)))=((bs.length - j:Nat):Int):=by
      rw[show (bs.length:Int) - (j:Int)=((bs.length - j:Nat):Int) by omega,dv r7 r7,rS _ r7]
     simp only
     by_cases hnr:n<=r.length
     ·rw[Ty hnr]
      refine⟨j+n,?_,by rw[hrj,We],r7⟩
      refine(Ue (fun x=>Option.bind x _) hr).trans ?_
      simp only[Ti,Tk]
      rw[el,Tx r7,dv (n:=(n:Int)) r7 r7,dv (n:=(j:Int)+(n:Int)) r7 r7,show (j:Int)+(n:Int) - (n:Int)=(j:Int) by omega,dv (n:=(j:Int)) r7 r7]
      simp only[Tk]
      unfold iJ
      rw[Tq (show (0:Int)<=(j:Int) by omega),Tq (show (j:Int)<=(j:Int)+(n:Int) by omega),Tq (show (j:Int)+(n:Int)<=(bs.length:Int) by omega)]
      simp only[Vx,Tn,Ti]
      rw[show ((j:Int)+(n:Int)).toNat - (j:Int).toNat=n by omega,hrj]
      rfl
     ·rw[Tw hnr]
      refine⟨.mk 0 0 ByteArray.empty [],j,?_,hj⟩
      refine(Ue (fun x=>Option.bind x _) hr).trans ?_
      simp only[Ti,Tk]
      rw[el,Tq r7]
      rfl
   rw[Tw h2,Tx h2]
   simp only[Tk]
   by_cases h3:b.toNat=3
   ·rw[Ty h3,Tq h3]
    have hr:=GH bs hbs (N - 8) (i+1) (N - 8+7) r7 r7
    simp only[Tn]
    cases hg:iR 0 (bs.drop (i+1)) with
    | none=>
     rw[hg] at hr
     obtain ⟨x,j,hr,hj⟩:=hr
     refine⟨.mk 0 0 ByteArray.empty [],j,?_,hj⟩
     exact(Ue (fun x=>Option.bind x _) hr).trans rfl
    | some p=>
     obtain ⟨n,r⟩:=p
     rw[hg] at hr
     obtain ⟨_,hn,hrl⟩:=gD hg
     obtain ⟨j,hr,hrj,hj⟩:=hr
     have hlr:r.length=bs.length - j:=by rw[hrj,Wt]
     have el:wr .u64 (wr .i64 ((bs.length:Int) - (j:Int)))=((bs.length - j:Nat):Int):=by
      rw[show (bs.length:Int) - (j:Int)=((bs.length - j:Nat):Int) by omega,dv r7 r7,rS _ r7]
     simp only
     by_cases hnr:n<=r.length
     ·rw[Ty hnr]
      cases k with
      | zero=>
       refine⟨.mk 0 0 ByteArray.empty [],j,?_,hj⟩
       refine(Ue (fun x=>Option.bind x _) hr).trans ?_
       simp only[Ti,Tk]
       rw[show d=16 by omega]
       cases decide ((wr .u64 (wr .i64 ((bs.length:Int) - (j:Int))))<(n:Int))<;>rfl
      | succ k=>
       have hL:=BE bs (gK k) (AZ N) (N - 8) d n 3 0 ByteArray.empty r7 r7 (fun i hi=>by
        have:=Pk bs hbs k N (d+1) i r7 r7 hi
        exact this) n (N - 8+8) 0 j [] r7 r7 hj r9
       rw[<-hrj] at hL
       show (match (match gM (gK k) n r with
        | none=>none
        | some (vs,t)=>some (aq.mk 3 0 ByteArray.empty vs,t)) with
        | some (v,r)=>_
        | none=>_)
       cases hls:gM (gK k) n r with
       | none=>
        rw[hls] at hL
        obtain ⟨j',l,hL,hj'⟩:=hL
        refine⟨.mk 3 0 ByteArray.empty l,j',?_,hj'⟩
        refine(Ue (fun x=>Option.bind x _) hr).trans ?_
        simp only[Ti,Tk]
        rw[el,Tx r7,show ((d:Int)==16)=false by simp; omega]
        exact(Ue (fun x=>Option.bind x _) hL).trans rfl
       | some p=>
        obtain ⟨vs,t⟩:=p
        rw[hls] at hL
        obtain ⟨j',hL,ht,hj'⟩:=hL
        simp only
        refine⟨j',?_,ht,hj'⟩
        refine(Ue (fun x=>Option.bind x _) hr).trans ?_
        simp only[Ti,Tk]
        rw[el,Tx r7,show ((d:Int)==16)=false by simp; omega]
        exact(Ue (fun x=>Option.bind x _) hL).trans rfl
     ·rw[Tw hnr]
      refine⟨.mk 0 0 ByteArray.empty [],j,?_,hj⟩
      refine(Ue (fun x=>Option.bind x _) hr).trans ?_
      simp only[Ti,Tk]
      rw[el,Tq r7]
      rfl
   ·rw[Tw h3,Tx h3]
    exact⟨_,i+1,by simp only[Tk,TQ]; rfl,r7⟩
  ·have:gK k []=none:=by cases k<;>rw[gK]
   rw[TS.2 r7,this]
   refine⟨.mk 0 0 ByteArray.empty [],i,?_,hi⟩
   unfold uH
   rw[Tq r7]
   rfl
theorem SF (bs:List UInt8) (h:bs.length<=1100000):Ie bs=some (iP bs):=by
 unfold Ie Lc
 have hw:=Pk bs h 16 (aB+8) 0 0 r7 s0 r7
 rw[show ((0:Nat):Int)=0 from rfl,T5] at hw
 unfold iP
 cases hg:gK 16 bs with
 | none=>
  rw[hg] at hw
  obtain ⟨v,j,hw,_⟩:=hw
  rw[hw]; rfl
 | some p=>
  obtain ⟨v,r⟩:=p
  rw[hg] at hw
  obtain ⟨j,hw,hr,hj⟩:=hw
  rw[hw]
  simp only[Ti,Tk]
  cases r with
  | cons a r=>
   have:j<bs.length:=by
    rcases Wq j bs.length with h | h
    ·exact h
    ·rw[TS.2 h] at hr; cases hr
   rw[show ((j:Int) != (bs.length:Int))=true by simp; omega]
   rfl
  | nil=>
   have hj2:j=bs.length:=by
    have:=Ue List.length hr
    rw[Wt] at this
    simp at this; omega
   obtain ⟨h1,h2,h3,h4⟩:=yg (v:=v) h (by unfold iP; rw[hg])
   rw[show ((j:Int) != (bs.length:Int))=false by simp; omega,Pw v h4]
   simp only[Tk,Ti,h2]
   rw[show ((0:Int) != 0)=false from rfl]
   simp only[Tk,Ti,Px v h3 h4]
   rw[Eg,<-h1,Tq rfl]
   rfl
theorem N7 (a b:Int):Lh a b=some (if b<a then b else a,if a<b then b else a):=rfl
def ur (p:Int×Int):Bool:=decide (0<=p.1)&&decide (p.1<p.2)&&decide (p.2<24)
theorem JI (p:Int×Int):Hv p=some (ur p):=by
 unfold Hv K7 ur
 cases decide (0<=p.1)<;>cases decide (p.1<p.2)<;>rfl
def jz (p:az):Bool:=ur (if p.To<p.From then p.To else p.From,if p.From<p.To then p.To else p.From)&&decide ((p.Data.length:Int)<=1048576)
theorem JG (p:az):Hs p=some (jz p):=by
 unfold Hs K1 jz
 rw[N7,Ti,JI,Ti]
 cases ur _<;>rfl
theorem N6 (p:az):HZ p=some (!jz p):=by
 unfold HZ K6
 rw[JG,Ti]
theorem JJ (a:Int):uI a=some false:=by
 unfold uI CE
 simp
theorem sX {i:Nat} (h:i<=4611686018427387904):wr .i64 ((i:Int)+1)=((i+1:Nat):Int):=by
 rw[dv r7 r7]
 omega
theorem JB (n:Nat) (l:List az) (hl:l.length<=4611686018427387904):∀ (m i:Nat),i<=l.length->l.length - i<m ->
  (∃ j:Int,0<=j/\fb n l (l.length:Int) m (i:Int)=some (.inl j)/\(l.drop i).any (fun p=>!jz p)=true)∨(fb n l (l.length:Int) m (i:Int)=some (.inr ())/\(l.drop i).any (fun p=>!jz p)=false)
 | 0,i,_,h=>absurd h (Ua _)
 | m+1,i,hi,h=>by
  unfold fb
  by_cases hlt:i<l.length
  ·rw[show decide ((i:Int)<(l.length:Int))=true by simpa using hlt,Tn,bE,Tj hlt,Ti,N6,Ti,sX r7,TB hlt,WN]
   cases hp:jz l[i] with
   | false=>exact .inl ⟨i,r7,rfl,rfl⟩
   | true=>
    simp only[TF,Tk,Bool.false_or]
    exact JB n l hl m (i+1) r7 r7
  ·rw[show decide ((i:Int)<(l.length:Int))=false by simpa using hlt,Tk,TS.2 r7]
   exact .inr ⟨rfl,rfl⟩
theorem N5 (l:List az) (hl:l.length<=4611686018427387904):pY l=some (l.any fun p=>!jz p):=by
 unfold pY tc tf te
 have e:l.drop 0=l:=rfl
 rcases JB aB l hl (aB+8) 0 (TL _) s0 with ⟨j,h1,h2,h3⟩ | ⟨h2,h3⟩
 ·rw[e] at h3
  rw[show ((0:Nat):Int)=0 from rfl] at h2
  rw[h2,h3]
  simp only[Ti]
  rw[Tq h1]
 ·rw[e] at h3
  rw[show ((0:Nat):Int)=0 from rfl] at h2
  rw[h2,h3]
  rfl
def sI (p q:Int×Int):Bool:=decide (p.1<q.1) || (p.1==q.1&&decide (p.2<q.2))
theorem N1 (n:Nat) (a b c d:Int) (m:Nat) :
  fH n [a,b] 2 c d (m+3) 0=some (if a<c then .inl (-1) else if c<a then .inl 1 else if b<d then .inl (-1) else if d<b then .inl 1 else .inr ()):=by
 have w1:wr .i64 (0+1)=1:=by decide +kernel
 have w2:wr .i64 (1+1)=2:=by decide +kernel
 have x0:bK [a,b] 0=some a:=rfl
 have x1:bK [a,b] 1=some b:=rfl
 have tail:fH n [a,b] 2 c d (m+2) 1=some (if b<d then .inl (-1) else if d<b then .inl 1 else .inr ()):=by
  rw[fH]
  simp only[x1,JJ,w2,Ti,show decide ((1:Int)<2)=true from rfl,show decide ((2:Int)<=1)=false from rfl,show decide ((1:Int)=0)=false from rfl,show decide ((1:Int)=1)=true from rfl,Tn,Tk]
  by_cases h1:b<d
  ·simp[h1]
  ·by_cases h2:d<b
   ·simp[h1,h2]
   ·rw[fH]; simp[h1,h2]
 rw[fH]
 simp only[x0,JJ,w1,Ti,show decide ((0:Int)<2)=true from rfl,show decide ((2:Int)<=0)=false from rfl,show decide ((0:Int)=0)=true from rfl,Tn,Tk]
 by_cases h1:a<c
 ·simp[h1]
 ·by_cases h2:c<a
  ·simp[h1,h2]
  ·simp only[h1,h2,UG,Tk,VE]
   exact tail
def fE (l:List (Int×Int)) (i:Nat):Option (Int×Int):=if i=0 then none else l[i - 1]?
def vV:Option (Int×Int)->List (Int×Int)->Bool
 | _,[]=>true
 | o,p :: r=>ur p&&(match o with | some q=>sI q p | none=>true)&&vV (some p) r
theorem JA (n:Nat) (v8:Int) (q:List az) (l:List (Int×Int)) (hl:l.length<=4611686018427387904):∀ (m i:Nat),i<=l.length->l.length - i<m ->
  (vV (fE l i) (l.drop i)=true/\fG n v8 l (l.length:Int) q l m (i:Int)=some (.inr ()))∨(vV (fE l i) (l.drop i)=false/\fG n v8 l (l.length:Int) q l m (i:Int)=some (.inl 60))
 | 0,i,_,h=>absurd h (Ua _)
 | m+1,i,hi,h=>by
  by_cases hlt:i<l.length
  ·have ih:=JA n v8 q l hl m (i+1) r7 r7
   have hp:fE l (i+1)=some l[i]:=by unfold fE; rw[Tw r7]; exact Tj hlt
   rw[hp] at ih
   rw[TB hlt]
   unfold vV fG
   rw[show decide ((i:Int)<(l.length:Int))=true by simpa using hlt,Tn,bE,Tj hlt,Ti,JI,Ti,sX r7]
   cases hk:ur l[i] with
   | false=>exact .inr ⟨r9,rfl⟩
   | true=>
    simp only[TF,Tk,TU]
    by_cases h0:0<i
    ·have hpi:fE l i=some l[i - 1]:=by unfold fE; rw[Tw r7]; exact Tj r7
     have hw:wr .i64 ((i:Int) - 1)=((i - 1:Nat):Int):=by
      rw[dv r7 r7]; omega
     rw[hpi,show decide ((0:Int)<(i:Int))=true by simpa using h0,Tn,hw,bE,Tj r7,Ti]
     rw[show n+7=(n+4)+3 from rfl,N1]
     simp only[Ti]
     have key:(sI l[i - 1] l[i]=true/\(if l[i - 1].1<l[i].1 then (Sum.inl (-1):Int⊕Unit) else if l[i].1<l[i - 1].1 then .inl 1 else if l[i - 1].2<l[i].2 then .inl (-1) else if l[i].2<l[i - 1].2 then .inl 1 else .inr ())=.inl (-1)) ∨
       (sI l[i - 1] l[i]=false/\((if l[i - 1].1<l[i].1 then (Sum.inl (-1):Int⊕Unit) else if l[i].1<l[i - 1].1 then .inl 1 else if l[i - 1].2<l[i].2 then .inl (-1) else if l[i].2<l[i - 1].2 then .inl 1 else .inr ())=.inl 1∨(if l[i - 1].1<l[i].1 then (Sum.inl (-1):Int⊕Unit) else if l[i].1<l[i - 1].1 then .inl 1 else if l[i - 1].2<l[i].2 then .inl (-1) else if l[i].2<l[i - 1].2 then .inl 1 else .inr ())=.inr ())):=by
      unfold sI
      generalize l[i - 1]=p
      generalize l[i]=r
      by_cases a1:p.1<r.1
      ·exact .inl ⟨by simp[a1],by rw[Ty a1]⟩
      ·by_cases a2:r.1<p.1
       ·exact .inr ⟨by simp[a1]; intro e; omega,.inl (by rw[Tw a1,Ty a2])⟩
       ·have e:p.1=r.1:=by omega
        by_cases a3:p.2<r.2
        ·exact .inl ⟨by simp[e,a3],by rw[Tw a1,Tw a2,Ty a3]⟩
        ·refine .inr ⟨by simp[e,a3],?_⟩
         by_cases a4:r.2<p.2
         ·exact .inl (by rw[Tw a1,Tw a2,Tw a3,Ty a4])
         ·exact .inr (by rw[Tw a1,Tw a2,Tw a3,Tw a4])
     rcases key with ⟨k1,k2⟩ | ⟨k1,k2 | k2⟩
     ·rw[k1,k2]
      simp only[TU]
      exact ih
     ·rw[k1,k2]
      exact .inr ⟨r9,rfl⟩
     ·rw[k1,k2]
      exact .inr ⟨r9,rfl⟩
    ·obtain rfl:i=0:=by omega
     have hp0:fE l 0=none:=rfl
     rw[hp0,show decide ((0:Int)<((0:Nat):Int))=false from rfl]
     simp only[Tk,Ti,TU]
     exact ih
  ·rw[TS.2 r7]
   unfold fG
   rw[show decide ((i:Int)<(l.length:Int))=false by simpa using hlt,Tk]
   exact .inl ⟨rfl,rfl⟩
def zV (x:bo):Bool:=decide (x.Queue.length<=4096)&&x.Queue.all jz&&vV none x.Apart
theorem yb (l:List az):(l.any fun p=>!jz p) = !l.all jz:=by
 induction l with
 | nil=>rfl
 | cons x l ih=>rw[WN,Vp,ih]; cases jz x<;>simp
theorem JC (x:bo) (hA:x.Apart.length<=4611686018427387904):Ho x=some (if zV x=true then 0 else 60):=by
 unfold Ho KR zV
 by_cases hq:x.Queue.length<=4096
 ·have hq':decide ((4096:Int)<(x.Queue.length:Int))=false:=by simp; omega
  have hqf:x.Queue.length<=4611686018427387904:=TI hq (by decide)
  rw[hq',Tk,N5 _ hqf,Ti,Ti,yb,Tq hq]
  cases x.Queue.all jz with
  | false=>rfl
  | true=>
   simp only[TF,Tk,TU]
   have h13:=JA aB 0 x.Queue x.Apart hA (aB+8) 0 (TL _) s0
   have e:fE x.Apart 0=none:=rfl
   rw[e,T5,show ((0:Nat):Int)=0 from rfl] at h13
   rcases h13 with ⟨h1,h2⟩ | ⟨h1,h2⟩
   ·rw[h2,h1]; rfl
   ·rw[h2,h1]; rfl
 ·have hq':decide ((4096:Int)<(x.Queue.length:Int))=true:=by simp; omega
  rw[hq',Tn,Ti,Tx hq]
  rfl
def site (a:Int):Bool:=decide (0<=a)&&decide (a<24)
theorem Di (a:Int):Ew a=some (site a):=by
 unfold Ew K9 site
 cases decide (0<=a)<;>rfl
theorem JH (p:az):Ht p=some (jz p):=by
 unfold Ht K3
 rw[Di,Di]
 have key:jz p=(site p.From&&site p.To&&(p.From != p.To)&&decide ((p.Data.length:Int)<=1048576)):=by
  unfold jz ur site
  generalize decide ((p.Data.length:Int)<=1048576)=d
  congr 1
  rw[Ur]
  simp only[Tl,Tu,bne_iff_ne,ne_eq]
  split<;>split<;>omega
 rw[key]
 cases site p.From<;>cases site p.To<;>cases (p.From != p.To)<;>rfl
theorem Ft (n:Nat) (A:List (Int×Int)) (l:List az) (hl:l.length<=4611686018427387904):∀ (m i:Nat),i<=l.length->l.length - i<m ->
  ke n l A m (i:Int)=some (if (l.drop i).any (fun p=>!jz p)=true then .inl 60 else .inr ())
 | 0,i,_,h=>absurd h (Ua _)
 | m+1,i,hi,h=>by
  unfold ke
  by_cases hlt:i<l.length
  ·rw[show decide ((i:Int)<(l.length:Int))=true by simpa using hlt,Tn,bE,Tj hlt,Ti,JH,Ti,sX r7,TB hlt,WN]
   cases hp:jz l[i] with
   | false=>rfl
   | true=>
    simp only[TF,Tk,Bool.false_or]
    exact Ft n A l hl m (i+1) r7 r7
  ·rw[show decide ((i:Int)<(l.length:Int))=false by simpa using hlt,Tk,TS.2 r7]
   rfl
theorem Fu (n:Nat) (v15:Int) (q:List az) (l:List (Int×Int)) (hl:l.length<=4611686018427387904):∀ (m i:Nat),i<=l.length->l.length - i<m ->
  (vV (fE l i) (l.drop i)=true/\ij n v15 q l m (i:Int)=some (.inr ()))∨(vV (fE l i) (l.drop i)=false/\ij n v15 q l m (i:Int)=some (.inl 60))
 | 0,i,_,h=>absurd h (Ua _)
 | m+1,i,hi,h=>by
  by_cases hlt:i<l.length
  ·have ih:=Fu n v15 q l hl m (i+1) r7 r7
   have hp:fE l (i+1)=some l[i]:=by unfold fE; rw[Tw r7]; exact Tj hlt
   rw[hp] at ih
   rw[TB hlt]
   unfold vV ij
   rw[show decide ((i:Int)<(l.length:Int))=true by simpa using hlt,Tn,bE,Tj hlt,Ti,Di,Ti,Di,sX r7]
   have hok:ur l[i]=(site l[i].1&&site l[i].2&&!decide (l[i].2<=l[i].1)):=by
    unfold ur site
    rw[Ur]
    simp only[Tl,Tu,Uv,Vf]
    omega
   rw[hok]
   cases site l[i].1 with
   | false=>exact .inr ⟨rfl,rfl⟩
   | true=>cases site l[i].2 with
    | false=>exact .inr ⟨rfl,rfl⟩
    | true=>
     simp only[TF,Tk,Ti,TU]
     cases hle:decide (l[i].2<=l[i].1) with
     | true=>exact .inr ⟨rfl,rfl⟩
     | false=>
      simp only[Tk,Vt,TU]
      by_cases h0:0<i
      ·have hpi:fE l i=some l[i - 1]:=by unfold fE; rw[Tw r7]; exact Tj r7
       have hw:wr .i64 ((i:Int) - 1)=((i - 1:Nat):Int):=by
          rw[dv r7 r7]; omega
       rw[hpi,show decide ((0:Int)<(i:Int))=true by simpa using h0,Tn,hw,bE,Tj r7,Ti]
       simp only[Ti]
       have key:sI l[i - 1] l[i] = !(decide (l[i].1<l[i - 1].1) || ((l[i].1==l[i - 1].1)&&decide (l[i].2<=l[i - 1].2))):=by
        unfold sI
        rw[Ur]
        simp only[Up,Tl,Tu,UD,Uv,Uk,Bool.and_eq_false_iff,Vf,Vh]
        omega
       simp only[key]
       cases decide (l[i].1<l[i - 1].1) with
       | true=>exact .inr ⟨rfl,rfl⟩
       | false=>
        cases hb:(l[i].1==l[i - 1].1) with
        | false=>simp only[Tk,WE,WL,Vt,TU]; exact ih
        | true=>cases decide (l[i].2<=l[i - 1].2) with
         | true=>exact .inr ⟨rfl,rfl⟩
         | false=>simp only[Tk,Tn,Bool.and_false,WL,Vt,TU]; exact ih
      ·obtain rfl:i=0:=by omega
       have hp0:fE l 0=none:=rfl
       rw[hp0,show decide ((0:Int)<((0:Nat):Int))=false from rfl]
       simp only[Tk,Ti,TU]
       exact ih
  ·rw[TS.2 r7]
   unfold ij
   rw[show decide ((i:Int)<(l.length:Int))=false by simpa using hlt,Tk]
   exact .inl ⟨rfl,rfl⟩
theorem JD (x:bo) (hA:x.Apart.length<=4611686018427387904):Hp x=some (if zV x=true then 0 else 60):=by
 unfold Hp KV zV
 by_cases hq:x.Queue.length<=4096
 ·have hq':decide ((4096:Int)<(x.Queue.length:Int))=false:=by simp; omega
  have hqf:x.Queue.length<=4611686018427387904:=TI hq (by decide)
  have h0:=Ft aB x.Apart x.Queue hqf (aB+8) 0 (TL _) s0
  rw[T5,show ((0:Nat):Int)=0 from rfl,yb] at h0
  rw[hq',Tk,h0,Ti,Tq hq]
  cases x.Queue.all jz with
  | false=>rfl
  | true=>
   have h13:=Fu aB 0 x.Queue x.Apart hA (aB+8) 0 (TL _) s0
   have e:fE x.Apart 0=none:=rfl
   rw[e,T5,show ((0:Nat):Int)=0 from rfl] at h13
   rcases h13 with ⟨h1,h2⟩ | ⟨h1,h2⟩
   ·simp only[TF,TQ,VE,h2,h1]; rfl
   ·simp only[TF,TQ,VE,h2,h1]; rfl
 ·have hq':decide ((4096:Int)<(x.Queue.length:Int))=true:=by simp; omega
  rw[hq',Tn,Tx hq]
  rfl
theorem JF (p:az):Ic p p=some true:=by
 unfold Ic Lb
 simp[xC]
theorem Fv (n:Nat) (A B:List (Int×Int)) (l:List az) (hl:l.length<=4611686018427387904):∀ (m i:Nat),i<=l.length->l.length - i<m->ki n l A l B m (i:Int)=some (.inr ())
 | 0,i,_,h=>absurd h (Ua _)
 | m+1,i,hi,h=>by
  unfold ki
  by_cases hlt:i<l.length
  ·rw[show decide ((i:Int)<(l.length:Int))=true by simpa using hlt,Tn,bE,Tj hlt,Ti,Ti,JF,Ti,sX r7]
   exact Fv n A B l hl m (i+1) r7 r7
  ·rw[show decide ((i:Int)<(l.length:Int))=false by simpa using hlt]
   rfl
theorem Fw (n:Nat) (A B:List az) (l:List (Int×Int)) (hl:l.length<=4611686018427387904):∀ (m i:Nat),i<=l.length->l.length - i<m->kj n A l B l m (i:Int)=some (.inr ())
 | 0,i,_,h=>absurd h (Ua _)
 | m+1,i,hi,h=>by
  unfold kj
  by_cases hlt:i<l.length
  ·rw[show decide ((i:Int)<(l.length:Int))=true by simpa using hlt,Tn,bE,Tj hlt,Ti,Ti,sX r7]
   simp only[UN,UA,TF,Tk]
   exact Fw n A B l hl m (i+1) r7 r7
  ·rw[show decide ((i:Int)<(l.length:Int))=false by simpa using hlt]
   rfl
theorem JE (x:bo) (h1:x.Queue.length<=4611686018427387904) (h2:x.Apart.length<=4611686018427387904):HX x x=some true:=by
 unfold HX KY
 have e1:=Fv aB x.Apart x.Apart x.Queue h1 (aB+8) 0 (TL _) s0
 have e2:=Fw aB x.Queue x.Queue x.Apart h2 (aB+8) 0 (TL _) s0
 rw[show ((0:Nat):Int)=0 from rfl] at e1 e2
 simp only[UC,Tk,Ti,e1,e2]
theorem N2 (x:bo):HO x=some (decide (x.Queue.length<=40)&&decide (x.Apart.length<=40)):=by
 unfold HO KJ
 have e1:decide ((x.Queue.length:Int)<=40)=decide (x.Queue.length<=40):=S8
 have e2:decide ((x.Apart.length:Int)<=40)=decide (x.Apart.length<=40):=S8
 rw[e1,e2]
 cases decide (x.Queue.length<=40)<;>rfl
theorem Cs {T:Type} (l:List T):iJ l 0 (l.length:Int)=some l:=by
 unfold iJ
 simp
def kQ (x:bo) (p:az):bo×Int:=if zV x&&jz p then (bo.mk (x.Queue++[p]) x.Apart,0) else (bo.mk [] [],60)
theorem N3 (x:bo) (p:az) (hq:x.Queue.length<=4095) (hA:x.Apart.length<=4611686018427387904):HP x p=some (kQ x p):=by
 unfold HP KL kQ
 rw[JC x hA,Ti,JG]
 have e:((x.Queue.length:Int)==4096)=false:=so
 cases zV x with
 | false=>rfl
 | true=>cases jz p with
  | false=>rfl
  | true=>
   simp only[e,Cs,Ti]
   rw[gR _ _ _ S7]
   rfl
theorem N4 (x:bo) (p:az) (hq:x.Queue.length<=4095) (hA:x.Apart.length<=4611686018427387904):HR x p=some (kQ x p):=by
 unfold HR KO kQ
 rw[JD x hA,Ti,JH]
 have e:((x.Queue.length:Int)==4096)=false:=so
 cases zV x with
 | false=>rfl
 | true=>cases jz p with
  | false=>rfl
  | true=>
   simp only[e]
   rw[gR 40 [] _ S7]
   simp only[UK,Ti]
   rw[gR _ _ _ S7]
   rfl
theorem zN (x:bo) (p:az) (hq:x.Queue.length<=4095) (hA:x.Apart.length<=4611686018427387904):(kQ x p).1.Queue.length<=4611686018427387904/\(kQ x p).1.Apart.length<=4611686018427387904:=by
 unfold kQ
 split
 ·exact⟨so,hA⟩
 ·exact⟨TL _,TL _⟩
theorem tC {a b:Int} (h:a≠b):(a != b)=true:=by simpa using h
theorem Ga {a b:Int} (h:a≠b):(a==b)=false:=by simpa using h
def vN (x:aq):Bool:=x.Kind==1
def kH:List aq->Option (bw⊕bz)
 | [x0,x1,x2,x3,x4]=>if x0.N=1/\[x0,x1,x2,x3,x4].all vN=true then some (.inl ⟨x1.N,x2.N,x3.N,x4.N⟩) else none
 | [x0,x1,x2,x3]=>if x0.N=2/\[x0,x1,x2,x3].all vN=true then some (.inr ⟨x1.N,x2.N,x3.N⟩) else none
 | _=>none
def msg (bs:List UInt8):Option (bw⊕bz):=if (iP bs).2=0/\(iP bs).1.Kind=3 then kH (iP bs).1.L else none
theorem NZ {bs:List UInt8} (h:bs.length<=1100000):(iP bs).1.L.length<=1100000:=by
 rcases wY bs with ⟨v,e⟩ | e
 ·obtain ⟨_,_,_,h4⟩:=yg h e
  rw[e]
  have:=dN v.L
  rw[dY] at h4
  show v.L.length<=_
  omega
 ·rw[e]; exact TL _
theorem BG (n:Nat) (v:aq) (hl:v.L.length<=1100000):∀ (m i:Nat) (acc:List Int),i<=v.L.length->v.L.length - i<m->acc.length<=i ->
  kl n v m (i:Int) acc=some (if (v.L.drop i).all vN=true then .inr (acc++(v.L.drop i).map (·.N)) else .inl false)
 | 0,i,_,_,h,_=>absurd h (Ua _)
 | m+1,i,acc,hi,h,ha=>by
  rw[kl]
  by_cases hlt:i<v.L.length
  ·rw[show decide ((i:Int)<(v.L.length:Int))=true by simpa using hlt,Tn,bE,Tj hlt,Ti,Ti,TB hlt,Vp,Um]
   by_cases hk:v.L[i].Kind=1
   ·rw[show (v.L[i].Kind != 1)=false by simp[hk],Tk,gR _ _ _ S7,Ti,sX r7,BG n v hl m (i+1) _ r7 r7 so,show vN v.L[i]=true by simp[vN,hk],TU]
    simp
   ·rw[tC hk,show vN v.L[i]=false by simp[vN,hk]]; rfl
  ·rw[show decide ((i:Int)<(v.L.length:Int))=false by simpa using hlt,Tk,TS.2 r7]
   simp
theorem Kv (bs:List UInt8) (h:bs.length<=1100000):Hq bs=some (if (iP bs).2=0/\(iP bs).1.Kind=3/\(iP bs).1.L.all vN=true then ((iP bs).1.L.map (·.N),true) else ([],false)):=by
 unfold Hq KZ
 rw[SF bs h,Ti]
 have hl:=NZ h
 by_cases h0:(iP bs).2=0
 ·by_cases h3:(iP bs).1.Kind=3
  ·simp only[h0,h3,UC,Tk,Ti]
   have hw:=BG aB (iP bs).1 hl (aB+8) 0 [] (TL _) s0 (Tm _)
   rw[show ((0:Nat):Int)=0 from rfl,T5] at hw
   rw[hw]
   cases (iP bs).1.L.all vN<;>simp
  ·rw[Tw (fun hh=>h3 hh.2.1),h0,tC h3]; rfl
 ·rw[Tw (fun hh=>h0 hh.1),tC h0]; rfl
theorem Pb (bs:List UInt8) (h:bs.length<=1100000):HN bs=some (match msg bs with | some (.inl c)=>(c,true) | _=>(⟨0,0,0,0⟩,false)):=by
 unfold HN KH msg
 rw[Kv bs h,Ti]
 generalize iP bs=v
 obtain ⟨v,e⟩:=v
 by_cases h0:e=0/\v.Kind=3
 ·simp only[h0.1,h0.2,Vr,VH,and_self]
  match v.L with
  | []=>rfl
  | [_]=>simp only[kH]; split<;>rfl
  | [_,_]=>simp only[kH]; split<;>rfl
  | [_,_,_]=>simp only[kH]; split<;>rfl
  | [x0,x1,x2,x3]=>simp only[kH]; split<;>split<;>first | rfl | (rename_i q; split at q<;>cases q)
  | [x0,x1,x2,x3,x4]=>
   simp only[kH]
   by_cases ha:[x0,x1,x2,x3,x4].all vN=true
   ·by_cases hk:x0.N=1
    ·rw[Ty ha,Ty ⟨hk,ha⟩]; simp[hk,bK]
    ·rw[Ty ha,Tw (fun q=>hk q.1)]
     simp only[Um,VV,TF,Tk,Ti,show bK [x0.N,x1.N,x2.N,x3.N,x4.N] 0=some x0.N from rfl,tC hk]
     rfl
   ·rw[Tw ha,Tw (fun q=>ha q.2)]; rfl
  | y0 :: y1 :: y2 :: y3 :: y4 :: y5 :: l=>
   simp only[kH]
   split
   ·have:(((List.map (fun x:aq=>x.N) (y0 :: y1 :: y2 :: y3 :: y4 :: y5 :: l)).length:Int) != 5)=true:=by simp; omega
    simp only[TF,Tk,this,Ti,Tn]
   ·rfl
 ·rw[Tw h0,Tw (fun q=>h0 ⟨q.1,q.2.1⟩)]; rfl
theorem Pj (bs:List UInt8) (h:bs.length<=1100000):Ib bs=some (match msg bs with | some (.inr c)=>(c,true) | _=>(⟨0,0,0⟩,false)):=by
 unfold Ib La msg
 rw[Kv bs h,Ti]
 generalize iP bs=v
 obtain ⟨v,e⟩:=v
 by_cases h0:e=0/\v.Kind=3
 ·simp only[h0.1,h0.2,Vr,VH,and_self]
  match v.L with
  | []=>rfl
  | [_]=>simp only[kH]; split<;>rfl
  | [_,_]=>simp only[kH]; split<;>rfl
  | [_,_,_]=>simp only[kH]; split<;>rfl
  | [x0,x1,x2,x3,x4]=>simp only[kH]; split<;>split<;>first | rfl | (rename_i q; split at q<;>cases q)
  | [x0,x1,x2,x3]=>
   simp only[kH]
   by_cases ha:[x0,x1,x2,x3].all vN=true
   ·by_cases hk:x0.N=2
    ·rw[Ty ha,Ty ⟨hk,ha⟩]; simp[hk,bK]
    ·rw[Ty ha,Tw (fun q=>hk q.1)]
     simp only[Um,VV,TF,Tk,Ti,show bK [x0.N,x1.N,x2.N,x3.N] 0=some x0.N from rfl,tC hk]
     rfl
   ·rw[Tw ha,Tw (fun q=>ha q.2)]; rfl
  | y0 :: y1 :: y2 :: y3 :: y4 :: y5 :: l=>
   simp only[kH]
   split
   ·have:(((List.map (fun x:aq=>x.N) (y0 :: y1 :: y2 :: y3 :: y4 :: y5 :: l)).length:Int) != 4)=true:=by simp; omega
    simp only[TF,Tk,this,Ti,Tn]
   ·rfl
 ·rw[Tw h0,Tw (fun q=>h0 ⟨q.1,q.2.1⟩)]; rfl
theorem q1:wr .i64 (0+1)=1:=by decide +kernel
theorem q2:wr .i64 (1+1)=2:=by decide +kernel
theorem q3:wr .i64 (2+1)=3:=by decide +kernel
theorem q4:wr .i64 (3+1)=4:=by decide +kernel
theorem q5:wr .i64 (4+1)=5:=by decide +kernel
theorem Gz (n:Nat) (z:Bool) (x0 x1 x2 x3 x4:aq) (z1 z2 z3:Int) (z4:aq) (a b c d e:Int) (m:Nat) :
  (du n z [x0,x1,x2,x3,x4] 5 z1 z2 z3 z4 (m+6) 0 a b c d e=some (.inr (x0.N,x1.N,x2.N,x3.N,x4.N))/\[x0,x1,x2,x3,x4].all vN=true) ∨
  (∃ t,du n z [x0,x1,x2,x3,x4] 5 z1 z2 z3 z4 (m+6) 0 a b c d e=some (.inl (false,t)))/\[x0,x1,x2,x3,x4].all vN=false:=by
 have g0:bK [x0,x1,x2,x3,x4] 0=some x0:=rfl
 have g1:bK [x0,x1,x2,x3,x4] 1=some x1:=rfl
 have g2:bK [x0,x1,x2,x3,x4] 2=some x2:=rfl
 have g3:bK [x0,x1,x2,x3,x4] 3=some x3:=rfl
 have g4:bK [x0,x1,x2,x3,x4] 4=some x4:=rfl
 simp only[Vp,List.all_nil,vN]
 rw[du]
 simp only[Int.reduceEq,Int.reduceLT,UE,UG,Tn,Tk,Ti,g0,q1,bne]
 cases x0.Kind==1
 ·exact .inr ⟨⟨_,rfl⟩,rfl⟩
 simp only[TF,Tk]
 rw[du]
 simp only[Int.reduceEq,Int.reduceLT,UE,UG,Tn,Tk,Ti,g1,q2,bne]
 cases x1.Kind==1
 ·exact .inr ⟨⟨_,rfl⟩,rfl⟩
 simp only[TF,Tk]
 rw[du]
 simp only[Int.reduceEq,Int.reduceLT,UE,UG,Tn,Tk,Ti,g2,q3,bne]
 cases x2.Kind==1
 ·exact .inr ⟨⟨_,rfl⟩,rfl⟩
 simp only[TF,Tk]
 rw[du]
 simp only[Int.reduceEq,Int.reduceLT,UE,UG,Tn,Tk,Ti,g3,q4,bne]
 cases x3.Kind==1
 ·exact .inr ⟨⟨_,rfl⟩,rfl⟩
 simp only[TF,Tk]
 rw[du]
 simp only[Int.reduceEq,Int.reduceLT,UE,UG,Tn,Tk,Ti,g4,q5,bne]
 cases x4.Kind==1
 ·exact .inr ⟨⟨_,rfl⟩,rfl⟩
 simp only[TF,Tk]
 rw[du]
 exact .inl ⟨rfl,rfl⟩
theorem Dg (n:Nat) (z:Bool) (x0 x1 x2 x3:aq) (z1 z2 z3 z5:Int) (z4:aq) (a b c d:Int) (m:Nat) :
  (dr n z [x0,x1,x2,x3] 4 z1 z2 z3 z5 z4 (m+5) 0 a b c d=some (.inr (x0.N,x1.N,x2.N,x3.N))/\[x0,x1,x2,x3].all vN=true) ∨
  (∃ t,dr n z [x0,x1,x2,x3] 4 z1 z2 z3 z5 z4 (m+5) 0 a b c d=some (.inl (false,t)))/\[x0,x1,x2,x3].all vN=false:=by
 have g0:bK [x0,x1,x2,x3] 0=some x0:=rfl
 have g1:bK [x0,x1,x2,x3] 1=some x1:=rfl
 have g2:bK [x0,x1,x2,x3] 2=some x2:=rfl
 have g3:bK [x0,x1,x2,x3] 3=some x3:=rfl
 simp only[Vp,List.all_nil,vN]
 rw[dr]
 simp only[Int.reduceEq,Int.reduceLT,UE,UG,Tn,Tk,Ti,g0,q1,bne]
 cases x0.Kind==1
 ·exact .inr ⟨⟨_,rfl⟩,rfl⟩
 simp only[TF,Tk]
 rw[dr]
 simp only[Int.reduceEq,Int.reduceLT,UE,UG,Tn,Tk,Ti,g1,q2,bne]
 cases x1.Kind==1
 ·exact .inr ⟨⟨_,rfl⟩,rfl⟩
 simp only[TF,Tk]
 rw[dr]
 simp only[Int.reduceEq,Int.reduceLT,UE,UG,Tn,Tk,Ti,g2,q3,bne]
 cases x2.Kind==1
 ·exact .inr ⟨⟨_,rfl⟩,rfl⟩
 simp only[TF,Tk]
 rw[dr]
 simp only[Int.reduceEq,Int.reduceLT,UE,UG,Tn,Tk,Ti,g3,q4,bne]
 cases x3.Kind==1
 ·exact .inr ⟨⟨_,rfl⟩,rfl⟩
 simp only[TF,Tk]
 rw[dr]
 exact .inl ⟨rfl,rfl⟩
theorem GC {x:aq} {l:List aq} (hk:x.N=1) (hl:l.length≠4):kH (x :: l)=none:=by
 match l with
 | []=>rfl
 | [_]=>rfl
 | [_,_]=>rfl
 | [_,_,_]=>simp only[kH]; exact Tw (fun q=>r7)
 | [_,_,_,_]=>exact absurd rfl hl
 | _ :: _ :: _ :: _ :: _ :: _=>rfl
theorem GD {x:aq} {l:List aq} (hk:x.N≠1) (hl:l.length≠3∨x.N≠2):kH (x :: l)=none:=by
 match l with
 | []=>rfl
 | [_]=>rfl
 | [_,_]=>rfl
 | [_,_,_]=>simp only[kH]; exact Tw (fun q=>by rcases hl with h | h; exact h rfl; exact h q.1)
 | [_,_,_,_]=>simp only[kH]; exact Tw (fun q=>hk q.1)
 | _ :: _ :: _ :: _ :: _ :: _=>rfl
theorem Pe (bs:List UInt8) (h:bs.length<=1100000):∃ r,HU bs=some r/\match msg bs with | some (.inl c)=>r=(⟨1,c,⟨0,0,0⟩⟩,true) | some (.inr c)=>r=(⟨2,⟨0,0,0,0⟩,c⟩,true) | none=>r.2=false:=by
 unfold HU KT msg
 rw[SE bs h,Ti]
 generalize iP bs=v
 obtain ⟨v,e⟩:=v
 by_cases h0:e=0
 ·subst h0
  by_cases h3:v.Kind=3
  ·rw[Ty ⟨rfl,h3⟩]
   simp only[h3,UC,Tk,Ti]
   match v.L with
   | []=>exact⟨_,rfl,rfl⟩
   | x :: L'=>
    have hne:(((x :: L').length:Int)==0)=false:=so
    simp only[hne,Tk,Ti,show bK (x :: L') 0=some x from rfl]
    by_cases hk:x.N=1
    ·simp only[hk,UN,Tn,UC,Tk,Ti]
     by_cases hl:L'.length=4
     ·obtain ⟨x1,x2,x3,x4,rfl⟩:∃ x1 x2 x3 x4,L'=[x1,x2,x3,x4]:=by
       match L',hl with | [x1,x2,x3,x4],_=>exact⟨x1,x2,x3,x4,rfl⟩
      have e5:((([x,x1,x2,x3,x4]:List aq).length:Int))=5:=rfl
      simp only[e5,UC,Tk]
      simp only[kH]
      rcases Gz aB false x x1 x2 x3 x4 0 0 0 v 1 0 0 0 0 (aB+2) with ⟨hw,ha⟩ | ⟨⟨⟨t1,t2,t3,t4,t5⟩,hw⟩,ha⟩
      ·rw[hw,Ty ⟨hk,ha⟩]
       exact⟨_,rfl,by simp only[hk]⟩
      ·rw[hw,Tw (fun q=>by rw[ha] at q; exact absurd q.2 Bool.false_ne_true)]
       exact⟨_,rfl,rfl⟩
     ·rw[GC hk hl,show (((x :: L').length:Int) != 5)=true by simp; omega]
      exact⟨_,rfl,rfl⟩
    ·simp only[Ga hk,Tk,tC hk,Tn,Ti]
     by_cases hl:L'.length=3/\x.N=2
     ·obtain ⟨hl,h2⟩:=hl
      obtain ⟨x1,x2,x3,rfl⟩:∃ x1 x2 x3,L'=[x1,x2,x3]:=by
       match L',hl with | [x1,x2,x3],_=>exact⟨x1,x2,x3,rfl⟩
      have e5:((([x,x1,x2,x3]:List aq).length:Int))=4:=rfl
      simp only[e5,h2,UC,Tk,Ti]
      simp only[kH]
      rcases Dg aB false x x1 x2 x3 0 0 0 0 v 2 0 0 0 (aB+3) with ⟨hw,ha⟩ | ⟨⟨⟨t1,t2,t3,t4⟩,hw⟩,ha⟩
      ·rw[hw,Ty ⟨h2,ha⟩]
       exact⟨_,rfl,by simp only[h2]⟩
      ·rw[hw,Tw (fun q=>by rw[ha] at q; exact absurd q.2 Bool.false_ne_true)]
       exact⟨_,rfl,rfl⟩
     ·rw[GD hk r7]
      by_cases h2:x.N=2
      ·rw[h2,show (((x :: L').length:Int) != 4)=true by simp; omega]
       exact⟨_,rfl,rfl⟩
      ·rw[tC h2]; exact⟨_,rfl,rfl⟩
  ·rw[Tw (fun q=>h3 q.2),tC h3]; exact⟨_,rfl,rfl⟩
 ·rw[Tw (fun q=>h0 q.1),tC h0]; exact⟨_,rfl,rfl⟩
section
def jB (a lo hi:Int):Bool:=decide (lo<=a)&&decide (a<=hi)
theorem Ct (a lo hi:Int):xO a lo hi=some (jB a lo hi):=by
 unfold xO KQ jB
 cases decide (lo<=a)<;>rfl
theorem Ej (a lo hi:Int):zT a lo hi=some (jB a lo hi):=by
 unfold zT KU jB
 cases decide (lo<=a)<;>rfl
def fF (c:bw) (n:Int):Bool:=jB c.No 0 1048576&&jB c.Role 0 (wr .i64 (n - 1))&&jB c.Bar 0 4095&&jB c.Program 1 8
theorem Hf (c:bw) (n:Int):FO c n=some (fF c n):=by
 unfold FO KK fF
 simp only[Ct,Ti]
 cases jB c.No 0 1048576<;>cases jB c.Role 0 (wr .i64 (n - 1))<;>cases jB c.Bar 0 4095<;>rfl
theorem Hg (c:bw) (n:Int):FP c n=some (fF c n):=by
 unfold FP KN fF
 simp only[Ej,Ti]
 cases jB c.No 0 1048576<;>cases jB c.Role 0 (wr .i64 (n - 1))<;>cases jB c.Bar 0 4095<;>rfl
theorem rf {c:bw} {n:Int} (h:fF c n=true):0<=c.Bar/\c.Bar<=4095:=by
 unfold fF jB at h
 simp only[Tl,Tu] at h
 exact h.1.2
def pE:List Int->List Int->Bool
 | a :: l,b :: m=>jB a 0 8&&!((b != a)&&(b != 0))&&pE l m
 | _,_=>true
theorem Fo (n:Nat) (x:bH) (hl:x.Got.length<=4611686018427387904) (hd:x.Did.length=x.Got.length):∀ (m i:Nat),i<=x.Got.length->x.Got.length - i<m ->
  kb n x.Got (x.Got.length:Int) x m (i:Int)=some (bif pE (x.Got.drop i) (x.Did.drop i) then .inr () else .inl false)
 | 0,i,_,h=>absurd h (Ua _)
 | m+1,i,hi,h=>by
  rw[kb]
  by_cases hlt:i<x.Got.length
  ·have hlt':i<x.Did.length:=by omega
   rw[show decide ((i:Int)<(x.Got.length:Int))=true by simpa using hlt,Tn,bE,bE,Tj hlt,Tj hlt',Ti,Ct,Ti,TB hlt,TB hlt',sX r7,Fo n x hl hd m (i+1) r7 r7]
   simp only[pE,Ti]
   cases jB x.Got[i] 0 8<;>cases (x.Did[i] != x.Got[i])<;>cases (x.Did[i] != 0)<;>simp
  ·rw[show decide ((i:Int)<(x.Got.length:Int))=false by simpa using hlt,Tk,TS.2 r7]
   rfl
theorem BL (n:Nat) (w:aw) (x:bH) (hg:(x.Got.length:Int)=w.Bar) (hl:x.Got.length<=4611686018427387904) (hd:x.Did.length=x.Got.length):∀ (m i:Nat),i<=x.Got.length->x.Got.length - i<m ->
  kf n w x m (i:Int)=some (bif pE (x.Got.drop i) (x.Did.drop i) then .inr () else .inl false)
 | 0,i,_,h=>absurd h (Ua _)
 | m+1,i,hi,h=>by
  rw[kf,<-hg]
  by_cases hlt:i<x.Got.length
  ·have hlt':i<x.Did.length:=by omega
   rw[show decide ((i:Int)<(x.Got.length:Int))=true by simpa using hlt,Tn,bE,bE,Tj hlt,Tj hlt',Ti,Ej,Ti,TB hlt,TB hlt',sX r7,BL n w x hg hl hd m (i+1) r7 r7]
   simp only[pE,Ti]
   cases jB x.Got[i] 0 8<;>cases (x.Did[i] != x.Got[i])<;>cases (x.Did[i] != 0)<;>simp
  ·rw[show decide ((i:Int)<(x.Got.length:Int))=false by simpa using hlt,Tk,TS.2 r7]
   rfl
def pA (role n:Int):Int->List bw->Bool
 | _,[]=>true
 | lo,c :: l=>fF c n&&(c.Role==role)&&!decide (c.Bar<lo)&&pA role n (c.Bar+1) l
theorem Fl (n:Nat) (role k:Int) (z:Bool) (x:bH) (hl:x.Cues.length<=4611686018427387904):∀ (m i:Nat) (lo:Int),i<=x.Cues.length->x.Cues.length - i<m ->
  kd n role k z x.Cues (x.Cues.length:Int) x m lo (i:Int)=some (bif pA role k lo (x.Cues.drop i) then .inr () else .inl false)
 | 0,i,_,_,h=>absurd h (Ua _)
 | m+1,i,lo,hi,h=>by
  rw[kd]
  by_cases hlt:i<x.Cues.length
  ·rw[show decide ((i:Int)<(x.Cues.length:Int))=true by simpa using hlt,Tn,bE,Tj hlt,Ti,Hf,Ti,TB hlt,sX r7]
   simp only[pA]
   cases hr:fF x.Cues[i] k with
   | false=>rfl
   | true=>
    obtain ⟨b1,b2⟩:=rf hr
    rw[dv r7 r7,Fl n role k z x hl m (i+1) _ r7 r7]
    simp only[bne]
    cases (x.Cues[i].Role==role)<;>cases decide (x.Cues[i].Bar<lo)<;>simp
  ·rw[show decide ((i:Int)<(x.Cues.length:Int))=false by simpa using hlt,Tk,TS.2 r7]
   rfl
theorem BJ (n:Nat) (role:Int) (z:Bool) (w:aw) (x:bH) (hl:x.Cues.length<=4611686018427387904):∀ (m i:Nat) (lo:Int),i<=x.Cues.length->x.Cues.length - i<m->w.Bar<=lo->(i=0->lo=w.Bar)->(∀ c,0<i->x.Cues[i - 1]? = some c->lo=c.Bar+1) ->
  kh n role z w x m (i:Int)=some (bif pA role (w.Ears.length:Int) lo (x.Cues.drop i) then .inr () else .inl false)
 | 0,i,_,_,h,_,_,_=>absurd h (Ua _)
 | m+1,i,lo,hi,h,h1,h2,h3=>by
  rw[kh]
  by_cases hlt:i<x.Cues.length
  ·rw[show decide ((i:Int)<(x.Cues.length:Int))=true by simpa using hlt,Tn,bE,Tj hlt,Ti,Hg,Ti,TB hlt,sX r7]
   simp only[pA]
   cases hr:fF x.Cues[i] (w.Ears.length:Int) with
   | false=>rfl
   | true=>
    obtain ⟨b1,b2⟩:=rf hr
    simp only[bne,TF,Tk,Ti,TU]
    cases hro:(x.Cues[i].Role==role) with
    | false=>rfl
    | true=>
     simp only[TF,Tk,Ti,TU]
     by_cases hlo:x.Cues[i].Bar<lo
     ·rw[Tq hlo]
      by_cases hb:x.Cues[i].Bar<w.Bar
      ·rw[Tq hb]; rfl
      ·rw[Tx hb]
       have h0:0<i:=by
        rcases VA i with q | q
        ·have:=h2 q; omega
        ·exact q
       have hp:i - 1<x.Cues.length:=r7
       have hq:=h3 _ h0 (Tj hp)
       rw[show decide ((0:Int)<(i:Int))=true by simpa using h0]
       simp only[Tk,Tn]
       rw[dv r7 r7,show (i:Int) - 1=((i - 1:Nat):Int) by omega,bE,Tj hp,Ti,Tq r7]
       rfl
     ·rw[Tx hlo,Tx (by omega:¬ x.Cues[i].Bar<w.Bar)]
      have ih:=BJ n role z w x hl m (i+1) (x.Cues[i].Bar+1) r7 r7 r7 r7 (fun c _ hc=>by
       rw[VW,Tj hlt] at hc
       rw[Option.some.inj hc])
      by_cases h0:0<i
      ·have hp:i - 1<x.Cues.length:=by omega
       have hq:=h3 _ h0 (Tj hp)
       rw[show decide ((0:Int)<(i:Int))=true by simpa using h0]
       simp only[Tk,Tn,Vt,TU]
       rw[dv r7 r7,show (i:Int) - 1=((i - 1:Nat):Int) by omega,bE,Tj hp,Ti,Tx r7]
       exact ih
      ·rw[show decide ((0:Int)<(i:Int))=false by simpa using h0]
       exact ih
  ·rw[show decide ((i:Int)<(x.Cues.length:Int))=false by simpa using hlt,Tk,TS.2 r7]
   rfl
def oU (x:bH) (role n bar:Int):Bool:=(x.Got.length:Int)==bar&&(x.Did.length:Int)==bar&&pE x.Got x.Did&&pA role n bar x.Cues
theorem Pd (x:bH) (role n bar:Int) (h1:x.Got.length<=4611686018427387904) (h2:x.Cues.length<=4611686018427387904):HT x role n bar=some (oU x role n bar):=by
 unfold HT KS oU
 simp only[bne]
 cases hg:((x.Got.length:Int)==bar) with
 | false=>rfl
 | true=>cases hd:((x.Did.length:Int)==bar) with
  | false=>rfl
  | true=>
   have e1:=eq_of_beq hg; have e2:=eq_of_beq hd
   have w1:=Fo aB x h1 r7 (aB+8) 0 (TL _) s0
   have w2:=Fl aB role n false x h2 (aB+8) 0 bar (TL _) s0
   rw[show ((0:Nat):Int)=0 from rfl,T5] at w1 w2
   rw[T5] at w1
   simp only[TF,Tk,Ti,w1,w2,TU]
   cases pE x.Got x.Did<;>cases pA role n bar x.Cues<;>rfl
theorem Pf (w:aw) (role:Nat) (hr:role<w.Ears.length) (h1:w.Ears[role].Got.length<=4611686018427387904) (h2:w.Ears[role].Cues.length<=4611686018427387904):HV w (role:Int)=some (oU w.Ears[role] role (w.Ears.length:Int) w.Bar):=by
 unfold HV KW oU
 rw[bE,Tj hr,Ti]
 generalize w.Ears[role]=x at *
 simp only[bne]
 cases hg:((x.Got.length:Int)==w.Bar) with
 | false=>rfl
 | true=>cases hd:((x.Did.length:Int)==w.Bar) with
  | false=>rfl
  | true=>
   have e1:=eq_of_beq hg; have e2:=eq_of_beq hd
   have w1:=BL aB w x e1 h1 r7 (aB+8) 0 (TL _) s0
   have w2:=BJ aB role false w x h2 (aB+8) 0 w.Bar (TL _) s0 (WA _) (fun _=>rfl) (fun _ h=>absurd h (Vq _))
   rw[show ((0:Nat):Int)=0 from rfl,T5] at w1 w2
   rw[T5] at w1
   simp only[TF,Tk,Ti,w1,w2,TU]
   cases pE x.Got x.Did<;>cases pA role (w.Ears.length:Int) w.Bar x.Cues<;>rfl
def CT (w:aw) (r:bz):Bool:=match bK w.Ears r.Role with
 | some y=>match bK y.Did r.Bar with
  | some d=>d==r.Program
  | none=>false
 | none=>false
def Ea (w:aw) (p:az):Bool:=match msg p.Data with
 | some (.inl c)=>fF c (w.Ears.length:Int)&&(p.From==0)&&(p.To==wr .i64 (c.Role+1))
 | some (.inr r)=>jB r.Role 0 ((w.Ears.length:Int) - 1)&&jB r.Bar 0 (w.Bar - 1)&&(p.From==wr .i64 (r.Role+1))&&(p.To==0)&&CT w r
 | none=>false
def zX (w:aw):Prop:=∀ x∈w.Ears,(x.Did.length:Int)=w.Bar
theorem IA {w:aw} {r:bz} (he:zX w) (h1:jB r.Role 0 ((w.Ears.length:Int) - 1)=true) (h2:jB r.Bar 0 (w.Bar - 1)=true):(Option.bind (bK w.Ears r.Role) fun y=>Option.bind (bK y.Did r.Bar) fun z=>some (z==r.Program))=some (CT w r):=by
 unfold jB at h1 h2
 simp only[Tl,Tu] at h1 h2
 unfold CT
 have e1:r.Role=((r.Role.toNat:Nat):Int):=r7
 have e2:r.Bar=((r.Bar.toNat:Nat):Int):=r7
 have l1:r.Role.toNat<w.Ears.length:=r7
 rw[e1,bE,Tj l1]
 have l2:r.Bar.toNat<w.Ears[r.Role.toNat].Did.length:=by have:=he _ (Ub l1); omega
 simp only[Ti]
 rw[e2,bE,Tj l2]
 rfl
theorem Pg (w:aw) (p:az) (he:zX w) (hn:w.Ears.length<=12) (hb:-1<=w.Bar/\w.Bar<=4096) (hp:p.Data.length<=1100000):HW w p=some (Ea w p):=by
 unfold HW KX Ea
 rw[Pb _ hp,Pj _ hp]
 simp only[Hg,Ej,Ti]
 rw[dv (n:=(w.Ears.length:Int) - 1) r7 r7,dv (n:=w.Bar - 1) r7 r7]
 match msg p.Data with
 | none=>cases (p.From==0)<;>rfl
 | some (.inl c)=>
  simp only
  cases (p.From==0) with
  | false=>simp
  | true=>cases fF c (w.Ears.length:Int)<;>simp
 | some (.inr r)=>
  simp only
  by_cases h0:p.From=0
  ·simp only[h0,UN,Tn,Tk,Ti]
   cases hr:jB r.Role 0 ((w.Ears.length:Int) - 1) with
   | false=>rfl
   | true=>
    unfold jB at hr
    simp only[Tl,Tu] at hr
    rw[dv r7 r7,Ga (by omega:(0:Int)≠r.Role+1)]
    simp
  ·simp only[Ga h0,Tk,Tn,Ti]
   cases hr:jB r.Role 0 ((w.Ears.length:Int) - 1) with
   | false=>cases (p.To==0)<;>cases (p.From==wr .i64 (r.Role+1))<;>rfl
   | true=>cases hb':jB r.Bar 0 (w.Bar - 1) with
    | false=>cases (p.To==0)<;>cases (p.From==wr .i64 (r.Role+1))<;>rfl
    | true=>
     have hd:=IA he hr hb'
     cases (p.To==0)<;>cases (p.From==wr .i64 (r.Role+1))<;>simp[hd]
theorem Fm (n:Nat) (z:Int) (w:aw) (hl:w.Ears.length<=12) (hg:∀ x∈w.Ears,x.Got.length<=4611686018427387904/\x.Cues.length<=4611686018427387904):∀ (m i:Nat),i<=w.Ears.length->w.Ears.length - i<m ->
  jX n z (w.Ears.length:Int) w.Ears (w.Ears.length:Int) w m (i:Int)=some (if ∀ j (h:j<w.Ears.length),i<=j->oU w.Ears[j] j (w.Ears.length:Int) w.Bar=true then .inr () else .inl 490)
 | 0,i,_,h=>absurd h (Ua _)
 | m+1,i,hi,h=>by
  rw[jX]
  by_cases hlt:i<w.Ears.length
  ·obtain ⟨a1,a2⟩:=hg _ (Ub hlt)
   rw[show decide ((i:Int)<(w.Ears.length:Int))=true by simpa using hlt,Tn,bE,Tj hlt,Ti,Pd _ _ _ _ a1 a2,Ti]
   cases he:oU w.Ears[i] i (w.Ears.length:Int) w.Bar with
   | false=>
    rw[Tw (fun q=>by rw[q i hlt (Tm _)] at he; cases he)]; rfl
   | true=>
    rw[sX r7,Fm n z w hl hg m (i+1) r7 r7]
    simp only[TF,Tk]
    refine Ue some (ite_congr (propext ⟨fun q j hj hij=>?_,fun q j hj hij=>q j hj r7⟩) (fun _=>rfl) (fun _=>rfl))
    rcases Nat.eq_or_lt_of_le hij with rfl | h2
    ·exact he
    ·exact q j hj h2
  ·rw[show decide ((i:Int)<(w.Ears.length:Int))=false by simpa using hlt,Tk,Ty (fun j hj hij=>r7)]
theorem BK (n:Nat) (w:aw) (hl:w.Ears.length<=12) (hg:∀ x∈w.Ears,x.Got.length<=4611686018427387904/\x.Cues.length<=4611686018427387904):∀ (m i:Nat),i<=w.Ears.length->w.Ears.length - i<m ->
  jY n w m (i:Int)=some (if ∀ j (h:j<w.Ears.length),i<=j->oU w.Ears[j] j (w.Ears.length:Int) w.Bar=true then .inr () else .inl 490)
 | 0,i,_,h=>absurd h (Ua _)
 | m+1,i,hi,h=>by
  rw[jY]
  by_cases hlt:i<w.Ears.length
  ·obtain ⟨a1,a2⟩:=hg _ (Ub hlt)
   rw[show decide ((i:Int)<(w.Ears.length:Int))=true by simpa using hlt,Tn,Pf _ _ hlt a1 a2,Ti]
   cases he:oU w.Ears[i] i (w.Ears.length:Int) w.Bar with
   | false=>
    rw[Tw (fun q=>by rw[q i hlt (Tm _)] at he; cases he)]; rfl
   | true=>
    rw[sX r7,BK n w hl hg m (i+1) r7 r7]
    simp only[TF,Tk]
    refine Ue some (ite_congr (propext ⟨fun q j hj hij=>?_,fun q j hj hij=>q j hj r7⟩) (fun _=>rfl) (fun _=>rfl))
    rcases Nat.eq_or_lt_of_le hij with rfl | h2
    ·exact he
    ·exact q j hj h2
  ·rw[show decide ((i:Int)<(w.Ears.length:Int))=false by simpa using hlt,Tk,Ty (fun j hj hij=>r7)]
theorem Fp (n:Nat) (z:Int) (w:aw) (he:zX w) (hn:w.Ears.length<=12) (hb:-1<=w.Bar/\w.Bar<=4096) (hp:∀ p∈w.Net.Queue,p.Data.length<=1100000) (hq:w.Net.Queue.length<=4096):∀ (m i:Nat),i<=w.Net.Queue.length->w.Net.Queue.length - i<m ->
  ig n z (w.Ears.length:Int) w.Net.Queue (w.Net.Queue.length:Int) w m (i:Int)=some (bif (w.Net.Queue.drop i).all (Ea w) then .inr () else .inl 490)
 | 0,i,_,h=>absurd h (Ua _)
 | m+1,i,hi,h=>by
  rw[ig]
  by_cases hlt:i<w.Net.Queue.length
  ·obtain ⟨r,hr,hm⟩:=Pe w.Net.Queue[i].Data (hp _ (Ub hlt))
   rw[show decide ((i:Int)<(w.Net.Queue.length:Int))=true by simpa using hlt,Tn,bE,Tj hlt,Ti,hr,Ti,TB hlt,Vp,sX r7,Fp n z w he hn hb hp hq m (i+1) r7 r7]
   simp only[Hf,Ct,Ti]
   rw[dv (n:=(w.Ears.length:Int) - 1) r7 r7,dv (n:=w.Bar - 1) r7 r7]
   unfold Ea
   generalize w.Net.Queue[i]=p at *
   match hg:msg p.Data,hm with
   | none,hm=>
    simp only[show r.2=false from hm]
    simp
   | some (.inl c),hm=>
    simp only at hm
    subst hm
    simp only[UN,Tn,Ti]
    cases fF c (w.Ears.length:Int)<;>cases (p.From==0)<;>cases (p.To==wr .i64 (c.Role+1))<;>simp
   | some (.inr c),hm=>
    simp only at hm
    subst hm
    simp only[show ((2:Int)==1)=false from rfl,Tn,Tk,Ti]
    cases hr':jB c.Role 0 ((w.Ears.length:Int) - 1) with
    | false=>simp
    | true=>cases hb':jB c.Bar 0 (w.Bar - 1) with
     | false=>simp
     | true=>
      have hd:=IA he hr' hb'
      simp only[Tn,Ti]
      cases (p.From==wr .i64 (c.Role+1)) with
      | false=>simp
      | true=>cases (p.To==0) with
       | false=>simp
       | true=>
        simp only[Tn,Ti,hd]
        cases CT w c<;>simp
  ·rw[show decide ((i:Int)<(w.Net.Queue.length:Int))=false by simpa using hlt,Tk,TS.2 r7]
   rfl
theorem BM (n:Nat) (w:aw) (he:zX w) (hn:w.Ears.length<=12) (hb:-1<=w.Bar/\w.Bar<=4096) (hp:∀ p∈w.Net.Queue,p.Data.length<=1100000) (hq:w.Net.Queue.length<=4096):∀ (m i:Nat),i<=w.Net.Queue.length->w.Net.Queue.length - i<m ->
  jZ n w m (i:Int)=some (bif (w.Net.Queue.drop i).all (Ea w) then .inr () else .inl 490)
 | 0,i,_,h=>absurd h (Ua _)
 | m+1,i,hi,h=>by
  rw[jZ]
  by_cases hlt:i<w.Net.Queue.length
  ·rw[show decide ((i:Int)<(w.Net.Queue.length:Int))=true by simpa using hlt,Tn,bE,Tj hlt,Ti,Pg w _ he hn hb (hp _ (Ub hlt)),Ti,TB hlt,Vp,sX r7,BM n w he hn hb hp hq m (i+1) r7 r7]
   cases Ea w w.Net.Queue[i]<;>simp
  ·rw[show decide ((i:Int)<(w.Net.Queue.length:Int))=false by simpa using hlt,Tk,TS.2 r7]
   rfl
def okW (w:aw):Prop:=(1<=w.Ears.length/\w.Ears.length<=12)/\(0<=w.Bar/\w.Bar<=4096)/\zV w.Net=true/\(∀ j (h:j<w.Ears.length),oU w.Ears[j] j (w.Ears.length:Int) w.Bar=true)/\w.Net.Queue.all (Ea w)=true
def Fit (w:aw):Prop:=w.Net.Apart.length<=4611686018427387904/\∀ x∈w.Ears,x.Got.length<=4611686018427387904/\x.Cues.length<=4611686018427387904
open Classical in
noncomputable def tH (w:aw):Int:=if okW w then 0 else 490
theorem vd {w:aw} (h:okW w):tH w=0:=Ty h
theorem fM {w:aw} (h:¬ okW w):tH w=490:=Tw h
theorem Dk {p:az} (h:jz p=true):p.Data.length<=1100000:=by
 unfold jz at h
 simp only[Tl,Tu] at h
 omega
theorem vW {x:bo} (h:zV x=true):x.Queue.length<=4096/\∀ p∈x.Queue,p.Data.length<=1100000:=by
 unfold zV at h
 simp only[Tl,Tu,TA] at h
 exact⟨h.1.1,fun p hp=>Dk (h.1.2 p hp)⟩
theorem yq {w:aw} (h:∀ j (h:j<w.Ears.length),oU w.Ears[j] j (w.Ears.length:Int) w.Bar=true):zX w:=fun x hx=>by
 obtain ⟨j,hj,rfl⟩:=Ui hx
 have:=h j hj
 unfold oU at this
 simp only[Tl] at this
 exact eq_of_beq this.1.1.2
theorem Kr (w:aw) (hf:Fit w):Ev w=some (tH w):=by
 unfold Ev KE
 simp only[Ct,JC _ hf.1,Ti]
 by_cases h1:1<=w.Ears.length/\w.Ears.length<=12
 ·have e1:jB (w.Ears.length:Int) 1 12=true:=by unfold jB; simp; omega
  by_cases h2:0<=w.Bar/\w.Bar<=4096
  ·have e2:jB w.Bar 0 4096=true:=by unfold jB; simp; omega
   cases h3:zV w.Net with
   | false=>rw[fM (fun q=>by rw[q.2.2.1] at h3; cases h3),e1,e2]; rfl
   | true=>
    obtain ⟨q1,q2⟩:=vW h3
    have w1:=Fm aB 0 w h1.2 hf.2 (aB+8) 0 (TL _) s0
    rw[show ((0:Nat):Int)=0 from rfl] at w1
    simp only[e1,e2,TF,Tk,Ti,VH,UC,w1]
    by_cases h4:∀ j (h:j<w.Ears.length),oU w.Ears[j] j (w.Ears.length:Int) w.Bar=true
    ·have w2:=Fp aB 0 w (yq h4) h1.2 r7 q2 q1 (aB+8) 0 (TL _) s0
     rw[show ((0:Nat):Int)=0 from rfl,T5] at w2
     rw[Ty (fun j h _=>h4 j h)]
     simp only[w2]
     cases h5:w.Net.Queue.all (Ea w) with
     | false=>rw[fM (fun q=>by rw[q.2.2.2.2] at h5; cases h5)]; rfl
     | true=>rw[vd ⟨h1,h2,h3,h4,h5⟩]; rfl
    ·rw[Tw (fun q=>h4 (fun j h=>q j h (TL _))),fM (fun q=>h4 q.2.2.2.1)]
  ·have e2:jB w.Bar 0 4096=false:=by unfold jB; rw[Vd]; intro q; simp only[Tl,Tu] at q; exact h2 q
   rw[fM (fun q=>h2 q.2.1),e1,e2]; rfl
 ·have e1:jB (w.Ears.length:Int) 1 12=false:=by unfold jB; rw[Vd]; intro q; simp only[Tl,Tu] at q; exact h1 r7
  rw[fM (fun q=>h1 q.1),e1]; rfl
theorem Ks (w:aw) (hf:Fit w):Hl w=some (tH w):=by
 unfold Hl KF
 simp only[Ej,JD _ hf.1,Ti]
 by_cases h1:1<=w.Ears.length/\w.Ears.length<=12
 ·have a1:decide ((w.Ears.length:Int)<1)=false:=by rw[Vf]; omega
  have a2:decide (12<(w.Ears.length:Int))=false:=Tg
  by_cases h2:0<=w.Bar/\w.Bar<=4096
  ·have e2:jB w.Bar 0 4096=true:=by unfold jB; simp; omega
   cases h3:zV w.Net with
   | false=>rw[fM (fun q=>by rw[q.2.2.1] at h3; cases h3),a1,a2,e2]; rfl
   | true=>
    obtain ⟨q1,q2⟩:=vW h3
    have w1:=BK aB w h1.2 hf.2 (aB+8) 0 (TL _) s0
    rw[show ((0:Nat):Int)=0 from rfl] at w1
    simp only[a1,a2,e2,TF,Tk,Ti,VH,UC,w1]
    by_cases h4:∀ j (h:j<w.Ears.length),oU w.Ears[j] j (w.Ears.length:Int) w.Bar=true
    ·have w2:=BM aB w (yq h4) h1.2 r7 q2 q1 (aB+8) 0 (TL _) s0
     rw[show ((0:Nat):Int)=0 from rfl,T5] at w2
     rw[Ty (fun j h _=>h4 j h)]
     simp only[w2]
     cases h5:w.Net.Queue.all (Ea w) with
     | false=>rw[fM (fun q=>by rw[q.2.2.2.2] at h5; cases h5)]; rfl
     | true=>rw[vd ⟨h1,h2,h3,h4,h5⟩]; rfl
    ·rw[Tw (fun q=>h4 (fun j h=>q j h (TL _))),fM (fun q=>h4 q.2.2.2.1)]
  ·have e2:jB w.Bar 0 4096=false:=by unfold jB; rw[Vd]; intro q; simp only[Tl,Tu] at q; exact h2 q
   rw[fM (fun q=>h2 q.2.1),a1,a2,e2]; rfl
 ·rw[fM (fun q=>h1 q.1)]
  by_cases a1:(w.Ears.length:Int)<1
  ·rw[Tq a1]; rfl
  ·rw[Tx a1,Tq r7]; rfl
end
theorem O2:G7=some true:=r8
def vI (n:Int):aq:=.mk 1 n ByteArray.empty []
def vL (l:List Int):aq:=.mk 3 0 ByteArray.empty (l.map vI)
theorem M7:fc 0:=by unfold fc; omega
theorem Jn:fc 1:=by unfold fc; omega
theorem M8:fc 3:=by unfold fc; omega
theorem Gt (n:Int):qH (vI n)=true:=by
 rw[mo]
 show (emp ByteArray.empty&&(((0:Nat):Int)==0))=true
 decide +kernel
theorem yt:∀ l:List Int,jP (l.map vI)=true
 | []=>ot
 | n :: l=>by rw[Um,kD,Gt,yt l]; rfl
theorem Gu (l:List Int):qH (vL l)=true:=by
 rw[mo]
 show (jP (l.map vI)&&(((0:Int)==0)&&emp ByteArray.empty))=true
 rw[yt]; decide +kernel
theorem Gf (n:Int):dep (vI n)=0:=by rw[nr]; rfl
theorem yh:∀ l:List Int,ma (l.map vI)=0
 | []=>mc
 | n :: l=>by rw[Um,kB,Gf,yh l]; rfl
theorem Gb (l:List Int):iq (vL l)=0:=by
 unfold iq
 rw[Gu,nr]
 show (bif true then bif decide (16<ma (l.map vI)+1) then (2:Int) else 0 else 1)=0
 rw[yh]; rfl
theorem GG (n:Int):lP (vI n)=1:=by rw[dY]; show 1+0 / 200+kK []=1; rw[kM]
theorem yC:∀ l:List Int,kK (l.map vI)=l.length
 | []=>kM
 | n :: l=>by rw[Um,jf,GG,yC l,TM]; omega
theorem BR (l:List Int):lP (vL l)=1+l.length:=by rw[dY]; show 1+0 / 200+kK (l.map vI)=_; rw[yC]
theorem JQ {n:Int} (h:fc n):bM (vI n):=(dn _).2 ⟨Jn,h,TL _,TL _,fun _ q=>by cases q⟩
theorem Fy {l:List Int} (h:∀ n∈l,fc n) (hl:l.length<=1000):bM (vL l):=(dn _).2 ⟨M8,M7,TL _,by show (l.map vI).length<=_; rw[Vb]; exact TI hl (by decide),fun z hz=>by
 obtain ⟨n,hn,rfl⟩:=V2.1 hz
 exact JQ (h n hn)⟩
theorem Bf {l:List Int} (h:∀ n∈l,fc n) (hl:l.length<=1000):FQ (vL l)=some (ir (vL l),0)/\Hu (vL l)=some (ir (vL l),0):=by
 have h1:=SB (vL l) (Fy h hl) (by rw[BR]; omega)
 have h2:=SC (vL l) (Fy h hl) (by rw[BR]; omega)
 have e:zt (vL l)=(ir (vL l),0):=by unfold zt; rw[Gb]; rfl
 rw[e] at h1 h2
 exact⟨h1,h2⟩
def A7 (c:bw):List Int:=[1,c.No,c.Role,c.Bar,c.Program]
def tI (c:bw):List UInt8:=ir (vL (A7 c))
theorem ye {c:bw} (h:iD c):∀ n∈A7 c,fc n:=by
 obtain ⟨h1,h2,h3,h4⟩:=h
 intro n hn
 simp only[A7,Ud,Vk,or_false] at hn
 rcases hn with rfl | rfl | rfl | rfl | rfl
 ·exact Jn
 all_goals assumption
theorem oQ (l:List aq) (x:aq) (h:l.length<=1000):c7 56 l [x]=some (l++[x]):=gR _ _ _ S7
theorem Gy (n:Nat) (m:aP) (z1 z2:Int) (z3:ByteArray) (k:Nat):dD n 5 m z1 z2 z3 (k+6) 0 []=some ([m.kind,m.cue.No,m.cue.Role,m.cue.Bar,m.cue.Program].map vI):=by
 rw[dD]
 simp only[Int.reduceEq,Int.reduceLT,UE,UG,Tn,Tk,Ti,q1]
 rw[oQ _ _ r9,Ti,dD]
 simp only[Int.reduceEq,Int.reduceLT,UE,UG,Tn,Tk,Ti,q2]
 rw[oQ _ _ r9,Ti,dD]
 simp only[Int.reduceEq,Int.reduceLT,UE,UG,Tn,Tk,Ti,q3]
 rw[oQ _ _ r9,Ti,dD]
 simp only[Int.reduceEq,Int.reduceLT,UE,UG,Tn,Tk,Ti,q4]
 rw[oQ _ _ r9,Ti,dD]
 simp only[Int.reduceEq,Int.reduceLT,UE,UG,Tn,Tk,Ti,q5]
 rw[oQ _ _ r9,Ti,dD]
 rfl
theorem Ku {c:bw} (h:iD c):HQ ⟨1,c,⟨0,0,0⟩⟩=some (tI c):=by
 unfold HQ KM
 have hw:=Gy aB ⟨1,c,⟨0,0,0⟩⟩ 3 0 ByteArray.empty (aB+2)
 rw[show aB+2+6=aB+8 from rfl] at hw
 simp only[UN,Tn,hw,Ti]
 rw[show (aq.mk 3 0 ByteArray.empty ([1,c.No,c.Role,c.Bar,c.Program].map vI))=vL (A7 c) from rfl,(Bf (ye h) (TR rfl)).1]
 rfl
theorem BI (n:Nat) (l:List Int) (z1 z2:Int) (z3:ByteArray) (hl:l.length<=1000):∀ (m i:Nat),i<=l.length->l.length - i<m ->
  kq n l z1 z2 z3 m (i:Int) ((l.take i).map vI)=some (l.map vI)
 | 0,i,_,h=>absurd h (Ua _)
 | m+1,i,hi,h=>by
  rw[kq]
  by_cases hlt:i<l.length
  ·rw[show decide ((i:Int)<(l.length:Int))=true by simpa using hlt,Tn,bE,Tj hlt,Ti,show Li l[i]=some (vI l[i]) from rfl,Ti,oQ _ _ so,Ti,sX r7,show (l.take i).map vI++[vI l[i]]=(l.take (i+1)).map vI by rw[List.take_add_one,List.map_append,Tj hlt]; rfl]
   exact BI n l z1 z2 z3 hl m (i+1) r7 r7
  ·rw[show decide ((i:Int)<(l.length:Int))=false by simpa using hlt,Tk,Uo r7]
theorem Ph (l:List Int) (hl:l.length<=1000):HY l=some (vL l):=by
 unfold HY K5
 have hw:=BI aB l 3 0 ByteArray.empty hl (aB+8) 0 (TL _) s0
 rw[show ((0:Nat):Int)=0 from rfl,WC,VV] at hw
 rw[hw]; rfl
theorem Pc {c:bw} (h:iD c):HS c=some (tI c):=by
 unfold HS KP
 rw[Ph _ (TR rfl),Ti,show vL ([1,c.No,c.Role,c.Bar,c.Program])=vL (A7 c) from rfl,(Bf (ye h) (TR rfl)).2]
 rfl
def zW:aw:=⟨⟨[],[]⟩,[],0⟩
noncomputable def sV (w:aw) (c:bw):aw×Int:=
 bif tH w != 0 then (zW,tH w) else bif !fF c (w.Ears.length:Int) then (zW,1) else
 bif (kQ w.Net ⟨0,wr .i64 (c.Role+1),tI c⟩).2 != 0 then (zW,(kQ w.Net ⟨0,wr .i64 (c.Role+1),tI c⟩).2) else (⟨(kQ w.Net ⟨0,wr .i64 (c.Role+1),tI c⟩).1,w.Ears,w.Bar⟩,0)
theorem S3 (w:aw) (c:bw) (hf:Fit w) (hq:w.Net.Queue.length<=4095) (hc:iD c):G9 w c=some (sV w c):=by
 unfold G9 F9 sV
 simp only[Kr w hf,Hf,Ku hc,N3 _ _ hq hf.1,Ti]
 cases tH w != 0<;>cases fF c (w.Ears.length:Int)<;>cases (kQ w.Net ⟨0,wr .i64 (c.Role+1),tI c⟩).2 != 0<;>rfl
theorem O8 (w:aw) (c:bw) (hf:Fit w) (hq:w.Net.Queue.length<=4095) (hc:iD c):HL w c=some (sV w c):=by
 unfold HL KB sV
 simp only[Ks w hf,Hg,Pc hc,N4 _ _ hq hf.1,Ti]
 cases tH w != 0<;>cases fF c (w.Ears.length:Int)<;>cases (kQ w.Net ⟨0,wr .i64 (c.Role+1),tI c⟩).2 != 0<;>rfl
theorem BH (n:Nat) (l:List Int) (hl:l.length<=4611686018427387904):∀ (m i:Nat),i<=l.length->l.length - i<m->km n l l m (i:Int)=some (.inr ())
 | 0,i,_,h=>absurd h (Ua _)
 | m+1,i,hi,h=>by
  rw[km]
  by_cases hlt:i<l.length
  ·rw[show decide ((i:Int)<(l.length:Int))=true by simpa using hlt,Tn,bE,Tj hlt,Ti,Ti,UC,Tk,sX r7]
   exact BH n l hl m (i+1) r7 r7
  ·rw[show decide ((i:Int)<(l.length:Int))=false by simpa using hlt]; rfl
theorem FK (l:List Int) (hl:l.length<=4611686018427387904):Hr l l=some true:=by
 unfold Hr K0
 have hw:=BH aB l hl (aB+8) 0 (TL _) s0
 rw[show ((0:Nat):Int)=0 from rfl] at hw
 rw[UC,Tk,hw]; rfl
def FM (l:List bH):Prop:=l.length<=4611686018427387904/\∀ x∈l,x.Cues.length<=4611686018427387904/\x.Got.length<=4611686018427387904/\x.Did.length<=4611686018427387904
theorem yA (n:Nat) (l:List bH) (j:Nat) (hj:j<l.length) (hl:l[j].Cues.length<=4611686018427387904):∀ (m i:Nat),i<=l[j].Cues.length->l[j].Cues.length - i<m->ka n l l (j:Int) m (i:Int)=some (.inr ())
 | 0,i,_,h=>absurd h (Ua _)
 | m+1,i,hi,h=>by
  rw[ka,bE,Tj hj,Ti]
  by_cases hlt:i<l[j].Cues.length
  ·rw[show decide ((i:Int)<(l[j].Cues.length:Int))=true by simpa using hlt]
   simp only[Tn,bE,Tj hj,Tj hlt,Ti,sX (by omega:i<=4611686018427387904),UN,UA,TF,Tk]
   exact yA n l j hj hl m (i+1) r7 r7
  ·rw[show decide ((i:Int)<(l[j].Cues.length:Int))=false by simpa using hlt]; rfl
theorem yz (n:Nat) (l:List bH) (hl:FM l) (hn:4611686018427387904<n):∀ (m i:Nat),i<=l.length->l.length - i<m->j0 n l l m (i:Int)=some (.inr ())
 | 0,i,_,h=>absurd h (Ua _)
 | m+1,i,hi,h=>by
  have hll:=hl.1
  rw[j0]
  by_cases hlt:i<l.length
  ·obtain ⟨a1,a2,a3⟩:=hl.2 _ (Ub hlt)
   have hw:=yA n l i hlt a1 (n+8) 0 (TL _) r7
   rw[show ((0:Nat):Int)=0 from rfl] at hw
   rw[show decide ((i:Int)<(l.length:Int))=true by simpa using hlt,Tn,bE,Tj hlt]
   simp only[Ti,UC,Tk,FK _ a2,FK _ a3,TF,hw]
   rw[sX r7]
   exact yz n l hl hn m (i+1) r7 r7
  ·rw[show decide ((i:Int)<(l.length:Int))=false by simpa using hlt]; rfl
theorem Kt (l:List bH) (hl:FM l):CI l l=some true:=by
 unfold CI KI
 have hw:=yz aB l hl s0 (aB+8) 0 (TL _) (by rw[fu]; have:=hl.1; omega)
 rw[show ((0:Nat):Int)=0 from rfl] at hw
 rw[UC,Tk,hw]; rfl
def z7 (w:aw):Prop:=FM w.Ears/\w.Net.Queue.length<=4611686018427387904/\w.Net.Apart.length<=4611686018427387904
theorem FJ (w:aw) (h:z7 w):Hm w w=some true:=by
 unfold Hm KG
 rw[UN,Tn,Kt _ h.1,JE _ h.2.1 h.2.2]; rfl
theorem tX:z7 zW:=⟨⟨TL _,fun _ h=>by cases h⟩,TL _,TL _⟩
def yZ (w:aw):Prop:=w.Net.Queue.length<=40/\w.Net.Apart.length<=40/\w.Ears.length<=20/\∀ x∈w.Ears,x.Cues.length<=40/\x.Got.length<=5000/\x.Did.length<=5000
theorem Fk (n:Nat) (z:Bool) (w:aw) (hl:w.Ears.length<=4611686018427387904):∀ (m i:Nat),i<=w.Ears.length->w.Ears.length - i<m ->
  nd n z w m (i:Int)=some (.inl false)∨(nd n z w m (i:Int)=some (.inr ())/\∀ x∈w.Ears.drop i,x.Cues.length<=40/\x.Got.length<=5000/\x.Did.length<=5000)
 | 0,i,_,h=>absurd h (Ua _)
 | m+1,i,hi,h=>by
  rw[nd]
  by_cases hlt:i<w.Ears.length
  ·rw[show decide ((i:Int)<(w.Ears.length:Int))=true by simpa using hlt,Tn,bE,Tj hlt,Ti,sX r7,TB hlt]
   have ih:=Fk n z w hl m (i+1) r7 r7
   generalize w.Ears[i]=x
   by_cases c1:x.Cues.length<=40
   ·by_cases c2:x.Got.length<=5000
    ·by_cases c3:x.Did.length<=5000
     ·have d1:decide ((40:Int)<(x.Cues.length:Int))=false:=by rw[Vf]; omega
      have d2:decide ((5000:Int)<(x.Got.length:Int))=false:=Tg
      have d3:decide ((5000:Int)<(x.Did.length:Int))=false:=Tg
      simp only[d1,d2,d3,Tk]
      cases decide ((60:Int)<(x.Got.length:Int)) with
      | false=>
       simp only[Tk,Ti]
       rcases ih with h' | ⟨h',hx⟩
       ·exact .inl h'
       ·refine .inr ⟨h',fun y hy=>?_⟩
        rcases Ud.1 hy with rfl | hy
        ·exact⟨c1,c2,c3⟩
        ·exact hx y hy
      | true=>
       simp only[Tn,Ti]
       cases decide ((x.Got.length:Int)<4094) with
       | true=>exact .inl rfl
       | false=>
        simp only[Tk,Ti]
        rcases ih with h' | ⟨h',hx⟩
        ·exact .inl h'
        ·refine .inr ⟨h',fun y hy=>?_⟩
         rcases Ud.1 hy with rfl | hy
         ·exact⟨c1,c2,c3⟩
         ·exact hx y hy
     ·have d3:decide ((5000:Int)<(x.Did.length:Int))=true:=by rw[VD]; omega
      rw[d3]
      cases decide ((40:Int)<(x.Cues.length:Int))<;>cases decide ((60:Int)<(x.Got.length:Int))<;>cases decide ((x.Got.length:Int)<4094)<;>cases decide ((5000:Int)<(x.Got.length:Int))<;>exact .inl rfl
    ·have d2:decide ((5000:Int)<(x.Got.length:Int))=true:=by rw[VD]; omega
     rw[d2]
     cases decide ((40:Int)<(x.Cues.length:Int))<;>cases decide ((60:Int)<(x.Got.length:Int))<;>cases decide ((x.Got.length:Int)<4094)<;>exact .inl rfl
   ·have d1:decide ((40:Int)<(x.Cues.length:Int))=true:=by rw[VD]; omega
    rw[d1]
    exact .inl rfl
  ·rw[show decide ((i:Int)<(w.Ears.length:Int))=false by simpa using hlt,Tk,TS.2 r7]
   exact .inr ⟨rfl,fun _ q=>by cases q⟩
theorem S2 (w:aw):G8 w=some false∨(G8 w=some true/\yZ w):=by
 unfold G8 F8
 rw[N2,Ti]
 by_cases h1:w.Net.Queue.length<=40
 ·by_cases h2:w.Net.Apart.length<=40
  ·by_cases h3:w.Ears.length<=20
   ·have d3:decide ((20:Int)<(w.Ears.length:Int))=false:=by rw[Vf]; omega
    have hw:=Fk aB false w r7 (aB+8) 0 (TL _) s0
    rw[show ((0:Nat):Int)=0 from rfl,T5] at hw
    rw[Tq h1,Tq h2,d3]
    simp only[Vx,TF,Tk,Ti]
    rcases hw with hw | ⟨hw,hx⟩
    ·rw[hw]; exact .inl rfl
    ·rw[hw]; exact .inr ⟨rfl,h1,h2,h3,hx⟩
   ·have d3:decide ((20:Int)<(w.Ears.length:Int))=true:=by rw[VD]; omega
    rw[d3]
    cases (decide (w.Net.Queue.length<=40)&&decide (w.Net.Apart.length<=40))<;>exact .inl rfl
  ·rw[Tx h2,Bool.and_false]; exact .inl rfl
 ·rw[Tx h1]; exact .inl rfl
theorem yZ.fit {w:aw} (h:yZ w):Fit w:=⟨by have:=h.2.1; omega,fun x hx=>by have:=h.2.2.2 x hx; omega⟩
theorem yZ.MY {w:aw} (h:yZ w):z7 w:=⟨⟨by have:=h.2.2.1; omega,fun x hx=>by have:=h.2.2.2 x hx; omega⟩,by have:=h.1; omega,by have:=h.2.1; omega⟩
theorem zO {w:aw} (h:yZ w) (c:bw):z7 (sV w c).1:=by
 have hs:=zN w.Net ⟨0,wr .i64 (c.Role+1),tI c⟩ (by have:=h.1; omega) (by have:=h.2.1; omega)
 unfold sV
 generalize kQ w.Net ⟨0,wr .i64 (c.Role+1),tI c⟩=s at *
 cases tH w != 0
 ·cases fF c (w.Ears.length:Int)
  ·exact tX
  ·cases s.2 != 0
   ·exact⟨h.MY.1,hs.1,hs.2⟩
   ·exact tX
 ·exact tX
theorem Jz {n:Int} (h1:1<=n) (h2:n<=12):HE 72 n (bH.mk [] [] [])=some (List.replicate n.toNat (bH.mk [] [] [])):=by
 unfold HE
 rw[Fi,Tq r7,Tq r7,Tq r7]; rfl
def zH (n:Int):aw×Int:=if 1<=n/\n<=12 then (⟨⟨[],[]⟩,List.replicate n.toNat (bH.mk [] [] []),0⟩,0) else (zW,1)
theorem O9 (n:Int):Eu n=some (zH n):=by
 unfold Eu KC zH
 rw[Ct,Ti]
 by_cases h:1<=n/\n<=12
 ·rw[Ty h,show jB n 1 12=true by unfold jB; simp[h.1,h.2],Jz h.1 h.2]; rfl
 ·rw[Tw h,show jB n 1 12=false by unfold jB; rw[Vd]; intro q; simp only[Tl,Tu] at q; exact h q]; rfl
theorem Pa (n:Int):HM n=some (zH n):=by
 unfold HM KD zH
 by_cases h:1<=n/\n<=12
 ·rw[Ty h,Tx r7,Tx r7,Jz h.1 h.2]; rfl
 ·rw[Tw h]
  by_cases h1:n<1
  ·rw[Tq h1]; rfl
  ·rw[Tx h1,Tq r7]; rfl
theorem BQ (n:Int):z7 (zH n).1:=by
 unfold zH
 split
 ·refine⟨⟨so,fun x hx=>?_⟩,TL _,TL _⟩
  rw[(Vn.1 hx).2]
  exact⟨TL _,TL _,TL _⟩
 ·exact tX
theorem JX:EY:=by
 intro n w c hn hw hc
 unfold G3 F3
 rw[O2,Ti]
 simp only[TF,Tk]
 rcases S2 w with h8 | ⟨h8,hf⟩
 ·rw[h8]; rfl
 ·have hq:w.Net.Queue.length<=4095:=by have:=hf.1; omega
  rw[h8,S3 w c hf.fit hq hc,O8 w c hf.fit hq hc,O9,Pa,Kr w hf.fit,Ks w hf.fit]
  simp only[Ti,TF,Tk,UN,Tn,FJ _ (zO hf c),FJ _ (BQ n)]
section
open Go.RowKit Go.Deep
theorem own:ownKnob Try.prog.godebug=none:=r8
theorem laidOut:laidOutB Try.prog=true:=r8
end
section
open Go.RowKit Go.ChangeShapes Go.WideShapes Go.ChangeAt Go.Deep
theorem po (os:Os) (started:os.Started) (H:Type) (enc:TypeId×Value->H) :
  ReturnsInHanded {} Try.checked os 3 .any (Rows.wiresSpecSpec.pre6 enc Try.prog Try.f3 Rows.wiresSpecRow.domain false) (Rows.wiresSpecSpec.post enc Try.prog Try.f3 false true false false):=by
 refine returnsInHanded_of_change (C:=Try.checked) own started r8 Try.func3
  (ChangeSpec.witness6 (enc:=enc) (C:=Try.checked) false ⟨#[],#[.int .i64 0,.agg #[.slice none 0 0,.slice none 0 0,.slice none 0 0,.int .i64 0],.agg #[.int .i64 0,.int .i64 0,.int .i64 0,.int .i64 0]],[]⟩ 8 r8 r8 r8 r8) ?_
 intro W base args ds gs before hval hW _ _
 exact uk rfl rfl Try.underlying4 laidOut r8 (fun ds h=>(by match ds,h with | [_,_,_],_=>rfl)) W base args ds gs before hval hW (fun hg=>Kw JX W base args hg (fun G vs h=>by cases h))
theorem wiresSpec_holds:Rows.WiresSpecSaid:=
 OpenClaim.holds_of_wide 3 Try.f3 rfl rfl rfl rfl rfl rfl rfl ⟨rfl,rfl,rfl,rfl,rfl⟩ rfl rfl rfl rfl rfl r8 Try.func3 r8
  (Tv r8) (by unfold Func.isWrapper; first | (rw[Ty (by decide +kernel)]; kernel_rfl) | (rw[Tw (by decide +kernel)]; exact⟨rfl,rfl⟩))
  (fun os started H enc _=>po os started H enc)
#print axioms wiresSpec_holds
end
end Go.Proofs.Ytebkhfhcipnfgaa
