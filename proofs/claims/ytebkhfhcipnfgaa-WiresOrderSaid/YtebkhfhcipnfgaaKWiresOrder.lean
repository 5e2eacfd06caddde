/-
 WiresOrder: the statement holds.
-/
import Derived.Test.YtebkhfhcipnfgaaTb2
import Derived.Test.YtebkhfhcipnfgaaChecked
import Derived.Test.YtebkhfhcipnfgaaRows
namespace Go.Proofs.Ytebkhfhcipnfgaa
set_option linter.unusedVariables false
set_option linter.unusedSimpArgs false
set_option maxHeartbeats 4000000
set_option maxRecDepth 100000
set_option linter.defProp false
theorem s5 {p:Prop} (h:p:=by rw[fu]; omega):p:=h
theorem Sr {p:Prop} (h:p:=by rw[IB]; simp; omega):p:=h
theorem Su {p:Prop} (h:p:=by rw[List.length_cons]; omega):p:=h
def TC:=@bne_self_eq_false
def TH:=@decide_eq_false_iff_not
def Uw:=@BitVec.toNat_ofInt
def UA:=@List.forall_mem_cons
def UK:=@Int.fdiv_eq_ediv_of_nonneg
def U0:=@decide_eq_true_iff
def Va:=@List.not_mem_nil
def Vc:=@Int.tmod_eq_emod_of_nonneg
def Vr:=@List.cons.inj
def VD:=@Nat.pow_le_pow_right
def VG:=@List.takeWhile_cons
def VH:=@List.dropWhile_cons
def VN:=@Nat.mul_assoc
def VQ:=@UInt8.ofNat_toNat
def Wc:=@Int.le_refl
def Wi:=@Nat.mul_le_mul
def Wn:=@List.any_cons
def Wt:=@ByteArray.toList_eq
def Wx:=@Nat.pow_succ
def Wz:=@Nat.pow_add
section
open Go.Proofs.Try (prog)
theorem yC:eT ak:=fun x y h=>by
 unfold ak at h
 simp only[TA,A.v.injEq,T5,T6,T0,U2,UJ] at h
 have h3:=rL x y (by simp[h])
 obtain ⟨xKind,xN,xS,lx⟩:=x; obtain ⟨yKind,yN,yS,ly⟩:=y
 simp_all
theorem dX:eT af:=fun x y h=>by
 obtain ⟨xFrom,xTo,xData⟩:=x; obtain ⟨yFrom,yTo,yData⟩:=y
 simp only[af,TA,A.v.injEq,A.imm.injEq,T5,T6,T0,U2,UJ,map_inj (nD)] at h
 simp_all
theorem ee:eT ai:=fun x y h=>by
 obtain ⟨x0_,x1_⟩:=x; obtain ⟨y0_,y1_⟩:=y
 simp only[ai,TA,A.v.injEq,A.imm.injEq,T5,T6,T0,U2,UJ] at h
 simp_all
theorem iC:eT bO:=fun x y h=>by
 obtain ⟨xQueue,xApart⟩:=x; obtain ⟨yQueue,yApart⟩:=y
 simp only[bO,TA,A.v.injEq,A.imm.injEq,T5,T6,T0,U2,UJ,map_inj (dX),map_inj (nD),map_inj (ee)] at h
 simp_all
theorem kI:eT au:=fun x y h=>by
 obtain ⟨xNo,xRole,xBar,xProgram⟩:=x; obtain ⟨yNo,yRole,yBar,yProgram⟩:=y
 simp only[au,TA,A.v.injEq,A.imm.injEq,T5,T6,T0,U2,UJ] at h
 simp_all
theorem oZ:eT av:=fun x y h=>by
 obtain ⟨xCues,xGot,xDid⟩:=x; obtain ⟨yCues,yGot,yDid⟩:=y
 simp only[av,TA,A.v.injEq,A.imm.injEq,T5,T6,T0,U2,UJ,map_inj (kI),map_inj (tX .i64)] at h
 simp_all
theorem eH:eT aa:=fun x y h=>by
 obtain ⟨⟨xNetQueue,xNetApart⟩,xEars,xBar⟩:=x; obtain ⟨⟨yNetQueue,yNetApart⟩,yEars,yBar⟩:=y
 simp only[aa,TA,A.v.injEq,A.imm.injEq,T5,T6,T0,U2,UJ,map_inj (dX),map_inj (nD),map_inj (ee),map_inj (oZ),map_inj (kI),map_inj (tX .i64)] at h
 simp_all
theorem n4:eT aj:=fun x y h=>by
 obtain ⟨xkind,⟨xcueNo,xcueRole,xcueBar,xcueProgram⟩,⟨xreportRole,xreportBar,xreportProgram⟩⟩:=x; obtain ⟨ykind,⟨ycueNo,ycueRole,ycueBar,ycueProgram⟩,⟨yreportRole,yreportBar,yreportProgram⟩⟩:=y
 simp only[aj,TA,A.v.injEq,A.imm.injEq,T5,T6,T0,U2,UJ] at h
 simp_all
theorem cZ {T:Type} {c:T->List A} (h:eT c):eT (fun x=>A.agg (c x)):=fun x y e=>h x y (A.agg.inj e)
theorem kJ {T:Type} {f:T->List A} (h:eT f):eT (fun l:List T=>A.imm (l.map f) false):=fun x y e=>(map_inj h x y).1 (A.imm.inj e).1
theorem fx (k:IntKind):eT (fun n=>A.v (.int k n)):=fun x y e=>by simpa using e
theorem dH {X:Type} {f:X->A} (hf:eT f):eT (fun x=>[f x]):=fun x y e=>hf x y (Vr e).1
theorem iD {X Y:Type} {f:X->A} {g:Y->List A} (hf:eT f) (hg:eT g):eT (fun x:X×Y=>f x.1 :: g x.2):=fun x y e=>Prod.ext (hf _ _ (Vr e).1) (hg _ _ (Vr e).2)
theorem eI:eT ae:=fun x y h=>yC x y (by rw[cM,cM]; exact h)
noncomputable def C0:Nat->List A->Option A:=fun _ _=>none
def bJ (C:Nat->List A->Option A):Prop:=∀ (k:Nat) (args:List A) (r:A),C k args=some r->eh prog (cx C0).glob k args r
theorem Oh:bJ C0:=fun k args r h=>(by cases h)
theorem fK {C:Nat->List A->Option A} {k:Nat} {c:List A->Option A} (h:bJ C) (hc:∀ args r,c args=some r->eh prog (cx C0).glob k args r):bJ (gO C k c):=fun j args r hr=>by
 simp only[gO] at hr
 rw[bp] at hr
 split at hr
 ·rename_i hj
  rw[SM hj]; exact hc args r hr
 ·exact h j args r hr
theorem He {C:Nat->List A->Option A} (hC:bJ C) (N k:Nat) (args:List A) (r:A) (h:MV C N k args=some r):eh prog (cx C0).glob k args r:=by
 unfold MV at h
 split at h
 ·rename_i x H he
  cases h
  exact oH (cx:=cx C) (fun k args r _ h=>hC k args r h) r7 he
 ·cases h
theorem B5:∀ m,bJ (Cn m)
 | 0=>fun k args r h=>(by cases h)
 | m+1=>fun k args r h=>He (B5 m) 1000 k args r h
theorem cE {X Y:Type} {C:Nat->List A->Option A} {k:Nat} {x:X->List A} {G:X->Option Y} {f:Y->A} (hC:bJ C) (h:∀ a,J (fun (o:R) y=>∃ v,o.1=.ret v/\br o.2 v=f y) (aB (cx C) (dx (cx C) (az+8)) (bo (cx C) (az+8)) (az+8) k (x a) [] 0) some (G a) some):bJ (gO C k fun args=>bD x (fun a=>(G a).map f) args):=fK hC fun args r h'=>by
 obtain ⟨a,y,rfl,hy,rfl⟩:=dq h'
 exact yO (cx:=cx C) (fun k args r _ h=>hC k args r h) r7 (h a) hy
def Qb (x:Int×Int×Int):List A:=[(iA x.1),(iA x.2.1),(iA x.2.2)]
theorem Nu:eT Qb:=iD (fx .i64) (iD (fx .i64) (dH (fx .i64)))
noncomputable def Pt (args:List A):Option A:=bD Qb (fun x=>(zj x.1 x.2.1 x.2.2).map fun y=>(bA y)) args
noncomputable def C1:Nat->List A->Option A:=gO C0 30 Pt
theorem HM:bJ C1:=cE Oh fun x=>QF C0 az  x.1 x.2.1 x.2.2
def FB (x:Unit):List A:=[]
theorem Nv:eT FB:=fun _ _ _=>rfl
noncomputable def Pu (args:List A):Option A:=bD FB (fun x=>(MB ).map fun y=>(A.agg [(A.imm (List.map af y.Queue) false),(A.imm (List.map ai y.Apart) false)])) args
noncomputable def C2:Nat->List A->Option A:=gO C1 31 Pu
theorem HN:bJ C2:=cE HM fun x=>QG C1 az
def qq (x:Int):List A:=[(iA x)]
theorem Nh:eT qq:=dH (fx .i64)
noncomputable def Pj (args:List A):Option A:=bD qq (fun x=>(IK x).map fun y=>(A.tup [(A.agg (aa y.1)),(iA y.2)])) args
theorem Fm {C:Nat->List A->Option A} (h:∀ a,C 30 a=Pt a):qH C:=fun a0 a1 a2=>(h _).trans (aL _ Nu (a0,a1,a2))
theorem Ov {C:Nat->List A->Option A} (h:∀ a,C 31 a=Pu a):FO C:=fun _=>(h _).trans (aL _ Nv ())
noncomputable def C3:Nat->List A->Option A:=gO C2 11 Pj
theorem HO:bJ C3:=cE HN fun x=>Qv C2 az (Fm fun _=>r7) (Ov fun _=>r7) x
def Qo (x:Int×Int):List A:=[(iA x.1),(iA x.2)]
theorem NN:eT Qo:=iD (fx .i64) (dH (fx .i64))
noncomputable def PK (args:List A):Option A:=bD Qo (fun x=>(IZ x.1 x.2).map fun y=>(A.agg [(iA y.1),(iA y.2)])) args
noncomputable def C4:Nat->List A->Option A:=gO C3 72 PK
theorem HP:bJ C4:=cE HO fun x=>QX C3 az  x.1 x.2
def Qj (x:(Int×Int)):List A:=[(A.agg (ai x))]
theorem NI:eT Qj:=dH (cZ (ee))
noncomputable def PF (args:List A):Option A:=bD Qj (fun x=>(Ir x).map fun y=>(bA y)) args
noncomputable def C5:Nat->List A->Option A:=gO C4 64 PF
theorem HQ:bJ C5:=cE HP fun x=>QS C4 az  x
def FC (x:aw):List A:=[(A.agg (af x))]
theorem NF:eT FC:=dH (cZ (dX))
noncomputable def LB (args:List A):Option A:=bD FC (fun x=>(Iq x).map fun y=>(bA y)) args
theorem KE {C:Nat->List A->Option A} (h:∀ a,C 64 a=PF a):zp C:=fun a0=>(h _).trans (aL _ NI a0)
theorem KF {C:Nat->List A->Option A} (h:∀ a,C 72 a=PK a):Bv C:=fun a0 a1=>(h _).trans (aL _ NN (a0,a1))
noncomputable def C6:Nat->List A->Option A:=gO C5 56 LB
theorem HR:bJ C6:=cE HQ fun x=>QP C5 az (KE fun _=>r7) (KF fun _=>r7) x
def Qi (x:aw):List A:=[(A.agg (af x))]
theorem NH:eT Qi:=dH (cZ (dX))
noncomputable def PE (args:List A):Option A:=bD Qi (fun x=>(IU x).map fun y=>(bA y)) args
theorem KD {C:Nat->List A->Option A} (h:∀ a,C 56 a=LB a):Br C:=fun a0=>(h _).trans (aL _ NF a0)
noncomputable def C7:Nat->List A->Option A:=gO C6 63 PE
theorem HS:bJ C7:=cE HR fun x=>QR C6 az (KD fun _=>r7) x
def zg (x:(List aw)):List A:=[(A.imm (List.map af x) false),(A.fn (Fn.func 63) [] [])]
theorem Ew:eT zg:=fun x y h=>by
 simp only[zg,Ng,map_inj (dX),map_inj (nD)] at h
 exact h
noncomputable def Dg (args:List A):Option A:=bD zg (fun x=>(uC x).map fun y=>(iA y)) args
theorem OD {C:Nat->List A->Option A} (h:∀ a,C 63 a=PE a):Bt C:=fun a0=>(h _).trans (aL _ NH a0)
noncomputable def C8:Nat->List A->Option A:=gO C7 88 Dg
theorem HT:bJ C8:=cE HS fun x=>GZ C7 az (OD fun _=>r7) x
def zf (x:(List aw)):List A:=[(A.imm (List.map af x) false),(A.fn (Fn.func 63) [] [])]
theorem Ev:eT zf:=fun x y h=>by
 simp only[zf,Ng,map_inj (dX),map_inj (nD)] at h
 exact h
noncomputable def Df (args:List A):Option A:=bD zf (fun x=>(qE x).map fun y=>(bA y)) args
theorem Fq {C:Nat->List A->Option A} (h:∀ a,C 88 a=Dg a):vW C:=fun a0=>(h _).trans (aL _ Ew a0)
noncomputable def C9:Nat->List A->Option A:=gO C8 62 Df
theorem HU:bJ C9:=cE HT fun x=>GY C8 az (Fq fun _=>r7) x
def KX (x:Int):List A:=[(iA x)]
theorem JR:eT KX:=dH (fx .i64)
noncomputable def Kd (args:List A):Option A:=bD KX (fun x=>(vS x).map fun y=>(bA y)) args
noncomputable def LJ:Nat->List A->Option A:=gO C9 106 Kd
theorem EG:bJ LJ:=cE HU fun x=>MJ C9 az  x
def DW (x:aM):List A:=[(A.agg (bO x))]
theorem Nw:eT DW:=dH (cZ (iC))
noncomputable def Pv (args:List A):Option A:=bD DW (fun x=>(GR x).map fun y=>(iA y)) args
theorem Ky {C:Nat->List A->Option A} (h:∀ a,C 106 a=Kd a):uD C:=fun a0=>(h _).trans (aL _ JR a0)
theorem Fp {C:Nat->List A->Option A} (h:∀ a,C 62 a=Df a):vV C:=fun a0=>(h _).trans (aL _ Ev a0)
noncomputable def LK:Nat->List A->Option A:=gO LJ 33 Pv
theorem EH:bJ LK:=cE EG fun x=>QH LJ az (Ky fun _=>r7) (Fp fun _=>r7) (KE fun _=>r7) x
def P8 (x:aO×Int):List A:=[(A.agg (au x.1)),(iA x.2)]
theorem Nr:eT P8:=iD (cZ (kI)) (dH (fx .i64))
noncomputable def LA (args:List A):Option A:=bD P8 (fun x=>(GQ x.1 x.2).map fun y=>(bA y)) args
noncomputable def LL:Nat->List A->Option A:=gO LK 24 LA
theorem EI:bJ LL:=cE EH fun x=>QC LK az (Fm fun _=>r7) x.1 x.2
def Qc (x:aP×Int×Int×Int):List A:=[(A.agg (av x.1)),(iA x.2.1),(iA x.2.2.1),(iA x.2.2.2)]
theorem Nx:eT Qc:=iD (cZ (oZ)) (iD (fx .i64) (iD (fx .i64) (dH (fx .i64))))
noncomputable def Pw (args:List A):Option A:=bD Qc (fun x=>(IM x.1 x.2.1 x.2.2.1 x.2.2.2).map fun y=>(bA y)) args
theorem Ic {C:Nat->List A->Option A} (h:∀ a,C 24 a=LA a):tr C:=fun a0 a1=>(h _).trans (aL _ Nr (a0,a1))
noncomputable def LM:Nat->List A->Option A:=gO LL 34 Pw
theorem EJ:bJ LM:=cE EI fun x=>QI LL az (Ic fun _=>r7) (Fm fun _=>r7) x.1 x.2.1 x.2.2.1 x.2.2.2
def KY (x:Int):List A:=[(A.v (.int .u64 x))]
theorem JS:eT KY:=dH (fx .u64)
noncomputable def Ke (args:List A):Option A:=bD KY (fun x=>(Be x).map fun y=>(iA y)) args
noncomputable def LN:Nat->List A->Option A:=gO LM 108 Ke
theorem EK:bJ LN:=cE EJ fun x=>MK LM az  x
def Qk (x:(List UInt8)):List A:=[(A.imm (List.map c8 x) false)]
theorem NJ:eT Qk:=dH (kJ (nD))
noncomputable def PG (args:List A):Option A:=bD Qk (fun x=>(IV x).map fun y=>(A.tup [(A.agg (ae y.1)),(iA y.2)])) args
theorem Kz {C:Nat->List A->Option A} (h:∀ a,C 108 a=Ke a):uE C:=fun a0=>(h _).trans (aL _ JS a0)
noncomputable def LO:Nat->List A->Option A:=gO LN 66 PG
theorem EL:bJ LO:=cE EK fun x=>QT LN az (Kz fun _=>r7) x
def Qd (x:(List UInt8)):List A:=[(A.imm (List.map c8 x) false)]
theorem Ny:eT Qd:=dH (kJ (nD))
noncomputable def Px (args:List A):Option A:=bD Qd (fun x=>(Il x).map fun y=>(A.tup [(A.agg (aj y.1)),(bA y.2)])) args
theorem OE {C:Nat->List A->Option A} (h:∀ a,C 66 a=PG a):FU C:=fun a0=>(h _).trans (aL _ NJ a0)
noncomputable def LP:Nat->List A->Option A:=gO LO 35 Px
theorem EM:bJ LP:=cE EL fun x=>QJ LO az (OE fun _=>r7) x
def P5 (x:aq):List A:=[(A.agg (aa x))]
theorem Ni:eT P5:=dH (cZ (eH))
noncomputable def Pk (args:List A):Option A:=bD P5 (fun x=>(D2 x).map fun y=>(iA y)) args
theorem Ie {C:Nat->List A->Option A} (h:∀ a,C 33 a=Pv a):zl C:=fun a0=>(h _).trans (aL _ Nw a0)
theorem Ow {C:Nat->List A->Option A} (h:∀ a,C 34 a=Pw a):Bo C:=fun a0 a1 a2 a3=>(h _).trans (aL _ Nx (a0,a1,a2,a3))
theorem KC {C:Nat->List A->Option A} (h:∀ a,C 35 a=Px a):zo C:=fun a0=>(h _).trans (aL _ Ny a0)
noncomputable def LQ:Nat->List A->Option A:=gO LP 13 Pk
theorem zV:bJ LQ:=cE EM fun x=>Qw LP az (Ic fun _=>r7) (Fm fun _=>r7) (Ie fun _=>r7) (Ow fun _=>r7) (KC fun _=>r7) x
def LI (x:ah):List A:=[(A.agg (ae x))]
theorem JU:eT LI:=dH (cZ eI)
noncomputable def Ob (args:List A):Option A:=bD LI (fun x=>(MD x).map fun y=>(A.tup [(iA y.1),(bA y.2)])) args
noncomputable def HJ (q:Nat) (args:List A):Option A:=bD LI (fun x=>(Gc q x).map fun y=>(A.tup [(iA y.1),(bA y.2)])) args
noncomputable def xJ (q:Nat):Nat->List A->Option A:=gO LQ 96 (HJ q)
theorem Se (q:Nat):xO (xJ q) (Gc q):=fun a0=>(by kernel_rfl:_=HJ q (LI a0)).trans (aL _ JU a0)
theorem GH:∀ (q:Nat) (args:List A) (r:A) (h:HJ q args=some r),eh prog (cx C0).glob 96 args r
 | 0,args,r,h=>by
  obtain ⟨x,y,rfl,hy,rfl⟩:=dq h
  cases hy
 | q+1,args,r,h=>by
  obtain ⟨x,y,rfl,hy,rfl⟩:=dq h
  exact yO (f:=fun (y:(Int×Bool))=>(A.tup [(iA y.1),(bA y.2)])) (cx:=cx (xJ q)) (fun k args r _ h=>fK zV (GH q) k args r h) r7 (Q4 (xJ q) az  (Gc q) (Se q) x) hy
theorem Og (args:List A) (r:A) (h:Ob args=some r):eh prog (cx C0).glob 96 args r:=GH az args r h
noncomputable def LR:Nat->List A->Option A:=gO LQ 96 Ob
theorem EN:bJ LR:=fK zV Og
def Qr (x:ah):List A:=[(A.agg (ae x))]
theorem NQ:eT Qr:=dH (cZ eI)
noncomputable def PN (args:List A):Option A:=bD Qr (fun x=>(MC x).map fun y=>(iA y)) args
theorem OP {C:Nat->List A->Option A} (h:∀ a,C 96 a=Ob a):F6 C:=fun a0=>(h _).trans (aL _ JU a0)
noncomputable def LS:Nat->List A->Option A:=gO LR 83 PN
theorem EO:bJ LS:=cE EN fun x=>Q0 LR az (OP fun _=>r7) x
def Qu (x:Int):List A:=[(iA x)]
theorem NT:eT Qu:=dH (fx .i64)
noncomputable def PR (args:List A):Option A:=bD Qu (fun x=>(GS x).map fun y=>(A.v (.int .u64 y))) args
noncomputable def LU:Nat->List A->Option A:=gO LS 99 PR
theorem EP:bJ LU:=cE EO fun x=>Q5 LS az  x
def FD (x:ah):List A:=[(A.agg (ae x))]
theorem NG:eT FD:=dH (cZ eI)
noncomputable def PD (args:List A):Option A:=bD FD (fun x=>(Lt x).map fun y=>(A.tup [(A.imm (List.map c8 y.1) false),(iA y.2)])) args
theorem OL {C:Nat->List A->Option A} (h:∀ a,C 83 a=PN a):FZ C:=fun a0=>(h _).trans (aL _ NQ a0)
theorem OQ {C:Nat->List A->Option A} (h:∀ a,C 99 a=PR a):tt C:=fun a0=>(h _).trans (aL _ NT a0)
noncomputable def LV:Nat->List A->Option A:=gO LU 58 PD
theorem ES:bJ LV:=cE EP fun x=>QQ LU az (OL fun _=>r7) (OQ fun _=>r7) x
def Qa (x:aH):List A:=[(A.agg (aj x))]
theorem Nt:eT Qa:=dH (cZ (n4))
noncomputable def Ps (args:List A):Option A:=bD Qa (fun x=>(MA x).map fun y=>(A.imm (List.map c8 y) false)) args
theorem OC {C:Nat->List A->Option A} (h:∀ a,C 58 a=PD a):FT C:=fun a0=>(h _).trans (aL _ NG a0)
noncomputable def LX:Nat->List A->Option A:=gO LV 26 Ps
theorem ET:bJ LX:=cE ES fun x=>QE LV az (OC fun _=>r7) x
def P9 (x:aM×aw):List A:=[(A.agg (bO x.1)),(A.agg (af x.2))]
theorem Ns:eT P9:=iD (cZ (iC)) (dH (cZ (dX)))
noncomputable def Pr (args:List A):Option A:=bD P9 (fun x=>(Mz x.1 x.2).map fun y=>(A.tup [(A.agg [(A.imm (List.map af y.1.Queue) false),(A.imm (List.map ai y.1.Apart) false)]),(iA y.2)])) args
noncomputable def LY:Nat->List A->Option A:=gO LX 25 Pr
theorem EU:bJ LY:=cE ET fun x=>QD LX az (Ie fun _=>r7) (KD fun _=>r7) x.1 x.2
def x9 (x:aq×aO):List A:=[(A.agg (aa x.1)),(A.agg (au x.2))]
theorem R5:eT x9:=iD (cZ (eH)) (dH (cZ (kI)))
noncomputable def o9 (args:List A):Option A:=bD x9 (fun x=>(G9 x.1 x.2).map fun y=>(A.tup [(A.agg (aa y.1)),(iA y.2)])) args
theorem Fl {C:Nat->List A->Option A} (h:∀ a,C 13 a=Pk a):vT C:=fun a0=>(h _).trans (aL _ Ni a0)
theorem Ot {C:Nat->List A->Option A} (h:∀ a,C 25 a=Pr a):FM C:=fun a0 a1=>(h _).trans (aL _ Ns (a0,a1))
theorem Ou {C:Nat->List A->Option A} (h:∀ a,C 26 a=Ps a):FN C:=fun a0=>(h _).trans (aL _ Nt a0)
noncomputable def Pa:Nat->List A->Option A:=gO LY 9 o9
theorem EV:bJ Pa:=cE EU fun x=>T9 LY az (Fl fun _=>r7) (Ic fun _=>r7) (Ot fun _=>r7) (Ou fun _=>r7) x.1 x.2
def O9 (x:aq×Int):List A:=[(A.agg (aa x.1)),(iA x.2)]
theorem Nn:eT O9:=iD (cZ (eH)) (dH (fx .i64))
noncomputable def N9 (args:List A):Option A:=bD O9 (fun x=>(Ls x.1 x.2).map fun y=>(A.tup [(A.agg (aa y.1)),(iA y.2)])) args
theorem Nc:∀ e∈KK,Cn 24 21 (O9 e.1)=(fun (y:(aq×Int))=>some (A.tup [(A.agg (aa y.1)),(iA y.2)])) e.2:=UA.2 ⟨JJ,UA.2 ⟨JK,fun _ h=>absurd h Va⟩⟩
theorem Od (args:List A) (r:A) (h:N9 args=some r):eh prog (cx C0).glob 21 args r:=by
 obtain ⟨x,y,rfl,hy,rfl⟩:=dq h
 exact B5 24 21 _ _ (Nc (x,y) (sG hy))
noncomputable def Pb:Nat->List A->Option A:=gO Pa 21 N9
theorem EW:bJ Pb:=fK EV Od
def DV (x:aq×(List Int)×(List Int)):List A:=[(A.agg (aa x.1)),(A.imm (List.map (cI .i64) x.2.1) false),(A.imm (List.map (cI .i64) x.2.2) false)]
theorem Nm:eT DV:=iD (cZ (eH)) (iD (kJ (tX .i64)) (dH (kJ (tX .i64))))
noncomputable def N8 (args:List A):Option A:=bD DV (fun x=>(Ik x.1 x.2.1 x.2.2).map fun y=>(A.tup [(A.agg (aa y.1)),(iA y.2)])) args
theorem Nb:∀ e∈KJ,Cn 24 19 (DV e.1)=(fun (y:(aq×Int))=>some (A.tup [(A.agg (aa y.1)),(iA y.2)])) e.2:=UA.2 ⟨JF,UA.2 ⟨JG,UA.2 ⟨JH,UA.2 ⟨JI,fun _ h=>absurd h Va⟩⟩⟩⟩
theorem Oc (args:List A) (r:A) (h:N8 args=some r):eh prog (cx C0).glob 19 args r:=by
 obtain ⟨x,y,rfl,hy,rfl⟩:=dq h
 exact B5 24 19 _ _ (Nb (x,y) (sG hy))
noncomputable def LZ:Nat->List A->Option A:=gO Pb 19 N8
theorem EX:bJ LZ:=fK EW Oc
def Qm (x:aM×Int):List A:=[(A.agg (bO x.1)),(iA x.2)]
theorem NL:eT Qm:=iD (cZ (iC)) (dH (fx .i64))
noncomputable def PI (args:List A):Option A:=bD Qm (fun x=>(IX x.1 x.2).map fun y=>(A.tup [(A.agg (af y.1)),(iA y.2)])) args
noncomputable def L0:Nat->List A->Option A:=gO LZ 70 PI
theorem EY:bJ L0:=cE EX fun x=>QV LZ az (Ie fun _=>r7) x.1 x.2
def Qt (x:(List (Int×Int))×(Int×Int)):List A:=[(A.imm (List.map ai x.1) false),(A.agg (ai x.2))]
theorem NS:eT Qt:=iD (kJ (ee)) (dH (cZ (ee)))
noncomputable def PQ (args:List A):Option A:=bD Qt (fun x=>(Lv x.1 x.2).map fun y=>(iA y)) args
noncomputable def L3:Nat->List A->Option A:=gO L0 93 PQ
theorem EZ:bJ L3:=cE EY fun x=>Q3 L0 az  x.1 x.2
def Qn (x:(List (Int×Int))×(Int×Int)):List A:=[(A.imm (List.map ai x.1) false),(A.agg (ai x.2))]
theorem NM:eT Qn:=iD (kJ (ee)) (dH (cZ (ee)))
noncomputable def PJ (args:List A):Option A:=bD Qn (fun x=>(IY x.1 x.2).map fun y=>(bA y)) args
theorem OO {C:Nat->List A->Option A} (h:∀ a,C 93 a=PQ a):F5 C:=fun a0 a1=>(h _).trans (aL _ NS (a0,a1))
noncomputable def L4:Nat->List A->Option A:=gO L3 71 PJ
theorem E0:bJ L4:=cE EZ fun x=>QW L3 az (OO fun _=>r7) x.1 x.2
def Qp (x:aM×Int):List A:=[(A.agg (bO x.1)),(iA x.2)]
theorem NO:eT Qp:=iD (cZ (iC)) (dH (fx .i64))
noncomputable def PL (args:List A):Option A:=bD Qp (fun x=>(It x.1 x.2).map fun y=>(A.agg [(A.imm (List.map af y.Queue) false),(A.imm (List.map ai y.Apart) false)])) args
noncomputable def L5:Nat->List A->Option A:=gO L4 73 PL
theorem E1:bJ L5:=cE E0 fun x=>QY L4 az  x.1 x.2
def Qf (x:aM×Int):List A:=[(A.agg (bO x.1)),(iA x.2)]
theorem NA:eT Qf:=iD (cZ (iC)) (dH (fx .i64))
noncomputable def Pz (args:List A):Option A:=bD Qf (fun x=>(IQ x.1 x.2).map fun y=>(A.tup [(A.agg (af y.1)),(A.agg [(A.imm (List.map af y.2.1.Queue) false),(A.imm (List.map ai y.2.1.Apart) false)]),(iA y.2.2)])) args
theorem OH {C:Nat->List A->Option A} (h:∀ a,C 70 a=PI a):FV C:=fun a0 a1=>(h _).trans (aL _ NL (a0,a1))
theorem OI {C:Nat->List A->Option A} (h:∀ a,C 71 a=PJ a):FW C:=fun a0 a1=>(h _).trans (aL _ NM (a0,a1))
theorem OJ {C:Nat->List A->Option A} (h:∀ a,C 73 a=PL a):FX C:=fun a0 a1=>(h _).trans (aL _ NO (a0,a1))
noncomputable def L6:Nat->List A->Option A:=gO L5 41 Pz
theorem E2:bJ L6:=cE E1 fun x=>QL L5 az (OH fun _=>r7) (OI fun _=>r7) (KF fun _=>r7) (OJ fun _=>r7) x.1 x.2
def Qg (x:aO×Int):List A:=[(A.agg (au x.1)),(iA x.2)]
theorem NB:eT Qg:=iD (cZ (kI)) (dH (fx .i64))
noncomputable def PA (args:List A):Option A:=bD Qg (fun x=>(Im x.1 x.2).map fun y=>(iA y)) args
noncomputable def L7:Nat->List A->Option A:=gO L6 43 PA
theorem E3:bJ L7:=cE E2 fun x=>QM L6 az  x.1 x.2
def ze (x:(List aO)×Int):List A:=[(A.imm (List.map au x.1) false),(iA x.2),(A.fn (Fn.func 43) [] [])]
theorem Eu:eT ze:=fun x y h=>by
 simp only[ze,Ng,map_inj (kI)] at h
 obtain ⟨xa0,xa1⟩:=x
 obtain ⟨ya0,ya1⟩:=y
 simp_all
noncomputable def De (args:List A):Option A:=bD ze (fun x=>(qD x.1 x.2).map fun y=>(A.tup [(iA y.1),(bA y.2)])) args
theorem Oz {C:Nat->List A->Option A} (h:∀ a,C 43 a=PA a):Bp C:=fun a0 a1=>(h _).trans (aL _ NB (a0,a1))
noncomputable def L8:Nat->List A->Option A:=gO L7 42 De
theorem E4:bJ L8:=cE E3 fun x=>GX L7 az (Oz fun _=>r7) x.1 x.2
def A9 (x:aq×Int):List A:=[(A.agg (aa x.1)),(iA x.2)]
theorem Nk:eT A9:=iD (cZ (eH)) (dH (fx .i64))
noncomputable def Pn (args:List A):Option A:=bD A9 (fun x=>(sP x.1 x.2).map fun y=>(A.tup [(A.agg (aa y.1)),(A.agg (al y.2.1)),(bA y.2.2.1),(iA y.2.2.2)])) args
theorem Oy {C:Nat->List A->Option A} (h:∀ a,C 41 a=Pz a):FQ C:=fun a0 a1=>(h _).trans (aL _ NA (a0,a1))
theorem Fo {C:Nat->List A->Option A} (h:∀ a,C 42 a=De a):vU C:=fun a0 a1=>(h _).trans (aL _ Eu (a0,a1))
noncomputable def L9:Nat->List A->Option A:=gO L8 16 Pn
theorem E5:bJ L9:=cE E4 fun x=>Qy L8 az (Fl fun _=>r7) (KC fun _=>r7) (Oy fun _=>r7) (Fo fun _=>r7) x.1 x.2
def xE (x:(List Int)×(List Int)):List A:=[(A.imm (List.map (cI .i64) x.1) false),(A.imm (List.map (cI .i64) x.2) false)]
theorem ND:eT xE:=iD (kJ (tX .i64)) (dH (kJ (tX .i64)))
noncomputable def PC (args:List A):Option A:=bD xE (fun x=>(Ip x.1 x.2).map fun y=>(bA y)) args
noncomputable def Ma:Nat->List A->Option A:=gO L9 55 PC
theorem E6:bJ Ma:=cE E5 fun x=>QO L9 az  x.1 x.2
def P6 (x:(List aP)×(List aP)):List A:=[(A.imm (List.map av x.1) false),(A.imm (List.map av x.2) false)]
theorem Np:eT P6:=iD (kJ (oZ)) (dH (kJ (oZ)))
noncomputable def Pp (args:List A):Option A:=bD P6 (fun x=>(D3 x.1 x.2).map fun y=>(bA y)) args
theorem OB {C:Nat->List A->Option A} (h:∀ a,C 55 a=PC a):Bq C:=fun a0 a1=>(h _).trans (aL _ ND (a0,a1))
noncomputable def Mc:Nat->List A->Option A:=gO Ma 22 Pp
theorem E7:bJ Mc:=cE E6 fun x=>QA Ma az (OB fun _=>r7) x.1 x.2
def x7 (x:Unit):List A:=[]
theorem R3:eT x7:=fun _ _ _=>rfl
noncomputable def o7 (args:List A):Option A:=bD x7 (fun x=>(G7 ).map fun y=>(bA y)) args
theorem Ok {C:Nat->List A->Option A} (h:∀ a,C 11 a=Pj a):FG C:=fun a0=>(h _).trans (aL _ Nh a0)
theorem KA {C:Nat->List A->Option A} (h:∀ a,C 16 a=Pn a):Bm C:=fun a0 a1=>(h _).trans (aL _ Nk (a0,a1))
theorem On {C:Nat->List A->Option A} (h:∀ a,C 19 a=N8 a):FJ C:=fun a0 a1 a2=>(h _).trans (aL _ Nm (a0,a1,a2))
theorem Oo {C:Nat->List A->Option A} (h:∀ a,C 21 a=N9 a):FK C:=fun a0 a1=>(h _).trans (aL _ Nn (a0,a1))
theorem KB {C:Nat->List A->Option A} (h:∀ a,C 22 a=Pp a):Bn C:=fun a0 a1=>(h _).trans (aL _ Np (a0,a1))
theorem Sb {C:Nat->List A->Option A} (h:∀ a,C 9 a=o9 a):I6 C:=fun a0 a1=>(h _).trans (aL _ R5 (a0,a1))
noncomputable def Md:Nat->List A->Option A:=gO Mc 7 o7
theorem E8:bJ Md:=cE E7 fun x=>T7 Mc az (Ok fun _=>r7) (Fl fun _=>r7) (KA fun _=>r7) (On fun _=>r7) (Oo fun _=>r7) (KB fun _=>r7) (Sb fun _=>r7)
def P7 (x:aM):List A:=[(A.agg (bO x))]
theorem Nq:eT P7:=dH (cZ (iC))
noncomputable def Pq (args:List A):Option A:=bD P7 (fun x=>(IL x).map fun y=>(bA y)) args
noncomputable def Me:Nat->List A->Option A:=gO Md 23 Pq
theorem E9:bJ Me:=cE E8 fun x=>QB Md az  x
def x8 (x:aq):List A:=[(A.agg (aa x))]
theorem R4:eT x8:=dH (cZ (eH))
noncomputable def o8 (args:List A):Option A:=bD x8 (fun x=>(G8 x).map fun y=>(bA y)) args
theorem Oq {C:Nat->List A->Option A} (h:∀ a,C 23 a=Pq a):FL C:=fun a0=>(h _).trans (aL _ Nq a0)
noncomputable def Mf:Nat->List A->Option A:=gO Me 8 o8
theorem zX:bJ Mf:=cE E9 fun x=>T8 Me az (Oq fun _=>r7) x
def Fz (x:ah):List A:=[(A.agg (ae x))]
theorem Gp:eT Fz:=dH (cZ eI)
noncomputable def HF (args:List A):Option A:=bD Fz (fun x=>(D0 x).map fun y=>(bA y)) args
noncomputable def Db (q:Nat) (args:List A):Option A:=bD Fz (fun x=>(vX q x).map fun y=>(bA y)) args
noncomputable def uu (q:Nat):Nat->List A->Option A:=gO Mf 102 (Db q)
theorem OV (q:Nat):uF (uu q) (vX q):=fun a0=>(by kernel_rfl:_=Db q (Fz a0)).trans (aL _ Gp a0)
theorem Dj:∀ (q:Nat) (args:List A) (r:A) (h:Db q args=some r),eh prog (cx C0).glob 102 args r
 | 0,args,r,h=>by
  obtain ⟨x,y,rfl,hy,rfl⟩:=dq h
  cases hy
 | q+1,args,r,h=>by
  obtain ⟨x,y,rfl,hy,rfl⟩:=dq h
  exact yO (f:=fun (y:Bool)=>(bA y)) (cx:=cx (uu q)) (fun k args r _ h=>fK zX (Dj q) k args r h) r7 (MF (uu q) az  (vX q) (OV q) x) hy
theorem Kf (args:List A) (r:A) (h:HF args=some r):eh prog (cx C0).glob 102 args r:=Dj az args r h
noncomputable def Mg:Nat->List A->Option A:=gO Mf 102 HF
theorem zY:bJ Mg:=fK zX Kf
def FA (x:ah):List A:=[(A.agg (ae x))]
theorem Gq:eT FA:=dH (cZ eI)
noncomputable def HG (args:List A):Option A:=bD FA (fun x=>(D1 x).map fun y=>(iA y)) args
noncomputable def Dc (q:Nat) (args:List A):Option A:=bD FA (fun x=>(vY q x).map fun y=>(iA y)) args
noncomputable def uv (q:Nat):Nat->List A->Option A:=gO Mg 103 (Dc q)
theorem OW (q:Nat):uG (uv q) (vY q):=fun a0=>(by kernel_rfl:_=Dc q (FA a0)).trans (aL _ Gq a0)
theorem Dk:∀ (q:Nat) (args:List A) (r:A) (h:Dc q args=some r),eh prog (cx C0).glob 103 args r
 | 0,args,r,h=>by
  obtain ⟨x,y,rfl,hy,rfl⟩:=dq h
  cases hy
 | q+1,args,r,h=>by
  obtain ⟨x,y,rfl,hy,rfl⟩:=dq h
  exact yO (f:=fun (y:Int)=>(iA y)) (cx:=cx (uv q)) (fun k args r _ h=>fK zY (Dk q) k args r h) r7 (MG (uv q) az  (vY q) (OW q) x) hy
theorem Kg (args:List A) (r:A) (h:HG args=some r):eh prog (cx C0).glob 103 args r:=Dk az args r h
noncomputable def Mh:Nat->List A->Option A:=gO Mg 103 HG
theorem Fa:bJ Mh:=fK zY Kg
def Qs (x:ah):List A:=[(A.agg (ae x))]
theorem NR:eT Qs:=dH (cZ eI)
noncomputable def PO (args:List A):Option A:=bD Qs (fun x=>(I1 x).map fun y=>(iA y)) args
theorem Kw {C:Nat->List A->Option A} (h:∀ a,C 102 a=HF a):Bh C:=fun a0=>(h _).trans (aL _ Gp a0)
theorem Kx {C:Nat->List A->Option A} (h:∀ a,C 103 a=HG a):Bi C:=fun a0=>(h _).trans (aL _ Gq a0)
noncomputable def Mi:Nat->List A->Option A:=gO Mh 85 PO
theorem Fb:bJ Mi:=cE Fa fun x=>Q1 Mh az (Kw fun _=>r7) (Kx fun _=>r7) x
def Ii (x:Int):List A:=[(iA x)]
theorem JQ:eT Ii:=dH (fx .i64)
noncomputable def Kc (args:List A):Option A:=bD Ii (fun x=>(Bd x).map fun y=>(A.v (.int .u64 y))) args
noncomputable def Mj:Nat->List A->Option A:=gO Mi 105 Kc
theorem zZ:bJ Mj:=cE Fb fun x=>MI Mi az  x
def DL (x:Int):List A:=[(A.v (.int .u64 x))]
theorem Gr:eT DL:=dH (fx .u64)
noncomputable def HH (args:List A):Option A:=bD DL (fun x=>(Am x).map fun y=>(A.imm (List.map c8 y) false)) args
noncomputable def Dd (q:Nat) (args:List A):Option A:=bD DL (fun x=>(vZ q x).map fun y=>(A.imm (List.map c8 y) false)) args
noncomputable def uw (q:Nat):Nat->List A->Option A:=gO Mj 104 (Dd q)
theorem OX (q:Nat):zq (uw q) (vZ q):=fun a0=>(by kernel_rfl:_=Dd q (DL a0)).trans (aL _ Gr a0)
theorem Dl:∀ (q:Nat) (args:List A) (r:A) (h:Dd q args=some r),eh prog (cx C0).glob 104 args r
 | 0,args,r,h=>by
  obtain ⟨x,y,rfl,hy,rfl⟩:=dq h
  cases hy
 | q+1,args,r,h=>by
  obtain ⟨x,y,rfl,hy,rfl⟩:=dq h
  exact yO (f:=fun (y:(List UInt8))=>(A.imm (List.map c8 y) false)) (cx:=cx (uw q)) (fun k args r _ h=>fK zZ (Dl q) k args r h) r7 (MH (uw q) az  (vZ q) (OX q) x) hy
theorem Kh (args:List A) (r:A) (h:HH args=some r):eh prog (cx C0).glob 104 args r:=Dl az args r h
noncomputable def Mk:Nat->List A->Option A:=gO Mj 104 HH
theorem z7:bJ Mk:=fK zZ Kh
def LH (x:ah):List A:=[(A.agg (ae x))]
theorem JT:eT LH:=dH (cZ eI)
noncomputable def Oa (args:List A):Option A:=bD LH (fun x=>(Lu x).map fun y=>(A.imm (List.map c8 y) false)) args
noncomputable def HI (q:Nat) (args:List A):Option A:=bD LH (fun x=>(Gb q x).map fun y=>(A.imm (List.map c8 y) false)) args
noncomputable def qC (q:Nat):Nat->List A->Option A:=gO Mk 86 (HI q)
theorem Sd (q:Nat):xM (qC q) (Gb q):=fun a0=>(by kernel_rfl:_=HI q (LH a0)).trans (aL _ JT a0)
theorem xo (q:Nat):Bj (qC q):=fun a0=>(by kernel_rfl:_=HH (DL a0)).trans (aL _ Gr a0)
theorem xp (q:Nat):Bl (qC q):=fun a0=>(by kernel_rfl:_=Kc (Ii a0)).trans (aL _ JQ a0)
theorem GG:∀ (q:Nat) (args:List A) (r:A) (h:HI q args=some r),eh prog (cx C0).glob 86 args r
 | 0,args,r,h=>by
  obtain ⟨x,y,rfl,hy,rfl⟩:=dq h
  cases hy
 | q+1,args,r,h=>by
  obtain ⟨x,y,rfl,hy,rfl⟩:=dq h
  exact yO (f:=fun (y:(List UInt8))=>(A.imm (List.map c8 y) false)) (cx:=cx (qC q)) (fun k args r _ h=>fK z7 (GG q) k args r h) r7 (Q2 (qC q) az (xo q) (xp q) (Gb q) (Sd q) x) hy
theorem Oe (args:List A) (r:A) (h:Oa args=some r):eh prog (cx C0).glob 86 args r:=GG az args r h
noncomputable def Ml:Nat->List A->Option A:=gO Mk 86 Oa
theorem Fc:bJ Ml:=fK z7 Oe
def Qq (x:(List UInt8)):List A:=[(A.imm (List.map c8 x) false)]
theorem NP:eT Qq:=dH (kJ (nD))
noncomputable def PM (args:List A):Option A:=bD Qq (fun x=>(I0 x).map fun y=>(A.tup [(A.agg (ae y.1)),(iA y.2)])) args
theorem OM {C:Nat->List A->Option A} (h:∀ a,C 85 a=PO a):F0 C:=fun a0=>(h _).trans (aL _ NR a0)
theorem ON {C:Nat->List A->Option A} (h:∀ a,C 86 a=Oa a):F3 C:=fun a0=>(h _).trans (aL _ JT a0)
noncomputable def Mm:Nat->List A->Option A:=gO Ml 76 PM
theorem Fe:bJ Mm:=cE Fc fun x=>QZ Ml az (OM fun _=>r7) (ON fun _=>r7) x
def Qh (x:(List UInt8)):List A:=[(A.imm (List.map c8 x) false)]
theorem NC:eT Qh:=dH (kJ (nD))
noncomputable def PB (args:List A):Option A:=bD Qh (fun x=>(IT x).map fun y=>(A.tup [(A.imm (List.map (cI .i64) y.1) false),(bA y.2)])) args
theorem OK {C:Nat->List A->Option A} (h:∀ a,C 76 a=PM a):FY C:=fun a0=>(h _).trans (aL _ NP a0)
noncomputable def Mn:Nat->List A->Option A:=gO Mm 47 PB
theorem Ff:bJ Mn:=cE Fe fun x=>QN Mm az (OK fun _=>r7) x
def sN (x:(List UInt8)):List A:=[(A.imm (List.map c8 x) false)]
theorem Nl:eT sN:=dH (kJ (nD))
noncomputable def Po (args:List A):Option A:=bD sN (fun x=>(DQ x).map fun y=>(A.tup [(A.agg (au y.1)),(bA y.2)])) args
theorem OA {C:Nat->List A->Option A} (h:∀ a,C 47 a=PB a):FR C:=fun a0=>(h _).trans (aL _ NC a0)
noncomputable def Mo:Nat->List A->Option A:=gO Mn 17 Po
theorem Fg:bJ Mo:=cE Ff fun x=>Qz Mn az (OA fun _=>r7) x
def Ql (x:aw×aw):List A:=[(A.agg (af x.1)),(A.agg (af x.2))]
theorem NK:eT Ql:=iD (cZ (dX)) (dH (cZ (dX)))
noncomputable def PH (args:List A):Option A:=bD Ql (fun x=>(IW x.1 x.2).map fun y=>(bA y)) args
noncomputable def Mp:Nat->List A->Option A:=gO Mo 69 PH
theorem Fh:bJ Mp:=cE Fg fun x=>QU Mo az  x.1 x.2
def Qe (x:aM×aM):List A:=[(A.agg (bO x.1)),(A.agg (bO x.2))]
theorem Nz:eT Qe:=iD (cZ (iC)) (dH (cZ (iC)))
noncomputable def Py (args:List A):Option A:=bD Qe (fun x=>(IP x.1 x.2).map fun y=>(bA y)) args
theorem OG {C:Nat->List A->Option A} (h:∀ a,C 69 a=PH a):Bu C:=fun a0 a1=>(h _).trans (aL _ NK (a0,a1))
noncomputable def Mq:Nat->List A->Option A:=gO Mp 40 Py
theorem Fi:bJ Mq:=cE Fh fun x=>QK Mp az (OG fun _=>r7) x.1 x.2
def A8 (x:aq×aq):List A:=[(A.agg (aa x.1)),(A.agg (aa x.2))]
theorem Nj:eT A8:=iD (cZ (eH)) (dH (cZ (eH)))
noncomputable def Pm (args:List A):Option A:=bD A8 (fun x=>(FE x.1 x.2).map fun y=>(bA y)) args
theorem Ox {C:Nat->List A->Option A} (h:∀ a,C 40 a=Py a):FP C:=fun a0 a1=>(h _).trans (aL _ Nz (a0,a1))
noncomputable def Mr:Nat->List A->Option A:=gO Mq 15 Pm
theorem Fj:bJ Mr:=cE Fi fun x=>Qx Mq az (KB fun _=>r7) (Ox fun _=>r7) x.1 x.2
def x4 (x:aq×Int×Int):List A:=[(A.agg (aa x.1)),(A.v (.int .u8 x.2.1)),(A.v (.int .u8 x.2.2))]
theorem R2:eT x4:=iD (cZ (eH)) (iD (fx .u8) (dH (fx .u8)))
noncomputable def o4 (args:List A):Option A:=bD x4 (fun x=>(G4 x.1 x.2.1 x.2.2).map fun y=>(bA y)) args
theorem Ol {C:Nat->List A->Option A} (h:∀ a,C 15 a=Pm a):FH C:=fun a0 a1=>(h _).trans (aL _ Nj (a0,a1))
theorem Om {C:Nat->List A->Option A} (h:∀ a,C 17 a=Po a):FI C:=fun a0=>(h _).trans (aL _ Nl a0)
theorem R9 {C:Nat->List A->Option A} (h:∀ a,C 7 a=o7 a):I4 C:=fun _=>(h _).trans (aL _ R3 ())
theorem Sa {C:Nat->List A->Option A} (h:∀ a,C 8 a=o8 a):I5 C:=fun a0=>(h _).trans (aL _ R4 a0)
theorem R7 (args:List A) (r:A) (h:o4 args=some r):eh prog (cx C0).glob 4 args r:=by
 obtain ⟨x,y,rfl,hy,rfl⟩:=dq h
 exact yO (f:=fun (y:Bool)=>(bA y)) (cx:=cx Mr) (fun k args r _ h=>Fj k args r h) r7 (T4 Mr az (Fl fun _=>r7) (Ol fun _=>r7) (KA fun _=>r7) (Om fun _=>r7) (R9 fun _=>r7) (Sa fun _=>r7) x.1 x.2.1 x.2.2) hy
end
section
open Go.RowKit Go.ChangeShapes Go.WideShapes Go.ChangeAt Go.Deep
theorem Ha {args:Array Value} (h:args.size=3):∃ a0 a1 a2,args=#[a0,a1,a2]:=by
 match args,h with | ⟨[a0,a1,a2]⟩,_=>exact⟨a0,a1,a2,rfl⟩
mutual
def cw:ah->Prop
 | .mk Kind N S L=>(jq Kind/\jq N/\(S.size<=ma)/\L.length<=ma)/\fA L
def fA:List ah->Prop
 | []=>True
 | x :: r=>cw x/\fA r
end
theorem lE:∀ (l:List ah),fA l↔∀ z∈l,cw z
 | []=>by rw[fA]; simp
 | x :: r=>by rw[fA,lE r]; simp
theorem fz (x:ah):cw x↔jq x.Kind/\jq x.N/\(x.S.size<=ma)/\(x.L.length<=ma/\∀ z∈x.L,cw z):=by
 cases x
 rw[cw,lE]
 simp only[and_assoc]
def qe (x:aw):Prop:=jq x.From/\jq x.To/\(x.Data.length<=ma)
def xj (x:aM):Prop:=(x.Queue.length<=ma/\∀ z∈x.Queue,qe z)/\(x.Apart.length<=ma/\∀ z∈x.Apart,(jq z.1/\jq z.2))
def xh (x:aO):Prop:=jq x.No/\jq x.Role/\jq x.Bar/\jq x.Program
def xi (x:aP):Prop:=(x.Cues.length<=ma/\∀ z∈x.Cues,xh z)/\(x.Got.length<=ma/\∀ z∈x.Got,jq z)/\(x.Did.length<=ma/\∀ z∈x.Did,jq z)
def rZ (x:aq):Prop:=xj x.Net/\(x.Ears.length<=ma/\∀ z∈x.Ears,xi z)/\jq x.Bar
theorem Ks:qj Try.prog 48 af qe:=qj.of (fX (fs:=#[Field.mk "From" 3 0 false "" "" 0,Field.mk "To" 3 1 false "" "" 8,Field.mk "Data" 46 2 false "" "" 16]) (Ts:=[_,_,_]) r7 r7 ⟨(jY r7),(jY r7),(A0 (e:=5) (es:=1) (c:=c8) r7 r7 (by decide) (fun _=>rfl) (Ku r7)),trivial⟩) fun l h=>by
 obtain ⟨_,_,rfl,⟨x0,rfl,h0⟩,_,_,rfl,⟨x1,rfl,h1⟩,_,_,rfl,⟨x2,rfl,h2⟩,rfl⟩:=h
 exact⟨⟨x0,x1,x2⟩,by simp[af,cI,cB,cS,cL,ak,af,ai,bO,au,av,aa,al,aj,aR,b7,ax],h0,h1,h2⟩
theorem HY:qj Try.prog 115 ai (fun x=>(jq x.1/\jq x.2)):=qj.of (vH (n:=2) (e:=3) r7 r7 (jY r7)) fun l h=>by
 obtain ⟨_,_,rfl,⟨x0,rfl,h0⟩,_,_,rfl,⟨x1,rfl,h1⟩,rfl⟩:=h
 exact⟨(x0,x1),by simp[cI,cB,cS,cL,ak,af,ai,bO,au,av,aa,al,aj,aR,b7,ax],h0,h1⟩
theorem Kp:qj Try.prog 25 bO xj:=qj.of (fX (fs:=#[Field.mk "Queue" 22 0 false "" "" 0,Field.mk "Apart" 23 1 false "" "" 24]) (Ts:=[_,_]) r7 r7 ⟨(jD (e:=48) (es:=3) (c:=af) r7 r7 (by decide) (fun _=>rfl) Ks),(jD (e:=115) (es:=2) (c:=ai) r7 r7 (by decide) (fun _=>rfl) HY),trivial⟩) fun l h=>by
 obtain ⟨_,_,rfl,⟨x0,rfl,h0⟩,_,_,rfl,⟨x1,rfl,h1⟩,rfl⟩:=h
 exact⟨⟨x0,x1⟩,by simp[bO,cI,cB,cS,cL,ak,af,ai,bO,au,av,aa,al,aj,aR,b7,ax],h0,h1⟩
theorem Kr:qj Try.prog 30 au xh:=qj.of (fX (fs:=#[Field.mk "No" 3 0 false "" "" 0,Field.mk "Role" 3 1 false "" "" 8,Field.mk "Bar" 3 2 false "" "" 16,Field.mk "Program" 3 3 false "" "" 24]) (Ts:=[_,_,_,_]) r7 r7 ⟨(jY r7),(jY r7),(jY r7),(jY r7),trivial⟩) fun l h=>by
 obtain ⟨_,_,rfl,⟨x0,rfl,h0⟩,_,_,rfl,⟨x1,rfl,h1⟩,_,_,rfl,⟨x2,rfl,h2⟩,_,_,rfl,⟨x3,rfl,h3⟩,rfl⟩:=h
 exact⟨⟨x0,x1,x2,x3⟩,by simp[au,cI,cB,cS,cL,ak,af,ai,bO,au,av,aa,al,aj,aR,b7,ax],h0,h1,h2,h3⟩
theorem Kt:qj Try.prog 55 av xi:=qj.of (fX (fs:=#[Field.mk "Cues" 53 0 false "" "" 0,Field.mk "Got" 50 1 false "" "" 24,Field.mk "Did" 50 2 false "" "" 48]) (Ts:=[_,_,_]) r7 r7 ⟨(jD (e:=30) (es:=4) (c:=au) r7 r7 (by decide) (fun _=>rfl) Kr),(jD (e:=3) (es:=1) (c:=(cI .i64)) r7 r7 (by decide) (fun _=>rfl) (jY r7)),(jD (e:=3) (es:=1) (c:=(cI .i64)) r7 r7 (by decide) (fun _=>rfl) (jY r7)),trivial⟩) fun l h=>by
 obtain ⟨_,_,rfl,⟨x0,rfl,h0⟩,_,_,rfl,⟨x1,rfl,h1⟩,_,_,rfl,⟨x2,rfl,h2⟩,rfl⟩:=h
 exact⟨⟨x0,x1,x2⟩,by simp[av,cI,cB,cS,cL,ak,af,ai,bO,au,av,aa,al,aj,aR,b7,ax],h0,h1,h2⟩
theorem Kq:qj Try.prog 28 aa rZ:=qj.of (fX (fs:=#[Field.mk "Net" 25 0 false "" "" 0,Field.mk "Ears" 26 2 false "" "" 48,Field.mk "Bar" 3 3 false "" "" 72]) (Ts:=[_,_,_]) r7 r7 ⟨Kp,(jD (e:=55) (es:=3) (c:=av) r7 r7 (by decide) (fun _=>rfl) Kt),(jY r7),trivial⟩) fun l h=>by
 obtain ⟨_,_,rfl,⟨x0,rfl,h0⟩,_,_,rfl,⟨x1,rfl,h1⟩,_,_,rfl,⟨x2,rfl,h2⟩,rfl⟩:=h
 exact⟨⟨x0,x1,x2⟩,by simp[aa,cI,cB,cS,cL,ak,af,ai,bO,au,av,aa,al,aj,aR,b7,ax],h0,h1,h2⟩
def Ga:Prop:=∀ (a0:aq) (a1:Int) (a2:Int),rZ a0->GW a1->GW a2->G4 a0 a1 a2=some true
theorem KT (hp:Ga) (W:World) (base:Nat) (args:Array Value) {H:Type} {enc:TypeId×Value->H} (hg:qF enc Try.prog W base Try.f4.params args) (hl:∀ (G:Nat) (vs:List Value),(cx C0).glob G=some vs->∀ (j:Nat) (v:Value),vs[j]? = some v->W.cell? ⟨G,j,none⟩=some v) :
  Calls Try.prog 4 args W fun e W'=>e=.returned (.bool true)/\Below W.heap.size W W':=by
 obtain ⟨v0,v1,v2,rfl⟩:=Ha hg.1
 obtain ⟨a0,b0,w0⟩:=AQ hg 0 rfl rfl (fs:=#[Field.mk "Net" 25 0 false "" "" 0,Field.mk "Ears" 26 2 false "" "" 48,Field.mk "Bar" 3 3 false "" "" 72]) r7 Kq
 obtain ⟨a1,b1,w1⟩:=Gn hg 1 rfl rfl r7
 obtain ⟨a2,b2,w2⟩:=Gn hg 2 rfl rfl r7
 refine Hx (glob:=(cx C0).glob) (R7 _ _ ((aL _ R2 (a0,a1,a2)).trans (by simp only[hp a0 a1 a2 b0 b1 b2]; rfl))) hl ?_
 exact qJ w0 (qJ w1 (qJ w2 u3))
end
@[simp] theorem or_some (a b:Bool):(bif a then some true else some b)=some (a || b):=by cases a<;>rfl
@[simp] theorem Ja (a b:Bool):(bif a then some b else some false)=some (a&&b):=by cases a<;>rfl
theorem df {n:Int} (h:-9223372036854775808<=n) (h':n<=9223372036854775807):wr .i64 n=n:=by
 simp only[wr,IntKind.wrap,IntKind.bits,IntKind.signed]
 simp
 omega
theorem bB {T:Type} (l:List T) (i:Nat):bE l (i:Int)=l[i]?:=by simp[bE]
theorem fu:az=1208925819614629174706176:=rfl
mutual
def nE:ah->Nat
 | .mk _ _ s l=>1+s.size / 200+nr l
def nr:List ah->Nat
 | []=>0
 | x :: r=>nE x+nr r
end
theorem eJ (v:ah):nE v=1+v.S.size / 200+nr v.L:=by cases v; rw[nE]
theorem na (v:ah):1<=nE v:=by rw[eJ]; omega
theorem pb:nr []=0:=by rw[nr]
theorem kQ (x:ah) (r:List ah):nr (x :: r)=nE x+nr r:=by rw[nr]
theorem eC:∀ l:List ah,l.length<=nr l
 | []=>Tk _
 | x :: r=>by rw[kQ,SW]; have:=eC r; have:=na x; omega
theorem jB:∀ {l:List ah} {x:ah},x∈l->nE x<=nr l
 | y :: r,x,h=>by
  rw[kQ]
  rcases Ti.1 h with rfl | h
  ·omega
  ·have:=jB h; omega
def emp (s:ByteArray):Bool:=iK s (ByteArray.mk #[])
mutual
def vM:ah->Bool
 | .mk k n s l=>bif k==1 then emp s&&((l.length:Int)==0) else bif k==2 then (n==0)&&((l.length:Int)==0) else bif k==3 then l0 l&&((n==0)&&emp s) else false
def l0:List ah->Bool
 | []=>true
 | x :: r=>vM x&&l0 r
end
mutual
def dep:ah->Nat
 | .mk k _ _ l=>bif k==3 then nO l+1 else 0
def nO:List ah->Nat
 | []=>0
 | x :: r=>max (dep x) (nO r)
end
theorem pK (v:ah):vM v=bif v.Kind==1 then emp v.S&&((v.L.length:Int)==0) else bif v.Kind==2 then (v.N==0)&&((v.L.length:Int)==0) else bif v.Kind==3 then l0 v.L&&((v.N==0)&&emp v.S) else false:=by cases v; rw[vM]
theorem rf (v:ah):dep v=bif v.Kind==3 then nO v.L+1 else 0:=by cases v; rw[dep]
theorem rE:l0 []=true:=by rw[l0]
theorem mZ (x:ah) (r:List ah):l0 (x :: r)=(vM x&&l0 r):=by rw[l0]
theorem oN:nO []=0:=by rw[nO]
theorem mY (x:ah) (r:List ah):nO (x :: r)=max (dep x) (nO r):=by rw[nO]
mutual
theorem Ef:∀ v:ah,dep v<=nE v
 | .mk k n s l=>by
  rw[dep,nE]
  have:=oO l
  cases k==3<;>simp<;>omega
theorem oO:∀ l:List ah,nO l<=nr l
 | []=>by rw[oN]; omega
 | x :: r=>by
  rw[mY,kQ]
  have:=Ef x; have:=oO r; omega
end
theorem CO (self:ah->Option Int) (n:Nat) (z:Int) (v:ah) (hn:nE v<=1100000) (hself:∀ e∈v.L,self e=some (dep e:Int)) :
  ∀ (k m i d:Nat),i+k=v.L.length->k<m->gi self n v m (d:Int) (i:Int)=some ((max d (nO (v.L.drop i)):Nat):Int)
 | 0,m,i,d,h1,h2=>by
  obtain ⟨m,rfl⟩:∃ q,m=q+1:=⟨m - 1,o3⟩
  rw[gi,SK o3,S8.2 o3,oN]
  simp
 | k+1,m,i,d,h1,h2=>by
  obtain ⟨m,rfl⟩:∃ q,m=q+1:=⟨m - 1,o3⟩
  have hi:i<v.L.length:=o3
  have hl:=eC v.L
  rw[eJ] at hn
  rw[gi,SD o3,SU hi,mY]
  simp only[SC,bB,Sx hi,Sw,hself _ (Tb hi)]
  rw[df o3 o3,show (i:Int)+1=((i+1:Nat):Int) by omega,show (if (d:Int)<(dep v.L[i]:Int) then (dep v.L[i]:Int) else (d:Int))=((max d (dep v.L[i]):Nat):Int) by split<;>omega]
  rw[CO self n z v (by rw[eJ]; exact hn) hself k m (i+1) _ o3 o3]
  congr 2
  omega
theorem P2:∀ (q:Nat) (v:ah),nE v<=q->nE v<=1100000->vY q v=some (dep v:Int)
 | 0,v,h,_=>by have:=na v; omega
 | q+1,v,h,hn=>by
  show Bc (vY q) az v=_
  unfold Bc
  rw[rf]
  cases hk:v.Kind==3 with
  | false=>rw[show (v.Kind != 3)=true by rw[bne,hk]; rfl]; rfl
  | true=>
   rw[show (v.Kind != 3)=false by rw[bne,hk]; rfl]
   have hl:=eC v.L
   have hn':=hn
   rw[eJ] at hn' h
   have:=CO (vY q) az 0 v hn (fun e he=>by
    have:=jB he
    exact P2 q e o3 o3) v.L.length (az+8) 0 0 o3 s5
   rw[show ((0:Nat):Int)=0 from rfl] at this
   simp only[SA,this,Sw,Tq,SC]
   have hd:=oO v.L
   rw[df o3 o3]
   first | done | (congr 1; try omega)
theorem CN (self:ah->Option Bool) (n:Nat) (z:Bool) (v:ah) (hn:nE v<=1100000) (hself:∀ e∈v.L,self e=some (vM e)) :
  ∀ (k m i:Nat),i+k=v.L.length->k<m->gh self n v m (i:Int)=some (bif l0 (v.L.drop i) then .inr () else .inl false)
 | 0,m,i,h1,h2=>by
  obtain ⟨m,rfl⟩:∃ q,m=q+1:=⟨m - 1,o3⟩
  rw[gh,SK o3,S8.2 o3,rE]
  rfl
 | k+1,m,i,h1,h2=>by
  obtain ⟨m,rfl⟩:∃ q,m=q+1:=⟨m - 1,o3⟩
  have hi:i<v.L.length:=o3
  have hl:=eC v.L
  rw[eJ] at hn
  rw[gh,SD o3,SU hi,mZ]
  simp only[SC,bB,Sx hi,Sw,hself _ (Tb hi)]
  cases vM v.L[i] with
  | false=>rfl
  | true=>
   rw[df o3 o3,show (i:Int)+1=((i+1:Nat):Int) by omega]
   exact CN self n z v (by rw[eJ]; exact hn) hself k m (i+1) o3 o3
theorem P1:∀ (q:Nat) (v:ah),nE v<=q->nE v<=1100000->vX q v=some (vM v)
 | 0,v,h,_=>by have:=na v; omega
 | q+1,v,h,hn=>by
  show Bb (vX q) az v=_
  unfold Bb
  rw[pK]
  cases hk1:v.Kind==1 with
  | true=>simp only[SC]; show Option.bind (bif emp v.S then _ else _) _=_; cases emp v.S<;>rfl
  | false=>
   cases hk2:v.Kind==2 with
   | true=>simp only[SC,SA]; cases v.N==0<;>rfl
   | false=>
    cases hk3:v.Kind==3 with
    | false=>rfl
    | true=>
     have hl:=eC v.L
     have hn':=hn
     rw[eJ] at hn' h
     have:=CN (vX q) az false v hn (fun e he=>by
      have:=jB he
      exact P1 q e o3 o3) v.L.length (az+8) 0 o3 s5
     rw[show ((0:Nat):Int)=0 from rfl] at this
     simp only[SA,SC,this,Sw,Tq]
     cases l0 v.L with
     | false=>rfl
     | true=>show Option.bind (bif v.N==0 then some (emp v.S) else _) _=_; cases v.N==0<;>rfl
def lj (v:ah):Int:=bif vM v then (bif decide (16<dep v) then 2 else 0) else 1
theorem RS (v:ah) (hn:nE v<=1100000):I1 v=some (lj v):=by
 unfold I1 Lp D0 D1
 rw[P1 _ v s5 hn,P2 _ v s5 hn]
 simp only[Sw]
 unfold lj
 cases vM v with
 | false=>rfl
 | true=>
  simp only[S0,SA,SC]
  by_cases h:16<dep v
  ·rw[SD h,SD o3]; rfl
  ·rw[SK h,SK o3]; rfl
theorem CM (self:ah->Option (Int×Bool)) (n:Nat) (z:Bool) (v:ah) (w a b c d:Bool) (hn:nE v<=1100000) (hself:∀ e∈v.L,∃ x,self e=some (x,vM e)/\(vM e=true->x=(dep e:Int))) :
  ∀ (k m i t:Nat),i+k=v.L.length->k<m->∃ r,jo self n z v.L (v.L.length:Int) v w a b c m (t:Int) (i:Int)=some r/\(match r with | .inl p=>l0 (v.L.drop i)=false/\p.1=0/\p.2=false | .inr x=>l0 (v.L.drop i)=true/\x=((max t (nO (v.L.drop i)):Nat):Int))
 | 0,m,i,t,h1,h2=>by
  obtain ⟨m,rfl⟩:∃ q,m=q+1:=⟨m - 1,o3⟩
  rw[jo,SK o3,S8.2 o3,rE,oN]
  exact⟨_,rfl,rfl,r8⟩
 | k+1,m,i,t,h1,h2=>by
  obtain ⟨m,rfl⟩:∃ q,m=q+1:=⟨m - 1,o3⟩
  have hi:i<v.L.length:=o3
  have hl:=eC v.L
  rw[eJ] at hn
  obtain ⟨x,h3,h4⟩:=hself _ (Tb hi)
  rw[jo,SD o3,SU hi,mZ,mY]
  simp only[SC,bB,Sx hi,Sw,h3]
  cases hf:vM v.L[i] with
  | false=>exact⟨_,rfl,rfl,rfl,rfl⟩
  | true=>
   rw[h4 hf]
   simp only[S0,SA,Tm]
   rw[df o3 o3,show (i:Int)+1=((i+1:Nat):Int) by omega,show (if (t:Int)<(dep v.L[i]:Int) then (dep v.L[i]:Int) else (t:Int))=((max t (dep v.L[i]):Nat):Int) by split<;>omega]
   have:=CM self n z v w a b c d (by rw[eJ]; exact hn) hself k m (i+1) (max t (dep v.L[i])) o3 o3
   rw[show max t (max (dep v.L[i]) (nO (v.L.drop (i+1))))=max (max t (dep v.L[i])) (nO (v.L.drop (i+1))) by omega]
   exact this
theorem HW:∀ (q:Nat) (v:ah),nE v<=q->nE v<=1100000->∃ x,Gc q v=some (x,vM v)/\(vM v=true->x=(dep v:Int))
 | 0,v,h,_=>by have:=na v; omega
 | q+1,v,h,hn=>by
  have hl:=eC v.L
  have hn':=hn
  rw[eJ] at hn' h
  obtain ⟨r,h1,h2⟩:=CM (Gc q) az false v false (emp v.S&&((v.L.length:Int)==0)) ((v.N==0)&&((v.L.length:Int)==0)) ((v.N==0)&&emp v.S) false hn (fun e he=>by
   have:=jB he
   exact HW q e o3 o3) v.L.length (az+8) 0 0 o3 s5
  rw[show ((0:Nat):Int)=0 from rfl] at h1
  rw[Tq] at h2
  show ∃ x,IH (Gc q) az v=_/\_
  unfold IH
  rw[show (bif iK v.S (ByteArray.mk #[]) then some ((v.L.length:Int)==0) else some false)=some (emp v.S&&((v.L.length:Int)==0)) from by unfold emp; cases iK v.S (ByteArray.mk #[])<;>rfl,
   show (bif v.N==0 then some ((v.L.length:Int)==0) else some false)=some ((v.N==0)&&((v.L.length:Int)==0)) from by cases v.N==0<;>rfl,
   show (bif v.N==0 then some (iK v.S (ByteArray.mk #[])) else some false)=some ((v.N==0)&&emp v.S) from by unfold emp; cases v.N==0<;>rfl]
  simp only[Sw]
  rw[pK,rf]
  by_cases k1:v.Kind<1
  ·rw[SD k1]
   refine⟨0,?_,?_⟩
   ·rw[show (v.Kind==1)=false from r9,show (v.Kind==2)=false from r9,show (v.Kind==3)=false from r9]; rfl
   ·rw[show (v.Kind==1)=false from r9,show (v.Kind==2)=false from r9,show (v.Kind==3)=false from r9]; intro h; cases h
  by_cases k2:3<v.Kind
  ·rw[SK k1,SD k2]
   refine⟨0,?_,?_⟩
   ·rw[show (v.Kind==1)=false from r9,show (v.Kind==2)=false from r9,show (v.Kind==3)=false from r9]; rfl
   ·rw[show (v.Kind==1)=false from r9,show (v.Kind==2)=false from r9,show (v.Kind==3)=false from r9]; intro h; cases h
  rw[SK k1,SK k2]
  simp only[SA,SC,Sw]
  rcases (show v.Kind=1∨v.Kind=2∨v.Kind=3 by omega) with hk | hk | hk
  ·rw[hk]
   simp only[show decide ((1:Int)=0)=false from rfl,show decide ((1:Int)=1)=true from rfl,show decide ((1:Int)<3)=true from rfl,show ((1:Int)==1)=true from rfl,show ((1:Int)==3)=false from rfl,SA,SC,Sw]
   cases emp v.S&&((v.L.length:Int)==0) with
   | false=>exact⟨0,rfl,fun h=>by cases h⟩
   | true=>exact⟨0,rfl,fun _=>rfl⟩
  ·rw[hk]
   simp only[show decide ((2:Int)=0)=false from rfl,show decide ((2:Int)=1)=false from rfl,show decide ((2:Int)=2)=true from rfl,show decide ((2:Int)<3)=true from rfl,show ((2:Int)==1)=false from rfl,show ((2:Int)==2)=true from rfl,show ((2:Int)==3)=false from rfl,SA,SC,Sw]
   cases (v.N==0)&&((v.L.length:Int)==0) with
   | false=>exact⟨0,rfl,fun h=>by cases h⟩
   | true=>exact⟨0,rfl,fun _=>rfl⟩
  ·rw[hk]
   simp only[show decide ((3:Int)=0)=false from rfl,show decide ((3:Int)=1)=false from rfl,show decide ((3:Int)=2)=false from rfl,show decide ((3:Int)=3)=true from rfl,show decide ((3:Int)<3)=false from rfl,show ((3:Int)==1)=false from rfl,show ((3:Int)==2)=false from rfl,show ((3:Int)==3)=true from rfl,SA,SC,Sw]
   cases hc:(v.N==0)&&emp v.S with
   | false=>exact⟨0,r8,fun h=>by simp at h⟩
   | true=>
    rw[hc] at h1
    simp only[S0,SA,h1,Sw]
    cases r with
    | inl p=>
     obtain ⟨h3,h4,h5⟩:=h2
     obtain ⟨p1,p2⟩:=p
     refine⟨0,?_,fun h=>?_⟩
     ·rw[h3]; simp only at h4 h5; subst h4; subst h5; rfl
     ·rw[h3] at h; cases h
    | inr x=>
     obtain ⟨h3,h4⟩:=h2
     have hd:=oO v.L
     refine⟨_,by rw[h3]; rfl,fun _=>?_⟩
     rw[h4,df o3 o3]
     omega
theorem IB:db=140737488355328:=r7
theorem jh {T:Type} (b:Nat) (l l2:List T) (h:(l.length+l2.length)*b<=db):cF b l l2=some (l++l2):=by unfold cF; rw[SD h]; rfl
theorem ql (l l2:List UInt8) (h:l.length+l2.length<=140737488355328):cF 1 l l2=some (l++l2):=jh _ _ _ (by rw[IB]; omega)
def num (n:Nat):List UInt8:=if h:n<128 then [UInt8.ofNat n] else UInt8.ofNat (n % 128+128) :: num (n / 128)
termination_by n
decreasing_by omega
theorem n9 {n:Nat} (h:n<128):num n=[UInt8.ofNat n]:=by rw[num]; exact dif_pos h
theorem vA {n:Nat} (h:¬ n<128):num n=UInt8.ofNat (n % 128+128) :: num (n / 128):=by rw[num]; exact dif_neg h
theorem zU:∀ (k n:Nat),n<128 ^ k->(num n).length<=max k 1
 | 0,n,h=>by rw[n9 (by simpa using SQ h (by decide))]; simp
 | k+1,n,h=>by
  by_cases h1:n<128
  ·rw[n9 h1]; simp
  ·rw[vA h1,SW]
   have hk:0<k:=by
    rcases Vi k with rfl | hk
    ·simp at h; omega
    ·exact hk
   have:=zU k (n / 128) (by rw[U5 (by decide)]; rw[Wx] at h; exact h)
   omega
theorem n8 {n:Nat} (h:n<18446744073709551616):(num n).length<=10:=zU 10 n (SQ h (by decide))
theorem Ih (n:Nat):wr .u8 (n:Int)=((n % 256:Nat):Int):=by
 unfold wr IntKind.wrap
 simp[IntKind.bits,IntKind.signed]
theorem Kj:∀ c:Fin 256,me .u8 (c.val:Int) 128=((c.val % 128+128:Nat):Int):=by decide +kernel
theorem HL (n:Nat):me .u8 (wr .u8 (n:Int)) 128=((n % 128+128:Nat):Int):=by
 rw[Ih]
 have:=Kj ⟨n % 256,UF _ (by decide)⟩
 rw[this]
 simp only
 congr 2
 omega
theorem O0 (n:Nat):je .u64 (n:Int) 7=((n / 128:Nat):Int):=by
 unfold je
 show Int.fdiv (n:Int) (2 ^ 7)=_
 rw[UK _ (by decide)]
 rfl
theorem qB (G:Nat->Int->List UInt8->Option (Int×List UInt8)) (hG:∀ m v l,G (m+1) v l=bif decide (128<=v) then (bif (decide (0<=(me .u8 (wr .u8 (v)) 128))&&decide ((me .u8 (wr .u8 (v)) 128)<256)) then (Option.bind (cF 1 l ([(UInt8.ofNat (Int.toNat (me .u8 (wr .u8 (v)) 128)))])) fun y=>G m (je .u64 v 7) y) else none) else some (v,l)) :
  ∀ (k m n:Nat) (l:List UInt8),n<128 ^ k->k<=11->k<m->l.length+k<=140737488355328->∃ (y:Nat) (ini:List UInt8),y<128/\G m (n:Int) l=some ((y:Int),l++ini)/\num n=ini++[UInt8.ofNat y]
 | 0,m,n,l,h,_,hm,hl=>by
  obtain ⟨m,rfl⟩:∃ q,m=q+1:=⟨m - 1,o3⟩
  have h:n<1:=h
  exact⟨n,[],o3,by rw[hG,SK o3,TG]; rfl,by rw[n9 o3]; rfl⟩
 | k+1,m,n,l,h,hk,hm,hl=>by
  obtain ⟨m,rfl⟩:∃ q,m=q+1:=⟨m - 1,o3⟩
  by_cases h1:n<128
  ·exact⟨n,[],h1,by rw[hG,SK o3,TG]; rfl,by rw[n9 h1]; rfl⟩
  ·have hq:n / 128<128 ^ k:=by rw[U5 (by decide)]; rw[Wx] at h; exact h
   rw[hG,SD o3,HL,SD o3,SD o3,O0,T1]
   simp only[SC,Ut]
   rw[ql _ _ r9,Sw]
   obtain ⟨y,ini,h2,h3,h4⟩:=qB G hG k m (n / 128) (l++[UInt8.ofNat (n % 128+128)]) hq o3 o3 r9
   exact⟨y,UInt8.ofNat (n % 128+128) :: ini,h2,by rw[h3,Tt]; rfl,by rw[vA h1,h4]; rfl⟩
theorem O3 {y:Nat} (h:y<128):wr .u8 (y:Int)=(y:Int):=by rw[Ih,UD o3]
theorem HX:∀ (k q n:Nat),n<128 ^ k->k<=11->k<q->n<18446744073709551616->vZ q (n:Int)=some (num n)
 | 0,q,n,h,_,hq,hn=>by
  obtain ⟨q,rfl⟩:∃ p,q=p+1:=⟨q - 1,o3⟩
  have h:n<1:=h
  show xK (vZ q) az _=_
  unfold xK
  rw[SD o3,O3 o3,SD o3,SD o3,n9 o3]
  rfl
 | k+1,q,n,h,hk,hq,hn=>by
  obtain ⟨q,rfl⟩:∃ p,q=p+1:=⟨q - 1,o3⟩
  show xK (vZ q) az _=_
  unfold xK
  by_cases h1:n<128
  ·rw[SD o3,O3 h1,SD o3,SD o3,n9 h1]
   rfl
  ·have hk0:0<k:=by
    rcases Vi k with rfl | hk
    ·simp at h; omega
    ·exact hk
   have hq2:n / 128<128 ^ k:=by rw[U5 (by decide)]; rw[Wx] at h; exact h
   have e1:Int.tmod (n:Int) 128=((n % 128:Nat):Int):=rfl
   have e2:Int.tdiv (n:Int) 128=((n / 128:Nat):Int):=rfl
   have wu:∀ z:Nat,z<18446744073709551616->wr .u64 (z:Int)=(z:Int):=fun z hz=>by
    unfold wr IntKind.wrap
    simp[IntKind.bits,IntKind.signed]
    omega
   rw[SK o3]
   simp only[SA]
   rw[e1,e2,show ((n % 128:Nat):Int)+128=((n % 128+128:Nat):Int) by omega,wu _ o3,wu _ o3,Ih (n % 128+128),UD (show n % 128+128<256 by omega),SD o3,SD o3,T1]
   simp only[SC,SA,Ut]
   rw[HX k q (n / 128) hq2 o3 o3 o3,Sw,ql _ _ (by have:=n8 (n:=n / 128) o3; simp; omega),vA h1]
   rfl
theorem Nd (n:Nat) (h:n<18446744073709551616):Am (n:Int)=some (num n):=HX 10 az n (SQ h (by decide)) o3 s5 h
def Al (n:Int):Nat:=if 0<=n then (2*n).toNat else (-2*n - 1).toNat
theorem zd (z:Int):wr .u64 z=z % 18446744073709551616:=by
 unfold wr IntKind.wrap
 simp[IntKind.bits,IntKind.signed]
theorem vL {n:Int} (h:jq n):Al n<18446744073709551616:=by
 obtain ⟨h1,h2⟩:=h
 unfold Al; split<;>omega
theorem RX (n:Int) (h:jq n):Bd n=some (Al n:Int):=by
 obtain ⟨h1,h2⟩:=h
 unfold Bd DX Al
 by_cases h0:0<=n
 ·rw[SD h0,SH h0]
  simp only[SC,zd]
  congr 1; omega
 ·rw[SK h0,SI h0,df (n:=n+1) o3 o3,df (n:=0 - (n+1)) o3 o3]
  simp only[SA,zd]
  congr 1; omega
theorem xor_zero (a:Int) (h:0<=a) (h':a<18446744073709551616):qs .u64 a 0=a:=by
 unfold qs
 show IntKind.wrap .u64 ((BitVec.ofInt 64 a ^^^ BitVec.ofInt 64 0).toNat:Int)=a
 rw[show BitVec.ofInt 64 0=0#64 from rfl,BitVec.xor_zero]
 have:=zd ((BitVec.ofInt 64 a).toNat:Int)
 unfold wr at this
 rw[this,Uw]
 omega
theorem DM (a:Int) (h:0<=a) (h':a<18446744073709551616):qs .u64 a 18446744073709551615=18446744073709551615 - a:=by
 unfold qs
 show IntKind.wrap .u64 ((BitVec.ofInt 64 a ^^^ BitVec.ofInt 64 18446744073709551615).toNat:Int)=_
 rw[show BitVec.ofInt 64 18446744073709551615=BitVec.allOnes 64 from rfl,BitVec.xor_allOnes,BitVec.toNat_not]
 have:=zd (((2 ^ 64 - 1 - (BitVec.ofInt 64 a).toNat:Nat)):Int)
 unfold wr at this
 rw[this,Uw]
 omega
theorem RW (n:Int) (h:jq n):GS n=some (Al n:Int):=by
 obtain ⟨h1,h2⟩:=h
 unfold GS Lr
 have e1:ot .u64 (wr .u64 n) 1=(2*n) % 18446744073709551616:=by
  unfold ot
  have:=zd (wr .u64 n*2 ^ 1)
  unfold wr at this ⊢
  show IntKind.wrap .u64 (IntKind.wrap .u64 n*2 ^ 1)=_
  rw[this]
  have h4:=zd n
  unfold wr at h4
  rw[h4]; omega
 have e2:je .i64 n 63=n / 9223372036854775808:=by
  unfold je
  show Int.fdiv n (2 ^ 63)=_
  rw[UK _ (by decide)]
  rfl
 rw[e1,e2]
 congr 1
 unfold Al
 by_cases h0:0<=n
 ·rw[SH h0,show n / 9223372036854775808=0 by omega,show wr .u64 0=0 from rfl,xor_zero _ o3 o3]; omega
 ·rw[SI h0,show n / 9223372036854775808=-1 by omega,show wr .u64 (-1)=18446744073709551615 from rfl,DM _ o3 o3]; omega
mutual
def my:ah->List UInt8
 | .mk k n s l=>bif k==1 then 1 :: num (Al n) else bif k==2 then 2 :: (num s.size++kF s) else 3 :: (num l.length++lq l)
def lq:List ah->List UInt8
 | []=>[]
 | x :: r=>my x++lq r
end
theorem fI (v:ah):my v=bif v.Kind==1 then 1 :: num (Al v.N) else bif v.Kind==2 then 2 :: (num v.S.size++kF v.S) else 3 :: (num v.L.length++lq v.L):=by cases v; rw[my]
theorem oP:lq []=[]:=by rw[lq]
theorem gZ (x:ah) (r:List ah):lq (x :: r)=my x++lq r:=by rw[lq]
theorem kG (s:ByteArray):(kF s).length=s.size:=rfl
mutual
theorem Ei:∀ (v:ah),cw v->nE v<=1100000->(my v).length<=420*nE v
 | .mk k n s l,h,hn=>by
  rw[cw] at h
  obtain ⟨⟨_,h2,_,_⟩,h5⟩:=h
  rw[nE] at hn
  have h1:=ri l h5 o3
  have h3:=eC l
  rw[my,nE]
  have l1:=n8 (n:=Al n) (vL h2)
  have l2:=n8 (n:=s.size) o3
  have l3:=n8 (n:=l.length) o3
  cases k==1 with
  | true=>simp only[SC,SW]; omega
  | false=>
   cases k==2 with
   | true=>simp only[SC,SA,SW,SX,kG]; omega
   | false=>simp only[SA,SW,SX]; omega
theorem ri:∀ (l:List ah),fA l->nr l<=1100000->(lq l).length<=420*nr l
 | [],_,_=>by rw[oP,pb]; simp
 | x :: r,h,hn=>by
  rw[fA] at h
  rw[kQ] at hn ⊢
  have h1:=Ei x h.1 o3
  have h2:=ri r h.2 o3
  rw[gZ,SX]; omega
end
theorem yp {v:ah} (h:cw v) (hn:nE v<=1100000):(lq v.L).length<=462000000:=by
 have h4:=((fz v).1 h).2.2.2.2
 rw[eJ] at hn
 have:=ri v.L ((lE _).2 h4) o3; omega
theorem sz {v:ah} (hn:nE v<=1100000):v.S.size<=220000000:=by rw[eJ] at hn; omega
theorem CL (self:ah->Option (List UInt8)) (n:Nat) (z:List UInt8) (v:ah) (hv:cw v) (hn:nE v<=1100000) (hself:∀ e∈v.L,self e=some (my e)) :
  ∀ (k m i:Nat) (l:List UInt8),i+k=v.L.length->k<m->l.length+(lq (v.L.drop i)).length<=140737488355328->jm self n v m (i:Int) l=some (l++lq (v.L.drop i))
 | 0,m,i,l,h1,h2,h3=>by
  obtain ⟨m,rfl⟩:∃ q,m=q+1:=⟨m - 1,o3⟩
  rw[jm,SK o3,S8.2 o3,oP,TG]
  rfl
 | k+1,m,i,l,h1,h2,h3=>by
  obtain ⟨m,rfl⟩:∃ q,m=q+1:=⟨m - 1,o3⟩
  have hi:i<v.L.length:=o3
  have hl:=eC v.L
  have hn':=hn
  rw[eJ] at hn'
  rw[SU hi,gZ,SX] at h3
  rw[jm,SD o3,SU hi,gZ]
  simp only[SC,bB,Sx hi,Sw,hself _ (Tb hi)]
  rw[ql _ _ o3,Sw,df o3 o3,show (i:Int)+1=((i+1:Nat):Int) by omega]
  rw[CL self n z v hv hn hself k m (i+1) _ o3 o3 Sq,Tt]
theorem vN (n:Nat) (h:n<18446744073709551616):wr .u64 (n:Int)=(n:Int):=by rw[zd]; omega
theorem P0:∀ (q:Nat) (v:ah),cw v->nE v<=q->nE v<=1100000->Gb q v=some (my v)
 | 0,v,_,h,_=>by have:=na v; omega
 | q+1,v,hv,h,hn=>by
  obtain ⟨_,h2,_,_,h4⟩:=(fz v).1 hv
  have hs:=sz hn
  have he:=yp hv hn
  have hl:=eC v.L
  have hn':=hn
  rw[eJ] at hn' h
  have l1:=n8 (n:=Al v.N) (vL h2)
  have l2:=n8 (n:=v.S.size) o3
  have l3:=n8 (n:=v.L.length) o3
  show IG (Gb q) az v=_
  unfold IG
  rw[fI]
  cases hk1:v.Kind==1 with
  | true=>
   simp only[SC,RX _ h2,Sw,Nd _ (vL h2)]
   rw[ql _ _ r9]; rfl
  | false=>
   cases hk2:v.Kind==2 with
   | true=>
    simp only[SC,SA]
    rw[vN _ o3,Nd _ o3,Sw,ql _ _ r9,Sw,ql _ _ (by simp[kG]; omega)]
    simp
   | false=>
    simp only[SA]
    rw[vN _ o3,Nd _ o3,Sw,ql _ _ r9,Sw]
    have:=CL (Gb q) az [] v hv hn (fun e he=>by
     have:=jB he
     exact P0 q e (h4 e he) o3 o3) v.L.length (az+8) 0 ([(3:UInt8)]++num v.L.length) o3 s5 (by rw[Tq]; simp; omega)
    rw[show ((0:Nat):Int)=0 from rfl,Tq] at this
    rw[this]
    simp
theorem RV (v:ah) (hv:cw v) (hn:nE v<=1100000):Lu v=some (my v):=P0 az v hv s5 hn
theorem rD:∀ {l:List ah},l0 l=true->∀ e∈l,vM e=true
 | x :: r,h,e,he=>by
  rw[mZ,Sz] at h
  rcases Ti.1 he with rfl | he
  ·exact h.1
  ·exact rD h.2 e he
theorem wS {v:ah} (h:vM v=true):v.Kind=1∨v.Kind=2∨(v.Kind=3/\l0 v.L=true):=by
 rw[pK] at h
 cases h1:v.Kind==1 with
 | true=>exact .inl (by simpa using h1)
 | false=>
  cases h2:v.Kind==2 with
  | true=>exact .inr (.inl (by simpa using h2))
  | false=>
   cases h3:v.Kind==3 with
   | true=>
    rw[h1,h2,h3] at h
    simp only[SC,SA,Sz] at h
    exact .inr (.inr ⟨by simpa using h3,h.1⟩)
   | false=>rw[h1,h2,h3] at h; cases h
theorem Hp {y:Nat} (h:y<128) {β:Type} (k:List UInt8->Option β) (l:List UInt8) (hl:l.length<=1000000000000) :
  (bif (decide (0<=(wr .u8 (y:Int)))&&decide ((wr .u8 (y:Int))<256)) then Option.bind (cF 1 l ([(UInt8.ofNat (Int.toNat (wr .u8 (y:Int))))])) k else none)=k (l++[UInt8.ofNat y]):=by
 rw[O3 h,SD o3,SD o3,ql _ _ r9,T1]
 rfl
theorem Oi {n:Nat} (h:n<18446744073709551616):n<128 ^ 10:=SQ h (by decide)
theorem CR (self:ah->ah->(List UInt8)->ah->Option (List UInt8)) (n:Nat) (hn:50<=n) (z:List UInt8) (b0 b3 x:ah) (L:List ah) (hL:nr L<=1100000) (hf:l0 L=true) (hok:∀ e∈L,cw e)
  (hself:∀ e∈L,e.Kind=3->∀ l:List UInt8,l.length+(my e).length<=100000000000->self b0 b3 l e=some (l++my e)) :
  ∀ (k m i:Nat) (l:List UInt8),i+k=L.length->k<m->l.length+(lq (L.drop i)).length<=100000000000->dQ self n z L (L.length:Int) b0 b3 x m (i:Int) l=some (l++lq (L.drop i))
 | 0,m,i,l,h1,h2,h3=>by
  obtain ⟨m,rfl⟩:∃ q,m=q+1:=⟨m - 1,o3⟩
  rw[dQ,SK o3,S8.2 o3,oP,TG]
  rfl
 | k+1,m,i,l,h1,h2,h3=>by
  obtain ⟨m,rfl⟩:∃ q,m=q+1:=⟨m - 1,o3⟩
  have hi:i<L.length:=o3
  have hl:=eC L
  have hme:L[i]∈L:=Tb hi
  have hne:=jB hme
  have hs:=sz (v:=L[i]) o3
  obtain ⟨_,hN,_,_,_⟩:=(fz L[i]).1 (hok _ hme)
  rw[SU hi,gZ,SX] at h3
  have ih:=CR self n hn z b0 b3 x L hL hf hok hself k m (i+1) (l++my L[i]) o3 o3 Sq
  rw[dQ,SD o3,SU hi,gZ]
  simp only[SC,bB,Sx hi,Sw]
  rw[df o3 o3,show (i:Int)+1=((i+1:Nat):Int) by omega,<-Tt]
  have h3':=h3
  rw[fI] at h3
  generalize hE:lq (L.drop (i+1))=E at h3 h3' ih ⊢
  rcases wS (rD hf _ hme) with hk | hk | ⟨hk,_⟩
  ·rw[hk] at h3 ⊢
   simp only[show ((1:Int)==1)=true from rfl,SC,SW] at h3
   simp only[show decide ((1:Int)=0)=false from rfl,show decide ((1:Int)=1)=true from rfl,SC,SA,RW _ hN,Sw]
   rw[ql _ _ r9,Sw]
   obtain ⟨y,ini,e1,e2,e3⟩:=qB (fg n) (fun _ _ _=>rfl) 10 (n+6) (Al L[i].N) (l++[1]) (Oi (vL hN)) o3 o3 r9
   have e4:(num (Al L[i].N)).length=ini.length+1:=by rw[e3]; simp
   try simp only at e2
   rw[e2,Sw]
   try simp only
   rw[Hp e1 _ _ r9]
   rw[fI,hk] at ih
   simp only[show ((1:Int)==1)=true from rfl,SC,e3] at ih
   rw[fI,hk]
   simp only[show ((1:Int)==1)=true from rfl,SC,e3]
   rw[<-ih]
   congr 1
   simp
  ·rw[hk] at h3 ⊢
   simp only[show ((2:Int)==1)=false from rfl,show ((2:Int)==2)=true from rfl,SC,SA,SW,SX,kG] at h3
   simp only[show decide ((2:Int)=0)=false from rfl,show decide ((2:Int)=1)=false from rfl,show decide ((2:Int)=2)=true from rfl,SC,SA]
   rw[ql _ _ r9,Sw,vN _ o3]
   obtain ⟨y,ini,e1,e2,e3⟩:=qB (fg n) (fun _ _ _=>rfl) 10 (n+6) L[i].S.size (l++[2]) (Oi o3) o3 o3 r9
   have e4:(num L[i].S.size).length=ini.length+1:=by rw[e3]; simp
   try simp only at e2
   rw[e2,Sw]
   try simp only
   rw[Hp e1 _ _ r9,ql _ _ (by simp[kG]; omega),Sw]
   rw[fI,hk] at ih
   simp only[show ((2:Int)==1)=false from rfl,show ((2:Int)==2)=true from rfl,SC,SA,e3] at ih
   rw[fI,hk]
   simp only[show ((2:Int)==1)=false from rfl,show ((2:Int)==2)=true from rfl,SC,SA,e3]
   rw[<-ih]
   congr 1
   simp
  ·rw[hk]
   simp only[show decide ((3:Int)=0)=false from rfl,show decide ((3:Int)=1)=false from rfl,show decide ((3:Int)=2)=false from rfl,show decide ((3:Int)=3)=true from rfl,SC,SA]
   rw[hself _ hme hk l o3,Sw]
   exact ih
theorem KS:∀ (q N:Nat) (b0 b3:ah) (l:List UInt8) (v:ah),v.Kind=3->vM v=true->cw v->nE v<=q->nE v<=1100000->q+2000000<=N->l.length+(my v).length<=100000000000->wb N b0 b3 l v=some (l++my v)
 | 0,N,b0,b3,l,v,_,_,_,h,_,_,_=>by have:=na v; omega
 | q+1,N,b0,b3,l,v,hk,hf,hv,h,hn,hN,hl=>by
  obtain ⟨N,rfl⟩:∃ p,N=p+1:=⟨N - 1,o3⟩
  obtain ⟨_,h2,_,_,h4⟩:=(fz v).1 hv
  have hll:=eC v.L
  have hn':=hn
  rw[eJ] at hn' h
  have hfs:l0 v.L=true:=by
   rcases wS hf with h | h | h
   ·omega
   ·omega
   ·exact h.2
  show (bif Nat.ble 8 N then tq (wb N) (N - 8) b0 b3 l v else none)=_
  rw[TI (by omega:8<=N)]
  simp only[SC]
  unfold tq
  rw[fI,hk] at hl ⊢
  simp only[show ((3:Int)==1)=false from rfl,show ((3:Int)==2)=false from rfl,SA,SW,SX] at hl ⊢
  rw[ql _ _ r9,Sw,vN _ o3]
  obtain ⟨y,ini,e1,e2,e3⟩:=qB (jl (N - 8)) (fun _ _ _=>rfl) 10 (N - 8+7) v.L.length (l++[3]) (Oi o3) o3 o3 r9
  have e4:(num v.L.length).length=ini.length+1:=by rw[e3]; simp
  try simp only at e2
  rw[e2,Sw]
  try simp only
  rw[Hp e1 _ _ r9]
  have:=CR (wb N) (N - 8) o3 [] b0 b3 v v.L o3 hfs h4 (fun e he hke l' hl'=>by
   have:=jB he
   exact KS q N b0 b3 l' e hke (rD hfs e he) (h4 e he) o3 o3 o3 hl') v.L.length (N - 8+8) 0 (l++[3]++ini++[UInt8.ofNat y]) o3 o3 (by rw[Tq]; simp; omega)
  rw[show ((0:Nat):Int)=0 from rfl,Tq] at this
  rw[this,e3]
  simp
theorem yV (s:ByteArray):iK s s=true:=by unfold iK; exact Ua _
def iQ:Nat->List UInt8->Option (Nat×List UInt8)
 | _,[]=>none
 | c,b :: r=>if (0<c/\b.toNat=0)∨(9<=c/\1<b.toNat) then none else if b.toNat<128 then some (b.toNat,r) else match iQ (c+1) r with
  | some (n,t)=>some (b.toNat - 128+128*n,t)
  | none=>none
theorem pw (c:Nat):2 ^ (7*(c+1))=128*2 ^ (7*c):=by rw[Ve,Wz]; omega
theorem w5:∀ (l:List UInt8) (c n:Nat) (r:List UInt8),iQ c l=some (n,r)->c<=9->l=num n++r/\(0<c->n≠0)/\2 ^ (7*c)*n<18446744073709551616
 | [],c,n,r,h,_=>by rw[iQ] at h; cases h
 | b :: l,c,n,r,h,hc=>by
  have hb:=b.toNat_lt
  rw[iQ] at h
  split at h
  ·cases h
  rename_i h1
  split at h
  ·rename_i h2
   cases h
   refine⟨?_,fun h3 h4=>h1 (.inl ⟨h3,h4⟩),?_⟩
   ·rw[n9 h2,VQ]; rfl
   ·have:2 ^ (7*9)=9223372036854775808:=by decide
    by_cases h9:c=9
    ·subst h9; omega
    ·have h8:2 ^ (7*c)<=2 ^ 56:=VD (by decide) o3
     have h7:2 ^ (7*c)*b.toNat<=2 ^ 56*127:=Wi h8 o3
     omega
  ·rename_i h2
   split at h
   ·rename_i m t h3
    cases h
    have h9:c≠9:=fun h=>h1 (.inr ⟨o3,o3⟩)
    obtain ⟨h4,h5,h6⟩:=w5 l (c+1) m _ h3 o3
    have h5:=h5 o3
    refine⟨?_,fun _=>o3,?_⟩
    ·rw[vA o3,show (b.toNat - 128+128*m) % 128+128=b.toNat by omega,show (b.toNat - 128+128*m) / 128=m by omega,VQ,h4]
     rfl
    ·rw[pw] at h6
     have h8:2 ^ (7*c)*(b.toNat - 128)+2 ^ (7*c)*(128*m)<18446744073709551616:=by
      have e:2 ^ (7*c)*(128*m)=128*2 ^ (7*c)*m:=by rw[TU 128 (2 ^ (7*c)),VN]
      rw[e]
      have hlt:b.toNat - 128<128:=o3
      have h10:2 ^ (7*c)*(b.toNat - 128)<2 ^ (7*c)*128:=Nat.mul_lt_mul_of_pos_left hlt (Nat.two_pow_pos _)
      have h11:2 ^ (7*c)*128*m<18446744073709551616:=by rw[TU (2 ^ (7*c))]; exact h6
      have hd:18446744073709551616=2 ^ (7*c)*128*2 ^ (64 - (7*c+7)):=by
       rw[VN,show 128*2 ^ (64 - (7*c+7))=2 ^ (64 - 7*c) by
        rw[show 128=2 ^ 7 from rfl,<-Wz]; congr 1; omega,<-Wz,show 7*c+(64 - 7*c)=64 by omega]
      rw[hd] at h11
      have h12:m<2 ^ (64 - (7*c+7)):=Nat.lt_of_mul_lt_mul_left h11
      have h13:2 ^ (7*c)*128*(m+1)<=2 ^ (7*c)*128*2 ^ (64 - (7*c+7)):=UC _ h12
      rw[<-hd,Ve,Nat.mul_one] at h13
      rw[TU 128 (2 ^ (7*c))]
      omega
     rw[Ve]; exact h8
   ·cases h
theorem gK {l:List UInt8} {n:Nat} {r:List UInt8} (h:iQ 0 l=some (n,r)):l=num n++r/\n<18446744073709551616/\r.length<l.length:=by
 obtain ⟨h1,_,h2⟩:=w5 l 0 n r h o3
 refine⟨h1,o3,?_⟩
 have:num n≠[]:=by
  rw[num]; split<;>simp
 have:=List.length_pos_iff.2 this
 rw[h1,SX]; omega
theorem G6:∀ c:Fin 256,oB .u8 (c.val:Int) 127=((c.val % 128:Nat):Int):=by decide +kernel
theorem P3 {b c:Nat} (hc:c<=9) (h:c=9->b<=1) (hb:b<128):ot .u64 (wr .u64 (b:Int)) (wr .i64 (7*(c:Int)))=((2 ^ (7*c)*b:Nat):Int):=by
 rw[df o3 o3,vN _ o3]
 unfold ot
 rw[show (7*(c:Int)).toNat=7*c by omega,show min (7*c) (IntKind.bits .u64)=7*c from Ug (by show 7*c<=64; omega)]
 have e:((b:Int)*2 ^ (7*c))=((2 ^ (7*c)*b:Nat):Int):=by rw[UY,Int.natCast_pow,Wv]; rfl
 rw[e]
 have:=vN (2 ^ (7*c)*b) (by
  have h9:2 ^ (7*9)=9223372036854775808:=by decide
  by_cases h1:c=9
  ·have:=h h1; subst h1; rcases (show b=0∨b=1 by omega) with rfl | rfl<;>omega
  ·have h8:2 ^ (7*c)<=2 ^ 56:=VD (by decide) o3
   have:=Wi h8 (show b<=127 by omega)
   omega)
 exact this
theorem JZ {a b c:Nat} (hc:c<=9) (h:c=9->b<=1) (hb:b<128) (ha:a<2 ^ (7*c)):a+2 ^ (7*c)*b<18446744073709551616:=by
 have h9:2 ^ (7*9)=9223372036854775808:=by decide
 by_cases h1:c=9
 ·have:=h h1; subst h1; rcases (show b=0∨b=1 by omega) with rfl | rfl<;>omega
 ·have h8:2 ^ (7*c)<=2 ^ 56:=VD (by decide) o3
  have:=Wi h8 (show b<=127 by omega)
  omega
theorem R8 {a b c:Nat} (hc:c<=9) (h:c=9->b<=1) (hb:b<128) (ha:a<2 ^ (7*c)):me .u64 (a:Int) ((2 ^ (7*c)*b:Nat):Int)=((a+2 ^ (7*c)*b:Nat):Int):=by
 have h1:=JZ hc h hb ha
 unfold me
 show IntKind.wrap .u64 ((BitVec.ofInt 64 (a:Int) ||| BitVec.ofInt 64 ((2 ^ (7*c)*b:Nat):Int)).toNat:Int)=_
 rw[BitVec.toNat_or,Uw,Uw]
 have e1:((a:Int) % ((2 ^ 64:Nat):Int)).toNat=a:=o3
 have e2:(((2 ^ (7*c)*b:Nat):Int) % ((2 ^ 64:Nat):Int)).toNat=2 ^ (7*c)*b:=o3
 rw[e1,e2,Nat.or_comm,<-Nat.two_pow_add_eq_or_of_lt ha,VW]
 exact vN _ h1
theorem vG (G:Nat->Int->Int->List UInt8->Option ((List UInt8)⊕(Int×List UInt8))) (hG:∀ m v6 v7 v8,G (m+1) v6 v7 v8=bif (!(decide (1<=((v8.length:Int))))) then (some ((Sum.inl v8))) else (Option.bind (gD v8 0 1) fun y13=>Option.bind (gD v8 1 ((v8.length:Int))) fun y14=>Option.bind (bE y13 0) fun y15=>Option.bind (bif (v7==0) then (some true) else (some (((y15.toNat:Int)) != 0))) fun y17=>Option.bind (bif y17 then (Option.bind (bif (decide (v7<9)) then (some true) else (some (decide (((y15.toNat:Int))<=1)))) fun y22=>some y22) else (some false)) fun y25=>bif (!y25) then (some ((Sum.inl y14))) else (bif decide (0<=(wr .i64 (7*v7))) then (bif (decide (((y15.toNat:Int))<128)) then (some ((Sum.inr ((me .u64 v6 (ot .u64 (wr .u64 (oB .u8 ((y15.toNat:Int)) 127)) (wr .i64 (7*v7))),y14))))) else (G m (me .u64 v6 (ot .u64 (wr .u64 (oB .u8 ((y15.toNat:Int)) 127)) (wr .i64 (7*v7)))) (wr .i64 (v7+1)) y14)) else none))) :
  ∀ (l:List UInt8) (m a c:Nat),c<=9->10<=m+c->a<2 ^ (7*c)->match iQ c l with
   | some (n,r)=>G m (a:Int) (c:Int) l=some (.inr (((a+2 ^ (7*c)*n:Nat):Int),r))
   | none=>∃ r,G m (a:Int) (c:Int) l=some (.inl r)
 | [],m,a,c,hc,hm,ha=>by
  obtain ⟨m,rfl⟩:∃ q,m=q+1:=⟨m - 1,o3⟩
  rw[iQ,hG]
  exact⟨_,rfl⟩
 | b :: l,m,a,c,hc,hm,ha=>by
  obtain ⟨m,rfl⟩:∃ q,m=q+1:=⟨m - 1,o3⟩
  have hb:=b.toNat_lt
  have hs1:gD (b :: l) 0 1=some [b]:=by
   unfold gD
   rw[show decide ((1:Int)<=((b :: l).length:Int))=true from SD Su]
   rfl
  have hs2:gD (b :: l) 1 ((b :: l).length:Int)=some l:=by
   unfold gD
   rw[show decide ((1:Int)<=((b :: l).length:Int))=true from SD Su,SD (Wc _)]
   simp
  have hc1:(bif ((c:Int)==0) then (some true) else (some (((b.toNat:Int)) != 0)))=some (!decide (0<c/\b.toNat=0)):=by
   by_cases h:c=0
   ·subst h; simp
   ·rw[show ((c:Int)==0)=false by simp; omega]
    simp only[SA]
    congr 1
    rw[TQ]
    simp
    omega
  have hc2:(bif (decide ((c:Int)<9)) then (some true) else (some (decide (((b.toNat:Int))<=1))))=some (!decide (9<=c/\1<b.toNat)):=by
   by_cases h:c<9
   ·rw[SD o3]
    simp only[SC]
    congr 1
    rw[TQ]
    simp
    omega
   ·rw[SK o3]
    simp only[SA]
    congr 1
    rw[TQ]
    simp
    omega
  have e127:oB .u8 ((b.toNat:Int)) 127=((b.toNat % 128:Nat):Int):=G6 ⟨b.toNat,hb⟩
  rw[iQ,hG,hs1,hs2,SD (show (1:Int)<=((b :: l).length:Int) by rw[SW]; omega)]
  simp only[S0,SA,Sw,show bE [b] 0=some b from rfl,hc1,hc2]
  by_cases h:(0<c/\b.toNat=0)∨(9<=c/\1<b.toNat)
  ·rw[SH h]
   refine⟨l,?_⟩
   by_cases h5:0<c/\b.toNat=0
   ·rw[SD h5]; rfl
   ·rw[SK h5,SD (show 9<=c/\1<b.toNat by omega)]; rfl
  ·rw[SI h,SK (show ¬ (0<c/\b.toNat=0) by omega),SK (show ¬ (9<=c/\1<b.toNat) by omega)]
   have hb9:c=9->b.toNat % 128<=1:=fun h9=>o3
   rw[e127,P3 hc hb9 o3,R8 hc hb9 o3 ha,SD (show 0<=wr .i64 (7*(c:Int)) by rw[df o3 o3]; omega)]
   simp only[UM,SC,Sw,S0,SA]
   by_cases h8:b.toNat<128
   ·rw[SH h8,SD o3,UD h8]
    rfl
   ·rw[SI h8,SK o3,df (n:=(c:Int)+1) o3 o3]
    have hlt:a+2 ^ (7*c)*(b.toNat % 128)<2 ^ (7*(c+1)):=by
     rw[pw]
     have:=UC (2 ^ (7*c)) (show b.toNat % 128<=127 by omega)
     omega
    have ih:=vG G hG l m (a+2 ^ (7*c)*(b.toNat % 128)) (c+1) o3 o3 hlt
    rw[show ((c+1:Nat):Int)=(c:Int)+1 by omega] at ih
    simp only[SA]
    cases hg:iQ (c+1) l with
    | none=>rw[hg] at ih; exact ih
    | some p=>
     obtain ⟨n,r⟩:=p
     rw[hg] at ih
     simp only at ih ⊢
     rw[ih,pw]
     congr 4
     rw[Ve,show b.toNat % 128=b.toNat - 128 by omega,Us,TU 128 (2 ^ (7*c)),VN]
theorem Ab (bs:List UInt8) (hbs:bs.length<=1100000) (G:Nat->Int->Int->Int->Bool->Option ((Int×Int×Bool)⊕(Int×Bool))) (hG:∀ m v5 v6 v8,G (m+1) v5 v6 v8 false=(Option.bind (bif (decide (((bs.length:Int))<=v8)) then (some ((0,v8,true))) else (Option.bind (bE bs (wr .i64 ((wr .i64 (v8+1)) - 1))) fun y=>some (((y.toNat:Int),wr .i64 (v8+1),false)))) fun (y348:Int×Int×Bool)=>Option.bind (bif (v6==9) then (some (decide (1<y348.1))) else (some false)) fun y350=>Option.bind (bif y350 then (some true) else (Option.bind (bif (decide (0<v6)) then (some (y348.1==0)) else (some false)) fun y355=>some y355)) fun y358=>bif y358 then (some ((Sum.inl ((0,y348.2.1,true))))) else (bif decide (0<=(wr .i64 (7*v6))) then (bif (decide (y348.1<128)) then (some ((Sum.inl ((wr .u64 (v5+(ot .u64 (wr .u64 (Int.tmod y348.1 128)) (wr .i64 (7*v6)))),y348.2.1,y348.2.2))))) else (G m (wr .u64 (v5+(ot .u64 (wr .u64 (Int.tmod y348.1 128)) (wr .i64 (7*v6))))) (wr .i64 (v6+1)) y348.2.1 y348.2.2)) else none))) :
  ∀ (k i m a c:Nat),i+k=bs.length->c<=9->10<=m+c->a<2 ^ (7*c)->match iQ c (bs.drop i) with
   | some (n,r)=>∃ j:Nat,G m (a:Int) (c:Int) (i:Int) false=some (.inl (((a+2 ^ (7*c)*n:Nat):Int),(j:Int),false))/\r=bs.drop j/\j<=bs.length
   | none=>∃ (x:Int) (j:Nat),G m (a:Int) (c:Int) (i:Int) false=some (.inl (x,(j:Int),true))/\j<=bs.length
 | 0,i,m,a,c,hi,hc,hm,ha=>by
  obtain ⟨m,rfl⟩:∃ q,m=q+1:=⟨m - 1,o3⟩
  rw[S8.2 o3,iQ,hG,SD o3]
  simp only[SC,Sw]
  rw[show (bif ((c:Int)==9) then (some (decide ((1:Int)<0))) else (some false))=some false by cases (c:Int)==9<;>rfl,SD (show 0<=wr .i64 (7*(c:Int)) by rw[df o3 o3]; omega)]
  by_cases h:(0:Int)<c
  ·rw[SD h]; exact⟨_,i,rfl,o3⟩
  ·rw[SK h]; exact⟨_,i,rfl,o3⟩
 | k+1,i,m,a,c,hi,hc,hm,ha=>by
  obtain ⟨m,rfl⟩:∃ q,m=q+1:=⟨m - 1,o3⟩
  have hil:i<bs.length:=o3
  rw[SU hil]
  generalize hb':bs[i]=b
  have hb:=b.toNat_lt
  have hc1:(bif ((c:Int)==9) then (some (decide (1<((b.toNat:Int))))) else (some false))=some (decide (9<=c/\1<b.toNat)):=by
   by_cases h:c=9
   ·subst h; simp; omega
   ·rw[show ((c:Int)==9)=false by simp; omega]
    simp only[SA]
    congr 1
    rw[TQ]
    simp
    omega
  have hc2:(bif (decide (0<(c:Int))) then (some (((b.toNat:Int))==0)) else (some false))=some (decide (0<c/\b.toNat=0)):=by
   by_cases h:0<c
   ·rw[SD o3]
    simp only[SC]
    congr 1
    rw[TQ]
    simp
    omega
   ·rw[SK o3]
    simp only[SA]
    congr 1
    rw[TQ]
    simp
    omega
  have e127:Int.tmod ((b.toNat:Int)) 128=((b.toNat % 128:Nat):Int):=rfl
  rw[iQ,hG,SK o3,df (n:=(i:Int)+1) o3 o3,show (i:Int)+1 - 1=(i:Int) by omega,df (n:=(i:Int)) o3 o3,bB,Sx hil,hb']
  simp only[SA,Sw,hc1,hc2]
  by_cases h:(0<c/\b.toNat=0)∨(9<=c/\1<b.toNat)
  ·rw[SH h]
   refine⟨0,i+1,?_,o3⟩
   by_cases h5:9<=c/\1<b.toNat
   ·rw[SD h5]; rfl
   ·rw[SK h5,SD (show 0<c/\b.toNat=0 by omega)]; rfl
  ·rw[SI h,SK (show ¬ (0<c/\b.toNat=0) by omega),SK (show ¬ (9<=c/\1<b.toNat) by omega)]
   have hb9:c=9->b.toNat % 128<=1:=fun h9=>o3
   have h64:=JZ hc hb9 (show b.toNat % 128<128 by omega) ha
   rw[e127,P3 hc hb9 o3,show (a:Int)+((2 ^ (7*c)*(b.toNat % 128):Nat):Int)=((a+2 ^ (7*c)*(b.toNat % 128):Nat):Int) from (Int.natCast_add _ _).symm,vN _ h64,SD (show 0<=wr .i64 (7*(c:Int)) by rw[df o3 o3]; omega)]
   simp only[UM,SC,Sw,S0,SA]
   by_cases h8:b.toNat<128
   ·rw[SH h8,SD o3,UD h8]
    exact⟨i+1,rfl,rfl,o3⟩
   ·rw[SI h8,SK o3,df (n:=(c:Int)+1) o3 o3]
    have hlt:a+2 ^ (7*c)*(b.toNat % 128)<2 ^ (7*(c+1)):=by
     rw[pw]
     have:=UC (2 ^ (7*c)) (show b.toNat % 128<=127 by omega)
     omega
    have ih:=Ab bs hbs G hG k (i+1) m (a+2 ^ (7*c)*(b.toNat % 128)) (c+1) o3 o3 o3 hlt
    rw[show ((c+1:Nat):Int)=(c:Int)+1 by omega,show ((i+1:Nat):Int)=(i:Int)+1 by omega] at ih
    simp only[SA]
    cases hg:iQ (c+1) (bs.drop (i+1)) with
    | none=>rw[hg] at ih; exact ih
    | some p=>
     obtain ⟨n,r⟩:=p
     rw[hg] at ih
     simp only at ih ⊢
     obtain ⟨j,ih,h10,h11⟩:=ih
     refine⟨j,?_,h10,h11⟩
     rw[ih,pw]
     congr 4
     rw[Ve,show b.toNat % 128=b.toNat - 128 by omega,Us,TU 128 (2 ^ (7*c)),VN]
theorem Ah (a b:ByteArray):iK a b=decide (a=b):=by
 rw[TQ]
 unfold iK
 rw[Wt,Wt]
 cases a; cases b
 simp
theorem Fu (a b:List UInt8):iK (fR a) (fR b)=decide (a=b):=by
 rw[Ah,TQ]
 simp[fR]
theorem zx (l:List UInt8):kF (fR l)=l:=by simp[fR,kF]
theorem AA (l:List UInt8):(fR l).size=l.length:=by rw[<-kG,zx]
theorem Ck {s:ByteArray}:emp s=true↔s=ByteArray.empty:=by
 unfold emp
 rw[Ah,U0]
 rfl
def sg (u:Nat):Int:=if u % 2=1 then -((u / 2:Nat):Int) - 1 else ((u / 2:Nat):Int)
theorem DP (u:Nat):Al (sg u)=u:=by unfold sg; split<;>(unfold Al; split<;>omega)
theorem KI {u:Nat} (h:u<18446744073709551616):jq (sg u):=by unfold sg jq; split<;>omega
theorem KU (z:Int):wr .i64 z=if 9223372036854775808<=z % 18446744073709551616 then z % 18446744073709551616 - 18446744073709551616 else z % 18446744073709551616:=by
 simp only[wr,IntKind.wrap,IntKind.bits,IntKind.signed]
 simp
theorem MU (z:Int) (h:-9223372036854775808<=z) (h':z<=9223372036854775807):wr .i64 ((BitVec.ofInt 64 z).toNat:Int)=z:=by
 rw[KU,Uw]
 split<;>omega
theorem zi (a:Int) (h:0<=a) (h':a<=9223372036854775807):qs .i64 a 0=a:=by
 unfold qs
 show wr .i64 ((BitVec.ofInt 64 a ^^^ BitVec.ofInt 64 0).toNat:Int)=a
 rw[show BitVec.ofInt 64 0=0#64 from rfl,BitVec.xor_zero]
 exact MU a o3 h'
theorem zh (a:Int) (h:0<=a) (h':a<=9223372036854775807):qs .i64 a (-1)=-a - 1:=by
 unfold qs
 show wr .i64 ((BitVec.ofInt 64 a ^^^ BitVec.ofInt 64 (-1)).toNat:Int)=_
 rw[show BitVec.ofInt 64 (-1)=BitVec.allOnes 64 from rfl,BitVec.xor_allOnes,BitVec.toNat_not,KU,Uw]
 split<;>omega
theorem MP (u:Nat) (h:u<18446744073709551616):oB .u64 (u:Int) 1=((u % 2:Nat):Int):=by
 unfold oB
 show wr .u64 ((BitVec.ofInt 64 (u:Int) &&& BitVec.ofInt 64 1).toNat:Int)=_
 rw[BitVec.toNat_and,Uw,show (BitVec.ofInt 64 1).toNat=1 from rfl,Nat.and_one_is_mod,show ((u:Int) % ((2 ^ 64:Nat):Int)).toNat=u by omega,vN _ o3]
theorem RY (u:Nat) (h:u<18446744073709551616):Be (u:Int)=some (sg u):=by
 unfold Be DZ
 have e1:je .u64 (u:Int) 1=((u / 2:Nat):Int):=by
  unfold je
  show Int.fdiv (u:Int) (2 ^ 1)=_
  rw[UK _ (by decide)]
  rfl
 rw[e1,MP u h,df (n:=((u / 2:Nat):Int)) o3 o3,df (n:=((u % 2:Nat):Int)) o3 o3,df o3 o3]
 congr 1
 unfold sg
 by_cases h2:u % 2=1
 ·rw[SH h2,h2,show (0:Int) - ((1:Nat):Int)=-1 from rfl,zh _ o3 o3]
 ·rw[SI h2,show u % 2=0 by omega,show (0:Int) - ((0:Nat):Int)=0 from rfl,zi _ o3 o3]
def gR (f:List UInt8->Option (ah×List UInt8)):Nat->List UInt8->Option (List ah×List UInt8)
 | 0,l=>some ([],l)
 | n+1,l=>match f l with
  | none=>none
  | some (v,r)=>match gR f n r with
   | none=>none
   | some (vs,t)=>some (v :: vs,t)
def wY (b:UInt8) (l:List UInt8) (h:Nat->List UInt8->Option (List ah×List UInt8)):Option (ah×List UInt8):=
 if b.toNat=1 then (match iQ 0 l with
  | none=>none
  | some (n,r)=>some (.mk 1 (sg n) ByteArray.empty [],r))
 else if b.toNat=2 then (match iQ 0 l with
  | none=>none
  | some (n,r)=>if n<=r.length then some (.mk 2 0 (fR (r.take n)) [],r.drop n) else none)
 else if b.toNat=3 then (match iQ 0 l with
  | none=>none
  | some (n,r)=>if n<=r.length then (match h n r with
   | none=>none
   | some (vs,t)=>some (.mk 3 0 ByteArray.empty vs,t)) else none)
 else none
def gQ:Nat->List UInt8->Option (ah×List UInt8)
 | _,[]=>none
 | 0,b :: l=>wY b l fun _ _=>none
 | k+1,b :: l=>wY b l (gR (gQ k))
def Got (k:Nat) (l:List UInt8) (v:ah) (r:List UInt8):Prop:=l=my v++r/\vM v=true/\dep v<=k/\cw v/\nE v<=(my v).length
theorem tV {f:List UInt8->Option (ah×List UInt8)} {k:Nat} (hf:∀ l v r,l.length<=1100000->f l=some (v,r)->Got k l v r):∀ (n:Nat) (l:List UInt8) (vs:List ah) (r:List UInt8),l.length<=1100000->gR f n l=some (vs,r) ->
  l=lq vs++r/\l0 vs=true/\nO vs<=k/\(∀ e∈vs,cw e)/\nr vs<=(lq vs).length/\vs.length=n
 | 0,l,vs,r,_,h=>by
  rw[gR] at h; cases h
  refine⟨?_,rE,by rw[oN]; omega,fun _ h=>absurd h (Va),by rw[pb]; omega,rfl⟩
  rw[oP]; rfl
 | n+1,l,vs,r,hl,h=>by
  rw[gR] at h
  split at h
  ·cases h
  rename_i v t hv
  split at h
  ·cases h
  rename_i ws u hw
  cases h
  obtain ⟨h1,h2,h3,h4,h5⟩:=hf l v t hl hv
  rw[h1,SX] at hl
  obtain ⟨g1,g2,g3,g4,g5,g6⟩:=tV hf n t ws r o3 hw
  refine⟨?_,?_,?_,?_,?_,?_⟩
  ·rw[h1,g1,gZ,Tt]
  ·rw[mZ,h2,g2]; rfl
  ·rw[mY]; omega
  ·intro e he
   rcases Ti.1 he with rfl | he
   ·exact h4
   ·exact g4 e he
  ·rw[kQ,gZ,SX]; omega
  ·rw[SW,g6]
theorem O2 {b:UInt8} {n:Nat} (h:b.toNat=n):b=UInt8.ofNat n:=by rw[<-h,VQ]
theorem wZ {h:Nat->List UInt8->Option (List ah×List UInt8)} {k:Nat} {b:UInt8} {l:List UInt8} {v:ah} {r:List UInt8} (hl:l.length<=1100000)
  (hh:∀ n t vs u,t.length<=1100000->h n t=some (vs,u)->t=lq vs++u/\l0 vs=true/\nO vs+1<=k/\(∀ e∈vs,cw e)/\nr vs<=(lq vs).length/\vs.length=n)
  (e:wY b l h=some (v,r)):Got k (b :: l) v r:=by
 have okm:ma=9223372036854775807:=rfl
 unfold wY at e
 split at e
 ·rename_i h1
  split at e
  ·cases e
  rename_i n t hn
  obtain ⟨h2,h3,_⟩:=gK hn
  cases e
  refine⟨?_,?_,?_,?_,?_⟩
  ·rw[O2 h1,h2,fI]
   simp only[show ((1:Int)==1)=true from rfl,SC,DP]
   rfl
  ·rw[pK]
   simp only[show ((1:Int)==1)=true from rfl,SC,Ck.2]
   rfl
  ·rw[rf]
   simp only[show ((1:Int)==3)=false from rfl,SA]
   omega
  ·exact(fz _).2 ⟨⟨r8,r8⟩,KI h3,r8,r8,fun _ h=>absurd h Va⟩
  ·rw[eJ,fI]
   simp only[show ((1:Int)==1)=true from rfl,SC,DP,pb,SW]
   have:(ByteArray.empty:ByteArray).size=0:=rfl
   omega
 split at e
 ·rename_i h1
  split at e
  ·cases e
  rename_i n t hn
  obtain ⟨h2,h3,h4⟩:=gK hn
  split at e
  ·rename_i h5
   cases e
   have hs:(fR (t.take n)).size=n:=by rw[AA,Tz]; omega
   refine⟨?_,?_,?_,?_,?_⟩
   ·rw[O2 h1,h2,fI]
    simp only[show ((2:Int)==1)=false from rfl,show ((2:Int)==2)=true from rfl,SC,SA,hs,zx]
    rw[Tg,Tt,T3]
    rfl
   ·rw[pK]
    rfl
   ·rw[rf]
    simp only[show ((2:Int)==3)=false from rfl,SA]
    omega
   ·refine(fz _).2 ⟨⟨r8,r8⟩,⟨r8,r8⟩,?_,r8,fun _ h=>absurd h Va⟩
    show (fR (t.take n)).size<=ma
    rw[hs]; omega
   ·rw[eJ,fI]
    simp only[show ((2:Int)==1)=false from rfl,show ((2:Int)==2)=true from rfl,SC,SA,pb,SW,SX,kG,hs]
    omega
  ·cases e
 split at e
 ·rename_i h1
  split at e
  ·cases e
  rename_i n t hn
  obtain ⟨h2,h3,h4⟩:=gK hn
  split at e
  ·rename_i h5
   split at e
   ·cases e
   rename_i vs u hv
   cases e
   obtain ⟨g1,g2,g3,g4,g5,g6⟩:=hh n t vs r o3 hv
   refine⟨?_,?_,?_,?_,?_⟩
   ·rw[O2 h1,h2,fI,g1]
    simp only[show ((3:Int)==1)=false from rfl,show ((3:Int)==2)=false from rfl,SA,g6]
    rw[Tg,Tt]
    rfl
   ·rw[pK]
    simp only[show ((3:Int)==1)=false from rfl,show ((3:Int)==2)=false from rfl,show ((3:Int)==3)=true from rfl,SC,SA,g2,Ck.2]
    rfl
   ·rw[rf]
    simp only[show ((3:Int)==3)=true from rfl,SC]
    omega
   ·refine(fz _).2 ⟨⟨r8,r8⟩,⟨r8,r8⟩,r8,?_,g4⟩
    show vs.length<=ma
    omega
   ·rw[eJ,fI]
    simp only[show ((3:Int)==1)=false from rfl,show ((3:Int)==2)=false from rfl,SA,SW,SX]
    have:(ByteArray.empty:ByteArray).size=0:=rfl
    omega
  ·cases e
 ·cases e
theorem rH:∀ (k:Nat) (l:List UInt8) (v:ah) (r:List UInt8),l.length<=1100000->gQ k l=some (v,r)->Got k l v r
 | 0,[],v,r,_,h=>by rw[gQ] at h; cases h
 | k+1,[],v,r,_,h=>by rw[gQ] at h; cases h
 | 0,b :: l,v,r,hl,h=>by
  rw[gQ] at h
  rw[SW] at hl
  exact wZ o3 (fun _ _ _ _ _ h=>by cases h) h
 | k+1,b :: l,v,r,hl,h=>by
  rw[gQ] at h
  rw[SW] at hl
  refine wZ o3 (fun n t vs u ht hv=>?_) h
  obtain ⟨g1,g2,g3,g4,g5,g6⟩:=tV (fun l v r hl h=>rH k l v r hl h) n t vs u ht hv
  exact⟨g1,g2,o3,g4,g5,g6⟩
theorem BX (l:List ah) (x:ah) (h:l.length<=1100000):cF 56 l [x]=some (l++[x]):=jh _ _ _ Sr
theorem Ct {k:Nat} {l:List UInt8} {v:ah} {r:List UInt8} (hl:l.length<=1100000) (h:gQ k l=some (v,r)):r.length<=l.length:=by
 have:=(rH k l v r hl h).1
 rw[this,SX]; omega
theorem CP (f:List UInt8->Option (ah×List UInt8)) (self:(List UInt8)->Int->Option (Bool×ah×(List UInt8))) (N d n:Nat) (z0 z1:Int) (z2:ByteArray) (hd:d<=16) (hn:n<=1100000)
  (hf:∀ l:List UInt8,l.length<=1100000->match f l with
   | some (v,r)=>self l ((d:Int)+1)=some (true,v,r)/\r.length<=l.length
   | none=>∃ v r,self l ((d:Int)+1)=some (false,v,r)) :
  ∀ (k m i:Nat) (l:List UInt8) (acc:List ah),i+k=n->k<m->l.length<=1100000->acc.length<=i->match gR f k l with
   | some (vs,r)=>gu self N (d:Int) (n:Int) z0 z1 z2 m (i:Int) l acc=some (.inr (r,acc++vs))
   | none=>∃ x,gu self N (d:Int) (n:Int) z0 z1 z2 m (i:Int) l acc=some (.inl x)
 | 0,m,i,l,acc,h1,h2,h3,h4=>by
  obtain ⟨m,rfl⟩:∃ q,m=q+1:=⟨m - 1,o3⟩
  rw[gR,gu,SK o3]
  simp
 | k+1,m,i,l,acc,h1,h2,h3,h4=>by
  obtain ⟨m,rfl⟩:∃ q,m=q+1:=⟨m - 1,o3⟩
  have hl:=hf l h3
  rw[gR,gu,SD o3,df (n:=(d:Int)+1) o3 o3,df (n:=(i:Int)+1) o3 o3]
  simp only[SC]
  cases hv:f l with
  | none=>
   rw[hv] at hl
   obtain ⟨v,r,hl⟩:=hl
   simp only
   rw[hl]
   exact⟨_,rfl⟩
  | some p=>
   obtain ⟨v,r⟩:=p
   rw[hv] at hl
   simp only at hl ⊢
   rw[hl.1]
   simp only[Sw,SC]
   rw[BX _ _ o3,Sw,show (i:Int)+1=((i+1:Nat):Int) by omega]
   have ih:=CP f self N d n z0 z1 z2 hd hn hf k m (i+1) r (acc++[v]) o3 o3 o3 r9
   cases hr:gR f k r with
   | none=>rw[hr] at ih; exact ih
   | some p=>
    obtain ⟨vs,t⟩:=p
    rw[hr] at ih
    simp only at ih ⊢
    rw[ih]; simp
theorem b1 {b:UInt8} (n:Nat) (h:n<256):(wr .i64 ((b.toNat:Int))==(n:Int))=decide (b.toNat=n):=by
 have:=b.toNat_lt
 rw[df o3 o3,TQ]
 simp
 omega
theorem P4:∀ (k N d:Nat) (l:List UInt8),d+k=16->2000000+k<=N->l.length<=1100000->match gQ k l with
  | some (v,r)=>Ba N l (d:Int)=some (true,v,r)
  | none=>∃ v r,Ba N l (d:Int)=some (false,v,r)
 | k,N,d,[],hd,hN,hl=>by
  obtain ⟨N,rfl⟩:∃ q,N=q+1:=⟨N - 1,o3⟩
  have:gQ k []=none:=by cases k<;>rw[gQ]
  rw[this]
  show ∃ v r,(bif Nat.ble 8 N then vQ (Ba N) (N - 8) [] d else none)=_
  rw[TI (by omega:8<=N)]
  exact⟨_,_,rfl⟩
 | k,N,d,b :: l,hd,hN,hl=>by
  obtain ⟨N,rfl⟩:∃ q,N=q+1:=⟨N - 1,o3⟩
  rw[SW] at hl
  have hb:=b.toNat_lt
  have hs1:gD (b :: l) 0 1=some [b]:=by
   unfold gD
   rw[show decide ((1:Int)<=((b :: l).length:Int))=true from SD Su]
   rfl
  have hs2:gD (b :: l) 1 ((b :: l).length:Int)=some l:=by
   unfold gD
   rw[show decide ((1:Int)<=((b :: l).length:Int))=true from SD Su,SD (Wc _)]
   simp
  have eW:Ba (N+1) (b :: l) (d:Int)=vQ (Ba N) (N - 8) (b :: l) (d:Int):=by
   show (bif Nat.ble 8 N then vQ (Ba N) (N - 8) (b :: l) d else none)=_
   rw[TI (by omega:8<=N)]; rfl
  have eg:gQ k (b :: l)=wY b l (match k with | 0=>fun _ _=>none | k+1=>gR (gQ k)):=by cases k<;>rw[gQ]
  rw[eW,eg]
  unfold vQ
  rw[hs1,hs2,SD (show (1:Int)<=((b :: l).length:Int) by rw[SW]; omega)]
  simp only[S0,SA,Sw,show bE [b] 0=some b from rfl]
  rw[show (wr .i64 ((b.toNat:Int))==1)=decide (b.toNat=1) from b1 1 o3,show (wr .i64 ((b.toNat:Int))==2)=decide (b.toNat=2) from b1 2 o3,show (wr .i64 ((b.toNat:Int))==3)=decide (b.toNat=3) from b1 3 o3,df (n:=(b.toNat:Int)) o3 o3]
  unfold wY
  by_cases h1:b.toNat=1
  ·rw[SH h1,SD h1]
   have hr:=vG (dR (N - 8+1)) (fun _ _ _ _=>rfl) l (N - 8+7) 0 0 o3 o3 (by decide)
   simp only[SC]
   cases hg:iQ 0 l with
   | none=>
    rw[hg] at hr
    obtain ⟨r,hr⟩:=hr
    refine⟨default,r,?_⟩
    exact(Ty (fun x=>Option.bind x _) hr).trans rfl
   | some p=>
    obtain ⟨n,r⟩:=p
    rw[hg] at hr
    obtain ⟨_,hn,_⟩:=gK hg
    simp only at hr ⊢
    refine(Ty (fun x=>Option.bind x _) hr).trans ?_
    rw[show (0+2 ^ (7*0)*n:Nat)=n by omega]
    simp only[Sw,RY n hn]
    rw[h1]; rfl
  rw[SI h1,SK h1]
  simp only[SA]
  by_cases h2:b.toNat=2
  ·rw[SH h2,SD h2]
   have hr:=vG (dR (N - 8)) (fun _ _ _ _=>rfl) l (N - 8+6) 0 0 o3 o3 (by decide)
   simp only[SC]
   cases hg:iQ 0 l with
   | none=>
    rw[hg] at hr
    obtain ⟨r,hr⟩:=hr
    refine⟨default,r,?_⟩
    exact(Ty (fun x=>Option.bind x _) hr).trans rfl
   | some p=>
    obtain ⟨n,r⟩:=p
    rw[hg] at hr
    obtain ⟨_,hn,hrl⟩:=gK hg
    simp only at hr ⊢
    by_cases hnr:n<=r.length
    ·rw[SH hnr]
     refine(Ty (fun x=>Option.bind x _) hr).trans ?_
     rw[show (0+2 ^ (7*0)*n:Nat)=n by omega]
     simp only[Sw]
     rw[vN _ (show r.length<18446744073709551616 by omega),df (n:=(n:Int)) o3 o3,SD (show (n:Int)<=(r.length:Int) by omega)]
     simp only[S0,SA]
     unfold gD
     rw[SD (show (n:Int)<=(r.length:Int) by omega),SD (show (0:Int)<=(n:Int) by omega),SD (Wc _)]
     simp[h2]
     exact Tj r8
    ·rw[SI hnr]
     refine⟨default,r,?_⟩
     refine(Ty (fun x=>Option.bind x _) hr).trans ?_
     rw[show (0+2 ^ (7*0)*n:Nat)=n by omega]
     simp only[Sw]
     rw[vN _ (show r.length<18446744073709551616 by omega),SK (show ¬ (n:Int)<=(r.length:Int) by omega)]
     rfl
  rw[SI h2,SK h2]
  simp only[SA]
  by_cases h3:b.toNat=3
  ·rw[SH h3,SD h3]
   simp only[SC]
   cases k with
   | zero=>
    rw[SK (show ¬ ((d:Int)<16) by omega)]
    have:∃ v r,(bif !false then some (false,(default:ah),l) else none)=some (false,v,r):=⟨_,_,rfl⟩
    cases hg:iQ 0 l with
    | none=>exact⟨_,_,rfl⟩
    | some p=>
     obtain ⟨n,r⟩:=p
     simp only
     split<;>rename_i hx
     ·split at hx<;>cases hx
     ·exact⟨_,_,rfl⟩
   | succ k=>
    rw[SD (show ((d:Int)<16) by omega)]
    have hr:=vG (dR (N - 8)) (fun _ _ _ _=>rfl) l (N - 8+6) 0 0 o3 o3 (by decide)
    simp only[S0,SA]
    cases hg:iQ 0 l with
    | none=>
     rw[hg] at hr
     obtain ⟨r,hr⟩:=hr
     refine⟨default,r,?_⟩
     exact(Ty (fun x=>Option.bind x _) hr).trans rfl
    | some p=>
     obtain ⟨n,r⟩:=p
     rw[hg] at hr
     obtain ⟨_,hn,hrl⟩:=gK hg
     simp only at hr ⊢
     by_cases hnr:n<=r.length
     ·rw[SH hnr]
      have hL:=CP (gQ k) (Ba N) (N - 8) d n (b.toNat:Int) 0 ByteArray.empty o3 o3 (fun l hl=>by
       have:=P4 k N (d+1) l o3 o3 hl
       cases hgv:gQ k l with
       | none=>rw[hgv] at this; exact this
       | some p=>
        obtain ⟨v,r⟩:=p
        rw[hgv] at this
        exact⟨this,Ct hl hgv⟩) n (N - 8+8) 0 r [] o3 o3 o3 r8
      cases hls:gR (gQ k) n r with
      | none=>
       rw[hls] at hL
       obtain ⟨x,hL⟩:=hL
       refine⟨default,x,?_⟩
       refine(Ty (fun x=>Option.bind x _) hr).trans ?_
       rw[show (0+2 ^ (7*0)*n:Nat)=n by omega]
       simp only[Sw]
       rw[vN _ (show r.length<18446744073709551616 by omega),df (n:=(n:Int)) o3 o3,SD (show (n:Int)<=(r.length:Int) by omega)]
       simp only[S0,SA]
       exact(Ty (fun x=>Option.bind x _) hL).trans rfl
      | some p=>
       obtain ⟨vs,t⟩:=p
       rw[hls] at hL
       simp only at hL ⊢
       refine(Ty (fun x=>Option.bind x _) hr).trans ?_
       rw[show (0+2 ^ (7*0)*n:Nat)=n by omega]
       simp only[Sw]
       rw[vN _ (show r.length<18446744073709551616 by omega),df (n:=(n:Int)) o3 o3,SD (show (n:Int)<=(r.length:Int) by omega)]
       simp only[S0,SA]
       refine(Ty (fun x=>Option.bind x _) hL).trans ?_
       rw[h3]; rfl
     ·rw[SI hnr]
      refine⟨default,r,?_⟩
      refine(Ty (fun x=>Option.bind x _) hr).trans ?_
      rw[show (0+2 ^ (7*0)*n:Nat)=n by omega]
      simp only[Sw]
      rw[vN _ (show r.length<18446744073709551616 by omega),SK (show ¬ (n:Int)<=(r.length:Int) by omega)]
      rfl
  ·rw[SI h3,SK h3]
   exact⟨_,_,rfl⟩
def iW (bs:List UInt8):ah×Int:=match gQ 16 bs with
 | some (v,[])=>(v,0)
 | _=>(.mk 0 0 ByteArray.empty [],10)
theorem RT (bs:List UInt8) (h:bs.length<=1100000):IV bs=some (iW bs):=by
 unfold IV Lj
 have hw:=P4 16 (az+8) 0 bs o3 s5 h
 rw[show ((0:Nat):Int)=0 from rfl] at hw
 unfold iW
 cases hg:gQ 16 bs with
 | none=>
  rw[hg] at hw
  obtain ⟨v,r,hw⟩:=hw
  rw[hw]; rfl
 | some p=>
  obtain ⟨v,r⟩:=p
  rw[hg] at hw
  simp only at hw
  rw[hw]
  cases r with
  | nil=>rfl
  | cons a r=>
   have:(((a :: r).length:Int)==0)=false:=r9
   simp only[Sw,SC]
   rw[this]; rfl
theorem zA {bs:List UInt8} {v:ah} (h:bs.length<=1100000) (e:iW bs=(v,0)):bs=my v/\lj v=0/\cw v/\nE v<=1100000:=by
 unfold iW at e
 split at e
 ·rename_i u hg
  cases e
  obtain ⟨h1,h2,h3,h4,h5⟩:=rH 16 bs v [] h hg
  rw[TG] at h1
  refine⟨h1,?_,h4,?_⟩
  ·unfold lj
   rw[h2]
   simp only[SC]
   rw[SK o3]; rfl
  ·rw[h1] at h; omega
 ·cases e
theorem yk (bs:List UInt8):(∃ v,iW bs=(v,0))∨iW bs=(.mk 0 0 ByteArray.empty [],10):=by
 unfold iW
 split
 ·exact .inl ⟨_,rfl⟩
 ·exact .inr rfl
theorem CQ (bs:List UInt8) (f:List UInt8->Option (ah×List UInt8)) (self:(List UInt8)->Int->Bool->Int->Option (ah×Int×Bool)) (N d n:Nat) (z4 z5:Int) (z6:ByteArray) (hd:d<=16) (hn:n<=1100000)
  (hf:∀ i:Nat,i<=bs.length->match f (bs.drop i) with
   | some (v,r)=>∃ j:Nat,self bs (i:Int) false ((d:Int)+1)=some (v,(j:Int),false)/\r=bs.drop j/\j<=bs.length
   | none=>∃ (v:ah) (j:Nat),self bs (i:Int) false ((d:Int)+1)=some (v,(j:Int),true)/\j<=bs.length) :
  ∀ (k m i j:Nat) (acc:List ah),i+k=n->k<m->j<=bs.length->acc.length<=i->match gR f k (bs.drop j) with
   | some (vs,r)=>∃ j':Nat,fD self N (d:Int) (n:Int) bs z4 z5 z6 m (i:Int) (j:Int) false acc=some ((j':Int),false,acc++vs)/\r=bs.drop j'/\j'<=bs.length
   | none=>∃ (j':Nat) (l:List ah),fD self N (d:Int) (n:Int) bs z4 z5 z6 m (i:Int) (j:Int) false acc=some ((j':Int),true,l)/\j'<=bs.length
 | 0,m,i,j,acc,h1,h2,h3,h4=>by
  obtain ⟨m,rfl⟩:∃ q,m=q+1:=⟨m - 1,o3⟩
  rw[gR,fD,SK o3]
  exact⟨j,by rw[TG]; rfl,rfl,h3⟩
 | k+1,m,i,j,acc,h1,h2,h3,h4=>by
  obtain ⟨m,rfl⟩:∃ q,m=q+1:=⟨m - 1,o3⟩
  have hl:=hf j h3
  rw[gR,fD,SD o3,df (n:=(d:Int)+1) o3 o3,show (i:Int)+1=((i+1:Nat):Int) by omega,vN _ o3]
  simp only[SC,UM,Sw]
  cases hv:f (bs.drop j) with
  | none=>
   rw[hv] at hl
   obtain ⟨v,j',hl,hj⟩:=hl
   simp only
   rw[hl]
   simp only[Sw]
   rw[BX _ _ o3,Sw]
   obtain ⟨m,rfl⟩:∃ q,m=q+1:=⟨m - 1,o3⟩
   refine⟨j',acc++[v],?_,hj⟩
   rw[fD]
   cases decide (((i+1:Nat):Int)<(n:Int))<;>rfl
  | some p=>
   obtain ⟨v,r⟩:=p
   rw[hv] at hl
   obtain ⟨j',hl,hr,hj⟩:=hl
   simp only
   rw[hl]
   simp only[Sw]
   rw[BX _ _ o3,Sw,hr]
   have ih:=CQ bs f self N d n z4 z5 z6 hd hn hf k m (i+1) j' (acc++[v]) o3 o3 hj r9
   cases hg:gR f k (bs.drop j') with
   | none=>rw[hg] at ih; exact ih
   | some p=>
    obtain ⟨vs,t⟩:=p
    rw[hg] at ih
    simp only at ih ⊢
    obtain ⟨j2,ih,h5,h6⟩:=ih
    exact⟨j2,by rw[ih]; simp,h5,h6⟩
theorem Sf (n:Nat) (h:n<18446744073709551616) (j:Int) (b:Bool):(bif ((Int.tmod (n:Int) 2)==1) then (some (((ah.mk 1 (wr .i64 ((wr .i64 (0 - (wr .i64 (wr .u64 (Int.tdiv (n:Int) 2))))) - 1)) ByteArray.empty ([])),j,b))) else (some (((ah.mk 1 (wr .i64 (wr .u64 (Int.tdiv (n:Int) 2))) ByteArray.empty ([])),j,b))))=some (ah.mk 1 (sg n) ByteArray.empty [],j,b):=by
 have e1:Int.tmod (n:Int) 2=((n % 2:Nat):Int):=rfl
 have e2:Int.tdiv (n:Int) 2=((n / 2:Nat):Int):=rfl
 rw[e1,e2,vN _ o3,df (n:=((n / 2:Nat):Int)) o3 o3,df (n:=0 - ((n / 2:Nat):Int)) o3 o3,df (n:=0 - ((n / 2:Nat):Int) - 1) o3 o3]
 unfold sg
 by_cases h2:n % 2=1
 ·rw[SH h2,h2,show (0:Int) - ((n / 2:Nat):Int)=-((n / 2:Nat):Int) by omega]; rfl
 ·rw[SI h2,show n % 2=0 by omega]; rfl
theorem Fs (x j:Int):∃ v,(bif ((Int.tmod x 2)==1) then (some (((ah.mk 1 (wr .i64 ((wr .i64 (0 - (wr .i64 (wr .u64 (Int.tdiv x 2))))) - 1)) ByteArray.empty ([])),j,true))) else (some (((ah.mk 1 (wr .i64 (wr .u64 (Int.tdiv x 2))) ByteArray.empty ([])),j,true))))=some (v,j,true):=by
 cases (Int.tmod x 2)==1<;>exact⟨_,rfl⟩
def Nf:Nat->Nat->List UInt8->Option (List ah×List UInt8)
 | 0=>fun _ _=>none
 | k+1=>gR (gQ k)
theorem HE (bs:List UInt8) (hbs:bs.length<=1100000) (n i m:Nat) (hi:i<=bs.length) (hm:10<=m):match iQ 0 (bs.drop i) with
  | some (u,r)=>∃ j:Nat,(Option.bind (eF n bs m 0 0 (i:Int) false) fun o=>match o with | (Sum.inl ((y368,y369,y370)))=>some ((y368,y369,y370)) | (Sum.inr ((y374,y375)))=>some (((0:Int),y374,y375)))=some ((u:Int),(j:Int),false)/\r=bs.drop j/\j<=bs.length
  | none=>∃ (x:Int) (j:Nat),(Option.bind (eF n bs m 0 0 (i:Int) false) fun o=>match o with | (Sum.inl ((y368,y369,y370)))=>some ((y368,y369,y370)) | (Sum.inr ((y374,y375)))=>some (((0:Int),y374,y375)))=some (x,(j:Int),true)/\j<=bs.length:=by
 have hr:=Ab bs hbs (eF n bs) (fun _ _ _ _=>rfl) (bs.length - i) i m 0 0 o3 o3 o3 (by decide)
 cases hg:iQ 0 (bs.drop i) with
 | none=>
  rw[hg] at hr
  obtain ⟨x,j,hr,hj⟩:=hr
  exact⟨x,j,(Ty (fun x=>Option.bind x _) hr).trans rfl,hj⟩
 | some p=>
  obtain ⟨u,r⟩:=p
  rw[hg] at hr
  obtain ⟨j,hr,h1,h2⟩:=hr
  rw[show (0+2 ^ (7*0)*u:Nat)=u by omega] at hr
  exact⟨j,(Ty (fun x=>Option.bind x _) hr).trans rfl,h1,h2⟩
theorem O7 (bs:List UInt8) (hbs:bs.length<=1100000):∀ (k N d i:Nat),d+k=16->2000000+k<=N->i<=bs.length->match gQ k (bs.drop i) with
  | some (v,r)=>∃ j:Nat,BP N bs (i:Int) false (d:Int)=some (v,(j:Int),false)/\r=bs.drop j/\j<=bs.length
  | none=>∃ (v:ah) (j:Nat),BP N bs (i:Int) false (d:Int)=some (v,(j:Int),true)/\j<=bs.length
 | k,N,d,i,hd,hN,hi=>by
  obtain ⟨N,rfl⟩:∃ q,N=q+1:=⟨N - 1,o3⟩
  have eW:BP (N+1) bs (i:Int) false (d:Int)=vR (BP N) (N - 8) bs (i:Int) false (d:Int):=by
   show (bif Nat.ble 8 N then vR (BP N) (N - 8) bs (i:Int) false (d:Int) else none)=_
   rw[TI (by omega:8<=N)]; rfl
  rw[eW]
  by_cases hil:i<bs.length
  ·rw[SU hil]
   generalize hb':bs[i]=b
   have hb:=b.toNat_lt
   have eg:gQ k (b :: bs.drop (i+1))=wY b (bs.drop (i+1)) (Nf k):=by cases k<;>(rw[gQ]; rfl)
   rw[eg]
   unfold vR
   rw[SK o3,df (n:=(i:Int)+1) o3 o3,show (i:Int)+1 - 1=(i:Int) by omega,df (n:=(i:Int)) o3 o3,bB,Sx hil,hb']
   simp only[SA,Sw]
   rw[show ((b.toNat:Int)==1)=decide (b.toNat=1) by rw[TQ]; simp; omega,show ((b.toNat:Int)==2)=decide (b.toNat=2) by rw[TQ]; simp; omega,show ((b.toNat:Int)==3)=decide (b.toNat=3) by rw[TQ]; simp; omega]
   have ei:(i:Int)+1=((i+1:Nat):Int):=o3
   rw[ei]
   unfold wY
   by_cases h1:b.toNat=1
   ·rw[SH h1,SD h1]
    have hr:=HE bs hbs (N - 8) (i+1) (N - 8+7) o3 o3
    simp only[SC]
    cases hg:iQ 0 (bs.drop (i+1)) with
    | none=>
     rw[hg] at hr
     obtain ⟨x,j,hr,hj⟩:=hr
     obtain ⟨v,hv⟩:=Fs x j
     refine⟨v,j,?_,hj⟩
     exact(Ty (fun x=>Option.bind x _) hr).trans hv
    | some p=>
     obtain ⟨n,r⟩:=p
     rw[hg] at hr
     obtain ⟨_,hn,_⟩:=gK hg
     obtain ⟨j,hr,hrj,hj⟩:=hr
     simp only
     refine⟨j,?_,hrj,hj⟩
     refine(Ty (fun x=>Option.bind x _) hr).trans ?_
     exact Sf n hn j false
   rw[SI h1,SK h1]
   simp only[SA]
   by_cases h2:b.toNat=2
   ·rw[SH h2,SD h2]
    have hr:=HE bs hbs (N - 8) (i+1) (N - 8+7) o3 o3
    simp only[SC]
    cases hg:iQ 0 (bs.drop (i+1)) with
    | none=>
     rw[hg] at hr
     obtain ⟨x,j,hr,hj⟩:=hr
     refine⟨.mk 0 0 ByteArray.empty [],j,?_,hj⟩
     exact(Ty (fun x=>Option.bind x _) hr).trans rfl
    | some p=>
     obtain ⟨n,r⟩:=p
     rw[hg] at hr
     obtain ⟨_,hn,hrl⟩:=gK hg
     obtain ⟨j,hr,hrj,hj⟩:=hr
     have hlr:r.length=bs.length - j:=by rw[hrj,Uj]
     have el:wr .u64 (wr .i64 ((bs.length:Int) - (j:Int)))=((bs.length - j:Nat):Int):=by
      rw[show (bs.length:Int) - (j:Int)=((bs.length - j:Nat):Int) by omega,df o3 o3,vN _ o3]
     simp only
     by_cases hnr:n<=r.length
     ·rw[SH hnr]
      refine⟨j+n,?_,by rw[hrj,VI],o3⟩
      refine(Ty (fun x=>Option.bind x _) hr).trans ?_
      simp only[Sw,SA]
      rw[el,SK o3,df (n:=(n:Int)) o3 o3,df (n:=(j:Int)+(n:Int)) o3 o3,show (j:Int)+(n:Int) - (n:Int)=(j:Int) by omega,df (n:=(j:Int)) o3 o3]
      simp only[SA]
      unfold gD
      rw[SD (show (0:Int)<=(j:Int) by omega),SD (show (j:Int)<=(j:Int)+(n:Int) by omega),SD (show (j:Int)+(n:Int)<=(bs.length:Int) by omega)]
      simp only[Ut,SC,Sw]
      rw[show ((j:Int)+(n:Int)).toNat - (j:Int).toNat=n by omega,hrj]
      rfl
     ·rw[SI hnr]
      refine⟨.mk 0 0 ByteArray.empty [],j,?_,hj⟩
      refine(Ty (fun x=>Option.bind x _) hr).trans ?_
      simp only[Sw,SA]
      rw[el,SD o3]
      rfl
   rw[SI h2,SK h2]
   simp only[SA]
   by_cases h3:b.toNat=3
   ·rw[SH h3,SD h3]
    have hr:=HE bs hbs (N - 8) (i+1) (N - 8+7) o3 o3
    simp only[SC]
    cases hg:iQ 0 (bs.drop (i+1)) with
    | none=>
     rw[hg] at hr
     obtain ⟨x,j,hr,hj⟩:=hr
     refine⟨.mk 0 0 ByteArray.empty [],j,?_,hj⟩
     exact(Ty (fun x=>Option.bind x _) hr).trans rfl
    | some p=>
     obtain ⟨n,r⟩:=p
     rw[hg] at hr
     obtain ⟨_,hn,hrl⟩:=gK hg
     obtain ⟨j,hr,hrj,hj⟩:=hr
     have hlr:r.length=bs.length - j:=by rw[hrj,Uj]
     have el:wr .u64 (wr .i64 ((bs.length:Int) - (j:Int)))=((bs.length - j:Nat):Int):=by
      rw[show (bs.length:Int) - (j:Int)=((bs.length - j:Nat):Int) by omega,df o3 o3,vN _ o3]
     simp only
     by_cases hnr:n<=r.length
     ·rw[SH hnr]
      cases k with
      | zero=>
       refine⟨.mk 0 0 ByteArray.empty [],j,?_,hj⟩
       refine(Ty (fun x=>Option.bind x _) hr).trans ?_
       simp only[Sw,SA]
       rw[show d=16 by omega]
       cases decide ((wr .u64 (wr .i64 ((bs.length:Int) - (j:Int))))<(n:Int))<;>rfl
      | succ k=>
       have hL:=CQ bs (gQ k) (BP N) (N - 8) d n 3 0 ByteArray.empty o3 o3 (fun i hi=>by
        have:=O7 bs hbs k N (d+1) i o3 o3 hi
        exact this) n (N - 8+8) 0 j [] o3 o3 hj r8
       rw[<-hrj] at hL
       show (match (match gR (gQ k) n r with
        | none=>none
        | some (vs,t)=>some (ah.mk 3 0 ByteArray.empty vs,t)) with
        | some (v,r)=>_
        | none=>_)
       cases hls:gR (gQ k) n r with
       | none=>
        rw[hls] at hL
        obtain ⟨j',l,hL,hj'⟩:=hL
        refine⟨.mk 3 0 ByteArray.empty l,j',?_,hj'⟩
        refine(Ty (fun x=>Option.bind x _) hr).trans ?_
        simp only[Sw,SA]
        rw[el,SK o3,show ((d:Int)==16)=false by simp; omega]
        exact(Ty (fun x=>Option.bind x _) hL).trans rfl
       | some p=>
        obtain ⟨vs,t⟩:=p
        rw[hls] at hL
        obtain ⟨j',hL,ht,hj'⟩:=hL
        simp only
        refine⟨j',?_,ht,hj'⟩
        refine(Ty (fun x=>Option.bind x _) hr).trans ?_
        simp only[Sw,SA]
        rw[el,SK o3,show ((d:Int)==16)=false by simp; omega]
        exact(Ty (fun x=>Option.bind x _) hL).trans rfl
     ·rw[SI hnr]
      refine⟨.mk 0 0 ByteArray.empty [],j,?_,hj⟩
      refine(Ty (fun x=>Option.bind x _) hr).trans ?_
      simp only[Sw,SA]
      rw[el,SD o3]
      rfl
   ·rw[SI h3,SK h3]
    exact⟨_,i+1,by simp only[SA,S5]; rfl,o3⟩
  ·have:gQ k []=none:=by cases k<;>rw[gQ]
   rw[S8.2 o3,this]
   refine⟨.mk 0 0 ByteArray.empty [],i,?_,hi⟩
   unfold vR
   rw[SD o3]
   rfl
theorem RU (bs:List UInt8) (h:bs.length<=1100000):I0 bs=some (iW bs):=by
 unfold I0 Lo
 have hw:=O7 bs h 16 (az+8) 0 0 o3 s5 o3
 rw[show ((0:Nat):Int)=0 from rfl,Tq] at hw
 unfold iW
 cases hg:gQ 16 bs with
 | none=>
  rw[hg] at hw
  obtain ⟨v,j,hw,_⟩:=hw
  rw[hw]; rfl
 | some p=>
  obtain ⟨v,r⟩:=p
  rw[hg] at hw
  obtain ⟨j,hw,hr,hj⟩:=hw
  rw[hw]
  simp only[Sw,SA]
  cases r with
  | cons a r=>
   have:j<bs.length:=by
    rcases V1 j bs.length with h | h
    ·exact h
    ·rw[S8.2 h] at hr; cases hr
   rw[show ((j:Int) != (bs.length:Int))=true by simp; omega]
   rfl
  | nil=>
   have hj2:j=bs.length:=by
    have:=Ty List.length hr
    rw[Uj] at this
    simp at this; omega
   obtain ⟨h1,h2,h3,h4⟩:=zA (v:=v) h (by unfold iW; rw[hg])
   rw[show ((j:Int) != (bs.length:Int))=false by simp; omega,RS v h4]
   simp only[SA,Sw,h2]
   rw[show ((0:Int) != 0)=false from rfl]
   simp only[SA,Sw,RV v h3 h4]
   rw[Fu,<-h1,SD rfl]
   rfl
theorem Ka (a b:Int):IZ a b=some (if b<a then b else a,if a<b then b else a):=rfl
def AY (p:Int×Int):Bool:=decide (0<=p.1)&&decide (p.1<p.2)&&decide (p.2<24)
theorem J9 (p:Int×Int):Ir p=some (AY p):=by
 unfold Ir Li AY
 cases decide (0<=p.1)<;>cases decide (p.1<p.2)<;>rfl
def mc (p:aw):Bool:=AY (if p.To<p.From then p.To else p.From,if p.From<p.To then p.To else p.From)&&decide ((p.Data.length:Int)<=1048576)
theorem N1 (p:aw):Iq p=some (mc p):=by
 unfold Iq Lg mc
 rw[Ka,Sw,J9,Sw]
 cases AY _<;>rfl
theorem N3 (p:aw):IU p=some (!mc p):=by
 unfold IU Lh
 rw[N1,Sw]
theorem Kb (a:Int):vS a=some false:=by
 unfold vS DY
 simp
theorem za {i:Nat} (h:i<=4611686018427387904):wr .i64 ((i:Int)+1)=((i+1:Nat):Int):=by
 rw[df o3 o3]
 omega
theorem J4 (n:Nat) (l:List aw) (hl:l.length<=4611686018427387904):∀ (m i:Nat),i<=l.length->l.length - i<m ->
  (∃ j:Int,0<=j/\fi n l (l.length:Int) m (i:Int)=some (.inl j)/\(l.drop i).any (fun p=>!mc p)=true)∨(fi n l (l.length:Int) m (i:Int)=some (.inr ())/\(l.drop i).any (fun p=>!mc p)=false)
 | 0,i,_,h=>absurd h (Tv _)
 | m+1,i,hi,h=>by
  unfold fi
  by_cases hlt:i<l.length
  ·rw[show decide ((i:Int)<(l.length:Int))=true by simpa using hlt,SC,bB,Sx hlt,Sw,N3,Sw,za o3,SU hlt,Wn]
   cases hp:mc l[i] with
   | false=>exact .inl ⟨i,o3,rfl,rfl⟩
   | true=>
    simp only[S0,SA,Bool.false_or]
    exact J4 n l hl m (i+1) o3 o3
  ·rw[show decide ((i:Int)<(l.length:Int))=false by simpa using hlt,SA,S8.2 o3]
   exact .inr ⟨rfl,rfl⟩
theorem N2 (l:List aw) (hl:l.length<=4611686018427387904):qE l=some (l.any fun p=>!mc p):=by
 unfold qE uy uC uz
 have e:l.drop 0=l:=rfl
 rcases J4 az l hl (az+8) 0 (Tk _) s5 with ⟨j,h1,h2,h3⟩ | ⟨h2,h3⟩
 ·rw[e] at h3
  rw[show ((0:Nat):Int)=0 from rfl] at h2
  rw[h2,h3]
  simp only[Sw]
  rw[SD h1]
 ·rw[e] at h3
  rw[show ((0:Nat):Int)=0 from rfl] at h2
  rw[h2,h3]
  rfl
def zO (p q:Int×Int):Bool:=decide (p.1<q.1) || (p.1==q.1&&decide (p.2<q.2))
theorem NY (n:Nat) (a b c d:Int) (m:Nat) :
  fO n [a,b] 2 c d (m+3) 0=some (if a<c then .inl (-1) else if c<a then .inl 1 else if b<d then .inl (-1) else if d<b then .inl 1 else .inr ()):=by
 have w1:wr .i64 (0+1)=1:=by decide +kernel
 have w2:wr .i64 (1+1)=2:=by decide +kernel
 have x0:bE [a,b] 0=some a:=rfl
 have x1:bE [a,b] 1=some b:=rfl
 have tail:fO n [a,b] 2 c d (m+2) 1=some (if b<d then .inl (-1) else if d<b then .inl 1 else .inr ()):=by
  rw[fO]
  simp only[x1,Kb,w2,Sw,show decide ((1:Int)<2)=true from rfl,show decide ((2:Int)<=1)=false from rfl,show decide ((1:Int)=0)=false from rfl,show decide ((1:Int)=1)=true from rfl,SC,SA]
  by_cases h1:b<d
  ·simp[h1]
  ·by_cases h2:d<b
   ·simp[h1,h2]
   ·rw[fO]; simp[h1,h2]
 rw[fO]
 simp only[x0,Kb,w1,Sw,show decide ((0:Int)<2)=true from rfl,show decide ((2:Int)<=0)=false from rfl,show decide ((0:Int)=0)=true from rfl,SC,SA]
 by_cases h1:a<c
 ·simp[h1]
 ·by_cases h2:c<a
  ·simp[h1,h2]
  ·simp only[h1,h2,Uk,SA,Vk]
   exact tail
def mM (l:List (Int×Int)) (i:Nat):Option (Int×Int):=if i=0 then none else l[i - 1]?
def AX:Option (Int×Int)->List (Int×Int)->Bool
 | _,[]=>true
 | o,p :: r=>AY p&&(match o with | some q=>zO q p | none=>true)&&AX (some p) r
theorem J3 (n:Nat) (v8:Int) (q:List aw) (l:List (Int×Int)) (hl:l.length<=4611686018427387904):∀ (m i:Nat),i<=l.length->l.length - i<m ->
  (AX (mM l i) (l.drop i)=true/\gE n v8 l (l.length:Int) q l m (i:Int)=some (.inr ()))∨(AX (mM l i) (l.drop i)=false/\gE n v8 l (l.length:Int) q l m (i:Int)=some (.inl 60))
 | 0,i,_,h=>absurd h (Tv _)
 | m+1,i,hi,h=>by
  by_cases hlt:i<l.length
  ·have ih:=J3 n v8 q l hl m (i+1) o3 o3
   have hp:mM l (i+1)=some l[i]:=by unfold mM; rw[SI o3]; exact Sx hlt
   rw[hp] at ih
   rw[SU hlt]
   unfold AX gE
   rw[show decide ((i:Int)<(l.length:Int))=true by simpa using hlt,SC,bB,Sx hlt,Sw,J9,Sw,za o3]
   cases hk:AY l[i] with
   | false=>exact .inr ⟨r8,rfl⟩
   | true=>
    simp only[S0,SA,Tm]
    by_cases h0:0<i
    ·have hpi:mM l i=some l[i - 1]:=by unfold mM; rw[SI o3]; exact Sx o3
     have hw:wr .i64 ((i:Int) - 1)=((i - 1:Nat):Int):=by
      rw[df o3 o3]; omega
     rw[hpi,show decide ((0:Int)<(i:Int))=true by simpa using h0,SC,hw,bB,Sx o3,Sw]
     rw[show n+7=(n+4)+3 from rfl,NY]
     simp only[Sw]
     have key:(zO l[i - 1] l[i]=true/\(if l[i - 1].1<l[i].1 then (Sum.inl (-1):Int⊕Unit) else if l[i].1<l[i - 1].1 then .inl 1 else if l[i - 1].2<l[i].2 then .inl (-1) else if l[i].2<l[i - 1].2 then .inl 1 else .inr ())=.inl (-1)) ∨
       (zO l[i - 1] l[i]=false/\((if l[i - 1].1<l[i].1 then (Sum.inl (-1):Int⊕Unit) else if l[i].1<l[i - 1].1 then .inl 1 else if l[i - 1].2<l[i].2 then .inl (-1) else if l[i].2<l[i - 1].2 then .inl 1 else .inr ())=.inl 1∨(if l[i - 1].1<l[i].1 then (Sum.inl (-1):Int⊕Unit) else if l[i].1<l[i - 1].1 then .inl 1 else if l[i - 1].2<l[i].2 then .inl (-1) else if l[i].2<l[i - 1].2 then .inl 1 else .inr ())=.inr ())):=by
      unfold zO
      generalize l[i - 1]=p
      generalize l[i]=r
      by_cases a1:p.1<r.1
      ·exact .inl ⟨by simp[a1],by rw[SH a1]⟩
      ·by_cases a2:r.1<p.1
       ·exact .inr ⟨by simp[a1]; intro e; omega,.inl (by rw[SI a1,SH a2])⟩
       ·have e:p.1=r.1:=by omega
        by_cases a3:p.2<r.2
        ·exact .inl ⟨by simp[e,a3],by rw[SI a1,SI a2,SH a3]⟩
        ·refine .inr ⟨by simp[e,a3],?_⟩
         by_cases a4:r.2<p.2
         ·exact .inl (by rw[SI a1,SI a2,SI a3,SH a4])
         ·exact .inr (by rw[SI a1,SI a2,SI a3,SI a4])
     rcases key with ⟨k1,k2⟩ | ⟨k1,k2 | k2⟩
     ·rw[k1,k2]
      simp only[Tm]
      exact ih
     ·rw[k1,k2]
      exact .inr ⟨r8,rfl⟩
     ·rw[k1,k2]
      exact .inr ⟨r8,rfl⟩
    ·obtain rfl:i=0:=by omega
     have hp0:mM l 0=none:=rfl
     rw[hp0,show decide ((0:Int)<((0:Nat):Int))=false from rfl]
     simp only[SA,Sw,Tm]
     exact ih
  ·rw[S8.2 o3]
   unfold gE
   rw[show decide ((i:Int)<(l.length:Int))=false by simpa using hlt,SA]
   exact .inl ⟨rfl,rfl⟩
def uf (x:aM):Bool:=decide (x.Queue.length<=4096)&&x.Queue.all mc&&AX none x.Apart
theorem D8 (l:List aw):(l.any fun p=>!mc p) = !l.all mc:=by
 induction l with
 | nil=>rfl
 | cons x l ih=>rw[Wn,US,ih]; cases mc x<;>simp
theorem J6 (x:aM) (hA:x.Apart.length<=4611686018427387904):GR x=some (if uf x=true then 0 else 60):=by
 unfold GR K8 uf
 by_cases hq:x.Queue.length<=4096
 ·have hq':decide ((4096:Int)<(x.Queue.length:Int))=false:=by simp; omega
  have hqf:x.Queue.length<=4611686018427387904:=SZ hq (by decide)
  rw[hq',SA,N2 _ hqf,Sw,Sw,D8,SD hq]
  cases x.Queue.all mc with
  | false=>rfl
  | true=>
   simp only[S0,SA,Tm]
   have h13:=J3 az 0 x.Queue x.Apart hA (az+8) 0 (Tk _) s5
   have e:mM x.Apart 0=none:=rfl
   rw[e,Tq,show ((0:Nat):Int)=0 from rfl] at h13
   rcases h13 with ⟨h1,h2⟩ | ⟨h1,h2⟩
   ·rw[h2,h1]; rfl
   ·rw[h2,h1]; rfl
 ·have hq':decide ((4096:Int)<(x.Queue.length:Int))=true:=by simp; omega
  rw[hq',SC,Sw,SK hq]
  rfl
theorem J8 (p:aw):IW p p=some true:=by
 unfold IW Lk
 simp[yV]
theorem GC (n:Nat) (A B:List (Int×Int)) (l:List aw) (hl:l.length<=4611686018427387904):∀ (m i:Nat),i<=l.length->l.length - i<m->ki n l A l B m (i:Int)=some (.inr ())
 | 0,i,_,h=>absurd h (Tv _)
 | m+1,i,hi,h=>by
  unfold ki
  by_cases hlt:i<l.length
  ·rw[show decide ((i:Int)<(l.length:Int))=true by simpa using hlt,SC,bB,Sx hlt,Sw,Sw,J8,Sw,za o3]
   exact GC n A B l hl m (i+1) o3 o3
  ·rw[show decide ((i:Int)<(l.length:Int))=false by simpa using hlt]
   rfl
theorem GD (n:Nat) (A B:List aw) (l:List (Int×Int)) (hl:l.length<=4611686018427387904):∀ (m i:Nat),i<=l.length->l.length - i<m->kj n A l B l m (i:Int)=some (.inr ())
 | 0,i,_,h=>absurd h (Tv _)
 | m+1,i,hi,h=>by
  unfold kj
  by_cases hlt:i<l.length
  ·rw[show decide ((i:Int)<(l.length:Int))=true by simpa using hlt,SC,bB,Sx hlt,Sw,Sw,za o3]
   simp only[Ua,TT,S0,SA]
   exact GD n A B l hl m (i+1) o3 o3
  ·rw[show decide ((i:Int)<(l.length:Int))=false by simpa using hlt]
   rfl
theorem J7 (x:aM) (h1:x.Queue.length<=4611686018427387904) (h2:x.Apart.length<=4611686018427387904):IP x x=some true:=by
 unfold IP Lb
 have e1:=GC az x.Apart x.Apart x.Queue h1 (az+8) 0 (Tk _) s5
 have e2:=GD az x.Queue x.Queue x.Apart h2 (az+8) 0 (Tk _) s5
 rw[show ((0:Nat):Int)=0 from rfl] at e1 e2
 simp only[TC,SA,Sw,e1,e2]
theorem NZ (x:aM):IL x=some (decide (x.Queue.length<=40)&&decide (x.Apart.length<=40)):=by
 unfold IL K5
 have e1:decide ((x.Queue.length:Int)<=40)=decide (x.Queue.length<=40):=Sp
 have e2:decide ((x.Apart.length:Int)<=40)=decide (x.Apart.length<=40):=Sp
 rw[e1,e2]
 cases decide (x.Queue.length<=40)<;>rfl
theorem wq {a b:Int} (h:a≠b):(a != b)=true:=by simpa using h
theorem MS {a b:Int} (h:a≠b):(a==b)=false:=by simpa using h
def xG (x:ah):Bool:=x.Kind==1
def pa:List ah->Option (aO⊕ba)
 | [x0,x1,x2,x3,x4]=>if x0.N=1/\[x0,x1,x2,x3,x4].all xG=true then some (.inl ⟨x1.N,x2.N,x3.N,x4.N⟩) else none
 | [x0,x1,x2,x3]=>if x0.N=2/\[x0,x1,x2,x3].all xG=true then some (.inr ⟨x1.N,x2.N,x3.N⟩) else none
 | _=>none
def msg (bs:List UInt8):Option (aO⊕ba):=if (iW bs).2=0/\(iW bs).1.Kind=3 then pa (iW bs).1.L else none
theorem NV {bs:List UInt8} (h:bs.length<=1100000):(iW bs).1.L.length<=1100000:=by
 rcases yk bs with ⟨v,e⟩ | e
 ·obtain ⟨_,_,_,h4⟩:=zA h e
  rw[e]
  have:=eC v.L
  rw[eJ] at h4
  show v.L.length<=_
  omega
 ·rw[e]; exact Tk _
theorem CS (n:Nat) (v:ah) (hl:v.L.length<=1100000):∀ (m i:Nat) (acc:List Int),i<=v.L.length->v.L.length - i<m->acc.length<=i ->
  kl n v m (i:Int) acc=some (if (v.L.drop i).all xG=true then .inr (acc++(v.L.drop i).map (·.N)) else .inl false)
 | 0,i,_,_,h,_=>absurd h (Tv _)
 | m+1,i,acc,hi,h,ha=>by
  rw[kl]
  by_cases hlt:i<v.L.length
  ·rw[show decide ((i:Int)<(v.L.length:Int))=true by simpa using hlt,SC,bB,Sx hlt,Sw,Sw,SU hlt,US,TS]
   by_cases hk:v.L[i].Kind=1
   ·rw[show (v.L[i].Kind != 1)=false by simp[hk],SA,jh _ _ _ Sr,Sw,za o3,CS n v hl m (i+1) _ o3 o3 r9,show xG v.L[i]=true by simp[xG,hk],Tm]
    simp
   ·rw[wq hk,show xG v.L[i]=false by simp[xG,hk]]; rfl
  ·rw[show decide ((i:Int)<(v.L.length:Int))=false by simpa using hlt,SA,S8.2 o3]
   simp
theorem O6 (bs:List UInt8) (h:bs.length<=1100000):IT bs=some (if (iW bs).2=0/\(iW bs).1.Kind=3/\(iW bs).1.L.all xG=true then ((iW bs).1.L.map (·.N),true) else ([],false)):=by
 unfold IT Le
 rw[RU bs h,Sw]
 have hl:=NV h
 by_cases h0:(iW bs).2=0
 ·by_cases h3:(iW bs).1.Kind=3
  ·simp only[h0,h3,TC,SA,Sw]
   have hw:=CS az (iW bs).1 hl (az+8) 0 [] (Tk _) s5 (Sy _)
   rw[show ((0:Nat):Int)=0 from rfl,Tq] at hw
   rw[hw]
   cases (iW bs).1.L.all xG<;>simp
  ·rw[SI (fun hh=>h3 hh.2.1),h0,wq h3]; rfl
 ·rw[SI (fun hh=>h0 hh.1),wq h0]; rfl
theorem KN (bs:List UInt8) (h:bs.length<=1100000):DQ bs=some (match msg bs with | some (.inl c)=>(c,true) | _=>(⟨0,0,0,0⟩,false)):=by
 unfold DQ K3 msg
 rw[O6 bs h,Sw]
 generalize iW bs=v
 obtain ⟨v,e⟩:=v
 by_cases h0:e=0/\v.Kind=3
 ·simp only[h0.1,h0.2,UJ,Vd,and_self]
  match v.L with
  | []=>rfl
  | [_]=>simp only[pa]; split<;>rfl
  | [_,_]=>simp only[pa]; split<;>rfl
  | [_,_,_]=>simp only[pa]; split<;>rfl
  | [x0,x1,x2,x3]=>simp only[pa]; split<;>split<;>first | rfl | (rename_i q; split at q<;>cases q)
  | [x0,x1,x2,x3,x4]=>
   simp only[pa]
   by_cases ha:[x0,x1,x2,x3,x4].all xG=true
   ·by_cases hk:x0.N=1
    ·rw[SH ha,SH ⟨hk,ha⟩]; simp[hk,bE]
    ·rw[SH ha,SI (fun q=>hk q.1)]
     simp only[TS,V0,S0,SA,Sw,show bE [x0.N,x1.N,x2.N,x3.N,x4.N] 0=some x0.N from rfl,wq hk]
     rfl
   ·rw[SI ha,SI (fun q=>ha q.2)]; rfl
  | y0 :: y1 :: y2 :: y3 :: y4 :: y5 :: l=>
   simp only[pa]
   split
   ·have:(((List.map (fun x:ah=>x.N) (y0 :: y1 :: y2 :: y3 :: y4 :: y5 :: l)).length:Int) != 5)=true:=by simp; omega
    simp only[S0,SA,this,Sw,SC]
   ·rfl
 ·rw[SI h0,SI (fun q=>h0 ⟨q.1,q.2.1⟩)]; rfl
theorem q1:wr .i64 (0+1)=1:=by decide +kernel
theorem q2:wr .i64 (1+1)=2:=by decide +kernel
theorem q3:wr .i64 (2+1)=3:=by decide +kernel
theorem q4:wr .i64 (3+1)=4:=by decide +kernel
theorem q5:wr .i64 (4+1)=5:=by decide +kernel
theorem Hy (n:Nat) (z:Bool) (x0 x1 x2 x3 x4:ah) (z1 z2 z3:Int) (z4:ah) (a b c d e:Int) (m:Nat) :
  (du n z [x0,x1,x2,x3,x4] 5 z1 z2 z3 z4 (m+6) 0 a b c d e=some (.inr (x0.N,x1.N,x2.N,x3.N,x4.N))/\[x0,x1,x2,x3,x4].all xG=true) ∨
  (∃ t,du n z [x0,x1,x2,x3,x4] 5 z1 z2 z3 z4 (m+6) 0 a b c d e=some (.inl (false,t)))/\[x0,x1,x2,x3,x4].all xG=false:=by
 have g0:bE [x0,x1,x2,x3,x4] 0=some x0:=rfl
 have g1:bE [x0,x1,x2,x3,x4] 1=some x1:=rfl
 have g2:bE [x0,x1,x2,x3,x4] 2=some x2:=rfl
 have g3:bE [x0,x1,x2,x3,x4] 3=some x3:=rfl
 have g4:bE [x0,x1,x2,x3,x4] 4=some x4:=rfl
 simp only[US,List.all_nil,xG]
 rw[du]
 simp only[Int.reduceEq,Int.reduceLT,TZ,Uk,SC,SA,Sw,g0,q1,bne]
 cases x0.Kind==1
 ·exact .inr ⟨⟨_,rfl⟩,rfl⟩
 simp only[S0,SA]
 rw[du]
 simp only[Int.reduceEq,Int.reduceLT,TZ,Uk,SC,SA,Sw,g1,q2,bne]
 cases x1.Kind==1
 ·exact .inr ⟨⟨_,rfl⟩,rfl⟩
 simp only[S0,SA]
 rw[du]
 simp only[Int.reduceEq,Int.reduceLT,TZ,Uk,SC,SA,Sw,g2,q3,bne]
 cases x2.Kind==1
 ·exact .inr ⟨⟨_,rfl⟩,rfl⟩
 simp only[S0,SA]
 rw[du]
 simp only[Int.reduceEq,Int.reduceLT,TZ,Uk,SC,SA,Sw,g3,q4,bne]
 cases x3.Kind==1
 ·exact .inr ⟨⟨_,rfl⟩,rfl⟩
 simp only[S0,SA]
 rw[du]
 simp only[Int.reduceEq,Int.reduceLT,TZ,Uk,SC,SA,Sw,g4,q5,bne]
 cases x4.Kind==1
 ·exact .inr ⟨⟨_,rfl⟩,rfl⟩
 simp only[S0,SA]
 rw[du]
 exact .inl ⟨rfl,rfl⟩
theorem EB (n:Nat) (z:Bool) (x0 x1 x2 x3:ah) (z1 z2 z3 z5:Int) (z4:ah) (a b c d:Int) (m:Nat) :
  (dk n z [x0,x1,x2,x3] 4 z1 z2 z3 z5 z4 (m+5) 0 a b c d=some (.inr (x0.N,x1.N,x2.N,x3.N))/\[x0,x1,x2,x3].all xG=true) ∨
  (∃ t,dk n z [x0,x1,x2,x3] 4 z1 z2 z3 z5 z4 (m+5) 0 a b c d=some (.inl (false,t)))/\[x0,x1,x2,x3].all xG=false:=by
 have g0:bE [x0,x1,x2,x3] 0=some x0:=rfl
 have g1:bE [x0,x1,x2,x3] 1=some x1:=rfl
 have g2:bE [x0,x1,x2,x3] 2=some x2:=rfl
 have g3:bE [x0,x1,x2,x3] 3=some x3:=rfl
 simp only[US,List.all_nil,xG]
 rw[dk]
 simp only[Int.reduceEq,Int.reduceLT,TZ,Uk,SC,SA,Sw,g0,q1,bne]
 cases x0.Kind==1
 ·exact .inr ⟨⟨_,rfl⟩,rfl⟩
 simp only[S0,SA]
 rw[dk]
 simp only[Int.reduceEq,Int.reduceLT,TZ,Uk,SC,SA,Sw,g1,q2,bne]
 cases x1.Kind==1
 ·exact .inr ⟨⟨_,rfl⟩,rfl⟩
 simp only[S0,SA]
 rw[dk]
 simp only[Int.reduceEq,Int.reduceLT,TZ,Uk,SC,SA,Sw,g2,q3,bne]
 cases x2.Kind==1
 ·exact .inr ⟨⟨_,rfl⟩,rfl⟩
 simp only[S0,SA]
 rw[dk]
 simp only[Int.reduceEq,Int.reduceLT,TZ,Uk,SC,SA,Sw,g3,q4,bne]
 cases x3.Kind==1
 ·exact .inr ⟨⟨_,rfl⟩,rfl⟩
 simp only[S0,SA]
 rw[dk]
 exact .inl ⟨rfl,rfl⟩
theorem HB {x:ah} {l:List ah} (hk:x.N=1) (hl:l.length≠4):pa (x :: l)=none:=by
 match l with
 | []=>rfl
 | [_]=>rfl
 | [_,_]=>rfl
 | [_,_,_]=>simp only[pa]; exact SI (fun q=>o3)
 | [_,_,_,_]=>exact absurd rfl hl
 | _ :: _ :: _ :: _ :: _ :: _=>rfl
theorem HC {x:ah} {l:List ah} (hk:x.N≠1) (hl:l.length≠3∨x.N≠2):pa (x :: l)=none:=by
 match l with
 | []=>rfl
 | [_]=>rfl
 | [_,_]=>rfl
 | [_,_,_]=>simp only[pa]; exact SI (fun q=>by rcases hl with h | h; exact h rfl; exact h q.1)
 | [_,_,_,_]=>simp only[pa]; exact SI (fun q=>hk q.1)
 | _ :: _ :: _ :: _ :: _ :: _=>rfl
theorem KQ (bs:List UInt8) (h:bs.length<=1100000):∃ r,Il bs=some r/\match msg bs with | some (.inl c)=>r=(⟨1,c,⟨0,0,0⟩⟩,true) | some (.inr c)=>r=(⟨2,⟨0,0,0,0⟩,c⟩,true) | none=>r.2=false:=by
 unfold Il La msg
 rw[RT bs h,Sw]
 generalize iW bs=v
 obtain ⟨v,e⟩:=v
 by_cases h0:e=0
 ·subst h0
  by_cases h3:v.Kind=3
  ·rw[SH ⟨rfl,h3⟩]
   simp only[h3,TC,SA,Sw]
   match v.L with
   | []=>exact⟨_,rfl,rfl⟩
   | x :: L'=>
    have hne:(((x :: L').length:Int)==0)=false:=r9
    simp only[hne,SA,Sw,show bE (x :: L') 0=some x from rfl]
    by_cases hk:x.N=1
    ·simp only[hk,Ua,SC,TC,SA,Sw]
     by_cases hl:L'.length=4
     ·obtain ⟨x1,x2,x3,x4,rfl⟩:∃ x1 x2 x3 x4,L'=[x1,x2,x3,x4]:=by
       match L',hl with | [x1,x2,x3,x4],_=>exact⟨x1,x2,x3,x4,rfl⟩
      have e5:((([x,x1,x2,x3,x4]:List ah).length:Int))=5:=rfl
      simp only[e5,TC,SA]
      simp only[pa]
      rcases Hy az false x x1 x2 x3 x4 0 0 0 v 1 0 0 0 0 (az+2) with ⟨hw,ha⟩ | ⟨⟨⟨t1,t2,t3,t4,t5⟩,hw⟩,ha⟩
      ·rw[hw,SH ⟨hk,ha⟩]
       exact⟨_,rfl,by simp only[hk]⟩
      ·rw[hw,SI (fun q=>by rw[ha] at q; exact absurd q.2 Bool.false_ne_true)]
       exact⟨_,rfl,rfl⟩
     ·rw[HB hk hl,show (((x :: L').length:Int) != 5)=true by simp; omega]
      exact⟨_,rfl,rfl⟩
    ·simp only[MS hk,SA,wq hk,SC,Sw]
     by_cases hl:L'.length=3/\x.N=2
     ·obtain ⟨hl,h2⟩:=hl
      obtain ⟨x1,x2,x3,rfl⟩:∃ x1 x2 x3,L'=[x1,x2,x3]:=by
       match L',hl with | [x1,x2,x3],_=>exact⟨x1,x2,x3,rfl⟩
      have e5:((([x,x1,x2,x3]:List ah).length:Int))=4:=rfl
      simp only[e5,h2,TC,SA,Sw]
      simp only[pa]
      rcases EB az false x x1 x2 x3 0 0 0 0 v 2 0 0 0 (az+3) with ⟨hw,ha⟩ | ⟨⟨⟨t1,t2,t3,t4⟩,hw⟩,ha⟩
      ·rw[hw,SH ⟨h2,ha⟩]
       exact⟨_,rfl,by simp only[h2]⟩
      ·rw[hw,SI (fun q=>by rw[ha] at q; exact absurd q.2 Bool.false_ne_true)]
       exact⟨_,rfl,rfl⟩
     ·rw[HC hk o3]
      by_cases h2:x.N=2
      ·rw[h2,show (((x :: L').length:Int) != 4)=true by simp; omega]
       exact⟨_,rfl,rfl⟩
      ·rw[wq h2]; exact⟨_,rfl,rfl⟩
  ·rw[SI (fun q=>h3 q.2),wq h3]; exact⟨_,rfl,rfl⟩
 ·rw[SI (fun q=>h0 q.1),wq h0]; exact⟨_,rfl,rfl⟩
section
def px (a lo hi:Int):Bool:=decide (lo<=a)&&decide (a<=hi)
theorem Fy (a lo hi:Int):zj a lo hi=some (px a lo hi):=by
 unfold zj K7 px
 cases decide (lo<=a)<;>rfl
def gq (c:aO) (n:Int):Bool:=px c.No 0 1048576&&px c.Role 0 (wr .i64 (n - 1))&&px c.Bar 0 4095&&px c.Program 1 8
theorem KP (c:aO) (n:Int):GQ c n=some (gq c n):=by
 unfold GQ K6 gq
 simp only[Fy,Sw]
 cases px c.No 0 1048576<;>cases px c.Role 0 (wr .i64 (n - 1))<;>cases px c.Bar 0 4095<;>rfl
theorem og {c:aO} {n:Int} (h:gq c n=true):0<=c.Bar/\c.Bar<=4095:=by
 unfold gq px at h
 simp only[Sz,SG] at h
 exact h.1.2
def w6:List Int->List Int->Bool
 | a :: l,b :: m=>px a 0 8&&!((b != a)&&(b != 0))&&w6 l m
 | _,_=>true
theorem Gx (n:Nat) (x:aP) (hl:x.Got.length<=4611686018427387904) (hd:x.Did.length=x.Got.length):∀ (m i:Nat),i<=x.Got.length->x.Got.length - i<m ->
  kf n x.Got (x.Got.length:Int) x m (i:Int)=some (bif w6 (x.Got.drop i) (x.Did.drop i) then .inr () else .inl false)
 | 0,i,_,h=>absurd h (Tv _)
 | m+1,i,hi,h=>by
  rw[kf]
  by_cases hlt:i<x.Got.length
  ·have hlt':i<x.Did.length:=by omega
   rw[show decide ((i:Int)<(x.Got.length:Int))=true by simpa using hlt,SC,bB,bB,Sx hlt,Sx hlt',Sw,Fy,Sw,SU hlt,SU hlt',za o3,Gx n x hl hd m (i+1) o3 o3]
   simp only[w6,Sw]
   cases px x.Got[i] 0 8<;>cases (x.Did[i] != x.Got[i])<;>cases (x.Did[i] != 0)<;>simp
  ·rw[show decide ((i:Int)<(x.Got.length:Int))=false by simpa using hlt,SA,S8.2 o3]
   rfl
def ix (role n:Int):Int->List aO->Bool
 | _,[]=>true
 | lo,c :: l=>gq c n&&(c.Role==role)&&!decide (c.Bar<lo)&&ix role n (c.Bar+1) l
theorem Gv (n:Nat) (role k:Int) (z:Bool) (x:aP) (hl:x.Cues.length<=4611686018427387904):∀ (m i:Nat) (lo:Int),i<=x.Cues.length->x.Cues.length - i<m ->
  kh n role k z x.Cues (x.Cues.length:Int) x m lo (i:Int)=some (bif ix role k lo (x.Cues.drop i) then .inr () else .inl false)
 | 0,i,_,_,h=>absurd h (Tv _)
 | m+1,i,lo,hi,h=>by
  rw[kh]
  by_cases hlt:i<x.Cues.length
  ·rw[show decide ((i:Int)<(x.Cues.length:Int))=true by simpa using hlt,SC,bB,Sx hlt,Sw,KP,Sw,SU hlt,za o3]
   simp only[ix]
   cases hr:gq x.Cues[i] k with
   | false=>rfl
   | true=>
    obtain ⟨b1,b2⟩:=og hr
    rw[df o3 o3,Gv n role k z x hl m (i+1) _ o3 o3]
    simp only[bne]
    cases (x.Cues[i].Role==role)<;>cases decide (x.Cues[i].Bar<lo)<;>simp
  ·rw[show decide ((i:Int)<(x.Cues.length:Int))=false by simpa using hlt,SA,S8.2 o3]
   rfl
def nj (x:aP) (role n bar:Int):Bool:=(x.Got.length:Int)==bar&&(x.Did.length:Int)==bar&&w6 x.Got x.Did&&ix role n bar x.Cues
theorem O4 (x:aP) (role n bar:Int) (h1:x.Got.length<=4611686018427387904) (h2:x.Cues.length<=4611686018427387904):IM x role n bar=some (nj x role n bar):=by
 unfold IM K9 nj
 simp only[bne]
 cases hg:((x.Got.length:Int)==bar) with
 | false=>rfl
 | true=>cases hd:((x.Did.length:Int)==bar) with
  | false=>rfl
  | true=>
   have e1:=eq_of_beq hg; have e2:=eq_of_beq hd
   have w1:=Gx az x h1 o3 (az+8) 0 (Tk _) s5
   have w2:=Gv az role n false x h2 (az+8) 0 bar (Tk _) s5
   rw[show ((0:Nat):Int)=0 from rfl,Tq] at w1 w2
   rw[Tq] at w1
   simp only[S0,SA,Sw,w1,w2,Tm]
   cases w6 x.Got x.Did<;>cases ix role n bar x.Cues<;>rfl
def ym (w:aq) (r:ba):Bool:=match bE w.Ears r.Role with
 | some y=>match bE y.Did r.Bar with
  | some d=>d==r.Program
  | none=>false
 | none=>false
def Dq (w:aq) (p:aw):Bool:=match msg p.Data with
 | some (.inl c)=>gq c (w.Ears.length:Int)&&(p.From==0)&&(p.To==wr .i64 (c.Role+1))
 | some (.inr r)=>px r.Role 0 ((w.Ears.length:Int) - 1)&&px r.Bar 0 (w.Bar - 1)&&(p.From==wr .i64 (r.Role+1))&&(p.To==0)&&ym w r
 | none=>false
def GN (w:aq):Prop:=∀ x∈w.Ears,(x.Did.length:Int)=w.Bar
theorem MY {w:aq} {r:ba} (he:GN w) (h1:px r.Role 0 ((w.Ears.length:Int) - 1)=true) (h2:px r.Bar 0 (w.Bar - 1)=true):(Option.bind (bE w.Ears r.Role) fun y=>Option.bind (bE y.Did r.Bar) fun z=>some (z==r.Program))=some (ym w r):=by
 unfold px at h1 h2
 simp only[Sz,SG] at h1 h2
 unfold ym
 have e1:r.Role=((r.Role.toNat:Nat):Int):=o3
 have e2:r.Bar=((r.Bar.toNat:Nat):Int):=o3
 have l1:r.Role.toNat<w.Ears.length:=o3
 rw[e1,bB,Sx l1]
 have l2:r.Bar.toNat<w.Ears[r.Role.toNat].Did.length:=by have:=he _ (Tb l1); omega
 simp only[Sw]
 rw[e2,bB,Sx l2]
 rfl
theorem Gw (n:Nat) (z:Int) (w:aq) (hl:w.Ears.length<=12) (hg:∀ x∈w.Ears,x.Got.length<=4611686018427387904/\x.Cues.length<=4611686018427387904):∀ (m i:Nat),i<=w.Ears.length->w.Ears.length - i<m ->
  kb n z (w.Ears.length:Int) w.Ears (w.Ears.length:Int) w m (i:Int)=some (if ∀ j (h:j<w.Ears.length),i<=j->nj w.Ears[j] j (w.Ears.length:Int) w.Bar=true then .inr () else .inl 490)
 | 0,i,_,h=>absurd h (Tv _)
 | m+1,i,hi,h=>by
  rw[kb]
  by_cases hlt:i<w.Ears.length
  ·obtain ⟨a1,a2⟩:=hg _ (Tb hlt)
   rw[show decide ((i:Int)<(w.Ears.length:Int))=true by simpa using hlt,SC,bB,Sx hlt,Sw,O4 _ _ _ _ a1 a2,Sw]
   cases he:nj w.Ears[i] i (w.Ears.length:Int) w.Bar with
   | false=>
    rw[SI (fun q=>by rw[q i hlt (Sy _)] at he; cases he)]; rfl
   | true=>
    rw[za o3,Gw n z w hl hg m (i+1) o3 o3]
    simp only[S0,SA]
    refine Ty some (ite_congr (propext ⟨fun q j hj hij=>?_,fun q j hj hij=>q j hj o3⟩) (fun _=>rfl) (fun _=>rfl))
    rcases Nat.eq_or_lt_of_le hij with rfl | h2
    ·exact he
    ·exact q j hj h2
  ·rw[show decide ((i:Int)<(w.Ears.length:Int))=false by simpa using hlt,SA,SH (fun j hj hij=>o3)]
theorem Gy (n:Nat) (z:Int) (w:aq) (he:GN w) (hn:w.Ears.length<=12) (hb:-1<=w.Bar/\w.Bar<=4096) (hp:∀ p∈w.Net.Queue,p.Data.length<=1100000) (hq:w.Net.Queue.length<=4096):∀ (m i:Nat),i<=w.Net.Queue.length->w.Net.Queue.length - i<m ->
  iu n z (w.Ears.length:Int) w.Net.Queue (w.Net.Queue.length:Int) w m (i:Int)=some (bif (w.Net.Queue.drop i).all (Dq w) then .inr () else .inl 490)
 | 0,i,_,h=>absurd h (Tv _)
 | m+1,i,hi,h=>by
  rw[iu]
  by_cases hlt:i<w.Net.Queue.length
  ·obtain ⟨r,hr,hm⟩:=KQ w.Net.Queue[i].Data (hp _ (Tb hlt))
   rw[show decide ((i:Int)<(w.Net.Queue.length:Int))=true by simpa using hlt,SC,bB,Sx hlt,Sw,hr,Sw,SU hlt,US,za o3,Gy n z w he hn hb hp hq m (i+1) o3 o3]
   simp only[KP,Fy,Sw]
   rw[df (n:=(w.Ears.length:Int) - 1) o3 o3,df (n:=w.Bar - 1) o3 o3]
   unfold Dq
   generalize w.Net.Queue[i]=p at *
   match hg:msg p.Data,hm with
   | none,hm=>
    simp only[show r.2=false from hm]
    simp
   | some (.inl c),hm=>
    simp only at hm
    subst hm
    simp only[Ua,SC,Sw]
    cases gq c (w.Ears.length:Int)<;>cases (p.From==0)<;>cases (p.To==wr .i64 (c.Role+1))<;>simp
   | some (.inr c),hm=>
    simp only at hm
    subst hm
    simp only[show ((2:Int)==1)=false from rfl,SC,SA,Sw]
    cases hr':px c.Role 0 ((w.Ears.length:Int) - 1) with
    | false=>simp
    | true=>cases hb':px c.Bar 0 (w.Bar - 1) with
     | false=>simp
     | true=>
      have hd:=MY he hr' hb'
      simp only[SC,Sw]
      cases (p.From==wr .i64 (c.Role+1)) with
      | false=>simp
      | true=>cases (p.To==0) with
       | false=>simp
       | true=>
        simp only[SC,Sw,hd]
        cases ym w c<;>simp
  ·rw[show decide ((i:Int)<(w.Net.Queue.length:Int))=false by simpa using hlt,SA,S8.2 o3]
   rfl
def okW (w:aq):Prop:=(1<=w.Ears.length/\w.Ears.length<=12)/\(0<=w.Bar/\w.Bar<=4096)/\uf w.Net=true/\(∀ j (h:j<w.Ears.length),nj w.Ears[j] j (w.Ears.length:Int) w.Bar=true)/\w.Net.Queue.all (Dq w)=true
def Fit (w:aq):Prop:=w.Net.Apart.length<=4611686018427387904/\∀ x∈w.Ears,x.Got.length<=4611686018427387904/\x.Cues.length<=4611686018427387904
open Classical in
noncomputable def B4 (w:aq):Int:=if okW w then 0 else 490
theorem oJ {w:aq} (h:okW w):B4 w=0:=SH h
theorem jw {w:aq} (h:¬ okW w):B4 w=490:=SI h
theorem EE {p:aw} (h:mc p=true):p.Data.length<=1100000:=by
 unfold mc at h
 simp only[Sz,SG] at h
 omega
theorem pd {x:aM} (h:uf x=true):x.Queue.length<=4096/\∀ p∈x.Queue,p.Data.length<=1100000:=by
 unfold uf at h
 simp only[Sz,SG,SJ] at h
 exact⟨h.1.1,fun p hp=>EE (h.1.2 p hp)⟩
theorem Ej {w:aq} (h:∀ j (h:j<w.Ears.length),nj w.Ears[j] j (w.Ears.length:Int) w.Bar=true):GN w:=fun x hx=>by
 obtain ⟨j,hj,rfl⟩:=Tu hx
 have:=h j hj
 unfold nj at this
 simp only[Sz] at this
 exact eq_of_beq this.1.1.2
theorem KL (w:aq) (hf:Fit w):D2 w=some (B4 w):=by
 unfold D2 K0
 simp only[Fy,J6 _ hf.1,Sw]
 by_cases h1:1<=w.Ears.length/\w.Ears.length<=12
 ·have e1:px (w.Ears.length:Int) 1 12=true:=by unfold px; simp; omega
  by_cases h2:0<=w.Bar/\w.Bar<=4096
  ·have e2:px w.Bar 0 4096=true:=by unfold px; simp; omega
   cases h3:uf w.Net with
   | false=>rw[jw (fun q=>by rw[q.2.2.1] at h3; cases h3),e1,e2]; rfl
   | true=>
    obtain ⟨q1,q2⟩:=pd h3
    have w1:=Gw az 0 w h1.2 hf.2 (az+8) 0 (Tk _) s5
    rw[show ((0:Nat):Int)=0 from rfl] at w1
    simp only[e1,e2,S0,SA,Sw,Vd,TC,w1]
    by_cases h4:∀ j (h:j<w.Ears.length),nj w.Ears[j] j (w.Ears.length:Int) w.Bar=true
    ·have w2:=Gy az 0 w (Ej h4) h1.2 o3 q2 q1 (az+8) 0 (Tk _) s5
     rw[show ((0:Nat):Int)=0 from rfl,Tq] at w2
     rw[SH (fun j h _=>h4 j h)]
     simp only[w2]
     cases h5:w.Net.Queue.all (Dq w) with
     | false=>rw[jw (fun q=>by rw[q.2.2.2.2] at h5; cases h5)]; rfl
     | true=>rw[oJ ⟨h1,h2,h3,h4,h5⟩]; rfl
    ·rw[SI (fun q=>h4 (fun j h=>q j h (Tk _))),jw (fun q=>h4 q.2.2.2.1)]
  ·have e2:px w.Bar 0 4096=false:=by unfold px; rw[U3]; intro q; simp only[Sz,SG] at q; exact h2 q
   rw[jw (fun q=>h2 q.2.1),e1,e2]; rfl
 ·have e1:px (w.Ears.length:Int) 1 12=false:=by unfold px; rw[U3]; intro q; simp only[Sz,SG] at q; exact h1 o3
  rw[jw (fun q=>h1 q.1),e1]; rfl
end
theorem OY:G7=some true:=r7
def zW:aq:=⟨⟨[],[]⟩,[],0⟩
theorem CT (n:Nat) (l:List Int) (hl:l.length<=4611686018427387904):∀ (m i:Nat),i<=l.length->l.length - i<m->km n l l m (i:Int)=some (.inr ())
 | 0,i,_,h=>absurd h (Tv _)
 | m+1,i,hi,h=>by
  rw[km]
  by_cases hlt:i<l.length
  ·rw[show decide ((i:Int)<(l.length:Int))=true by simpa using hlt,SC,bB,Sx hlt,Sw,Sw,TC,SA,za o3]
   exact CT n l hl m (i+1) o3 o3
  ·rw[show decide ((i:Int)<(l.length:Int))=false by simpa using hlt]; rfl
theorem GM (l:List Int) (hl:l.length<=4611686018427387904):Ip l l=some true:=by
 unfold Ip Lf
 have hw:=CT az l hl (az+8) 0 (Tk _) s5
 rw[show ((0:Nat):Int)=0 from rfl] at hw
 rw[TC,SA,hw]; rfl
def GP (l:List aP):Prop:=l.length<=4611686018427387904/\∀ x∈l,x.Cues.length<=4611686018427387904/\x.Got.length<=4611686018427387904/\x.Did.length<=4611686018427387904
theorem zQ (n:Nat) (l:List aP) (j:Nat) (hj:j<l.length) (hl:l[j].Cues.length<=4611686018427387904):∀ (m i:Nat),i<=l[j].Cues.length->l[j].Cues.length - i<m->ke n l l (j:Int) m (i:Int)=some (.inr ())
 | 0,i,_,h=>absurd h (Tv _)
 | m+1,i,hi,h=>by
  rw[ke,bB,Sx hj,Sw]
  by_cases hlt:i<l[j].Cues.length
  ·rw[show decide ((i:Int)<(l[j].Cues.length:Int))=true by simpa using hlt]
   simp only[SC,bB,Sx hj,Sx hlt,Sw,za (by omega:i<=4611686018427387904),Ua,TT,S0,SA]
   exact zQ n l j hj hl m (i+1) o3 o3
  ·rw[show decide ((i:Int)<(l[j].Cues.length:Int))=false by simpa using hlt]; rfl
theorem zP (n:Nat) (l:List aP) (hl:GP l) (hn:4611686018427387904<n):∀ (m i:Nat),i<=l.length->l.length - i<m->kd n l l m (i:Int)=some (.inr ())
 | 0,i,_,h=>absurd h (Tv _)
 | m+1,i,hi,h=>by
  have hll:=hl.1
  rw[kd]
  by_cases hlt:i<l.length
  ·obtain ⟨a1,a2,a3⟩:=hl.2 _ (Tb hlt)
   have hw:=zQ n l i hlt a1 (n+8) 0 (Tk _) o3
   rw[show ((0:Nat):Int)=0 from rfl] at hw
   rw[show decide ((i:Int)<(l.length:Int))=true by simpa using hlt,SC,bB,Sx hlt]
   simp only[Sw,TC,SA,GM _ a2,GM _ a3,S0,hw]
   rw[za o3]
   exact zP n l hl hn m (i+1) o3 o3
  ·rw[show decide ((i:Int)<(l.length:Int))=false by simpa using hlt]; rfl
theorem KO (l:List aP) (hl:GP l):D3 l l=some true:=by
 unfold D3 K4
 have hw:=zP az l hl s5 (az+8) 0 (Tk _) (by rw[fu]; have:=hl.1; omega)
 rw[show ((0:Nat):Int)=0 from rfl] at hw
 rw[TC,SA,hw]; rfl
def II (w:aq):Prop:=GP w.Ears/\w.Net.Queue.length<=4611686018427387904/\w.Net.Apart.length<=4611686018427387904
theorem KM (w:aq) (h:II w):FE w w=some true:=by
 unfold FE K1
 rw[Ua,SC,KO _ h.1,J7 _ h.2.1 h.2.2]; rfl
def GO (w:aq):Prop:=w.Net.Queue.length<=40/\w.Net.Apart.length<=40/\w.Ears.length<=20/\∀ x∈w.Ears,x.Cues.length<=40/\x.Got.length<=5000/\x.Did.length<=5000
theorem Gu (n:Nat) (z:Bool) (w:aq) (hl:w.Ears.length<=4611686018427387904):∀ (m i:Nat),i<=w.Ears.length->w.Ears.length - i<m ->
  nG n z w m (i:Int)=some (.inl false)∨(nG n z w m (i:Int)=some (.inr ())/\∀ x∈w.Ears.drop i,x.Cues.length<=40/\x.Got.length<=5000/\x.Did.length<=5000)
 | 0,i,_,h=>absurd h (Tv _)
 | m+1,i,hi,h=>by
  rw[nG]
  by_cases hlt:i<w.Ears.length
  ·rw[show decide ((i:Int)<(w.Ears.length:Int))=true by simpa using hlt,SC,bB,Sx hlt,Sw,za o3,SU hlt]
   have ih:=Gu n z w hl m (i+1) o3 o3
   generalize w.Ears[i]=x
   by_cases c1:x.Cues.length<=40
   ·by_cases c2:x.Got.length<=5000
    ·by_cases c3:x.Did.length<=5000
     ·have d1:decide ((40:Int)<(x.Cues.length:Int))=false:=by rw[TH]; omega
      have d2:decide ((5000:Int)<(x.Got.length:Int))=false:=by rw[TH]; omega
      have d3:decide ((5000:Int)<(x.Did.length:Int))=false:=by rw[TH]; omega
      simp only[d1,d2,d3,SA]
      cases decide ((60:Int)<(x.Got.length:Int)) with
      | false=>
       simp only[SA,Sw]
       rcases ih with h' | ⟨h',hx⟩
       ·exact .inl h'
       ·refine .inr ⟨h',fun y hy=>?_⟩
        rcases Ti.1 hy with rfl | hy
        ·exact⟨c1,c2,c3⟩
        ·exact hx y hy
      | true=>
       simp only[SC,Sw]
       cases decide ((x.Got.length:Int)<4094) with
       | true=>exact .inl rfl
       | false=>
        simp only[SA,Sw]
        rcases ih with h' | ⟨h',hx⟩
        ·exact .inl h'
        ·refine .inr ⟨h',fun y hy=>?_⟩
         rcases Ti.1 hy with rfl | hy
         ·exact⟨c1,c2,c3⟩
         ·exact hx y hy
     ·have d3:decide ((5000:Int)<(x.Did.length:Int))=true:=by rw[U0]; omega
      rw[d3]
      cases decide ((40:Int)<(x.Cues.length:Int))<;>cases decide ((60:Int)<(x.Got.length:Int))<;>cases decide ((x.Got.length:Int)<4094)<;>cases decide ((5000:Int)<(x.Got.length:Int))<;>exact .inl rfl
    ·have d2:decide ((5000:Int)<(x.Got.length:Int))=true:=by rw[U0]; omega
     rw[d2]
     cases decide ((40:Int)<(x.Cues.length:Int))<;>cases decide ((60:Int)<(x.Got.length:Int))<;>cases decide ((x.Got.length:Int)<4094)<;>exact .inl rfl
   ·have d1:decide ((40:Int)<(x.Cues.length:Int))=true:=by rw[U0]; omega
    rw[d1]
    exact .inl rfl
  ·rw[show decide ((i:Int)<(w.Ears.length:Int))=false by simpa using hlt,SA,S8.2 o3]
   exact .inr ⟨rfl,fun _ q=>by cases q⟩
theorem Sh (w:aq):G8 w=some false∨(G8 w=some true/\GO w):=by
 unfold G8 F8
 rw[NZ,Sw]
 by_cases h1:w.Net.Queue.length<=40
 ·by_cases h2:w.Net.Apart.length<=40
  ·by_cases h3:w.Ears.length<=20
   ·have d3:decide ((20:Int)<(w.Ears.length:Int))=false:=by rw[TH]; omega
    have hw:=Gu az false w o3 (az+8) 0 (Tk _) s5
    rw[show ((0:Nat):Int)=0 from rfl,Tq] at hw
    rw[SD h1,SD h2,d3]
    simp only[Ut,S0,SA,Sw]
    rcases hw with hw | ⟨hw,hx⟩
    ·rw[hw]; exact .inl rfl
    ·rw[hw]; exact .inr ⟨rfl,h1,h2,h3,hx⟩
   ·have d3:decide ((20:Int)<(w.Ears.length:Int))=true:=by rw[U0]; omega
    rw[d3]
    cases (decide (w.Net.Queue.length<=40)&&decide (w.Net.Apart.length<=40))<;>exact .inl rfl
  ·rw[SK h2,Bool.and_false]; exact .inl rfl
 ·rw[SK h1]; exact .inl rfl
theorem GO.fit {w:aq} (h:GO w):Fit w:=⟨by have:=h.2.1; omega,fun x hx=>by have:=h.2.2.2 x hx; omega⟩
def bu (x:aM) (i:Nat):aM:=aM.mk (x.Queue.take i++x.Queue.drop (i+1)) x.Apart
theorem A5 {T:Type} (l:List T) (i:Nat) (h:i<=l.length):gD l 0 (i:Int)=some (l.take i):=by
 unfold gD
 simp[h]
theorem A4 {T:Type} (l:List T) (i:Nat) (h:i<=l.length):gD l (i:Int) (l.length:Int)=some (l.drop i):=by
 unfold gD
 rw[SD (by omega:(0:Int)<=(i:Int)),SD (by omega:(i:Int)<=(l.length:Int)),SD (Wc _)]
 simp only[T1,Ut,SC]
 rw[Tj r8]
theorem N6 (x:aM) (i:Nat) (hi:i<x.Queue.length) (hq:x.Queue.length<=4096):It x (i:Int)=some (bu x i):=by
 unfold It Ln bu
 rw[A5 _ _ o3,Sw,za (by first | (rw[fu]; omega) | omega),A4 _ _ o3,Sw,jh _ _ _ Sr]
 rfl
def lZ:aw:=aw.mk 0 0 []
def KZ:aM:=aM.mk [] []
def atR (x:aM) (a:Int):aw×Int:=if uf x=true then (if 0<=a then match x.Queue[a.toNat]? with | some p=>(p,0) | none=>(lZ,1) else (lZ,1)) else (lZ,60)
theorem N4 (x:aM) (a:Int) (hA:x.Apart.length<=4611686018427387904):IX x a=some (atR x a):=by
 unfold IX Ll atR
 rw[J6 x hA,Sw]
 cases uf x with
 | false=>rfl
 | true=>
  simp only[Vd]
  by_cases h0:0<=a
  ·obtain ⟨i,rfl⟩:∃ i:Nat,a=i:=⟨a.toNat,o3⟩
   rw[SH h0,show decide ((i:Int)<0)=false by simp,T1,bB]
   by_cases h1:i<x.Queue.length
   ·rw[Sx h1,show decide ((x.Queue.length:Int)<=(i:Int))=false by simp; omega]
    rfl
   ·rw[TM o3,show decide ((x.Queue.length:Int)<=(i:Int))=true by simp; omega]
    rfl
  ·rw[SI h0,show decide (a<0)=true by simp; omega]
   rfl
theorem BZ {x:aM} {a:Int} (h:(atR x a).2=0):uf x=true/\0<=a/\∃ hlt:a.toNat<x.Queue.length,(atR x a).1=x.Queue[a.toNat]:=by
 unfold atR at h ⊢
 by_cases h1:uf x=true
 ·rw[SH h1] at h ⊢
  by_cases h2:0<=a
  ·rw[SH h2] at h ⊢
   refine⟨h1,h2,?_⟩
   by_cases h3:a.toNat<x.Queue.length
   ·rw[Sx h3]
    exact⟨h3,rfl⟩
   ·rw[TM o3] at h
    cases h
  ·rw[SI h2] at h; cases h
 ·rw[SI h1] at h; cases h
theorem vB {x:aM} (h:uf x=true):x.Queue.length<=4096:=by
 unfold uf at h
 simp only[Sz,SG] at h
 exact h.1.1
theorem J5 (n:Nat) (v2 c d:Int) (l:List (Int×Int)) (hl:l.length<=4611686018427387904):∀ (m i:Nat),i<=l.length->l.length - i<m ->
  (∃ j:Int,0<=j/\jn n l (l.length:Int) c d m (i:Int)=some (.inl j)/\(l.drop i).any (fun q=>c==q.1&&d==q.2)=true)∨(jn n l (l.length:Int) c d m (i:Int)=some (.inr ())/\(l.drop i).any (fun q=>c==q.1&&d==q.2)=false)
 | 0,i,_,h=>absurd h (Tv _)
 | m+1,i,hi,h=>by
  unfold jn
  by_cases hlt:i<l.length
  ·rw[show decide ((i:Int)<(l.length:Int))=true by simpa using hlt,SC,bB,Sx hlt,Sw,za o3,SU hlt,Wn]
   cases hp:(c==l[i].1&&d==l[i].2) with
   | true=>exact .inl ⟨i,o3,rfl,rfl⟩
   | false=>
    simp only[SA,Bool.false_or]
    exact J5 n v2 c d l hl m (i+1) o3 o3
  ·rw[show decide ((i:Int)<(l.length:Int))=false by simpa using hlt,SA,S8.2 o3]
   exact .inr ⟨rfl,rfl⟩
def tZ (l:List (Int×Int)) (p:Int×Int):Bool:=l.any fun q=>p.1==q.1&&p.2==q.2
theorem N5 (l:List (Int×Int)) (p:Int×Int) (hl:l.length<=4611686018427387904):IY l p=some (tZ l p):=by
 unfold IY Lm Lv Lq tZ
 have e:l.drop 0=l:=rfl
 rcases J5 az 0 p.1 p.2 l hl (az+8) 0 (Tk _) s5 with ⟨j,h1,h2,h3⟩ | ⟨h2,h3⟩
 ·rw[e] at h3
  rw[show ((0:Nat):Int)=0 from rfl] at h2
  rw[h2,h3]
  simp only[Sw]
  rw[SD h1]
 ·rw[e] at h3
  rw[show ((0:Nat):Int)=0 from rfl] at h2
  rw[h2,h3]
  rfl
def link (a b:Int):Int×Int:=(if b<a then b else a,if a<b then b else a)
def iX (x:aM) (a:Int):aw×aM×Int:=if (atR x a).2=0 then (if tZ x.Apart (link (atR x a).1.From (atR x a).1.To)=true then lZ else (atR x a).1,bu x a.toNat,0) else ((atR x a).1,KZ,(atR x a).2)
theorem N0 (x:aM) (a:Int) (hA:x.Apart.length<=4611686018427387904):IQ x a=some (iX x a):=by
 unfold IQ Lc iX
 rw[N4 x a hA,Sw]
 by_cases h:(atR x a).2=0
 ·obtain ⟨h1,h2,h3,_⟩:=BZ h
  rw[SH h,h]
  have h38:=N6 x a.toNat h3 (vB h1)
  rw[show ((a.toNat:Nat):Int)=a by omega] at h38
  simp only[TC,SA]
  rw[Ka,Sw,N5 _ _ hA,Sw,h38]
  unfold link
  generalize tZ x.Apart _=q
  cases q<;>rfl
 ·rw[SI h,show ((atR x a).2 != 0)=true by simpa using h]
  rfl
theorem ED (x:aM):uf x=true↔x.Queue.length<=4096/\(∀ p∈x.Queue,mc p=true)/\AX none x.Apart=true:=by
 unfold uf
 simp only[Sz,SG,SJ,and_assoc]
theorem xg {x:aM} (h:uf x=true) (k:Nat):uf (bu x k)=true:=by
 rw[ED] at h ⊢
 obtain ⟨h1,h2,h3⟩:=h
 refine⟨?_,fun p hp=>?_,h3⟩
 ·unfold bu; simp; omega
 ·unfold bu at hp
  rcases TP.1 hp with hp | hp
  ·exact h2 p (S2 hp)
  ·exact h2 p (S4 hp)
theorem Hc {x:aM} (h:uf x=true) {k:Nat} (hk:k<x.Queue.length):atR x (k:Int)=(x.Queue[k],0):=by
 unfold atR
 rw[SH h,SH o3,T1,Sx hk]
theorem Cb {x:aM} (h:uf x=true) {k:Nat} (hk:k<x.Queue.length):iX x (k:Int)=(if tZ x.Apart (link x.Queue[k].From x.Queue[k].To)=true then lZ else x.Queue[k],bu x k,0):=by
 unfold iX
 rw[Hc h hk]
 simp
def nk (l:List aO) (b:Int):List aO:=l.takeWhile fun x=>decide (x.Bar<b)
def DU (l:List aO) (b:Int):List aO:=l.dropWhile fun x=>decide (x.Bar<b)
def jL (l:List aO) (c:aO):List aO:=nk l c.Bar++(match DU l c.Bar with | []=>[c] | x :: r=>if x.Bar=c.Bar then (if x.No<c.No then c :: r else x :: r) else c :: x :: r)
theorem mz (b:Int):∀ l:List aO,(nk l b).length<=l.length/\(∀ (j:Nat) (h:j<l.length),j<(nk l b).length->l[j].Bar<b)/\(∀ h:(nk l b).length<l.length,¬ l[(nk l b).length].Bar<b)/\nk l b=l.take (nk l b).length/\DU l b=l.drop (nk l b).length
 | []=>⟨Sy _,fun _ h=>absurd h (Tv _),fun h=>absurd h (Tv _),rfl,rfl⟩
 | x :: r=>by
  obtain ⟨h1,h2,h3,h4,h5⟩:=mz b r
  by_cases hx:x.Bar<b
  ·have e1:nk (x :: r) b=x :: nk r b:=by unfold nk; rw[VG,SD hx]; rfl
   have e2:DU (x :: r) b=DU r b:=by unfold DU; rw[VH,SD hx]; rfl
   rw[e1,e2]
   refine⟨by simp only[SW]; omega,fun j h hj=>?_,fun h=>?_,?_,?_⟩
   ·cases j with
    | zero=>exact hx
    | succ j=>simp only[SW] at h hj; exact h2 j o3 o3
   ·simp only[SW] at h
    exact h3 o3
   ·rw[SW,Wp,<-h4]
   ·rw[SW,Wq,<-h5]
  ·have e1:nk (x :: r) b=[]:=by unfold nk; rw[VG,SK hx]; rfl
   have e2:DU (x :: r) b=x :: r:=by unfold DU; rw[VH,SK hx]; rfl
   rw[e1,e2]
   exact⟨Tk _,fun _ _ h=>absurd h (Tv _),fun _=>hx,rfl,rfl⟩
theorem KW {a b:Nat} (h:a+b<=4611686018427387904):wr .i64 (je .u64 (wr .u64 (wr .i64 ((a:Int)+(b:Int)))) 1)=(((a+b) / 2:Nat):Int):=by
 have e1:wr .i64 ((a:Int)+(b:Int))=((a+b:Nat):Int):=by rw[df o3 o3]; omega
 have e2:wr .u64 ((a+b:Nat):Int)=((a+b:Nat):Int):=by
  have:wr .u64=IntKind.u64.wrap:=rfl
  rw[this]
  simp only[IntKind.wrap,IntKind.bits,IntKind.signed]
  simp
  omega
 have e3:je .u64 ((a+b:Nat):Int) 1=(((a+b) / 2:Nat):Int):=by
  unfold je
  have:(min (1:Int).toNat IntKind.u64.bits)=1:=by decide
  rw[this,UK _ (by decide)]
  omega
 rw[e1,e2,e3,df o3 o3]
def IE (l:List aO):Prop:=l.Pairwise (fun x y=>x.Bar<y.Bar)/\∀ x∈l,0<=x.Bar/\x.Bar<=4095
theorem IE.lt {l:List aO} (h:IE l) {i j:Nat} (hi:i<l.length) (hj:j<l.length) (hij:i<j):l[i].Bar<l[j].Bar:=VU.1 h.1 i j hi hj hij
theorem KR {x:aO} {b:Int} (h1:0<=x.Bar/\x.Bar<=4095) (h2:0<=b/\b<=4095):Im x b=some (x.Bar - b):=by
 unfold Im Ld
 rw[df o3 o3]
theorem MT (n:Nat) {l:List aO} {b:Int} (ha:IE l) (hb:0<=b/\b<=4095) (hl:l.length<=1000000):∀ (m lo hi:Nat),lo<=(nk l b).length->(nk l b).length<=hi->hi<=l.length->hi - lo<m ->
  fh n l b m (lo:Int) (hi:Int)=some ((nk l b).length:Int)
 | 0,_,_,_,_,_,h=>absurd h (Tv _)
 | m+1,lo,hi,h1,h2,h3,h=>by
  obtain ⟨p1,p2,p3,_⟩:=mz b l
  unfold fh
  by_cases hlt:lo<hi
  ·have hm1:(lo+hi) / 2<l.length:=by omega
   rw[show decide ((lo:Int)<(hi:Int))=true by simpa using hlt,SC,KW o3,bB,Sx hm1,Sw,KR (ha.2 _ (Tb _)) hb,Sw]
   by_cases hc:l[(lo+hi) / 2].Bar<b
   ·rw[SD (show l[(lo+hi) / 2].Bar - b<0 by omega),SC]
    have e1:wr .i64 ((((lo+hi) / 2:Nat):Int)+1)=(((lo+hi) / 2+1:Nat):Int):=by rw[df o3 o3]; omega
    rw[e1]
    refine MT n ha hb hl m _ hi ?_ h2 h3 o3
    refine TV fun hle=>?_
    have hi':(nk l b).length<l.length:=o3
    rcases Nat.lt_or_eq_of_le hle with h4 | h4
    ·exact p3 hi' (Int.lt_trans (ha.lt hi' hm1 h4) hc)
    ·refine p3 hi' ?_
     simp only[h4]
     exact hc
   ·rw[SK (show ¬ l[(lo+hi) / 2].Bar - b<0 by omega),SA]
    refine MT n ha hb hl m lo _ h1 ?_ o3 o3
    refine Uu fun hlt'=>hc (p2 _ hm1 hlt')
  ·rw[show decide ((lo:Int)<(hi:Int))=false by simpa using hlt,SA]
   rw[show lo=(nk l b).length by omega]
theorem O5 {l:List aO} {b:Int} (ha:IE l) (hb:0<=b/\b<=4095) (hl:l.length<=1000000):qD l b=some (((nk l b).length:Int),match DU l b with | []=>false | x :: _=>decide (x.Bar=b)):=by
 unfold qD ux
 have h0:=MT az ha hb hl (az+8) 0 l.length (Tk _) (mz b l).1 (Sy _) s5
 rw[show ((0:Nat):Int)=0 from rfl] at h0
 obtain ⟨p1,p2,p3,p4,p5⟩:=mz b l
 rw[h0,Sw,p5]
 simp only
 by_cases hlt:(nk l b).length<l.length
 ·rw[show decide (((nk l b).length:Int)<(l.length:Int))=true by simpa using hlt,SC,bB,Sx hlt,Sw,KR (ha.2 _ (Tb _)) hb,Sw,SU hlt]
  simp only[Sw,Ta,Vp,UJ]
  rw[TQ]
  simp only[Tw,SG]
  omega
 ·rw[show decide (((nk l b).length:Int)<(l.length:Int))=false by simpa using hlt,SA,S8.2 o3]
  rfl
def zR:ba:=⟨0,0,0⟩
def kH (E:List aP) (c:aO):List aP:=match E[c.Role.toNat]? with
 | some y=>E.set c.Role.toNat ⟨jL y.Cues c,y.Got,y.Did⟩
 | none=>E
def Hs (w:aq) (d:aw×aM×Int):aq×ba×Bool×Int:=match msg d.1.Data with
 | some (.inr r)=>(⟨d.2.1,w.Ears,w.Bar⟩,r,true,0)
 | some (.inl c)=>(⟨d.2.1,if w.Bar<=c.Bar then kH w.Ears c else w.Ears,w.Bar⟩,zR,false,0)
 | none=>(⟨d.2.1,w.Ears,w.Bar⟩,zR,false,0)
noncomputable def Ce (w:aq) (a:Int):aq×ba×Bool×Int:=
 if B4 w=0 then (if (iX w.Net a).2.2=0 then Hs w (iX w.Net a) else (zW,zR,false,(iX w.Net a).2.2)) else (zW,zR,false,B4 w)
theorem zT:msg []=none:=r7
theorem Cd {x:aM} {a:Int} (h:(iX x a).2.2=0):uf x=true/\0<=a/\(iX x a).2.1=bu x a.toNat/\∃ hlt:a.toNat<x.Queue.length,((iX x a).1=lZ∨(iX x a).1=x.Queue[a.toNat]):=by
 unfold iX at h ⊢
 by_cases h0:(atR x a).2=0
 ·rw[SH h0] at h ⊢
  obtain ⟨h1,h2,h3,h4⟩:=BZ h0
  refine⟨h1,h2,rfl,h3,?_⟩
  show (if _ then lZ else (atR x a).1)=lZ∨_
  split
  ·exact .inl rfl
  ·exact .inr h4
 ·rw[SI h0] at h
  exact absurd h h0
theorem re {role n:Int}:∀ {l:List aO} {lo:Int},ix role n lo l=true->0<=lo->lo<=4096->IE l/\(∀ x∈l,lo<=x.Bar)/\(∀ x∈l,gq x n=true/\x.Role=role)/\(l.length:Int)+lo<=4096
 | [],lo,_,h0,h1=>⟨⟨List.Pairwise.nil,fun x h=>(by cases h)⟩,fun x h=>(by cases h),fun x h=>(by cases h),by simpa using h1⟩
 | c :: l,lo,h,h0,h1=>by
  unfold ix at h
  simp only[Sz,Tn,TH,Tw] at h
  obtain ⟨⟨⟨h2,h3⟩,h4⟩,h5⟩:=h
  have hb:=og h2
  obtain ⟨⟨p1,p2⟩,q,r,s⟩:=re h5 o3 o3
  refine⟨⟨List.pairwise_cons.2 ⟨fun y hy=>by have:=q y hy; omega,p1⟩,fun x hx=>?_⟩,fun x hx=>?_,fun x hx=>?_,by simp only[SW]; omega⟩
  ·rcases Ti.1 hx with rfl | hx
   ·exact hb
   ·exact p2 x hx
  ·rcases Ti.1 hx with rfl | hx
   ·omega
   ·have:=q x hx; omega
  ·rcases Ti.1 hx with rfl | hx
   ·exact⟨h2,h3⟩
   ·exact r x hx
theorem wC {x:aP} {role n bar:Int} (h:nj x role n bar=true):ix role n bar x.Cues=true:=by
 unfold nj at h
 simp only[Sz] at h
 exact h.2
theorem lJ {c:aO} {n:Nat} (h:gq c (n:Int)=true) (hn:n<=12) (h1:1<=n):0<=c.Role/\c.Role.toNat<n:=by
 unfold gq px at h
 simp only[Sz,SG] at h
 rw[df o3 o3] at h
 omega
theorem Di {w:aq} (h:okW w) {p:aw} (hp:p∈w.Net.Queue):Dq w p=true:=SJ.1 h.2.2.2.2 p hp
theorem Dt {w:aq} {p:aw} {c:aO} (h:Dq w p=true) (hm:msg p.Data=some (.inl c)):gq c (w.Ears.length:Int)=true/\p.From=0/\p.To=wr .i64 (c.Role+1):=by
 unfold Dq at h
 rw[hm] at h
 simp only[Sz,Tw] at h
 exact⟨h.1.1,h.1.2,h.2⟩
theorem Ee {w:aq} (h:okW w) {a:Int} (hd:(iX w.Net a).2.2=0) {m:aO⊕ba} (hm:msg (iX w.Net a).1.Data=some m):∃ hlt:a.toNat<w.Net.Queue.length,(iX w.Net a).1=w.Net.Queue[a.toNat]/\Dq w w.Net.Queue[a.toNat]=true:=by
 obtain ⟨h1,h2,h3,h4,h5⟩:=Cd hd
 rcases h5 with h5 | h5
 ·rw[h5,show lZ.Data=[] from rfl,zT] at hm
  cases hm
 ·exact⟨h4,h5,Di h (Tb _)⟩
theorem Cc {x:aM} {a:Int} (hd:(iX x a).2.2=0):(iX x a).1.Data.length<=1100000:=by
 obtain ⟨h1,h2,h3,h4,h5⟩:=Cd hd
 rcases h5 with h5 | h5
 ·rw[h5]; exact Tk _
 ·rw[h5]; exact(pd h1).2 _ (Tb _)
theorem M9 {R:Type} {E:List aP} (hE:E.length<=12) {r:Int} (h0:0<=r) (h1:r.toNat<E.length) (u:aP->aP) (K:List aP->R) :
  (Option.bind (cF 72 ([]) E) fun y=>Option.bind (nZ y.length r) fun k=>Option.bind (qo y k u) fun z=>some (K (List.take y.length (List.drop 0 z))))=some (K (E.set r.toNat (u E[r.toNat]))):=by
 rw[jh _ _ _ Sr,Sw,TN]
 have e1:nZ E.length r=some r.toNat:=by
  unfold nZ
  rw[SD h0,SD (by omega:r<(E.length:Int))]
  rfl
 rw[e1,Sw]
 have e2:qo E r.toNat u=some (E.set r.toNat (u E[r.toNat])):=by
  unfold qo
  rw[Sx h1]
 rw[e2,Sw,Tq,Tj r8]
theorem CA {E:List aP} {c:aO} (h:c.Role.toNat<E.length):kH E c=E.set c.Role.toNat ⟨jL E[c.Role.toNat].Cues c,E[c.Role.toNat].Got,E[c.Role.toNat].Did⟩:=by
 unfold kH
 rw[Sx h]
theorem zK {T:Type} {l:List T} {i:Nat} {x:T} (h:i<=l.length) (hl:l.length<=1000000):CD l (i:Int) x=some (l.take i++x :: l.drop i):=by
 unfold CD
 rw[SD (by omega:(0:Int)<=(i:Int)),SD (by omega:(i:Int)<=(l.length:Int)),SD (by omega:l.length<4294967296),T1]
 rfl
theorem Fx (w:aq) (a:Int) (hf:Fit w):sP w a=some (Ce w a):=by
 unfold sP K2 Ce
 rw[KL w hf,Sw]
 by_cases ok:okW w
 ·rw[oJ ok,SH rfl]
  simp only[TC,SA]
  rw[N0 _ _ hf.1,Sw]
  by_cases hd:(iX w.Net a).2.2=0
  ·rw[SH hd,hd]
   simp only[TC,SA]
   obtain ⟨r,hr,hm⟩:=KQ _ (Cc hd)
   rw[hr,Sw]
   unfold Hs
   cases hq:msg (iX w.Net a).1.Data with
   | none=>
    rw[hq] at hm
    simp only at hm
    rw[hm]
    rfl
   | some m=>
    cases m with
    | inr s=>
     rw[hq] at hm
     simp only at hm
     subst hm
     rfl
    | inl c=>
     rw[hq] at hm
     simp only at hm
     subst hm
     obtain ⟨hlt,hp1,hp2⟩:=Ee ok hd hq
     rw[hp1] at hq
     obtain ⟨hc,_,_⟩:=Dt hp2 hq
     obtain ⟨⟨hn1,hn2⟩,⟨hb1,hb2⟩,_,hears,_⟩:=ok
     obtain ⟨hr0,hr1⟩:=lJ hc hn2 hn1
     have hbar:=og hc
     simp only[SC,Sw,show ((1:Int)==2)=false from rfl,SA]
     by_cases hle:w.Bar<=c.Bar
     ·rw[SD hle,SC,SH hle]
      have hg:bE w.Ears c.Role=some w.Ears[c.Role.toNat]:=by
       have:=bB w.Ears c.Role.toNat
       rw[show ((c.Role.toNat:Nat):Int)=c.Role by omega] at this
       rw[this]; exact Sx hr1
      obtain ⟨hasc,_,_,hlen⟩:=re (wC (hears c.Role.toNat hr1)) hb1 hb2
      have hl:w.Ears[c.Role.toNat].Cues.length<=4096:=o3
      obtain ⟨p1,p2,p3,p4,p5⟩:=mz c.Bar w.Ears[c.Role.toNat].Cues
      rw[hg,Sw,O5 hasc hbar o3,Sw,CA hr1]
      have ha:cF 32 ([]) w.Ears[c.Role.toNat].Cues=some w.Ears[c.Role.toNat].Cues:=by
       rw[jh _ _ _ Sr]; rfl
      rw[ha]
      simp only[Sw]
      have key:∀ (q:List aO),(Option.bind (cF 72 ([]) w.Ears) fun y=>Option.bind (nZ y.length c.Role) fun k=>Option.bind (qo y k fun (y:aP)=>aP.mk q y.Got y.Did) fun z=>some ((aq.mk (iX w.Net a).2.1 (List.take y.length (List.drop 0 z)) w.Bar),ba.mk 0 0 0,false,(0:Int))) =
        some (aq.mk (iX w.Net a).2.1 (w.Ears.set c.Role.toNat ⟨q,w.Ears[c.Role.toNat].Got,w.Ears[c.Role.toNat].Did⟩) w.Bar,zR,false,0):=fun q=>
       M9 hn2 hr0 hr1 (fun (y:aP)=>aP.mk q y.Got y.Did) fun z=>(aq.mk (iX w.Net a).2.1 z w.Bar,ba.mk 0 0 0,false,(0:Int))
      unfold jL
      cases ho:DU w.Ears[c.Role.toNat].Cues c.Bar with
      | nil=>
       simp only[UM,SC]
       rw[zK p1 o3,Sw,key,<-p4,<-p5,ho]
      | cons x r=>
       by_cases hx:x.Bar=c.Bar
       ·simp only[SD hx,S0,SA,SH hx]
        have hi:(nk w.Ears[c.Role.toNat].Cues c.Bar).length<w.Ears[c.Role.toNat].Cues.length:=by
         refine TV fun h=>?_
         rw[p5,S8.2 h] at ho
         cases ho
        have hx0:w.Ears[c.Role.toNat].Cues[(nk w.Ears[c.Role.toNat].Cues c.Bar).length]=x:=by
         rw[p5,SU hi] at ho
         exact(Vr ho).1
        have hr':w.Ears[c.Role.toNat].Cues.drop ((nk w.Ears[c.Role.toNat].Cues c.Bar).length+1)=r:=by
         rw[p5,SU hi] at ho
         exact(Vr ho).2
        rw[bB,Sx hi,Sw,hx0]
        by_cases hno:x.No<c.No
        ·rw[SD hno,SC,SH hno]
         have e1:nZ w.Ears[c.Role.toNat].Cues.length ((nk w.Ears[c.Role.toNat].Cues c.Bar).length:Int)=some (nk w.Ears[c.Role.toNat].Cues c.Bar).length:=by
          unfold nZ
          rw[SD (by omega:(0:Int)<=((nk w.Ears[c.Role.toNat].Cues c.Bar).length:Int)),SD (by omega:((nk w.Ears[c.Role.toNat].Cues c.Bar).length:Int)<(w.Ears[c.Role.toNat].Cues.length:Int)),T1]
          rfl
         have e2:qo w.Ears[c.Role.toNat].Cues (nk w.Ears[c.Role.toNat].Cues c.Bar).length (fun (y:aO)=>c)=some (w.Ears[c.Role.toNat].Cues.set (nk w.Ears[c.Role.toNat].Cues c.Bar).length c):=by
          unfold qo
          rw[Sx hi]
         rw[e1,Sw,e2,Sw,Tq,Tj r8,key]
         congr 4
         rw[List.set_eq_take_append_cons_drop,SH hi,hr',<-p4]
        ·rw[SK hno,SA,SI hno,key]
         have:nk w.Ears[c.Role.toNat].Cues c.Bar++x :: r=w.Ears[c.Role.toNat].Cues:=by rw[<-ho]; exact List.takeWhile_append_dropWhile
         rw[this]
       ·simp only[SK hx,UM,SC,SI hx]
        rw[zK p1 o3,Sw,key,<-p4,<-p5,ho]
     ·rw[SK hle,SA,SI hle]
      rfl
  ·rw[SI hd,show ((iX w.Net a).2.2 != 0)=true by simpa using hd]
   rfl
 ·rw[jw ok]
  rfl
theorem pL (c:aO):jL [] c=[c]:=rfl
theorem nX (x:aO) (r:List aO) (c:aO):jL (x :: r) c=if x.Bar<c.Bar then x :: jL r c else if x.Bar=c.Bar then (if x.No<c.No then c :: r else x :: r) else c :: x :: r:=by
 unfold jL nk DU
 rw[VG,VH]
 by_cases h:x.Bar<c.Bar
 ·rw[SD h,SH h]; rfl
 ·rw[SK h,SI h]; rfl
theorem rK {c d:aO} (h:¬ (c.Bar=d.Bar/\c.No=d.No)):∀ l:List aO,jL (jL l c) d=jL (jL l d) c
 | []=>by grind [pL,nX]
 | x :: r=>by
  have ih:=rK h r
  grind [pL,nX]
theorem rb {role n:Int} {c:aO} (hc:gq c n=true) (hr:c.Role=role):∀ {l:List aO} {lo:Int},ix role n lo l=true->lo<=c.Bar->ix role n lo (jL l c)=true
 | [],lo,h,hlo=>by
  rw[pL]
  unfold ix ix
  simp only[Sz,Tn,TH,Tw]
  exact⟨⟨⟨hc,hr⟩,o3⟩,trivial⟩
 | x :: r,lo,h,hlo=>by
  have h':=h
  unfold ix at h'
  simp only[Sz,Tn,TH,Tw] at h'
  obtain ⟨⟨⟨h1,h2⟩,h3⟩,h4⟩:=h'
  rw[nX]
  split
  ·unfold ix
   simp only[Sz,Tn,TH,Tw]
   exact⟨⟨⟨h1,h2⟩,h3⟩,rb hc hr h4 o3⟩
  ·split
   ·rename_i he
    split
    ·unfold ix
     simp only[Sz,Tn,TH,Tw]
     exact⟨⟨⟨hc,hr⟩,o3⟩,by rw[<-he]; exact h4⟩
    ·exact h
   ·unfold ix
    simp only[Sz,Tn,TH,Tw]
    refine⟨⟨⟨hc,hr⟩,o3⟩,?_⟩
    unfold ix
    simp only[Sz,Tn,TH,Tw]
    exact⟨⟨⟨h1,h2⟩,o3⟩,h4⟩
theorem gA (x:aM) (k j:Nat) (hk:k<x.Queue.length):(bu x k).Queue[j]? = if j<k then x.Queue[j]? else x.Queue[j+1]?:=by
 unfold bu
 have hl:(x.Queue.take k).length=k:=H6
 by_cases h:j<k
 ·rw[SH h,SP o3,SS,SH h]
 ·rw[SI h,S3 o3,hl,TL]
  congr 1; omega
theorem jf (x:aM) (k:Nat) (hk:k<x.Queue.length):(bu x k).Queue.length=x.Queue.length - 1:=by
 unfold bu
 simp only[SX,Tz,Uj]
 omega
theorem vK (x:aM) {a b:Nat} (hab:a<b) (hb:b<x.Queue.length):bu (bu x a) (b - 1)=bu (bu x b) a:=by
 have e1:=jf x a o3
 have e2:=jf x b hb
 have h:(bu (bu x a) (b - 1)).Queue=(bu (bu x b) a).Queue:=by
  refine TY fun j=>?_
  rw[gA (bu x a) (b - 1) j o3,gA (bu x b) a j o3]
  simp only[gA x a _ o3,gA x b _ hb]
  clear e1 e2
  grind
 have h2:(bu (bu x a) (b - 1)).Apart=(bu (bu x b) a).Apart:=rfl
 cases hA:bu (bu x a) (b - 1) with
 | mk Q A=>cases hB:bu (bu x b) a with
  | mk Q' A'=>
   rw[hA,hB] at h h2
   simp only at h h2
   rw[h,h2]
def pQ (x:aM) (k:Nat):aw:=match x.Queue[k]? with
 | some p=>if tZ x.Apart (link p.From p.To)=true then lZ else p
 | none=>lZ
def iY (bar:Int) (p:aw) (E:List aP):List aP:=match msg p.Data with
 | some (.inl c)=>if bar<=c.Bar then kH E c else E
 | _=>E
theorem Ed {x:aM} (h:uf x=true) {k:Nat} (hk:k<x.Queue.length):iX x (k:Int)=(pQ x k,bu x k,0):=by
 rw[Cb h hk]
 unfold pQ
 rw[Sx hk]
theorem AR (E:List aP) (c:aO):(kH E c).length=E.length:=by
 unfold kH
 split
 ·rw[List.length_set]
 ·rfl
theorem ji (E:List aP) (c:aO) (i:Nat):(kH E c)[i]? = if i=c.Role.toNat then (E[i]?).map (fun y=>⟨jL y.Cues c,y.Got,y.Did⟩) else E[i]?:=by
 unfold kH
 cases hy:E[c.Role.toNat]? with
 | none=>
  by_cases h:i=c.Role.toNat
  ·rw[SH h,h,hy]; rfl
  ·rw[SI h]
 | some y=>
  have hl:=(SB.1 hy).1
  by_cases h:i=c.Role.toNat
  ·rw[SH h,h,hy]
   exact SY hl
  ·rw[SI h]
   exact SO (TF h)
theorem Ci (bar:Int) (p:aw) (E:List aP):(iY bar p E).length=E.length:=by
 unfold iY
 split
 ·split
  ·exact AR _ _
  ·rfl
 ·rfl
theorem CB (E:List aP) (c:aO) (i:Nat):((kH E c)[i]?).map (fun y=>(y.Got,y.Did))=(E[i]?).map fun y=>(y.Got,y.Did):=by
 rw[ji]
 split
 ·cases E[i]?<;>rfl
 ·rfl
theorem Eh (bar:Int) (p:aw) (E:List aP) (i:Nat):((iY bar p E)[i]?).map (fun y=>(y.Got,y.Did))=(E[i]?).map fun y=>(y.Got,y.Did):=by
 unfold iY
 split
 ·split
  ·exact CB _ _ _
  ·rfl
 ·rfl
theorem AD {w w':aq} (hd:∀ i:Nat,(w'.Ears[i]?).map (fun y=>(y.Got,y.Did))=(w.Ears[i]?).map fun y=>(y.Got,y.Did)) (r:ba):ym w' r=ym w r:=by
 unfold ym bE
 cases decide (0<=r.Role) with
 | false=>rfl
 | true=>
  simp only[SC]
  have:=hd r.Role.toNat
  revert this
  cases w'.Ears[r.Role.toNat]? with
  | none=>cases w.Ears[r.Role.toNat]? with
   | none=>exact fun _=>rfl
   | some y=>exact fun h=>by cases h
  | some x=>cases w.Ears[r.Role.toNat]? with
   | none=>exact fun h=>by cases h
   | some y=>
    intro h
    simp only[Tp,Ta,Vp] at h
    simp only[h.2]
theorem Dr {w w':aq} (hl:w'.Ears.length=w.Ears.length) (hb:w'.Bar=w.Bar) (hd:∀ i:Nat,(w'.Ears[i]?).map (fun y=>(y.Got,y.Did))=(w.Ears[i]?).map fun y=>(y.Got,y.Did)) (p:aw):Dq w' p=Dq w p:=by
 unfold Dq
 rw[hl,hb]
 split
 ·rfl
 ·rw[AD hd]
 ·rfl
theorem Cg {x:aP} {n bar:Int} {c:aO} {role:Int} (h:nj x role n bar=true) (hc:gq c n=true) (hr:c.Role=role) (hb:bar<=c.Bar):nj ⟨jL x.Cues c,x.Got,x.Did⟩ role n bar=true:=by
 unfold nj at h ⊢
 simp only[Sz] at h ⊢
 exact⟨h.1,rb hc hr h.2 hb⟩
theorem lF {w:aq} (h:okW w) {k:Nat} (hk:k<w.Net.Queue.length) {c:aO} (hm:msg (pQ w.Net k).Data=some (.inl c)):gq c (w.Ears.length:Int)=true/\msg w.Net.Queue[k].Data=some (.inl c):=by
 unfold pQ at hm
 rw[Sx hk] at hm
 simp only at hm
 split at hm
 ·rw[show lZ.Data=[] from rfl,zT] at hm
  cases hm
 ·exact⟨(Dt (Di h (Tb _)) hm).1,hm⟩
theorem pP {w:aq} (h:okW w) {k:Nat} (hk:k<w.Net.Queue.length):okW ⟨bu w.Net k,iY w.Bar (pQ w.Net k) w.Ears,w.Bar⟩:=by
 have h0:=h
 obtain ⟨⟨h1,h2⟩,h3,h4,h5,h6⟩:=h
 have hl:=Ci w.Bar (pQ w.Net k) w.Ears
 refine⟨by show 1<=(iY w.Bar (pQ w.Net k) w.Ears).length/\_; rw[hl]; exact⟨h1,h2⟩,h3,xg h4 k,fun j hj=>?_,SJ.2 fun p hp=>?_⟩
 ·show nj (iY w.Bar (pQ w.Net k) w.Ears)[j] j ((iY w.Bar (pQ w.Net k) w.Ears).length:Int) w.Bar=true
  have hj':j<w.Ears.length:=by rw[<-hl]; exact hj
  rw[hl]
  have key:(iY w.Bar (pQ w.Net k) w.Ears)[j]? = some (iY w.Bar (pQ w.Net k) w.Ears)[j]:=Sx hj
  generalize (iY w.Bar (pQ w.Net k) w.Ears)[j]=y at key
  unfold iY at key
  split at key
  ·rename_i c hm
   obtain ⟨hc,_⟩:=lF h0 hk hm
   obtain ⟨hr0,hr1⟩:=lJ hc h2 h1
   split at key
   ·rename_i hle
    rw[ji] at key
    split at key
    ·rename_i he
     rw[Sx hj',Tp,Ta] at key
     subst key
     exact Cg (h5 j hj') hc o3 hle
    ·rw[Sx hj',Ta] at key
     subst key
     exact h5 j hj'
   ·rw[Sx hj',Ta] at key
    subst key
    exact h5 j hj'
  ·rw[Sx hj',Ta] at key
   subst key
   exact h5 j hj'
 ·rw[Dr (w:=w) (w':=⟨bu w.Net k,iY w.Bar (pQ w.Net k) w.Ears,w.Bar⟩) hl rfl (Eh _ _ _) p]
  refine SJ.1 h6 p ?_
  have hp':p∈w.Net.Queue.take k++w.Net.Queue.drop (k+1):=hp
  rcases TP.1 hp' with hp' | hp'
  ·exact S2 hp'
  ·exact S4 hp'
theorem uV {w:aq} (h:okW w) {k:Nat} (hk:k<w.Net.Queue.length):(Ce w (k:Int)).1=⟨bu w.Net k,iY w.Bar (pQ w.Net k) w.Ears,w.Bar⟩/\(Ce w (k:Int)).2.2.2=0:=by
 unfold Ce
 rw[oJ h,SH rfl,Ed h.2.2.1 hk,SH rfl]
 unfold Hs iY
 cases msg (pQ w.Net k).Data with
 | none=>exact⟨rfl,rfl⟩
 | some m=>cases m with
  | inl c=>exact⟨rfl,rfl⟩
  | inr r=>exact⟨rfl,rfl⟩
theorem yB {E:List aP} {c d:aO} (h:¬ (c.Role.toNat=d.Role.toNat/\c.Bar=d.Bar/\c.No=d.No)):kH (kH E c) d=kH (kH E d) c:=by
 refine TY fun i=>?_
 rw[ji,ji,ji,ji]
 by_cases h1:i=c.Role.toNat<;>by_cases h2:i=d.Role.toNat
 ·rw[SH h1,SH h2,SH h2,SH h1]
  cases E[i]? with
  | none=>rfl
  | some y=>
   simp only[Tp]
   rw[rK (fun e=>h ⟨o3,e⟩)]
 ·simp only[SH h1,SI h2]
 ·simp only[SI h1,SH h2]
 ·simp only[SI h1,SI h2]
theorem Ch {x:aP} {role n bar:Int} (h:nj x role n bar=true) (h0:0<=bar) (h1:bar<=4096):x.Cues.length<=4096/\x.Got.length<=4096/\x.Did.length<=4096:=by
 obtain ⟨_,_,_,hc⟩:=re (wC h) h0 h1
 unfold nj at h
 simp only[Sz,Tw] at h
 obtain ⟨⟨⟨e1,e2⟩,_⟩,_⟩:=h
 omega
theorem tG {w:aq} (h:okW w):∀ x∈w.Ears,x.Cues.length<=4096/\x.Got.length<=4096/\x.Did.length<=4096:=fun x hx=>by
 obtain ⟨j,hj,rfl⟩:=Tu hx
 exact Ch (h.2.2.2.1 j hj) h.2.1.1 h.2.1.2
theorem yv {w:aq} (h:okW w) (hA:w.Net.Apart.length<=4611686018427387904):Fit w:=⟨hA,fun x hx=>by have:=tG h x hx; omega⟩
theorem Ek {w:aq} (h:okW w) (hA:w.Net.Apart.length<=4611686018427387904):II w:=
 ⟨⟨by have:=h.1.2; omega,fun x hx=>by have:=tG h x hx; omega⟩,by have:=vB h.2.2.1; omega,hA⟩
theorem Ds (x:aM) {a b:Nat} (hab:a<b) (hb:b<x.Queue.length):pQ (bu x a) (b - 1)=pQ x b:=by
 unfold pQ
 rw[gA x a (b - 1) o3,SI o3,show b - 1+1=b by omega]
 rfl
theorem HV (x:aM) {a b:Nat} (hab:a<b) (hb:b<x.Queue.length):pQ (bu x b) a=pQ x a:=by
 unfold pQ
 rw[gA x b a hb,SH hab]
 rfl
theorem AE {bar:Int} {p q:aw} {E:List aP} (h:∀ c d,msg p.Data=some (.inl c)->msg q.Data=some (.inl d)->¬ (c.Role.toNat=d.Role.toNat/\c.Bar=d.Bar/\c.No=d.No)):iY bar q (iY bar p E)=iY bar p (iY bar q E):=by
 unfold iY
 cases hp:msg p.Data with
 | none=>rfl
 | some m=>cases m with
  | inr r=>rfl
  | inl c=>cases hq:msg q.Data with
   | none=>rfl
   | some m=>cases m with
    | inr r=>rfl
    | inl d=>
     simp only
     have:=yB (E:=E) (h c d hp hq)
     by_cases h1:bar<=c.Bar<;>by_cases h2:bar<=d.Bar
     ·simp only[SH h1,SH h2,this]
     ·simp only[SH h1,SI h2]
     ·simp only[SI h1,SH h2]
     ·simp only[SI h1,SI h2]
theorem tD {w:aq} (ok:okW w) (hA:w.Net.Apart.length<=4611686018427387904) {a b:Nat} (hab:a<b) (hb:b<w.Net.Queue.length) :
  (Option.bind (sP w (a:Int)) fun y66=>Option.bind (sP y66.1 (wr .i64 ((b:Int) - 1))) fun y67=>Option.bind (sP w (b:Int)) fun y68=>Option.bind (sP y68.1 (a:Int)) fun y69=>Option.bind (bif (y66.2.2.2 != 0) then (some true) else (some (y67.2.2.2 != 0))) fun y71=>Option.bind (bif y71 then (some true) else (some (y68.2.2.2 != 0))) fun y75=>Option.bind (bif y75 then (some true) else (some (y69.2.2.2 != 0))) fun y79=>bif y79 then (some false) else (Option.bind (bE w.Net.Queue (a:Int)) fun y83=>Option.bind (DQ y83.Data) fun y84=>Option.bind (bE w.Net.Queue (b:Int)) fun y85=>Option.bind (DQ y85.Data) fun y86=>Option.bind (bif y84.2 then (some y86.2) else (some false)) fun y88=>Option.bind (bif y88 then (some (y84.1.Role==y86.1.Role)) else (some false)) fun y91=>Option.bind (bif y91 then (some (y84.1.Bar==y86.1.Bar)) else (some false)) fun y98=>Option.bind (bif y98 then (some (y84.1.No==y86.1.No)) else (some false)) fun y105=>bif y105 then (some true) else (Option.bind (FE y67.1 y69.1) fun y112=>some y112)))=some true:=by
 have hal:a<w.Net.Queue.length:=o3
 have hw:=yv ok hA
 obtain ⟨x1,x2⟩:=uV ok hal
 obtain ⟨z1,z2⟩:=uV ok hb
 have okx:=pP ok hal
 have okz:=pP ok hb
 have sa:=jf w.Net a hal
 have sb:=jf w.Net b hb
 have hbl:b - 1<(bu w.Net a).Queue.length:=o3
 have hal':a<(bu w.Net b).Queue.length:=o3
 obtain ⟨y1,y2⟩:=uV okx (k:=b - 1) hbl
 obtain ⟨u1,u2⟩:=uV okz (k:=a) hal'
 have oky:=pP okx (k:=b - 1) hbl
 have hw1:wr .i64 ((b:Int) - 1)=((b - 1:Nat):Int):=by
  have:=vB ok.2.2.1
  rw[df o3 o3]; omega
 rw[Fx w _ hw,Sw,x1,hw1,Fx _ _ (yv okx hA),Sw,Fx w _ hw,Sw,z1,Fx _ _ (yv okz hA),Sw,x2,y2,z2,u2,y1,u1]
 simp only[TC,SA,Sw]
 have hda:w.Net.Queue[a].Data.length<=1100000:=(pd ok.2.2.1).2 _ (Tb _)
 have hdb:w.Net.Queue[b].Data.length<=1100000:=(pd ok.2.2.1).2 _ (Tb _)
 rw[bB,Sx hal,Sw,KN _ hda,Sw,bB,Sx hb,Sw,KN _ hdb,Sw]
 have fin:∀ (hne:∀ c d,msg (pQ w.Net a).Data=some (.inl c)->msg (pQ w.Net b).Data=some (.inl d)->¬ (c.Role.toNat=d.Role.toNat/\c.Bar=d.Bar/\c.No=d.No)),
   (Option.bind (FE ⟨bu (bu w.Net a) (b - 1),iY w.Bar (pQ (bu w.Net a) (b - 1)) (iY w.Bar (pQ w.Net a) w.Ears),w.Bar⟩ ⟨bu (bu w.Net b) a,iY w.Bar (pQ (bu w.Net b) a) (iY w.Bar (pQ w.Net b) w.Ears),w.Bar⟩) fun y=>some y)=some true:=fun hne=>by
  rw[<-vK w.Net hab hb,Ds _ hab hb,HV _ hab hb,<-AE hne]
  have:=Ek oky hA
  rw[Ds _ hab hb] at this
  rw[KM _ this]
  rfl
 cases hma:msg w.Net.Queue[a].Data with
 | none=>
  simp only[SA,Sw]
  exact fin fun c d h1 _=>by rw[(lF ok hal h1).2] at hma; cases hma
 | some m=>cases m with
  | inr r=>
   simp only[SA,Sw]
   exact fin fun c d h1 _=>by rw[(lF ok hal h1).2] at hma; cases hma
  | inl c=>cases hmb:msg w.Net.Queue[b].Data with
   | none=>
    simp only[SA,SC,Sw]
    exact fin fun c d _ h1=>by rw[(lF ok hb h1).2] at hmb; cases hmb
   | some m=>cases m with
    | inr r=>
     simp only[SA,SC,Sw]
     exact fin fun c d _ h1=>by rw[(lF ok hb h1).2] at hmb; cases hmb
    | inl d=>
     simp only[SC,Sw]
     by_cases he:c.Role=d.Role/\c.Bar=d.Bar/\c.No=d.No
     ·rw[he.1,he.2.1,he.2.2]
      simp only[Ua,SC,Sw]
     ·have hf:=fin fun c' d' h1 h2 h3=>by
       obtain ⟨r1,e1⟩:=lF ok hal h1
       obtain ⟨r2,e2⟩:=lF ok hb h2
       rw[hma] at e1; cases e1
       rw[hmb] at e2; cases e2
       have q1:=lJ r1 ok.1.2 ok.1.1
       have q2:=lJ r2 ok.1.2 ok.1.1
       exact he ⟨o3,h3.2⟩
      cases e1:c.Role==d.Role with
      | false=>simp only[SA,Sw]; exact hf
      | true=>cases e2:c.Bar==d.Bar with
       | false=>simp only[SA,SC,Sw]; exact hf
       | true=>cases e3:c.No==d.No with
        | false=>simp only[SA,SC,Sw]; exact hf
        | true=>exact absurd ⟨eq_of_beq e1,eq_of_beq e2,eq_of_beq e3⟩ he
theorem Ko:Ga:=by
 intro w i k hw hi hk
 unfold G4 F4
 rw[OY,Sw]
 simp only[S0,SA]
 rcases Sh w with h8 | ⟨h8,hf⟩
 ·rw[h8]; rfl
 ·rw[h8]
  simp only[Sw,S0,SA]
  rw[KL w hf.fit,Sw]
  by_cases ok:okW w
  ·rw[oJ ok]
   simp only[TC,SA,Sw]
   by_cases h2:(w.Net.Queue.length:Int)<2
   ·rw[SD h2]; rfl
   ·rw[SK h2]
    simp only[SA]
    have hq:=hf.1
    have hA:w.Net.Apart.length<=4611686018427387904:=by have:=hf.2.1; omega
    obtain ⟨hi0,hi1⟩:=hi
    obtain ⟨hk0,hk1⟩:=hk
    obtain ⟨i',rfl⟩:∃ i':Nat,i=(i':Int):=⟨i.toNat,o3⟩
    obtain ⟨k',rfl⟩:∃ k':Nat,k=(k':Int):=⟨k.toNat,o3⟩
    have m0:0<w.Net.Queue.length:=o3
    have e1:wr .i64 ((w.Net.Queue.length:Int) - 1)=((w.Net.Queue.length - 1:Nat):Int):=by rw[df o3 o3]; omega
    have ei:wr .i64 (i':Int)=(i':Int):=df o3 o3
    have ek:wr .i64 (k':Int)=(k':Int):=df o3 o3
    have l1:i' % w.Net.Queue.length<w.Net.Queue.length:=UF _ m0
    have l2:k' % (w.Net.Queue.length - 1)<w.Net.Queue.length - 1:=UF _ o3
    have eA:Int.tmod (wr .i64 (i':Int)) (w.Net.Queue.length:Int)=((i' % w.Net.Queue.length:Nat):Int):=by rw[ei,Vc o3]; rfl
    have eK:Int.tmod (wr .i64 (k':Int)) ((w.Net.Queue.length - 1:Nat):Int)=((k' % (w.Net.Queue.length - 1):Nat):Int):=by rw[ek,Vc o3]; rfl
    have eB:Int.tmod (wr .i64 (wr .i64 (((i' % w.Net.Queue.length:Nat):Int)+1)+((k' % (w.Net.Queue.length - 1):Nat):Int))) (w.Net.Queue.length:Int)=(((i' % w.Net.Queue.length+1+k' % (w.Net.Queue.length - 1)) % w.Net.Queue.length:Nat):Int):=by
     rw[df (n:=((i' % w.Net.Queue.length:Nat):Int)+1) o3 o3,df o3 o3,Vc o3]
     rfl
    rw[e1,eA,eK,eB]
    rw[SD (show (w.Net.Queue.length:Int)≠0 by omega),SD (show ((w.Net.Queue.length - 1:Nat):Int)≠0 by omega)]
    simp only[SC]
    have l3:(i' % w.Net.Queue.length+1+k' % (w.Net.Queue.length - 1)) % w.Net.Queue.length<w.Net.Queue.length:=UF _ m0
    have hne:(i' % w.Net.Queue.length+1+k' % (w.Net.Queue.length - 1)) % w.Net.Queue.length≠i' % w.Net.Queue.length:=by
     generalize i' % w.Net.Queue.length=a at l1 l2
     generalize k' % (w.Net.Queue.length - 1)=d at l1 l2
     by_cases h:a+1+d<w.Net.Queue.length
     ·rw[UD h]; omega
     ·rw[Nat.mod_eq_sub_mod o3,UD o3]; omega
    generalize (i' % w.Net.Queue.length+1+k' % (w.Net.Queue.length - 1)) % w.Net.Queue.length=b at hne l3
    generalize i' % w.Net.Queue.length=a at hne l1
    by_cases hlt:b<a
    ·rw[SD (show (b:Int)<(a:Int) by omega),SC]
     exact tD ok hA hlt l1
    ·rw[SK (show ¬ (b:Int)<(a:Int) by omega),SA]
     exact tD ok hA o3 l3
  ·rw[jw ok]; rfl
section
open Go.RowKit Go.Deep
theorem own:ownKnob Try.prog.godebug=none:=r7
theorem laidOut:laidOutB Try.prog=true:=r7
end
section
open Go.RowKit Go.ChangeShapes Go.WideShapes Go.ChangeAt Go.Deep
theorem pr (os:Os) (started:os.Started) (H:Type) (enc:TypeId×Value->H) :
  ReturnsInHanded {} Try.checked os 4 .any (Rows.wiresOrderSpec.pre6 enc Try.prog Try.f4 Rows.wiresOrderRow.domain false) (Rows.wiresOrderSpec.post enc Try.prog Try.f4 false true false false):=by
 refine returnsInHanded_of_change (C:=Try.checked) own started r7 Try.func4
  (ChangeSpec.witness6 (enc:=enc) (C:=Try.checked) false ⟨#[],#[.agg #[.slice none 0 0,.slice none 0 0,.slice none 0 0,.int .i64 0],.int .u8 0,.int .u8 0],[]⟩ 8 r7 r7 r7 r7) ?_
 intro W base args ds gs before hval hW _ _
 exact vx rfl rfl Try.underlying4 laidOut r7 (fun ds h=>(by match ds,h with | [_,_,_],_=>rfl)) W base args ds gs before hval hW (fun hg=>KT Ko W base args hg (fun G vs h=>by cases h))
theorem wiresOrder_holds:Rows.WiresOrderSaid:=
 OpenClaim.holds_of_wide 4 Try.f4 rfl rfl rfl rfl rfl rfl rfl ⟨rfl,rfl,rfl,rfl,rfl⟩ rfl rfl rfl rfl rfl r7 Try.func4 r7
  (SF r7) (by unfold Func.isWrapper; first | (rw[SH (by decide +kernel)]; kernel_rfl) | (rw[SI (by decide +kernel)]; exact⟨rfl,rfl⟩))
  (fun os started H enc _=>pr os started H enc)
#print axioms wiresOrder_holds
end
end Go.Proofs.Ytebkhfhcipnfgaa
