/-
 WiresDeliverSpec: the statement holds.
-/
import Derived.Test.YtebkhfhcipnfgaaGreatTb2
import Derived.Test.YtebkhfhcipnfgaaGreatChecked
import Derived.Test.YtebkhfhcipnfgaaGreatRows
namespace Go.Proofs.YtebkhfhcipnfgaaGreat
set_option linter.unusedVariables false
set_option linter.unusedSimpArgs false
set_option maxHeartbeats 4000000
set_option maxRecDepth 100000
set_option linter.defProp false
theorem s5 {p:Prop} (h:p:=by rw[fu]; omega):p:=h
theorem x8 {p:Prop} (h:p:=by rw[zj]; simp; omega):p:=h
theorem XJ {p:Prop} (h:p:=by rw[List.length_cons]; omega):p:=h
theorem XK {p:Prop} (h:p:=by rw[decide_eq_false_iff_not]; omega):p:=h
def Yy:=@bne_self_eq_false
def Zw:=@decide_eq_false_iff_not
def ZC:=@BitVec.toNat_ofInt
def ZG:=@List.forall_mem_cons
def ZP:=@Int.fdiv_eq_ediv_of_nonneg
def Z5:=@decide_eq_true_iff
def qah:=@List.not_mem_nil
def qat:=@List.cons.inj
def qau:=@List.any_cons
def qaH:=@Nat.pow_le_pow_right
def qaM:=@Int.le_refl
def qaQ:=@Nat.mul_assoc
def qaT:=@UInt8.ofNat_toNat
def qbh:=@Nat.mul_le_mul
def qbo:=@Bool.false_or
def qbu:=@ByteArray.toList_eq
def qbv:=@List.takeWhile_cons
def qbw:=@List.dropWhile_cons
def qbA:=@Nat.pow_succ
def qbC:=@Nat.pow_add
section
open Go.Proofs.Tryz (prog)
theorem zi:dX ax:=fun x y h=>by
 unfold ax at h
 simp only[YJ,A.v.injEq,Zc,Ze,Y7,Z8,ZK] at h
 have h3:=sd x y (by simp[h])
 obtain ⟨xKind,xN,xS,lx⟩:=x; obtain ⟨yKind,yN,yS,ly⟩:=y
 simp_all
theorem du:dX ak:=fun x y h=>by
 obtain ⟨xFrom,xTo,xData⟩:=x; obtain ⟨yFrom,yTo,yData⟩:=y
 simp only[ak,YJ,A.v.injEq,A.imm.injEq,Zc,Ze,Y7,Z8,ZK,map_inj (m8)] at h
 simp_all
theorem eN:dX aq:=fun x y h=>by
 obtain ⟨x0_,x1_⟩:=x; obtain ⟨y0_,y1_⟩:=y
 simp only[aq,YJ,A.v.injEq,A.imm.injEq,Zc,Ze,Y7,Z8,ZK] at h
 simp_all
theorem dz:dX bP:=fun x y h=>by
 obtain ⟨xQueue,xApart⟩:=x; obtain ⟨yQueue,yApart⟩:=y
 simp only[bP,YJ,A.v.injEq,A.imm.injEq,Zc,Ze,Y7,Z8,ZK,map_inj (du),map_inj (m8),map_inj (eN)] at h
 simp_all
theorem hU:dX ay:=fun x y h=>by
 obtain ⟨xNo,xRole,xBar,xProgram⟩:=x; obtain ⟨yNo,yRole,yBar,yProgram⟩:=y
 simp only[ay,YJ,A.v.injEq,A.imm.injEq,Zc,Ze,Y7,Z8,ZK] at h
 simp_all
theorem pB:dX az:=fun x y h=>by
 obtain ⟨xCues,xGot,xDid⟩:=x; obtain ⟨yCues,yGot,yDid⟩:=y
 simp only[az,YJ,A.v.injEq,A.imm.injEq,Zc,Ze,Y7,Z8,ZK,map_inj (hU),map_inj (ux .i64)] at h
 simp_all
theorem cN:dX al:=fun x y h=>by
 obtain ⟨⟨xNetQueue,xNetApart⟩,xEars,xBar⟩:=x; obtain ⟨⟨yNetQueue,yNetApart⟩,yEars,yBar⟩:=y
 simp only[al,YJ,A.v.injEq,A.imm.injEq,Zc,Ze,Y7,Z8,ZK,map_inj (du),map_inj (m8),map_inj (eN),map_inj (pB),map_inj (hU),map_inj (ux .i64)] at h
 simp_all
theorem ou:dX av:=fun x y h=>by
 obtain ⟨xkind,⟨xcueNo,xcueRole,xcueBar,xcueProgram⟩,⟨xreportRole,xreportBar,xreportProgram⟩⟩:=x; obtain ⟨ykind,⟨ycueNo,ycueRole,ycueBar,ycueProgram⟩,⟨yreportRole,yreportBar,yreportProgram⟩⟩:=y
 simp only[av,YJ,A.v.injEq,A.imm.injEq,Zc,Ze,Y7,Z8,ZK] at h
 simp_all
theorem b6 {T:Type} {c:T->List A} (h:dX c):dX (fun x=>A.agg (c x)):=fun x y e=>h x y (A.agg.inj e)
theorem jS {T:Type} {f:T->List A} (h:dX f):dX (fun l:List T=>A.imm (l.map f) false):=fun x y e=>(map_inj h x y).1 (A.imm.inj e).1
theorem cZ (k:IntKind):dX (fun n=>A.v (.int k n)):=fun x y e=>by simpa using e
theorem cO {X:Type} {f:X->A} (hf:dX f):dX (fun x=>[f x]):=fun x y e=>hf x y (qat e).1
theorem eC {X Y:Type} {f:X->A} {g:Y->List A} (hf:dX f) (hg:dX g):dX (fun x:X×Y=>f x.1 :: g x.2):=fun x y e=>Prod.ext (hf _ _ (qat e).1) (hg _ _ (qat e).2)
theorem fe:dX ar:=fun x y h=>zi x y (by rw[c7,c7]; exact h)
noncomputable def C0:Nat->List A->Option A:=fun _ _=>none
def bH (C:Nat->List A->Option A):Prop:=∀ (k:Nat) (args:List A) (r:A),C k args=some r->eQ prog (cx C0).glob k args r
theorem Sc:bH C0:=fun k args r h=>(by cases h)
theorem fW {C:Nat->List A->Option A} {k:Nat} {c:List A->Option A} (h:bH C) (hc:∀ args r,c args=some r->eQ prog (cx C0).glob k args r):bH (eZ C k c):=fun j args r hr=>by
 simp only[eZ] at hr
 rw[bG] at hr
 split at hr
 ·rename_i hj
  rw[X3 hj]; exact hc args r hr
 ·exact h j args r hr
theorem I7 {C:Nat->List A->Option A} (hC:bH C) (N k:Nat) (args:List A) (r:A) (h:Qv C N k args=some r):eQ prog (cx C0).glob k args r:=by
 unfold Qv at h
 split at h
 ·rename_i x H he
  cases h
  exact o8 (cx:=cx C) (fun k args r _ h=>hC k args r h) r7 he
 ·cases h
theorem Di:∀ m,bH (Cn m)
 | 0=>fun k args r h=>(by cases h)
 | m+1=>fun k args r h=>I7 (Di m) 1000 k args r h
theorem bS {X Y:Type} {C:Nat->List A->Option A} {k:Nat} {x:X->List A} {G:X->Option Y} {f:Y->A} (hC:bH C) (h:∀ a,J (fun (o:R) y=>∃ v,o.1=.ret v/\aS o.2 v=f y) (aF (cx C) (dZ (cx C) (aE+8)) (bF (cx C) (aE+8)) (aE+8) k (x a) [] 0) some (G a) some):bH (eZ C k fun args=>bD x (fun a=>(G a).map f) args):=fW hC fun args r h'=>by
 obtain ⟨a,y,rfl,hy,rfl⟩:=dR h'
 exact zy (cx:=cx C) (fun k args r _ h=>hC k args r h) r7 (h a) hy
def Ur (x:Int×Int×Int):List A:=[(iA x.1),(iA x.2.1),(iA x.2.2)]
theorem Q8:dX Ur:=eC (cZ .i64) (eC (cZ .i64) (cO (cZ .i64)))
noncomputable def Tv (args:List A):Option A:=bD Ur (fun x=>(zU x.1 x.2.1 x.2.2).map fun y=>(bA y)) args
noncomputable def C1:Nat->List A->Option A:=eZ C0 23 Tv
theorem JN:bH C1:=bS Sc fun x=>Vd C0 aE  x.1 x.2.1 x.2.2
def Uz (x:Unit):List A:=[]
theorem Rm:dX Uz:=fun _ _ _=>rfl
noncomputable def OJ (args:List A):Option A:=bD Uz (fun x=>(Qa ).map fun y=>(A.agg [(A.imm (List.map ak y.Queue) false),(A.imm (List.map aq y.Apart) false)])) args
noncomputable def C2:Nat->List A->Option A:=eZ C1 51 OJ
theorem JO:bH C2:=bS JN fun x=>Vr C1 aE
def Hg (x:Int):List A:=[(iA x)]
theorem Q3:dX Hg:=cO (cZ .i64)
noncomputable def Tn (args:List A):Option A:=bD Hg (fun x=>(KJ x).map fun y=>(A.tup [(A.agg (al y.1)),(iA y.2)])) args
theorem GV {C:Nat->List A->Option A} (h:∀ a,C 23 a=Tv a):q8 C:=fun a0 a1 a2=>(h _).trans (aL _ Q8 (a0,a1,a2))
theorem Sy {C:Nat->List A->Option A} (h:∀ a,C 51 a=OJ a):HG C:=fun _=>(h _).trans (aL _ Rm ())
noncomputable def C3:Nat->List A->Option A:=eZ C2 18 Tn
theorem JP:bH C3:=bS JO fun x=>U8 C2 aE (GV fun _=>r7) (Sy fun _=>r7) x
def UJ (x:Int×Int):List A:=[(iA x.1),(iA x.2)]
theorem RD:dX UJ:=eC (cZ .i64) (cO (cZ .i64))
noncomputable def TS (args:List A):Option A:=bD UJ (fun x=>(KZ x.1 x.2).map fun y=>(A.agg [(iA y.1),(iA y.2)])) args
noncomputable def C4:Nat->List A->Option A:=eZ C3 70 TS
theorem JQ:bH C4:=bS JP fun x=>VG C3 aE  x.1 x.2
def UT (x:(Int×Int)):List A:=[(A.agg (aq x))]
theorem RN:dX UT:=cO (b6 (eN))
noncomputable def OP (args:List A):Option A:=bD UT (fun x=>(Kp x).map fun y=>(bA y)) args
noncomputable def C5:Nat->List A->Option A:=eZ C4 84 OP
theorem JR:bH C5:=bS JQ fun x=>VQ C4 aE  x
def UQ (x:aA):List A:=[(A.agg (ak x))]
theorem RK:dX UQ:=cO (b6 (du))
noncomputable def TY (args:List A):Option A:=bD UQ (fun x=>(Ko x).map fun y=>(bA y)) args
theorem M1 {C:Nat->List A->Option A} (h:∀ a,C 70 a=TS a):Cw C:=fun a0 a1=>(h _).trans (aL _ RD (a0,a1))
theorem M7 {C:Nat->List A->Option A} (h:∀ a,C 84 a=OP a):Aa C:=fun a0=>(h _).trans (aL _ RN a0)
noncomputable def C6:Nat->List A->Option A:=eZ C5 80 TY
theorem JS:bH C6:=bS JR fun x=>VN C5 aE (M1 fun _=>r7) (M7 fun _=>r7) x
def US (x:aA):List A:=[(A.agg (ak x))]
theorem RM:dX US:=cO (b6 (du))
noncomputable def T0 (args:List A):Option A:=bD US (fun x=>(K2 x).map fun y=>(bA y)) args
theorem M6 {C:Nat->List A->Option A} (h:∀ a,C 80 a=TY a):CB C:=fun a0=>(h _).trans (aL _ RK a0)
noncomputable def C7:Nat->List A->Option A:=eZ C6 83 T0
theorem JT:bH C7:=bS JS fun x=>VP C6 aE (M6 fun _=>r7) x
def zQ (x:(List aA)):List A:=[(A.imm (List.map ak x) false),(A.fn (Fn.func 83) [] [])]
theorem Fy:dX zQ:=fun x y h=>by
 simp only[zQ,QV,map_inj (du),map_inj (m8)] at h
 exact h
noncomputable def Eg (args:List A):Option A:=bD zQ (fun x=>(uW x).map fun y=>(iA y)) args
theorem SK {C:Nat->List A->Option A} (h:∀ a,C 83 a=T0 a):CC C:=fun a0=>(h _).trans (aL _ RM a0)
noncomputable def C8:Nat->List A->Option A:=eZ C7 99 Eg
theorem JU:bH C8:=bS JT fun x=>IZ C7 aE (SK fun _=>r7) x
def zP (x:(List aA)):List A:=[(A.imm (List.map ak x) false),(A.fn (Fn.func 83) [] [])]
theorem Fx:dX zP:=fun x y h=>by
 simp only[zP,QV,map_inj (du),map_inj (m8)] at h
 exact h
noncomputable def Ef (args:List A):Option A:=bD zP (fun x=>(qY x).map fun y=>(bA y)) args
theorem GZ {C:Nat->List A->Option A} (h:∀ a,C 99 a=Eg a):wC C:=fun a0=>(h _).trans (aL _ Fy a0)
noncomputable def C9:Nat->List A->Option A:=eZ C8 82 Ef
theorem JV:bH C9:=bS JU fun x=>IY C8 aE (GZ fun _=>r7) x
def ND (x:Int):List A:=[(iA x)]
theorem L0:dX ND:=cO (cZ .i64)
noncomputable def FG (args:List A):Option A:=bD ND (fun x=>(wz x).map fun y=>(bA y)) args
noncomputable def OX:Nat->List A->Option A:=eZ C9 116 FG
theorem FK:bH OX:=bS JV fun x=>Qj C9 aE  x
def yp (x:aD):List A:=[(A.agg (bP x))]
theorem Rs:dX yp:=cO (b6 (dz))
noncomputable def TI (args:List A):Option A:=bD yp (fun x=>(IL x).map fun y=>(iA y)) args
theorem MS {C:Nat->List A->Option A} (h:∀ a,C 116 a=FG a):uY C:=fun a0=>(h _).trans (aL _ L0 a0)
theorem GY {C:Nat->List A->Option A} (h:∀ a,C 82 a=Ef a):wB C:=fun a0=>(h _).trans (aL _ Fx a0)
noncomputable def OY:Nat->List A->Option A:=eZ OX 55 TI
theorem FL:bH OY:=bS FK fun x=>Vv OX aE (MS fun _=>r7) (GY fun _=>r7) (M7 fun _=>r7) x
def UA (x:aR×Int):List A:=[(A.agg (ay x.1)),(iA x.2)]
theorem Rn:dX UA:=eC (b6 (hU)) (cO (cZ .i64))
noncomputable def TG (args:List A):Option A:=bD UA (fun x=>(IK x.1 x.2).map fun y=>(bA y)) args
noncomputable def OZ:Nat->List A->Option A:=eZ OY 52 TG
theorem FM:bH OZ:=bS FL fun x=>Vs OY aE (GV fun _=>r7) x.1 x.2
def Hl (x:bj×Int×Int×Int):List A:=[(A.agg (az x.1)),(iA x.2.1),(iA x.2.2.1),(iA x.2.2.2)]
theorem Rt:dX Hl:=eC (b6 (pB)) (eC (cZ .i64) (eC (cZ .i64) (cO (cZ .i64))))
noncomputable def OL (args:List A):Option A:=bD Hl (fun x=>(KT x.1 x.2.1 x.2.2.1 x.2.2.2).map fun y=>(bA y)) args
theorem J2 {C:Nat->List A->Option A} (h:∀ a,C 52 a=TG a):tV C:=fun a0 a1=>(h _).trans (aL _ Rn (a0,a1))
noncomputable def O0:Nat->List A->Option A:=eZ OZ 56 OL
theorem FN:bH O0:=bS FM fun x=>Vw OZ aE (GV fun _=>r7) (J2 fun _=>r7) x.1 x.2.1 x.2.2.1 x.2.2.2
def NB (x:Int):List A:=[(A.v (.int .u64 x))]
theorem LY:dX NB:=cO (cZ .u64)
noncomputable def Mq (args:List A):Option A:=bD NB (fun x=>(B8 x).map fun y=>(iA y)) args
noncomputable def O1:Nat->List A->Option A:=eZ O0 105 Mq
theorem FO:bH O1:=bS FN fun x=>Qg O0 aE  x
def UL (x:(List UInt8)):List A:=[(A.imm (List.map c8 x) false)]
theorem RF:dX UL:=cO (jS (m8))
noncomputable def TU (args:List A):Option A:=bD UL (fun x=>(K0 x).map fun y=>(A.tup [(A.agg (ar y.1)),(iA y.2)])) args
theorem MP {C:Nat->List A->Option A} (h:∀ a,C 105 a=Mq a):uX C:=fun a0=>(h _).trans (aL _ LY a0)
noncomputable def O2:Nat->List A->Option A:=eZ O1 72 TU
theorem FP:bH O2:=bS FO fun x=>VI O1 aE (MP fun _=>r7) x
def Ke (x:(List UInt8)):List A:=[(A.imm (List.map c8 x) false)]
theorem Rc:dX Ke:=cO (jS (m8))
noncomputable def Tz (args:List A):Option A:=bD Ke (fun x=>(Kh x).map fun y=>(A.tup [(A.agg (av y.1)),(bA y.2)])) args
theorem SH {C:Nat->List A->Option A} (h:∀ a,C 72 a=TU a):HK C:=fun a0=>(h _).trans (aL _ RF a0)
noncomputable def O3:Nat->List A->Option A:=eZ O2 37 Tz
theorem FQ:bH O3:=bS FP fun x=>Vh O2 aE (SH fun _=>r7) x
def Uo (x:aw):List A:=[(A.agg (al x))]
theorem Q5:dX Uo:=cO (b6 (cN))
noncomputable def Tq (args:List A):Option A:=bD Uo (fun x=>(EV x).map fun y=>(iA y)) args
theorem MX {C:Nat->List A->Option A} (h:∀ a,C 37 a=Tz a):zY C:=fun a0=>(h _).trans (aL _ Rc a0)
theorem J3 {C:Nat->List A->Option A} (h:∀ a,C 55 a=TI a):zZ C:=fun a0=>(h _).trans (aL _ Rs a0)
theorem SA {C:Nat->List A->Option A} (h:∀ a,C 56 a=OL a):Cr C:=fun a0 a1 a2 a3=>(h _).trans (aL _ Rt (a0,a1,a2,a3))
noncomputable def O4:Nat->List A->Option A:=eZ O3 20 Tq
theorem AK:bH O4:=bS FQ fun x=>Va O3 aE (GV fun _=>r7) (MX fun _=>r7) (J2 fun _=>r7) (J3 fun _=>r7) (SA fun _=>r7) x
def Hd (x:au):List A:=[(A.agg (ar x))]
theorem Ia:dX Hd:=cO (b6 fe)
noncomputable def JH (args:List A):Option A:=bD Hd (fun x=>(II x).map fun y=>(A.tup [(iA y.1),(bA y.2)])) args
noncomputable def Ea (q:Nat) (args:List A):Option A:=bD Hd (fun x=>(wE q x).map fun y=>(A.tup [(iA y.1),(bA y.2)])) args
noncomputable def uP (q:Nat):Nat->List A->Option A:=eZ O4 110 (Ea q)
theorem SS (q:Nat):u0 (uP q) (wE q):=fun a0=>(by kernel_rfl:_=Ea q (Hd a0)).trans (aL _ Ia a0)
theorem Ek:∀ (q:Nat) (args:List A) (r:A) (h:Ea q args=some r),eQ prog (cx C0).glob 110 args r
 | 0,args,r,h=>by
  obtain ⟨x,y,rfl,hy,rfl⟩:=dR h
  cases hy
 | q+1,args,r,h=>by
  obtain ⟨x,y,rfl,hy,rfl⟩:=dR h
  exact zy (f:=fun (y:(Int×Bool))=>(A.tup [(iA y.1),(bA y.2)])) (cx:=cx (uP q)) (fun k args r _ h=>fW AK (Ek q) k args r h) r7 (Qh (uP q) aE  (wE q) (SS q) x) hy
theorem Mt (args:List A) (r:A) (h:JH args=some r):eQ prog (cx C0).glob 110 args r:=Ek aE args r h
noncomputable def O5:Nat->List A->Option A:=eZ O4 110 JH
theorem FR:bH O5:=fW AK Mt
def U0 (x:au):List A:=[(A.agg (ar x))]
theorem RT:dX U0:=cO (b6 fe)
noncomputable def T8 (args:List A):Option A:=bD U0 (fun x=>(Qc x).map fun y=>(iA y)) args
theorem MQ {C:Nat->List A->Option A} (h:∀ a,C 110 a=JH a):Cf C:=fun a0=>(h _).trans (aL _ Ia a0)
noncomputable def O6:Nat->List A->Option A:=eZ O5 97 T8
theorem FT:bH O6:=bS FR fun x=>VX O5 aE (MQ fun _=>r7) x
def NC (x:Int):List A:=[(iA x)]
theorem LZ:dX NC:=cO (cZ .i64)
noncomputable def Mr (args:List A):Option A:=bD NC (fun x=>(yv x).map fun y=>(A.v (.int .u64 y))) args
noncomputable def O7:Nat->List A->Option A:=eZ O6 113 Mr
theorem FU:bH O7:=bS FT fun x=>Qi O6 aE  x
def UR (x:au):List A:=[(A.agg (ar x))]
theorem RL:dX UR:=cO (b6 fe)
noncomputable def TZ (args:List A):Option A:=bD UR (fun x=>(Oy x).map fun y=>(A.tup [(A.imm (List.map c8 y.1) false),(iA y.2)])) args
theorem MR {C:Nat->List A->Option A} (h:∀ a,C 113 a=Mr a):pN C:=fun a0=>(h _).trans (aL _ LZ a0)
theorem SO {C:Nat->List A->Option A} (h:∀ a,C 97 a=T8 a):HP C:=fun a0=>(h _).trans (aL _ RT a0)
noncomputable def O8:Nat->List A->Option A:=eZ O7 81 TZ
theorem FV:bH O8:=bS FU fun x=>VO O7 aE (MR fun _=>r7) (SO fun _=>r7) x
def Hk (x:aU):List A:=[(A.agg (av x))]
theorem Rq:dX Hk:=cO (b6 (ou))
noncomputable def OK (args:List A):Option A:=bD Hk (fun x=>(Qb x).map fun y=>(A.imm (List.map c8 y) false)) args
theorem SJ {C:Nat->List A->Option A} (h:∀ a,C 81 a=TZ a):HM C:=fun a0=>(h _).trans (aL _ RL a0)
noncomputable def O9:Nat->List A->Option A:=eZ O8 54 OK
theorem FW:bH O9:=bS FV fun x=>Vu O8 aE (SJ fun _=>r7) x
def Hj (x:aD×aA):List A:=[(A.agg (bP x.1)),(A.agg (ak x.2))]
theorem Ro:dX Hj:=eC (b6 (dz)) (cO (b6 (du)))
noncomputable def TH (args:List A):Option A:=bD Hj (fun x=>(Kl x.1 x.2).map fun y=>(A.tup [(A.agg [(A.imm (List.map ak y.1.Queue) false),(A.imm (List.map aq y.1.Apart) false)]),(iA y.2)])) args
noncomputable def Pa:Nat->List A->Option A:=eZ O9 53 TH
theorem FX:bH Pa:=bS FW fun x=>Vt O9 aE (J3 fun _=>r7) (M6 fun _=>r7) x.1 x.2
def Hh (x:aw×aR):List A:=[(A.agg (al x.1)),(A.agg (ay x.2))]
theorem Q4:dX Hh:=eC (b6 (cN)) (cO (b6 (hU)))
noncomputable def Tp (args:List A):Option A:=bD Hh (fun x=>(Kg x.1 x.2).map fun y=>(A.tup [(A.agg (al y.1)),(iA y.2)])) args
theorem Ev {C:Nat->List A->Option A} (h:∀ a,C 20 a=Tq a):tU C:=fun a0=>(h _).trans (aL _ Q5 a0)
theorem M0 {C:Nat->List A->Option A} (h:∀ a,C 53 a=TH a):Cq C:=fun a0 a1=>(h _).trans (aL _ Ro (a0,a1))
theorem Sz {C:Nat->List A->Option A} (h:∀ a,C 54 a=OK a):HH C:=fun a0=>(h _).trans (aL _ Rq a0)
noncomputable def Ta:Nat->List A->Option A:=eZ Pa 19 Tp
theorem FY:bH Ta:=bS FX fun x=>U9 Pa aE (Ev fun _=>r7) (J2 fun _=>r7) (M0 fun _=>r7) (Sz fun _=>r7) x.1 x.2
def x9 (x:aw×Int):List A:=[(A.agg (al x.1)),(iA x.2)]
theorem Xn:dX x9:=eC (b6 (cN)) (cO (cZ .i64))
noncomputable def o9 (args:List A):Option A:=bD x9 (fun x=>(G9 x.1 x.2).map fun y=>(A.tup [(A.agg (al y.1)),(iA y.2)])) args
theorem W8:∀ e∈Uj,Cn 24 9 (x9 e.1)=(fun (y:(aw×Int))=>some (A.tup [(A.agg (al y.1)),(iA y.2)])) e.2:=ZG.2 ⟨QQ,ZG.2 ⟨QR,fun _ h=>absurd h qah⟩⟩
theorem Xr (args:List A) (r:A) (h:o9 args=some r):eQ prog (cx C0).glob 9 args r:=by
 obtain ⟨x,y,rfl,hy,rfl⟩:=dR h
 exact Di 24 9 _ _ (W8 (x,y) (ta hy))
noncomputable def Tb:Nat->List A->Option A:=eZ Ta 9 o9
theorem FZ:bH Tb:=fW FY Xr
def x7 (x:aw×(List Int)×(List Int)):List A:=[(A.agg (al x.1)),(A.imm (List.map (cI .i64) x.2.1) false),(A.imm (List.map (cI .i64) x.2.2) false)]
theorem Xm:dX x7:=eC (b6 (cN)) (eC (jS (ux .i64)) (cO (jS (ux .i64))))
noncomputable def o7 (args:List A):Option A:=bD x7 (fun x=>(G7 x.1 x.2.1 x.2.2).map fun y=>(A.tup [(A.agg (al y.1)),(iA y.2)])) args
theorem W7:∀ e∈Ui,Cn 24 7 (x7 e.1)=(fun (y:(aw×Int))=>some (A.tup [(A.agg (al y.1)),(iA y.2)])) e.2:=ZG.2 ⟨QM,ZG.2 ⟨QN,ZG.2 ⟨QO,ZG.2 ⟨QP,fun _ h=>absurd h qah⟩⟩⟩⟩
theorem Xq (args:List A) (r:A) (h:o7 args=some r):eQ prog (cx C0).glob 7 args r:=by
 obtain ⟨x,y,rfl,hy,rfl⟩:=dR h
 exact Di 24 7 _ _ (W7 (x,y) (ta hy))
noncomputable def Pb:Nat->List A->Option A:=eZ Tb 7 o7
theorem F0:bH Pb:=fW FZ Xq
def UH (x:aD×Int):List A:=[(A.agg (bP x.1)),(iA x.2)]
theorem RB:dX UH:=eC (b6 (dz)) (cO (cZ .i64))
noncomputable def TQ (args:List A):Option A:=bD UH (fun x=>(IP x.1 x.2).map fun y=>(A.tup [(A.agg (ak y.1)),(iA y.2)])) args
noncomputable def Pc:Nat->List A->Option A:=eZ Pb 68 TQ
theorem F3:bH Pc:=bS F0 fun x=>VE Pb aE (J3 fun _=>r7) x.1 x.2
def UY (x:(List (Int×Int))×(Int×Int)):List A:=[(A.imm (List.map aq x.1) false),(A.agg (aq x.2))]
theorem RR:dX UY:=eC (jS (eN)) (cO (b6 (eN)))
noncomputable def OQ (args:List A):Option A:=bD UY (fun x=>(Oz x.1 x.2).map fun y=>(iA y)) args
noncomputable def Pd:Nat->List A->Option A:=eZ Pc 91 OQ
theorem F7:bH Pd:=bS F3 fun x=>VV Pc aE  x.1 x.2
def UI (x:(List (Int×Int))×(Int×Int)):List A:=[(A.imm (List.map aq x.1) false),(A.agg (aq x.2))]
theorem RC:dX UI:=eC (jS (eN)) (cO (b6 (eN)))
noncomputable def TR (args:List A):Option A:=bD UI (fun x=>(KY x.1 x.2).map fun y=>(bA y)) args
theorem SM {C:Nat->List A->Option A} (h:∀ a,C 91 a=OQ a):HN C:=fun a0 a1=>(h _).trans (aL _ RR (a0,a1))
noncomputable def Pe:Nat->List A->Option A:=eZ Pd 69 TR
theorem F8:bH Pe:=bS F7 fun x=>VF Pd aE (SM fun _=>r7) x.1 x.2
def UK (x:aD×Int):List A:=[(A.agg (bP x.1)),(iA x.2)]
theorem RE:dX UK:=eC (b6 (dz)) (cO (cZ .i64))
noncomputable def TT (args:List A):Option A:=bD UK (fun x=>(IQ x.1 x.2).map fun y=>(A.agg [(A.imm (List.map ak y.Queue) false),(A.imm (List.map aq y.Apart) false)])) args
noncomputable def Pf:Nat->List A->Option A:=eZ Pe 71 TT
theorem F9:bH Pf:=bS F8 fun x=>VH Pe aE  x.1 x.2
def IG (x:aD×Int):List A:=[(A.agg (bP x.1)),(iA x.2)]
theorem Rb:dX IG:=eC (b6 (dz)) (cO (cZ .i64))
noncomputable def Ty (args:List A):Option A:=bD IG (fun x=>(KM x.1 x.2).map fun y=>(A.tup [(A.agg (ak y.1)),(A.agg [(A.imm (List.map ak y.2.1.Queue) false),(A.imm (List.map aq y.2.1.Apart) false)]),(iA y.2.2)])) args
theorem J5 {C:Nat->List A->Option A} (h:∀ a,C 68 a=TQ a):z8 C:=fun a0 a1=>(h _).trans (aL _ RB (a0,a1))
theorem SG {C:Nat->List A->Option A} (h:∀ a,C 69 a=TR a):HJ C:=fun a0 a1=>(h _).trans (aL _ RC (a0,a1))
theorem M3 {C:Nat->List A->Option A} (h:∀ a,C 71 a=TT a):Cy C:=fun a0 a1=>(h _).trans (aL _ RE (a0,a1))
noncomputable def Pg:Nat->List A->Option A:=eZ Pf 36 Ty
theorem Ga:bH Pg:=bS F9 fun x=>Vg Pf aE (J5 fun _=>r7) (SG fun _=>r7) (M1 fun _=>r7) (M3 fun _=>r7) x.1 x.2
def Ut (x:aR×Int):List A:=[(A.agg (ay x.1)),(iA x.2)]
theorem Rd:dX Ut:=eC (b6 (hU)) (cO (cZ .i64))
noncomputable def TA (args:List A):Option A:=bD Ut (fun x=>(Ki x.1 x.2).map fun y=>(iA y)) args
noncomputable def Ph:Nat->List A->Option A:=eZ Pg 39 TA
theorem Gb:bH Ph:=bS Ga fun x=>Vi Pg aE  x.1 x.2
def zM (x:(List aR)×Int):List A:=[(A.imm (List.map ay x.1) false),(iA x.2),(A.fn (Fn.func 39) [] [])]
theorem Fw:dX zM:=fun x y h=>by
 simp only[zM,QV,map_inj (hU)] at h
 obtain ⟨xa0,xa1⟩:=x
 obtain ⟨ya0,ya1⟩:=y
 simp_all
noncomputable def Ee (args:List A):Option A:=bD zM (fun x=>(qX x.1 x.2).map fun y=>(A.tup [(iA y.1),(bA y.2)])) args
theorem Sq {C:Nat->List A->Option A} (h:∀ a,C 39 a=TA a):Cm C:=fun a0 a1=>(h _).trans (aL _ Rd (a0,a1))
noncomputable def Pj:Nat->List A->Option A:=eZ Ph 38 Ee
theorem Gc:bH Pj:=bS Gb fun x=>IW Ph aE (Sq fun _=>r7) x.1 x.2
def Ul (x:aw×Int):List A:=[(A.agg (al x.1)),(iA x.2)]
theorem QX:dX Ul:=eC (b6 (cN)) (cO (cZ .i64))
noncomputable def Th (args:List A):Option A:=bD Ul (fun x=>(EU x.1 x.2).map fun y=>(A.tup [(A.agg (al y.1)),(A.agg (aB y.2.1)),(bA y.2.2.1),(iA y.2.2.2)])) args
theorem Sp {C:Nat->List A->Option A} (h:∀ a,C 36 a=Ty a):Hz C:=fun a0 a1=>(h _).trans (aL _ Rb (a0,a1))
theorem GW {C:Nat->List A->Option A} (h:∀ a,C 38 a=Ee a):wA C:=fun a0 a1=>(h _).trans (aL _ Fw (a0,a1))
noncomputable def Pk:Nat->List A->Option A:=eZ Pj 12 Th
theorem Gd:bH Pk:=bS Gc fun x=>U2 Pj aE (Ev fun _=>r7) (Sp fun _=>r7) (MX fun _=>r7) (GW fun _=>r7) x.1 x.2
def yr (x:(List Int)×(List Int)):List A:=[(A.imm (List.map (cI .i64) x.1) false),(A.imm (List.map (cI .i64) x.2) false)]
theorem Ru:dX yr:=eC (jS (ux .i64)) (cO (jS (ux .i64)))
noncomputable def TK (args:List A):Option A:=bD yr (fun x=>(Km x.1 x.2).map fun y=>(bA y)) args
noncomputable def Pm:Nat->List A->Option A:=eZ Pk 57 TK
theorem Ge:bH Pm:=bS Gd fun x=>Vx Pk aE  x.1 x.2
def Up (x:(List bj)×(List bj)):List A:=[(A.imm (List.map az x.1) false),(A.imm (List.map az x.2) false)]
theorem Q6:dX Up:=eC (jS (pB)) (cO (jS (pB)))
noncomputable def Tt (args:List A):Option A:=bD Up (fun x=>(E7 x.1 x.2).map fun y=>(bA y)) args
theorem SB {C:Nat->List A->Option A} (h:∀ a,C 57 a=TK a):Cs C:=fun a0 a1=>(h _).trans (aL _ Ru (a0,a1))
noncomputable def Pn:Nat->List A->Option A:=eZ Pm 21 Tt
theorem Gf:bH Pn:=bS Ge fun x=>Vb Pm aE (SB fun _=>r7) x.1 x.2
def x5 (x:Unit):List A:=[]
theorem Xk:dX x5:=fun _ _ _=>rfl
noncomputable def o5 (args:List A):Option A:=bD x5 (fun x=>(G5 ).map fun y=>(bA y)) args
theorem MV {C:Nat->List A->Option A} (h:∀ a,C 12 a=Th a):Cj C:=fun a0 a1=>(h _).trans (aL _ QX (a0,a1))
theorem Sl {C:Nat->List A->Option A} (h:∀ a,C 18 a=Tn a):Hv C:=fun a0=>(h _).trans (aL _ Q3 a0)
theorem Sm {C:Nat->List A->Option A} (h:∀ a,C 19 a=Tp a):Hw C:=fun a0 a1=>(h _).trans (aL _ Q4 (a0,a1))
theorem MW {C:Nat->List A->Option A} (h:∀ a,C 21 a=Tt a):Cl C:=fun a0 a1=>(h _).trans (aL _ Q6 (a0,a1))
theorem Xv {C:Nat->List A->Option A} (h:∀ a,C 7 a=o7 a):K7 C:=fun a0 a1 a2=>(h _).trans (aL _ Xm (a0,a1,a2))
theorem Xw {C:Nat->List A->Option A} (h:∀ a,C 9 a=o9 a):K8 C:=fun a0 a1=>(h _).trans (aL _ Xn (a0,a1))
noncomputable def Po:Nat->List A->Option A:=eZ Pn 5 o5
theorem Gg:bH Po:=bS Gf fun x=>T5 Pn aE (MV fun _=>r7) (Sl fun _=>r7) (Sm fun _=>r7) (Ev fun _=>r7) (MW fun _=>r7) (Xv fun _=>r7) (Xw fun _=>r7)
def Uq (x:aD):List A:=[(A.agg (bP x))]
theorem Q7:dX Uq:=cO (b6 (dz))
noncomputable def Tu (args:List A):Option A:=bD Uq (fun x=>(KK x).map fun y=>(bA y)) args
noncomputable def Pp:Nat->List A->Option A:=eZ Po 22 Tu
theorem Gi:bH Pp:=bS Gg fun x=>Vc Po aE  x
def x6 (x:aw):List A:=[(A.agg (al x))]
theorem Xl:dX x6:=cO (b6 (cN))
noncomputable def o6 (args:List A):Option A:=bD x6 (fun x=>(G6 x).map fun y=>(bA y)) args
theorem Sn {C:Nat->List A->Option A} (h:∀ a,C 22 a=Tu a):Hx C:=fun a0=>(h _).trans (aL _ Q7 a0)
noncomputable def Pq:Nat->List A->Option A:=eZ Pp 6 o6
theorem Gj:bH Pq:=bS Gi fun x=>T6 Pp aE (Sn fun _=>r7) x
def UB (x:Int×Int×Int):List A:=[(iA x.1),(iA x.2.1),(iA x.2.2)]
theorem Rv:dX UB:=eC (cZ .i64) (eC (cZ .i64) (cO (cZ .i64)))
noncomputable def OM (args:List A):Option A:=bD UB (fun x=>(BS x.1 x.2.1 x.2.2).map fun y=>(bA y)) args
noncomputable def Pr:Nat->List A->Option A:=eZ Pq 60 OM
theorem Gk:bH Pr:=bS Gj fun x=>Vy Pq aE  x.1 x.2.1 x.2.2
def UW (x:Int):List A:=[(iA x)]
theorem RP:dX UW:=cO (cZ .i64)
noncomputable def T2 (args:List A):Option A:=bD UW (fun x=>(Hm x).map fun y=>(bA y)) args
noncomputable def Ps:Nat->List A->Option A:=eZ Pr 87 T2
theorem Gl:bH Ps:=bS Gk fun x=>VT Pr aE  x
def UU (x:aA):List A:=[(A.agg (ak x))]
theorem RO:dX UU:=cO (b6 (du))
noncomputable def T1 (args:List A):Option A:=bD UU (fun x=>(Kq x).map fun y=>(bA y)) args
theorem M9 {C:Nat->List A->Option A} (h:∀ a,C 87 a=T2 a):Ac C:=fun a0=>(h _).trans (aL _ RP a0)
noncomputable def Pt:Nat->List A->Option A:=eZ Ps 86 T1
theorem Gm:bH Pt:=bS Gl fun x=>VS Ps aE (M9 fun _=>r7) x
def UC (x:aD):List A:=[(A.agg (bP x))]
theorem Rw:dX UC:=cO (b6 (dz))
noncomputable def TL (args:List A):Option A:=bD UC (fun x=>(IM x).map fun y=>(iA y)) args
theorem M8 {C:Nat->List A->Option A} (h:∀ a,C 86 a=T1 a):Ab C:=fun a0=>(h _).trans (aL _ RO a0)
noncomputable def Pu:Nat->List A->Option A:=eZ Pt 61 TL
theorem Gn:bH Pu:=bS Gm fun x=>Vz Pt aE (M8 fun _=>r7) (M9 fun _=>r7) x
def UX (x:aR×Int):List A:=[(A.agg (ay x.1)),(iA x.2)]
theorem RQ:dX UX:=eC (b6 (hU)) (cO (cZ .i64))
noncomputable def T3 (args:List A):Option A:=bD UX (fun x=>(Kr x.1 x.2).map fun y=>(bA y)) args
theorem GX {C:Nat->List A->Option A} (h:∀ a,C 60 a=OM a):tW C:=fun a0 a1 a2=>(h _).trans (aL _ Rv (a0,a1,a2))
noncomputable def Pv:Nat->List A->Option A:=eZ Pu 88 T3
theorem Gp:bH Pv:=bS Gn fun x=>VU Pu aE (GX fun _=>r7) x.1 x.2
def UD (x:aw×Int):List A:=[(A.agg (al x.1)),(iA x.2)]
theorem Rx:dX UD:=eC (b6 (cN)) (cO (cZ .i64))
noncomputable def TM (args:List A):Option A:=bD UD (fun x=>(KU x.1 x.2).map fun y=>(bA y)) args
theorem Na {C:Nat->List A->Option A} (h:∀ a,C 88 a=T3 a):Ad C:=fun a0 a1=>(h _).trans (aL _ RQ (a0,a1))
noncomputable def Pw:Nat->List A->Option A:=eZ Pv 62 TM
theorem AL:bH Pw:=bS Gp fun x=>VA Pv aE (GX fun _=>r7) (Na fun _=>r7) x.1 x.2
def He (x:au):List A:=[(A.agg (ar x))]
theorem Ib:dX He:=cO (b6 fe)
noncomputable def JI (args:List A):Option A:=bD He (fun x=>(E5 x).map fun y=>(bA y)) args
noncomputable def Eb (q:Nat) (args:List A):Option A:=bD He (fun x=>(wF q x).map fun y=>(bA y)) args
noncomputable def uQ (q:Nat):Nat->List A->Option A:=eZ Pw 117 (Eb q)
theorem SU (q:Nat):u1 (uQ q) (wF q):=fun a0=>(by kernel_rfl:_=Eb q (He a0)).trans (aL _ Ib a0)
theorem El:∀ (q:Nat) (args:List A) (r:A) (h:Eb q args=some r),eQ prog (cx C0).glob 117 args r
 | 0,args,r,h=>by
  obtain ⟨x,y,rfl,hy,rfl⟩:=dR h
  cases hy
 | q+1,args,r,h=>by
  obtain ⟨x,y,rfl,hy,rfl⟩:=dR h
  exact zy (f:=fun (y:Bool)=>(bA y)) (cx:=cx (uQ q)) (fun k args r _ h=>fW AL (El q) k args r h) r7 (Qk (uQ q) aE  (wF q) (SU q) x) hy
theorem Mu (args:List A) (r:A) (h:JI args=some r):eQ prog (cx C0).glob 117 args r:=El aE args r h
noncomputable def Px:Nat->List A->Option A:=eZ Pw 117 JI
theorem AM:bH Px:=fW AL Mu
def Hf (x:au):List A:=[(A.agg (ar x))]
theorem Ic:dX Hf:=cO (b6 fe)
noncomputable def JJ (args:List A):Option A:=bD Hf (fun x=>(E6 x).map fun y=>(iA y)) args
noncomputable def Ec (q:Nat) (args:List A):Option A:=bD Hf (fun x=>(wG q x).map fun y=>(iA y)) args
noncomputable def uR (q:Nat):Nat->List A->Option A:=eZ Px 118 (Ec q)
theorem SV (q:Nat):va (uR q) (wG q):=fun a0=>(by kernel_rfl:_=Ec q (Hf a0)).trans (aL _ Ic a0)
theorem Em:∀ (q:Nat) (args:List A) (r:A) (h:Ec q args=some r),eQ prog (cx C0).glob 118 args r
 | 0,args,r,h=>by
  obtain ⟨x,y,rfl,hy,rfl⟩:=dR h
  cases hy
 | q+1,args,r,h=>by
  obtain ⟨x,y,rfl,hy,rfl⟩:=dR h
  exact zy (f:=fun (y:Int)=>(iA y)) (cx:=cx (uR q)) (fun k args r _ h=>fW AM (Em q) k args r h) r7 (Ql (uR q) aE  (wG q) (SV q) x) hy
theorem Mv (args:List A) (r:A) (h:JJ args=some r):eQ prog (cx C0).glob 118 args r:=Em aE args r h
noncomputable def Py:Nat->List A->Option A:=eZ Px 118 JJ
theorem Gq:bH Py:=fW AM Mv
def NA (x:au):List A:=[(A.agg (ar x))]
theorem LX:dX NA:=cO (b6 fe)
noncomputable def Mp (args:List A):Option A:=bD NA (fun x=>(B7 x).map fun y=>(iA y)) args
theorem MT {C:Nat->List A->Option A} (h:∀ a,C 117 a=JI a):Cg C:=fun a0=>(h _).trans (aL _ Ib a0)
theorem MU {C:Nat->List A->Option A} (h:∀ a,C 118 a=JJ a):Ch C:=fun a0=>(h _).trans (aL _ Ic a0)
noncomputable def Pz:Nat->List A->Option A:=eZ Py 101 Mp
theorem Gr:bH Pz:=bS Gq fun x=>Qe Py aE (MT fun _=>r7) (MU fun _=>r7) x
def Kd (x:Int):List A:=[(iA x)]
theorem L3:dX Kd:=cO (cZ .i64)
noncomputable def FH (args:List A):Option A:=bD Kd (fun x=>(B9 x).map fun y=>(A.v (.int .u64 y))) args
noncomputable def PA:Nat->List A->Option A:=eZ Pz 120 FH
theorem AN:bH PA:=bS Gr fun x=>Qn Pz aE  x
def EN (x:Int):List A:=[(A.v (.int .u64 x))]
theorem Ie:dX EN:=cO (cZ .u64)
noncomputable def JK (args:List A):Option A:=bD EN (fun x=>(A5 x).map fun y=>(A.imm (List.map c8 y) false)) args
noncomputable def Ed (q:Nat) (args:List A):Option A:=bD EN (fun x=>(wH q x).map fun y=>(A.imm (List.map c8 y) false)) args
noncomputable def uS (q:Nat):Nat->List A->Option A:=eZ PA 119 (Ed q)
theorem SW (q:Nat):Ae (uS q) (wH q):=fun a0=>(by kernel_rfl:_=Ed q (EN a0)).trans (aL _ Ie a0)
theorem En:∀ (q:Nat) (args:List A) (r:A) (h:Ed q args=some r),eQ prog (cx C0).glob 119 args r
 | 0,args,r,h=>by
  obtain ⟨x,y,rfl,hy,rfl⟩:=dR h
  cases hy
 | q+1,args,r,h=>by
  obtain ⟨x,y,rfl,hy,rfl⟩:=dR h
  exact zy (f:=fun (y:(List UInt8))=>(A.imm (List.map c8 y) false)) (cx:=cx (uS q)) (fun k args r _ h=>fW AN (En q) k args r h) r7 (Qm (uS q) aE  (wH q) (SW q) x) hy
theorem Mw (args:List A) (r:A) (h:JK args=some r):eQ prog (cx C0).glob 119 args r:=En aE args r h
noncomputable def PB:Nat->List A->Option A:=eZ PA 119 JK
theorem AO:bH PB:=fW AN Mw
def Hc (x:au):List A:=[(A.agg (ar x))]
theorem HZ:dX Hc:=cO (b6 fe)
noncomputable def JG (args:List A):Option A:=bD Hc (fun x=>(E4 x).map fun y=>(A.imm (List.map c8 y) false)) args
noncomputable def D9 (q:Nat) (args:List A):Option A:=bD Hc (fun x=>(wD q x).map fun y=>(A.imm (List.map c8 y) false)) args
noncomputable def oN (q:Nat):Nat->List A->Option A:=eZ PB 102 (D9 q)
theorem SQ (q:Nat):uZ (oN q) (wD q):=fun a0=>(by kernel_rfl:_=D9 q (Hc a0)).trans (aL _ HZ a0)
theorem we (q:Nat):Ci (oN q):=fun a0=>(by kernel_rfl:_=JK (EN a0)).trans (aL _ Ie a0)
theorem wg (q:Nat):Ck (oN q):=fun a0=>(by kernel_rfl:_=FH (Kd a0)).trans (aL _ L3 a0)
theorem Ej:∀ (q:Nat) (args:List A) (r:A) (h:D9 q args=some r),eQ prog (cx C0).glob 102 args r
 | 0,args,r,h=>by
  obtain ⟨x,y,rfl,hy,rfl⟩:=dR h
  cases hy
 | q+1,args,r,h=>by
  obtain ⟨x,y,rfl,hy,rfl⟩:=dR h
  exact zy (f:=fun (y:(List UInt8))=>(A.imm (List.map c8 y) false)) (cx:=cx (oN q)) (fun k args r _ h=>fW AO (Ej q) k args r h) r7 (Qf (oN q) aE (we q) (wg q) (wD q) (SQ q) x) hy
theorem Ms (args:List A) (r:A) (h:JG args=some r):eQ prog (cx C0).glob 102 args r:=Ej aE args r h
noncomputable def PC:Nat->List A->Option A:=eZ PB 102 JG
theorem Gs:bH PC:=fW AO Ms
def UZ (x:(List UInt8)):List A:=[(A.imm (List.map c8 x) false)]
theorem RS:dX UZ:=cO (jS (m8))
noncomputable def T7 (args:List A):Option A:=bD UZ (fun x=>(K3 x).map fun y=>(A.tup [(A.agg (ar y.1)),(iA y.2)])) args
theorem MN {C:Nat->List A->Option A} (h:∀ a,C 101 a=Mp a):Cd C:=fun a0=>(h _).trans (aL _ LX a0)
theorem MO {C:Nat->List A->Option A} (h:∀ a,C 102 a=JG a):Ce C:=fun a0=>(h _).trans (aL _ HZ a0)
noncomputable def PD:Nat->List A->Option A:=eZ PC 96 T7
theorem Gt:bH PD:=bS Gs fun x=>VW PC aE (MN fun _=>r7) (MO fun _=>r7) x
def UP (x:(List UInt8)):List A:=[(A.imm (List.map c8 x) false)]
theorem RJ:dX UP:=cO (jS (m8))
noncomputable def TX (args:List A):Option A:=bD UP (fun x=>(Kn x).map fun y=>(A.tup [(A.imm (List.map (cI .i64) y.1) false),(bA y.2)])) args
theorem SN {C:Nat->List A->Option A} (h:∀ a,C 96 a=T7 a):HO C:=fun a0=>(h _).trans (aL _ RS a0)
noncomputable def PE:Nat->List A->Option A:=eZ PD 79 TX
theorem Gu:bH PE:=bS Gt fun x=>VM PD aE (SN fun _=>r7) x
def Uw (x:(List UInt8)):List A:=[(A.imm (List.map c8 x) false)]
theorem Rg:dX Uw:=cO (jS (m8))
noncomputable def OG (args:List A):Option A:=bD Uw (fun x=>(Kk x).map fun y=>(A.tup [(A.agg (ay y.1)),(bA y.2)])) args
theorem M5 {C:Nat->List A->Option A} (h:∀ a,C 79 a=TX a):CA C:=fun a0=>(h _).trans (aL _ RJ a0)
noncomputable def PF:Nat->List A->Option A:=eZ PE 45 OG
theorem Gv:bH PF:=bS Gu fun x=>Vl PE aE (M5 fun _=>r7) x
def Uv (x:(List UInt8)):List A:=[(A.imm (List.map c8 x) false)]
theorem Rf:dX Uv:=cO (jS (m8))
noncomputable def TC (args:List A):Option A:=bD Uv (fun x=>(Kj x).map fun y=>(A.tup [(A.agg (aB y.1)),(bA y.2)])) args
noncomputable def PG:Nat->List A->Option A:=eZ PF 44 TC
theorem Gw:bH PG:=bS Gv fun x=>Vk PF aE (M5 fun _=>r7) x
def UE (x:aw×aA):List A:=[(A.agg (al x.1)),(A.agg (ak x.2))]
theorem Ry:dX UE:=eC (b6 (cN)) (cO (b6 (du)))
noncomputable def TN (args:List A):Option A:=bD UE (fun x=>(KV x.1 x.2).map fun y=>(bA y)) args
theorem MY {C:Nat->List A->Option A} (h:∀ a,C 44 a=TC a):Co C:=fun a0=>(h _).trans (aL _ Rf a0)
theorem MZ {C:Nat->List A->Option A} (h:∀ a,C 45 a=OG a):Cp C:=fun a0=>(h _).trans (aL _ Rg a0)
noncomputable def PH:Nat->List A->Option A:=eZ PG 63 TN
theorem Gx:bH PH:=bS Gw fun x=>VB PG aE (MY fun _=>r7) (MZ fun _=>r7) (GX fun _=>r7) (Na fun _=>r7) x.1 x.2
def Hi (x:aw):List A:=[(A.agg (al x))]
theorem Q9:dX Hi:=cO (b6 (cN))
noncomputable def Tw (args:List A):Option A:=bD Hi (fun x=>(IJ x).map fun y=>(iA y)) args
theorem J4 {C:Nat->List A->Option A} (h:∀ a,C 61 a=TL a):z7 C:=fun a0=>(h _).trans (aL _ Rw a0)
theorem SC {C:Nat->List A->Option A} (h:∀ a,C 62 a=TM a):Ct C:=fun a0 a1=>(h _).trans (aL _ Rx (a0,a1))
theorem SD {C:Nat->List A->Option A} (h:∀ a,C 63 a=TN a):Cu C:=fun a0 a1=>(h _).trans (aL _ Ry (a0,a1))
noncomputable def PI:Nat->List A->Option A:=eZ PH 28 Tw
theorem Gy:bH PI:=bS Gx fun x=>Ve PH aE (GX fun _=>r7) (J4 fun _=>r7) (SC fun _=>r7) (SD fun _=>r7) x
def UM (x:aD×Int):List A:=[(A.agg (bP x.1)),(iA x.2)]
theorem RG:dX UM:=eC (b6 (dz)) (cO (cZ .i64))
noncomputable def OO (args:List A):Option A:=bD UM (fun x=>(IT x.1 x.2).map fun y=>(iA y)) args
noncomputable def PJ:Nat->List A->Option A:=eZ PI 76 OO
theorem Gz:bH PJ:=bS Gy fun x=>VJ PI aE (J4 fun _=>r7) x.1 x.2
def UN (x:aD×Int×Int):List A:=[(A.agg (bP x.1)),(iA x.2.1),(iA x.2.2)]
theorem RH:dX UN:=eC (b6 (dz)) (eC (cZ .i64) (cO (cZ .i64)))
noncomputable def TV (args:List A):Option A:=bD UN (fun x=>(K1 x.1 x.2.1 x.2.2).map fun y=>(bA y)) args
noncomputable def PK:Nat->List A->Option A:=eZ PJ 77 TV
theorem GA:bH PK:=bS Gz fun x=>VK PJ aE  x.1 x.2.1 x.2.2
def UO (x:aD×Int):List A:=[(A.agg (bP x.1)),(iA x.2)]
theorem RI:dX UO:=eC (b6 (dz)) (cO (cZ .i64))
noncomputable def TW (args:List A):Option A:=bD UO (fun x=>(IU x.1 x.2).map fun y=>(A.agg [(A.imm (List.map ak y.Queue) false),(A.imm (List.map aq y.Apart) false)])) args
noncomputable def PL:Nat->List A->Option A:=eZ PK 78 TW
theorem GB:bH PL:=bS GA fun x=>VL PK aE  x.1 x.2
def Uu (x:aD×Int):List A:=[(A.agg (bP x.1)),(iA x.2)]
theorem Re:dX Uu:=eC (b6 (dz)) (cO (cZ .i64))
noncomputable def TB (args:List A):Option A:=bD Uu (fun x=>(KN x.1 x.2).map fun y=>(A.tup [(A.agg (ak y.1)),(A.agg [(A.imm (List.map ak y.2.1.Queue) false),(A.imm (List.map aq y.2.1.Apart) false)]),(iA y.2.2)])) args
theorem J6 {C:Nat->List A->Option A} (h:∀ a,C 76 a=OO a):z9 C:=fun a0 a1=>(h _).trans (aL _ RG (a0,a1))
theorem SI {C:Nat->List A->Option A} (h:∀ a,C 77 a=TV a):HL C:=fun a0 a1 a2=>(h _).trans (aL _ RH (a0,a1,a2))
theorem M4 {C:Nat->List A->Option A} (h:∀ a,C 78 a=TW a):Cz C:=fun a0 a1=>(h _).trans (aL _ RI (a0,a1))
noncomputable def PM:Nat->List A->Option A:=eZ PL 43 TB
theorem GC:bH PM:=bS GB fun x=>Vj PL aE (J6 fun _=>r7) (SI fun _=>r7) (M4 fun _=>r7) x.1 x.2
def Ux (x:(List aR)×aR):List A:=[(A.imm (List.map ay x.1) false),(A.agg (ay x.2))]
theorem Rh:dX Ux:=eC (jS (hU)) (cO (b6 (hU)))
noncomputable def OH (args:List A):Option A:=bD Ux (fun x=>(KO x.1 x.2).map fun y=>(A.imm (List.map ay y) false)) args
noncomputable def PN:Nat->List A->Option A:=eZ PM 46 OH
theorem GD:bH PN:=bS GC fun x=>Vm PM aE  x.1 x.2
def Um (x:aw×Int):List A:=[(A.agg (al x.1)),(iA x.2)]
theorem QY:dX Um:=eC (b6 (cN)) (cO (cZ .i64))
noncomputable def Ti (args:List A):Option A:=bD Um (fun x=>(KE x.1 x.2).map fun y=>(A.tup [(A.agg (al y.1)),(A.agg (aB y.2.1)),(bA y.2.2.1),(iA y.2.2.2)])) args
theorem J1 {C:Nat->List A->Option A} (h:∀ a,C 28 a=Tw a):zX C:=fun a0=>(h _).trans (aL _ Q9 a0)
theorem Sr {C:Nat->List A->Option A} (h:∀ a,C 43 a=TB a):HA C:=fun a0 a1=>(h _).trans (aL _ Re (a0,a1))
theorem Ss {C:Nat->List A->Option A} (h:∀ a,C 46 a=OH a):HB C:=fun a0 a1=>(h _).trans (aL _ Rh (a0,a1))
noncomputable def PO:Nat->List A->Option A:=eZ PN 13 Ti
theorem GF:bH PO:=bS GD fun x=>U3 PN aE (J1 fun _=>r7) (Sr fun _=>r7) (MY fun _=>r7) (MZ fun _=>r7) (Ss fun _=>r7) x.1 x.2
def Uy (x:aD×Int):List A:=[(A.agg (bP x.1)),(iA x.2)]
theorem Ri:dX Uy:=eC (b6 (dz)) (cO (cZ .i64))
noncomputable def TD (args:List A):Option A:=bD Uy (fun x=>(KP x.1 x.2).map fun y=>(A.tup [(A.agg [(A.imm (List.map ak y.1.Queue) false),(A.imm (List.map aq y.1.Apart) false)]),(iA y.2)])) args
noncomputable def PQ:Nat->List A->Option A:=eZ PO 47 TD
theorem GG:bH PQ:=bS GF fun x=>Vn PO aE (J5 fun _=>r7) (M3 fun _=>r7) x.1 x.2
def Un (x:aw×Int):List A:=[(A.agg (al x.1)),(iA x.2)]
theorem QZ:dX Un:=eC (b6 (cN)) (cO (cZ .i64))
noncomputable def Tj (args:List A):Option A:=bD Un (fun x=>(KF x.1 x.2).map fun y=>(A.tup [(A.agg (al y.1)),(iA y.2)])) args
theorem Su {C:Nat->List A->Option A} (h:∀ a,C 47 a=TD a):HC C:=fun a0 a1=>(h _).trans (aL _ Ri (a0,a1))
noncomputable def PR:Nat->List A->Option A:=eZ PQ 14 Tj
theorem GH:bH PR:=bS GG fun x=>U4 PQ aE (Ev fun _=>r7) (Su fun _=>r7) x.1 x.2
def zN (x:aD×Int):List A:=[(A.agg (bP x.1)),(iA x.2)]
theorem Rj:dX zN:=eC (b6 (dz)) (cO (cZ .i64))
noncomputable def OI (args:List A):Option A:=bD zN (fun x=>(KQ x.1 x.2).map fun y=>(A.tup [(A.agg [(A.imm (List.map ak y.1.Queue) false),(A.imm (List.map aq y.1.Apart) false)]),(iA y.2)])) args
noncomputable def PS:Nat->List A->Option A:=eZ PR 48 OI
theorem GI:bH PS:=bS GH fun x=>Vo PR aE (J6 fun _=>r7) (M4 fun _=>r7) x.1 x.2
def BP (x:aw×Int):List A:=[(A.agg (al x.1)),(iA x.2)]
theorem Q0:dX BP:=eC (b6 (cN)) (cO (cZ .i64))
noncomputable def Tk (args:List A):Option A:=bD BP (fun x=>(KG x.1 x.2).map fun y=>(A.tup [(A.agg (al y.1)),(iA y.2)])) args
theorem Sv {C:Nat->List A->Option A} (h:∀ a,C 48 a=OI a):HD C:=fun a0 a1=>(h _).trans (aL _ Rj (a0,a1))
noncomputable def PU:Nat->List A->Option A:=eZ PS 15 Tk
theorem GJ:bH PU:=bS GI fun x=>U5 PS aE (J1 fun _=>r7) (Sv fun _=>r7) x.1 x.2
def zO (x:aD×Int):List A:=[(A.agg (bP x.1)),(iA x.2)]
theorem Rk:dX zO:=eC (b6 (dz)) (cO (cZ .i64))
noncomputable def TE (args:List A):Option A:=bD zO (fun x=>(KR x.1 x.2).map fun y=>(A.tup [(A.agg [(A.imm (List.map ak y.1.Queue) false),(A.imm (List.map aq y.1.Apart) false)]),(iA y.2)])) args
noncomputable def PV:Nat->List A->Option A:=eZ PU 49 TE
theorem GK:bH PV:=bS GJ fun x=>Vp PU aE (M0 fun _=>r7) (J5 fun _=>r7) x.1 x.2
def BQ (x:aw×Int):List A:=[(A.agg (al x.1)),(iA x.2)]
theorem Q1:dX BQ:=eC (b6 (cN)) (cO (cZ .i64))
noncomputable def Tl (args:List A):Option A:=bD BQ (fun x=>(KH x.1 x.2).map fun y=>(A.tup [(A.agg (al y.1)),(iA y.2)])) args
theorem Sw {C:Nat->List A->Option A} (h:∀ a,C 49 a=TE a):HE C:=fun a0 a1=>(h _).trans (aL _ Rk (a0,a1))
noncomputable def PW:Nat->List A->Option A:=eZ PV 16 Tl
theorem GL:bH PW:=bS GK fun x=>U6 PV aE (Ev fun _=>r7) (Sw fun _=>r7) x.1 x.2
def UF (x:aD×aA):List A:=[(A.agg (bP x.1)),(A.agg (ak x.2))]
theorem Rz:dX UF:=eC (b6 (dz)) (cO (b6 (du)))
noncomputable def ON (args:List A):Option A:=bD UF (fun x=>(KW x.1 x.2).map fun y=>(A.tup [(A.agg [(A.imm (List.map ak y.1.Queue) false),(A.imm (List.map aq y.1.Apart) false)]),(iA y.2)])) args
noncomputable def PX:Nat->List A->Option A:=eZ PW 65 ON
theorem GM:bH PX:=bS GL fun x=>VC PW aE (J4 fun _=>r7) (M8 fun _=>r7) x.1 x.2
def BR (x:aD×Int):List A:=[(A.agg (bP x.1)),(iA x.2)]
theorem Rl:dX BR:=eC (b6 (dz)) (cO (cZ .i64))
noncomputable def TF (args:List A):Option A:=bD BR (fun x=>(KS x.1 x.2).map fun y=>(A.tup [(A.agg [(A.imm (List.map ak y.1.Queue) false),(A.imm (List.map aq y.1.Apart) false)]),(iA y.2)])) args
theorem SE {C:Nat->List A->Option A} (h:∀ a,C 65 a=ON a):HI C:=fun a0 a1=>(h _).trans (aL _ Rz (a0,a1))
noncomputable def PY:Nat->List A->Option A:=eZ PX 50 TF
theorem GN:bH PY:=bS GM fun x=>Vq PX aE (SE fun _=>r7) (J6 fun _=>r7) x.1 x.2
def tj (x:aw×Int):List A:=[(A.agg (al x.1)),(iA x.2)]
theorem Q2:dX tj:=eC (b6 (cN)) (cO (cZ .i64))
noncomputable def Tm (args:List A):Option A:=bD tj (fun x=>(KI x.1 x.2).map fun y=>(A.tup [(A.agg (al y.1)),(iA y.2)])) args
theorem Sx {C:Nat->List A->Option A} (h:∀ a,C 50 a=TF a):HF C:=fun a0 a1=>(h _).trans (aL _ Rl (a0,a1))
noncomputable def PZ:Nat->List A->Option A:=eZ PY 17 Tm
theorem GO:bH PZ:=bS GN fun x=>U7 PY aE (J1 fun _=>r7) (Sx fun _=>r7) x.1 x.2
def UG (x:aA×aA):List A:=[(A.agg (ak x.1)),(A.agg (ak x.2))]
theorem RA:dX UG:=eC (b6 (du)) (cO (b6 (du)))
noncomputable def TP (args:List A):Option A:=bD UG (fun x=>(KX x.1 x.2).map fun y=>(bA y)) args
noncomputable def P0:Nat->List A->Option A:=eZ PZ 67 TP
theorem GP:bH P0:=bS GO fun x=>VD PZ aE  x.1 x.2
def Us (x:aD×aD):List A:=[(A.agg (bP x.1)),(A.agg (bP x.2))]
theorem Ra:dX Us:=eC (b6 (dz)) (cO (b6 (dz)))
noncomputable def Tx (args:List A):Option A:=bD Us (fun x=>(KL x.1 x.2).map fun y=>(bA y)) args
theorem SF {C:Nat->List A->Option A} (h:∀ a,C 67 a=TP a):Cv C:=fun a0 a1=>(h _).trans (aL _ RA (a0,a1))
noncomputable def P1:Nat->List A->Option A:=eZ P0 35 Tx
theorem GQ:bH P1:=bS GP fun x=>Vf P0 aE (SF fun _=>r7) x.1 x.2
def qM (x:aw×aw):List A:=[(A.agg (al x.1)),(A.agg (al x.2))]
theorem QW:dX qM:=eC (b6 (cN)) (cO (b6 (cN)))
noncomputable def Tg (args:List A):Option A:=bD qM (fun x=>(IH x.1 x.2).map fun y=>(bA y)) args
theorem So {C:Nat->List A->Option A} (h:∀ a,C 35 a=Tx a):Hy C:=fun a0 a1=>(h _).trans (aL _ Ra (a0,a1))
noncomputable def P2:Nat->List A->Option A:=eZ P1 11 Tg
theorem GR:bH P2:=bS GQ fun x=>U1 P1 aE (MW fun _=>r7) (So fun _=>r7) x.1 x.2
def x4 (x:aw×Int):List A:=[(A.agg (al x.1)),(iA x.2)]
theorem Xj:dX x4:=eC (b6 (cN)) (cO (cZ .i64))
noncomputable def o4 (args:List A):Option A:=bD x4 (fun x=>(G4 x.1 x.2).map fun y=>(bA y)) args
theorem Sf {C:Nat->List A->Option A} (h:∀ a,C 11 a=Tg a):Hp C:=fun a0 a1=>(h _).trans (aL _ QW (a0,a1))
theorem Sg {C:Nat->List A->Option A} (h:∀ a,C 13 a=Ti a):Hq C:=fun a0 a1=>(h _).trans (aL _ QY (a0,a1))
theorem Sh {C:Nat->List A->Option A} (h:∀ a,C 14 a=Tj a):Hr C:=fun a0 a1=>(h _).trans (aL _ QZ (a0,a1))
theorem Si {C:Nat->List A->Option A} (h:∀ a,C 15 a=Tk a):Hs C:=fun a0 a1=>(h _).trans (aL _ Q0 (a0,a1))
theorem Sj {C:Nat->List A->Option A} (h:∀ a,C 16 a=Tl a):Ht C:=fun a0 a1=>(h _).trans (aL _ Q1 (a0,a1))
theorem Sk {C:Nat->List A->Option A} (h:∀ a,C 17 a=Tm a):Hu C:=fun a0 a1=>(h _).trans (aL _ Q2 (a0,a1))
theorem Xt {C:Nat->List A->Option A} (h:∀ a,C 5 a=o5 a):K5 C:=fun _=>(h _).trans (aL _ Xk ())
theorem Xu {C:Nat->List A->Option A} (h:∀ a,C 6 a=o6 a):K6 C:=fun a0=>(h _).trans (aL _ Xl a0)
theorem Xp (args:List A) (r:A) (h:o4 args=some r):eQ prog (cx C0).glob 4 args r:=by
 obtain ⟨x,y,rfl,hy,rfl⟩:=dR h
 exact zy (f:=fun (y:Bool)=>(bA y)) (cx:=cx P2) (fun k args r _ h=>GR k args r h) r7 (T4 P2 aE (Sf fun _=>r7) (MV fun _=>r7) (Sg fun _=>r7) (Sh fun _=>r7) (Si fun _=>r7) (Sj fun _=>r7) (Sk fun _=>r7) (Xt fun _=>r7) (Xu fun _=>r7) x.1 x.2) hy
end
section
open Go.RowKit Go.ChangeShapes Go.WideShapes Go.ChangeAt Go.Deep
theorem I4 {args:Array Value} (h:args.size=2):∃ a0 a1,args=#[a0,a1]:=by
 match args,h with | ⟨[a0,a1]⟩,_=>exact⟨a0,a1,rfl⟩
mutual
def cP:au->Prop
 | .mk Kind N S L=>(jh Kind/\jh N/\(S.size<=mI)/\L.length<=mI)/\fN L
def fN:List au->Prop
 | []=>True
 | x :: r=>cP x/\fN r
end
theorem mf:∀ (l:List au),fN l↔∀ z∈l,cP z
 | []=>by rw[fN]; simp
 | x :: r=>by rw[fN,mf r]; simp
theorem fM (x:au):cP x↔jh x.Kind/\jh x.N/\(x.S.size<=mI)/\(x.L.length<=mI/\∀ z∈x.L,cP z):=by
 cases x
 rw[cP,mf]
 simp only[and_assoc]
def qz (x:aA):Prop:=jh x.From/\jh x.To/\(x.Data.length<=mI)
def xV (x:aD):Prop:=(x.Queue.length<=mI/\∀ z∈x.Queue,qz z)/\(x.Apart.length<=mI/\∀ z∈x.Apart,(jh z.1/\jh z.2))
def xR (x:aR):Prop:=jh x.No/\jh x.Role/\jh x.Bar/\jh x.Program
def xU (x:bj):Prop:=(x.Cues.length<=mI/\∀ z∈x.Cues,xR z)/\(x.Got.length<=mI/\∀ z∈x.Got,jh z)/\(x.Did.length<=mI/\∀ z∈x.Did,jh z)
def sF (x:aw):Prop:=xV x.Net/\(x.Ears.length<=mI/\∀ z∈x.Ears,xU z)/\jh x.Bar
theorem MK:qE Tryz.prog 99 aq (fun x=>(jh x.1/\jh x.2)):=qE.of (wi (n:=2) (e:=3) r7 r7 (kE r7)) fun l h=>by
 obtain ⟨_,_,rfl,⟨x0,rfl,h0⟩,_,_,rfl,⟨x1,rfl,h1⟩,rfl⟩:=h
 exact⟨(x0,x1),by simp[cI,cB,cS,cL,ax,ak,aq,bP,ay,az,al,aB,av,bn,cF,aH],h0,h1⟩
theorem MJ:qE Tryz.prog 68 ak qz:=qE.of (gv (fs:=#[Field.mk "From" 3 0 false "" "" 0,Field.mk "To" 3 1 false "" "" 8,Field.mk "Data" 66 2 false "" "" 16]) (Ts:=[_,_,_]) r7 r7 ⟨(kE r7),(kE r7),(BI (e:=5) (es:=1) (c:=c8) r7 r7 (by decide) (fun _=>rfl) (ML r7)),trivial⟩) fun l h=>by
 obtain ⟨_,_,rfl,⟨x0,rfl,h0⟩,_,_,rfl,⟨x1,rfl,h1⟩,_,_,rfl,⟨x2,rfl,h2⟩,rfl⟩:=h
 exact⟨⟨x0,x1,x2⟩,by simp[ak,cI,cB,cS,cL,ax,ak,aq,bP,ay,az,al,aB,av,bn,cF,aH],h0,h1,h2⟩
theorem MF:qE Tryz.prog 25 bP xV:=qE.of (gv (fs:=#[Field.mk "Queue" 22 0 false "" "" 0,Field.mk "Apart" 23 1 false "" "" 24]) (Ts:=[_,_]) r7 r7 ⟨(jV (e:=68) (es:=3) (c:=ak) r7 r7 (by decide) (fun _=>rfl) MJ),(jV (e:=99) (es:=2) (c:=aq) r7 r7 (by decide) (fun _=>rfl) MK),trivial⟩) fun l h=>by
 obtain ⟨_,_,rfl,⟨x0,rfl,h0⟩,_,_,rfl,⟨x1,rfl,h1⟩,rfl⟩:=h
 exact⟨⟨x0,x1⟩,by simp[bP,cI,cB,cS,cL,ax,ak,aq,bP,ay,az,al,aB,av,bn,cF,aH],h0,h1⟩
theorem MH:qE Tryz.prog 46 ay xR:=qE.of (gv (fs:=#[Field.mk "No" 3 0 false "" "" 0,Field.mk "Role" 3 1 false "" "" 8,Field.mk "Bar" 3 2 false "" "" 16,Field.mk "Program" 3 3 false "" "" 24]) (Ts:=[_,_,_,_]) r7 r7 ⟨(kE r7),(kE r7),(kE r7),(kE r7),trivial⟩) fun l h=>by
 obtain ⟨_,_,rfl,⟨x0,rfl,h0⟩,_,_,rfl,⟨x1,rfl,h1⟩,_,_,rfl,⟨x2,rfl,h2⟩,_,_,rfl,⟨x3,rfl,h3⟩,rfl⟩:=h
 exact⟨⟨x0,x1,x2,x3⟩,by simp[ay,cI,cB,cS,cL,ax,ak,aq,bP,ay,az,al,aB,av,bn,cF,aH],h0,h1,h2,h3⟩
theorem MI:qE Tryz.prog 50 az xU:=qE.of (gv (fs:=#[Field.mk "Cues" 48 0 false "" "" 0,Field.mk "Got" 29 1 false "" "" 24,Field.mk "Did" 29 2 false "" "" 48]) (Ts:=[_,_,_]) r7 r7 ⟨(jV (e:=46) (es:=4) (c:=ay) r7 r7 (by decide) (fun _=>rfl) MH),(jV (e:=3) (es:=1) (c:=(cI .i64)) r7 r7 (by decide) (fun _=>rfl) (kE r7)),(jV (e:=3) (es:=1) (c:=(cI .i64)) r7 r7 (by decide) (fun _=>rfl) (kE r7)),trivial⟩) fun l h=>by
 obtain ⟨_,_,rfl,⟨x0,rfl,h0⟩,_,_,rfl,⟨x1,rfl,h1⟩,_,_,rfl,⟨x2,rfl,h2⟩,rfl⟩:=h
 exact⟨⟨x0,x1,x2⟩,by simp[az,cI,cB,cS,cL,ax,ak,aq,bP,ay,az,al,aB,av,bn,cF,aH],h0,h1,h2⟩
theorem MG:qE Tryz.prog 28 al sF:=qE.of (gv (fs:=#[Field.mk "Net" 25 0 false "" "" 0,Field.mk "Ears" 26 2 false "" "" 48,Field.mk "Bar" 3 3 false "" "" 72]) (Ts:=[_,_,_]) r7 r7 ⟨MF,(jV (e:=50) (es:=3) (c:=az) r7 r7 (by decide) (fun _=>rfl) MI),(kE r7),trivial⟩) fun l h=>by
 obtain ⟨_,_,rfl,⟨x0,rfl,h0⟩,_,_,rfl,⟨x1,rfl,h1⟩,_,_,rfl,⟨x2,rfl,h2⟩,rfl⟩:=h
 exact⟨⟨x0,x1,x2⟩,by simp[al,cI,cB,cS,cL,ax,ak,aq,bP,ay,az,al,aB,av,bn,cF,aH],h0,h1,h2⟩
def HQ:Prop:=∀ (a0:aw) (a1:Int),sF a0->jh a1->G4 a0 a1=some true
theorem Nw (hp:HQ) (W:World) (base:Nat) (args:Array Value) {H:Type} {enc:TypeId×Value->H} (hg:qZ enc Tryz.prog W base Tryz.f4.params args) (hl:∀ (G:Nat) (vs:List Value),(cx C0).glob G=some vs->∀ (j:Nat) (v:Value),vs[j]? = some v->W.cell? ⟨G,j,none⟩=some v) :
  Calls Tryz.prog 4 args W fun e W'=>e=.returned (.bool true)/\Below W.heap.size W W':=by
 obtain ⟨v0,v1,rfl⟩:=I4 hg.1
 obtain ⟨a0,b0,w0⟩:=Bz hg 0 rfl rfl (fs:=#[Field.mk "Net" 25 0 false "" "" 0,Field.mk "Ears" 26 2 false "" "" 48,Field.mk "Bar" 3 3 false "" "" 72]) r7 MG
 obtain ⟨a1,b1,w1⟩:=Jp hg 1 rfl rfl r7
 refine Ju (glob:=(cx C0).glob) (Xp _ _ ((aL _ Xj (a0,a1)).trans (by simp only[hp a0 a1 b0 b1]; rfl))) hl ?_
 exact wN w0 (wN w1 u3)
end
@[simp] theorem or_some (a b:Bool):(bif a then some true else some b)=some (a || b):=by cases a<;>rfl
@[simp] theorem Ld (a b:Bool):(bif a then some b else some false)=some (a&&b):=by cases a<;>rfl
theorem dn {n:Int} (h:-9223372036854775808<=n) (h':n<=9223372036854775807):wr .i64 n=n:=by
 simp only[wr,IntKind.wrap,IntKind.bits,IntKind.signed]
 simp
 omega
theorem br {T:Type} (l:List T) (i:Nat):bL l (i:Int)=l[i]?:=by simp[bL]
theorem fu:aE=1208925819614629174706176:=rfl
mutual
def nT:au->Nat
 | .mk _ _ s l=>1+s.size / 200+nJ l
def nJ:List au->Nat
 | []=>0
 | x :: r=>nT x+nJ r
end
theorem ff (v:au):nT v=1+v.S.size / 200+nJ v.L:=by cases v; rw[nT]
theorem nD (v:au):1<=nT v:=by rw[ff]; omega
theorem pD:nJ []=0:=by rw[nJ]
theorem lF (x:au) (r:List au):nJ (x :: r)=nT x+nJ r:=by rw[nJ]
theorem eY:∀ l:List au,l.length<=nJ l
 | []=>Ya _
 | x :: r=>by rw[lF,X8]; have:=eY r; have:=nD x; omega
theorem jT:∀ {l:List au} {x:au},x∈l->nT x<=nJ l
 | y :: r,x,h=>by
  rw[lF]
  rcases YC.1 h with rfl | h
  ·omega
  ·have:=jT h; omega
def emp (s:ByteArray):Bool:=jf s (ByteArray.mk #[])
mutual
def wo:au->Bool
 | .mk k n s l=>bif k==1 then emp s&&((l.length:Int)==0) else bif k==2 then (n==0)&&((l.length:Int)==0) else bif k==3 then mH l&&((n==0)&&emp s) else false
def mH:List au->Bool
 | []=>true
 | x :: r=>wo x&&mH r
end
mutual
def dep:au->Nat
 | .mk k _ _ l=>bif k==3 then n5 l+1 else 0
def n5:List au->Nat
 | []=>0
 | x :: r=>max (dep x) (n5 r)
end
theorem p7 (v:au):wo v=bif v.Kind==1 then emp v.S&&((v.L.length:Int)==0) else bif v.Kind==2 then (v.N==0)&&((v.L.length:Int)==0) else bif v.Kind==3 then mH v.L&&((v.N==0)&&emp v.S) else false:=by cases v; rw[wo]
theorem rD (v:au):dep v=bif v.Kind==3 then n5 v.L+1 else 0:=by cases v; rw[dep]
theorem rW:mH []=true:=by rw[mH]
theorem nz (x:au) (r:List au):mH (x :: r)=(wo x&&mH r):=by rw[mH]
theorem pg:n5 []=0:=by rw[n5]
theorem ny (x:au) (r:List au):n5 (x :: r)=max (dep x) (n5 r):=by rw[n5]
mutual
theorem Fh:∀ v:au,dep v<=nT v
 | .mk k n s l=>by
  rw[dep,nT]
  have:=ph l
  cases k==3<;>simp<;>omega
theorem ph:∀ l:List au,n5 l<=nJ l
 | []=>by rw[pg]; omega
 | x :: r=>by
  rw[ny,lF]
  have:=Fh x; have:=ph r; omega
end
theorem DR (self:au->Option Int) (n:Nat) (z:Int) (v:au) (hn:nT v<=1100000) (hself:∀ e∈v.L,self e=some (dep e:Int)) :
  ∀ (k m i d:Nat),i+k=v.L.length->k<m->gD self n v m (d:Int) (i:Int)=some ((max d (n5 (v.L.drop i)):Nat):Int)
 | 0,m,i,d,h1,h2=>by
  obtain ⟨m,rfl⟩:∃ q,m=q+1:=⟨m - 1,o3⟩
  rw[gD,XZ o3,Yd.2 o3,pg]
  simp
 | k+1,m,i,d,h1,h2=>by
  obtain ⟨m,rfl⟩:∃ q,m=q+1:=⟨m - 1,o3⟩
  have hi:i<v.L.length:=o3
  have hl:=eY v.L
  rw[ff] at hn
  rw[gD,XT o3,X1 hi,ny]
  simp only[XR,br,XN hi,XM,hself _ (Ys hi)]
  rw[dn o3 o3,show (i:Int)+1=((i+1:Nat):Int) by omega,show (if (d:Int)<(dep v.L[i]:Int) then (dep v.L[i]:Int) else (d:Int))=((max d (dep v.L[i]):Nat):Int) by split<;>omega]
  rw[DR self n z v (by rw[ff]; exact hn) hself k m (i+1) _ o3 o3]
  congr 2
  omega
theorem BW:∀ (q:Nat) (v:au),nT v<=q->nT v<=1100000->wG q v=some (dep v:Int)
 | 0,v,h,_=>by have:=nD v; omega
 | q+1,v,h,hn=>by
  show B5 (wG q) aE v=_
  unfold B5
  rw[rD]
  cases hk:v.Kind==3 with
  | false=>rw[show (v.Kind != 3)=true by rw[bne,hk]; rfl]; rfl
  | true=>
   rw[show (v.Kind != 3)=false by rw[bne,hk]; rfl]
   have hl:=eY v.L
   have hn':=hn
   rw[ff] at hn' h
   have:=DR (wG q) aE 0 v hn (fun e he=>by
    have:=jT he
    exact BW q e o3 o3) v.L.length (aE+8) 0 0 o3 s5
   rw[show ((0:Nat):Int)=0 from rfl] at this
   simp only[XO,this,XM,Yn,XR]
   have hd:=ph v.L
   rw[dn o3 o3]
   first | done | (congr 1; try omega)
theorem DQ (self:au->Option Bool) (n:Nat) (z:Bool) (v:au) (hn:nT v<=1100000) (hself:∀ e∈v.L,self e=some (wo e)) :
  ∀ (k m i:Nat),i+k=v.L.length->k<m->gC self n v m (i:Int)=some (bif mH (v.L.drop i) then .inr () else .inl false)
 | 0,m,i,h1,h2=>by
  obtain ⟨m,rfl⟩:∃ q,m=q+1:=⟨m - 1,o3⟩
  rw[gC,XZ o3,Yd.2 o3,rW]
  rfl
 | k+1,m,i,h1,h2=>by
  obtain ⟨m,rfl⟩:∃ q,m=q+1:=⟨m - 1,o3⟩
  have hi:i<v.L.length:=o3
  have hl:=eY v.L
  rw[ff] at hn
  rw[gC,XT o3,X1 hi,nz]
  simp only[XR,br,XN hi,XM,hself _ (Ys hi)]
  cases wo v.L[i] with
  | false=>rfl
  | true=>
   rw[dn o3 o3,show (i:Int)+1=((i+1:Nat):Int) by omega]
   exact DQ self n z v (by rw[ff]; exact hn) hself k m (i+1) o3 o3
theorem ME:∀ (q:Nat) (v:au),nT v<=q->nT v<=1100000->wF q v=some (wo v)
 | 0,v,h,_=>by have:=nD v; omega
 | q+1,v,h,hn=>by
  show B4 (wF q) aE v=_
  unfold B4
  rw[p7]
  cases hk1:v.Kind==1 with
  | true=>simp only[XR]; show Option.bind (bif emp v.S then _ else _) _=_; cases emp v.S<;>rfl
  | false=>
   cases hk2:v.Kind==2 with
   | true=>simp only[XR,XO]; cases v.N==0<;>rfl
   | false=>
    cases hk3:v.Kind==3 with
    | false=>rfl
    | true=>
     have hl:=eY v.L
     have hn':=hn
     rw[ff] at hn' h
     have:=DQ (wF q) aE false v hn (fun e he=>by
      have:=jT he
      exact ME q e o3 o3) v.L.length (aE+8) 0 o3 s5
     rw[show ((0:Nat):Int)=0 from rfl] at this
     simp only[XO,XR,this,XM,Yn]
     cases mH v.L with
     | false=>rfl
     | true=>show Option.bind (bif v.N==0 then some (emp v.S) else _) _=_; cases v.N==0<;>rfl
def lU (v:au):Int:=bif wo v then (bif decide (16<dep v) then 2 else 0) else 1
theorem W9 (v:au) (hn:nT v<=1100000):B7 v=some (lU v):=by
 unfold B7 EZ E5 E6
 rw[ME _ v s5 hn,BW _ v s5 hn]
 simp only[XM]
 unfold lU
 cases wo v with
 | false=>rfl
 | true=>
  simp only[X7,XO,XR]
  by_cases h:16<dep v
  ·rw[XT h,XT o3]; rfl
  ·rw[XZ h,XZ o3]; rfl
theorem DP (self:au->Option (Int×Bool)) (n:Nat) (z:Bool) (v:au) (w a b c d:Bool) (hn:nT v<=1100000) (hself:∀ e∈v.L,∃ x,self e=some (x,wo e)/\(wo e=true->x=(dep e:Int))) :
  ∀ (k m i t:Nat),i+k=v.L.length->k<m->∃ r,gB self n z v.L (v.L.length:Int) v w a b c m (t:Int) (i:Int)=some r/\(match r with | .inl p=>mH (v.L.drop i)=false/\p.1=0/\p.2=false | .inr x=>mH (v.L.drop i)=true/\x=((max t (n5 (v.L.drop i)):Nat):Int))
 | 0,m,i,t,h1,h2=>by
  obtain ⟨m,rfl⟩:∃ q,m=q+1:=⟨m - 1,o3⟩
  rw[gB,XZ o3,Yd.2 o3,rW,pg]
  exact⟨_,rfl,rfl,r8⟩
 | k+1,m,i,t,h1,h2=>by
  obtain ⟨m,rfl⟩:∃ q,m=q+1:=⟨m - 1,o3⟩
  have hi:i<v.L.length:=o3
  have hl:=eY v.L
  rw[ff] at hn
  obtain ⟨x,h3,h4⟩:=hself _ (Ys hi)
  rw[gB,XT o3,X1 hi,nz,ny]
  simp only[XR,br,XN hi,XM,h3]
  cases hf:wo v.L[i] with
  | false=>exact⟨_,rfl,rfl,rfl,rfl⟩
  | true=>
   rw[h4 hf]
   simp only[X7,XO,Yi]
   rw[dn o3 o3,show (i:Int)+1=((i+1:Nat):Int) by omega,show (if (t:Int)<(dep v.L[i]:Int) then (dep v.L[i]:Int) else (t:Int))=((max t (dep v.L[i]):Nat):Int) by split<;>omega]
   have:=DP self n z v w a b c d (by rw[ff]; exact hn) hself k m (i+1) (max t (dep v.L[i])) o3 o3
   rw[show max t (max (dep v.L[i]) (n5 (v.L.drop (i+1))))=max (max t (dep v.L[i])) (n5 (v.L.drop (i+1))) by omega]
   exact this
theorem JX:∀ (q:Nat) (v:au),nT v<=q->nT v<=1100000->∃ x,wE q v=some (x,wo v)/\(wo v=true->x=(dep v:Int))
 | 0,v,h,_=>by have:=nD v; omega
 | q+1,v,h,hn=>by
  have hl:=eY v.L
  have hn':=hn
  rw[ff] at hn' h
  obtain ⟨r,h1,h2⟩:=DP (wE q) aE false v false (emp v.S&&((v.L.length:Int)==0)) ((v.N==0)&&((v.L.length:Int)==0)) ((v.N==0)&&emp v.S) false hn (fun e he=>by
   have:=jT he
   exact JX q e o3 o3) v.L.length (aE+8) 0 0 o3 s5
  rw[show ((0:Nat):Int)=0 from rfl] at h1
  rw[Yn] at h2
  show ∃ x,B1 (wE q) aE v=_/\_
  unfold B1
  rw[show (bif jf v.S (ByteArray.mk #[]) then some ((v.L.length:Int)==0) else some false)=some (emp v.S&&((v.L.length:Int)==0)) from by unfold emp; cases jf v.S (ByteArray.mk #[])<;>rfl,
   show (bif v.N==0 then some ((v.L.length:Int)==0) else some false)=some ((v.N==0)&&((v.L.length:Int)==0)) from by cases v.N==0<;>rfl,
   show (bif v.N==0 then some (jf v.S (ByteArray.mk #[])) else some false)=some ((v.N==0)&&emp v.S) from by unfold emp; cases v.N==0<;>rfl]
  simp only[XM]
  rw[p7,rD]
  by_cases k1:v.Kind<1
  ·rw[XT k1]
   refine⟨0,?_,?_⟩
   ·rw[show (v.Kind==1)=false from r9,show (v.Kind==2)=false from r9,show (v.Kind==3)=false from r9]; rfl
   ·rw[show (v.Kind==1)=false from r9,show (v.Kind==2)=false from r9,show (v.Kind==3)=false from r9]; intro h; cases h
  by_cases k2:3<v.Kind
  ·rw[XZ k1,XT k2]
   refine⟨0,?_,?_⟩
   ·rw[show (v.Kind==1)=false from r9,show (v.Kind==2)=false from r9,show (v.Kind==3)=false from r9]; rfl
   ·rw[show (v.Kind==1)=false from r9,show (v.Kind==2)=false from r9,show (v.Kind==3)=false from r9]; intro h; cases h
  rw[XZ k1,XZ k2]
  simp only[XO,XR,XM]
  rcases (show v.Kind=1∨v.Kind=2∨v.Kind=3 by omega) with hk | hk | hk
  ·rw[hk]
   simp only[show decide ((1:Int)=0)=false from rfl,show decide ((1:Int)=1)=true from rfl,show decide ((1:Int)<3)=true from rfl,show ((1:Int)==1)=true from rfl,show ((1:Int)==3)=false from rfl,XO,XR,XM]
   cases emp v.S&&((v.L.length:Int)==0) with
   | false=>exact⟨0,rfl,fun h=>by cases h⟩
   | true=>exact⟨0,rfl,fun _=>rfl⟩
  ·rw[hk]
   simp only[show decide ((2:Int)=0)=false from rfl,show decide ((2:Int)=1)=false from rfl,show decide ((2:Int)=2)=true from rfl,show decide ((2:Int)<3)=true from rfl,show ((2:Int)==1)=false from rfl,show ((2:Int)==2)=true from rfl,show ((2:Int)==3)=false from rfl,XO,XR,XM]
   cases (v.N==0)&&((v.L.length:Int)==0) with
   | false=>exact⟨0,rfl,fun h=>by cases h⟩
   | true=>exact⟨0,rfl,fun _=>rfl⟩
  ·rw[hk]
   simp only[show decide ((3:Int)=0)=false from rfl,show decide ((3:Int)=1)=false from rfl,show decide ((3:Int)=2)=false from rfl,show decide ((3:Int)=3)=true from rfl,show decide ((3:Int)<3)=false from rfl,show ((3:Int)==1)=false from rfl,show ((3:Int)==2)=false from rfl,show ((3:Int)==3)=true from rfl,XO,XR,XM]
   cases hc:(v.N==0)&&emp v.S with
   | false=>exact⟨0,r8,fun h=>by simp at h⟩
   | true=>
    rw[hc] at h1
    simp only[X7,XO,h1,XM]
    cases r with
    | inl p=>
     obtain ⟨h3,h4,h5⟩:=h2
     obtain ⟨p1,p2⟩:=p
     refine⟨0,?_,fun h=>?_⟩
     ·rw[h3]; simp only at h4 h5; subst h4; subst h5; rfl
     ·rw[h3] at h; cases h
    | inr x=>
     obtain ⟨h3,h4⟩:=h2
     have hd:=ph v.L
     refine⟨_,by rw[h3]; rfl,fun _=>?_⟩
     rw[h4,dn o3 o3]
     omega
theorem zj:dF=140737488355328:=r7
theorem dB {T:Type} (b:Nat) (l l2:List T) (h:(l.length+l2.length)*b<=dF):cz b l l2=some (l++l2):=by unfold cz; rw[XT h]; rfl
theorem qH (l l2:List UInt8) (h:l.length+l2.length<=140737488355328):cz 1 l l2=some (l++l2):=dB _ _ _ (by rw[zj]; omega)
def num (n:Nat):List UInt8:=if h:n<128 then [UInt8.ofNat n] else UInt8.ofNat (n % 128+128) :: num (n / 128)
termination_by n
decreasing_by omega
theorem oD {n:Nat} (h:n<128):num n=[UInt8.ofNat n]:=by rw[num]; exact dif_pos h
theorem vY {n:Nat} (h:¬ n<128):num n=UInt8.ofNat (n % 128+128) :: num (n / 128):=by rw[num]; exact dif_neg h
theorem AJ:∀ (k n:Nat),n<128 ^ k->(num n).length<=max k 1
 | 0,n,h=>by rw[oD (by simpa using X5 h (by decide))]; simp
 | k+1,n,h=>by
  by_cases h1:n<128
  ·rw[oD h1]; simp
  ·rw[vY h1,X8]
   have hk:0<k:=by
    rcases Z0 k with rfl | hk
    ·simp at h; omega
    ·exact hk
   have:=AJ k (n / 128) (by rw[qaa (by decide)]; rw[qbA] at h; exact h)
   omega
theorem oB {n:Nat} (h:n<18446744073709551616):(num n).length<=10:=AJ 10 n (X5 h (by decide))
theorem Kc (n:Nat):wr .u8 (n:Int)=((n % 256:Nat):Int):=by
 unfold wr IntKind.wrap
 simp[IntKind.bits,IntKind.signed]
theorem My:∀ c:Fin 256,mJ .u8 (c.val:Int) 128=((c.val % 128+128:Nat):Int):=by decide +kernel
theorem JM (n:Nat):mJ .u8 (wr .u8 (n:Int)) 128=((n % 128+128:Nat):Int):=by
 rw[Kc]
 have:=My ⟨n % 256,qac _ (by decide)⟩
 rw[this]
 simp only
 congr 2
 omega
theorem SZ (n:Nat):jB .u64 (n:Int) 7=((n / 128:Nat):Int):=by
 unfold jB
 show Int.fdiv (n:Int) (2 ^ 7)=_
 rw[ZP _ (by decide)]
 rfl
theorem qV (G:Nat->Int->List UInt8->Option (Int×List UInt8)) (hG:∀ m v l,G (m+1) v l=bif decide (128<=v) then (bif (decide (0<=(mJ .u8 (wr .u8 (v)) 128))&&decide ((mJ .u8 (wr .u8 (v)) 128)<256)) then (Option.bind (cz 1 l ([(UInt8.ofNat (Int.toNat (mJ .u8 (wr .u8 (v)) 128)))])) fun y=>G m (jB .u64 v 7) y) else none) else some (v,l)) :
  ∀ (k m n:Nat) (l:List UInt8),n<128 ^ k->k<=11->k<m->l.length+k<=140737488355328->∃ (y:Nat) (ini:List UInt8),y<128/\G m (n:Int) l=some ((y:Int),l++ini)/\num n=ini++[UInt8.ofNat y]
 | 0,m,n,l,h,_,hm,hl=>by
  obtain ⟨m,rfl⟩:∃ q,m=q+1:=⟨m - 1,o3⟩
  have h:n<1:=h
  exact⟨n,[],o3,by rw[hG,XZ o3,YN]; rfl,by rw[oD o3]; rfl⟩
 | k+1,m,n,l,h,hk,hm,hl=>by
  obtain ⟨m,rfl⟩:∃ q,m=q+1:=⟨m - 1,o3⟩
  by_cases h1:n<128
  ·exact⟨n,[],h1,by rw[hG,XZ o3,YN]; rfl,by rw[oD h1]; rfl⟩
  ·have hq:n / 128<128 ^ k:=by rw[qaa (by decide)]; rw[qbA] at h; exact h
   rw[hG,XT o3,JM,XT o3,XT o3,SZ,Y9]
   simp only[XR,Zq]
   rw[qH _ _ r9,XM]
   obtain ⟨y,ini,h2,h3,h4⟩:=qV G hG k m (n / 128) (l++[UInt8.ofNat (n % 128+128)]) hq o3 o3 r9
   exact⟨y,UInt8.ofNat (n % 128+128) :: ini,h2,by rw[h3,Yx]; rfl,by rw[vY h1,h4]; rfl⟩
theorem S2 {y:Nat} (h:y<128):wr .u8 (y:Int)=(y:Int):=by rw[Kc,qaf o3]
theorem BH:∀ (k q n:Nat),n<128 ^ k->k<=11->k<q->n<18446744073709551616->wH q (n:Int)=some (num n)
 | 0,q,n,h,_,hq,hn=>by
  obtain ⟨q,rfl⟩:∃ p,q=p+1:=⟨q - 1,o3⟩
  have h:n<1:=h
  show yt (wH q) aE _=_
  unfold yt
  rw[XT o3,S2 o3,XT o3,XT o3,oD o3]
  rfl
 | k+1,q,n,h,hk,hq,hn=>by
  obtain ⟨q,rfl⟩:∃ p,q=p+1:=⟨q - 1,o3⟩
  show yt (wH q) aE _=_
  unfold yt
  by_cases h1:n<128
  ·rw[XT o3,S2 h1,XT o3,XT o3,oD h1]
   rfl
  ·have hk0:0<k:=by
    rcases Z0 k with rfl | hk
    ·simp at h; omega
    ·exact hk
   have hq2:n / 128<128 ^ k:=by rw[qaa (by decide)]; rw[qbA] at h; exact h
   have e1:Int.tmod (n:Int) 128=((n % 128:Nat):Int):=rfl
   have e2:Int.tdiv (n:Int) 128=((n / 128:Nat):Int):=rfl
   have wu:∀ z:Nat,z<18446744073709551616->wr .u64 (z:Int)=(z:Int):=fun z hz=>by
    unfold wr IntKind.wrap
    simp[IntKind.bits,IntKind.signed]
    omega
   rw[XZ o3]
   simp only[XO]
   rw[e1,e2,show ((n % 128:Nat):Int)+128=((n % 128+128:Nat):Int) by omega,wu _ o3,wu _ o3,Kc (n % 128+128),qaf (show n % 128+128<256 by omega),XT o3,XT o3,Y9]
   simp only[XR,XO,Zq]
   rw[BH k q (n / 128) hq2 o3 o3 o3,XM,qH _ _ (by have:=oB (n:=n / 128) o3; simp; omega),vY h1]
   rfl
theorem QT (n:Nat) (h:n<18446744073709551616):A5 (n:Int)=some (num n):=BH 10 aE n (X5 h (by decide)) o3 s5 h
def A3 (n:Int):Nat:=if 0<=n then (2*n).toNat else (-2*n - 1).toNat
theorem zL (z:Int):wr .u64 z=z % 18446744073709551616:=by
 unfold wr IntKind.wrap
 simp[IntKind.bits,IntKind.signed]
theorem wm {n:Int} (h:jh n):A3 n<18446744073709551616:=by
 obtain ⟨h1,h2⟩:=h
 unfold A3; split<;>omega
theorem Xe (n:Int) (h:jh n):B9 n=some (A3 n:Int):=by
 obtain ⟨h1,h2⟩:=h
 unfold B9 E3 A3
 by_cases h0:0<=n
 ·rw[XT h0,XX h0]
  simp only[XR,zL]
  congr 1; omega
 ·rw[XZ h0,XW h0,dn (n:=n+1) o3 o3,dn (n:=0 - (n+1)) o3 o3]
  simp only[XO,zL]
  congr 1; omega
theorem xor_zero (a:Int) (h:0<=a) (h':a<18446744073709551616):qN .u64 a 0=a:=by
 unfold qN
 show IntKind.wrap .u64 ((BitVec.ofInt 64 a ^^^ BitVec.ofInt 64 0).toNat:Int)=a
 rw[show BitVec.ofInt 64 0=0#64 from rfl,BitVec.xor_zero]
 have:=zL ((BitVec.ofInt 64 a).toNat:Int)
 unfold wr at this
 rw[this,ZC]
 omega
theorem EO (a:Int) (h:0<=a) (h':a<18446744073709551616):qN .u64 a 18446744073709551615=18446744073709551615 - a:=by
 unfold qN
 show IntKind.wrap .u64 ((BitVec.ofInt 64 a ^^^ BitVec.ofInt 64 18446744073709551615).toNat:Int)=_
 rw[show BitVec.ofInt 64 18446744073709551615=BitVec.allOnes 64 from rfl,BitVec.xor_allOnes,BitVec.toNat_not]
 have:=zL (((2 ^ 64 - 1 - (BitVec.ofInt 64 a).toNat:Nat)):Int)
 unfold wr at this
 rw[this,ZC]
 omega
theorem Xd (n:Int) (h:jh n):yv n=some (A3 n:Int):=by
 obtain ⟨h1,h2⟩:=h
 unfold yv E1
 have e1:oK .u64 (wr .u64 n) 1=(2*n) % 18446744073709551616:=by
  unfold oK
  have:=zL (wr .u64 n*2 ^ 1)
  unfold wr at this ⊢
  show IntKind.wrap .u64 (IntKind.wrap .u64 n*2 ^ 1)=_
  rw[this]
  have h4:=zL n
  unfold wr at h4
  rw[h4]; omega
 have e2:jB .i64 n 63=n / 9223372036854775808:=by
  unfold jB
  show Int.fdiv n (2 ^ 63)=_
  rw[ZP _ (by decide)]
  rfl
 rw[e1,e2]
 congr 1
 unfold A3
 by_cases h0:0<=n
 ·rw[XX h0,show n / 9223372036854775808=0 by omega,show wr .u64 0=0 from rfl,xor_zero _ o3 o3]; omega
 ·rw[XW h0,show n / 9223372036854775808=-1 by omega,show wr .u64 (-1)=18446744073709551615 from rfl,EO _ o3 o3]; omega
mutual
def mV:au->List UInt8
 | .mk k n s l=>bif k==1 then 1 :: num (A3 n) else bif k==2 then 2 :: (num s.size++ln s) else 3 :: (num l.length++lX l)
def lX:List au->List UInt8
 | []=>[]
 | x :: r=>mV x++lX r
end
theorem fU (v:au):mV v=bif v.Kind==1 then 1 :: num (A3 v.N) else bif v.Kind==2 then 2 :: (num v.S.size++ln v.S) else 3 :: (num v.L.length++lX v.L):=by cases v; rw[mV]
theorem pj:lX []=[]:=by rw[lX]
theorem iz (x:au) (r:List au):lX (x :: r)=mV x++lX r:=by rw[lX]
theorem lq (s:ByteArray):(ln s).length=s.size:=rfl
mutual
theorem Fl:∀ (v:au),cP v->nT v<=1100000->(mV v).length<=420*nT v
 | .mk k n s l,h,hn=>by
  rw[cP] at h
  obtain ⟨⟨_,h2,_,_⟩,h5⟩:=h
  rw[nT] at hn
  have h1:=rF l h5 o3
  have h3:=eY l
  rw[mV,nT]
  have l1:=oB (n:=A3 n) (wm h2)
  have l2:=oB (n:=s.size) o3
  have l3:=oB (n:=l.length) o3
  cases k==1 with
  | true=>simp only[XR,X8]; omega
  | false=>
   cases k==2 with
   | true=>simp only[XR,XO,X8,X9,lq]; omega
   | false=>simp only[XO,X8,X9]; omega
theorem rF:∀ (l:List au),fN l->nJ l<=1100000->(lX l).length<=420*nJ l
 | [],_,_=>by rw[pj,pD]; simp
 | x :: r,h,hn=>by
  rw[fN] at h
  rw[lF] at hn ⊢
  have h1:=Fl x h.1 o3
  have h2:=rF r h.2 o3
  rw[iz,X9]; omega
end
theorem yW {v:au} (h:cP v) (hn:nT v<=1100000):(lX v.L).length<=462000000:=by
 have h4:=((fM v).1 h).2.2.2.2
 rw[ff] at hn
 have:=rF v.L ((mf _).2 h4) o3; omega
theorem sU {v:au} (hn:nT v<=1100000):v.S.size<=220000000:=by rw[ff] at hn; omega
theorem DN (self:au->Option (List UInt8)) (n:Nat) (z:List UInt8) (v:au) (hv:cP v) (hn:nT v<=1100000) (hself:∀ e∈v.L,self e=some (mV e)) :
  ∀ (k m i:Nat) (l:List UInt8),i+k=v.L.length->k<m->l.length+(lX (v.L.drop i)).length<=140737488355328->gA self n v m (i:Int) l=some (l++lX (v.L.drop i))
 | 0,m,i,l,h1,h2,h3=>by
  obtain ⟨m,rfl⟩:∃ q,m=q+1:=⟨m - 1,o3⟩
  rw[gA,XZ o3,Yd.2 o3,pj,YN]
  rfl
 | k+1,m,i,l,h1,h2,h3=>by
  obtain ⟨m,rfl⟩:∃ q,m=q+1:=⟨m - 1,o3⟩
  have hi:i<v.L.length:=o3
  have hl:=eY v.L
  have hn':=hn
  rw[ff] at hn'
  rw[X1 hi,iz,X9] at h3
  rw[gA,XT o3,X1 hi,iz]
  simp only[XR,br,XN hi,XM,hself _ (Ys hi)]
  rw[qH _ _ o3,XM,dn o3 o3,show (i:Int)+1=((i+1:Nat):Int) by omega]
  rw[DN self n z v hv hn hself k m (i+1) _ o3 o3 XH,Yx]
theorem wq (n:Nat) (h:n<18446744073709551616):wr .u64 (n:Int)=(n:Int):=by rw[zL]; omega
theorem KB:∀ (q:Nat) (v:au),cP v->nT v<=q->nT v<=1100000->wD q v=some (mV v)
 | 0,v,_,h,_=>by have:=nD v; omega
 | q+1,v,hv,h,hn=>by
  obtain ⟨_,h2,_,_,h4⟩:=(fM v).1 hv
  have hs:=sU hn
  have he:=yW hv hn
  have hl:=eY v.L
  have hn':=hn
  rw[ff] at hn' h
  have l1:=oB (n:=A3 v.N) (wm h2)
  have l2:=oB (n:=v.S.size) o3
  have l3:=oB (n:=v.L.length) o3
  show BZ (wD q) aE v=_
  unfold BZ
  rw[fU]
  cases hk1:v.Kind==1 with
  | true=>
   simp only[XR,Xe _ h2,XM,QT _ (wm h2)]
   rw[qH _ _ r9]; rfl
  | false=>
   cases hk2:v.Kind==2 with
   | true=>
    simp only[XR,XO]
    rw[wq _ o3,QT _ o3,XM,qH _ _ r9,XM,qH _ _ (by simp[lq]; omega)]
    simp
   | false=>
    simp only[XO]
    rw[wq _ o3,QT _ o3,XM,qH _ _ r9,XM]
    have:=DN (wD q) aE [] v hv hn (fun e he=>by
     have:=jT he
     exact KB q e (h4 e he) o3 o3) v.L.length (aE+8) 0 ([(3:UInt8)]++num v.L.length) o3 s5 (by rw[Yn]; simp; omega)
    rw[show ((0:Nat):Int)=0 from rfl,Yn] at this
    rw[this]
    simp
theorem Xc (v:au) (hv:cP v) (hn:nT v<=1100000):E4 v=some (mV v):=KB aE v hv s5 hn
theorem rV:∀ {l:List au},mH l=true->∀ e∈l,wo e=true
 | x :: r,h,e,he=>by
  rw[nz,XQ] at h
  rcases YC.1 he with rfl | he
  ·exact h.1
  ·exact rV h.2 e he
theorem xr {v:au} (h:wo v=true):v.Kind=1∨v.Kind=2∨(v.Kind=3/\mH v.L=true):=by
 rw[p7] at h
 cases h1:v.Kind==1 with
 | true=>exact .inl (by simpa using h1)
 | false=>
  cases h2:v.Kind==2 with
  | true=>exact .inr (.inl (by simpa using h2))
  | false=>
   cases h3:v.Kind==3 with
   | true=>
    rw[h1,h2,h3] at h
    simp only[XR,XO,XQ] at h
    exact .inr (.inr ⟨by simpa using h3,h.1⟩)
   | false=>rw[h1,h2,h3] at h; cases h
theorem Jm {y:Nat} (h:y<128) {β:Type} (k:List UInt8->Option β) (l:List UInt8) (hl:l.length<=1000000000000) :
  (bif (decide (0<=(wr .u8 (y:Int)))&&decide ((wr .u8 (y:Int))<256)) then Option.bind (cz 1 l ([(UInt8.ofNat (Int.toNat (wr .u8 (y:Int))))])) k else none)=k (l++[UInt8.ofNat y]):=by
 rw[S2 h,XT o3,XT o3,qH _ _ r9,Y9]
 rfl
theorem Sd {n:Nat} (h:n<18446744073709551616):n<128 ^ 10:=X5 h (by decide)
theorem DU (self:au->au->(List UInt8)->au->Option (List UInt8)) (n:Nat) (hn:50<=n) (z:List UInt8) (b0 b3 x:au) (L:List au) (hL:nJ L<=1100000) (hf:mH L=true) (hok:∀ e∈L,cP e)
  (hself:∀ e∈L,e.Kind=3->∀ l:List UInt8,l.length+(mV e).length<=100000000000->self b0 b3 l e=some (l++mV e)) :
  ∀ (k m i:Nat) (l:List UInt8),i+k=L.length->k<m->l.length+(lX (L.drop i)).length<=100000000000->eI self n z L (L.length:Int) b0 b3 x m (i:Int) l=some (l++lX (L.drop i))
 | 0,m,i,l,h1,h2,h3=>by
  obtain ⟨m,rfl⟩:∃ q,m=q+1:=⟨m - 1,o3⟩
  rw[eI,XZ o3,Yd.2 o3,pj,YN]
  rfl
 | k+1,m,i,l,h1,h2,h3=>by
  obtain ⟨m,rfl⟩:∃ q,m=q+1:=⟨m - 1,o3⟩
  have hi:i<L.length:=o3
  have hl:=eY L
  have hme:L[i]∈L:=Ys hi
  have hne:=jT hme
  have hs:=sU (v:=L[i]) o3
  obtain ⟨_,hN,_,_,_⟩:=(fM L[i]).1 (hok _ hme)
  rw[X1 hi,iz,X9] at h3
  have ih:=DU self n hn z b0 b3 x L hL hf hok hself k m (i+1) (l++mV L[i]) o3 o3 XH
  rw[eI,XT o3,X1 hi,iz]
  simp only[XR,br,XN hi,XM]
  rw[dn o3 o3,show (i:Int)+1=((i+1:Nat):Int) by omega,<-Yx]
  have h3':=h3
  rw[fU] at h3
  generalize hE:lX (L.drop (i+1))=E at h3 h3' ih ⊢
  rcases xr (rV hf _ hme) with hk | hk | ⟨hk,_⟩
  ·rw[hk] at h3 ⊢
   simp only[show ((1:Int)==1)=true from rfl,XR,X8] at h3
   simp only[show decide ((1:Int)=0)=false from rfl,show decide ((1:Int)=1)=true from rfl,XR,XO,Xd _ hN,XM]
   rw[qH _ _ r9,XM]
   obtain ⟨y,ini,e1,e2,e3⟩:=qV (fb n) (fun _ _ _=>rfl) 10 (n+6) (A3 L[i].N) (l++[1]) (Sd (wm hN)) o3 o3 r9
   have e4:(num (A3 L[i].N)).length=ini.length+1:=by rw[e3]; simp
   try simp only at e2
   rw[e2,XM]
   try simp only
   rw[Jm e1 _ _ r9]
   rw[fU,hk] at ih
   simp only[show ((1:Int)==1)=true from rfl,XR,e3] at ih
   rw[fU,hk]
   simp only[show ((1:Int)==1)=true from rfl,XR,e3]
   rw[<-ih]
   congr 1
   simp
  ·rw[hk] at h3 ⊢
   simp only[show ((2:Int)==1)=false from rfl,show ((2:Int)==2)=true from rfl,XR,XO,X8,X9,lq] at h3
   simp only[show decide ((2:Int)=0)=false from rfl,show decide ((2:Int)=1)=false from rfl,show decide ((2:Int)=2)=true from rfl,XR,XO]
   rw[qH _ _ r9,XM,wq _ o3]
   obtain ⟨y,ini,e1,e2,e3⟩:=qV (fb n) (fun _ _ _=>rfl) 10 (n+6) L[i].S.size (l++[2]) (Sd o3) o3 o3 r9
   have e4:(num L[i].S.size).length=ini.length+1:=by rw[e3]; simp
   try simp only at e2
   rw[e2,XM]
   try simp only
   rw[Jm e1 _ _ r9,qH _ _ (by simp[lq]; omega),XM]
   rw[fU,hk] at ih
   simp only[show ((2:Int)==1)=false from rfl,show ((2:Int)==2)=true from rfl,XR,XO,e3] at ih
   rw[fU,hk]
   simp only[show ((2:Int)==1)=false from rfl,show ((2:Int)==2)=true from rfl,XR,XO,e3]
   rw[<-ih]
   congr 1
   simp
  ·rw[hk]
   simp only[show decide ((3:Int)=0)=false from rfl,show decide ((3:Int)=1)=false from rfl,show decide ((3:Int)=2)=false from rfl,show decide ((3:Int)=3)=true from rfl,XR,XO]
   rw[hself _ hme hk l o3,XM]
   exact ih
theorem Nv:∀ (q N:Nat) (b0 b3:au) (l:List UInt8) (v:au),v.Kind=3->wo v=true->cP v->nT v<=q->nT v<=1100000->q+2000000<=N->l.length+(mV v).length<=100000000000->wO N b0 b3 l v=some (l++mV v)
 | 0,N,b0,b3,l,v,_,_,_,h,_,_,_=>by have:=nD v; omega
 | q+1,N,b0,b3,l,v,hk,hf,hv,h,hn,hN,hl=>by
  obtain ⟨N,rfl⟩:∃ p,N=p+1:=⟨N - 1,o3⟩
  obtain ⟨_,h2,_,_,h4⟩:=(fM v).1 hv
  have hll:=eY v.L
  have hn':=hn
  rw[ff] at hn' h
  have hfs:mH v.L=true:=by
   rcases xr hf with h | h | h
   ·omega
   ·omega
   ·exact h.2
  show (bif Nat.ble 8 N then tQ (wO N) (N - 8) b0 b3 l v else none)=_
  rw[YU (by omega:8<=N)]
  simp only[XR]
  unfold tQ
  rw[fU,hk] at hl ⊢
  simp only[show ((3:Int)==1)=false from rfl,show ((3:Int)==2)=false from rfl,XO,X8,X9] at hl ⊢
  rw[qH _ _ r9,XM,wq _ o3]
  obtain ⟨y,ini,e1,e2,e3⟩:=qV (iR (N - 8)) (fun _ _ _=>rfl) 10 (N - 8+7) v.L.length (l++[3]) (Sd o3) o3 o3 r9
  have e4:(num v.L.length).length=ini.length+1:=by rw[e3]; simp
  try simp only at e2
  rw[e2,XM]
  try simp only
  rw[Jm e1 _ _ r9]
  have:=DU (wO N) (N - 8) o3 [] b0 b3 v v.L o3 hfs h4 (fun e he hke l' hl'=>by
   have:=jT he
   exact Nv q N b0 b3 l' e hke (rV hfs e he) (h4 e he) o3 o3 o3 hl') v.L.length (N - 8+8) 0 (l++[3]++ini++[UInt8.ofNat y]) o3 o3 (by rw[Yn]; simp; omega)
  rw[show ((0:Nat):Int)=0 from rfl,Yn] at this
  rw[this,e3]
  simp
theorem zF (s:ByteArray):jf s s=true:=by unfold jf; exact Y5 _
def jo:Nat->List UInt8->Option (Nat×List UInt8)
 | _,[]=>none
 | c,b :: r=>if (0<c/\b.toNat=0)∨(9<=c/\1<b.toNat) then none else if b.toNat<128 then some (b.toNat,r) else match jo (c+1) r with
  | some (n,t)=>some (b.toNat - 128+128*n,t)
  | none=>none
theorem pw (c:Nat):2 ^ (7*(c+1))=128*2 ^ (7*c):=by rw[qaj,qbC]; omega
theorem xC:∀ (l:List UInt8) (c n:Nat) (r:List UInt8),jo c l=some (n,r)->c<=9->l=num n++r/\(0<c->n≠0)/\2 ^ (7*c)*n<18446744073709551616
 | [],c,n,r,h,_=>by rw[jo] at h; cases h
 | b :: l,c,n,r,h,hc=>by
  have hb:=b.toNat_lt
  rw[jo] at h
  split at h
  ·cases h
  rename_i h1
  split at h
  ·rename_i h2
   cases h
   refine⟨?_,fun h3 h4=>h1 (.inl ⟨h3,h4⟩),?_⟩
   ·rw[oD h2,qaT]; rfl
   ·have:2 ^ (7*9)=9223372036854775808:=by decide
    by_cases h9:c=9
    ·subst h9; omega
    ·have h8:2 ^ (7*c)<=2 ^ 56:=qaH (by decide) o3
     have h7:2 ^ (7*c)*b.toNat<=2 ^ 56*127:=qbh h8 o3
     omega
  ·rename_i h2
   split at h
   ·rename_i m t h3
    cases h
    have h9:c≠9:=fun h=>h1 (.inr ⟨o3,o3⟩)
    obtain ⟨h4,h5,h6⟩:=xC l (c+1) m _ h3 o3
    have h5:=h5 o3
    refine⟨?_,fun _=>o3,?_⟩
    ·rw[vY o3,show (b.toNat - 128+128*m) % 128+128=b.toNat by omega,show (b.toNat - 128+128*m) / 128=m by omega,qaT,h4]
     rfl
    ·rw[pw] at h6
     have h8:2 ^ (7*c)*(b.toNat - 128)+2 ^ (7*c)*(128*m)<18446744073709551616:=by
      have e:2 ^ (7*c)*(128*m)=128*2 ^ (7*c)*m:=by rw[YZ 128 (2 ^ (7*c)),qaQ]
      rw[e]
      have hlt:b.toNat - 128<128:=o3
      have h10:2 ^ (7*c)*(b.toNat - 128)<2 ^ (7*c)*128:=Nat.mul_lt_mul_of_pos_left hlt (Nat.two_pow_pos _)
      have h11:2 ^ (7*c)*128*m<18446744073709551616:=by rw[YZ (2 ^ (7*c))]; exact h6
      have hd:18446744073709551616=2 ^ (7*c)*128*2 ^ (64 - (7*c+7)):=by
       rw[qaQ,show 128*2 ^ (64 - (7*c+7))=2 ^ (64 - 7*c) by
        rw[show 128=2 ^ 7 from rfl,<-qbC]; congr 1; omega,<-qbC,show 7*c+(64 - 7*c)=64 by omega]
      rw[hd] at h11
      have h12:m<2 ^ (64 - (7*c+7)):=Nat.lt_of_mul_lt_mul_left h11
      have h13:2 ^ (7*c)*128*(m+1)<=2 ^ (7*c)*128*2 ^ (64 - (7*c+7)):=ZJ _ h12
      rw[<-hd,qaj,Nat.mul_one] at h13
      rw[YZ 128 (2 ^ (7*c))]
      omega
     rw[qaj]; exact h8
   ·cases h
theorem hJ {l:List UInt8} {n:Nat} {r:List UInt8} (h:jo 0 l=some (n,r)):l=num n++r/\n<18446744073709551616/\r.length<l.length:=by
 obtain ⟨h1,_,h2⟩:=xC l 0 n r h o3
 refine⟨h1,o3,?_⟩
 have:num n≠[]:=by
  rw[num]; split<;>simp
 have:=List.length_pos_iff.2 this
 rw[h1,X9]; omega
theorem I3:∀ c:Fin 256,oW .u8 (c.val:Int) 127=((c.val % 128:Nat):Int):=by decide +kernel
theorem Uh {b c:Nat} (hc:c<=9) (h:c=9->b<=1) (hb:b<128):oK .u64 (wr .u64 (b:Int)) (wr .i64 (7*(c:Int)))=((2 ^ (7*c)*b:Nat):Int):=by
 rw[dn o3 o3,wq _ o3]
 unfold oK
 rw[show (7*(c:Int)).toNat=7*c by omega,show min (7*c) (IntKind.bits .u64)=7*c from Zm (by show 7*c<=64; omega)]
 have e:((b:Int)*2 ^ (7*c))=((2 ^ (7*c)*b:Nat):Int):=by rw[Z2,Int.natCast_pow,qby]; rfl
 rw[e]
 have:=wq (2 ^ (7*c)*b) (by
  have h9:2 ^ (7*9)=9223372036854775808:=by decide
  by_cases h1:c=9
  ·have:=h h1; subst h1; rcases (show b=0∨b=1 by omega) with rfl | rfl<;>omega
  ·have h8:2 ^ (7*c)<=2 ^ 56:=qaH (by decide) o3
   have:=qbh h8 (show b<=127 by omega)
   omega)
 exact this
theorem L7 {a b c:Nat} (hc:c<=9) (h:c=9->b<=1) (hb:b<128) (ha:a<2 ^ (7*c)):a+2 ^ (7*c)*b<18446744073709551616:=by
 have h9:2 ^ (7*9)=9223372036854775808:=by decide
 by_cases h1:c=9
 ·have:=h h1; subst h1; rcases (show b=0∨b=1 by omega) with rfl | rfl<;>omega
 ·have h8:2 ^ (7*c)<=2 ^ 56:=qaH (by decide) o3
  have:=qbh h8 (show b<=127 by omega)
  omega
theorem Xs {a b c:Nat} (hc:c<=9) (h:c=9->b<=1) (hb:b<128) (ha:a<2 ^ (7*c)):mJ .u64 (a:Int) ((2 ^ (7*c)*b:Nat):Int)=((a+2 ^ (7*c)*b:Nat):Int):=by
 have h1:=L7 hc h hb ha
 unfold mJ
 show IntKind.wrap .u64 ((BitVec.ofInt 64 (a:Int) ||| BitVec.ofInt 64 ((2 ^ (7*c)*b:Nat):Int)).toNat:Int)=_
 rw[BitVec.toNat_or,ZC,ZC]
 have e1:((a:Int) % ((2 ^ 64:Nat):Int)).toNat=a:=o3
 have e2:(((2 ^ (7*c)*b:Nat):Int) % ((2 ^ 64:Nat):Int)).toNat=2 ^ (7*c)*b:=o3
 rw[e1,e2,Nat.or_comm,<-Nat.two_pow_add_eq_or_of_lt ha,qaX]
 exact wq _ h1
theorem wh (G:Nat->Int->Int->List UInt8->Option ((List UInt8)⊕(Int×List UInt8))) (hG:∀ m v6 v7 v8,G (m+1) v6 v7 v8=bif (!(decide (1<=((v8.length:Int))))) then (some ((Sum.inl v8))) else (Option.bind (fk v8 0 1) fun y13=>Option.bind (fk v8 1 ((v8.length:Int))) fun y14=>Option.bind (bL y13 0) fun y15=>Option.bind (bif (v7==0) then (some true) else (some (((y15.toNat:Int)) != 0))) fun y17=>Option.bind (bif y17 then (Option.bind (bif (decide (v7<9)) then (some true) else (some (decide (((y15.toNat:Int))<=1)))) fun y22=>some y22) else (some false)) fun y25=>bif (!y25) then (some ((Sum.inl y14))) else (bif decide (0<=(wr .i64 (7*v7))) then (bif (decide (((y15.toNat:Int))<128)) then (some ((Sum.inr ((mJ .u64 v6 (oK .u64 (wr .u64 (oW .u8 ((y15.toNat:Int)) 127)) (wr .i64 (7*v7))),y14))))) else (G m (mJ .u64 v6 (oK .u64 (wr .u64 (oW .u8 ((y15.toNat:Int)) 127)) (wr .i64 (7*v7)))) (wr .i64 (v7+1)) y14)) else none))) :
  ∀ (l:List UInt8) (m a c:Nat),c<=9->10<=m+c->a<2 ^ (7*c)->match jo c l with
   | some (n,r)=>G m (a:Int) (c:Int) l=some (.inr (((a+2 ^ (7*c)*n:Nat):Int),r))
   | none=>∃ r,G m (a:Int) (c:Int) l=some (.inl r)
 | [],m,a,c,hc,hm,ha=>by
  obtain ⟨m,rfl⟩:∃ q,m=q+1:=⟨m - 1,o3⟩
  rw[jo,hG]
  exact⟨_,rfl⟩
 | b :: l,m,a,c,hc,hm,ha=>by
  obtain ⟨m,rfl⟩:∃ q,m=q+1:=⟨m - 1,o3⟩
  have hb:=b.toNat_lt
  have hs1:fk (b :: l) 0 1=some [b]:=by
   unfold fk
   rw[show decide ((1:Int)<=((b :: l).length:Int))=true from XT XJ]
   rfl
  have hs2:fk (b :: l) 1 ((b :: l).length:Int)=some l:=by
   unfold fk
   rw[show decide ((1:Int)<=((b :: l).length:Int))=true from XT XJ,XT (qaM _)]
   simp
  have hc1:(bif ((c:Int)==0) then (some true) else (some (((b.toNat:Int)) != 0)))=some (!decide (0<c/\b.toNat=0)):=by
   by_cases h:c=0
   ·subst h; simp
   ·rw[show ((c:Int)==0)=false by simp; omega]
    simp only[XO]
    congr 1
    rw[YO]
    simp
    omega
  have hc2:(bif (decide ((c:Int)<9)) then (some true) else (some (decide (((b.toNat:Int))<=1))))=some (!decide (9<=c/\1<b.toNat)):=by
   by_cases h:c<9
   ·rw[XT o3]
    simp only[XR]
    congr 1
    rw[YO]
    simp
    omega
   ·rw[XZ o3]
    simp only[XO]
    congr 1
    rw[YO]
    simp
    omega
  have e127:oW .u8 ((b.toNat:Int)) 127=((b.toNat % 128:Nat):Int):=I3 ⟨b.toNat,hb⟩
  rw[jo,hG,hs1,hs2,XT (show (1:Int)<=((b :: l).length:Int) by rw[X8]; omega)]
  simp only[X7,XO,XM,show bL [b] 0=some b from rfl,hc1,hc2]
  by_cases h:(0<c/\b.toNat=0)∨(9<=c/\1<b.toNat)
  ·rw[XX h]
   refine⟨l,?_⟩
   by_cases h5:0<c/\b.toNat=0
   ·rw[XT h5]; rfl
   ·rw[XZ h5,XT (show 9<=c/\1<b.toNat by omega)]; rfl
  ·rw[XW h,XZ (show ¬ (0<c/\b.toNat=0) by omega),XZ (show ¬ (9<=c/\1<b.toNat) by omega)]
   have hb9:c=9->b.toNat % 128<=1:=fun h9=>o3
   rw[e127,Uh hc hb9 o3,Xs hc hb9 o3 ha,XT (show 0<=wr .i64 (7*(c:Int)) by rw[dn o3 o3]; omega)]
   simp only[Zj,XR,XM,X7,XO]
   by_cases h8:b.toNat<128
   ·rw[XX h8,XT o3,qaf h8]
    rfl
   ·rw[XW h8,XZ o3,dn (n:=(c:Int)+1) o3 o3]
    have hlt:a+2 ^ (7*c)*(b.toNat % 128)<2 ^ (7*(c+1)):=by
     rw[pw]
     have:=ZJ (2 ^ (7*c)) (show b.toNat % 128<=127 by omega)
     omega
    have ih:=wh G hG l m (a+2 ^ (7*c)*(b.toNat % 128)) (c+1) o3 o3 hlt
    rw[show ((c+1:Nat):Int)=(c:Int)+1 by omega] at ih
    simp only[XO]
    cases hg:jo (c+1) l with
    | none=>rw[hg] at ih; exact ih
    | some p=>
     obtain ⟨n,r⟩:=p
     rw[hg] at ih
     simp only at ih ⊢
     rw[ih,pw]
     congr 4
     rw[qaj,show b.toNat % 128=b.toNat - 128 by omega,Zz,YZ 128 (2 ^ (7*c)),qaQ]
theorem AS (bs:List UInt8) (hbs:bs.length<=1100000) (G:Nat->Int->Int->Int->Bool->Option ((Int×Int×Bool)⊕(Int×Bool))) (hG:∀ m v5 v6 v8,G (m+1) v5 v6 v8 false=(Option.bind (bif (decide (((bs.length:Int))<=v8)) then (some ((0,v8,true))) else (Option.bind (bL bs (wr .i64 ((wr .i64 (v8+1)) - 1))) fun y=>some (((y.toNat:Int),wr .i64 (v8+1),false)))) fun (y348:Int×Int×Bool)=>Option.bind (bif (v6==9) then (some (decide (1<y348.1))) else (some false)) fun y350=>Option.bind (bif y350 then (some true) else (Option.bind (bif (decide (0<v6)) then (some (y348.1==0)) else (some false)) fun y355=>some y355)) fun y358=>bif y358 then (some ((Sum.inl ((0,y348.2.1,true))))) else (bif decide (0<=(wr .i64 (7*v6))) then (bif (decide (y348.1<128)) then (some ((Sum.inl ((wr .u64 (v5+(oK .u64 (wr .u64 (Int.tmod y348.1 128)) (wr .i64 (7*v6)))),y348.2.1,y348.2.2))))) else (G m (wr .u64 (v5+(oK .u64 (wr .u64 (Int.tmod y348.1 128)) (wr .i64 (7*v6))))) (wr .i64 (v6+1)) y348.2.1 y348.2.2)) else none))) :
  ∀ (k i m a c:Nat),i+k=bs.length->c<=9->10<=m+c->a<2 ^ (7*c)->match jo c (bs.drop i) with
   | some (n,r)=>∃ j:Nat,G m (a:Int) (c:Int) (i:Int) false=some (.inl (((a+2 ^ (7*c)*n:Nat):Int),(j:Int),false))/\r=bs.drop j/\j<=bs.length
   | none=>∃ (x:Int) (j:Nat),G m (a:Int) (c:Int) (i:Int) false=some (.inl (x,(j:Int),true))/\j<=bs.length
 | 0,i,m,a,c,hi,hc,hm,ha=>by
  obtain ⟨m,rfl⟩:∃ q,m=q+1:=⟨m - 1,o3⟩
  rw[Yd.2 o3,jo,hG,XT o3]
  simp only[XR,XM]
  rw[show (bif ((c:Int)==9) then (some (decide ((1:Int)<0))) else (some false))=some false by cases (c:Int)==9<;>rfl,XT (show 0<=wr .i64 (7*(c:Int)) by rw[dn o3 o3]; omega)]
  by_cases h:(0:Int)<c
  ·rw[XT h]; exact⟨_,i,rfl,o3⟩
  ·rw[XZ h]; exact⟨_,i,rfl,o3⟩
 | k+1,i,m,a,c,hi,hc,hm,ha=>by
  obtain ⟨m,rfl⟩:∃ q,m=q+1:=⟨m - 1,o3⟩
  have hil:i<bs.length:=o3
  rw[X1 hil]
  generalize hb':bs[i]=b
  have hb:=b.toNat_lt
  have hc1:(bif ((c:Int)==9) then (some (decide (1<((b.toNat:Int))))) else (some false))=some (decide (9<=c/\1<b.toNat)):=by
   by_cases h:c=9
   ·subst h; simp; omega
   ·rw[show ((c:Int)==9)=false by simp; omega]
    simp only[XO]
    congr 1
    rw[YO]
    simp
    omega
  have hc2:(bif (decide (0<(c:Int))) then (some (((b.toNat:Int))==0)) else (some false))=some (decide (0<c/\b.toNat=0)):=by
   by_cases h:0<c
   ·rw[XT o3]
    simp only[XR]
    congr 1
    rw[YO]
    simp
    omega
   ·rw[XZ o3]
    simp only[XO]
    congr 1
    rw[YO]
    simp
    omega
  have e127:Int.tmod ((b.toNat:Int)) 128=((b.toNat % 128:Nat):Int):=rfl
  rw[jo,hG,XZ o3,dn (n:=(i:Int)+1) o3 o3,show (i:Int)+1 - 1=(i:Int) by omega,dn (n:=(i:Int)) o3 o3,br,XN hil,hb']
  simp only[XO,XM,hc1,hc2]
  by_cases h:(0<c/\b.toNat=0)∨(9<=c/\1<b.toNat)
  ·rw[XX h]
   refine⟨0,i+1,?_,o3⟩
   by_cases h5:9<=c/\1<b.toNat
   ·rw[XT h5]; rfl
   ·rw[XZ h5,XT (show 0<c/\b.toNat=0 by omega)]; rfl
  ·rw[XW h,XZ (show ¬ (0<c/\b.toNat=0) by omega),XZ (show ¬ (9<=c/\1<b.toNat) by omega)]
   have hb9:c=9->b.toNat % 128<=1:=fun h9=>o3
   have h64:=L7 hc hb9 (show b.toNat % 128<128 by omega) ha
   rw[e127,Uh hc hb9 o3,show (a:Int)+((2 ^ (7*c)*(b.toNat % 128):Nat):Int)=((a+2 ^ (7*c)*(b.toNat % 128):Nat):Int) from (Int.natCast_add _ _).symm,wq _ h64,XT (show 0<=wr .i64 (7*(c:Int)) by rw[dn o3 o3]; omega)]
   simp only[Zj,XR,XM,X7,XO]
   by_cases h8:b.toNat<128
   ·rw[XX h8,XT o3,qaf h8]
    exact⟨i+1,rfl,rfl,o3⟩
   ·rw[XW h8,XZ o3,dn (n:=(c:Int)+1) o3 o3]
    have hlt:a+2 ^ (7*c)*(b.toNat % 128)<2 ^ (7*(c+1)):=by
     rw[pw]
     have:=ZJ (2 ^ (7*c)) (show b.toNat % 128<=127 by omega)
     omega
    have ih:=AS bs hbs G hG k (i+1) m (a+2 ^ (7*c)*(b.toNat % 128)) (c+1) o3 o3 o3 hlt
    rw[show ((c+1:Nat):Int)=(c:Int)+1 by omega,show ((i+1:Nat):Int)=(i:Int)+1 by omega] at ih
    simp only[XO]
    cases hg:jo (c+1) (bs.drop (i+1)) with
    | none=>rw[hg] at ih; exact ih
    | some p=>
     obtain ⟨n,r⟩:=p
     rw[hg] at ih
     simp only at ih ⊢
     obtain ⟨j,ih,h10,h11⟩:=ih
     refine⟨j,?_,h10,h11⟩
     rw[ih,pw]
     congr 4
     rw[qaj,show b.toNat % 128=b.toNat - 128 by omega,Zz,YZ 128 (2 ^ (7*c)),qaQ]
theorem AZ (a b:ByteArray):jf a b=decide (a=b):=by
 rw[YO]
 unfold jf
 rw[qbu,qbu]
 cases a; cases b
 simp
theorem G2 (a b:List UInt8):jf (gn a) (gn b)=decide (a=b):=by
 rw[AZ,YO]
 simp[gn]
theorem Al (l:List UInt8):ln (gn l)=l:=by simp[gn,ln]
theorem Bg (l:List UInt8):(gn l).size=l.length:=by rw[<-lq,Al]
theorem Dr {s:ByteArray}:emp s=true↔s=ByteArray.empty:=by
 unfold emp
 rw[AZ,Z5]
 rfl
def sg (u:Nat):Int:=if u % 2=1 then -((u / 2:Nat):Int) - 1 else ((u / 2:Nat):Int)
theorem ET (u:Nat):A3 (sg u)=u:=by unfold sg; split<;>(unfold A3; split<;>omega)
theorem Nf {u:Nat} (h:u<18446744073709551616):jh (sg u):=by unfold sg jh; split<;>omega
theorem Nx (z:Int):wr .i64 z=if 9223372036854775808<=z % 18446744073709551616 then z % 18446744073709551616 - 18446744073709551616 else z % 18446744073709551616:=by
 simp only[wr,IntKind.wrap,IntKind.bits,IntKind.signed]
 simp
theorem Qu (z:Int) (h:-9223372036854775808<=z) (h':z<=9223372036854775807):wr .i64 ((BitVec.ofInt 64 z).toNat:Int)=z:=by
 rw[Nx,ZC]
 split<;>omega
theorem zT (a:Int) (h:0<=a) (h':a<=9223372036854775807):qN .i64 a 0=a:=by
 unfold qN
 show wr .i64 ((BitVec.ofInt 64 a ^^^ BitVec.ofInt 64 0).toNat:Int)=a
 rw[show BitVec.ofInt 64 0=0#64 from rfl,BitVec.xor_zero]
 exact Qu a o3 h'
theorem zS (a:Int) (h:0<=a) (h':a<=9223372036854775807):qN .i64 a (-1)=-a - 1:=by
 unfold qN
 show wr .i64 ((BitVec.ofInt 64 a ^^^ BitVec.ofInt 64 (-1)).toNat:Int)=_
 rw[show BitVec.ofInt 64 (-1)=BitVec.allOnes 64 from rfl,BitVec.xor_allOnes,BitVec.toNat_not,Nx,ZC]
 split<;>omega
theorem Qr (u:Nat) (h:u<18446744073709551616):oW .u64 (u:Int) 1=((u % 2:Nat):Int):=by
 unfold oW
 show wr .u64 ((BitVec.ofInt 64 (u:Int) &&& BitVec.ofInt 64 1).toNat:Int)=_
 rw[BitVec.toNat_and,ZC,show (BitVec.ofInt 64 1).toNat=1 from rfl,Nat.and_one_is_mod,show ((u:Int) % ((2 ^ 64:Nat):Int)).toNat=u by omega,wq _ o3]
theorem Xf (u:Nat) (h:u<18446744073709551616):B8 (u:Int)=some (sg u):=by
 unfold B8 E0
 have e1:jB .u64 (u:Int) 1=((u / 2:Nat):Int):=by
  unfold jB
  show Int.fdiv (u:Int) (2 ^ 1)=_
  rw[ZP _ (by decide)]
  rfl
 rw[e1,Qr u h,dn (n:=((u / 2:Nat):Int)) o3 o3,dn (n:=((u % 2:Nat):Int)) o3 o3,dn o3 o3]
 congr 1
 unfold sg
 by_cases h2:u % 2=1
 ·rw[XX h2,h2,show (0:Int) - ((1:Nat):Int)=-1 from rfl,zS _ o3 o3]
 ·rw[XW h2,show u % 2=0 by omega,show (0:Int) - ((0:Nat):Int)=0 from rfl,zT _ o3 o3]
def iu (f:List UInt8->Option (au×List UInt8)):Nat->List UInt8->Option (List au×List UInt8)
 | 0,l=>some ([],l)
 | n+1,l=>match f l with
  | none=>none
  | some (v,r)=>match iu f n r with
   | none=>none
   | some (vs,t)=>some (v :: vs,t)
def xA (b:UInt8) (l:List UInt8) (h:Nat->List UInt8->Option (List au×List UInt8)):Option (au×List UInt8):=
 if b.toNat=1 then (match jo 0 l with
  | none=>none
  | some (n,r)=>some (.mk 1 (sg n) ByteArray.empty [],r))
 else if b.toNat=2 then (match jo 0 l with
  | none=>none
  | some (n,r)=>if n<=r.length then some (.mk 2 0 (gn (r.take n)) [],r.drop n) else none)
 else if b.toNat=3 then (match jo 0 l with
  | none=>none
  | some (n,r)=>if n<=r.length then (match h n r with
   | none=>none
   | some (vs,t)=>some (.mk 3 0 ByteArray.empty vs,t)) else none)
 else none
def ir:Nat->List UInt8->Option (au×List UInt8)
 | _,[]=>none
 | 0,b :: l=>xA b l fun _ _=>none
 | k+1,b :: l=>xA b l (iu (ir k))
def Got (k:Nat) (l:List UInt8) (v:au) (r:List UInt8):Prop:=l=mV v++r/\wo v=true/\dep v<=k/\cP v/\nT v<=(mV v).length
theorem uv {f:List UInt8->Option (au×List UInt8)} {k:Nat} (hf:∀ l v r,l.length<=1100000->f l=some (v,r)->Got k l v r):∀ (n:Nat) (l:List UInt8) (vs:List au) (r:List UInt8),l.length<=1100000->iu f n l=some (vs,r) ->
  l=lX vs++r/\mH vs=true/\n5 vs<=k/\(∀ e∈vs,cP e)/\nJ vs<=(lX vs).length/\vs.length=n
 | 0,l,vs,r,_,h=>by
  rw[iu] at h; cases h
  refine⟨?_,rW,by rw[pg]; omega,fun _ h=>absurd h (qah),by rw[pD]; omega,rfl⟩
  rw[pj]; rfl
 | n+1,l,vs,r,hl,h=>by
  rw[iu] at h
  split at h
  ·cases h
  rename_i v t hv
  split at h
  ·cases h
  rename_i ws u hw
  cases h
  obtain ⟨h1,h2,h3,h4,h5⟩:=hf l v t hl hv
  rw[h1,X9] at hl
  obtain ⟨g1,g2,g3,g4,g5,g6⟩:=uv hf n t ws r o3 hw
  refine⟨?_,?_,?_,?_,?_,?_⟩
  ·rw[h1,g1,iz,Yx]
  ·rw[nz,h2,g2]; rfl
  ·rw[ny]; omega
  ·intro e he
   rcases YC.1 he with rfl | he
   ·exact h4
   ·exact g4 e he
  ·rw[lF,iz,X9]; omega
  ·rw[X8,g6]
theorem S1 {b:UInt8} {n:Nat} (h:b.toNat=n):b=UInt8.ofNat n:=by rw[<-h,qaT]
theorem xB {h:Nat->List UInt8->Option (List au×List UInt8)} {k:Nat} {b:UInt8} {l:List UInt8} {v:au} {r:List UInt8} (hl:l.length<=1100000)
  (hh:∀ n t vs u,t.length<=1100000->h n t=some (vs,u)->t=lX vs++u/\mH vs=true/\n5 vs+1<=k/\(∀ e∈vs,cP e)/\nJ vs<=(lX vs).length/\vs.length=n)
  (e:xA b l h=some (v,r)):Got k (b :: l) v r:=by
 have okm:mI=9223372036854775807:=rfl
 unfold xA at e
 split at e
 ·rename_i h1
  split at e
  ·cases e
  rename_i n t hn
  obtain ⟨h2,h3,_⟩:=hJ hn
  cases e
  refine⟨?_,?_,?_,?_,?_⟩
  ·rw[S1 h1,h2,fU]
   simp only[show ((1:Int)==1)=true from rfl,XR,ET]
   rfl
  ·rw[p7]
   simp only[show ((1:Int)==1)=true from rfl,XR,Dr.2]
   rfl
  ·rw[rD]
   simp only[show ((1:Int)==3)=false from rfl,XO]
   omega
  ·exact(fM _).2 ⟨⟨r8,r8⟩,Nf h3,r8,r8,fun _ h=>absurd h qah⟩
  ·rw[ff,fU]
   simp only[show ((1:Int)==1)=true from rfl,XR,ET,pD,X8]
   have:(ByteArray.empty:ByteArray).size=0:=rfl
   omega
 split at e
 ·rename_i h1
  split at e
  ·cases e
  rename_i n t hn
  obtain ⟨h2,h3,h4⟩:=hJ hn
  split at e
  ·rename_i h5
   cases e
   have hs:(gn (t.take n)).size=n:=by rw[Bg,YG]; omega
   refine⟨?_,?_,?_,?_,?_⟩
   ·rw[S1 h1,h2,fU]
    simp only[show ((2:Int)==1)=false from rfl,show ((2:Int)==2)=true from rfl,XR,XO,hs,Al]
    rw[Yz,Yx,Zb]
    rfl
   ·rw[p7]
    rfl
   ·rw[rD]
    simp only[show ((2:Int)==3)=false from rfl,XO]
    omega
   ·refine(fM _).2 ⟨⟨r8,r8⟩,⟨r8,r8⟩,?_,r8,fun _ h=>absurd h qah⟩
    show (gn (t.take n)).size<=mI
    rw[hs]; omega
   ·rw[ff,fU]
    simp only[show ((2:Int)==1)=false from rfl,show ((2:Int)==2)=true from rfl,XR,XO,pD,X8,X9,lq,hs]
    omega
  ·cases e
 split at e
 ·rename_i h1
  split at e
  ·cases e
  rename_i n t hn
  obtain ⟨h2,h3,h4⟩:=hJ hn
  split at e
  ·rename_i h5
   split at e
   ·cases e
   rename_i vs u hv
   cases e
   obtain ⟨g1,g2,g3,g4,g5,g6⟩:=hh n t vs r o3 hv
   refine⟨?_,?_,?_,?_,?_⟩
   ·rw[S1 h1,h2,fU,g1]
    simp only[show ((3:Int)==1)=false from rfl,show ((3:Int)==2)=false from rfl,XO,g6]
    rw[Yz,Yx]
    rfl
   ·rw[p7]
    simp only[show ((3:Int)==1)=false from rfl,show ((3:Int)==2)=false from rfl,show ((3:Int)==3)=true from rfl,XR,XO,g2,Dr.2]
    rfl
   ·rw[rD]
    simp only[show ((3:Int)==3)=true from rfl,XR]
    omega
   ·refine(fM _).2 ⟨⟨r8,r8⟩,⟨r8,r8⟩,r8,?_,g4⟩
    show vs.length<=mI
    omega
   ·rw[ff,fU]
    simp only[show ((3:Int)==1)=false from rfl,show ((3:Int)==2)=false from rfl,XO,X8,X9]
    have:(ByteArray.empty:ByteArray).size=0:=rfl
    omega
  ·cases e
 ·cases e
theorem rZ:∀ (k:Nat) (l:List UInt8) (v:au) (r:List UInt8),l.length<=1100000->ir k l=some (v,r)->Got k l v r
 | 0,[],v,r,_,h=>by rw[ir] at h; cases h
 | k+1,[],v,r,_,h=>by rw[ir] at h; cases h
 | 0,b :: l,v,r,hl,h=>by
  rw[ir] at h
  rw[X8] at hl
  exact xB o3 (fun _ _ _ _ _ h=>by cases h) h
 | k+1,b :: l,v,r,hl,h=>by
  rw[ir] at h
  rw[X8] at hl
  refine xB o3 (fun n t vs u ht hv=>?_) h
  obtain ⟨g1,g2,g3,g4,g5,g6⟩:=uv (fun l v r hl h=>rZ k l v r hl h) n t vs u ht hv
  exact⟨g1,g2,o3,g4,g5,g6⟩
theorem Dg (l:List au) (x:au) (h:l.length<=1100000):cz 56 l [x]=some (l++[x]):=dB _ _ _ x8
theorem DA {k:Nat} {l:List UInt8} {v:au} {r:List UInt8} (hl:l.length<=1100000) (h:ir k l=some (v,r)):r.length<=l.length:=by
 have:=(rZ k l v r hl h).1
 rw[this,X9]; omega
theorem DS (f:List UInt8->Option (au×List UInt8)) (self:(List UInt8)->Int->Option (Bool×au×(List UInt8))) (N d n:Nat) (z0 z1:Int) (z2:ByteArray) (hd:d<=16) (hn:n<=1100000)
  (hf:∀ l:List UInt8,l.length<=1100000->match f l with
   | some (v,r)=>self l ((d:Int)+1)=some (true,v,r)/\r.length<=l.length
   | none=>∃ v r,self l ((d:Int)+1)=some (false,v,r)) :
  ∀ (k m i:Nat) (l:List UInt8) (acc:List au),i+k=n->k<m->l.length<=1100000->acc.length<=i->match iu f k l with
   | some (vs,r)=>gK self N (d:Int) (n:Int) z0 z1 z2 m (i:Int) l acc=some (.inr (r,acc++vs))
   | none=>∃ x,gK self N (d:Int) (n:Int) z0 z1 z2 m (i:Int) l acc=some (.inl x)
 | 0,m,i,l,acc,h1,h2,h3,h4=>by
  obtain ⟨m,rfl⟩:∃ q,m=q+1:=⟨m - 1,o3⟩
  rw[iu,gK,XZ o3]
  simp
 | k+1,m,i,l,acc,h1,h2,h3,h4=>by
  obtain ⟨m,rfl⟩:∃ q,m=q+1:=⟨m - 1,o3⟩
  have hl:=hf l h3
  rw[iu,gK,XT o3,dn (n:=(d:Int)+1) o3 o3,dn (n:=(i:Int)+1) o3 o3]
  simp only[XR]
  cases hv:f l with
  | none=>
   rw[hv] at hl
   obtain ⟨v,r,hl⟩:=hl
   simp only
   rw[hl]
   exact⟨_,rfl⟩
  | some p=>
   obtain ⟨v,r⟩:=p
   rw[hv] at hl
   simp only at hl ⊢
   rw[hl.1]
   simp only[XM,XR]
   rw[Dg _ _ o3,XM,show (i:Int)+1=((i+1:Nat):Int) by omega]
   have ih:=DS f self N d n z0 z1 z2 hd hn hf k m (i+1) r (acc++[v]) o3 o3 o3 r9
   cases hr:iu f k r with
   | none=>rw[hr] at ih; exact ih
   | some p=>
    obtain ⟨vs,t⟩:=p
    rw[hr] at ih
    simp only at ih ⊢
    rw[ih]; simp
theorem b1 {b:UInt8} (n:Nat) (h:n<256):(wr .i64 ((b.toNat:Int))==(n:Int))=decide (b.toNat=n):=by
 have:=b.toNat_lt
 rw[dn o3 o3,YO]
 simp
 omega
theorem Uk:∀ (k N d:Nat) (l:List UInt8),d+k=16->2000000+k<=N->l.length<=1100000->match ir k l with
  | some (v,r)=>BU N l (d:Int)=some (true,v,r)
  | none=>∃ v r,BU N l (d:Int)=some (false,v,r)
 | k,N,d,[],hd,hN,hl=>by
  obtain ⟨N,rfl⟩:∃ q,N=q+1:=⟨N - 1,o3⟩
  have:ir k []=none:=by cases k<;>rw[ir]
  rw[this]
  show ∃ v r,(bif Nat.ble 8 N then wy (BU N) (N - 8) [] d else none)=_
  rw[YU (by omega:8<=N)]
  exact⟨_,_,rfl⟩
 | k,N,d,b :: l,hd,hN,hl=>by
  obtain ⟨N,rfl⟩:∃ q,N=q+1:=⟨N - 1,o3⟩
  rw[X8] at hl
  have hb:=b.toNat_lt
  have hs1:fk (b :: l) 0 1=some [b]:=by
   unfold fk
   rw[show decide ((1:Int)<=((b :: l).length:Int))=true from XT XJ]
   rfl
  have hs2:fk (b :: l) 1 ((b :: l).length:Int)=some l:=by
   unfold fk
   rw[show decide ((1:Int)<=((b :: l).length:Int))=true from XT XJ,XT (qaM _)]
   simp
  have eW:BU (N+1) (b :: l) (d:Int)=wy (BU N) (N - 8) (b :: l) (d:Int):=by
   show (bif Nat.ble 8 N then wy (BU N) (N - 8) (b :: l) d else none)=_
   rw[YU (by omega:8<=N)]; rfl
  have eg:ir k (b :: l)=xA b l (match k with | 0=>fun _ _=>none | k+1=>iu (ir k)):=by cases k<;>rw[ir]
  rw[eW,eg]
  unfold wy
  rw[hs1,hs2,XT (show (1:Int)<=((b :: l).length:Int) by rw[X8]; omega)]
  simp only[X7,XO,XM,show bL [b] 0=some b from rfl]
  rw[show (wr .i64 ((b.toNat:Int))==1)=decide (b.toNat=1) from b1 1 o3,show (wr .i64 ((b.toNat:Int))==2)=decide (b.toNat=2) from b1 2 o3,show (wr .i64 ((b.toNat:Int))==3)=decide (b.toNat=3) from b1 3 o3,dn (n:=(b.toNat:Int)) o3 o3]
  unfold xA
  by_cases h1:b.toNat=1
  ·rw[XX h1,XT h1]
   have hr:=wh (eJ (N - 8+1)) (fun _ _ _ _=>rfl) l (N - 8+7) 0 0 o3 o3 (by decide)
   simp only[XR]
   cases hg:jo 0 l with
   | none=>
    rw[hg] at hr
    obtain ⟨r,hr⟩:=hr
    refine⟨default,r,?_⟩
    exact(YF (fun x=>Option.bind x _) hr).trans rfl
   | some p=>
    obtain ⟨n,r⟩:=p
    rw[hg] at hr
    obtain ⟨_,hn,_⟩:=hJ hg
    simp only at hr ⊢
    refine(YF (fun x=>Option.bind x _) hr).trans ?_
    rw[show (0+2 ^ (7*0)*n:Nat)=n by omega]
    simp only[XM,Xf n hn]
    rw[h1]; rfl
  rw[XW h1,XZ h1]
  simp only[XO]
  by_cases h2:b.toNat=2
  ·rw[XX h2,XT h2]
   have hr:=wh (eJ (N - 8)) (fun _ _ _ _=>rfl) l (N - 8+6) 0 0 o3 o3 (by decide)
   simp only[XR]
   cases hg:jo 0 l with
   | none=>
    rw[hg] at hr
    obtain ⟨r,hr⟩:=hr
    refine⟨default,r,?_⟩
    exact(YF (fun x=>Option.bind x _) hr).trans rfl
   | some p=>
    obtain ⟨n,r⟩:=p
    rw[hg] at hr
    obtain ⟨_,hn,hrl⟩:=hJ hg
    simp only at hr ⊢
    by_cases hnr:n<=r.length
    ·rw[XX hnr]
     refine(YF (fun x=>Option.bind x _) hr).trans ?_
     rw[show (0+2 ^ (7*0)*n:Nat)=n by omega]
     simp only[XM]
     rw[wq _ (show r.length<18446744073709551616 by omega),dn (n:=(n:Int)) o3 o3,XT (show (n:Int)<=(r.length:Int) by omega)]
     simp only[X7,XO]
     unfold fk
     rw[XT (show (n:Int)<=(r.length:Int) by omega),XT (show (0:Int)<=(n:Int) by omega),XT (qaM _)]
     simp[h2]
     exact YA r8
    ·rw[XW hnr]
     refine⟨default,r,?_⟩
     refine(YF (fun x=>Option.bind x _) hr).trans ?_
     rw[show (0+2 ^ (7*0)*n:Nat)=n by omega]
     simp only[XM]
     rw[wq _ (show r.length<18446744073709551616 by omega),XZ (show ¬ (n:Int)<=(r.length:Int) by omega)]
     rfl
  rw[XW h2,XZ h2]
  simp only[XO]
  by_cases h3:b.toNat=3
  ·rw[XX h3,XT h3]
   simp only[XR]
   cases k with
   | zero=>
    rw[XZ (show ¬ ((d:Int)<16) by omega)]
    have:∃ v r,(bif !false then some (false,(default:au),l) else none)=some (false,v,r):=⟨_,_,rfl⟩
    cases hg:jo 0 l with
    | none=>exact⟨_,_,rfl⟩
    | some p=>
     obtain ⟨n,r⟩:=p
     simp only
     split<;>rename_i hx
     ·split at hx<;>cases hx
     ·exact⟨_,_,rfl⟩
   | succ k=>
    rw[XT (show ((d:Int)<16) by omega)]
    have hr:=wh (eJ (N - 8)) (fun _ _ _ _=>rfl) l (N - 8+6) 0 0 o3 o3 (by decide)
    simp only[X7,XO]
    cases hg:jo 0 l with
    | none=>
     rw[hg] at hr
     obtain ⟨r,hr⟩:=hr
     refine⟨default,r,?_⟩
     exact(YF (fun x=>Option.bind x _) hr).trans rfl
    | some p=>
     obtain ⟨n,r⟩:=p
     rw[hg] at hr
     obtain ⟨_,hn,hrl⟩:=hJ hg
     simp only at hr ⊢
     by_cases hnr:n<=r.length
     ·rw[XX hnr]
      have hL:=DS (ir k) (BU N) (N - 8) d n (b.toNat:Int) 0 ByteArray.empty o3 o3 (fun l hl=>by
       have:=Uk k N (d+1) l o3 o3 hl
       cases hgv:ir k l with
       | none=>rw[hgv] at this; exact this
       | some p=>
        obtain ⟨v,r⟩:=p
        rw[hgv] at this
        exact⟨this,DA hl hgv⟩) n (N - 8+8) 0 r [] o3 o3 o3 r8
      cases hls:iu (ir k) n r with
      | none=>
       rw[hls] at hL
       obtain ⟨x,hL⟩:=hL
       refine⟨default,x,?_⟩
       refine(YF (fun x=>Option.bind x _) hr).trans ?_
       rw[show (0+2 ^ (7*0)*n:Nat)=n by omega]
       simp only[XM]
       rw[wq _ (show r.length<18446744073709551616 by omega),dn (n:=(n:Int)) o3 o3,XT (show (n:Int)<=(r.length:Int) by omega)]
       simp only[X7,XO]
       exact(YF (fun x=>Option.bind x _) hL).trans rfl
      | some p=>
       obtain ⟨vs,t⟩:=p
       rw[hls] at hL
       simp only at hL ⊢
       refine(YF (fun x=>Option.bind x _) hr).trans ?_
       rw[show (0+2 ^ (7*0)*n:Nat)=n by omega]
       simp only[XM]
       rw[wq _ (show r.length<18446744073709551616 by omega),dn (n:=(n:Int)) o3 o3,XT (show (n:Int)<=(r.length:Int) by omega)]
       simp only[X7,XO]
       refine(YF (fun x=>Option.bind x _) hL).trans ?_
       rw[h3]; rfl
     ·rw[XW hnr]
      refine⟨default,r,?_⟩
      refine(YF (fun x=>Option.bind x _) hr).trans ?_
      rw[show (0+2 ^ (7*0)*n:Nat)=n by omega]
      simp only[XM]
      rw[wq _ (show r.length<18446744073709551616 by omega),XZ (show ¬ (n:Int)<=(r.length:Int) by omega)]
      rfl
  ·rw[XW h3,XZ h3]
   exact⟨_,_,rfl⟩
def jm (bs:List UInt8):au×Int:=match ir 16 bs with
 | some (v,[])=>(v,0)
 | _=>(.mk 0 0 ByteArray.empty [],10)
theorem Xa (bs:List UInt8) (h:bs.length<=1100000):K0 bs=some (jm bs):=by
 unfold K0 Oi
 have hw:=Uk 16 (aE+8) 0 bs o3 s5 h
 rw[show ((0:Nat):Int)=0 from rfl] at hw
 unfold jm
 cases hg:ir 16 bs with
 | none=>
  rw[hg] at hw
  obtain ⟨v,r,hw⟩:=hw
  rw[hw]; rfl
 | some p=>
  obtain ⟨v,r⟩:=p
  rw[hg] at hw
  simp only at hw
  rw[hw]
  cases r with
  | nil=>rfl
  | cons a r=>
   have:(((a :: r).length:Int)==0)=false:=r9
   simp only[XM,XR]
   rw[this]; rfl
theorem Ao {bs:List UInt8} {v:au} (h:bs.length<=1100000) (e:jm bs=(v,0)):bs=mV v/\lU v=0/\cP v/\nT v<=1100000:=by
 unfold jm at e
 split at e
 ·rename_i u hg
  cases e
  obtain ⟨h1,h2,h3,h4,h5⟩:=rZ 16 bs v [] h hg
  rw[YN] at h1
  refine⟨h1,?_,h4,?_⟩
  ·unfold lU
   rw[h2]
   simp only[XR]
   rw[XZ o3]; rfl
  ·rw[h1] at h; omega
 ·cases e
theorem yR (bs:List UInt8):(∃ v,jm bs=(v,0))∨jm bs=(.mk 0 0 ByteArray.empty [],10):=by
 unfold jm
 split
 ·exact .inl ⟨_,rfl⟩
 ·exact .inr rfl
theorem DT (bs:List UInt8) (f:List UInt8->Option (au×List UInt8)) (self:(List UInt8)->Int->Bool->Int->Option (au×Int×Bool)) (N d n:Nat) (z4 z5:Int) (z6:ByteArray) (hd:d<=16) (hn:n<=1100000)
  (hf:∀ i:Nat,i<=bs.length->match f (bs.drop i) with
   | some (v,r)=>∃ j:Nat,self bs (i:Int) false ((d:Int)+1)=some (v,(j:Int),false)/\r=bs.drop j/\j<=bs.length
   | none=>∃ (v:au) (j:Nat),self bs (i:Int) false ((d:Int)+1)=some (v,(j:Int),true)/\j<=bs.length) :
  ∀ (k m i j:Nat) (acc:List au),i+k=n->k<m->j<=bs.length->acc.length<=i->match iu f k (bs.drop j) with
   | some (vs,r)=>∃ j':Nat,eG self N (d:Int) (n:Int) bs z4 z5 z6 m (i:Int) (j:Int) false acc=some ((j':Int),false,acc++vs)/\r=bs.drop j'/\j'<=bs.length
   | none=>∃ (j':Nat) (l:List au),eG self N (d:Int) (n:Int) bs z4 z5 z6 m (i:Int) (j:Int) false acc=some ((j':Int),true,l)/\j'<=bs.length
 | 0,m,i,j,acc,h1,h2,h3,h4=>by
  obtain ⟨m,rfl⟩:∃ q,m=q+1:=⟨m - 1,o3⟩
  rw[iu,eG,XZ o3]
  exact⟨j,by rw[YN]; rfl,rfl,h3⟩
 | k+1,m,i,j,acc,h1,h2,h3,h4=>by
  obtain ⟨m,rfl⟩:∃ q,m=q+1:=⟨m - 1,o3⟩
  have hl:=hf j h3
  rw[iu,eG,XT o3,dn (n:=(d:Int)+1) o3 o3,show (i:Int)+1=((i+1:Nat):Int) by omega,wq _ o3]
  simp only[XR,Zj,XM]
  cases hv:f (bs.drop j) with
  | none=>
   rw[hv] at hl
   obtain ⟨v,j',hl,hj⟩:=hl
   simp only
   rw[hl]
   simp only[XM]
   rw[Dg _ _ o3,XM]
   obtain ⟨m,rfl⟩:∃ q,m=q+1:=⟨m - 1,o3⟩
   refine⟨j',acc++[v],?_,hj⟩
   rw[eG]
   cases decide (((i+1:Nat):Int)<(n:Int))<;>rfl
  | some p=>
   obtain ⟨v,r⟩:=p
   rw[hv] at hl
   obtain ⟨j',hl,hr,hj⟩:=hl
   simp only
   rw[hl]
   simp only[XM]
   rw[Dg _ _ o3,XM,hr]
   have ih:=DT bs f self N d n z4 z5 z6 hd hn hf k m (i+1) j' (acc++[v]) o3 o3 hj r9
   cases hg:iu f k (bs.drop j') with
   | none=>rw[hg] at ih; exact ih
   | some p=>
    obtain ⟨vs,t⟩:=p
    rw[hg] at ih
    simp only at ih ⊢
    obtain ⟨j2,ih,h5,h6⟩:=ih
    exact⟨j2,by rw[ih]; simp,h5,h6⟩
theorem Xy (n:Nat) (h:n<18446744073709551616) (j:Int) (b:Bool):(bif ((Int.tmod (n:Int) 2)==1) then (some (((au.mk 1 (wr .i64 ((wr .i64 (0 - (wr .i64 (wr .u64 (Int.tdiv (n:Int) 2))))) - 1)) ByteArray.empty ([])),j,b))) else (some (((au.mk 1 (wr .i64 (wr .u64 (Int.tdiv (n:Int) 2))) ByteArray.empty ([])),j,b))))=some (au.mk 1 (sg n) ByteArray.empty [],j,b):=by
 have e1:Int.tmod (n:Int) 2=((n % 2:Nat):Int):=rfl
 have e2:Int.tdiv (n:Int) 2=((n / 2:Nat):Int):=rfl
 rw[e1,e2,wq _ o3,dn (n:=((n / 2:Nat):Int)) o3 o3,dn (n:=0 - ((n / 2:Nat):Int)) o3 o3,dn (n:=0 - ((n / 2:Nat):Int) - 1) o3 o3]
 unfold sg
 by_cases h2:n % 2=1
 ·rw[XX h2,h2,show (0:Int) - ((n / 2:Nat):Int)=-((n / 2:Nat):Int) by omega]; rfl
 ·rw[XW h2,show n % 2=0 by omega]; rfl
theorem G1 (x j:Int):∃ v,(bif ((Int.tmod x 2)==1) then (some (((au.mk 1 (wr .i64 ((wr .i64 (0 - (wr .i64 (wr .u64 (Int.tdiv x 2))))) - 1)) ByteArray.empty ([])),j,true))) else (some (((au.mk 1 (wr .i64 (wr .u64 (Int.tdiv x 2))) ByteArray.empty ([])),j,true))))=some (v,j,true):=by
 cases (Int.tmod x 2)==1<;>exact⟨_,rfl⟩
def QU:Nat->Nat->List UInt8->Option (List au×List UInt8)
 | 0=>fun _ _=>none
 | k+1=>iu (ir k)
theorem JF (bs:List UInt8) (hbs:bs.length<=1100000) (n i m:Nat) (hi:i<=bs.length) (hm:10<=m):match jo 0 (bs.drop i) with
  | some (u,r)=>∃ j:Nat,(Option.bind (eH n bs m 0 0 (i:Int) false) fun o=>match o with | (Sum.inl ((y368,y369,y370)))=>some ((y368,y369,y370)) | (Sum.inr ((y374,y375)))=>some (((0:Int),y374,y375)))=some ((u:Int),(j:Int),false)/\r=bs.drop j/\j<=bs.length
  | none=>∃ (x:Int) (j:Nat),(Option.bind (eH n bs m 0 0 (i:Int) false) fun o=>match o with | (Sum.inl ((y368,y369,y370)))=>some ((y368,y369,y370)) | (Sum.inr ((y374,y375)))=>some (((0:Int),y374,y375)))=some (x,(j:Int),true)/\j<=bs.length:=by
 have hr:=AS bs hbs (eH n bs) (fun _ _ _ _=>rfl) (bs.length - i) i m 0 0 o3 o3 o3 (by decide)
 cases hg:jo 0 (bs.drop i) with
 | none=>
  rw[hg] at hr
  obtain ⟨x,j,hr,hj⟩:=hr
  exact⟨x,j,(YF (fun x=>Option.bind x _) hr).trans rfl,hj⟩
 | some p=>
  obtain ⟨u,r⟩:=p
  rw[hg] at hr
  obtain ⟨j,hr,h1,h2⟩:=hr
  rw[show (0+2 ^ (7*0)*u:Nat)=u by omega] at hr
  exact⟨j,(YF (fun x=>Option.bind x _) hr).trans rfl,h1,h2⟩
theorem Nu (bs:List UInt8) (hbs:bs.length<=1100000):∀ (k N d i:Nat),d+k=16->2000000+k<=N->i<=bs.length->match ir k (bs.drop i) with
  | some (v,r)=>∃ j:Nat,ra N bs (i:Int) false (d:Int)=some (v,(j:Int),false)/\r=bs.drop j/\j<=bs.length
  | none=>∃ (v:au) (j:Nat),ra N bs (i:Int) false (d:Int)=some (v,(j:Int),true)/\j<=bs.length
 | k,N,d,i,hd,hN,hi=>by
  obtain ⟨N,rfl⟩:∃ q,N=q+1:=⟨N - 1,o3⟩
  have eW:ra (N+1) bs (i:Int) false (d:Int)=qm (ra N) (N - 8) bs (i:Int) false (d:Int):=by
   show (bif Nat.ble 8 N then qm (ra N) (N - 8) bs (i:Int) false (d:Int) else none)=_
   rw[YU (by omega:8<=N)]; rfl
  rw[eW]
  by_cases hil:i<bs.length
  ·rw[X1 hil]
   generalize hb':bs[i]=b
   have hb:=b.toNat_lt
   have eg:ir k (b :: bs.drop (i+1))=xA b (bs.drop (i+1)) (QU k):=by cases k<;>(rw[ir]; rfl)
   rw[eg]
   unfold qm
   rw[XZ o3,dn (n:=(i:Int)+1) o3 o3,show (i:Int)+1 - 1=(i:Int) by omega,dn (n:=(i:Int)) o3 o3,br,XN hil,hb']
   simp only[XO,XM]
   rw[show ((b.toNat:Int)==1)=decide (b.toNat=1) by rw[YO]; simp; omega,show ((b.toNat:Int)==2)=decide (b.toNat=2) by rw[YO]; simp; omega,show ((b.toNat:Int)==3)=decide (b.toNat=3) by rw[YO]; simp; omega]
   have ei:(i:Int)+1=((i+1:Nat):Int):=o3
   rw[ei]
   unfold xA
   by_cases h1:b.toNat=1
   ·rw[XX h1,XT h1]
    have hr:=JF bs hbs (N - 8) (i+1) (N - 8+7) o3 o3
    simp only[XR]
    cases hg:jo 0 (bs.drop (i+1)) with
    | none=>
     rw[hg] at hr
     obtain ⟨x,j,hr,hj⟩:=hr
     obtain ⟨v,hv⟩:=G1 x j
     refine⟨v,j,?_,hj⟩
     exact(YF (fun x=>Option.bind x _) hr).trans hv
    | some p=>
     obtain ⟨n,r⟩:=p
     rw[hg] at hr
     obtain ⟨_,hn,_⟩:=hJ hg
     obtain ⟨j,hr,hrj,hj⟩:=hr
     simp only
     refine⟨j,?_,hrj,hj⟩
     refine(YF (fun x=>Option.bind x _) hr).trans ?_
     exact Xy n hn j false
   rw[XW h1,XZ h1]
   simp only[XO]
   by_cases h2:b.toNat=2
   ·rw[XX h2,XT h2]
    have hr:=JF bs hbs (N - 8) (i+1) (N - 8+7) o3 o3
    simp only[XR]
    cases hg:jo 0 (bs.drop (i+1)) with
    | none=>
     rw[hg] at hr
     obtain ⟨x,j,hr,hj⟩:=hr
     refine⟨.mk 0 0 ByteArray.empty [],j,?_,hj⟩
     exact(YF (fun x=>Option.bind x _) hr).trans rfl
    | some p=>
     obtain ⟨n,r⟩:=p
     rw[hg] at hr
     obtain ⟨_,hn,hrl⟩:=hJ hg
     obtain ⟨j,hr,hrj,hj⟩:=hr
     have hlr:r.length=bs.length - j:=by rw[hrj,Zd]
     have el:wr .u64 (wr .i64 ((bs.length:Int) - (j:Int)))=((bs.length - j:Nat):Int):=by
      rw[show (bs.length:Int) - (j:Int)=((bs.length - j:Nat):Int) by omega,dn o3 o3,wq _ o3]
     simp only
     by_cases hnr:n<=r.length
     ·rw[XX hnr]
      refine⟨j+n,?_,by rw[hrj,qaK],o3⟩
      refine(YF (fun x=>Option.bind x _) hr).trans ?_
      simp only[XM,XO]
      rw[el,XZ o3,dn (n:=(n:Int)) o3 o3,dn (n:=(j:Int)+(n:Int)) o3 o3,show (j:Int)+(n:Int) - (n:Int)=(j:Int) by omega,dn (n:=(j:Int)) o3 o3]
      simp only[XO]
      unfold fk
      rw[XT (show (0:Int)<=(j:Int) by omega),XT (show (j:Int)<=(j:Int)+(n:Int) by omega),XT (show (j:Int)+(n:Int)<=(bs.length:Int) by omega)]
      simp only[Zq,XR,XM]
      rw[show ((j:Int)+(n:Int)).toNat - (j:Int).toNat=n by omega,hrj]
      rfl
     ·rw[XW hnr]
      refine⟨.mk 0 0 ByteArray.empty [],j,?_,hj⟩
      refine(YF (fun x=>Option.bind x _) hr).trans ?_
      simp only[XM,XO]
      rw[el,XT o3]
      rfl
   rw[XW h2,XZ h2]
   simp only[XO]
   by_cases h3:b.toNat=3
   ·rw[XX h3,XT h3]
    have hr:=JF bs hbs (N - 8) (i+1) (N - 8+7) o3 o3
    simp only[XR]
    cases hg:jo 0 (bs.drop (i+1)) with
    | none=>
     rw[hg] at hr
     obtain ⟨x,j,hr,hj⟩:=hr
     refine⟨.mk 0 0 ByteArray.empty [],j,?_,hj⟩
     exact(YF (fun x=>Option.bind x _) hr).trans rfl
    | some p=>
     obtain ⟨n,r⟩:=p
     rw[hg] at hr
     obtain ⟨_,hn,hrl⟩:=hJ hg
     obtain ⟨j,hr,hrj,hj⟩:=hr
     have hlr:r.length=bs.length - j:=by rw[hrj,Zd]
     have el:wr .u64 (wr .i64 ((bs.length:Int) - (j:Int)))=((bs.length - j:Nat):Int):=by
      rw[show (bs.length:Int) - (j:Int)=((bs.length - j:Nat):Int) by omega,dn o3 o3,wq _ o3]
     simp only
     by_cases hnr:n<=r.length
     ·rw[XX hnr]
      cases k with
      | zero=>
       refine⟨.mk 0 0 ByteArray.empty [],j,?_,hj⟩
       refine(YF (fun x=>Option.bind x _) hr).trans ?_
       simp only[XM,XO]
       rw[show d=16 by omega]
       cases decide ((wr .u64 (wr .i64 ((bs.length:Int) - (j:Int))))<(n:Int))<;>rfl
      | succ k=>
       have hL:=DT bs (ir k) (ra N) (N - 8) d n 3 0 ByteArray.empty o3 o3 (fun i hi=>by
        have:=Nu bs hbs k N (d+1) i o3 o3 hi
        exact this) n (N - 8+8) 0 j [] o3 o3 hj r8
       rw[<-hrj] at hL
       show (match (match iu (ir k) n r with
        | none=>none
        | some (vs,t)=>some (au.mk 3 0 ByteArray.empty vs,t)) with
        | some (v,r)=>_
        | none=>_)
       cases hls:iu (ir k) n r with
       | none=>
        rw[hls] at hL
        obtain ⟨j',l,hL,hj'⟩:=hL
        refine⟨.mk 3 0 ByteArray.empty l,j',?_,hj'⟩
        refine(YF (fun x=>Option.bind x _) hr).trans ?_
        simp only[XM,XO]
        rw[el,XZ o3,show ((d:Int)==16)=false by simp; omega]
        exact(YF (fun x=>Option.bind x _) hL).trans rfl
       | some p=>
        obtain ⟨vs,t⟩:=p
        rw[hls] at hL
        obtain ⟨j',hL,ht,hj'⟩:=hL
        simp only
        refine⟨j',?_,ht,hj'⟩
        refine(YF (fun x=>Option.bind x _) hr).trans ?_
        simp only[XM,XO]
        rw[el,XZ o3,show ((d:Int)==16)=false by simp; omega]
        exact(YF (fun x=>Option.bind x _) hL).trans rfl
     ·rw[XW hnr]
      refine⟨.mk 0 0 ByteArray.empty [],j,?_,hj⟩
      refine(YF (fun x=>Option.bind x _) hr).trans ?_
      simp only[XM,XO]
      rw[el,XT o3]
      rfl
   ·rw[XW h3,XZ h3]
    exact⟨_,i+1,by simp only[XO,Yg]; rfl,o3⟩
  ·have:ir k []=none:=by cases k<;>rw[ir]
   rw[Yd.2 o3,this]
   refine⟨.mk 0 0 ByteArray.empty [],i,?_,hi⟩
   unfold qm
   rw[XT o3]
   rfl
theorem Xb (bs:List UInt8) (h:bs.length<=1100000):K3 bs=some (jm bs):=by
 unfold K3 Ox
 have hw:=Nu bs h 16 (aE+8) 0 0 o3 s5 o3
 rw[show ((0:Nat):Int)=0 from rfl,Yn] at hw
 unfold jm
 cases hg:ir 16 bs with
 | none=>
  rw[hg] at hw
  obtain ⟨v,j,hw,_⟩:=hw
  rw[hw]; rfl
 | some p=>
  obtain ⟨v,r⟩:=p
  rw[hg] at hw
  obtain ⟨j,hw,hr,hj⟩:=hw
  rw[hw]
  simp only[XM,XO]
  cases r with
  | cons a r=>
   have:j<bs.length:=by
    rcases qa1 j bs.length with h | h
    ·exact h
    ·rw[Yd.2 h] at hr; cases hr
   rw[show ((j:Int) != (bs.length:Int))=true by simp; omega]
   rfl
  | nil=>
   have hj2:j=bs.length:=by
    have:=YF List.length hr
    rw[Zd] at this
    simp at this; omega
   obtain ⟨h1,h2,h3,h4⟩:=Ao (v:=v) h (by unfold jm; rw[hg])
   rw[show ((j:Int) != (bs.length:Int))=false by simp; omega,W9 v h4]
   simp only[XO,XM,h2]
   rw[show ((0:Int) != 0)=false from rfl]
   simp only[XO,XM,Xc v h3 h4]
   rw[G2,<-h1,XT rfl]
   rfl
theorem Ml (a b:Int):KZ a b=some (if b<a then b else a,if a<b then b else a):=rfl
def vZ (p:Int×Int):Bool:=decide (0<=p.1)&&decide (p.1<p.2)&&decide (p.2<24)
theorem Mk (p:Int×Int):Kp p=some (vZ p):=by
 unfold Kp Oq vZ
 cases decide (0<=p.1)<;>cases decide (p.1<p.2)<;>rfl
def jY (p:aA):Bool:=vZ (if p.To<p.From then p.To else p.From,if p.From<p.To then p.To else p.From)&&decide ((p.Data.length:Int)<=1048576)
theorem Mi (p:aA):Ko p=some (jY p):=by
 unfold Ko On jY
 rw[Ml,XM,Mk,XM]
 cases vZ _<;>rfl
theorem R9 (p:aA):K2 p=some (!jY p):=by
 unfold K2 Oo
 rw[Mi,XM]
theorem Mo (a:Int):wz a=some false:=by
 unfold wz E2
 simp
theorem ti {i:Nat} (h:i<=4611686018427387904):wr .i64 ((i:Int)+1)=((i+1:Nat):Int):=by
 rw[dn o3 o3]
 omega
theorem Me (n:Nat) (l:List aA) (hl:l.length<=4611686018427387904):∀ (m i:Nat),i<=l.length->l.length - i<m ->
  (∃ j:Int,0<=j/\fD n l (l.length:Int) m (i:Int)=some (.inl j)/\(l.drop i).any (fun p=>!jY p)=true)∨(fD n l (l.length:Int) m (i:Int)=some (.inr ())/\(l.drop i).any (fun p=>!jY p)=false)
 | 0,i,_,h=>absurd h (Yl _)
 | m+1,i,hi,h=>by
  unfold fD
  by_cases hlt:i<l.length
  ·rw[show decide ((i:Int)<(l.length:Int))=true by simpa using hlt,XR,br,XN hlt,XM,R9,XM,ti o3,X1 hlt,qau]
   cases hp:jY l[i] with
   | false=>exact .inl ⟨i,o3,rfl,rfl⟩
   | true=>
    simp only[X7,XO,qbo]
    exact Me n l hl m (i+1) o3 o3
  ·rw[show decide ((i:Int)<(l.length:Int))=false by simpa using hlt,XO,Yd.2 o3]
   exact .inr ⟨rfl,rfl⟩
theorem R8 (l:List aA) (hl:l.length<=4611686018427387904):qY l=some (l.any fun p=>!jY p):=by
 unfold qY uU uW uV
 have e:l.drop 0=l:=rfl
 rcases Me aE l hl (aE+8) 0 (Ya _) s5 with ⟨j,h1,h2,h3⟩ | ⟨h2,h3⟩
 ·rw[e] at h3
  rw[show ((0:Nat):Int)=0 from rfl] at h2
  rw[h2,h3]
  simp only[XM]
  rw[XT h1]
 ·rw[e] at h3
  rw[show ((0:Nat):Int)=0 from rfl] at h2
  rw[h2,h3]
  rfl
def uC (p q:Int×Int):Bool:=decide (p.1<q.1) || (p.1==q.1&&decide (p.2<q.2))
theorem RY (n:Nat) (a b c d:Int) (m:Nat) :
  gj n [a,b] 2 c d (m+3) 0=some (if a<c then .inl (-1) else if c<a then .inl 1 else if b<d then .inl (-1) else if d<b then .inl 1 else .inr ()):=by
 have w1:wr .i64 (0+1)=1:=by decide +kernel
 have w2:wr .i64 (1+1)=2:=by decide +kernel
 have x0:bL [a,b] 0=some a:=rfl
 have x1:bL [a,b] 1=some b:=rfl
 have tail:gj n [a,b] 2 c d (m+2) 1=some (if b<d then .inl (-1) else if d<b then .inl 1 else .inr ()):=by
  rw[gj]
  simp only[x1,Mo,w2,XM,show decide ((1:Int)<2)=true from rfl,show decide ((2:Int)<=1)=false from rfl,show decide ((1:Int)=0)=false from rfl,show decide ((1:Int)=1)=true from rfl,XR,XO]
  by_cases h1:b<d
  ·simp[h1]
  ·by_cases h2:d<b
   ·simp[h1,h2]
   ·rw[gj]; simp[h1,h2]
 rw[gj]
 simp only[x0,Mo,w1,XM,show decide ((0:Int)<2)=true from rfl,show decide ((2:Int)<=0)=false from rfl,show decide ((0:Int)=0)=true from rfl,XR,XO]
 by_cases h1:a<c
 ·simp[h1]
 ·by_cases h2:c<a
  ·simp[h1,h2]
  ·simp only[h1,h2,Zp,XO,Z7]
   exact tail
def gg (l:List (Int×Int)) (i:Nat):Option (Int×Int):=if i=0 then none else l[i - 1]?
def xQ:Option (Int×Int)->List (Int×Int)->Bool
 | _,[]=>true
 | o,p :: r=>vZ p&&(match o with | some q=>uC q p | none=>true)&&xQ (some p) r
theorem Mc (n:Nat) (v8:Int) (q:List aA) (l:List (Int×Int)) (hl:l.length<=4611686018427387904):∀ (m i:Nat),i<=l.length->l.length - i<m ->
  (xQ (gg l i) (l.drop i)=true/\gT n v8 l (l.length:Int) q l m (i:Int)=some (.inr ()))∨(xQ (gg l i) (l.drop i)=false/\gT n v8 l (l.length:Int) q l m (i:Int)=some (.inl 60))
 | 0,i,_,h=>absurd h (Yl _)
 | m+1,i,hi,h=>by
  by_cases hlt:i<l.length
  ·have ih:=Mc n v8 q l hl m (i+1) o3 o3
   have hp:gg l (i+1)=some l[i]:=by unfold gg; rw[XW o3]; exact XN hlt
   rw[hp] at ih
   rw[X1 hlt]
   unfold xQ gT
   rw[show decide ((i:Int)<(l.length:Int))=true by simpa using hlt,XR,br,XN hlt,XM,Mk,XM,ti o3]
   cases hk:vZ l[i] with
   | false=>exact .inr ⟨r8,rfl⟩
   | true=>
    simp only[X7,XO,Yi]
    by_cases h0:0<i
    ·have hpi:gg l i=some l[i - 1]:=by unfold gg; rw[XW o3]; exact XN o3
     have hw:wr .i64 ((i:Int) - 1)=((i - 1:Nat):Int):=by
      rw[dn o3 o3]; omega
     rw[hpi,show decide ((0:Int)<(i:Int))=true by simpa using h0,XR,hw,br,XN o3,XM]
     rw[show n+7=(n+4)+3 from rfl,RY]
     simp only[XM]
     have key:(uC l[i - 1] l[i]=true/\(if l[i - 1].1<l[i].1 then (Sum.inl (-1):Int⊕Unit) else if l[i].1<l[i - 1].1 then .inl 1 else if l[i - 1].2<l[i].2 then .inl (-1) else if l[i].2<l[i - 1].2 then .inl 1 else .inr ())=.inl (-1)) ∨
       (uC l[i - 1] l[i]=false/\((if l[i - 1].1<l[i].1 then (Sum.inl (-1):Int⊕Unit) else if l[i].1<l[i - 1].1 then .inl 1 else if l[i - 1].2<l[i].2 then .inl (-1) else if l[i].2<l[i - 1].2 then .inl 1 else .inr ())=.inl 1∨(if l[i - 1].1<l[i].1 then (Sum.inl (-1):Int⊕Unit) else if l[i].1<l[i - 1].1 then .inl 1 else if l[i - 1].2<l[i].2 then .inl (-1) else if l[i].2<l[i - 1].2 then .inl 1 else .inr ())=.inr ())):=by
      unfold uC
      generalize l[i - 1]=p
      generalize l[i]=r
      by_cases a1:p.1<r.1
      ·exact .inl ⟨by simp[a1],by rw[XX a1]⟩
      ·by_cases a2:r.1<p.1
       ·exact .inr ⟨by simp[a1]; intro e; omega,.inl (by rw[XW a1,XX a2])⟩
       ·have e:p.1=r.1:=by omega
        by_cases a3:p.2<r.2
        ·exact .inl ⟨by simp[e,a3],by rw[XW a1,XW a2,XX a3]⟩
        ·refine .inr ⟨by simp[e,a3],?_⟩
         by_cases a4:r.2<p.2
         ·exact .inl (by rw[XW a1,XW a2,XW a3,XX a4])
         ·exact .inr (by rw[XW a1,XW a2,XW a3,XW a4])
     rcases key with ⟨k1,k2⟩ | ⟨k1,k2 | k2⟩
     ·rw[k1,k2]
      simp only[Yi]
      exact ih
     ·rw[k1,k2]
      exact .inr ⟨r8,rfl⟩
     ·rw[k1,k2]
      exact .inr ⟨r8,rfl⟩
    ·obtain rfl:i=0:=by omega
     have hp0:gg l 0=none:=rfl
     rw[hp0,show decide ((0:Int)<((0:Nat):Int))=false from rfl]
     simp only[XO,XM,Yi]
     exact ih
  ·rw[Yd.2 o3]
   unfold gT
   rw[show decide ((i:Int)<(l.length:Int))=false by simpa using hlt,XO]
   exact .inl ⟨rfl,rfl⟩
def uF (x:aD):Bool:=decide (x.Queue.length<=4096)&&x.Queue.all jY&&xQ none x.Apart
theorem Ak (l:List aA):(l.any fun p=>!jY p) = !l.all jY:=by
 induction l with
 | nil=>rfl
 | cons x l ih=>rw[qau,ZO,ih]; cases jY x<;>simp
theorem JA (x:aD) (hA:x.Apart.length<=4611686018427387904):IL x=some (if uF x=true then 0 else 60):=by
 unfold IL N5 uF
 by_cases hq:x.Queue.length<=4096
 ·have hq':decide ((4096:Int)<(x.Queue.length:Int))=false:=by simp; omega
  have hqf:x.Queue.length<=4611686018427387904:=Yb hq (by decide)
  rw[hq',XO,R8 _ hqf,XM,XM,Ak,XT hq]
  cases x.Queue.all jY with
  | false=>rfl
  | true=>
   simp only[X7,XO,Yi]
   have h13:=Mc aE 0 x.Queue x.Apart hA (aE+8) 0 (Ya _) s5
   have e:gg x.Apart 0=none:=rfl
   rw[e,Yn,show ((0:Nat):Int)=0 from rfl] at h13
   rcases h13 with ⟨h1,h2⟩ | ⟨h1,h2⟩
   ·rw[h2,h1]; rfl
   ·rw[h2,h1]; rfl
 ·have hq':decide ((4096:Int)<(x.Queue.length:Int))=true:=by simp; omega
  rw[hq',XR,XM,XZ hq]
  rfl
def site (a:Int):Bool:=decide (0<=a)&&decide (a<24)
theorem FF (a:Int):Hm a=some (site a):=by
 unfold Hm Ou site
 cases decide (0<=a)<;>rfl
theorem Mj (p:aA):Kq p=some (jY p):=by
 unfold Kq Ot
 rw[FF,FF]
 have key:jY p=(site p.From&&site p.To&&(p.From != p.To)&&decide ((p.Data.length:Int)<=1048576)):=by
  unfold jY vZ site
  generalize decide ((p.Data.length:Int)<=1048576)=d
  congr 1
  rw[YO]
  simp only[XQ,XV,bne_iff_ne,ne_eq]
  split<;>split<;>omega
 rw[key]
 cases site p.From<;>cases site p.To<;>cases (p.From != p.To)<;>rfl
theorem Iv (n:Nat) (A:List (Int×Int)) (l:List aA) (hl:l.length<=4611686018427387904):∀ (m i:Nat),i<=l.length->l.length - i<m ->
  kW n l A m (i:Int)=some (if (l.drop i).any (fun p=>!jY p)=true then .inl 60 else .inr ())
 | 0,i,_,h=>absurd h (Yl _)
 | m+1,i,hi,h=>by
  unfold kW
  by_cases hlt:i<l.length
  ·rw[show decide ((i:Int)<(l.length:Int))=true by simpa using hlt,XR,br,XN hlt,XM,Mj,XM,ti o3,X1 hlt,qau]
   cases hp:jY l[i] with
   | false=>rfl
   | true=>
    simp only[X7,XO,qbo]
    exact Iv n A l hl m (i+1) o3 o3
  ·rw[show decide ((i:Int)<(l.length:Int))=false by simpa using hlt,XO,Yd.2 o3]
   rfl
theorem Iw (n:Nat) (v15:Int) (q:List aA) (l:List (Int×Int)) (hl:l.length<=4611686018427387904):∀ (m i:Nat),i<=l.length->l.length - i<m ->
  (xQ (gg l i) (l.drop i)=true/\iV n v15 q l m (i:Int)=some (.inr ()))∨(xQ (gg l i) (l.drop i)=false/\iV n v15 q l m (i:Int)=some (.inl 60))
 | 0,i,_,h=>absurd h (Yl _)
 | m+1,i,hi,h=>by
  by_cases hlt:i<l.length
  ·have ih:=Iw n v15 q l hl m (i+1) o3 o3
   have hp:gg l (i+1)=some l[i]:=by unfold gg; rw[XW o3]; exact XN hlt
   rw[hp] at ih
   rw[X1 hlt]
   unfold xQ iV
   rw[show decide ((i:Int)<(l.length:Int))=true by simpa using hlt,XR,br,XN hlt,XM,FF,XM,FF,ti o3]
   have hok:vZ l[i]=(site l[i].1&&site l[i].2&&!decide (l[i].2<=l[i].1)):=by
    unfold vZ site
    rw[YO]
    simp only[XQ,XV,YQ,Zw]
    omega
   rw[hok]
   cases site l[i].1 with
   | false=>exact .inr ⟨rfl,rfl⟩
   | true=>cases site l[i].2 with
    | false=>exact .inr ⟨rfl,rfl⟩
    | true=>
     simp only[X7,XO,XM,Yi]
     cases hle:decide (l[i].2<=l[i].1) with
     | true=>exact .inr ⟨rfl,rfl⟩
     | false=>
      simp only[XO,Zj,Yi]
      by_cases h0:0<i
      ·have hpi:gg l i=some l[i - 1]:=by unfold gg; rw[XW o3]; exact XN o3
       have hw:wr .i64 ((i:Int) - 1)=((i - 1:Nat):Int):=by
          rw[dn o3 o3]; omega
       rw[hpi,show decide ((0:Int)<(i:Int))=true by simpa using h0,XR,hw,br,XN o3,XM]
       simp only[XM]
       have key:uC l[i - 1] l[i] = !(decide (l[i].1<l[i - 1].1) || ((l[i].1==l[i - 1].1)&&decide (l[i].2<=l[i - 1].2))):=by
        unfold uC
        rw[YO]
        simp only[YP,XQ,XV,YV,YQ,YK,Bool.and_eq_false_iff,Zw,Y8]
        omega
       simp only[key]
       cases decide (l[i].1<l[i - 1].1) with
       | true=>exact .inr ⟨rfl,rfl⟩
       | false=>
        cases hb:(l[i].1==l[i - 1].1) with
        | false=>simp only[XO,qbg,qbn,Zj,Yi]; exact ih
        | true=>cases decide (l[i].2<=l[i - 1].2) with
         | true=>exact .inr ⟨rfl,rfl⟩
         | false=>simp only[XO,XR,Bool.and_false,qbn,Zj,Yi]; exact ih
      ·obtain rfl:i=0:=by omega
       have hp0:gg l 0=none:=rfl
       rw[hp0,show decide ((0:Int)<((0:Nat):Int))=false from rfl]
       simp only[XO,XM,Yi]
       exact ih
  ·rw[Yd.2 o3]
   unfold iV
   rw[show decide ((i:Int)<(l.length:Int))=false by simpa using hlt,XO]
   exact .inl ⟨rfl,rfl⟩
theorem JB (x:aD) (hA:x.Apart.length<=4611686018427387904):IM x=some (if uF x=true then 0 else 60):=by
 unfold IM N9 uF
 by_cases hq:x.Queue.length<=4096
 ·have hq':decide ((4096:Int)<(x.Queue.length:Int))=false:=by simp; omega
  have hqf:x.Queue.length<=4611686018427387904:=Yb hq (by decide)
  have h0:=Iv aE x.Apart x.Queue hqf (aE+8) 0 (Ya _) s5
  rw[Yn,show ((0:Nat):Int)=0 from rfl,Ak] at h0
  rw[hq',XO,h0,XM,XT hq]
  cases x.Queue.all jY with
  | false=>rfl
  | true=>
   have h13:=Iw aE 0 x.Queue x.Apart hA (aE+8) 0 (Ya _) s5
   have e:gg x.Apart 0=none:=rfl
   rw[e,Yn,show ((0:Nat):Int)=0 from rfl] at h13
   rcases h13 with ⟨h1,h2⟩ | ⟨h1,h2⟩
   ·simp only[X7,Yg,Z7,h2,h1]; rfl
   ·simp only[X7,Yg,Z7,h2,h1]; rfl
 ·have hq':decide ((4096:Int)<(x.Queue.length:Int))=true:=by simp; omega
  rw[hq',XR,XZ hq]
  rfl
theorem Mh (p:aA):KX p p=some true:=by
 unfold KX Od
 simp[zF]
theorem Ix (n:Nat) (A B:List (Int×Int)) (l:List aA) (hl:l.length<=4611686018427387904):∀ (m i:Nat),i<=l.length->l.length - i<m->kQ n l A l B m (i:Int)=some (.inr ())
 | 0,i,_,h=>absurd h (Yl _)
 | m+1,i,hi,h=>by
  unfold kQ
  by_cases hlt:i<l.length
  ·rw[show decide ((i:Int)<(l.length:Int))=true by simpa using hlt,XR,br,XN hlt,XM,XM,Mh,XM,ti o3]
   exact Ix n A B l hl m (i+1) o3 o3
  ·rw[show decide ((i:Int)<(l.length:Int))=false by simpa using hlt]
   rfl
theorem Iy (n:Nat) (A B:List aA) (l:List (Int×Int)) (hl:l.length<=4611686018427387904):∀ (m i:Nat),i<=l.length->l.length - i<m->kR n A l B l m (i:Int)=some (.inr ())
 | 0,i,_,h=>absurd h (Yl _)
 | m+1,i,hi,h=>by
  unfold kR
  by_cases hlt:i<l.length
  ·rw[show decide ((i:Int)<(l.length:Int))=true by simpa using hlt,XR,br,XN hlt,XM,XM,ti o3]
   simp only[Y5,YY,X7,XO]
   exact Iy n A B l hl m (i+1) o3 o3
  ·rw[show decide ((i:Int)<(l.length:Int))=false by simpa using hlt]
   rfl
theorem Mg (x:aD) (h1:x.Queue.length<=4611686018427387904) (h2:x.Apart.length<=4611686018427387904):KL x x=some true:=by
 unfold KL NR
 have e1:=Ix aE x.Apart x.Apart x.Queue h1 (aE+8) 0 (Ya _) s5
 have e2:=Iy aE x.Queue x.Queue x.Apart h2 (aE+8) 0 (Ya _) s5
 rw[show ((0:Nat):Int)=0 from rfl] at e1 e2
 simp only[Yy,XO,XM,e1,e2]
theorem RZ (x:aD):KK x=some (decide (x.Queue.length<=40)&&decide (x.Apart.length<=40)):=by
 unfold KK NO
 have e1:decide ((x.Queue.length:Int)<=40)=decide (x.Queue.length<=40):=XG
 have e2:decide ((x.Apart.length:Int)<=40)=decide (x.Apart.length<=40):=XG
 rw[e1,e2]
 cases decide (x.Queue.length<=40)<;>rfl
theorem EJ {T:Type} (l:List T):fk l 0 (l.length:Int)=some l:=by
 unfold fk
 simp
def qB (x:aD) (p:aA):aD×Int:=if uF x&&jY p then (aD.mk (x.Queue++[p]) x.Apart,0) else (aD.mk [] [],60)
theorem R0 (x:aD) (p:aA) (hq:x.Queue.length<=4095) (hA:x.Apart.length<=4611686018427387904):Kl x p=some (qB x p):=by
 unfold Kl N4 qB
 rw[JA x hA,XM,Mi]
 have e:((x.Queue.length:Int)==4096)=false:=r9
 cases uF x with
 | false=>rfl
 | true=>cases jY p with
  | false=>rfl
  | true=>
   simp only[e,EJ,XM]
   rw[dB _ _ _ x8]
   rfl
theorem R1 (x:aD) (p:aA) (hq:x.Queue.length<=4095) (hA:x.Apart.length<=4611686018427387904):KW x p=some (qB x p):=by
 unfold KW Oc qB
 rw[JB x hA,XM,Mj]
 have e:((x.Queue.length:Int)==4096)=false:=r9
 cases uF x with
 | false=>rfl
 | true=>cases jY p with
  | false=>rfl
  | true=>
   simp only[e]
   rw[dB 40 [] _ x8]
   simp only[YR,XM]
   rw[dB _ _ _ x8]
   rfl
theorem BL (x:aD) (p:aA) (hq:x.Queue.length<=4095) (hA:x.Apart.length<=4611686018427387904):(qB x p).1.Queue.length<=4611686018427387904/\(qB x p).1.Apart.length<=4611686018427387904:=by
 unfold qB
 split
 ·exact⟨r9,hA⟩
 ·exact⟨Ya _,Ya _⟩
theorem vm {a b:Int} (h:a≠b):(a != b)=true:=by simpa using h
theorem I6 {a b:Int} (h:a≠b):(a==b)=false:=by simpa using h
def xG (x:au):Bool:=x.Kind==1
def lC:List au->Option (aR⊕bh)
 | [x0,x1,x2,x3,x4]=>if x0.N=1/\[x0,x1,x2,x3,x4].all xG=true then some (.inl ⟨x1.N,x2.N,x3.N,x4.N⟩) else none
 | [x0,x1,x2,x3]=>if x0.N=2/\[x0,x1,x2,x3].all xG=true then some (.inr ⟨x1.N,x2.N,x3.N⟩) else none
 | _=>none
def msg (bs:List UInt8):Option (aR⊕bh):=if (jm bs).2=0/\(jm bs).1.Kind=3 then lC (jm bs).1.L else none
theorem RV {bs:List UInt8} (h:bs.length<=1100000):(jm bs).1.L.length<=1100000:=by
 rcases yR bs with ⟨v,e⟩ | e
 ·obtain ⟨_,_,_,h4⟩:=Ao h e
  rw[e]
  have:=eY v.L
  rw[ff] at h4
  show v.L.length<=_
  omega
 ·rw[e]; exact Ya _
theorem DV (n:Nat) (v:au) (hl:v.L.length<=1100000):∀ (m i:Nat) (acc:List Int),i<=v.L.length->v.L.length - i<m->acc.length<=i ->
  kZ n v m (i:Int) acc=some (if (v.L.drop i).all xG=true then .inr (acc++(v.L.drop i).map (·.N)) else .inl false)
 | 0,i,_,_,h,_=>absurd h (Yl _)
 | m+1,i,acc,hi,h,ha=>by
  rw[kZ]
  by_cases hlt:i<v.L.length
  ·rw[show decide ((i:Int)<(v.L.length:Int))=true by simpa using hlt,XR,br,XN hlt,XM,XM,X1 hlt,ZO,YW]
   by_cases hk:v.L[i].Kind=1
   ·rw[show (v.L[i].Kind != 1)=false by simp[hk],XO,dB _ _ _ x8,XM,ti o3,DV n v hl m (i+1) _ o3 o3 r9,show xG v.L[i]=true by simp[xG,hk],Yi]
    simp
   ·rw[vm hk,show xG v.L[i]=false by simp[xG,hk]]; rfl
  ·rw[show decide ((i:Int)<(v.L.length:Int))=false by simpa using hlt,XO,Yd.2 o3]
   simp
theorem Ns (bs:List UInt8) (h:bs.length<=1100000):Kn bs=some (if (jm bs).2=0/\(jm bs).1.Kind=3/\(jm bs).1.L.all xG=true then ((jm bs).1.L.map (·.N),true) else ([],false)):=by
 unfold Kn Om
 rw[Xb bs h,XM]
 have hl:=RV h
 by_cases h0:(jm bs).2=0
 ·by_cases h3:(jm bs).1.Kind=3
  ·simp only[h0,h3,Yy,XO,XM]
   have hw:=DV aE (jm bs).1 hl (aE+8) 0 [] (Ya _) s5 (XP _)
   rw[show ((0:Nat):Int)=0 from rfl,Yn] at hw
   rw[hw]
   cases (jm bs).1.L.all xG<;>simp
  ·rw[XW (fun hh=>h3 hh.2.1),h0,vm h3]; rfl
 ·rw[XW (fun hh=>h0 hh.1),vm h0]; rfl
theorem Nk (bs:List UInt8) (h:bs.length<=1100000):Kk bs=some (match msg bs with | some (.inl c)=>(c,true) | _=>(⟨0,0,0,0⟩,false)):=by
 unfold Kk NX msg
 rw[Ns bs h,XM]
 generalize jm bs=v
 obtain ⟨v,e⟩:=v
 by_cases h0:e=0/\v.Kind=3
 ·simp only[h0.1,h0.2,ZK,ZS,and_self]
  match v.L with
  | []=>rfl
  | [_]=>simp only[lC]; split<;>rfl
  | [_,_]=>simp only[lC]; split<;>rfl
  | [_,_,_]=>simp only[lC]; split<;>rfl
  | [x0,x1,x2,x3]=>simp only[lC]; split<;>split<;>first | rfl | (rename_i q; split at q<;>cases q)
  | [x0,x1,x2,x3,x4]=>
   simp only[lC]
   by_cases ha:[x0,x1,x2,x3,x4].all xG=true
   ·by_cases hk:x0.N=1
    ·rw[XX ha,XX ⟨hk,ha⟩]; simp[hk,bL]
    ·rw[XX ha,XW (fun q=>hk q.1)]
     simp only[YW,qaE,X7,XO,XM,show bL [x0.N,x1.N,x2.N,x3.N,x4.N] 0=some x0.N from rfl,vm hk]
     rfl
   ·rw[XW ha,XW (fun q=>ha q.2)]; rfl
  | y0 :: y1 :: y2 :: y3 :: y4 :: y5 :: l=>
   simp only[lC]
   split
   ·have:(((List.map (fun x:au=>x.N) (y0 :: y1 :: y2 :: y3 :: y4 :: y5 :: l)).length:Int) != 5)=true:=by simp; omega
    simp only[X7,XO,this,XM,XR]
   ·rfl
 ·rw[XW h0,XW (fun q=>h0 ⟨q.1,q.2.1⟩)]; rfl
theorem Nt (bs:List UInt8) (h:bs.length<=1100000):Kj bs=some (match msg bs with | some (.inr c)=>(c,true) | _=>(⟨0,0,0⟩,false)):=by
 unfold Kj NW msg
 rw[Ns bs h,XM]
 generalize jm bs=v
 obtain ⟨v,e⟩:=v
 by_cases h0:e=0/\v.Kind=3
 ·simp only[h0.1,h0.2,ZK,ZS,and_self]
  match v.L with
  | []=>rfl
  | [_]=>simp only[lC]; split<;>rfl
  | [_,_]=>simp only[lC]; split<;>rfl
  | [_,_,_]=>simp only[lC]; split<;>rfl
  | [x0,x1,x2,x3,x4]=>simp only[lC]; split<;>split<;>first | rfl | (rename_i q; split at q<;>cases q)
  | [x0,x1,x2,x3]=>
   simp only[lC]
   by_cases ha:[x0,x1,x2,x3].all xG=true
   ·by_cases hk:x0.N=2
    ·rw[XX ha,XX ⟨hk,ha⟩]; simp[hk,bL]
    ·rw[XX ha,XW (fun q=>hk q.1)]
     simp only[YW,qaE,X7,XO,XM,show bL [x0.N,x1.N,x2.N,x3.N] 0=some x0.N from rfl,vm hk]
     rfl
   ·rw[XW ha,XW (fun q=>ha q.2)]; rfl
  | y0 :: y1 :: y2 :: y3 :: y4 :: y5 :: l=>
   simp only[lC]
   split
   ·have:(((List.map (fun x:au=>x.N) (y0 :: y1 :: y2 :: y3 :: y4 :: y5 :: l)).length:Int) != 4)=true:=by simp; omega
    simp only[X7,XO,this,XM,XR]
   ·rfl
 ·rw[XW h0,XW (fun q=>h0 ⟨q.1,q.2.1⟩)]; rfl
theorem q1:wr .i64 (0+1)=1:=by decide +kernel
theorem q2:wr .i64 (1+1)=2:=by decide +kernel
theorem q3:wr .i64 (2+1)=3:=by decide +kernel
theorem q4:wr .i64 (3+1)=4:=by decide +kernel
theorem q5:wr .i64 (4+1)=5:=by decide +kernel
theorem Jv (n:Nat) (z:Bool) (x0 x1 x2 x3 x4:au) (z1 z2 z3:Int) (z4:au) (a b c d e:Int) (m:Nat) :
  (dU n z [x0,x1,x2,x3,x4] 5 z1 z2 z3 z4 (m+6) 0 a b c d e=some (.inr (x0.N,x1.N,x2.N,x3.N,x4.N))/\[x0,x1,x2,x3,x4].all xG=true) ∨
  (∃ t,dU n z [x0,x1,x2,x3,x4] 5 z1 z2 z3 z4 (m+6) 0 a b c d e=some (.inl (false,t)))/\[x0,x1,x2,x3,x4].all xG=false:=by
 have g0:bL [x0,x1,x2,x3,x4] 0=some x0:=rfl
 have g1:bL [x0,x1,x2,x3,x4] 1=some x1:=rfl
 have g2:bL [x0,x1,x2,x3,x4] 2=some x2:=rfl
 have g3:bL [x0,x1,x2,x3,x4] 3=some x3:=rfl
 have g4:bL [x0,x1,x2,x3,x4] 4=some x4:=rfl
 simp only[ZO,List.all_nil,xG]
 rw[dU]
 simp only[Int.reduceEq,Int.reduceLT,Y6,Zp,XR,XO,XM,g0,q1,bne]
 cases x0.Kind==1
 ·exact .inr ⟨⟨_,rfl⟩,rfl⟩
 simp only[X7,XO]
 rw[dU]
 simp only[Int.reduceEq,Int.reduceLT,Y6,Zp,XR,XO,XM,g1,q2,bne]
 cases x1.Kind==1
 ·exact .inr ⟨⟨_,rfl⟩,rfl⟩
 simp only[X7,XO]
 rw[dU]
 simp only[Int.reduceEq,Int.reduceLT,Y6,Zp,XR,XO,XM,g2,q3,bne]
 cases x2.Kind==1
 ·exact .inr ⟨⟨_,rfl⟩,rfl⟩
 simp only[X7,XO]
 rw[dU]
 simp only[Int.reduceEq,Int.reduceLT,Y6,Zp,XR,XO,XM,g3,q4,bne]
 cases x3.Kind==1
 ·exact .inr ⟨⟨_,rfl⟩,rfl⟩
 simp only[X7,XO]
 rw[dU]
 simp only[Int.reduceEq,Int.reduceLT,Y6,Zp,XR,XO,XM,g4,q5,bne]
 cases x4.Kind==1
 ·exact .inr ⟨⟨_,rfl⟩,rfl⟩
 simp only[X7,XO]
 rw[dU]
 exact .inl ⟨rfl,rfl⟩
theorem FC (n:Nat) (z:Bool) (x0 x1 x2 x3:au) (z1 z2 z3 z5:Int) (z4:au) (a b c d:Int) (m:Nat) :
  (dM n z [x0,x1,x2,x3] 4 z1 z2 z3 z5 z4 (m+5) 0 a b c d=some (.inr (x0.N,x1.N,x2.N,x3.N))/\[x0,x1,x2,x3].all xG=true) ∨
  (∃ t,dM n z [x0,x1,x2,x3] 4 z1 z2 z3 z5 z4 (m+5) 0 a b c d=some (.inl (false,t)))/\[x0,x1,x2,x3].all xG=false:=by
 have g0:bL [x0,x1,x2,x3] 0=some x0:=rfl
 have g1:bL [x0,x1,x2,x3] 1=some x1:=rfl
 have g2:bL [x0,x1,x2,x3] 2=some x2:=rfl
 have g3:bL [x0,x1,x2,x3] 3=some x3:=rfl
 simp only[ZO,List.all_nil,xG]
 rw[dM]
 simp only[Int.reduceEq,Int.reduceLT,Y6,Zp,XR,XO,XM,g0,q1,bne]
 cases x0.Kind==1
 ·exact .inr ⟨⟨_,rfl⟩,rfl⟩
 simp only[X7,XO]
 rw[dM]
 simp only[Int.reduceEq,Int.reduceLT,Y6,Zp,XR,XO,XM,g1,q2,bne]
 cases x1.Kind==1
 ·exact .inr ⟨⟨_,rfl⟩,rfl⟩
 simp only[X7,XO]
 rw[dM]
 simp only[Int.reduceEq,Int.reduceLT,Y6,Zp,XR,XO,XM,g2,q3,bne]
 cases x2.Kind==1
 ·exact .inr ⟨⟨_,rfl⟩,rfl⟩
 simp only[X7,XO]
 rw[dM]
 simp only[Int.reduceEq,Int.reduceLT,Y6,Zp,XR,XO,XM,g3,q4,bne]
 cases x3.Kind==1
 ·exact .inr ⟨⟨_,rfl⟩,rfl⟩
 simp only[X7,XO]
 rw[dM]
 exact .inl ⟨rfl,rfl⟩
theorem Jy {x:au} {l:List au} (hk:x.N=1) (hl:l.length≠4):lC (x :: l)=none:=by
 match l with
 | []=>rfl
 | [_]=>rfl
 | [_,_]=>rfl
 | [_,_,_]=>simp only[lC]; exact XW (fun q=>o3)
 | [_,_,_,_]=>exact absurd rfl hl
 | _ :: _ :: _ :: _ :: _ :: _=>rfl
theorem Jz {x:au} {l:List au} (hk:x.N≠1) (hl:l.length≠3∨x.N≠2):lC (x :: l)=none:=by
 match l with
 | []=>rfl
 | [_]=>rfl
 | [_,_]=>rfl
 | [_,_,_]=>simp only[lC]; exact XW (fun q=>by rcases hl with h | h; exact h rfl; exact h q.1)
 | [_,_,_,_]=>simp only[lC]; exact XW (fun q=>hk q.1)
 | _ :: _ :: _ :: _ :: _ :: _=>rfl
theorem Nq (bs:List UInt8) (h:bs.length<=1100000):∃ r,Kh bs=some r/\match msg bs with | some (.inl c)=>r=(⟨1,c,⟨0,0,0⟩⟩,true) | some (.inr c)=>r=(⟨2,⟨0,0,0,0⟩,c⟩,true) | none=>r.2=false:=by
 unfold Kh NT msg
 rw[Xa bs h,XM]
 generalize jm bs=v
 obtain ⟨v,e⟩:=v
 by_cases h0:e=0
 ·subst h0
  by_cases h3:v.Kind=3
  ·rw[XX ⟨rfl,h3⟩]
   simp only[h3,Yy,XO,XM]
   match v.L with
   | []=>exact⟨_,rfl,rfl⟩
   | x :: L'=>
    have hne:(((x :: L').length:Int)==0)=false:=r9
    simp only[hne,XO,XM,show bL (x :: L') 0=some x from rfl]
    by_cases hk:x.N=1
    ·simp only[hk,Y5,XR,Yy,XO,XM]
     by_cases hl:L'.length=4
     ·obtain ⟨x1,x2,x3,x4,rfl⟩:∃ x1 x2 x3 x4,L'=[x1,x2,x3,x4]:=by
       match L',hl with | [x1,x2,x3,x4],_=>exact⟨x1,x2,x3,x4,rfl⟩
      have e5:((([x,x1,x2,x3,x4]:List au).length:Int))=5:=rfl
      simp only[e5,Yy,XO]
      simp only[lC]
      rcases Jv aE false x x1 x2 x3 x4 0 0 0 v 1 0 0 0 0 (aE+2) with ⟨hw,ha⟩ | ⟨⟨⟨t1,t2,t3,t4,t5⟩,hw⟩,ha⟩
      ·rw[hw,XX ⟨hk,ha⟩]
       exact⟨_,rfl,by simp only[hk]⟩
      ·rw[hw,XW (fun q=>by rw[ha] at q; exact absurd q.2 Bool.false_ne_true)]
       exact⟨_,rfl,rfl⟩
     ·rw[Jy hk hl,show (((x :: L').length:Int) != 5)=true by simp; omega]
      exact⟨_,rfl,rfl⟩
    ·simp only[I6 hk,XO,vm hk,XR,XM]
     by_cases hl:L'.length=3/\x.N=2
     ·obtain ⟨hl,h2⟩:=hl
      obtain ⟨x1,x2,x3,rfl⟩:∃ x1 x2 x3,L'=[x1,x2,x3]:=by
       match L',hl with | [x1,x2,x3],_=>exact⟨x1,x2,x3,rfl⟩
      have e5:((([x,x1,x2,x3]:List au).length:Int))=4:=rfl
      simp only[e5,h2,Yy,XO,XM]
      simp only[lC]
      rcases FC aE false x x1 x2 x3 0 0 0 0 v 2 0 0 0 (aE+3) with ⟨hw,ha⟩ | ⟨⟨⟨t1,t2,t3,t4⟩,hw⟩,ha⟩
      ·rw[hw,XX ⟨h2,ha⟩]
       exact⟨_,rfl,by simp only[h2]⟩
      ·rw[hw,XW (fun q=>by rw[ha] at q; exact absurd q.2 Bool.false_ne_true)]
       exact⟨_,rfl,rfl⟩
     ·rw[Jz hk o3]
      by_cases h2:x.N=2
      ·rw[h2,show (((x :: L').length:Int) != 4)=true by simp; omega]
       exact⟨_,rfl,rfl⟩
      ·rw[vm h2]; exact⟨_,rfl,rfl⟩
  ·rw[XW (fun q=>h3 q.2),vm h3]; exact⟨_,rfl,rfl⟩
 ·rw[XW (fun q=>h0 q.1),vm h0]; exact⟨_,rfl,rfl⟩
section
def kG (a lo hi:Int):Bool:=decide (lo<=a)&&decide (a<=hi)
theorem Ha (a lo hi:Int):zU a lo hi=some (kG a lo hi):=by
 unfold zU NP kG
 cases decide (lo<=a)<;>rfl
theorem Hb (a lo hi:Int):BS a lo hi=some (kG a lo hi):=by
 unfold BS N8 kG
 cases decide (lo<=a)<;>rfl
def gh (c:aR) (n:Int):Bool:=kG c.No 0 1048576&&kG c.Role 0 (wr .i64 (n - 1))&&kG c.Bar 0 4095&&kG c.Program 1 8
theorem Nn (c:aR) (n:Int):IK c n=some (gh c n):=by
 unfold IK N3 gh
 simp only[Ha,XM]
 cases kG c.No 0 1048576<;>cases kG c.Role 0 (wr .i64 (n - 1))<;>cases kG c.Bar 0 4095<;>rfl
theorem Np (c:aR) (n:Int):Kr c n=some (gh c n):=by
 unfold Kr Ov gh
 simp only[Hb,XM]
 cases kG c.No 0 1048576<;>cases kG c.Role 0 (wr .i64 (n - 1))<;>cases kG c.Bar 0 4095<;>rfl
theorem mj {c:aR} {n:Int} (h:gh c n=true):0<=c.Bar/\c.Bar<=4095:=by
 unfold gh kG at h
 simp only[XQ,XV] at h
 exact h.1.2
def qw:List Int->List Int->Bool
 | a :: l,b :: m=>kG a 0 8&&!((b != a)&&(b != 0))&&qw l m
 | _,_=>true
theorem Im (n:Nat) (x:bj) (hl:x.Got.length<=4611686018427387904) (hd:x.Did.length=x.Got.length):∀ (m i:Nat),i<=x.Got.length->x.Got.length - i<m ->
  kT n x.Got (x.Got.length:Int) x m (i:Int)=some (bif qw (x.Got.drop i) (x.Did.drop i) then .inr () else .inl false)
 | 0,i,_,h=>absurd h (Yl _)
 | m+1,i,hi,h=>by
  rw[kT]
  by_cases hlt:i<x.Got.length
  ·have hlt':i<x.Did.length:=by omega
   rw[show decide ((i:Int)<(x.Got.length:Int))=true by simpa using hlt,XR,br,br,XN hlt,XN hlt',XM,Ha,XM,X1 hlt,X1 hlt',ti o3,Im n x hl hd m (i+1) o3 o3]
   simp only[qw,XM]
   cases kG x.Got[i] 0 8<;>cases (x.Did[i] != x.Got[i])<;>cases (x.Did[i] != 0)<;>simp
  ·rw[show decide ((i:Int)<(x.Got.length:Int))=false by simpa using hlt,XO,Yd.2 o3]
   rfl
theorem DZ (n:Nat) (w:aw) (x:bj) (hg:(x.Got.length:Int)=w.Bar) (hl:x.Got.length<=4611686018427387904) (hd:x.Did.length=x.Got.length):∀ (m i:Nat),i<=x.Got.length->x.Got.length - i<m ->
  kX n w x m (i:Int)=some (bif qw (x.Got.drop i) (x.Did.drop i) then .inr () else .inl false)
 | 0,i,_,h=>absurd h (Yl _)
 | m+1,i,hi,h=>by
  rw[kX,<-hg]
  by_cases hlt:i<x.Got.length
  ·have hlt':i<x.Did.length:=by omega
   rw[show decide ((i:Int)<(x.Got.length:Int))=true by simpa using hlt,XR,br,br,XN hlt,XN hlt',XM,Hb,XM,X1 hlt,X1 hlt',ti o3,DZ n w x hg hl hd m (i+1) o3 o3]
   simp only[qw,XM]
   cases kG x.Got[i] 0 8<;>cases (x.Did[i] != x.Got[i])<;>cases (x.Did[i] != 0)<;>simp
  ·rw[show decide ((i:Int)<(x.Got.length:Int))=false by simpa using hlt,XO,Yd.2 o3]
   rfl
def mR (role n:Int):Int->List aR->Bool
 | _,[]=>true
 | lo,c :: l=>gh c n&&(c.Role==role)&&!decide (c.Bar<lo)&&mR role n (c.Bar+1) l
theorem Ik (n:Nat) (role k:Int) (z:Bool) (x:bj) (hl:x.Cues.length<=4611686018427387904):∀ (m i:Nat) (lo:Int),i<=x.Cues.length->x.Cues.length - i<m ->
  kU n role k z x.Cues (x.Cues.length:Int) x m lo (i:Int)=some (bif mR role k lo (x.Cues.drop i) then .inr () else .inl false)
 | 0,i,_,_,h=>absurd h (Yl _)
 | m+1,i,lo,hi,h=>by
  rw[kU]
  by_cases hlt:i<x.Cues.length
  ·rw[show decide ((i:Int)<(x.Cues.length:Int))=true by simpa using hlt,XR,br,XN hlt,XM,Nn,XM,X1 hlt,ti o3]
   simp only[mR]
   cases hr:gh x.Cues[i] k with
   | false=>rfl
   | true=>
    obtain ⟨b1,b2⟩:=mj hr
    rw[dn o3 o3,Ik n role k z x hl m (i+1) _ o3 o3]
    simp only[bne]
    cases (x.Cues[i].Role==role)<;>cases decide (x.Cues[i].Bar<lo)<;>simp
  ·rw[show decide ((i:Int)<(x.Cues.length:Int))=false by simpa using hlt,XO,Yd.2 o3]
   rfl
theorem DX (n:Nat) (role:Int) (z:Bool) (w:aw) (x:bj) (hl:x.Cues.length<=4611686018427387904):∀ (m i:Nat) (lo:Int),i<=x.Cues.length->x.Cues.length - i<m->w.Bar<=lo->(i=0->lo=w.Bar)->(∀ c,0<i->x.Cues[i - 1]? = some c->lo=c.Bar+1) ->
  kY n role z w x m (i:Int)=some (bif mR role (w.Ears.length:Int) lo (x.Cues.drop i) then .inr () else .inl false)
 | 0,i,_,_,h,_,_,_=>absurd h (Yl _)
 | m+1,i,lo,hi,h,h1,h2,h3=>by
  rw[kY]
  by_cases hlt:i<x.Cues.length
  ·rw[show decide ((i:Int)<(x.Cues.length:Int))=true by simpa using hlt,XR,br,XN hlt,XM,Np,XM,X1 hlt,ti o3]
   simp only[mR]
   cases hr:gh x.Cues[i] (w.Ears.length:Int) with
   | false=>rfl
   | true=>
    obtain ⟨b1,b2⟩:=mj hr
    simp only[bne,X7,XO,XM,Yi]
    cases hro:(x.Cues[i].Role==role) with
    | false=>rfl
    | true=>
     simp only[X7,XO,XM,Yi]
     by_cases hlo:x.Cues[i].Bar<lo
     ·rw[XT hlo]
      by_cases hb:x.Cues[i].Bar<w.Bar
      ·rw[XT hb]; rfl
      ·rw[XZ hb]
       have h0:0<i:=by
        rcases Z0 i with q | q
        ·have:=h2 q; omega
        ·exact q
       have hp:i - 1<x.Cues.length:=o3
       have hq:=h3 _ h0 (XN hp)
       rw[show decide ((0:Int)<(i:Int))=true by simpa using h0]
       simp only[XO,XR]
       rw[dn o3 o3,show (i:Int) - 1=((i - 1:Nat):Int) by omega,br,XN hp,XM,XT o3]
       rfl
     ·rw[XZ hlo,XZ (by omega:¬ x.Cues[i].Bar<w.Bar)]
      have ih:=DX n role z w x hl m (i+1) (x.Cues[i].Bar+1) o3 o3 o3 o3 (fun c _ hc=>by
       rw[qao,XN hlt] at hc
       rw[Option.some.inj hc])
      by_cases h0:0<i
      ·have hp:i - 1<x.Cues.length:=by omega
       have hq:=h3 _ h0 (XN hp)
       rw[show decide ((0:Int)<(i:Int))=true by simpa using h0]
       simp only[XO,XR,Zj,Yi]
       rw[dn o3 o3,show (i:Int) - 1=((i - 1:Nat):Int) by omega,br,XN hp,XM,XZ o3]
       exact ih
      ·rw[show decide ((0:Int)<(i:Int))=false by simpa using h0]
       exact ih
  ·rw[show decide ((i:Int)<(x.Cues.length:Int))=false by simpa using hlt,XO,Yd.2 o3]
   rfl
def n6 (x:bj) (role n bar:Int):Bool:=(x.Got.length:Int)==bar&&(x.Did.length:Int)==bar&&qw x.Got x.Did&&mR role n bar x.Cues
theorem S4 (x:bj) (role n bar:Int) (h1:x.Got.length<=4611686018427387904) (h2:x.Cues.length<=4611686018427387904):KT x role n bar=some (n6 x role n bar):=by
 unfold KT N6 n6
 simp only[bne]
 cases hg:((x.Got.length:Int)==bar) with
 | false=>rfl
 | true=>cases hd:((x.Did.length:Int)==bar) with
  | false=>rfl
  | true=>
   have e1:=eq_of_beq hg; have e2:=eq_of_beq hd
   have w1:=Im aE x h1 o3 (aE+8) 0 (Ya _) s5
   have w2:=Ik aE role n false x h2 (aE+8) 0 bar (Ya _) s5
   rw[show ((0:Nat):Int)=0 from rfl,Yn] at w1 w2
   rw[Yn] at w1
   simp only[X7,XO,XM,w1,w2,Yi]
   cases qw x.Got x.Did<;>cases mR role n bar x.Cues<;>rfl
theorem S5 (w:aw) (role:Nat) (hr:role<w.Ears.length) (h1:w.Ears[role].Got.length<=4611686018427387904) (h2:w.Ears[role].Cues.length<=4611686018427387904):KU w (role:Int)=some (n6 w.Ears[role] role (w.Ears.length:Int) w.Bar):=by
 unfold KU Oa n6
 rw[br,XN hr,XM]
 generalize w.Ears[role]=x at *
 simp only[bne]
 cases hg:((x.Got.length:Int)==w.Bar) with
 | false=>rfl
 | true=>cases hd:((x.Did.length:Int)==w.Bar) with
  | false=>rfl
  | true=>
   have e1:=eq_of_beq hg; have e2:=eq_of_beq hd
   have w1:=DZ aE w x e1 h1 o3 (aE+8) 0 (Ya _) s5
   have w2:=DX aE role false w x h2 (aE+8) 0 w.Bar (Ya _) s5 (qaM _) (fun _=>rfl) (fun _ h=>absurd h (ZI _))
   rw[show ((0:Nat):Int)=0 from rfl,Yn] at w1 w2
   rw[Yn] at w1
   simp only[X7,XO,XM,w1,w2,Yi]
   cases qw x.Got x.Did<;>cases mR role (w.Ears.length:Int) w.Bar x.Cues<;>rfl
def Fi (w:aw) (r:bh):Bool:=match bL w.Ears r.Role with
 | some y=>match bL y.Did r.Bar with
  | some d=>d==r.Program
  | none=>false
 | none=>false
def xY (w:aw) (p:aA):Bool:=match msg p.Data with
 | some (.inl c)=>gh c (w.Ears.length:Int)&&(p.From==0)&&(p.To==wr .i64 (c.Role+1))
 | some (.inr r)=>kG r.Role 0 ((w.Ears.length:Int) - 1)&&kG r.Bar 0 (w.Bar - 1)&&(p.From==wr .i64 (r.Role+1))&&(p.To==0)&&Fi w r
 | none=>false
def BX (w:aw):Prop:=∀ x∈w.Ears,(x.Did.length:Int)=w.Bar
theorem Ll {w:aw} {r:bh} (he:BX w) (h1:kG r.Role 0 ((w.Ears.length:Int) - 1)=true) (h2:kG r.Bar 0 (w.Bar - 1)=true):(Option.bind (bL w.Ears r.Role) fun y=>Option.bind (bL y.Did r.Bar) fun z=>some (z==r.Program))=some (Fi w r):=by
 unfold kG at h1 h2
 simp only[XQ,XV] at h1 h2
 unfold Fi
 have e1:r.Role=((r.Role.toNat:Nat):Int):=o3
 have e2:r.Bar=((r.Bar.toNat:Nat):Int):=o3
 have l1:r.Role.toNat<w.Ears.length:=o3
 rw[e1,br,XN l1]
 have l2:r.Bar.toNat<w.Ears[r.Role.toNat].Did.length:=by have:=he _ (Ys l1); omega
 simp only[XM]
 rw[e2,br,XN l2]
 rfl
theorem S6 (w:aw) (p:aA) (he:BX w) (hn:w.Ears.length<=12) (hb:-1<=w.Bar/\w.Bar<=4096) (hp:p.Data.length<=1100000):KV w p=some (xY w p):=by
 unfold KV Ob xY
 rw[Nk _ hp,Nt _ hp]
 simp only[Np,Hb,XM]
 rw[dn (n:=(w.Ears.length:Int) - 1) o3 o3,dn (n:=w.Bar - 1) o3 o3]
 match msg p.Data with
 | none=>cases (p.From==0)<;>rfl
 | some (.inl c)=>
  simp only
  cases (p.From==0) with
  | false=>simp
  | true=>cases gh c (w.Ears.length:Int)<;>simp
 | some (.inr r)=>
  simp only
  by_cases h0:p.From=0
  ·simp only[h0,Y5,XR,XO,XM]
   cases hr:kG r.Role 0 ((w.Ears.length:Int) - 1) with
   | false=>rfl
   | true=>
    unfold kG at hr
    simp only[XQ,XV] at hr
    rw[dn o3 o3,I6 (by omega:(0:Int)≠r.Role+1)]
    simp
  ·simp only[I6 h0,XO,XR,XM]
   cases hr:kG r.Role 0 ((w.Ears.length:Int) - 1) with
   | false=>cases (p.To==0)<;>cases (p.From==wr .i64 (r.Role+1))<;>rfl
   | true=>cases hb':kG r.Bar 0 (w.Bar - 1) with
    | false=>cases (p.To==0)<;>cases (p.From==wr .i64 (r.Role+1))<;>rfl
    | true=>
     have hd:=Ll he hr hb'
     cases (p.To==0)<;>cases (p.From==wr .i64 (r.Role+1))<;>simp[hd]
theorem Il (n:Nat) (z:Int) (w:aw) (hl:w.Ears.length<=12) (hg:∀ x∈w.Ears,x.Got.length<=4611686018427387904/\x.Cues.length<=4611686018427387904):∀ (m i:Nat),i<=w.Ears.length->w.Ears.length - i<m ->
  kK n z (w.Ears.length:Int) w.Ears (w.Ears.length:Int) w m (i:Int)=some (if ∀ j (h:j<w.Ears.length),i<=j->n6 w.Ears[j] j (w.Ears.length:Int) w.Bar=true then .inr () else .inl 490)
 | 0,i,_,h=>absurd h (Yl _)
 | m+1,i,hi,h=>by
  rw[kK]
  by_cases hlt:i<w.Ears.length
  ·obtain ⟨a1,a2⟩:=hg _ (Ys hlt)
   rw[show decide ((i:Int)<(w.Ears.length:Int))=true by simpa using hlt,XR,br,XN hlt,XM,S4 _ _ _ _ a1 a2,XM]
   cases he:n6 w.Ears[i] i (w.Ears.length:Int) w.Bar with
   | false=>
    rw[XW (fun q=>by rw[q i hlt (XP _)] at he; cases he)]; rfl
   | true=>
    rw[ti o3,Il n z w hl hg m (i+1) o3 o3]
    simp only[X7,XO]
    refine YF some (ite_congr (propext ⟨fun q j hj hij=>?_,fun q j hj hij=>q j hj o3⟩) (fun _=>rfl) (fun _=>rfl))
    rcases Nat.eq_or_lt_of_le hij with rfl | h2
    ·exact he
    ·exact q j hj h2
  ·rw[show decide ((i:Int)<(w.Ears.length:Int))=false by simpa using hlt,XO,XX (fun j hj hij=>o3)]
theorem DY (n:Nat) (w:aw) (hl:w.Ears.length<=12) (hg:∀ x∈w.Ears,x.Got.length<=4611686018427387904/\x.Cues.length<=4611686018427387904):∀ (m i:Nat),i<=w.Ears.length->w.Ears.length - i<m ->
  kO n w m (i:Int)=some (if ∀ j (h:j<w.Ears.length),i<=j->n6 w.Ears[j] j (w.Ears.length:Int) w.Bar=true then .inr () else .inl 490)
 | 0,i,_,h=>absurd h (Yl _)
 | m+1,i,hi,h=>by
  rw[kO]
  by_cases hlt:i<w.Ears.length
  ·obtain ⟨a1,a2⟩:=hg _ (Ys hlt)
   rw[show decide ((i:Int)<(w.Ears.length:Int))=true by simpa using hlt,XR,S5 _ _ hlt a1 a2,XM]
   cases he:n6 w.Ears[i] i (w.Ears.length:Int) w.Bar with
   | false=>
    rw[XW (fun q=>by rw[q i hlt (XP _)] at he; cases he)]; rfl
   | true=>
    rw[ti o3,DY n w hl hg m (i+1) o3 o3]
    simp only[X7,XO]
    refine YF some (ite_congr (propext ⟨fun q j hj hij=>?_,fun q j hj hij=>q j hj o3⟩) (fun _=>rfl) (fun _=>rfl))
    rcases Nat.eq_or_lt_of_le hij with rfl | h2
    ·exact he
    ·exact q j hj h2
  ·rw[show decide ((i:Int)<(w.Ears.length:Int))=false by simpa using hlt,XO,XX (fun j hj hij=>o3)]
theorem Iq (n:Nat) (z:Int) (w:aw) (he:BX w) (hn:w.Ears.length<=12) (hb:-1<=w.Bar/\w.Bar<=4096) (hp:∀ p∈w.Net.Queue,p.Data.length<=1100000) (hq:w.Net.Queue.length<=4096):∀ (m i:Nat),i<=w.Net.Queue.length->w.Net.Queue.length - i<m ->
  iT n z (w.Ears.length:Int) w.Net.Queue (w.Net.Queue.length:Int) w m (i:Int)=some (bif (w.Net.Queue.drop i).all (xY w) then .inr () else .inl 490)
 | 0,i,_,h=>absurd h (Yl _)
 | m+1,i,hi,h=>by
  rw[iT]
  by_cases hlt:i<w.Net.Queue.length
  ·obtain ⟨r,hr,hm⟩:=Nq w.Net.Queue[i].Data (hp _ (Ys hlt))
   rw[show decide ((i:Int)<(w.Net.Queue.length:Int))=true by simpa using hlt,XR,br,XN hlt,XM,hr,XM,X1 hlt,ZO,ti o3,Iq n z w he hn hb hp hq m (i+1) o3 o3]
   simp only[Nn,Ha,XM]
   rw[dn (n:=(w.Ears.length:Int) - 1) o3 o3,dn (n:=w.Bar - 1) o3 o3]
   unfold xY
   generalize w.Net.Queue[i]=p at *
   match hg:msg p.Data,hm with
   | none,hm=>
    simp only[show r.2=false from hm]
    simp
   | some (.inl c),hm=>
    simp only at hm
    subst hm
    simp only[Y5,XR,XM]
    cases gh c (w.Ears.length:Int)<;>cases (p.From==0)<;>cases (p.To==wr .i64 (c.Role+1))<;>simp
   | some (.inr c),hm=>
    simp only at hm
    subst hm
    simp only[show ((2:Int)==1)=false from rfl,XR,XO,XM]
    cases hr':kG c.Role 0 ((w.Ears.length:Int) - 1) with
    | false=>simp
    | true=>cases hb':kG c.Bar 0 (w.Bar - 1) with
     | false=>simp
     | true=>
      have hd:=Ll he hr' hb'
      simp only[XR,XM]
      cases (p.From==wr .i64 (c.Role+1)) with
      | false=>simp
      | true=>cases (p.To==0) with
       | false=>simp
       | true=>
        simp only[XR,XM,hd]
        cases Fi w c<;>simp
  ·rw[show decide ((i:Int)<(w.Net.Queue.length:Int))=false by simpa using hlt,XO,Yd.2 o3]
   rfl
theorem D0 (n:Nat) (w:aw) (he:BX w) (hn:w.Ears.length<=12) (hb:-1<=w.Bar/\w.Bar<=4096) (hp:∀ p∈w.Net.Queue,p.Data.length<=1100000) (hq:w.Net.Queue.length<=4096):∀ (m i:Nat),i<=w.Net.Queue.length->w.Net.Queue.length - i<m ->
  kP n w m (i:Int)=some (bif (w.Net.Queue.drop i).all (xY w) then .inr () else .inl 490)
 | 0,i,_,h=>absurd h (Yl _)
 | m+1,i,hi,h=>by
  rw[kP]
  by_cases hlt:i<w.Net.Queue.length
  ·rw[show decide ((i:Int)<(w.Net.Queue.length:Int))=true by simpa using hlt,XR,br,XN hlt,XM,S6 w _ he hn hb (hp _ (Ys hlt)),XM,X1 hlt,ZO,ti o3,D0 n w he hn hb hp hq m (i+1) o3 o3]
   cases xY w w.Net.Queue[i]<;>simp
  ·rw[show decide ((i:Int)<(w.Net.Queue.length:Int))=false by simpa using hlt,XO,Yd.2 o3]
   rfl
def okW (w:aw):Prop:=(1<=w.Ears.length/\w.Ears.length<=12)/\(0<=w.Bar/\w.Bar<=4096)/\uF w.Net=true/\(∀ j (h:j<w.Ears.length),n6 w.Ears[j] j (w.Ears.length:Int) w.Bar=true)/\w.Net.Queue.all (xY w)=true
def Fit (w:aw):Prop:=w.Net.Apart.length<=4611686018427387904/\∀ x∈w.Ears,x.Got.length<=4611686018427387904/\x.Cues.length<=4611686018427387904
open Classical in
noncomputable def qI (w:aw):Int:=if okW w then 0 else 490
theorem pe {w:aw} (h:okW w):qI w=0:=XX h
theorem fi {w:aw} (h:¬ okW w):qI w=490:=XW h
theorem FI {p:aA} (h:jY p=true):p.Data.length<=1100000:=by
 unfold jY at h
 simp only[XQ,XV] at h
 omega
theorem sE {x:aD} (h:uF x=true):x.Queue.length<=4096/\∀ p∈x.Queue,p.Data.length<=1100000:=by
 unfold uF at h
 simp only[XQ,XV,X0] at h
 exact⟨h.1.1,fun p hp=>FI (h.1.2 p hp)⟩
theorem Av {w:aw} (h:∀ j (h:j<w.Ears.length),n6 w.Ears[j] j (w.Ears.length:Int) w.Bar=true):BX w:=fun x hx=>by
 obtain ⟨j,hj,rfl⟩:=YI hx
 have:=h j hj
 unfold n6 at this
 simp only[XQ] at this
 exact eq_of_beq this.1.1.2
theorem Ka (w:aw) (hf:Fit w):EV w=some (qI w):=by
 unfold EV NM
 simp only[Ha,JA _ hf.1,XM]
 by_cases h1:1<=w.Ears.length/\w.Ears.length<=12
 ·have e1:kG (w.Ears.length:Int) 1 12=true:=by unfold kG; simp; omega
  by_cases h2:0<=w.Bar/\w.Bar<=4096
  ·have e2:kG w.Bar 0 4096=true:=by unfold kG; simp; omega
   cases h3:uF w.Net with
   | false=>rw[fi (fun q=>by rw[q.2.2.1] at h3; cases h3),e1,e2]; rfl
   | true=>
    obtain ⟨q1,q2⟩:=sE h3
    have w1:=Il aE 0 w h1.2 hf.2 (aE+8) 0 (Ya _) s5
    rw[show ((0:Nat):Int)=0 from rfl] at w1
    simp only[e1,e2,X7,XO,XM,ZS,Yy,w1]
    by_cases h4:∀ j (h:j<w.Ears.length),n6 w.Ears[j] j (w.Ears.length:Int) w.Bar=true
    ·have w2:=Iq aE 0 w (Av h4) h1.2 o3 q2 q1 (aE+8) 0 (Ya _) s5
     rw[show ((0:Nat):Int)=0 from rfl,Yn] at w2
     rw[XX (fun j h _=>h4 j h)]
     simp only[w2]
     cases h5:w.Net.Queue.all (xY w) with
     | false=>rw[fi (fun q=>by rw[q.2.2.2.2] at h5; cases h5)]; rfl
     | true=>rw[pe ⟨h1,h2,h3,h4,h5⟩]; rfl
    ·rw[XW (fun q=>h4 (fun j h=>q j h (Ya _))),fi (fun q=>h4 q.2.2.2.1)]
  ·have e2:kG w.Bar 0 4096=false:=by unfold kG; rw[ZQ]; intro q; simp only[XQ,XV] at q; exact h2 q
   rw[fi (fun q=>h2 q.2.1),e1,e2]; rfl
 ·have e1:kG (w.Ears.length:Int) 1 12=false:=by unfold kG; rw[ZQ]; intro q; simp only[XQ,XV] at q; exact h1 o3
  rw[fi (fun q=>h1 q.1),e1]; rfl
theorem Kb (w:aw) (hf:Fit w):IJ w=some (qI w):=by
 unfold IJ NQ
 simp only[Hb,JB _ hf.1,XM]
 by_cases h1:1<=w.Ears.length/\w.Ears.length<=12
 ·have a1:decide ((w.Ears.length:Int)<1)=false:=by rw[Zw]; omega
  have a2:decide (12<(w.Ears.length:Int))=false:=XK
  by_cases h2:0<=w.Bar/\w.Bar<=4096
  ·have e2:kG w.Bar 0 4096=true:=by unfold kG; simp; omega
   cases h3:uF w.Net with
   | false=>rw[fi (fun q=>by rw[q.2.2.1] at h3; cases h3),a1,a2,e2]; rfl
   | true=>
    obtain ⟨q1,q2⟩:=sE h3
    have w1:=DY aE w h1.2 hf.2 (aE+8) 0 (Ya _) s5
    rw[show ((0:Nat):Int)=0 from rfl] at w1
    simp only[a1,a2,e2,X7,XO,XM,ZS,Yy,w1]
    by_cases h4:∀ j (h:j<w.Ears.length),n6 w.Ears[j] j (w.Ears.length:Int) w.Bar=true
    ·have w2:=D0 aE w (Av h4) h1.2 o3 q2 q1 (aE+8) 0 (Ya _) s5
     rw[show ((0:Nat):Int)=0 from rfl,Yn] at w2
     rw[XX (fun j h _=>h4 j h)]
     simp only[w2]
     cases h5:w.Net.Queue.all (xY w) with
     | false=>rw[fi (fun q=>by rw[q.2.2.2.2] at h5; cases h5)]; rfl
     | true=>rw[pe ⟨h1,h2,h3,h4,h5⟩]; rfl
    ·rw[XW (fun q=>h4 (fun j h=>q j h (Ya _))),fi (fun q=>h4 q.2.2.2.1)]
  ·have e2:kG w.Bar 0 4096=false:=by unfold kG; rw[ZQ]; intro q; simp only[XQ,XV] at q; exact h2 q
   rw[fi (fun q=>h2 q.2.1),a1,a2,e2]; rfl
 ·rw[fi (fun q=>h1 q.1)]
  by_cases a1:(w.Ears.length:Int)<1
  ·rw[XT a1]; rfl
  ·rw[XZ a1,XT o3]; rfl
end
theorem SX:G5=some true:=r7
def zW:aw:=⟨⟨[],[]⟩,[],0⟩
theorem DW (n:Nat) (l:List Int) (hl:l.length<=4611686018427387904):∀ (m i:Nat),i<=l.length->l.length - i<m->kV n l l m (i:Int)=some (.inr ())
 | 0,i,_,h=>absurd h (Yl _)
 | m+1,i,hi,h=>by
  rw[kV]
  by_cases hlt:i<l.length
  ·rw[show decide ((i:Int)<(l.length:Int))=true by simpa using hlt,XR,br,XN hlt,XM,XM,Yy,XO,ti o3]
   exact DW n l hl m (i+1) o3 o3
  ·rw[show decide ((i:Int)<(l.length:Int))=false by simpa using hlt]; rfl
theorem IE (l:List Int) (hl:l.length<=4611686018427387904):Km l l=some true:=by
 unfold Km N7
 have hw:=DW aE l hl (aE+8) 0 (Ya _) s5
 rw[show ((0:Nat):Int)=0 from rfl] at hw
 rw[Yy,XO,hw]; rfl
def A4 (l:List bj):Prop:=l.length<=4611686018427387904/\∀ x∈l,x.Cues.length<=4611686018427387904/\x.Got.length<=4611686018427387904/\x.Did.length<=4611686018427387904
theorem AG (n:Nat) (l:List bj) (j:Nat) (hj:j<l.length) (hl:l[j].Cues.length<=4611686018427387904):∀ (m i:Nat),i<=l[j].Cues.length->l[j].Cues.length - i<m->kN n l l (j:Int) m (i:Int)=some (.inr ())
 | 0,i,_,h=>absurd h (Yl _)
 | m+1,i,hi,h=>by
  rw[kN,br,XN hj,XM]
  by_cases hlt:i<l[j].Cues.length
  ·rw[show decide ((i:Int)<(l[j].Cues.length:Int))=true by simpa using hlt]
   simp only[XR,br,XN hj,XN hlt,XM,ti (by omega:i<=4611686018427387904),Y5,YY,X7,XO]
   exact AG n l j hj hl m (i+1) o3 o3
  ·rw[show decide ((i:Int)<(l[j].Cues.length:Int))=false by simpa using hlt]; rfl
theorem AF (n:Nat) (l:List bj) (hl:A4 l) (hn:4611686018427387904<n):∀ (m i:Nat),i<=l.length->l.length - i<m->kM n l l m (i:Int)=some (.inr ())
 | 0,i,_,h=>absurd h (Yl _)
 | m+1,i,hi,h=>by
  have hll:=hl.1
  rw[kM]
  by_cases hlt:i<l.length
  ·obtain ⟨a1,a2,a3⟩:=hl.2 _ (Ys hlt)
   have hw:=AG n l i hlt a1 (n+8) 0 (Ya _) o3
   rw[show ((0:Nat):Int)=0 from rfl] at hw
   rw[show decide ((i:Int)<(l.length:Int))=true by simpa using hlt,XR,br,XN hlt]
   simp only[XM,Yy,XO,IE _ a2,IE _ a3,X7,hw]
   rw[ti o3]
   exact AF n l hl hn m (i+1) o3 o3
  ·rw[show decide ((i:Int)<(l.length:Int))=false by simpa using hlt]; rfl
theorem Nm (l:List bj) (hl:A4 l):E7 l l=some true:=by
 unfold E7 NN
 have hw:=AF aE l hl s5 (aE+8) 0 (Ya _) (by rw[fu]; have:=hl.1; omega)
 rw[show ((0:Nat):Int)=0 from rfl] at hw
 rw[Yy,XO,hw]; rfl
def B6 (w:aw):Prop:=A4 w.Ears/\w.Net.Queue.length<=4611686018427387904/\w.Net.Apart.length<=4611686018427387904
theorem EL (w:aw) (h:B6 w):IH w w=some true:=by
 unfold IH NF
 rw[Y5,XR,Nm _ h.1,Mg _ h.2.1 h.2.2]; rfl
theorem vH:B6 zW:=⟨⟨Ya _,fun _ h=>by cases h⟩,Ya _,Ya _⟩
def yu (w:aw):Prop:=w.Net.Queue.length<=40/\w.Net.Apart.length<=40/\w.Ears.length<=20/\∀ x∈w.Ears,x.Cues.length<=40/\x.Got.length<=5000/\x.Did.length<=5000
theorem Ij (n:Nat) (z:Bool) (w:aw) (hl:w.Ears.length<=4611686018427387904):∀ (m i:Nat),i<=w.Ears.length->w.Ears.length - i<m ->
  nW n z w m (i:Int)=some (.inl false)∨(nW n z w m (i:Int)=some (.inr ())/\∀ x∈w.Ears.drop i,x.Cues.length<=40/\x.Got.length<=5000/\x.Did.length<=5000)
 | 0,i,_,h=>absurd h (Yl _)
 | m+1,i,hi,h=>by
  rw[nW]
  by_cases hlt:i<w.Ears.length
  ·rw[show decide ((i:Int)<(w.Ears.length:Int))=true by simpa using hlt,XR,br,XN hlt,XM,ti o3,X1 hlt]
   have ih:=Ij n z w hl m (i+1) o3 o3
   generalize w.Ears[i]=x
   by_cases c1:x.Cues.length<=40
   ·by_cases c2:x.Got.length<=5000
    ·by_cases c3:x.Did.length<=5000
     ·have d1:decide ((40:Int)<(x.Cues.length:Int))=false:=by rw[Zw]; omega
      have d2:decide ((5000:Int)<(x.Got.length:Int))=false:=XK
      have d3:decide ((5000:Int)<(x.Did.length:Int))=false:=XK
      simp only[d1,d2,d3,XO]
      cases decide ((60:Int)<(x.Got.length:Int)) with
      | false=>
       simp only[XO,XM]
       rcases ih with h' | ⟨h',hx⟩
       ·exact .inl h'
       ·refine .inr ⟨h',fun y hy=>?_⟩
        rcases YC.1 hy with rfl | hy
        ·exact⟨c1,c2,c3⟩
        ·exact hx y hy
      | true=>
       simp only[XR,XM]
       cases decide ((x.Got.length:Int)<4094) with
       | true=>exact .inl rfl
       | false=>
        simp only[XO,XM]
        rcases ih with h' | ⟨h',hx⟩
        ·exact .inl h'
        ·refine .inr ⟨h',fun y hy=>?_⟩
         rcases YC.1 hy with rfl | hy
         ·exact⟨c1,c2,c3⟩
         ·exact hx y hy
     ·have d3:decide ((5000:Int)<(x.Did.length:Int))=true:=by rw[Z5]; omega
      rw[d3]
      cases decide ((40:Int)<(x.Cues.length:Int))<;>cases decide ((60:Int)<(x.Got.length:Int))<;>cases decide ((x.Got.length:Int)<4094)<;>cases decide ((5000:Int)<(x.Got.length:Int))<;>exact .inl rfl
    ·have d2:decide ((5000:Int)<(x.Got.length:Int))=true:=by rw[Z5]; omega
     rw[d2]
     cases decide ((40:Int)<(x.Cues.length:Int))<;>cases decide ((60:Int)<(x.Got.length:Int))<;>cases decide ((x.Got.length:Int)<4094)<;>exact .inl rfl
   ·have d1:decide ((40:Int)<(x.Cues.length:Int))=true:=by rw[Z5]; omega
    rw[d1]
    exact .inl rfl
  ·rw[show decide ((i:Int)<(w.Ears.length:Int))=false by simpa using hlt,XO,Yd.2 o3]
   exact .inr ⟨rfl,fun _ q=>by cases q⟩
theorem XA (w:aw):G6 w=some false∨(G6 w=some true/\yu w):=by
 unfold G6 F6
 rw[RZ,XM]
 by_cases h1:w.Net.Queue.length<=40
 ·by_cases h2:w.Net.Apart.length<=40
  ·by_cases h3:w.Ears.length<=20
   ·have d3:decide ((20:Int)<(w.Ears.length:Int))=false:=by rw[Zw]; omega
    have hw:=Ij aE false w o3 (aE+8) 0 (Ya _) s5
    rw[show ((0:Nat):Int)=0 from rfl,Yn] at hw
    rw[XT h1,XT h2,d3]
    simp only[Zq,X7,XO,XM]
    rcases hw with hw | ⟨hw,hx⟩
    ·rw[hw]; exact .inl rfl
    ·rw[hw]; exact .inr ⟨rfl,h1,h2,h3,hx⟩
   ·have d3:decide ((20:Int)<(w.Ears.length:Int))=true:=by rw[Z5]; omega
    rw[d3]
    cases (decide (w.Net.Queue.length<=40)&&decide (w.Net.Apart.length<=40))<;>exact .inl rfl
  ·rw[XZ h2,Bool.and_false]; exact .inl rfl
 ·rw[XZ h1]; exact .inl rfl
theorem yu.fit {w:aw} (h:yu w):Fit w:=⟨by have:=h.2.1; omega,fun x hx=>by have:=h.2.2.2 x hx; omega⟩
theorem yu.LQ {w:aw} (h:yu w):B6 w:=⟨⟨by have:=h.2.2.1; omega,fun x hx=>by have:=h.2.2.2 x hx; omega⟩,by have:=h.1; omega,by have:=h.2.1; omega⟩
def ic (x:aD) (i:Nat):aD:=aD.mk (x.Queue.take i++x.Queue.drop (i+1)) x.Apart
theorem qg {T:Type} (l:List T) (i:Nat) (h:i<=l.length):fk l 0 (i:Int)=some (l.take i):=by
 unfold fk
 simp[h]
theorem lL {T:Type} (l:List T) (i:Nat) (h:i<=l.length):fk l (i:Int) (l.length:Int)=some (l.drop i):=by
 unfold fk
 rw[XT (by omega:(0:Int)<=(i:Int)),XT (by omega:(i:Int)<=(l.length:Int)),XT (qaM _)]
 simp only[Y9,Zq,XR]
 rw[YA r8]
theorem Mm (x:aD) (i:Nat) (hi:i<x.Queue.length) (hq:x.Queue.length<=4096):IQ x (i:Int)=some (ic x i):=by
 unfold IQ Oh ic
 rw[qg _ _ o3,XM,ti (by first | (rw[fu]; omega) | omega),lL _ _ o3,XM,dB _ _ _ x8]
 rfl
theorem Mn (x:aD) (i:Nat) (hi:i<x.Queue.length) (hq:x.Queue.length<=4096):IU x (i:Int)=some (ic x i):=by
 unfold IU Ol ic
 rw[qg _ _ o3,XM,dB 40 [] _ x8,XM,ti (by first | (rw[fu]; omega) | omega),lL _ _ o3,XM,YR,dB _ _ _ x8]
 rfl
def nV:aA:=aA.mk 0 0 []
def ES:aD:=aD.mk [] []
def atR (x:aD) (a:Int):aA×Int:=if uF x=true then (if 0<=a then match x.Queue[a.toNat]? with | some p=>(p,0) | none=>(nV,1) else (nV,1)) else (nV,60)
theorem JC (x:aD) (a:Int) (hA:x.Apart.length<=4611686018427387904):IP x a=some (atR x a):=by
 unfold IP Oe atR
 rw[JA x hA,XM]
 cases uF x with
 | false=>rfl
 | true=>
  simp only[ZS]
  by_cases h0:0<=a
  ·obtain ⟨i,rfl⟩:∃ i:Nat,a=i:=⟨a.toNat,o3⟩
   rw[XX h0,show decide ((i:Int)<0)=false by simp,Y9,br]
   by_cases h1:i<x.Queue.length
   ·rw[XN h1,show decide ((x.Queue.length:Int)<=(i:Int))=false by simp; omega]
    rfl
   ·rw[YT o3,show decide ((x.Queue.length:Int)<=(i:Int))=true by simp; omega]
    rfl
  ·rw[XW h0,show decide (a<0)=true by simp; omega]
   rfl
theorem JD (x:aD) (a:Int) (hA:x.Apart.length<=4611686018427387904):IT x a=some (atR x a).2:=by
 unfold IT Oj atR
 rw[JB x hA,XM]
 cases uF x with
 | false=>rfl
 | true=>
  simp only[ZS]
  by_cases h0:0<=a
  ·obtain ⟨i,rfl⟩:∃ i:Nat,a=i:=⟨a.toNat,o3⟩
   rw[XX h0,show decide ((i:Int)<0)=false by simp,Y9]
   by_cases h1:i<x.Queue.length
   ·rw[XN h1,show decide ((x.Queue.length:Int)<=(i:Int))=false by simp; omega]
    rfl
   ·rw[YT o3,show decide ((x.Queue.length:Int)<=(i:Int))=true by simp; omega]
    rfl
  ·rw[XW h0,show decide (a<0)=true by simp; omega]
   rfl
def qy (x:aD) (a:Int):aD×Int:=if (atR x a).2=0 then (ic x a.toNat,0) else (ES,(atR x a).2)
theorem pW {x:aD} {a:Int} (h:(atR x a).2=0):uF x=true/\0<=a/\∃ hlt:a.toNat<x.Queue.length,(atR x a).1=x.Queue[a.toNat]:=by
 unfold atR at h ⊢
 by_cases h1:uF x=true
 ·rw[XX h1] at h ⊢
  by_cases h2:0<=a
  ·rw[XX h2] at h ⊢
   refine⟨h1,h2,?_⟩
   by_cases h3:a.toNat<x.Queue.length
   ·rw[XN h3]
    exact⟨h3,rfl⟩
   ·rw[YT o3] at h
    cases h
  ·rw[XW h2] at h; cases h
 ·rw[XW h1] at h; cases h
theorem qW {x:aD} (h:uF x=true):x.Queue.length<=4096:=by
 unfold uF at h
 simp only[XQ,XV] at h
 exact h.1.1
theorem R4 (x:aD) (a:Int) (hA:x.Apart.length<=4611686018427387904):KP x a=some (qy x a):=by
 unfold KP NZ qy
 rw[JC x a hA,XM]
 by_cases h:(atR x a).2=0
 ·obtain ⟨h1,h2,h3,_⟩:=pW h
  rw[XX h,h]
  have:=Mm x a.toNat h3 (qW h1)
  rw[show ((a.toNat:Nat):Int)=a by omega] at this
  rw[this]
  rfl
 ·rw[XW h,show ((atR x a).2 != 0)=true by simpa using h]
  rfl
theorem R5 (x:aD) (a:Int) (hA:x.Apart.length<=4611686018427387904):KQ x a=some (qy x a):=by
 unfold KQ N0 qy
 rw[JD x a hA,XM]
 by_cases h:(atR x a).2=0
 ·obtain ⟨h1,h2,h3,_⟩:=pW h
  rw[XX h,h]
  have:=Mn x a.toNat h3 (qW h1)
  rw[show ((a.toNat:Nat):Int)=a by omega] at this
  rw[this]
  rfl
 ·rw[XW h,show ((atR x a).2 != 0)=true by simpa using h]
  rfl
def ye (x:aD) (a:Int):aD×Int:=if (atR x a).2=0 then qB x (atR x a).1 else (ES,(atR x a).2)
theorem R6 (x:aD) (a:Int) (hq:x.Queue.length<=4095) (hA:x.Apart.length<=4611686018427387904):KR x a=some (ye x a):=by
 unfold KR N1 ye
 rw[JC x a hA,XM]
 by_cases h:(atR x a).2=0
 ·rw[XX h,h,R0 x _ hq hA]
  rfl
 ·rw[XW h,show ((atR x a).2 != 0)=true by simpa using h]
  rfl
theorem R7 (x:aD) (a:Int) (hq:x.Queue.length<=4095) (hA:x.Apart.length<=4611686018427387904):KS x a=some (ye x a):=by
 unfold KS N2 ye
 rw[JD x a hA,XM]
 by_cases h:(atR x a).2=0
 ·obtain ⟨h1,h2,h3,h4⟩:=pW h
  rw[XX h,h]
  have hg:bL x.Queue a=some x.Queue[a.toNat]:=by
   have:=br x.Queue a.toNat
   rw[show ((a.toNat:Nat):Int)=a by omega] at this
   rw[this]; exact XN h3
  rw[hg]
  simp only[Yy,XO,XM]
  rw[R1 x _ hq hA,h4]
  rfl
 ·rw[XW h,show ((atR x a).2 != 0)=true by simpa using h]
  rfl
theorem Mf (n:Nat) (v2 c d:Int) (l:List (Int×Int)) (hl:l.length<=4611686018427387904):∀ (m i:Nat),i<=l.length->l.length - i<m ->
  (∃ j:Int,0<=j/\jJ n l (l.length:Int) c d m (i:Int)=some (.inl j)/\(l.drop i).any (fun q=>c==q.1&&d==q.2)=true)∨(jJ n l (l.length:Int) c d m (i:Int)=some (.inr ())/\(l.drop i).any (fun q=>c==q.1&&d==q.2)=false)
 | 0,i,_,h=>absurd h (Yl _)
 | m+1,i,hi,h=>by
  unfold jJ
  by_cases hlt:i<l.length
  ·rw[show decide ((i:Int)<(l.length:Int))=true by simpa using hlt,XR,br,XN hlt,XM,ti o3,X1 hlt,qau]
   cases hp:(c==l[i].1&&d==l[i].2) with
   | true=>exact .inl ⟨i,o3,rfl,rfl⟩
   | false=>
    simp only[XO,qbo]
    exact Mf n v2 c d l hl m (i+1) o3 o3
  ·rw[show decide ((i:Int)<(l.length:Int))=false by simpa using hlt,XO,Yd.2 o3]
   exact .inr ⟨rfl,rfl⟩
def sm (l:List (Int×Int)) (p:Int×Int):Bool:=l.any fun q=>p.1==q.1&&p.2==q.2
theorem Sa (l:List (Int×Int)) (p:Int×Int) (hl:l.length<=4611686018427387904):KY l p=some (sm l p):=by
 unfold KY Og Oz Ow sm
 have e:l.drop 0=l:=rfl
 rcases Mf aE 0 p.1 p.2 l hl (aE+8) 0 (Ya _) s5 with ⟨j,h1,h2,h3⟩ | ⟨h2,h3⟩
 ·rw[e] at h3
  rw[show ((0:Nat):Int)=0 from rfl] at h2
  rw[h2,h3]
  simp only[XM]
  rw[XT h1]
 ·rw[e] at h3
  rw[show ((0:Nat):Int)=0 from rfl] at h2
  rw[h2,h3]
  rfl
def link (a b:Int):Int×Int:=(if b<a then b else a,if a<b then b else a)
def gZ (x:aD) (a:Int):aA×aD×Int:=if (atR x a).2=0 then (if sm x.Apart (link (atR x a).1.From (atR x a).1.To)=true then nV else (atR x a).1,ic x a.toNat,0) else ((atR x a).1,ES,(atR x a).2)
theorem R2 (x:aD) (a:Int) (hA:x.Apart.length<=4611686018427387904):KM x a=some (gZ x a):=by
 unfold KM NS gZ
 rw[JC x a hA,XM]
 by_cases h:(atR x a).2=0
 ·obtain ⟨h1,h2,h3,_⟩:=pW h
  rw[XX h,h]
  have h38:=Mm x a.toNat h3 (qW h1)
  rw[show ((a.toNat:Nat):Int)=a by omega] at h38
  simp only[Yy,XO]
  rw[Ml,XM,Sa _ _ hA,XM,h38]
  unfold link
  generalize sm x.Apart _=q
  cases q<;>rfl
 ·rw[XW h,show ((atR x a).2 != 0)=true by simpa using h]
  rfl
theorem Md (n:Nat) (a b:Int) (v3:Bool) (q:List aA) (l:List (Int×Int)) (hl:l.length<=4611686018427387904):∀ (m i:Nat),i<=l.length->l.length - i<m ->
  jH n a b q l m (i:Int)=some (if (l.drop i).any (fun q=>(link a b).1==q.1&&(link a b).2==q.2)=true then .inl true else .inr ())
 | 0,i,_,h=>absurd h (Yl _)
 | m+1,i,hi,h=>by
  unfold jH
  by_cases hlt:i<l.length
  ·have ih:=Md n a b v3 q l hl m (i+1) o3 o3
   rw[show decide ((i:Int)<(l.length:Int))=true by simpa using hlt,XR,br,XN hlt,XM,ti o3,X1 hlt,qau,ih]
   simp only[XM]
   rw[br,XN hlt]
   simp only[XM]
   rw[show (if b<a then b else a)=(link a b).1 from rfl,show (if a<b then b else a)=(link a b).2 from rfl]
   rw[BEq.comm (a:=l[i].1),BEq.comm (a:=l[i].2)]
   cases (link a b).1==l[i].1 with
   | false=>simp
   | true=>cases (link a b).2==l[i].2<;>simp
  ·rw[show decide ((i:Int)<(l.length:Int))=false by simpa using hlt,XO,Yd.2 o3]
   rfl
theorem Sb (x:aD) (a b:Int) (hA:x.Apart.length<=4611686018427387904):K1 x a b=some (sm x.Apart (link a b)):=by
 unfold K1 Ok
 have:=Md aE a b false x.Queue x.Apart hA (aE+8) 0 (Ya _) s5
 rw[Yn,show ((0:Nat):Int)=0 from rfl] at this
 rw[this]
 unfold sm
 cases (x.Apart.any fun q=>(link a b).1==q.1&&(link a b).2==q.2)<;>rfl
theorem R3 (x:aD) (a:Int) (hA:x.Apart.length<=4611686018427387904):KN x a=some (gZ x a):=by
 unfold KN NV gZ
 rw[JD x a hA,XM]
 by_cases h:(atR x a).2=0
 ·obtain ⟨h1,h2,h3,h4⟩:=pW h
  rw[XX h,h]
  have h42:=Mn x a.toNat h3 (qW h1)
  rw[show ((a.toNat:Nat):Int)=a by omega] at h42
  have hget:bL x.Queue a=some (atR x a).1:=by
   have:=br x.Queue a.toNat
   rw[show ((a.toNat:Nat):Int)=a by omega] at this
   rw[this,h4]; exact XN h3
  simp only[Yy,XO]
  rw[hget,XM,Sb _ _ _ hA,XM,h42]
  generalize sm x.Apart _=q
  cases q<;>rfl
 ·rw[XW h,show ((atR x a).2 != 0)=true by simpa using h]
  have:(atR x a).1=nV:=by
   unfold atR at h ⊢
   split
   ·rename_i h1
    rw[XX h1] at h
    split
    ·rename_i h2
     rw[XX h2] at h
     cases hq:x.Queue[a.toNat]? with
     | none=>rfl
     | some p=>rw[hq] at h; exact absurd rfl h
    ·rfl
   ·rfl
  rw[this]
  rfl
def iq (l:List aR) (b:Int):List aR:=l.takeWhile fun x=>decide (x.Bar<b)
def BF (l:List aR) (b:Int):List aR:=l.dropWhile fun x=>decide (x.Bar<b)
def qx (l:List aR) (c:aR):List aR:=iq l c.Bar++(match BF l c.Bar with | []=>[c] | x :: r=>if x.Bar=c.Bar then (if x.No<c.No then c :: r else x :: r) else c :: x :: r)
theorem g8 (b:Int):∀ l:List aR,(iq l b).length<=l.length/\(∀ (j:Nat) (h:j<l.length),j<(iq l b).length->l[j].Bar<b)/\(∀ h:(iq l b).length<l.length,¬ l[(iq l b).length].Bar<b)/\iq l b=l.take (iq l b).length/\BF l b=l.drop (iq l b).length
 | []=>⟨XP _,fun _ h=>absurd h (Yl _),fun h=>absurd h (Yl _),rfl,rfl⟩
 | x :: r=>by
  obtain ⟨h1,h2,h3,h4,h5⟩:=g8 b r
  by_cases hx:x.Bar<b
  ·have e1:iq (x :: r) b=x :: iq r b:=by unfold iq; rw[qbv,XT hx]; rfl
   have e2:BF (x :: r) b=BF r b:=by unfold BF; rw[qbw,XT hx]; rfl
   rw[e1,e2]
   refine⟨by simp only[X8]; omega,fun j h hj=>?_,fun h=>?_,?_,?_⟩
   ·cases j with
    | zero=>exact hx
    | succ j=>simp only[X8] at h hj; exact h2 j o3 o3
   ·simp only[X8] at h
    exact h3 o3
   ·rw[X8,qbq,<-h4]
   ·rw[X8,qbr,<-h5]
  ·have e1:iq (x :: r) b=[]:=by unfold iq; rw[qbv,XZ hx]; rfl
   have e2:BF (x :: r) b=x :: r:=by unfold BF; rw[qbw,XZ hx]; rfl
   rw[e1,e2]
   exact⟨Ya _,fun _ _ h=>absurd h (Yl _),fun _=>hx,rfl,rfl⟩
theorem Nz {a b:Nat} (h:a+b<=4611686018427387904):wr .i64 (jB .u64 (wr .u64 (wr .i64 ((a:Int)+(b:Int)))) 1)=(((a+b) / 2:Nat):Int):=by
 have e1:wr .i64 ((a:Int)+(b:Int))=((a+b:Nat):Int):=by rw[dn o3 o3]; omega
 have e2:wr .u64 ((a+b:Nat):Int)=((a+b:Nat):Int):=by
  have:wr .u64=IntKind.u64.wrap:=rfl
  rw[this]
  simp only[IntKind.wrap,IntKind.bits,IntKind.signed]
  simp
  omega
 have e3:jB .u64 ((a+b:Nat):Int) 1=(((a+b) / 2:Nat):Int):=by
  unfold jB
  have:(min (1:Int).toNat IntKind.u64.bits)=1:=by decide
  rw[this,ZP _ (by decide)]
  omega
 rw[e1,e2,e3,dn o3 o3]
def KC (l:List aR):Prop:=l.Pairwise (fun x y=>x.Bar<y.Bar)/\∀ x∈l,0<=x.Bar/\x.Bar<=4095
theorem KC.lt {l:List aR} (h:KC l) {i j:Nat} (hi:i<l.length) (hj:j<l.length) (hij:i<j):l[i].Bar<l[j].Bar:=qaV.1 h.1 i j hi hj hij
theorem Nr {x:aR} {b:Int} (h1:0<=x.Bar/\x.Bar<=4095) (h2:0<=b/\b<=4095):Ki x b=some (x.Bar - b):=by
 unfold Ki NU
 rw[dn o3 o3]
theorem Qt (n:Nat) {l:List aR} {b:Int} (ha:KC l) (hb:0<=b/\b<=4095) (hl:l.length<=1000000):∀ (m lo hi:Nat),lo<=(iq l b).length->(iq l b).length<=hi->hi<=l.length->hi - lo<m ->
  fC n l b m (lo:Int) (hi:Int)=some ((iq l b).length:Int)
 | 0,_,_,_,_,_,h=>absurd h (Yl _)
 | m+1,lo,hi,h1,h2,h3,h=>by
  obtain ⟨p1,p2,p3,_⟩:=g8 b l
  unfold fC
  by_cases hlt:lo<hi
  ·have hm1:(lo+hi) / 2<l.length:=by omega
   rw[show decide ((lo:Int)<(hi:Int))=true by simpa using hlt,XR,Nz o3,br,XN hm1,XM,Nr (ha.2 _ (Ys _)) hb,XM]
   by_cases hc:l[(lo+hi) / 2].Bar<b
   ·rw[XT (show l[(lo+hi) / 2].Bar - b<0 by omega),XR]
    have e1:wr .i64 ((((lo+hi) / 2:Nat):Int)+1)=(((lo+hi) / 2+1:Nat):Int):=by rw[dn o3 o3]; omega
    rw[e1]
    refine Qt n ha hb hl m _ hi ?_ h2 h3 o3
    refine Y1 fun hle=>?_
    have hi':(iq l b).length<l.length:=o3
    rcases Nat.lt_or_eq_of_le hle with h4 | h4
    ·exact p3 hi' (Int.lt_trans (ha.lt hi' hm1 h4) hc)
    ·refine p3 hi' ?_
     simp only[h4]
     exact hc
   ·rw[XZ (show ¬ l[(lo+hi) / 2].Bar - b<0 by omega),XO]
    refine Qt n ha hb hl m lo _ h1 ?_ o3 o3
    refine ZA fun hlt'=>hc (p2 _ hm1 hlt')
  ·rw[show decide ((lo:Int)<(hi:Int))=false by simpa using hlt,XO]
   rw[show lo=(iq l b).length by omega]
theorem S7 {l:List aR} {b:Int} (ha:KC l) (hb:0<=b/\b<=4095) (hl:l.length<=1000000):qX l b=some (((iq l b).length:Int),match BF l b with | []=>false | x :: _=>decide (x.Bar=b)):=by
 unfold qX uT
 have h0:=Qt aE ha hb hl (aE+8) 0 l.length (Ya _) (g8 b l).1 (XP _) s5
 rw[show ((0:Nat):Int)=0 from rfl] at h0
 obtain ⟨p1,p2,p3,p4,p5⟩:=g8 b l
 rw[h0,XM,p5]
 simp only
 by_cases hlt:(iq l b).length<l.length
 ·rw[show decide (((iq l b).length:Int)<(l.length:Int))=true by simpa using hlt,XR,br,XN hlt,XM,Nr (ha.2 _ (Ys _)) hb,XM,X1 hlt]
  simp only[XM,YE,qaP,ZK]
  rw[YO]
  simp only[YV,XV]
  omega
 ·rw[show decide (((iq l b).length:Int)<(l.length:Int))=false by simpa using hlt,XO,Yd.2 o3]
  rfl
def zR:bh:=⟨0,0,0⟩
def uw (E:List bj) (c:aR):List bj:=match E[c.Role.toNat]? with
 | some y=>E.set c.Role.toNat ⟨qx y.Cues c,y.Got,y.Did⟩
 | none=>E
def Fs (w:aw) (d:aA×aD×Int):aw×bh×Bool×Int:=match msg d.1.Data with
 | some (.inr r)=>(⟨d.2.1,w.Ears,w.Bar⟩,r,true,0)
 | some (.inl c)=>(⟨d.2.1,if w.Bar<=c.Bar then uw w.Ears c else w.Ears,w.Bar⟩,zR,false,0)
 | none=>(⟨d.2.1,w.Ears,w.Bar⟩,zR,false,0)
noncomputable def Bi (w:aw) (a:Int):aw×bh×Bool×Int:=
 if qI w=0 then (if (gZ w.Net a).2.2=0 then Fs w (gZ w.Net a) else (zW,zR,false,(gZ w.Net a).2.2)) else (zW,zR,false,qI w)
theorem FE:msg []=none:=r7
theorem yT {x:aD} {a:Int} (h:(gZ x a).2.2=0):uF x=true/\0<=a/\(gZ x a).2.1=ic x a.toNat/\∃ hlt:a.toNat<x.Queue.length,((gZ x a).1=nV∨(gZ x a).1=x.Queue[a.toNat]):=by
 unfold gZ at h ⊢
 by_cases h0:(atR x a).2=0
 ·rw[XX h0] at h ⊢
  obtain ⟨h1,h2,h3,h4⟩:=pW h0
  refine⟨h1,h2,rfl,h3,?_⟩
  show (if _ then nV else (atR x a).1)=nV∨_
  split
  ·exact .inl rfl
  ·exact .inr h4
 ·rw[XW h0] at h
  exact absurd h h0
theorem rC {role n:Int}:∀ {l:List aR} {lo:Int},mR role n lo l=true->0<=lo->lo<=4096->KC l/\(∀ x∈l,lo<=x.Bar)/\(∀ x∈l,gh x n=true/\x.Role=role)/\(l.length:Int)+lo<=4096
 | [],lo,_,h0,h1=>⟨⟨List.Pairwise.nil,fun x h=>(by cases h)⟩,fun x h=>(by cases h),fun x h=>(by cases h),by simpa using h1⟩
 | c :: l,lo,h,h0,h1=>by
  unfold mR at h
  simp only[XQ,YQ,Zw,YV] at h
  obtain ⟨⟨⟨h2,h3⟩,h4⟩,h5⟩:=h
  have hb:=mj h2
  obtain ⟨⟨p1,p2⟩,q,r,s⟩:=rC h5 o3 o3
  refine⟨⟨List.pairwise_cons.2 ⟨fun y hy=>by have:=q y hy; omega,p1⟩,fun x hx=>?_⟩,fun x hx=>?_,fun x hx=>?_,by simp only[X8]; omega⟩
  ·rcases YC.1 hx with rfl | hx
   ·exact hb
   ·exact p2 x hx
  ·rcases YC.1 hx with rfl | hx
   ·omega
   ·have:=q x hx; omega
  ·rcases YC.1 hx with rfl | hx
   ·exact⟨h2,h3⟩
   ·exact r x hx
theorem xb {x:bj} {role n bar:Int} (h:n6 x role n bar=true):mR role n bar x.Cues=true:=by
 unfold n6 at h
 simp only[XQ] at h
 exact h.2
theorem sM {c:aR} {n:Nat} (h:gh c (n:Int)=true) (hn:n<=12) (h1:1<=n):0<=c.Role/\c.Role.toNat<n:=by
 unfold gh kG at h
 simp only[XQ,XV] at h
 rw[dn o3 o3] at h
 omega
theorem Ei {w:aw} (h:okW w) {p:aA} (hp:p∈w.Net.Queue):xY w p=true:=X0.1 h.2.2.2.2 p hp
theorem Es {w:aw} {p:aA} {c:aR} (h:xY w p=true) (hm:msg p.Data=some (.inl c)):gh c (w.Ears.length:Int)=true/\p.From=0/\p.To=wr .i64 (c.Role+1):=by
 unfold xY at h
 rw[hm] at h
 simp only[XQ,YV] at h
 exact⟨h.1.1,h.1.2,h.2⟩
theorem Ap {w:aw} (h:okW w) {a:Int} (hd:(gZ w.Net a).2.2=0) {m:aR⊕bh} (hm:msg (gZ w.Net a).1.Data=some m):∃ hlt:a.toNat<w.Net.Queue.length,(gZ w.Net a).1=w.Net.Queue[a.toNat]/\xY w w.Net.Queue[a.toNat]=true:=by
 obtain ⟨h1,h2,h3,h4,h5⟩:=yT hd
 rcases h5 with h5 | h5
 ·rw[h5,show nV.Data=[] from rfl,FE] at hm
  cases hm
 ·exact⟨h4,h5,Ei h (Ys _)⟩
theorem w9 {x:aD} {a:Int} (hd:(gZ x a).2.2=0):(gZ x a).1.Data.length<=1100000:=by
 obtain ⟨h1,h2,h3,h4,h5⟩:=yT hd
 rcases h5 with h5 | h5
 ·rw[h5]; exact Ya _
 ·rw[h5]; exact(sE h1).2 _ (Ys _)
theorem QL {R:Type} {E:List bj} (hE:E.length<=12) {r:Int} (h0:0<=r) (h1:r.toNat<E.length) (u:bj->bj) (K:List bj->R) :
  (Option.bind (cz 72 ([]) E) fun y=>Option.bind (l0 y.length r) fun k=>Option.bind (oz y k u) fun z=>some (K (List.take y.length (List.drop 0 z))))=some (K (E.set r.toNat (u E[r.toNat]))):=by
 rw[dB _ _ _ x8,XM,YR]
 have e1:l0 E.length r=some r.toNat:=by
  unfold l0
  rw[XT h0,XT (by omega:r<(E.length:Int))]
  rfl
 rw[e1,XM]
 have e2:oz E r.toNat u=some (E.set r.toNat (u E[r.toNat])):=by
  unfold oz
  rw[XN h1]
 rw[e2,XM,Yn,YA r8]
theorem xD {E:List bj} {c:aR} (h:c.Role.toNat<E.length):uw E c=E.set c.Role.toNat ⟨qx E[c.Role.toNat].Cues c,E[c.Role.toNat].Got,E[c.Role.toNat].Did⟩:=by
 unfold uw
 rw[XN h]
theorem AA {T:Type} {l:List T} {i:Nat} {x:T} (h:i<=l.length) (hl:l.length<=1000000):DG l (i:Int) x=some (l.take i++x :: l.drop i):=by
 unfold DG
 rw[XT (by omega:(0:Int)<=(i:Int)),XT (by omega:(i:Int)<=(l.length:Int)),XT (by omega:l.length<4294967296),Y9]
 rfl
theorem S3 (w:aw) (a:Int) (hf:Fit w):EU w a=some (Bi w a):=by
 unfold EU NG Bi
 rw[Ka w hf,XM]
 by_cases ok:okW w
 ·rw[pe ok,XX rfl]
  simp only[Yy,XO]
  rw[R2 _ _ hf.1,XM]
  by_cases hd:(gZ w.Net a).2.2=0
  ·rw[XX hd,hd]
   simp only[Yy,XO]
   obtain ⟨r,hr,hm⟩:=Nq _ (w9 hd)
   rw[hr,XM]
   unfold Fs
   cases hq:msg (gZ w.Net a).1.Data with
   | none=>
    rw[hq] at hm
    simp only at hm
    rw[hm]
    rfl
   | some m=>
    cases m with
    | inr s=>
     rw[hq] at hm
     simp only at hm
     subst hm
     rfl
    | inl c=>
     rw[hq] at hm
     simp only at hm
     subst hm
     obtain ⟨hlt,hp1,hp2⟩:=Ap ok hd hq
     rw[hp1] at hq
     obtain ⟨hc,_,_⟩:=Es hp2 hq
     obtain ⟨⟨hn1,hn2⟩,⟨hb1,hb2⟩,_,hears,_⟩:=ok
     obtain ⟨hr0,hr1⟩:=sM hc hn2 hn1
     have hbar:=mj hc
     simp only[XR,XM,show ((1:Int)==2)=false from rfl,XO]
     by_cases hle:w.Bar<=c.Bar
     ·rw[XT hle,XR,XX hle]
      have hg:bL w.Ears c.Role=some w.Ears[c.Role.toNat]:=by
       have:=br w.Ears c.Role.toNat
       rw[show ((c.Role.toNat:Nat):Int)=c.Role by omega] at this
       rw[this]; exact XN hr1
      obtain ⟨hasc,_,_,hlen⟩:=rC (xb (hears c.Role.toNat hr1)) hb1 hb2
      have hl:w.Ears[c.Role.toNat].Cues.length<=4096:=o3
      obtain ⟨p1,p2,p3,p4,p5⟩:=g8 c.Bar w.Ears[c.Role.toNat].Cues
      rw[hg,XM,S7 hasc hbar o3,XM,xD hr1]
      have ha:cz 32 ([]) w.Ears[c.Role.toNat].Cues=some w.Ears[c.Role.toNat].Cues:=by
       rw[dB _ _ _ x8]; rfl
      rw[ha]
      simp only[XM]
      have key:∀ (q:List aR),(Option.bind (cz 72 ([]) w.Ears) fun y=>Option.bind (l0 y.length c.Role) fun k=>Option.bind (oz y k fun (y:bj)=>bj.mk q y.Got y.Did) fun z=>some ((aw.mk (gZ w.Net a).2.1 (List.take y.length (List.drop 0 z)) w.Bar),bh.mk 0 0 0,false,(0:Int))) =
        some (aw.mk (gZ w.Net a).2.1 (w.Ears.set c.Role.toNat ⟨q,w.Ears[c.Role.toNat].Got,w.Ears[c.Role.toNat].Did⟩) w.Bar,zR,false,0):=fun q=>
       QL hn2 hr0 hr1 (fun (y:bj)=>bj.mk q y.Got y.Did) fun z=>(aw.mk (gZ w.Net a).2.1 z w.Bar,bh.mk 0 0 0,false,(0:Int))
      unfold qx
      cases ho:BF w.Ears[c.Role.toNat].Cues c.Bar with
      | nil=>
       simp only[Zj,XR]
       rw[AA p1 o3,XM,key,<-p4,<-p5,ho]
      | cons x r=>
       by_cases hx:x.Bar=c.Bar
       ·simp only[XT hx,X7,XO,XX hx]
        have hi:(iq w.Ears[c.Role.toNat].Cues c.Bar).length<w.Ears[c.Role.toNat].Cues.length:=by
         refine Y1 fun h=>?_
         rw[p5,Yd.2 h] at ho
         cases ho
        have hx0:w.Ears[c.Role.toNat].Cues[(iq w.Ears[c.Role.toNat].Cues c.Bar).length]=x:=by
         rw[p5,X1 hi] at ho
         exact(qat ho).1
        have hr':w.Ears[c.Role.toNat].Cues.drop ((iq w.Ears[c.Role.toNat].Cues c.Bar).length+1)=r:=by
         rw[p5,X1 hi] at ho
         exact(qat ho).2
        rw[br,XN hi,XM,hx0]
        by_cases hno:x.No<c.No
        ·rw[XT hno,XR,XX hno]
         have e1:l0 w.Ears[c.Role.toNat].Cues.length ((iq w.Ears[c.Role.toNat].Cues c.Bar).length:Int)=some (iq w.Ears[c.Role.toNat].Cues c.Bar).length:=by
          unfold l0
          rw[XT (by omega:(0:Int)<=((iq w.Ears[c.Role.toNat].Cues c.Bar).length:Int)),XT (by omega:((iq w.Ears[c.Role.toNat].Cues c.Bar).length:Int)<(w.Ears[c.Role.toNat].Cues.length:Int)),Y9]
          rfl
         have e2:oz w.Ears[c.Role.toNat].Cues (iq w.Ears[c.Role.toNat].Cues c.Bar).length (fun (y:aR)=>c)=some (w.Ears[c.Role.toNat].Cues.set (iq w.Ears[c.Role.toNat].Cues c.Bar).length c):=by
          unfold oz
          rw[XN hi]
         rw[e1,XM,e2,XM,Yn,YA r8,key]
         congr 4
         rw[List.set_eq_take_append_cons_drop,XX hi,hr',<-p4]
        ·rw[XZ hno,XO,XW hno,key]
         have:iq w.Ears[c.Role.toNat].Cues c.Bar++x :: r=w.Ears[c.Role.toNat].Cues:=by rw[<-ho]; exact List.takeWhile_append_dropWhile
         rw[this]
       ·simp only[XZ hx,Zj,XR,XW hx]
        rw[AA p1 o3,XM,key,<-p4,<-p5,ho]
     ·rw[XZ hle,XO,XW hle]
      rfl
  ·rw[XW hd,show ((gZ w.Net a).2.2 != 0)=true by simpa using hd]
   rfl
 ·rw[fi ok]
  rfl
theorem Ip (n:Nat) (l:List aR) (c:aR) (hl:l.length<=1000000):∀ (m i:Nat),i<=(iq l c.Bar).length->(iq l c.Bar).length - i<m->kS n l c m (i:Int)=some ((iq l c.Bar).length:Int)
 | 0,_,_,h=>absurd h (Yl _)
 | m+1,i,hi,h=>by
  obtain ⟨p1,p2,p3,_⟩:=g8 c.Bar l
  unfold kS
  by_cases hlt:i<(iq l c.Bar).length
  ·have hil:i<l.length:=by omega
   rw[show decide ((i:Int)<(l.length:Int))=true by simpa using hil,XR,br,XN hil,XM,XT (p2 i hil hlt),XM,XR]
   have e1:wr .i64 ((i:Int)+1)=((i+1:Nat):Int):=by rw[dn o3 o3]; omega
   rw[e1]
   exact Ip n l c hl m (i+1) o3 o3
  ·have hie:i=(iq l c.Bar).length:=by omega
   by_cases hil:i<l.length
   ·rw[show decide ((i:Int)<(l.length:Int))=true by simpa using hil,XR,br,XN hil,XM]
    have:¬ l[i].Bar<c.Bar:=by
     have:=p3 (hie ▸ hil)
     simpa only [<-hie] using this
    rw[XZ this,XM,XO,hie]
   ·rw[show decide ((i:Int)<(l.length:Int))=false by simpa using hil,XO,XM,XO,hie]
theorem S8 (l:List aR) (c:aR) (hl:l.length<=1000000):KO l c=some (qx l c):=by
 unfold KO NY
 have h0:=Ip aE l c hl (aE+8) 0 (Ya _) (by rw[fu]; have:=(g8 c.Bar l).1; omega)
 rw[show ((0:Nat):Int)=0 from rfl] at h0
 obtain ⟨p1,p2,p3,p4,p5⟩:=g8 c.Bar l
 rw[h0]
 simp only[XM]
 have a1:cz 32 ([]) (l.take (iq l c.Bar).length)=some (l.take (iq l c.Bar).length):=by
  rw[dB _ _ _ x8]; rfl
 have a2:∀ x:aR,cz 32 (l.take (iq l c.Bar).length) [x]=some (l.take (iq l c.Bar).length++[x]):=fun x=>dB _ _ _ x8
 have a3:∀ (x:aR) (k:Nat),cz 32 (l.take (iq l c.Bar).length++[x]) (l.drop k)=some (l.take (iq l c.Bar).length++[x]++l.drop k):=fun x k=>dB _ _ _ x8
 rw[qg _ _ p1,XM,a1,XM]
 unfold qx
 by_cases hlt:(iq l c.Bar).length<l.length
 ·rw[show decide (((iq l c.Bar).length:Int)<(l.length:Int))=true by simpa using hlt,XR,br,XN hlt]
  simp only[XM]
  have ho:BF l c.Bar=l[(iq l c.Bar).length] :: l.drop ((iq l c.Bar).length+1):=by rw[p5,X1 hlt]
  rw[ho]
  have e1:wr .i64 (((iq l c.Bar).length:Int)+1)=(((iq l c.Bar).length+1:Nat):Int):=by rw[dn o3 o3]; omega
  by_cases hx:l[(iq l c.Bar).length].Bar=c.Bar
  ·rw[show (l[(iq l c.Bar).length].Bar==c.Bar)=true by simpa using hx,XR,e1,lL _ _ o3]
   simp only[XX hx]
   by_cases hno:l[(iq l c.Bar).length].No<c.No
   ·rw[XZ (show ¬ c.No<=l[(iq l c.Bar).length].No by omega),XO,XX hno,a2,XM,XM,a3,XM,Yx,<-p4]
    rfl
   ·rw[XT (show c.No<=l[(iq l c.Bar).length].No by omega),XR,XW hno,a2,XM,XM,a3,XM,Yx,<-p4]
    rfl
  ·rw[show (l[(iq l c.Bar).length].Bar==c.Bar)=false by simpa using hx,XO,lL _ _ o3,a2,XM,XM,a3,XM,Yx,<-p4]
   simp only[XW hx]
   rw[X1 hlt]
   rfl
 ·rw[show decide (((iq l c.Bar).length:Int)<(l.length:Int))=false by simpa using hlt,XO]
  simp only[XM,XO]
  have ho:BF l c.Bar=[]:=by rw[p5,Yd.2 o3]
  rw[ho,lL _ _ o3,a2,XM,XM,a3,XM,<-p5,ho,YN,<-p4]
theorem JW {w:aw} {p:aA} {r:bh} (h:xY w p=true) (hm:msg p.Data=some (.inr r)) (hn:w.Ears.length<=12):0<p.From/\p.To=0:=by
 unfold xY kG at h
 rw[hm] at h
 simp only[XQ,YV,XV] at h
 obtain ⟨⟨⟨⟨h1,h2⟩,h3⟩,h4⟩,h5⟩:=h
 rw[dn o3 o3] at h3
 exact⟨o3,h4⟩
theorem GU {w:aw} {p:aA} (h:xY w p=true) (hm:msg p.Data=none):False:=by
 unfold xY at h
 rw[hm] at h
 cases h
theorem Ng (w:aw) (a:Int) (hf:Fit w):KE w a=some (Bi w a):=by
 unfold KE NH Bi
 rw[Kb w hf,XM]
 by_cases ok:okW w
 ·rw[pe ok,XX rfl]
  simp only[Yy,XO]
  rw[R3 _ _ hf.1,XM]
  by_cases hd:(gZ w.Net a).2.2=0
  ·rw[XX hd,hd]
   simp only[Yy,XO]
   unfold Fs
   cases hq:msg (gZ w.Net a).1.Data with
   | none=>
    have hz:(gZ w.Net a).1=nV:=by
     obtain ⟨h1,h2,h3,h4,h5⟩:=yT hd
     rcases h5 with h5 | h5
     ·exact h5
     ·rw[h5] at hq
      exact(GU (Ei ok (Ys _)) hq).elim
    rw[hz]
    rfl
   | some m=>
    obtain ⟨hlt,hp1,hp2⟩:=Ap ok hd hq
    have hdl:=w9 hd
    rw[hp1] at hq hdl ⊢
    cases m with
    | inr s=>
     obtain ⟨f1,f2⟩:=JW hp2 hq ok.1.2
     rw[show (w.Net.Queue[a.toNat].From==w.Net.Queue[a.toNat].To)=false by rw[Y8]; omega,XO,f2]
     simp only[Y5,XR]
     rw[Nt _ hdl,hq]
     rfl
    | inl c=>
     obtain ⟨hc,f1,f2⟩:=Es hp2 hq
     obtain ⟨⟨hn1,hn2⟩,⟨hb1,hb2⟩,_,hears,_⟩:=ok
     obtain ⟨hr0,hr1⟩:=sM hc hn2 hn1
     rw[dn o3 o3] at f2
     rw[show (w.Net.Queue[a.toNat].From==w.Net.Queue[a.toNat].To)=false by rw[Y8]; omega,XO,show (w.Net.Queue[a.toNat].To==0)=false by rw[Y8]; omega,XO,Nk _ hdl,hq]
     simp only[XM]
     by_cases hle:w.Bar<=c.Bar
     ·rw[XT hle,XR,XX hle,xD hr1]
      obtain ⟨hasc,_,_,hlen⟩:=rC (xb (hears c.Role.toNat hr1)) hb1 hb2
      have e0:cz 72 ([]) w.Ears=some w.Ears:=by rw[dB _ _ _ x8]; rfl
      have e1:l0 w.Ears.length c.Role=some c.Role.toNat:=by
       unfold l0
       rw[XT hr0,XT (by omega:c.Role<(w.Ears.length:Int))]
       rfl
      have e2:∀ u:bj->bj,oz w.Ears c.Role.toNat u=some (w.Ears.set c.Role.toNat (u w.Ears[c.Role.toNat])):=fun u=>by
       unfold oz
       rw[XN hr1]
      rw[e0,XM,e1,XM,XN hr1,XM,S8 _ _ o3,XM,XM,e2,XM,Yn,YA r8]
      rfl
     ·rw[XZ hle,XO,XW hle]
      rfl
  ·rw[XW hd,show ((gZ w.Net a).2.2 != 0)=true by simpa using hd]
   rfl
 ·rw[fi ok]
  rfl
noncomputable def Iu (w:aw) (d:aD×Int):aw×Int:=if qI w=0 then (if d.2=0 then (⟨d.1,w.Ears,w.Bar⟩,0) else (zW,d.2)) else (zW,qI w)
theorem AI (w:aw) (d:aD×Int):(bif (qI w != 0) then some (((aw.mk ((aD.mk ([]) ([]))) ([]) 0),qI w)) else (Option.bind (some d) fun y3=>bif (y3.2 != 0) then (some (((aw.mk ((aD.mk ([]) ([]))) ([]) 0),y3.2))) else (some (((aw.mk y3.1 w.Ears w.Bar),(0:Int))))))=some (Iu w d):=by
 unfold Iu
 by_cases h:qI w=0
 ·rw[XX h,h]
  simp only[Yy,XO,XM]
  by_cases h2:d.2=0
  ·rw[XX h2,h2]
   simp only[Yy,XO]
  ·rw[XW h2,show (d.2 != 0)=true by simpa using h2]
   rfl
 ·rw[XW h,show (qI w != 0)=true by simpa using h]
  rfl
theorem Nh (w:aw) (a:Int) (hf:Fit w):KF w a=some (Iu w (qy w.Net a)):=by
 unfold KF NI
 rw[Ka w hf,XM,R4 _ _ hf.1]
 exact AI w _
theorem Ni (w:aw) (a:Int) (hf:Fit w):KG w a=some (Iu w (qy w.Net a)):=by
 unfold KG NJ
 rw[Kb w hf,XM,R5 _ _ hf.1]
 exact AI w _
theorem Nj (w:aw) (a:Int) (hf:Fit w) (hq:w.Net.Queue.length<=4095):KH w a=some (Iu w (ye w.Net a)):=by
 unfold KH NK
 rw[Ka w hf,XM,R6 _ _ hq hf.1]
 exact AI w _
theorem Nl (w:aw) (a:Int) (hf:Fit w) (hq:w.Net.Queue.length<=4095):KI w a=some (Iu w (ye w.Net a)):=by
 unfold KI NL
 rw[Kb w hf,XM,R7 _ _ hq hf.1]
 exact AI w _
def tr (x:aD):Prop:=x.Queue.length<=4611686018427387904/\x.Apart.length<=4611686018427387904
theorem yn (x:aD) (i:Nat):(ic x i).Queue.length<=x.Queue.length/\(ic x i).Apart=x.Apart:=by
 unfold ic
 refine⟨?_,rfl⟩
 simp only[X9,YG,Zd]
 omega
theorem px {x:aD} (h:tr x) (i:Nat):tr (ic x i):=by
 obtain ⟨h1,h2⟩:=yn x i
 exact⟨Yb h1 h.1,by rw[h2]; exact h.2⟩
theorem rQ {x:aD} (h:tr x) (a:Int):tr (gZ x a).2.1:=by
 unfold gZ
 split
 ·exact px h _
 ·exact⟨Ya _,Ya _⟩
theorem Bp {x:aD} (h:tr x) (a:Int):tr (qy x a).1:=by
 unfold qy
 split
 ·exact px h _
 ·exact⟨Ya _,Ya _⟩
theorem Dv {x:aD} (hq:x.Queue.length<=4095) (hA:x.Apart.length<=4611686018427387904) (a:Int):tr (ye x a).1:=by
 unfold ye
 split
 ·exact BL x _ hq hA
 ·exact⟨Ya _,Ya _⟩
theorem BA (l:List aR) (c:aR):(qx l c).length<=l.length+1:=by
 obtain ⟨p1,p2,p3,p4,p5⟩:=g8 c.Bar l
 have hl:l.length=(iq l c.Bar).length+(BF l c.Bar).length:=by rw[p5,Zd]; omega
 unfold qx
 cases ho:BF l c.Bar with
 | nil=>simp only[X9,X8,Z3]; omega
 | cons x r=>
  rw[ho] at hl
  simp only[X8] at hl
  simp only[X9]
  split
  ·split<;>simp only[X8]<;>omega
  ·simp only[X8]; omega
theorem Bo {E:List bj} (h:E.length<=20/\∀ x∈E,x.Cues.length<=40/\x.Got.length<=5000/\x.Did.length<=5000) (c:aR):A4 (uw E c):=by
 unfold uw
 split
 ·rename_i y hy
  have hm:=Yh hy
  refine⟨by rw[List.length_set]; omega,fun x hx=>?_⟩
  rcases qal hx with hx | rfl
  ·have:=h.2 x hx; omega
  ·have h1:=h.2 y hm
   have h2:=BA y.Cues c
   exact⟨by show (qx y.Cues c).length<=_; omega,by show y.Got.length<=_; omega,by show y.Did.length<=_; omega⟩
 ·exact⟨o3,fun x hx=>by have:=h.2 x hx; omega⟩
theorem Fj {w:aw} (h:yu w) (a:Int):B6 (Bi w a).1:=by
 have hN:tr w.Net:=⟨by have:=h.1; omega,by have:=h.2.1; omega⟩
 have hE:A4 w.Ears:=h.LQ.1
 unfold Bi
 split
 ·split
  ·unfold Fs
   split
   ·exact⟨hE,rQ hN a⟩
   ·refine⟨?_,rQ hN a⟩
    show A4 (if _ then uw w.Ears _ else w.Ears)
    split
    ·exact Bo h.2.2 _
    ·exact hE
   ·exact⟨hE,rQ hN a⟩
  ·exact vH
 ·exact vH
theorem D5 {w:aw} (h:yu w) {d:aD×Int} (hd:tr d.1):B6 (Iu w d).1:=by
 unfold Iu
 split
 ·split
  ·exact⟨h.LQ.1,hd⟩
  ·exact vH
 ·exact vH
theorem MD:HQ:=by
 intro w a hw ha
 unfold G4 F4
 rw[SX,XM]
 simp only[X7,XO]
 rcases XA w with h8 | ⟨h8,hf⟩
 ·rw[h8]; rfl
 ·rw[h8]
  have hq:w.Net.Queue.length<=4095:=by have:=hf.1; omega
  have hN:tr w.Net:=⟨by have:=hf.1; omega,by have:=hf.2.1; omega⟩
  simp only[XM,X7,XO,S3 w a hf.fit,Ng w a hf.fit,Nh w a hf.fit,Ni w a hf.fit,Nj w a hf.fit hq,Nl w a hf.fit hq,EL _ (Fj hf a),EL _ (D5 hf (Bp hN a)),EL _ (D5 hf (Dv hq hN.2 a)),XR,Y5,Zq]
section
open Go.RowKit Go.Deep
theorem own:ownKnob Tryz.prog.godebug=none:=r7
theorem laidOut:laidOutB Tryz.prog=true:=r7
end
section
open Go.RowKit Go.ChangeShapes Go.WideShapes Go.ChangeAt Go.Deep
theorem lM (os:Os) (started:os.Started) (H:Type) (enc:TypeId×Value->H) :
  ReturnsInHanded {} Tryz.checked os 4 .any (Rows.wiresDeliverSpecSpec.pre6 enc Tryz.prog Tryz.f4 Rows.wiresDeliverSpecRow.domain false) (Rows.wiresDeliverSpecSpec.post enc Tryz.prog Tryz.f4 false true false false):=by
 refine returnsInHanded_of_change (C:=Tryz.checked) own started r7 Tryz.func4
  (ChangeSpec.witness6 (enc:=enc) (C:=Tryz.checked) false ⟨#[],#[.agg #[.slice none 0 0,.slice none 0 0,.slice none 0 0,.int .i64 0],.int .i64 0],[]⟩ 8 r7 r7 r7 r7) ?_
 intro W base args ds gs before hval hW _ _
 exact vV rfl rfl Tryz.underlying4 laidOut r7 (fun ds h=>(by match ds,h with | [_,_],_=>rfl)) W base args ds gs before hval hW (fun hg=>Nw MD W base args hg (fun G vs h=>by cases h))
theorem wiresDeliverSpec_holds:Rows.WiresDeliverSpecSaid:=
 OpenClaim.holds_of_wide 4 Tryz.f4 rfl rfl rfl rfl rfl rfl rfl ⟨rfl,rfl,rfl,rfl,rfl⟩ rfl rfl rfl rfl rfl r7 Tryz.func4 r7
  (XY r7) (by unfold Func.isWrapper; first | (rw[XX (by decide +kernel)]; kernel_rfl) | (rw[XW (by decide +kernel)]; exact⟨rfl,rfl⟩))
  (fun os started H enc _=>lM os started H enc)
#print axioms wiresDeliverSpec_holds
end
end Go.Proofs.YtebkhfhcipnfgaaGreat
