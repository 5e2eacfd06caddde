/-
 WiresHold: the statement holds.
-/
import Derived.Test.YtebkhfhcipnfgaaTb3
import Derived.Test.YtebkhfhcipnfgaaChecked
import Derived.Test.YtebkhfhcipnfgaaRows
namespace Go.Proofs.Ytebkhfhcipnfgaa
set_option linter.unusedVariables false
set_option linter.unusedSimpArgs false
set_option maxHeartbeats 4000000
set_option maxRecDepth 100000
set_option linter.defProp false
theorem s9 {p:Prop} (h:p:=by rw[fu]; omega):p:=h
theorem NW {p:Prop} (h:p:=by rw[Ej]; simp; omega):p:=h
theorem NX {p:Prop} (h:p:=by unfold dg; omega):p:=h
theorem N2 {p:Prop} (h:p:=by rw[List.length_cons]; omega):p:=h
def Pb:=@bne_self_eq_false
def Pk:=@decide_eq_false_iff_not
def Pz:=@Nat.lt_succ_iff_lt_or_eq
def PS:=@List.forall_mem_cons
def PX:=@BitVec.toNat_ofInt
def P6:=@List.not_mem_nil
def P9:=@decide_eq_true_iff
def QC:=@Int.fdiv_eq_ediv_of_nonneg
def Q0:=@Nat.pow_le_pow_right
def Q6:=@Nat.eq_or_lt_of_le
def Q8:=@List.any_cons
def Rb:=@UInt8.ofNat_toNat
def Rx:=@Nat.mul_le_mul
def Ry:=@Bool.not_false
def Rz:=@List.length_singleton
def RD:=@List.cons.inj
def RE:=@Nat.mul_assoc
def RF:=@Bool.false_or
def RJ:=@ByteArray.toList_eq
def RN:=@ite_congr
def RQ:=@Nat.pow_add
def RR:=@Int.le_refl
section
open Go.Proofs.Try (prog)
theorem xb:fF ak:=fun x y h=>by
 unfold ak at h
 simp only[O2,A.v.injEq,PC,PG,Pv,Qr,Qh] at h
 have h3:=qH x y (by simp[h])
 obtain ⟨xKind,xN,xS,lx⟩:=x; obtain ⟨yKind,yN,yS,ly⟩:=y
 simp_all
theorem eM:fF ah:=fun x y h=>by
 obtain ⟨xFrom,xTo,xData⟩:=x; obtain ⟨yFrom,yTo,yData⟩:=y
 simp only[ah,O2,A.v.injEq,A.imm.injEq,PC,PG,Pv,Qr,Qh,map_inj (qL)] at h
 simp_all
theorem jq:fF ai:=fun x y h=>by
 obtain ⟨x0_,x1_⟩:=x; obtain ⟨y0_,y1_⟩:=y
 simp only[ai,O2,A.v.injEq,A.imm.injEq,PC,PG,Pv,Qr,Qh] at h
 simp_all
theorem qK:fF bW:=fun x y h=>by
 obtain ⟨xQueue,xApart⟩:=x; obtain ⟨yQueue,yApart⟩:=y
 simp only[bW,O2,A.v.injEq,A.imm.injEq,PC,PG,Pv,Qr,Qh,map_inj (eM),map_inj (qL),map_inj (jq)] at h
 simp_all
theorem nU:fF aD:=fun x y h=>by
 obtain ⟨xNo,xRole,xBar,xProgram⟩:=x; obtain ⟨yNo,yRole,yBar,yProgram⟩:=y
 simp only[aD,O2,A.v.injEq,A.imm.injEq,PC,PG,Pv,Qr,Qh] at h
 simp_all
theorem nV:fF aj:=fun x y h=>by
 obtain ⟨xCues,xGot,xDid⟩:=x; obtain ⟨yCues,yGot,yDid⟩:=y
 simp only[aj,O2,A.v.injEq,A.imm.injEq,PC,PG,Pv,Qr,Qh,map_inj (nU),map_inj (jK .i64)] at h
 simp_all
theorem eN:fF aa:=fun x y h=>by
 obtain ⟨⟨xNetQueue,xNetApart⟩,xEars,xBar⟩:=x; obtain ⟨⟨yNetQueue,yNetApart⟩,yEars,yBar⟩:=y
 simp only[aa,O2,A.v.injEq,A.imm.injEq,PC,PG,Pv,Qr,Qh,map_inj (eM),map_inj (qL),map_inj (jq),map_inj (nV),map_inj (nU),map_inj (jK .i64)] at h
 simp_all
theorem m5:fF aq:=fun x y h=>by
 obtain ⟨xkind,⟨xcueNo,xcueRole,xcueBar,xcueProgram⟩,⟨xreportRole,xreportBar,xreportProgram⟩⟩:=x; obtain ⟨ykind,⟨ycueNo,ycueRole,ycueBar,ycueProgram⟩,⟨yreportRole,yreportBar,yreportProgram⟩⟩:=y
 simp only[aq,O2,A.v.injEq,A.imm.injEq,PC,PG,Pv,Qr,Qh] at h
 simp_all
theorem fa {T:Type} {c:T->List A} (h:fF c):fF (fun x=>A.agg (c x)):=fun x y e=>h x y (A.agg.inj e)
theorem iZ {T:Type} {f:T->List A} (h:fF f):fF (fun l:List T=>A.imm (l.map f) false):=fun x y e=>(map_inj h x y).1 (A.imm.inj e).1
theorem fA (k:IntKind):fF (fun n=>A.v (.int k n)):=fun x y e=>by simpa using e
theorem eV {X:Type} {f:X->A} (hf:fF f):fF (fun x=>[f x]):=fun x y e=>hf x y (RD e).1
theorem ja {X Y:Type} {f:X->A} {g:Y->List A} (hf:fF f) (hg:fF g):fF (fun x:X×Y=>f x.1 :: g x.2):=fun x y e=>Prod.ext (hf _ _ (RD e).1) (hg _ _ (RD e).2)
theorem kq:fF ae:=fun x y h=>xb x y (by rw[cD,cD]; exact h)
noncomputable def C0:Nat->List A->Option A:=fun _ _=>none
def cd (C:Nat->List A->Option A):Prop:=∀ (k:Nat) (args:List A) (r:A),C k args=some r->ib prog (cx C0).glob k args r
theorem KP:cd C0:=fun k args r h=>(by cases h)
theorem nY {C:Nat->List A->Option A} {k:Nat} {c:List A->Option A} (h:cd C) (hc:∀ args r,c args=some r->ib prog (cx C0).glob k args r):cd (jX C k c):=fun j args r hr=>by
 simp only[jX] at hr
 rw[aZ] at hr
 split at hr
 ·rename_i hj
  rw[Ok hj]; exact hc args r hr
 ·exact h j args r hr
theorem EX {C:Nat->List A->Option A} (hC:cd C) (N k:Nat) (args:List A) (r:A) (h:JN C N k args=some r):ib prog (cx C0).glob k args r:=by
 unfold JN at h
 split at h
 ·rename_i x H he
  cases h
  exact nD (cx:=cx C) (fun k args r _ h=>hC k args r h) r8 he
 ·cases h
theorem AH:∀ m,cd (Cn m)
 | 0=>fun k args r h=>(by cases h)
 | m+1=>fun k args r h=>EX (AH m) 1000 k args r h
theorem dc {X Y:Type} {C:Nat->List A->Option A} {k:Nat} {x:X->List A} {G:X->Option Y} {f:Y->A} (hC:cd C) (h:∀ a,J (fun (o:R) y=>∃ v,o.1=.ret v/\bR o.2 v=f y) (aJ (cx C) (di (cx C) (aE+8)) (aX (cx C) (aE+8)) (aE+8) k (x a) [] 0) some (G a) some):cd (jX C k fun args=>cb x (fun a=>(G a).map f) args):=nY hC fun args r h'=>by
 obtain ⟨a,y,rfl,hy,rfl⟩:=iD h'
 exact Fq (cx:=cx C) (fun k args r _ h=>hC k args r h) r8 (h a) hy
def Mj (x:Int×Int×Int):List A:=[(iA x.1),(iA x.2.1),(iA x.2.2)]
theorem Ki:fF Mj:=ja (fA .i64) (ja (fA .i64) (eV (fA .i64)))
noncomputable def LK (args:List A):Option A:=cb Mj (fun x=>(wz x.1 x.2.1 x.2.2).map fun y=>(bA y)) args
noncomputable def C1:Nat->List A->Option A:=jX C0 30 LK
theorem Ft:cd C1:=dc KP fun x=>Mx C0 aE  x.1 x.2.1 x.2.2
def DE (x:Unit):List A:=[]
theorem Kj:fF DE:=fun _ _ _=>rfl
noncomputable def LL (args:List A):Option A:=cb DE (fun x=>(JC ).map fun y=>(A.agg [(A.imm (List.map ah y.Queue) false),(A.imm (List.map ai y.Apart) false)])) args
noncomputable def C2:Nat->List A->Option A:=jX C1 31 LL
theorem Fu:cd C2:=dc Ft fun x=>My C1 aE
def gm (x:Int):List A:=[(iA x)]
theorem J7:fF gm:=eV (fA .i64)
noncomputable def LB (args:List A):Option A:=cb gm (fun x=>(Ga x).map fun y=>(A.tup [(A.agg (aa y.1)),(iA y.2)])) args
theorem BI {C:Nat->List A->Option A} (h:∀ a,C 30 a=LK a):my C:=fun a0 a1 a2=>(h _).trans (bf _ Ki (a0,a1,a2))
theorem KX {C:Nat->List A->Option A} (h:∀ a,C 31 a=LL a):DU C:=fun _=>(h _).trans (bf _ Kj ())
noncomputable def C3:Nat->List A->Option A:=jX C2 11 LB
theorem Fv:cd C3:=dc Fu fun x=>Mo C2 aE (BI fun _=>r8) (KX fun _=>r8) x
def Mm (x:Int×Int):List A:=[(iA x.1),(iA x.2)]
theorem Kw:fF Mm:=ja (fA .i64) (eV (fA .i64))
noncomputable def LZ (args:List A):Option A:=cb Mm (fun x=>(IT x.1 x.2).map fun y=>(A.agg [(iA y.1),(iA y.2)])) args
noncomputable def C4:Nat->List A->Option A:=jX C3 72 LZ
theorem Fw:cd C4:=dc Fv fun x=>ML C3 aE  x.1 x.2
def pK (x:(Int×Int)):List A:=[(A.agg (ai x))]
theorem Ku:fF pK:=eV (fa (jq))
noncomputable def LX (args:List A):Option A:=cb pK (fun x=>(FQ x).map fun y=>(bA y)) args
noncomputable def C5:Nat->List A->Option A:=jX C4 64 LX
theorem Fx:cd C5:=dc Fw fun x=>MJ C4 aE  x
def wx (x:av):List A:=[(A.agg (ah x))]
theorem Kr:fF wx:=eV (fa (eM))
noncomputable def LS (args:List A):Option A:=cb wx (fun x=>(FP x).map fun y=>(bA y)) args
theorem HX {C:Nat->List A->Option A} (h:∀ a,C 64 a=LX a):xO C:=fun a0=>(h _).trans (bf _ Ku a0)
theorem K7 {C:Nat->List A->Option A} (h:∀ a,C 72 a=LZ a):DY C:=fun a0 a1=>(h _).trans (bf _ Kw (a0,a1))
noncomputable def C6:Nat->List A->Option A:=jX C5 56 LS
theorem Fy:cd C6:=dc Fx fun x=>MG C5 aE (HX fun _=>r8) (K7 fun _=>r8) x
def pJ (x:av):List A:=[(A.agg (ah x))]
theorem Kt:fF pJ:=eV (fa (eM))
noncomputable def LV (args:List A):Option A:=cb pJ (fun x=>(Gf x).map fun y=>(bA y)) args
theorem HW {C:Nat->List A->Option A} (h:∀ a,C 56 a=LS a):zU C:=fun a0=>(h _).trans (bf _ Kr a0)
noncomputable def C7:Nat->List A->Option A:=jX C6 63 LV
theorem Fz:cd C7:=dc Fy fun x=>MI C6 aE (HW fun _=>r8) x
def xG (x:(List av)):List A:=[(A.imm (List.map ah x) false),(A.fn (Fn.func 63) [] [])]
theorem CI:fF xG:=fun x y h=>by
 simp only[xG,LA,map_inj (eM),map_inj (qL)] at h
 exact h
noncomputable def Bz (args:List A):Option A:=cb xG (fun x=>(sY x).map fun y=>(iA y)) args
theorem K5 {C:Nat->List A->Option A} (h:∀ a,C 63 a=LV a):zV C:=fun a0=>(h _).trans (bf _ Kt a0)
noncomputable def C8:Nat->List A->Option A:=jX C7 88 Bz
theorem FA:cd C8:=dc Fz fun x=>EN C7 aE (K5 fun _=>r8) x
def xF (x:(List av)):List A:=[(A.imm (List.map ah x) false),(A.fn (Fn.func 63) [] [])]
theorem CH:fF xF:=fun x y h=>by
 simp only[xF,LA,map_inj (eM),map_inj (qL)] at h
 exact h
noncomputable def Bx (args:List A):Option A:=cb xF (fun x=>(pU x).map fun y=>(bA y)) args
theorem Dy {C:Nat->List A->Option A} (h:∀ a,C 88 a=Bz a):uJ C:=fun a0=>(h _).trans (bf _ CI a0)
noncomputable def C9:Nat->List A->Option A:=jX C8 62 Bx
theorem FB:cd C9:=dc FA fun x=>EM C8 aE (Dy fun _=>r8) x
def Il (x:Int):List A:=[(iA x)]
theorem Hg:fF Il:=eV (fA .i64)
noncomputable def Hw (args:List A):Option A:=cb Il (fun x=>(uE x).map fun y=>(bA y)) args
noncomputable def I6:Nat->List A->Option A:=jX C9 106 Hw
theorem CS:cd I6:=dc FB fun x=>JD C9 aE  x
def wv (x:bq):List A:=[(A.agg (bW x))]
theorem Kk:fF wv:=eV (fa (qK))
noncomputable def LM (args:List A):Option A:=cb wv (fun x=>(FO x).map fun y=>(iA y)) args
theorem HQ {C:Nat->List A->Option A} (h:∀ a,C 106 a=Hw a):sZ C:=fun a0=>(h _).trans (bf _ Hg a0)
theorem Dx {C:Nat->List A->Option A} (h:∀ a,C 62 a=Bx a):uI C:=fun a0=>(h _).trans (bf _ CH a0)
noncomputable def I7:Nat->List A->Option A:=jX I6 33 LM
theorem CT:cd I7:=dc CS fun x=>Mz I6 aE (HQ fun _=>r8) (Dx fun _=>r8) (HX fun _=>r8) x
def Mg (x:bM×Int):List A:=[(A.agg (aD x.1)),(iA x.2)]
theorem Kf:fF Mg:=ja (fa (nU)) (eV (fA .i64))
noncomputable def IZ (args:List A):Option A:=cb Mg (fun x=>(EE x.1 x.2).map fun y=>(bA y)) args
noncomputable def I8:Nat->List A->Option A:=jX I7 24 IZ
theorem CU:cd I8:=dc CT fun x=>Mu I7 aE (BI fun _=>r8) x.1 x.2
def DF (x:aG×Int×Int×Int):List A:=[(A.agg (aj x.1)),(iA x.2.1),(iA x.2.2.1),(iA x.2.2.2)]
theorem Kl:fF DF:=ja (fa (nV)) (ja (fA .i64) (ja (fA .i64) (eV (fA .i64))))
noncomputable def LN (args:List A):Option A:=cb DF (fun x=>(Gc x.1 x.2.1 x.2.2.1 x.2.2.2).map fun y=>(bA y)) args
theorem FH {C:Nat->List A->Option A} (h:∀ a,C 24 a=IZ a):rX C:=fun a0 a1=>(h _).trans (bf _ Kf (a0,a1))
noncomputable def I9:Nat->List A->Option A:=jX I8 34 LN
theorem CV:cd I9:=dc CU fun x=>MA I8 aE (FH fun _=>r8) (BI fun _=>r8) x.1 x.2.1 x.2.2.1 x.2.2.2
def Im (x:Int):List A:=[(A.v (.int .u64 x))]
theorem Hh:fF Im:=eV (fA .u64)
noncomputable def Hx (args:List A):Option A:=cb Im (fun x=>(zJ x).map fun y=>(iA y)) args
noncomputable def Ja:Nat->List A->Option A:=jX I9 108 Hx
theorem CW:cd Ja:=dc CV fun x=>JE I9 aE  x
def Ml (x:(List UInt8)):List A:=[(A.imm (List.map c8 x) false)]
theorem Kv:fF Ml:=eV (iZ (qL))
noncomputable def LY (args:List A):Option A:=cb Ml (fun x=>(Gg x).map fun y=>(A.tup [(A.agg (ae y.1)),(iA y.2)])) args
theorem HR {C:Nat->List A->Option A} (h:∀ a,C 108 a=Hx a):ta C:=fun a0=>(h _).trans (bf _ Hh a0)
noncomputable def Jb:Nat->List A->Option A:=jX Ja 66 LY
theorem CX:cd Jb:=dc CW fun x=>MK Ja aE (HR fun _=>r8) x
def DG (x:(List UInt8)):List A:=[(A.imm (List.map c8 x) false)]
theorem Km:fF DG:=eV (iZ (qL))
noncomputable def I0 (args:List A):Option A:=cb DG (fun x=>(Gd x).map fun y=>(A.tup [(A.agg (aq y.1)),(bA y.2)])) args
theorem K6 {C:Nat->List A->Option A} (h:∀ a,C 66 a=LY a):DX C:=fun a0=>(h _).trans (bf _ Kv a0)
noncomputable def Jc:Nat->List A->Option A:=jX Jb 35 I0
theorem CY:cd Jc:=dc CX fun x=>MB Jb aE (K6 fun _=>r8) x
def Mf (x:al):List A:=[(A.agg (aa x))]
theorem J8:fF Mf:=eV (fa (eN))
noncomputable def LC (args:List A):Option A:=cb Mf (fun x=>(DK x).map fun y=>(iA y)) args
theorem HV {C:Nat->List A->Option A} (h:∀ a,C 33 a=LM a):zO C:=fun a0=>(h _).trans (bf _ Kk a0)
theorem KY {C:Nat->List A->Option A} (h:∀ a,C 34 a=LN a):zP C:=fun a0 a1 a2 a3=>(h _).trans (bf _ Kl (a0,a1,a2,a3))
theorem KZ {C:Nat->List A->Option A} (h:∀ a,C 35 a=I0 a):zQ C:=fun a0=>(h _).trans (bf _ Km a0)
noncomputable def Jd:Nat->List A->Option A:=jX Jc 13 LC
theorem yv:cd Jd:=dc CY fun x=>Mp Jc aE (FH fun _=>r8) (BI fun _=>r8) (HV fun _=>r8) (KY fun _=>r8) (KZ fun _=>r8) x
def I5 (x:af):List A:=[(A.agg (ae x))]
theorem Hi:fF I5:=eV (fa kq)
noncomputable def KL (args:List A):Option A:=cb I5 (fun x=>(IV x).map fun y=>(A.tup [(iA y.1),(bA y.2)])) args
noncomputable def Fo (q:Nat) (args:List A):Option A:=cb I5 (fun x=>(D3 q x).map fun y=>(A.tup [(iA y.1),(bA y.2)])) args
noncomputable def wB (q:Nat):Nat->List A->Option A:=jX Jd 96 (Fo q)
theorem NN (q:Nat):wC (wB q) (D3 q):=fun a0=>(by kernel_rfl:_=Fo q (I5 a0)).trans (bf _ Hi a0)
theorem Ev:∀ (q:Nat) (args:List A) (r:A) (h:Fo q args=some r),ib prog (cx C0).glob 96 args r
 | 0,args,r,h=>by
  obtain ⟨x,y,rfl,hy,rfl⟩:=iD h
  cases hy
 | q+1,args,r,h=>by
  obtain ⟨x,y,rfl,hy,rfl⟩:=iD h
  exact Fq (f:=fun (y:(Int×Bool))=>(A.tup [(iA y.1),(bA y.2)])) (cx:=cx (wB q)) (fun k args r _ h=>nY yv (Ev q) k args r h) r8 (MO (wB q) aE  (D3 q) (NN q) x) hy
theorem KO (args:List A) (r:A) (h:KL args=some r):ib prog (cx C0).glob 96 args r:=Ev aE args r h
noncomputable def Je:Nat->List A->Option A:=jX Jd 96 KL
theorem CZ:cd Je:=nY yv KO
def yL (x:af):List A:=[(A.agg (ae x))]
theorem Ky:fF yL:=eV (fa kq)
noncomputable def L3 (args:List A):Option A:=cb yL (fun x=>(Gi x).map fun y=>(iA y)) args
theorem La {C:Nat->List A->Option A} (h:∀ a,C 96 a=KL a):D1 C:=fun a0=>(h _).trans (bf _ Hi a0)
noncomputable def Jf:Nat->List A->Option A:=jX Je 83 L3
theorem Da:cd Jf:=dc CZ fun x=>MN Je aE (La fun _=>r8) x
def Mn (x:Int):List A:=[(iA x)]
theorem Kz:fF Mn:=eV (fA .i64)
noncomputable def L4 (args:List A):Option A:=cb Mn (fun x=>(EG x).map fun y=>(A.v (.int .u64 y))) args
noncomputable def Jg:Nat->List A->Option A:=jX Jf 99 L4
theorem Db:cd Jg:=dc Da fun x=>MP Jf aE  x
def DH (x:af):List A:=[(A.agg (ae x))]
theorem Ks:fF DH:=eV (fa kq)
noncomputable def LU (args:List A):Option A:=cb DH (fun x=>(EF x).map fun y=>(A.tup [(A.imm (List.map c8 y.1) false),(iA y.2)])) args
theorem K9 {C:Nat->List A->Option A} (h:∀ a,C 83 a=L3 a):D0 C:=fun a0=>(h _).trans (bf _ Ky a0)
theorem Lb {C:Nat->List A->Option A} (h:∀ a,C 99 a=L4 a):rY C:=fun a0=>(h _).trans (bf _ Kz a0)
noncomputable def Jh:Nat->List A->Option A:=jX Jg 58 LU
theorem Dc:cd Jh:=dc Db fun x=>MH Jg aE (K9 fun _=>r8) (Lb fun _=>r8) x
def Mi (x:aC):List A:=[(A.agg (aq x))]
theorem Kh:fF Mi:=eV (fa (m5))
noncomputable def LJ (args:List A):Option A:=cb Mi (fun x=>(FN x).map fun y=>(A.imm (List.map c8 y) false)) args
theorem K4 {C:Nat->List A->Option A} (h:∀ a,C 58 a=LU a):DW C:=fun a0=>(h _).trans (bf _ Ks a0)
noncomputable def Ji:Nat->List A->Option A:=jX Jh 26 LJ
theorem Dd:cd Ji:=dc Dc fun x=>Mw Jh aE (K4 fun _=>r8) x
def Mh (x:bq×av):List A:=[(A.agg (bW x.1)),(A.agg (ah x.2))]
theorem Kg:fF Mh:=ja (fa (qK)) (eV (fa (eM)))
noncomputable def LI (args:List A):Option A:=cb Mh (fun x=>(FM x.1 x.2).map fun y=>(A.tup [(A.agg [(A.imm (List.map ah y.1.Queue) false),(A.imm (List.map ai y.1.Apart) false)]),(iA y.2)])) args
noncomputable def Jj:Nat->List A->Option A:=jX Ji 25 LI
theorem De:cd Jj:=dc Dd fun x=>Mv Ji aE (HV fun _=>r8) (HW fun _=>r8) x.1 x.2
def x9 (x:al×bM):List A:=[(A.agg (aa x.1)),(A.agg (aD x.2))]
theorem ND:fF x9:=ja (fa (eN)) (eV (fa (nU)))
noncomputable def o9 (args:List A):Option A:=cb x9 (fun x=>(G9 x.1 x.2).map fun y=>(A.tup [(A.agg (aa y.1)),(iA y.2)])) args
theorem FG {C:Nat->List A->Option A} (h:∀ a,C 13 a=LC a):xM C:=fun a0=>(h _).trans (bf _ J8 a0)
theorem HT {C:Nat->List A->Option A} (h:∀ a,C 25 a=LI a):uG C:=fun a0 a1=>(h _).trans (bf _ Kg (a0,a1))
theorem HU {C:Nat->List A->Option A} (h:∀ a,C 26 a=LJ a):uH C:=fun a0=>(h _).trans (bf _ Kh a0)
noncomputable def Ls:Nat->List A->Option A:=jX Jj 9 o9
theorem Df:cd Ls:=dc De fun x=>T9 Jj aE (FG fun _=>r8) (FH fun _=>r8) (HT fun _=>r8) (HU fun _=>r8) x.1 x.2
def yJ (x:al×Int):List A:=[(A.agg (aa x.1)),(iA x.2)]
theorem Kc:fF yJ:=ja (fa (eN)) (eV (fA .i64))
noncomputable def KK (args:List A):Option A:=cb yJ (fun x=>(IM x.1 x.2).map fun y=>(A.tup [(A.agg (aa y.1)),(iA y.2)])) args
theorem J1:∀ e∈Ic,Cn 24 21 (yJ e.1)=(fun (y:(al×Int))=>some (A.tup [(A.agg (aa y.1)),(iA y.2)])) e.2:=PS.2 ⟨Ha,PS.2 ⟨Hb,fun _ h=>absurd h P6⟩⟩
theorem KN (args:List A) (r:A) (h:KK args=some r):ib prog (cx C0).glob 21 args r:=by
 obtain ⟨x,y,rfl,hy,rfl⟩:=iD h
 exact AH 24 21 _ _ (J1 (x,y) (ru hy))
noncomputable def Jk:Nat->List A->Option A:=jX Ls 21 KK
theorem Dg:cd Jk:=nY Df KN
def DI (x:(List Int)×Int):List A:=[(A.imm (List.map (cI .i64) x.1) false),(iA x.2)]
theorem Kx:fF DI:=ja (iZ (jK .i64)) (eV (fA .i64))
noncomputable def L0 (args:List A):Option A:=cb DI (fun x=>(IU x.1 x.2).map fun y=>(iA y)) args
noncomputable def Jl:Nat->List A->Option A:=jX Jk 77 L0
theorem Dh:cd Jl:=dc Dg fun x=>MM Jk aE  x.1 x.2
def xD (x:(List Int)×Int):List A:=[(A.imm (List.map (cI .i64) x.1) false),(iA x.2)]
theorem Kn:fF xD:=ja (iZ (jK .i64)) (eV (fA .i64))
noncomputable def LO (args:List A):Option A:=cb xD (fun x=>(Ge x.1 x.2).map fun y=>(bA y)) args
theorem K8 {C:Nat->List A->Option A} (h:∀ a,C 77 a=L0 a):DZ C:=fun a0 a1=>(h _).trans (bf _ Kx (a0,a1))
noncomputable def Jm:Nat->List A->Option A:=jX Jl 48 LO
theorem Di:cd Jm:=dc Dh fun x=>MC Jl aE (K8 fun _=>r8) x.1 x.2
def xE (x:(List Int)×Int):List A:=[(A.imm (List.map (cI .i64) x.1) false),(iA x.2)]
theorem Ko:fF xE:=ja (iZ (jK .i64)) (eV (fA .i64))
noncomputable def LP (args:List A):Option A:=cb xE (fun x=>(DL x.1 x.2).map fun y=>(A.imm (List.map (cI .i64) y) false)) args
noncomputable def Jn:Nat->List A->Option A:=jX Jm 49 LP
theorem Dj:cd Jn:=dc Di fun x=>MD Jm aE  x.1 x.2
def Mk (x:al×Int×(List Int)):List A:=[(A.agg (aa x.1)),(iA x.2.1),(A.imm (List.map (cI .i64) x.2.2) false)]
theorem Kp:fF Mk:=ja (fa (eN)) (ja (fA .i64) (eV (iZ (jK .i64))))
noncomputable def LQ (args:List A):Option A:=cb Mk (fun x=>(IP x.1 x.2.1 x.2.2).map fun y=>(A.fn (Fn.func 78) [] [(A.ip [(A.imm (List.map (cI .i64) y.1) false)]),(A.ip (aa y.2.1)),(A.ip [(iA y.2.2)])])) args
noncomputable def Jo:Nat->List A->Option A:=jX Jn 51 LQ
theorem Dk:cd Jo:=dc Dj fun x=>ME Jn aE  x.1 x.2.1 x.2.2
def DD (x:al×(List Int)×(List Int)):List A:=[(A.agg (aa x.1)),(A.imm (List.map (cI .i64) x.2.1) false),(A.imm (List.map (cI .i64) x.2.2) false)]
theorem Kb:fF DD:=ja (fa (eN)) (ja (iZ (jK .i64)) (eV (iZ (jK .i64))))
noncomputable def LF (args:List A):Option A:=cb DD (fun x=>(Ce x.1 x.2.1 x.2.2).map fun y=>(A.tup [(A.agg (aa y.1)),(iA y.2)])) args
theorem K0 {C:Nat->List A->Option A} (h:∀ a,C 48 a=LO a):zR C:=fun a0 a1=>(h _).trans (bf _ Kn (a0,a1))
theorem K1 {C:Nat->List A->Option A} (h:∀ a,C 49 a=LP a):zS C:=fun a0 a1=>(h _).trans (bf _ Ko (a0,a1))
theorem K2 {C:Nat->List A->Option A} (h:∀ a,C 51 a=LQ a):DV C:=fun a0 a1 a2=>(h _).trans (bf _ Kp (a0,a1,a2))
noncomputable def Lt:Nat->List A->Option A:=jX Jo 19 LF
theorem Dl:cd Lt:=dc Dk fun x=>Mr Jo aE (FG fun _=>r8) (HT fun _=>r8) (HU fun _=>r8) (BI fun _=>r8) (K0 fun _=>r8) (K1 fun _=>r8) (K2 fun _=>r8) x.1 x.2.1 x.2.2
def oh (x:al×Int):List A:=[(A.agg (aa x.1)),(iA x.2)]
theorem J9:fF oh:=ja (fa (eN)) (eV (fA .i64))
noncomputable def KJ (args:List A):Option A:=cb oh (fun x=>(ED x.1 x.2).map fun y=>(A.tup [(A.agg (aa y.1)),(A.agg (au y.2.1)),(bA y.2.2.1),(iA y.2.2.2)])) args
theorem J0:∀ e∈Ib,Cn 24 16 (oh e.1)=(fun (y:(al×ba×Bool×Int))=>some (A.tup [(A.agg (aa y.1)),(A.agg (au y.2.1)),(bA y.2.2.1),(iA y.2.2.2)])) e.2:=PS.2 ⟨G1,PS.2 ⟨G2,PS.2 ⟨G3,PS.2 ⟨G4,PS.2 ⟨G6,fun _ h=>absurd h P6⟩⟩⟩⟩⟩
theorem KM (args:List A) (r:A) (h:KJ args=some r):ib prog (cx C0).glob 16 args r:=by
 obtain ⟨x,y,rfl,hy,rfl⟩:=iD h
 exact AH 24 16 _ _ (J0 (x,y) (ru hy))
noncomputable def Jp:Nat->List A->Option A:=jX Lt 16 KJ
theorem Dm:cd Jp:=nY Dl KM
def pT (x:(List Int)×(List Int)):List A:=[(A.imm (List.map (cI .i64) x.1) false),(A.imm (List.map (cI .i64) x.2) false)]
theorem Kq:fF pT:=ja (iZ (jK .i64)) (eV (iZ (jK .i64)))
noncomputable def LR (args:List A):Option A:=cb pT (fun x=>(IQ x.1 x.2).map fun y=>(bA y)) args
noncomputable def Jq:Nat->List A->Option A:=jX Jp 55 LR
theorem Dn:cd Jq:=dc Dm fun x=>MF Jp aE  x.1 x.2
def zH (x:(List aG)×(List aG)):List A:=[(A.imm (List.map aj x.1) false),(A.imm (List.map aj x.2) false)]
theorem Kd:fF zH:=ja (iZ (nV)) (eV (iZ (nV)))
noncomputable def LG (args:List A):Option A:=cb zH (fun x=>(FL x.1 x.2).map fun y=>(bA y)) args
theorem K3 {C:Nat->List A->Option A} (h:∀ a,C 55 a=LR a):zT C:=fun a0 a1=>(h _).trans (bf _ Kq (a0,a1))
noncomputable def Jr:Nat->List A->Option A:=jX Jq 22 LG
theorem Dp:cd Jr:=dc Dn fun x=>Ms Jq aE (K3 fun _=>r8) x.1 x.2
def x7 (x:Unit):List A:=[]
theorem NB:fF x7:=fun _ _ _=>rfl
noncomputable def o7 (args:List A):Option A:=cb x7 (fun x=>(G7 ).map fun y=>(bA y)) args
theorem KR {C:Nat->List A->Option A} (h:∀ a,C 11 a=LB a):DN C:=fun a0=>(h _).trans (bf _ J7 a0)
theorem KS {C:Nat->List A->Option A} (h:∀ a,C 16 a=KJ a):DP C:=fun a0 a1=>(h _).trans (bf _ J9 (a0,a1))
theorem HS {C:Nat->List A->Option A} (h:∀ a,C 19 a=LF a):zM C:=fun a0 a1 a2=>(h _).trans (bf _ Kb (a0,a1,a2))
theorem KU {C:Nat->List A->Option A} (h:∀ a,C 21 a=KK a):DR C:=fun a0 a1=>(h _).trans (bf _ Kc (a0,a1))
theorem KV {C:Nat->List A->Option A} (h:∀ a,C 22 a=LG a):DS C:=fun a0 a1=>(h _).trans (bf _ Kd (a0,a1))
theorem NK {C:Nat->List A->Option A} (h:∀ a,C 9 a=o9 a):Gm C:=fun a0 a1=>(h _).trans (bf _ ND (a0,a1))
noncomputable def Js:Nat->List A->Option A:=jX Jr 7 o7
theorem Dq:cd Js:=dc Dp fun x=>T7 Jr aE (KR fun _=>r8) (FG fun _=>r8) (KS fun _=>r8) (HS fun _=>r8) (KU fun _=>r8) (KV fun _=>r8) (NK fun _=>r8)
def yK (x:bq):List A:=[(A.agg (bW x))]
theorem Ke:fF yK:=eV (fa (qK))
noncomputable def LH (args:List A):Option A:=cb yK (fun x=>(Gb x).map fun y=>(bA y)) args
noncomputable def Jt:Nat->List A->Option A:=jX Js 23 LH
theorem Dr:cd Jt:=dc Dq fun x=>Mt Js aE  x
def x8 (x:al):List A:=[(A.agg (aa x))]
theorem NC:fF x8:=eV (fa (eN))
noncomputable def o8 (args:List A):Option A:=cb x8 (fun x=>(G8 x).map fun y=>(bA y)) args
theorem KW {C:Nat->List A->Option A} (h:∀ a,C 23 a=LH a):DT C:=fun a0=>(h _).trans (bf _ Ke a0)
noncomputable def Ju:Nat->List A->Option A:=jX Jt 8 o8
theorem Ds:cd Ju:=dc Dr fun x=>T8 Jt aE (KW fun _=>r8) x
def DC (x:(List Int)×Int):List A:=[(A.imm (List.map (cI .i64) x.1) false),(iA x.2)]
theorem Ka:fF DC:=ja (iZ (jK .i64)) (eV (fA .i64))
noncomputable def LD (args:List A):Option A:=cb DC (fun x=>(FK x.1 x.2).map fun y=>(bA y)) args
noncomputable def Jv:Nat->List A->Option A:=jX Ju 18 LD
theorem Dt:cd Jv:=dc Ds fun x=>Mq Ju aE  x.1 x.2
def x5 (x:al×(List Int)×(List Int)):List A:=[(A.agg (aa x.1)),(A.imm (List.map (cI .i64) x.2.1) false),(A.imm (List.map (cI .i64) x.2.2) false)]
theorem NA:fF x5:=ja (fa (eN)) (ja (iZ (jK .i64)) (eV (iZ (jK .i64))))
noncomputable def o5 (args:List A):Option A:=cb x5 (fun x=>(G5 x.1 x.2.1 x.2.2).map fun y=>(bA y)) args
theorem KT {C:Nat->List A->Option A} (h:∀ a,C 18 a=LD a):DQ C:=fun a0 a1=>(h _).trans (bf _ Ka (a0,a1))
theorem NI {C:Nat->List A->Option A} (h:∀ a,C 7 a=o7 a):Gk C:=fun _=>(h _).trans (bf _ NB ())
theorem NJ {C:Nat->List A->Option A} (h:∀ a,C 8 a=o8 a):Gl C:=fun a0=>(h _).trans (bf _ NC a0)
theorem NF (args:List A) (r:A) (h:o5 args=some r):ib prog (cx C0).glob 5 args r:=by
 obtain ⟨x,y,rfl,hy,rfl⟩:=iD h
 exact Fq (f:=fun (y:Bool)=>(bA y)) (cx:=cx Jv) (fun k args r _ h=>Dt k args r h) r8 (T5 Jv aE (KT fun _=>r8) (HS fun _=>r8) (NI fun _=>r8) (NJ fun _=>r8) x.1 x.2.1 x.2.2) hy
end
section
open Go.RowKit Go.ChangeShapes Go.WideShapes Go.ChangeAt Go.Deep
theorem EU {args:Array Value} (h:args.size=3):∃ a0 a1 a2,args=#[a0,a1,a2]:=by
 match args,h with | ⟨[a0,a1,a2]⟩,_=>exact⟨a0,a1,a2,rfl⟩
mutual
def bX:af->Prop
 | .mk Kind N S L=>(dg Kind/\dg N/\(S.size<=jN)/\L.length<=jN)/\eP L
def eP:List af->Prop
 | []=>True
 | x :: r=>bX x/\eP r
end
theorem nX:∀ (l:List af),eP l↔∀ z∈l,bX z
 | []=>by rw[eP]; simp
 | x :: r=>by rw[eP,nX r]; simp
theorem dK (x:af):bX x↔dg x.Kind/\dg x.N/\(x.S.size<=jN)/\(x.L.length<=jN/\∀ z∈x.L,bX z):=by
 cases x
 rw[bX,nX]
 simp only[and_assoc]
def pB (x:av):Prop:=dg x.From/\dg x.To/\(x.Data.length<=jN)
def vX (x:bq):Prop:=(x.Queue.length<=jN/\∀ z∈x.Queue,pB z)/\(x.Apart.length<=jN/\∀ z∈x.Apart,(dg z.1/\dg z.2))
def vV (x:bM):Prop:=dg x.No/\dg x.Role/\dg x.Bar/\dg x.Program
def vW (x:aG):Prop:=(x.Cues.length<=jN/\∀ z∈x.Cues,vV z)/\(x.Got.length<=jN/\∀ z∈x.Got,dg z)/\(x.Did.length<=jN/\∀ z∈x.Did,dg z)
def gA (x:al):Prop:=vX x.Net/\(x.Ears.length<=jN/\∀ z∈x.Ears,vW z)/\dg x.Bar
def lO (x:ba):Prop:=dg x.Role/\dg x.Bar/\dg x.Program
theorem HL:pn Try.prog 48 ah pB:=pn.of (fg (fs:=#[Field.mk "From" 3 0 false "" "" 0,Field.mk "To" 3 1 false "" "" 8,Field.mk "Data" 46 2 false "" "" 16]) (Ts:=[_,_,_]) r8 r8 ⟨(iq r8),(iq r8),(zA (e:=5) (es:=1) (c:=c8) r8 r8 (by decide) (fun _=>rfl) (HN r8)),trivial⟩) fun l h=>by
 obtain ⟨_,_,rfl,⟨x0,rfl,h0⟩,_,_,rfl,⟨x1,rfl,h1⟩,_,_,rfl,⟨x2,rfl,h2⟩,rfl⟩:=h
 exact⟨⟨x0,x1,x2⟩,by simp[ah,cI,cB,cS,cL,ak,ah,ai,bW,aD,aj,aa,au,aq,aL,bP],h0,h1,h2⟩
theorem FC:pn Try.prog 115 ai (fun x=>(dg x.1/\dg x.2)):=pn.of (ur (n:=2) (e:=3) r8 r8 (iq r8)) fun l h=>by
 obtain ⟨_,_,rfl,⟨x0,rfl,h0⟩,_,_,rfl,⟨x1,rfl,h1⟩,rfl⟩:=h
 exact⟨(x0,x1),by simp[cI,cB,cS,cL,ak,ah,ai,bW,aD,aj,aa,au,aq,aL,bP],h0,h1⟩
theorem HI:pn Try.prog 25 bW vX:=pn.of (fg (fs:=#[Field.mk "Queue" 22 0 false "" "" 0,Field.mk "Apart" 23 1 false "" "" 24]) (Ts:=[_,_]) r8 r8 ⟨(fX (e:=48) (es:=3) (c:=ah) r8 r8 (by decide) (fun _=>rfl) HL),(fX (e:=115) (es:=2) (c:=ai) r8 r8 (by decide) (fun _=>rfl) FC),trivial⟩) fun l h=>by
 obtain ⟨_,_,rfl,⟨x0,rfl,h0⟩,_,_,rfl,⟨x1,rfl,h1⟩,rfl⟩:=h
 exact⟨⟨x0,x1⟩,by simp[bW,cI,cB,cS,cL,ak,ah,ai,bW,aD,aj,aa,au,aq,aL,bP],h0,h1⟩
theorem HK:pn Try.prog 30 aD vV:=pn.of (fg (fs:=#[Field.mk "No" 3 0 false "" "" 0,Field.mk "Role" 3 1 false "" "" 8,Field.mk "Bar" 3 2 false "" "" 16,Field.mk "Program" 3 3 false "" "" 24]) (Ts:=[_,_,_,_]) r8 r8 ⟨(iq r8),(iq r8),(iq r8),(iq r8),trivial⟩) fun l h=>by
 obtain ⟨_,_,rfl,⟨x0,rfl,h0⟩,_,_,rfl,⟨x1,rfl,h1⟩,_,_,rfl,⟨x2,rfl,h2⟩,_,_,rfl,⟨x3,rfl,h3⟩,rfl⟩:=h
 exact⟨⟨x0,x1,x2,x3⟩,by simp[aD,cI,cB,cS,cL,ak,ah,ai,bW,aD,aj,aa,au,aq,aL,bP],h0,h1,h2,h3⟩
theorem HM:pn Try.prog 55 aj vW:=pn.of (fg (fs:=#[Field.mk "Cues" 53 0 false "" "" 0,Field.mk "Got" 50 1 false "" "" 24,Field.mk "Did" 50 2 false "" "" 48]) (Ts:=[_,_,_]) r8 r8 ⟨(fX (e:=30) (es:=4) (c:=aD) r8 r8 (by decide) (fun _=>rfl) HK),(fX (e:=3) (es:=1) (c:=(cI .i64)) r8 r8 (by decide) (fun _=>rfl) (iq r8)),(fX (e:=3) (es:=1) (c:=(cI .i64)) r8 r8 (by decide) (fun _=>rfl) (iq r8)),trivial⟩) fun l h=>by
 obtain ⟨_,_,rfl,⟨x0,rfl,h0⟩,_,_,rfl,⟨x1,rfl,h1⟩,_,_,rfl,⟨x2,rfl,h2⟩,rfl⟩:=h
 exact⟨⟨x0,x1,x2⟩,by simp[aj,cI,cB,cS,cL,ak,ah,ai,bW,aD,aj,aa,au,aq,aL,bP],h0,h1,h2⟩
theorem HJ:pn Try.prog 28 aa gA:=pn.of (fg (fs:=#[Field.mk "Net" 25 0 false "" "" 0,Field.mk "Ears" 26 2 false "" "" 48,Field.mk "Bar" 3 3 false "" "" 72]) (Ts:=[_,_,_]) r8 r8 ⟨HI,(fX (e:=55) (es:=3) (c:=aj) r8 r8 (by decide) (fun _=>rfl) HM),(iq r8),trivial⟩) fun l h=>by
 obtain ⟨_,_,rfl,⟨x0,rfl,h0⟩,_,_,rfl,⟨x1,rfl,h1⟩,_,_,rfl,⟨x2,rfl,h2⟩,rfl⟩:=h
 exact⟨⟨x0,x1,x2⟩,by simp[aa,cI,cB,cS,cL,ak,ah,ai,bW,aD,aj,aa,au,aq,aL,bP],h0,h1,h2⟩
def D2:Prop:=∀ (a0:al) (a1:(List Int)) (a2:(List Int)),gA a0->(a1.length<=jN/\∀ z∈a1,dg z)->(a2.length<=jN/\∀ z∈a2,dg z)->G5 a0 a1 a2=some true
theorem Ih (hp:D2) (W:World) (base:Nat) (args:Array Value) {H:Type} {enc:TypeId×Value->H} (hg:uF enc Try.prog W base Try.f5.params args) (hl:∀ (G:Nat) (vs:List Value),(cx C0).glob G=some vs->∀ (j:Nat) (v:Value),vs[j]? = some v->W.cell? ⟨G,j,none⟩=some v) :
  Calls Try.prog 5 args W fun e W'=>e=.returned (.bool true)/\Below W.heap.size W W':=by
 obtain ⟨v0,v1,v2,rfl⟩:=EU hg.1
 obtain ⟨a0,b0,w0⟩:=zv hg 0 rfl rfl (fs:=#[Field.mk "Net" 25 0 false "" "" 0,Field.mk "Ears" 26 2 false "" "" 48,Field.mk "Bar" 3 3 false "" "" 72]) r8 HJ
 obtain ⟨a1,b1,w1⟩:=sE hg 1 rfl rfl (e:=3) r8 (fX (e:=3) (es:=1) (c:=(cI .i64)) r8 r8 (by decide) (fun _=>rfl) (iq r8))
 obtain ⟨a2,b2,w2⟩:=sE hg 2 rfl rfl (e:=3) r8 (fX (e:=3) (es:=1) (c:=(cI .i64)) r8 r8 (by decide) (fun _=>rfl) (iq r8))
 refine Fe (glob:=(cx C0).glob) (NF _ _ ((bf _ NA (a0,a1,a2)).trans (by simp only[hp a0 a1 a2 b0 b1 b2]; rfl))) hl ?_
 exact pW w0 (pW w1 (pW w2 y2))
end
@[simp] theorem or_some (a b:Bool):(bif a then some true else some b)=some (a || b):=by cases a<;>rfl
@[simp] theorem AA (a b:Bool):(bif a then some b else some false)=some (a&&b):=by cases a<;>rfl
theorem ia {n:Int} (h:-9223372036854775808<=n) (h':n<=9223372036854775807):wr .i64 n=n:=by
 simp only[wr,IntKind.wrap,IntKind.bits,IntKind.signed]
 simp
 omega
theorem br {T:Type} (l:List T) (i:Nat):bl l (i:Int)=l[i]?:=by simp[bl]
theorem fu:aE=1208925819614629174706176:=rfl
mutual
def pS:af->Nat
 | .mk _ _ s l=>1+s.size / 200+jQ l
def jQ:List af->Nat
 | []=>0
 | x :: r=>pS x+jQ r
end
theorem il (v:af):pS v=1+v.S.size / 200+jQ v.L:=by cases v; rw[pS]
theorem uh (v:af):1<=pS v:=by rw[il]; omega
theorem jS:jQ []=0:=by rw[jQ]
theorem iC (x:af) (r:List af):jQ (x :: r)=pS x+jQ r:=by rw[jQ]
theorem g9:∀ l:List af,l.length<=jQ l
 | []=>OC _
 | x :: r=>by rw[iC,On]; have:=g9 r; have:=uh x; omega
theorem jR:∀ {l:List af} {x:af},x∈l->pS x<=jQ l
 | y :: r,x,h=>by
  rw[iC]
  rcases OQ.1 h with rfl | h
  ·omega
  ·have:=jR h; omega
def emp (s:ByteArray):Bool:=n7 s (ByteArray.mk #[])
mutual
def tP:af->Bool
 | .mk k n s l=>bif k==1 then emp s&&((l.length:Int)==0) else bif k==2 then (n==0)&&((l.length:Int)==0) else bif k==3 then kl l&&((n==0)&&emp s) else false
def kl:List af->Bool
 | []=>true
 | x :: r=>tP x&&kl r
end
mutual
def dep:af->Nat
 | .mk k _ _ l=>bif k==3 then mm l+1 else 0
def mm:List af->Nat
 | []=>0
 | x :: r=>max (dep x) (mm r)
end
theorem mX (v:af):tP v=bif v.Kind==1 then emp v.S&&((v.L.length:Int)==0) else bif v.Kind==2 then (v.N==0)&&((v.L.length:Int)==0) else bif v.Kind==3 then kl v.L&&((v.N==0)&&emp v.S) else false:=by cases v; rw[tP]
theorem oG (v:af):dep v=bif v.Kind==3 then mm v.L+1 else 0:=by cases v; rw[dep]
theorem qC:kl []=true:=by rw[kl]
theorem me (x:af) (r:List af):kl (x :: r)=(tP x&&kl r):=by rw[kl]
theorem nJ:mm []=0:=by rw[mm]
theorem mc (x:af) (r:List af):mm (x :: r)=max (dep x) (mm r):=by rw[mm]
mutual
theorem Cs:∀ v:af,dep v<=pS v
 | .mk k n s l=>by
  rw[dep,pS]
  have:=qh l
  cases k==3<;>simp<;>omega
theorem qh:∀ l:List af,mm l<=jQ l
 | []=>by rw[nJ]; omega
 | x :: r=>by
  rw[mc,iC]
  have:=Cs x; have:=qh r; omega
end
def jc (v:af):Int:=bif tP v then (bif decide (16<dep v) then 2 else 0) else 1
theorem Ba (self:af->Option (Int×Bool)) (n:Nat) (z:Bool) (v:af) (w a b c d:Bool) (hn:pS v<=1100000) (hself:∀ e∈v.L,∃ x,self e=some (x,tP e)/\(tP e=true->x=(dep e:Int))) :
  ∀ (k m i t:Nat),i+k=v.L.length->k<m->∃ r,iM self n z v.L (v.L.length:Int) v w a b c m (t:Int) (i:Int)=some r/\(match r with | .inl p=>kl (v.L.drop i)=false/\p.1=0/\p.2=false | .inr x=>kl (v.L.drop i)=true/\x=((max t (mm (v.L.drop i)):Nat):Int))
 | 0,m,i,t,h1,h2=>by
  obtain ⟨m,rfl⟩:∃ q,m=q+1:=⟨m - 1,r7⟩
  rw[iM,Ov r7,OV.2 r7,qC,nJ]
  exact⟨_,rfl,rfl,r9⟩
 | k+1,m,i,t,h1,h2=>by
  obtain ⟨m,rfl⟩:∃ q,m=q+1:=⟨m - 1,r7⟩
  have hi:i<v.L.length:=r7
  have hl:=g9 v.L
  rw[il] at hn
  obtain ⟨x,h3,h4⟩:=hself _ (OL hi)
  rw[iM,Oc r7,Oz hi,me,mc]
  simp only[N9,br,N5 hi,N4,h3]
  cases hf:tP v.L[i] with
  | false=>exact⟨_,rfl,rfl,rfl,rfl⟩
  | true=>
   rw[h4 hf]
   simp only[Ow,N8,ON]
   rw[ia r7 r7,show (i:Int)+1=((i+1:Nat):Int) by omega,show (if (t:Int)<(dep v.L[i]:Int) then (dep v.L[i]:Int) else (t:Int))=((max t (dep v.L[i]):Nat):Int) by split<;>omega]
   have:=Ba self n z v w a b c d (by rw[il]; exact hn) hself k m (i+1) (max t (dep v.L[i])) r7 r7
   rw[show max t (max (dep v.L[i]) (mm (v.L.drop (i+1))))=max (max t (dep v.L[i])) (mm (v.L.drop (i+1))) by omega]
   exact this
theorem wb:∀ (q:Nat) (v:af),pS v<=q->pS v<=1100000->∃ x,D3 q v=some (x,tP v)/\(tP v=true->x=(dep v:Int))
 | 0,v,h,_=>by have:=uh v; omega
 | q+1,v,h,hn=>by
  have hl:=g9 v.L
  have hn':=hn
  rw[il] at hn' h
  obtain ⟨r,h1,h2⟩:=Ba (D3 q) aE false v false (emp v.S&&((v.L.length:Int)==0)) ((v.N==0)&&((v.L.length:Int)==0)) ((v.N==0)&&emp v.S) false hn (fun e he=>by
   have:=jR he
   exact wb q e r7 r7) v.L.length (aE+8) 0 0 r7 s9
  rw[show ((0:Nat):Int)=0 from rfl] at h1
  rw[OS] at h2
  show ∃ x,F4 (D3 q) aE v=_/\_
  unfold F4
  rw[show (bif n7 v.S (ByteArray.mk #[]) then some ((v.L.length:Int)==0) else some false)=some (emp v.S&&((v.L.length:Int)==0)) from by unfold emp; cases n7 v.S (ByteArray.mk #[])<;>rfl,
   show (bif v.N==0 then some ((v.L.length:Int)==0) else some false)=some ((v.N==0)&&((v.L.length:Int)==0)) from by cases v.N==0<;>rfl,
   show (bif v.N==0 then some (n7 v.S (ByteArray.mk #[])) else some false)=some ((v.N==0)&&emp v.S) from by unfold emp; cases v.N==0<;>rfl]
  simp only[N4]
  rw[mX,oG]
  by_cases k1:v.Kind<1
  ·rw[Oc k1]
   refine⟨0,?_,?_⟩
   ·rw[show (v.Kind==1)=false from so,show (v.Kind==2)=false from so,show (v.Kind==3)=false from so]; rfl
   ·rw[show (v.Kind==1)=false from so,show (v.Kind==2)=false from so,show (v.Kind==3)=false from so]; intro h; cases h
  by_cases k2:3<v.Kind
  ·rw[Ov k1,Oc k2]
   refine⟨0,?_,?_⟩
   ·rw[show (v.Kind==1)=false from so,show (v.Kind==2)=false from so,show (v.Kind==3)=false from so]; rfl
   ·rw[show (v.Kind==1)=false from so,show (v.Kind==2)=false from so,show (v.Kind==3)=false from so]; intro h; cases h
  rw[Ov k1,Ov k2]
  simp only[N8,N9,N4]
  rcases (show v.Kind=1∨v.Kind=2∨v.Kind=3 by omega) with hk | hk | hk
  ·rw[hk]
   simp only[show decide ((1:Int)=0)=false from rfl,show decide ((1:Int)=1)=true from rfl,show decide ((1:Int)<3)=true from rfl,show ((1:Int)==1)=true from rfl,show ((1:Int)==3)=false from rfl,N8,N9,N4]
   cases emp v.S&&((v.L.length:Int)==0) with
   | false=>exact⟨0,rfl,fun h=>by cases h⟩
   | true=>exact⟨0,rfl,fun _=>rfl⟩
  ·rw[hk]
   simp only[show decide ((2:Int)=0)=false from rfl,show decide ((2:Int)=1)=false from rfl,show decide ((2:Int)=2)=true from rfl,show decide ((2:Int)<3)=true from rfl,show ((2:Int)==1)=false from rfl,show ((2:Int)==2)=true from rfl,show ((2:Int)==3)=false from rfl,N8,N9,N4]
   cases (v.N==0)&&((v.L.length:Int)==0) with
   | false=>exact⟨0,rfl,fun h=>by cases h⟩
   | true=>exact⟨0,rfl,fun _=>rfl⟩
  ·rw[hk]
   simp only[show decide ((3:Int)=0)=false from rfl,show decide ((3:Int)=1)=false from rfl,show decide ((3:Int)=2)=false from rfl,show decide ((3:Int)=3)=true from rfl,show decide ((3:Int)<3)=false from rfl,show ((3:Int)==1)=false from rfl,show ((3:Int)==2)=false from rfl,show ((3:Int)==3)=true from rfl,N8,N9,N4]
   cases hc:(v.N==0)&&emp v.S with
   | false=>exact⟨0,r9,fun h=>by simp at h⟩
   | true=>
    rw[hc] at h1
    simp only[Ow,N8,h1,N4]
    cases r with
    | inl p=>
     obtain ⟨h3,h4,h5⟩:=h2
     obtain ⟨p1,p2⟩:=p
     refine⟨0,?_,fun h=>?_⟩
     ·rw[h3]; simp only at h4 h5; subst h4; subst h5; rfl
     ·rw[h3] at h; cases h
    | inr x=>
     obtain ⟨h3,h4⟩:=h2
     have hd:=qh v.L
     refine⟨_,by rw[h3]; rfl,fun _=>?_⟩
     rw[h4,ia r7 r7]
     omega
theorem Nv (v:af) (hn:pS v<=1100000):Gi v=some (jc v):=by
 unfold Gi IK IV
 obtain ⟨x,h1,h2⟩:=wb aE v s9 hn
 rw[h1,N4]
 unfold jc
 cases hf:tP v with
 | false=>rfl
 | true=>
  rw[h2 hf]
  simp only[Ow,N8,N9]
  by_cases h:16<dep v
  ·rw[Oc h,Oc r7]; rfl
  ·rw[Ov h,Ov r7]; rfl
theorem Ej:cq=140737488355328:=r8
theorem iB {T:Type} (b:Nat) (l l2:List T) (h:(l.length+l2.length)*b<=cq):cO b l l2=some (l++l2):=by unfold cO; rw[Oc h]; rfl
theorem oB (l l2:List UInt8) (h:l.length+l2.length<=140737488355328):cO 1 l l2=some (l++l2):=iB _ _ _ (by rw[Ej]; omega)
def num (n:Nat):List UInt8:=if h:n<128 then [UInt8.ofNat n] else UInt8.ofNat (n % 128+128) :: num (n / 128)
termination_by n
decreasing_by omega
theorem qX {n:Nat} (h:n<128):num n=[UInt8.ofNat n]:=by rw[num]; exact dif_pos h
theorem xm {n:Nat} (h:¬ n<128):num n=UInt8.ofNat (n % 128+128) :: num (n / 128):=by rw[num]; exact dif_neg h
theorem yu:∀ (k n:Nat),n<128 ^ k->(num n).length<=max k 1
 | 0,n,h=>by rw[qX (by simpa using Om h (by decide))]; simp
 | k+1,n,h=>by
  by_cases h1:n<128
  ·rw[qX h1]; simp
  ·rw[xm h1,On]
   have hk:0<k:=by
    rcases Q4 k with rfl | hk
    ·simp at h; omega
    ·exact hk
   have:=yu k (n / 128) (by rw[QQ (by decide)]; rw[Nat.pow_succ] at h; exact h)
   omega
theorem oV {n:Nat} (h:n<18446744073709551616):(num n).length<=10:=yu 10 n (Om h (by decide))
theorem Ij (n:Nat):wr .u8 (n:Int)=((n % 256:Nat):Int):=by
 unfold wr IntKind.wrap
 simp[IntKind.bits,IntKind.signed]
theorem HC:∀ c:Fin 256,kN .u8 (c.val:Int) 128=((c.val % 128+128:Nat):Int):=by decide +kernel
theorem Fs (n:Nat):kN .u8 (wr .u8 (n:Int)) 128=((n % 128+128:Nat):Int):=by
 rw[Ij]
 have:=HC ⟨n % 256,Qt _ (by decide)⟩
 rw[this]
 simp only
 congr 2
 omega
theorem Lk (n:Nat):lS .u64 (n:Int) 7=((n / 128:Nat):Int):=by
 unfold lS
 show Int.fdiv (n:Int) (2 ^ 7)=_
 rw[QC _ (by decide)]
 rfl
theorem ix (G:Nat->Int->List UInt8->Option (Int×List UInt8)) (hG:∀ m v l,G (m+1) v l=bif decide (128<=v) then (bif (decide (0<=(kN .u8 (wr .u8 (v)) 128))&&decide ((kN .u8 (wr .u8 (v)) 128)<256)) then (Option.bind (cO 1 l ([(UInt8.ofNat (Int.toNat (kN .u8 (wr .u8 (v)) 128)))])) fun y=>G m (lS .u64 v 7) y) else none) else some (v,l)) :
  ∀ (k m n:Nat) (l:List UInt8),n<128 ^ k->k<=11->k<m->l.length+k<=140737488355328->∃ (y:Nat) (ini:List UInt8),y<128/\G m (n:Int) l=some ((y:Int),l++ini)/\num n=ini++[UInt8.ofNat y]
 | 0,m,n,l,h,_,hm,hl=>by
  obtain ⟨m,rfl⟩:∃ q,m=q+1:=⟨m - 1,r7⟩
  have h:n<1:=h
  exact⟨n,[],r7,by rw[hG,Ov r7,PB]; rfl,by rw[qX r7]; rfl⟩
 | k+1,m,n,l,h,hk,hm,hl=>by
  obtain ⟨m,rfl⟩:∃ q,m=q+1:=⟨m - 1,r7⟩
  by_cases h1:n<128
  ·exact⟨n,[],h1,by rw[hG,Ov r7,PB]; rfl,by rw[qX h1]; rfl⟩
  ·have hq:n / 128<128 ^ k:=by rw[QQ (by decide)]; rw[Nat.pow_succ] at h; exact h
   rw[hG,Oc r7,Fs,Oc r7,Oc r7,Lk,QJ]
   simp only[N9,Qc]
   rw[oB _ _ so,N4]
   obtain ⟨y,ini,h2,h3,h4⟩:=ix G hG k m (n / 128) (l++[UInt8.ofNat (n % 128+128)]) hq r7 r7 so
   exact⟨y,UInt8.ofNat (n % 128+128) :: ini,h2,by rw[h3,O6]; rfl,by rw[xm h1,h4]; rfl⟩
theorem NQ {y:Nat} (h:y<128):wr .u8 (y:Int)=(y:Int):=by rw[Ij,Rk r7]
def xJ (n:Int):Nat:=if 0<=n then (2*n).toNat else (-2*n - 1).toNat
theorem B1 (z:Int):wr .u64 z=z % 18446744073709551616:=by
 unfold wr IntKind.wrap
 simp[IntKind.bits,IntKind.signed]
theorem rE {n:Int} (h:dg n):xJ n<18446744073709551616:=by
 obtain ⟨h1,h2⟩:=h
 unfold xJ; split<;>omega
theorem xor_zero (a:Int) (h:0<=a) (h':a<18446744073709551616):pL .u64 a 0=a:=by
 unfold pL
 show IntKind.wrap .u64 ((BitVec.ofInt 64 a ^^^ BitVec.ofInt 64 0).toNat:Int)=a
 rw[show BitVec.ofInt 64 0=0#64 from rfl,BitVec.xor_zero]
 have:=B1 ((BitVec.ofInt 64 a).toNat:Int)
 unfold wr at this
 rw[this,PX]
 omega
theorem B4 (a:Int) (h:0<=a) (h':a<18446744073709551616):pL .u64 a 18446744073709551615=18446744073709551615 - a:=by
 unfold pL
 show IntKind.wrap .u64 ((BitVec.ofInt 64 a ^^^ BitVec.ofInt 64 18446744073709551615).toNat:Int)=_
 rw[show BitVec.ofInt 64 18446744073709551615=BitVec.allOnes 64 from rfl,BitVec.xor_allOnes,BitVec.toNat_not]
 have:=B1 (((2 ^ 64 - 1 - (BitVec.ofInt 64 a).toNat:Nat)):Int)
 unfold wr at this
 rw[this,PX]
 omega
theorem J2 (n:Int) (h:dg n):EG n=some (xJ n:Int):=by
 obtain ⟨h1,h2⟩:=h
 unfold EG IL
 have e1:rk .u64 (wr .u64 n) 1=(2*n) % 18446744073709551616:=by
  unfold rk
  have:=B1 (wr .u64 n*2 ^ 1)
  unfold wr at this ⊢
  show IntKind.wrap .u64 (IntKind.wrap .u64 n*2 ^ 1)=_
  rw[this]
  have h4:=B1 n
  unfold wr at h4
  rw[h4]; omega
 have e2:lS .i64 n 63=n / 9223372036854775808:=by
  unfold lS
  show Int.fdiv n (2 ^ 63)=_
  rw[QC _ (by decide)]
  rfl
 rw[e1,e2]
 congr 1
 unfold xJ
 by_cases h0:0<=n
 ·rw[Og h0,show n / 9223372036854775808=0 by omega,show wr .u64 0=0 from rfl,xor_zero _ r7 r7]; omega
 ·rw[Oh h0,show n / 9223372036854775808=-1 by omega,show wr .u64 (-1)=18446744073709551615 from rfl,B4 _ r7 r7]; omega
mutual
def jo:af->List UInt8
 | .mk k n s l=>bif k==1 then 1 :: num (xJ n) else bif k==2 then 2 :: (num s.size++kV s) else 3 :: (num l.length++ki l)
def ki:List af->List UInt8
 | []=>[]
 | x :: r=>jo x++ki r
end
theorem dz (v:af):jo v=bif v.Kind==1 then 1 :: num (xJ v.N) else bif v.Kind==2 then 2 :: (num v.S.size++kV v.S) else 3 :: (num v.L.length++ki v.L):=by cases v; rw[jo]
theorem nK:ki []=[]:=by rw[ki]
theorem gv (x:af) (r:List af):ki (x :: r)=jo x++ki r:=by rw[ki]
theorem fN (s:ByteArray):(kV s).length=s.size:=rfl
mutual
theorem yc:∀ (v:af),bX v->pS v<=1100000->(jo v).length<=420*pS v
 | .mk k n s l,h,hn=>by
  rw[bX] at h
  obtain ⟨⟨_,h2,_,_⟩,h5⟩:=h
  rw[pS] at hn
  have h1:=vb l h5 r7
  have h3:=g9 l
  rw[jo,pS]
  have l1:=oV (n:=xJ n) (rE h2)
  have l2:=oV (n:=s.size) r7
  have l3:=oV (n:=l.length) r7
  cases k==1 with
  | true=>simp only[N9,On]; omega
  | false=>
   cases k==2 with
   | true=>simp only[N9,N8,On,Oq,fN]; omega
   | false=>simp only[N8,On,Oq]; omega
theorem vb:∀ (l:List af),eP l->jQ l<=1100000->(ki l).length<=420*jQ l
 | [],_,_=>by rw[nK,jS]; simp
 | x :: r,h,hn=>by
  rw[eP] at h
  rw[iC] at hn ⊢
  have h1:=yc x h.1 r7
  have h2:=vb r h.2 r7
  rw[gv,Oq]; omega
end
theorem zh {v:af} (h:bX v) (hn:pS v<=1100000):(jo v).length<=462000000:=by have:=yc v h hn; omega
theorem nj {v:af} (hn:pS v<=1100000):v.S.size<=220000000:=by rw[il] at hn; omega
theorem yI (n:Nat) (h:n<18446744073709551616):wr .u64 (n:Int)=(n:Int):=by rw[B1]; omega
theorem lu:∀ {l:List af},kl l=true->∀ e∈l,tP e=true
 | x :: r,h,e,he=>by
  rw[me,N7] at h
  rcases OQ.1 he with rfl | he
  ·exact h.1
  ·exact lu h.2 e he
theorem nS {v:af} (h:tP v=true):v.Kind=1∨v.Kind=2∨(v.Kind=3/\kl v.L=true):=by
 rw[mX] at h
 cases h1:v.Kind==1 with
 | true=>exact .inl (by simpa using h1)
 | false=>
  cases h2:v.Kind==2 with
  | true=>exact .inr (.inl (by simpa using h2))
  | false=>
   cases h3:v.Kind==3 with
   | true=>
    rw[h1,h2,h3] at h
    simp only[N9,N8,N7] at h
    exact .inr (.inr ⟨by simpa using h3,h.1⟩)
   | false=>rw[h1,h2,h3] at h; cases h
theorem vm {y:Nat} (h:y<128) {β:Type} (k:List UInt8->Option β) (l:List UInt8) (hl:l.length<=1000000000000) :
  (bif (decide (0<=(wr .u8 (y:Int)))&&decide ((wr .u8 (y:Int))<256)) then Option.bind (cO 1 l ([(UInt8.ofNat (Int.toNat (wr .u8 (y:Int))))])) k else none)=k (l++[UInt8.ofNat y]):=by
 rw[NQ h,Oc r7,Oc r7,oB _ _ so,QJ]
 rfl
theorem Ey {n:Nat} (h:n<18446744073709551616):n<128 ^ 10:=Om h (by decide)
theorem Bc (self:af->af->(List UInt8)->af->Option (List UInt8)) (n:Nat) (hn:50<=n) (z:List UInt8) (b0 b3 x:af) (L:List af) (hL:jQ L<=1100000) (hf:kl L=true) (hok:∀ e∈L,bX e)
  (hself:∀ e∈L,e.Kind=3->∀ l:List UInt8,l.length+(jo e).length<=100000000000->self b0 b3 l e=some (l++jo e)) :
  ∀ (k m i:Nat) (l:List UInt8),i+k=L.length->k<m->l.length+(ki (L.drop i)).length<=100000000000->dD self n z L (L.length:Int) b0 b3 x m (i:Int) l=some (l++ki (L.drop i))
 | 0,m,i,l,h1,h2,h3=>by
  obtain ⟨m,rfl⟩:∃ q,m=q+1:=⟨m - 1,r7⟩
  rw[dD,Ov r7,OV.2 r7,nK,PB]
  rfl
 | k+1,m,i,l,h1,h2,h3=>by
  obtain ⟨m,rfl⟩:∃ q,m=q+1:=⟨m - 1,r7⟩
  have hi:i<L.length:=r7
  have hl:=g9 L
  have hme:L[i]∈L:=OL hi
  have hne:=jR hme
  have hs:=nj (v:=L[i]) r7
  obtain ⟨_,hN,_,_,_⟩:=(dK L[i]).1 (hok _ hme)
  rw[Oz hi,gv,Oq] at h3
  have ih:=Bc self n hn z b0 b3 x L hL hf hok hself k m (i+1) (l++jo L[i]) r7 r7 N0
  rw[dD,Oc r7,Oz hi,gv]
  simp only[N9,br,N5 hi,N4]
  rw[ia r7 r7,show (i:Int)+1=((i+1:Nat):Int) by omega,<-O6]
  have h3':=h3
  rw[dz] at h3
  generalize hE:ki (L.drop (i+1))=E at h3 h3' ih ⊢
  rcases nS (lu hf _ hme) with hk | hk | ⟨hk,_⟩
  ·rw[hk] at h3 ⊢
   simp only[show ((1:Int)==1)=true from rfl,N9,On] at h3
   simp only[show decide ((1:Int)=0)=false from rfl,show decide ((1:Int)=1)=true from rfl,N9,N8,J2 _ hN,N4]
   rw[oB _ _ so,N4]
   obtain ⟨y,ini,e1,e2,e3⟩:=ix (eD n) (fun _ _ _=>rfl) 10 (n+6) (xJ L[i].N) (l++[1]) (Ey (rE hN)) r7 r7 so
   have e4:(num (xJ L[i].N)).length=ini.length+1:=by rw[e3]; simp
   try simp only at e2
   rw[e2,N4]
   try simp only
   rw[vm e1 _ _ so]
   rw[dz,hk] at ih
   simp only[show ((1:Int)==1)=true from rfl,N9,e3] at ih
   rw[dz,hk]
   simp only[show ((1:Int)==1)=true from rfl,N9,e3]
   rw[<-ih]
   congr 1
   simp
  ·rw[hk] at h3 ⊢
   simp only[show ((2:Int)==1)=false from rfl,show ((2:Int)==2)=true from rfl,N9,N8,On,Oq,fN] at h3
   simp only[show decide ((2:Int)=0)=false from rfl,show decide ((2:Int)=1)=false from rfl,show decide ((2:Int)=2)=true from rfl,N9,N8]
   rw[oB _ _ so,N4,yI _ r7]
   obtain ⟨y,ini,e1,e2,e3⟩:=ix (eD n) (fun _ _ _=>rfl) 10 (n+6) L[i].S.size (l++[2]) (Ey r7) r7 r7 so
   have e4:(num L[i].S.size).length=ini.length+1:=by rw[e3]; simp
   try simp only at e2
   rw[e2,N4]
   try simp only
   rw[vm e1 _ _ so,oB _ _ (by simp[fN]; omega),N4]
   rw[dz,hk] at ih
   simp only[show ((2:Int)==1)=false from rfl,show ((2:Int)==2)=true from rfl,N9,N8,e3] at ih
   rw[dz,hk]
   simp only[show ((2:Int)==1)=false from rfl,show ((2:Int)==2)=true from rfl,N9,N8,e3]
   rw[<-ih]
   congr 1
   simp
  ·rw[hk]
   simp only[show decide ((3:Int)=0)=false from rfl,show decide ((3:Int)=1)=false from rfl,show decide ((3:Int)=2)=false from rfl,show decide ((3:Int)=3)=true from rfl,N9,N8]
   rw[hself _ hme hk l r7,N4]
   exact ih
theorem Me:∀ (q N:Nat) (b0 b3:af) (l:List UInt8) (v:af),v.Kind=3->tP v=true->bX v->pS v<=q->pS v<=1100000->q+2000000<=N->l.length+(jo v).length<=100000000000->tc N b0 b3 l v=some (l++jo v)
 | 0,N,b0,b3,l,v,_,_,_,h,_,_,_=>by have:=uh v; omega
 | q+1,N,b0,b3,l,v,hk,hf,hv,h,hn,hN,hl=>by
  obtain ⟨N,rfl⟩:∃ p,N=p+1:=⟨N - 1,r7⟩
  obtain ⟨_,h2,_,_,h4⟩:=(dK v).1 hv
  have hll:=g9 v.L
  have hn':=hn
  rw[il] at hn' h
  have hfs:kl v.L=true:=by
   rcases nS hf with h | h | h
   ·omega
   ·omega
   ·exact h.2
  show (bif Nat.ble 8 N then rW (tc N) (N - 8) b0 b3 l v else none)=_
  rw[Ph (by omega:8<=N)]
  simp only[N9]
  unfold rW
  rw[dz,hk] at hl ⊢
  simp only[show ((3:Int)==1)=false from rfl,show ((3:Int)==2)=false from rfl,N8,On,Oq] at hl ⊢
  rw[oB _ _ so,N4,yI _ r7]
  obtain ⟨y,ini,e1,e2,e3⟩:=ix (iI (N - 8)) (fun _ _ _=>rfl) 10 (N - 8+7) v.L.length (l++[3]) (Ey r7) r7 r7 so
  have e4:(num v.L.length).length=ini.length+1:=by rw[e3]; simp
  try simp only at e2
  rw[e2,N4]
  try simp only
  rw[vm e1 _ _ so]
  have:=Bc (tc N) (N - 8) r7 [] b0 b3 v v.L r7 hfs h4 (fun e he hke l' hl'=>by
   have:=jR he
   exact Me q N b0 b3 l' e hke (lu hfs e he) (h4 e he) r7 r7 r7 hl') v.L.length (N - 8+8) 0 (l++[3]++ini++[UInt8.ofNat y]) r7 r7 (by rw[OS]; simp; omega)
  rw[show ((0:Nat):Int)=0 from rfl,OS] at this
  rw[this,e3]
  simp
theorem A9 (n:Nat) (hn:50<=n) (z:List UInt8) (b0 b3:af) (L:List af) (hL:jQ L<=1100000) (hf:kl L=true) (hok:∀ e∈L,bX e)
  (hself:∀ e∈L,e.Kind=3->∀ l:List UInt8,l.length+(jo e).length<=100000000000->tc (n+7) b0 b3 l e=some (l++jo e)) :
  ∀ (k m i:Nat) (l:List UInt8),i+k=L.length->k<m->l.length+(ki (L.drop i)).length<=100000000000->eS n z L (L.length:Int) b0 b3 m (i:Int) l=some (l++ki (L.drop i))
 | 0,m,i,l,h1,h2,h3=>by
  obtain ⟨m,rfl⟩:∃ q,m=q+1:=⟨m - 1,r7⟩
  rw[eS,Ov r7,OV.2 r7,nK,PB]
  rfl
 | k+1,m,i,l,h1,h2,h3=>by
  obtain ⟨m,rfl⟩:∃ q,m=q+1:=⟨m - 1,r7⟩
  have hi:i<L.length:=r7
  have hl:=g9 L
  have hme:L[i]∈L:=OL hi
  have hne:=jR hme
  have hs:=nj (v:=L[i]) r7
  obtain ⟨_,hN,_,_,_⟩:=(dK L[i]).1 (hok _ hme)
  rw[Oz hi,gv,Oq] at h3
  have ih:=A9 n hn z b0 b3 L hL hf hok hself k m (i+1) (l++jo L[i]) r7 r7 N0
  rw[eS,Oc r7,Oz hi,gv]
  simp only[N9,br,N5 hi,N4]
  rw[ia r7 r7,show (i:Int)+1=((i+1:Nat):Int) by omega,<-O6]
  have h3':=h3
  rw[dz] at h3
  generalize hE:ki (L.drop (i+1))=E at h3 h3' ih ⊢
  rcases nS (lu hf _ hme) with hk | hk | ⟨hk,_⟩
  ·rw[hk] at h3 ⊢
   simp only[show ((1:Int)==1)=true from rfl,N9,On] at h3
   simp only[show decide ((1:Int)=0)=false from rfl,show decide ((1:Int)=1)=true from rfl,N9,N8,J2 _ hN,N4]
   rw[oB _ _ so,N4]
   obtain ⟨y,ini,e1,e2,e3⟩:=ix (gn n) (fun _ _ _=>rfl) 10 (n+5) (xJ L[i].N) (l++[1]) (Ey (rE hN)) r7 r7 so
   have e4:(num (xJ L[i].N)).length=ini.length+1:=by rw[e3]; simp
   try simp only at e2
   rw[e2,N4]
   try simp only
   rw[vm e1 _ _ so]
   rw[dz,hk] at ih
   simp only[show ((1:Int)==1)=true from rfl,N9,e3] at ih
   rw[dz,hk]
   simp only[show ((1:Int)==1)=true from rfl,N9,e3]
   rw[<-ih]
   congr 1
   simp
  ·rw[hk] at h3 ⊢
   simp only[show ((2:Int)==1)=false from rfl,show ((2:Int)==2)=true from rfl,N9,N8,On,Oq,fN] at h3
   simp only[show decide ((2:Int)=0)=false from rfl,show decide ((2:Int)=1)=false from rfl,show decide ((2:Int)=2)=true from rfl,N9,N8]
   rw[oB _ _ so,N4,yI _ r7]
   obtain ⟨y,ini,e1,e2,e3⟩:=ix (gn n) (fun _ _ _=>rfl) 10 (n+5) L[i].S.size (l++[2]) (Ey r7) r7 r7 so
   have e4:(num L[i].S.size).length=ini.length+1:=by rw[e3]; simp
   try simp only at e2
   rw[e2,N4]
   try simp only
   rw[vm e1 _ _ so,oB _ _ (by simp[fN]; omega),N4]
   rw[dz,hk] at ih
   simp only[show ((2:Int)==1)=false from rfl,show ((2:Int)==2)=true from rfl,N9,N8,e3] at ih
   rw[dz,hk]
   simp only[show ((2:Int)==1)=false from rfl,show ((2:Int)==2)=true from rfl,N9,N8,e3]
   rw[<-ih]
   congr 1
   simp
  ·rw[hk]
   simp only[show decide ((3:Int)=0)=false from rfl,show decide ((3:Int)=1)=false from rfl,show decide ((3:Int)=2)=false from rfl,show decide ((3:Int)=3)=true from rfl,N9,N8]
   rw[hself _ hme hk l r7,N4]
   exact ih
theorem Cp {v:af} (h:jc v=0):tP v=true:=by
 unfold jc at h
 cases hf:tP v with
 | true=>rfl
 | false=>rw[hf] at h; cases h
def Cv (v:af):List UInt8×Int:=bif jc v==0 then (jo v,0) else ([],jc v)
theorem Nu (v:af) (hv:bX v) (hn:pS v<=1100000):EF v=some (Cv v):=by
 unfold EF IE
 rw[Nv v hn,N4]
 unfold Cv
 cases hc:jc v==0 with
 | false=>rw[show (jc v != 0)=true by rw[bne,hc]; rfl]; rfl
 | true=>
  rw[show (jc v != 0)=false by rw[bne,hc]; rfl]
  have hf:=Cp (by simpa using hc)
  obtain ⟨_,h2,_,_,h4⟩:=(dK v).1 hv
  have hs:=nj hn
  have he:=zh hv hn
  have hll:=g9 v.L
  have hn':=hn
  rw[il] at hn'
  simp only[N8,N9]
  rw[dz] at he ⊢
  rcases nS hf with hk | hk | ⟨hk,hfs⟩
  ·rw[hk] at he ⊢
   simp only[show decide ((1:Int)=0)=false from rfl,show decide ((1:Int)=1)=true from rfl,show ((1:Int)==1)=true from rfl,N9,N8,J2 _ h2,N4] at he ⊢
   rw[oB _ _ r9,N4]
   obtain ⟨y,ini,e1,e2,e3⟩:=ix (fK aE) (fun _ _ _=>rfl) 10 (aE+6) (xJ v.N) ([]++[1]) (Ey (rE h2)) r7 s9 r9
   have e4:(num (xJ v.N)).length=ini.length+1:=by rw[e3]; simp
   have l1:=oV (rE h2)
   try simp only at e2
   rw[e2,N4]
   try simp only
   rw[vm e1 _ _ so,e3]
   simp
  ·rw[hk] at he ⊢
   simp only[show decide ((2:Int)=0)=false from rfl,show decide ((2:Int)=1)=false from rfl,show decide ((2:Int)=2)=true from rfl,show ((2:Int)==1)=false from rfl,show ((2:Int)==2)=true from rfl,N9,N8,On,Oq,fN] at he ⊢
   rw[oB _ _ r9,N4,yI _ r7]
   obtain ⟨y,ini,e1,e2,e3⟩:=ix (fK aE) (fun _ _ _=>rfl) 10 (aE+6) v.S.size ([]++[2]) (Ey r7) r7 s9 r9
   have e4:(num v.S.size).length=ini.length+1:=by rw[e3]; simp
   have l1:=oV (n:=v.S.size) r7
   try simp only at e2
   rw[e2,N4]
   try simp only
   rw[vm e1 _ _ so,oB _ _ (by simp[fN]; omega),N4,e3]
   simp
  ·rw[hk] at he ⊢
   simp only[show decide ((3:Int)=0)=false from rfl,show decide ((3:Int)=1)=false from rfl,show decide ((3:Int)=2)=false from rfl,show decide ((3:Int)=3)=true from rfl,show ((3:Int)==1)=false from rfl,show ((3:Int)==2)=false from rfl,N9,N8,On,Oq] at he ⊢
   rw[oB _ _ r9,N4,yI _ r7]
   obtain ⟨y,ini,e1,e2,e3⟩:=ix (fK aE) (fun _ _ _=>rfl) 10 (aE+6) v.L.length ([]++[3]) (Ey r7) r7 s9 r9
   have e4:(num v.L.length).length=ini.length+1:=by rw[e3]; simp
   have l1:=oV (n:=v.L.length) r7
   try simp only at e2
   rw[e2,N4]
   try simp only
   rw[vm e1 _ _ so]
   have:=A9 aE s9 [] v v v.L r7 hfs h4 (fun e he' hke l' hl'=>by
    have:=jR he'
    exact Me 1100000 (aE+7) v v l' e hke (lu hfs e he') (h4 e he') r7 r7 s9 hl') v.L.length (aE+7) 0 ([]++[3]++ini++[UInt8.ofNat y]) r7 s9 (by rw[OS]; simp; omega)
   rw[show ((0:Nat):Int)=0 from rfl,OS] at this
   rw[this,e3]
   simp
def mq:Nat->List UInt8->Option (Nat×List UInt8)
 | _,[]=>none
 | c,b :: r=>if (0<c/\b.toNat=0)∨(9<=c/\1<b.toNat) then none else if b.toNat<128 then some (b.toNat,r) else match mq (c+1) r with
  | some (n,t)=>some (b.toNat - 128+128*n,t)
  | none=>none
theorem pw (c:Nat):2 ^ (7*(c+1))=128*2 ^ (7*c):=by rw[QK,RQ]; omega
theorem vC:∀ (l:List UInt8) (c n:Nat) (r:List UInt8),mq c l=some (n,r)->c<=9->l=num n++r/\(0<c->n≠0)/\2 ^ (7*c)*n<18446744073709551616
 | [],c,n,r,h,_=>by rw[mq] at h; cases h
 | b :: l,c,n,r,h,hc=>by
  have hb:=b.toNat_lt
  rw[mq] at h
  split at h
  ·cases h
  rename_i h1
  split at h
  ·rename_i h2
   cases h
   refine⟨?_,fun h3 h4=>h1 (.inl ⟨h3,h4⟩),?_⟩
   ·rw[qX h2,Rb]; rfl
   ·have:2 ^ (7*9)=9223372036854775808:=by decide
    by_cases h9:c=9
    ·subst h9; omega
    ·have h8:2 ^ (7*c)<=2 ^ 56:=Q0 (by decide) r7
     have h7:2 ^ (7*c)*b.toNat<=2 ^ 56*127:=Rx h8 r7
     omega
  ·rename_i h2
   split at h
   ·rename_i m t h3
    cases h
    have h9:c≠9:=fun h=>h1 (.inr ⟨r7,r7⟩)
    obtain ⟨h4,h5,h6⟩:=vC l (c+1) m _ h3 r7
    have h5:=h5 r7
    refine⟨?_,fun _=>r7,?_⟩
    ·rw[xm r7,show (b.toNat - 128+128*m) % 128+128=b.toNat by omega,show (b.toNat - 128+128*m) / 128=m by omega,Rb,h4]
     rfl
    ·rw[pw] at h6
     have h8:2 ^ (7*c)*(b.toNat - 128)+2 ^ (7*c)*(128*m)<18446744073709551616:=by
      have e:2 ^ (7*c)*(128*m)=128*2 ^ (7*c)*m:=by rw[Pm 128 (2 ^ (7*c)),RE]
      rw[e]
      have hlt:b.toNat - 128<128:=r7
      have h10:2 ^ (7*c)*(b.toNat - 128)<2 ^ (7*c)*128:=Nat.mul_lt_mul_of_pos_left hlt (Nat.two_pow_pos _)
      have h11:2 ^ (7*c)*128*m<18446744073709551616:=by rw[Pm (2 ^ (7*c))]; exact h6
      have hd:18446744073709551616=2 ^ (7*c)*128*2 ^ (64 - (7*c+7)):=by
       rw[RE,show 128*2 ^ (64 - (7*c+7))=2 ^ (64 - 7*c) by
        rw[show 128=2 ^ 7 from rfl,<-RQ]; congr 1; omega,<-RQ,show 7*c+(64 - 7*c)=64 by omega]
      rw[hd] at h11
      have h12:m<2 ^ (64 - (7*c+7)):=Nat.lt_of_mul_lt_mul_left h11
      have h13:2 ^ (7*c)*128*(m+1)<=2 ^ (7*c)*128*2 ^ (64 - (7*c+7)):=Ql _ h12
      rw[<-hd,QK,Nat.mul_one] at h13
      rw[Pm 128 (2 ^ (7*c))]
      omega
     rw[QK]; exact h8
   ·cases h
theorem jI {l:List UInt8} {n:Nat} {r:List UInt8} (h:mq 0 l=some (n,r)):l=num n++r/\n<18446744073709551616/\r.length<l.length:=by
 obtain ⟨h1,_,h2⟩:=vC l 0 n r h r7
 refine⟨h1,r7,?_⟩
 have:num n≠[]:=by
  rw[num]; split<;>simp
 have:=List.length_pos_iff.2 this
 rw[h1,Oq]; omega
theorem ET:∀ c:Fin 256,ny .u8 (c.val:Int) 127=((c.val % 128:Nat):Int):=by decide +kernel
theorem NO {b c:Nat} (hc:c<=9) (h:c=9->b<=1) (hb:b<128):rk .u64 (wr .u64 (b:Int)) (wr .i64 (7*(c:Int)))=((2 ^ (7*c)*b:Nat):Int):=by
 rw[ia r7 r7,yI _ r7]
 unfold rk
 rw[show (7*(c:Int)).toNat=7*c by omega,show min (7*c) (IntKind.bits .u64)=7*c from PL (by show 7*c<=64; omega)]
 have e:((b:Int)*2 ^ (7*c))=((2 ^ (7*c)*b:Nat):Int):=by rw[Qp,Int.natCast_pow,RK]; rfl
 rw[e]
 have:=yI (2 ^ (7*c)*b) (by
  have h9:2 ^ (7*9)=9223372036854775808:=by decide
  by_cases h1:c=9
  ·have:=h h1; subst h1; rcases (show b=0∨b=1 by omega) with rfl | rfl<;>omega
  ·have h8:2 ^ (7*c)<=2 ^ 56:=Q0 (by decide) r7
   have:=Rx h8 (show b<=127 by omega)
   omega)
 exact this
theorem KB {a b c:Nat} (hc:c<=9) (h:c=9->b<=1) (hb:b<128) (ha:a<2 ^ (7*c)):a+2 ^ (7*c)*b<18446744073709551616:=by
 have h9:2 ^ (7*9)=9223372036854775808:=by decide
 by_cases h1:c=9
 ·have:=h h1; subst h1; rcases (show b=0∨b=1 by omega) with rfl | rfl<;>omega
 ·have h8:2 ^ (7*c)<=2 ^ 56:=Q0 (by decide) r7
  have:=Rx h8 (show b<=127 by omega)
  omega
theorem NG {a b c:Nat} (hc:c<=9) (h:c=9->b<=1) (hb:b<128) (ha:a<2 ^ (7*c)):kN .u64 (a:Int) ((2 ^ (7*c)*b:Nat):Int)=((a+2 ^ (7*c)*b:Nat):Int):=by
 have h1:=KB hc h hb ha
 unfold kN
 show IntKind.wrap .u64 ((BitVec.ofInt 64 (a:Int) ||| BitVec.ofInt 64 ((2 ^ (7*c)*b:Nat):Int)).toNat:Int)=_
 rw[BitVec.toNat_or,PX,PX]
 have e1:((a:Int) % ((2 ^ 64:Nat):Int)).toNat=a:=r7
 have e2:(((2 ^ (7*c)*b:Nat):Int) % ((2 ^ 64:Nat):Int)).toNat=2 ^ (7*c)*b:=r7
 rw[e1,e2,Nat.or_comm,<-Nat.two_pow_add_eq_or_of_lt ha,Re]
 exact yI _ h1
theorem uq (G:Nat->Int->Int->List UInt8->Option ((List UInt8)⊕(Int×List UInt8))) (hG:∀ m v6 v7 v8,G (m+1) v6 v7 v8=bif (!(decide (1<=((v8.length:Int))))) then (some ((Sum.inl v8))) else (Option.bind (gD v8 0 1) fun y13=>Option.bind (gD v8 1 ((v8.length:Int))) fun y14=>Option.bind (bl y13 0) fun y15=>Option.bind (bif (v7==0) then (some true) else (some (((y15.toNat:Int)) != 0))) fun y17=>Option.bind (bif y17 then (Option.bind (bif (decide (v7<9)) then (some true) else (some (decide (((y15.toNat:Int))<=1)))) fun y22=>some y22) else (some false)) fun y25=>bif (!y25) then (some ((Sum.inl y14))) else (bif decide (0<=(wr .i64 (7*v7))) then (bif (decide (((y15.toNat:Int))<128)) then (some ((Sum.inr ((kN .u64 v6 (rk .u64 (wr .u64 (ny .u8 ((y15.toNat:Int)) 127)) (wr .i64 (7*v7))),y14))))) else (G m (kN .u64 v6 (rk .u64 (wr .u64 (ny .u8 ((y15.toNat:Int)) 127)) (wr .i64 (7*v7)))) (wr .i64 (v7+1)) y14)) else none))) :
  ∀ (l:List UInt8) (m a c:Nat),c<=9->10<=m+c->a<2 ^ (7*c)->match mq c l with
   | some (n,r)=>G m (a:Int) (c:Int) l=some (.inr (((a+2 ^ (7*c)*n:Nat):Int),r))
   | none=>∃ r,G m (a:Int) (c:Int) l=some (.inl r)
 | [],m,a,c,hc,hm,ha=>by
  obtain ⟨m,rfl⟩:∃ q,m=q+1:=⟨m - 1,r7⟩
  rw[mq,hG]
  exact⟨_,rfl⟩
 | b :: l,m,a,c,hc,hm,ha=>by
  obtain ⟨m,rfl⟩:∃ q,m=q+1:=⟨m - 1,r7⟩
  have hb:=b.toNat_lt
  have hs1:gD (b :: l) 0 1=some [b]:=by
   unfold gD
   rw[show decide ((1:Int)<=((b :: l).length:Int))=true from Oc N2]
   rfl
  have hs2:gD (b :: l) 1 ((b :: l).length:Int)=some l:=by
   unfold gD
   rw[show decide ((1:Int)<=((b :: l).length:Int))=true from Oc N2,Oc (RR _)]
   simp
  have hc1:(bif ((c:Int)==0) then (some true) else (some (((b.toNat:Int)) != 0)))=some (!decide (0<c/\b.toNat=0)):=by
   by_cases h:c=0
   ·subst h; simp
   ·rw[show ((c:Int)==0)=false by simp; omega]
    simp only[N8]
    congr 1
    rw[P1]
    simp
    omega
  have hc2:(bif (decide ((c:Int)<9)) then (some true) else (some (decide (((b.toNat:Int))<=1))))=some (!decide (9<=c/\1<b.toNat)):=by
   by_cases h:c<9
   ·rw[Oc r7]
    simp only[N9]
    congr 1
    rw[P1]
    simp
    omega
   ·rw[Ov r7]
    simp only[N8]
    congr 1
    rw[P1]
    simp
    omega
  have e127:ny .u8 ((b.toNat:Int)) 127=((b.toNat % 128:Nat):Int):=ET ⟨b.toNat,hb⟩
  rw[mq,hG,hs1,hs2,Oc (show (1:Int)<=((b :: l).length:Int) by rw[On]; omega)]
  simp only[Ow,N8,N4,show bl [b] 0=some b from rfl,hc1,hc2]
  by_cases h:(0<c/\b.toNat=0)∨(9<=c/\1<b.toNat)
  ·rw[Og h]
   refine⟨l,?_⟩
   by_cases h5:0<c/\b.toNat=0
   ·rw[Oc h5]; rfl
   ·rw[Ov h5,Oc (show 9<=c/\1<b.toNat by omega)]; rfl
  ·rw[Oh h,Ov (show ¬ (0<c/\b.toNat=0) by omega),Ov (show ¬ (9<=c/\1<b.toNat) by omega)]
   have hb9:c=9->b.toNat % 128<=1:=fun h9=>r7
   rw[e127,NO hc hb9 r7,NG hc hb9 r7 ha,Oc (show 0<=wr .i64 (7*(c:Int)) by rw[ia r7 r7]; omega)]
   simp only[Ry,N9,N4,Ow,N8]
   by_cases h8:b.toNat<128
   ·rw[Og h8,Oc r7,Rk h8]
    rfl
   ·rw[Oh h8,Ov r7,ia (n:=(c:Int)+1) r7 r7]
    have hlt:a+2 ^ (7*c)*(b.toNat % 128)<2 ^ (7*(c+1)):=by
     rw[pw]
     have:=Ql (2 ^ (7*c)) (show b.toNat % 128<=127 by omega)
     omega
    have ih:=uq G hG l m (a+2 ^ (7*c)*(b.toNat % 128)) (c+1) r7 r7 hlt
    rw[show ((c+1:Nat):Int)=(c:Int)+1 by omega] at ih
    simp only[N8]
    cases hg:mq (c+1) l with
    | none=>rw[hg] at ih; exact ih
    | some p=>
     obtain ⟨n,r⟩:=p
     rw[hg] at ih
     simp only at ih ⊢
     rw[ih,pw]
     congr 4
     rw[QK,show b.toNat % 128=b.toNat - 128 by omega,P2,Pm 128 (2 ^ (7*c)),RE]
theorem Dz (a b:ByteArray):n7 a b=decide (a=b):=by
 rw[P1]
 unfold n7
 rw[RJ,RJ]
 cases a; cases b
 simp
theorem xW (l:List UInt8):kV (nB l)=l:=by simp[nB,kV]
theorem yZ (l:List UInt8):(nB l).size=l.length:=by rw[<-fN,xW]
theorem AP {s:ByteArray}:emp s=true↔s=ByteArray.empty:=by
 unfold emp
 rw[Dz,P9]
 rfl
def sg (u:Nat):Int:=if u % 2=1 then -((u / 2:Nat):Int) - 1 else ((u / 2:Nat):Int)
theorem B6 (u:Nat):xJ (sg u)=u:=by unfold sg; split<;>(unfold xJ; split<;>omega)
theorem Ia {u:Nat} (h:u<18446744073709551616):dg (sg u):=by unfold sg dg; split<;>omega
theorem Ii (z:Int):wr .i64 z=if 9223372036854775808<=z % 18446744073709551616 then z % 18446744073709551616 - 18446744073709551616 else z % 18446744073709551616:=by
 simp only[wr,IntKind.wrap,IntKind.bits,IntKind.signed]
 simp
theorem JM (z:Int) (h:-9223372036854775808<=z) (h':z<=9223372036854775807):wr .i64 ((BitVec.ofInt 64 z).toNat:Int)=z:=by
 rw[Ii,PX]
 split<;>omega
theorem xI (a:Int) (h:0<=a) (h':a<=9223372036854775807):pL .i64 a 0=a:=by
 unfold pL
 show wr .i64 ((BitVec.ofInt 64 a ^^^ BitVec.ofInt 64 0).toNat:Int)=a
 rw[show BitVec.ofInt 64 0=0#64 from rfl,BitVec.xor_zero]
 exact JM a r7 h'
theorem xH (a:Int) (h:0<=a) (h':a<=9223372036854775807):pL .i64 a (-1)=-a - 1:=by
 unfold pL
 show wr .i64 ((BitVec.ofInt 64 a ^^^ BitVec.ofInt 64 (-1)).toNat:Int)=_
 rw[show BitVec.ofInt 64 (-1)=BitVec.allOnes 64 from rfl,BitVec.xor_allOnes,BitVec.toNat_not,Ii,PX]
 split<;>omega
theorem JJ (u:Nat) (h:u<18446744073709551616):ny .u64 (u:Int) 1=((u % 2:Nat):Int):=by
 unfold ny
 show wr .u64 ((BitVec.ofInt 64 (u:Int) &&& BitVec.ofInt 64 1).toNat:Int)=_
 rw[BitVec.toNat_and,PX,show (BitVec.ofInt 64 1).toNat=1 from rfl,Nat.and_one_is_mod,show ((u:Int) % ((2 ^ 64:Nat):Int)).toNat=u by omega,yI _ r7]
theorem Nx (u:Nat) (h:u<18446744073709551616):zJ (u:Int)=some (sg u):=by
 unfold zJ Cd
 have e1:lS .u64 (u:Int) 1=((u / 2:Nat):Int):=by
  unfold lS
  show Int.fdiv (u:Int) (2 ^ 1)=_
  rw[QC _ (by decide)]
  rfl
 rw[e1,JJ u h,ia (n:=((u / 2:Nat):Int)) r7 r7,ia (n:=((u % 2:Nat):Int)) r7 r7,ia r7 r7]
 congr 1
 unfold sg
 by_cases h2:u % 2=1
 ·rw[Og h2,h2,show (0:Int) - ((1:Nat):Int)=-1 from rfl,xH _ r7 r7]
 ·rw[Oh h2,show u % 2=0 by omega,show (0:Int) - ((0:Nat):Int)=0 from rfl,xI _ r7 r7]
def lF (f:List UInt8->Option (af×List UInt8)):Nat->List UInt8->Option (List af×List UInt8)
 | 0,l=>some ([],l)
 | n+1,l=>match f l with
  | none=>none
  | some (v,r)=>match lF f n r with
   | none=>none
   | some (vs,t)=>some (v :: vs,t)
def zt (b:UInt8) (l:List UInt8) (h:Nat->List UInt8->Option (List af×List UInt8)):Option (af×List UInt8):=
 if b.toNat=1 then (match mq 0 l with
  | none=>none
  | some (n,r)=>some (.mk 1 (sg n) ByteArray.empty [],r))
 else if b.toNat=2 then (match mq 0 l with
  | none=>none
  | some (n,r)=>if n<=r.length then some (.mk 2 0 (nB (r.take n)) [],r.drop n) else none)
 else if b.toNat=3 then (match mq 0 l with
  | none=>none
  | some (n,r)=>if n<=r.length then (match h n r with
   | none=>none
   | some (vs,t)=>some (.mk 3 0 ByteArray.empty vs,t)) else none)
 else none
def kM:Nat->List UInt8->Option (af×List UInt8)
 | _,[]=>none
 | 0,b :: l=>zt b l fun _ _=>none
 | k+1,b :: l=>zt b l (lF (kM k))
def Got (k:Nat) (l:List UInt8) (v:af) (r:List UInt8):Prop:=l=jo v++r/\tP v=true/\dep v<=k/\bX v/\pS v<=(jo v).length
theorem sD {f:List UInt8->Option (af×List UInt8)} {k:Nat} (hf:∀ l v r,l.length<=1100000->f l=some (v,r)->Got k l v r):∀ (n:Nat) (l:List UInt8) (vs:List af) (r:List UInt8),l.length<=1100000->lF f n l=some (vs,r) ->
  l=ki vs++r/\kl vs=true/\mm vs<=k/\(∀ e∈vs,bX e)/\jQ vs<=(ki vs).length/\vs.length=n
 | 0,l,vs,r,_,h=>by
  rw[lF] at h; cases h
  refine⟨?_,qC,by rw[nJ]; omega,fun _ h=>absurd h (P6),by rw[jS]; omega,rfl⟩
  rw[nK]; rfl
 | n+1,l,vs,r,hl,h=>by
  rw[lF] at h
  split at h
  ·cases h
  rename_i v t hv
  split at h
  ·cases h
  rename_i ws u hw
  cases h
  obtain ⟨h1,h2,h3,h4,h5⟩:=hf l v t hl hv
  rw[h1,Oq] at hl
  obtain ⟨g1,g2,g3,g4,g5,g6⟩:=sD hf n t ws r r7 hw
  refine⟨?_,?_,?_,?_,?_,?_⟩
  ·rw[h1,g1,gv,O6]
  ·rw[me,h2,g2]; rfl
  ·rw[mc]; omega
  ·intro e he
   rcases OQ.1 he with rfl | he
   ·exact h4
   ·exact g4 e he
  ·rw[iC,gv,Oq]; omega
  ·rw[On,g6]
theorem Lm {b:UInt8} {n:Nat} (h:b.toNat=n):b=UInt8.ofNat n:=by rw[<-h,Rb]
theorem vB {h:Nat->List UInt8->Option (List af×List UInt8)} {k:Nat} {b:UInt8} {l:List UInt8} {v:af} {r:List UInt8} (hl:l.length<=1100000)
  (hh:∀ n t vs u,t.length<=1100000->h n t=some (vs,u)->t=ki vs++u/\kl vs=true/\mm vs+1<=k/\(∀ e∈vs,bX e)/\jQ vs<=(ki vs).length/\vs.length=n)
  (e:zt b l h=some (v,r)):Got k (b :: l) v r:=by
 have okm:jN=9223372036854775807:=rfl
 unfold zt at e
 split at e
 ·rename_i h1
  split at e
  ·cases e
  rename_i n t hn
  obtain ⟨h2,h3,_⟩:=jI hn
  cases e
  refine⟨?_,?_,?_,?_,?_⟩
  ·rw[Lm h1,h2,dz]
   simp only[show ((1:Int)==1)=true from rfl,N9,B6]
   rfl
  ·rw[mX]
   simp only[show ((1:Int)==1)=true from rfl,N9,AP.2]
   rfl
  ·rw[oG]
   simp only[show ((1:Int)==3)=false from rfl,N8]
   omega
  ·exact(dK _).2 ⟨⟨r9,r9⟩,Ia h3,r9,r9,fun _ h=>absurd h P6⟩
  ·rw[il,dz]
   simp only[show ((1:Int)==1)=true from rfl,N9,B6,jS,On]
   have:(ByteArray.empty:ByteArray).size=0:=rfl
   omega
 split at e
 ·rename_i h1
  split at e
  ·cases e
  rename_i n t hn
  obtain ⟨h2,h3,h4⟩:=jI hn
  split at e
  ·rename_i h5
   cases e
   have hs:(nB (t.take n)).size=n:=by rw[yZ,Pg]; omega
   refine⟨?_,?_,?_,?_,?_⟩
   ·rw[Lm h1,h2,dz]
    simp only[show ((2:Int)==1)=false from rfl,show ((2:Int)==2)=true from rfl,N9,N8,hs,xW]
    rw[OU,O6,Py]
    rfl
   ·rw[mX]
    rfl
   ·rw[oG]
    simp only[show ((2:Int)==3)=false from rfl,N8]
    omega
   ·refine(dK _).2 ⟨⟨r9,r9⟩,⟨r9,r9⟩,?_,r9,fun _ h=>absurd h P6⟩
    show (nB (t.take n)).size<=jN
    rw[hs]; omega
   ·rw[il,dz]
    simp only[show ((2:Int)==1)=false from rfl,show ((2:Int)==2)=true from rfl,N9,N8,jS,On,Oq,fN,hs]
    omega
  ·cases e
 split at e
 ·rename_i h1
  split at e
  ·cases e
  rename_i n t hn
  obtain ⟨h2,h3,h4⟩:=jI hn
  split at e
  ·rename_i h5
   split at e
   ·cases e
   rename_i vs u hv
   cases e
   obtain ⟨g1,g2,g3,g4,g5,g6⟩:=hh n t vs r r7 hv
   refine⟨?_,?_,?_,?_,?_⟩
   ·rw[Lm h1,h2,dz,g1]
    simp only[show ((3:Int)==1)=false from rfl,show ((3:Int)==2)=false from rfl,N8,g6]
    rw[OU,O6]
    rfl
   ·rw[mX]
    simp only[show ((3:Int)==1)=false from rfl,show ((3:Int)==2)=false from rfl,show ((3:Int)==3)=true from rfl,N9,N8,g2,AP.2]
    rfl
   ·rw[oG]
    simp only[show ((3:Int)==3)=true from rfl,N9]
    omega
   ·refine(dK _).2 ⟨⟨r9,r9⟩,⟨r9,r9⟩,r9,?_,g4⟩
    show vs.length<=jN
    omega
   ·rw[il,dz]
    simp only[show ((3:Int)==1)=false from rfl,show ((3:Int)==2)=false from rfl,N8,On,Oq]
    have:(ByteArray.empty:ByteArray).size=0:=rfl
    omega
  ·cases e
 ·cases e
theorem vD:∀ (k:Nat) (l:List UInt8) (v:af) (r:List UInt8),l.length<=1100000->kM k l=some (v,r)->Got k l v r
 | 0,[],v,r,_,h=>by rw[kM] at h; cases h
 | k+1,[],v,r,_,h=>by rw[kM] at h; cases h
 | 0,b :: l,v,r,hl,h=>by
  rw[kM] at h
  rw[On] at hl
  exact vB r7 (fun _ _ _ _ _ h=>by cases h) h
 | k+1,b :: l,v,r,hl,h=>by
  rw[kM] at h
  rw[On] at hl
  refine vB r7 (fun n t vs u ht hv=>?_) h
  obtain ⟨g1,g2,g3,g4,g5,g6⟩:=sD (fun l v r hl h=>vD k l v r hl h) n t vs u ht hv
  exact⟨g1,g2,r7,g4,g5,g6⟩
theorem Gr (l:List af) (x:af) (h:l.length<=1100000):cO 56 l [x]=some (l++[x]):=iB _ _ _ NW
theorem AX {k:Nat} {l:List UInt8} {v:af} {r:List UInt8} (hl:l.length<=1100000) (h:kM k l=some (v,r)):r.length<=l.length:=by
 have:=(vD k l v r hl h).1
 rw[this,Oq]; omega
theorem Bb (f:List UInt8->Option (af×List UInt8)) (self:(List UInt8)->Int->Option (Bool×af×(List UInt8))) (N d n:Nat) (z0 z1:Int) (z2:ByteArray) (hd:d<=16) (hn:n<=1100000)
  (hf:∀ l:List UInt8,l.length<=1100000->match f l with
   | some (v,r)=>self l ((d:Int)+1)=some (true,v,r)/\r.length<=l.length
   | none=>∃ v r,self l ((d:Int)+1)=some (false,v,r)) :
  ∀ (k m i:Nat) (l:List UInt8) (acc:List af),i+k=n->k<m->l.length<=1100000->acc.length<=i->match lF f k l with
   | some (vs,r)=>fx self N (d:Int) (n:Int) z0 z1 z2 m (i:Int) l acc=some (.inr (r,acc++vs))
   | none=>∃ x,fx self N (d:Int) (n:Int) z0 z1 z2 m (i:Int) l acc=some (.inl x)
 | 0,m,i,l,acc,h1,h2,h3,h4=>by
  obtain ⟨m,rfl⟩:∃ q,m=q+1:=⟨m - 1,r7⟩
  rw[lF,fx,Ov r7]
  simp
 | k+1,m,i,l,acc,h1,h2,h3,h4=>by
  obtain ⟨m,rfl⟩:∃ q,m=q+1:=⟨m - 1,r7⟩
  have hl:=hf l h3
  rw[lF,fx,Oc r7,ia (n:=(d:Int)+1) r7 r7,ia (n:=(i:Int)+1) r7 r7]
  simp only[N9]
  cases hv:f l with
  | none=>
   rw[hv] at hl
   obtain ⟨v,r,hl⟩:=hl
   simp only
   rw[hl]
   exact⟨_,rfl⟩
  | some p=>
   obtain ⟨v,r⟩:=p
   rw[hv] at hl
   simp only at hl ⊢
   rw[hl.1]
   simp only[N4,N9]
   rw[Gr _ _ r7,N4,show (i:Int)+1=((i+1:Nat):Int) by omega]
   have ih:=Bb f self N d n z0 z1 z2 hd hn hf k m (i+1) r (acc++[v]) r7 r7 r7 so
   cases hr:lF f k r with
   | none=>rw[hr] at ih; exact ih
   | some p=>
    obtain ⟨vs,t⟩:=p
    rw[hr] at ih
    simp only at ih ⊢
    rw[ih]; simp
theorem b1 {b:UInt8} (n:Nat) (h:n<256):(wr .i64 ((b.toNat:Int))==(n:Int))=decide (b.toNat=n):=by
 have:=b.toNat_lt
 rw[ia r7 r7,P1]
 simp
 omega
theorem Md:∀ (k N d:Nat) (l:List UInt8),d+k=16->2000000+k<=N->l.length<=1100000->match kM k l with
  | some (v,r)=>zI N l (d:Int)=some (true,v,r)
  | none=>∃ v r,zI N l (d:Int)=some (false,v,r)
 | k,N,d,[],hd,hN,hl=>by
  obtain ⟨N,rfl⟩:∃ q,N=q+1:=⟨N - 1,r7⟩
  have:kM k []=none:=by cases k<;>rw[kM]
  rw[this]
  show ∃ v r,(bif Nat.ble 8 N then uD (zI N) (N - 8) [] d else none)=_
  rw[Ph (by omega:8<=N)]
  exact⟨_,_,rfl⟩
 | k,N,d,b :: l,hd,hN,hl=>by
  obtain ⟨N,rfl⟩:∃ q,N=q+1:=⟨N - 1,r7⟩
  rw[On] at hl
  have hb:=b.toNat_lt
  have hs1:gD (b :: l) 0 1=some [b]:=by
   unfold gD
   rw[show decide ((1:Int)<=((b :: l).length:Int))=true from Oc N2]
   rfl
  have hs2:gD (b :: l) 1 ((b :: l).length:Int)=some l:=by
   unfold gD
   rw[show decide ((1:Int)<=((b :: l).length:Int))=true from Oc N2,Oc (RR _)]
   simp
  have eW:zI (N+1) (b :: l) (d:Int)=uD (zI N) (N - 8) (b :: l) (d:Int):=by
   show (bif Nat.ble 8 N then uD (zI N) (N - 8) (b :: l) d else none)=_
   rw[Ph (by omega:8<=N)]; rfl
  have eg:kM k (b :: l)=zt b l (match k with | 0=>fun _ _=>none | k+1=>lF (kM k)):=by cases k<;>rw[kM]
  rw[eW,eg]
  unfold uD
  rw[hs1,hs2,Oc (show (1:Int)<=((b :: l).length:Int) by rw[On]; omega)]
  simp only[Ow,N8,N4,show bl [b] 0=some b from rfl]
  rw[show (wr .i64 ((b.toNat:Int))==1)=decide (b.toNat=1) from b1 1 r7,show (wr .i64 ((b.toNat:Int))==2)=decide (b.toNat=2) from b1 2 r7,show (wr .i64 ((b.toNat:Int))==3)=decide (b.toNat=3) from b1 3 r7,ia (n:=(b.toNat:Int)) r7 r7]
  unfold zt
  by_cases h1:b.toNat=1
  ·rw[Og h1,Oc h1]
   have hr:=uq (dE (N - 8+1)) (fun _ _ _ _=>rfl) l (N - 8+7) 0 0 r7 r7 (by decide)
   simp only[N9]
   cases hg:mq 0 l with
   | none=>
    rw[hg] at hr
    obtain ⟨r,hr⟩:=hr
    refine⟨default,r,?_⟩
    exact(Po (fun x=>Option.bind x _) hr).trans rfl
   | some p=>
    obtain ⟨n,r⟩:=p
    rw[hg] at hr
    obtain ⟨_,hn,_⟩:=jI hg
    simp only at hr ⊢
    refine(Po (fun x=>Option.bind x _) hr).trans ?_
    rw[show (0+2 ^ (7*0)*n:Nat)=n by omega]
    simp only[N4,Nx n hn]
    rw[h1]; rfl
  rw[Oh h1,Ov h1]
  simp only[N8]
  by_cases h2:b.toNat=2
  ·rw[Og h2,Oc h2]
   have hr:=uq (dE (N - 8)) (fun _ _ _ _=>rfl) l (N - 8+6) 0 0 r7 r7 (by decide)
   simp only[N9]
   cases hg:mq 0 l with
   | none=>
    rw[hg] at hr
    obtain ⟨r,hr⟩:=hr
    refine⟨default,r,?_⟩
    exact(Po (fun x=>Option.bind x _) hr).trans rfl
   | some p=>
    obtain ⟨n,r⟩:=p
    rw[hg] at hr
    obtain ⟨_,hn,hrl⟩:=jI hg
    simp only at hr ⊢
    by_cases hnr:n<=r.length
    ·rw[Og hnr]
     refine(Po (fun x=>Option.bind x _) hr).trans ?_
     rw[show (0+2 ^ (7*0)*n:Nat)=n by omega]
     simp only[N4]
     rw[yI _ (show r.length<18446744073709551616 by omega),ia (n:=(n:Int)) r7 r7,Oc (show (n:Int)<=(r.length:Int) by omega)]
     simp only[Ow,N8]
     unfold gD
     rw[Oc (show (n:Int)<=(r.length:Int) by omega),Oc (show (0:Int)<=(n:Int) by omega),Oc (RR _)]
     simp[h2]
     exact O0 r9
    ·rw[Oh hnr]
     refine⟨default,r,?_⟩
     refine(Po (fun x=>Option.bind x _) hr).trans ?_
     rw[show (0+2 ^ (7*0)*n:Nat)=n by omega]
     simp only[N4]
     rw[yI _ (show r.length<18446744073709551616 by omega),Ov (show ¬ (n:Int)<=(r.length:Int) by omega)]
     rfl
  rw[Oh h2,Ov h2]
  simp only[N8]
  by_cases h3:b.toNat=3
  ·rw[Og h3,Oc h3]
   simp only[N9]
   cases k with
   | zero=>
    rw[Ov (show ¬ ((d:Int)<16) by omega)]
    have:∃ v r,(bif !false then some (false,(default:af),l) else none)=some (false,v,r):=⟨_,_,rfl⟩
    cases hg:mq 0 l with
    | none=>exact⟨_,_,rfl⟩
    | some p=>
     obtain ⟨n,r⟩:=p
     simp only
     split<;>rename_i hx
     ·split at hx<;>cases hx
     ·exact⟨_,_,rfl⟩
   | succ k=>
    rw[Oc (show ((d:Int)<16) by omega)]
    have hr:=uq (dE (N - 8)) (fun _ _ _ _=>rfl) l (N - 8+6) 0 0 r7 r7 (by decide)
    simp only[Ow,N8]
    cases hg:mq 0 l with
    | none=>
     rw[hg] at hr
     obtain ⟨r,hr⟩:=hr
     refine⟨default,r,?_⟩
     exact(Po (fun x=>Option.bind x _) hr).trans rfl
    | some p=>
     obtain ⟨n,r⟩:=p
     rw[hg] at hr
     obtain ⟨_,hn,hrl⟩:=jI hg
     simp only at hr ⊢
     by_cases hnr:n<=r.length
     ·rw[Og hnr]
      have hL:=Bb (kM k) (zI N) (N - 8) d n (b.toNat:Int) 0 ByteArray.empty r7 r7 (fun l hl=>by
       have:=Md k N (d+1) l r7 r7 hl
       cases hgv:kM k l with
       | none=>rw[hgv] at this; exact this
       | some p=>
        obtain ⟨v,r⟩:=p
        rw[hgv] at this
        exact⟨this,AX hl hgv⟩) n (N - 8+8) 0 r [] r7 r7 r7 r9
      cases hls:lF (kM k) n r with
      | none=>
       rw[hls] at hL
       obtain ⟨x,hL⟩:=hL
       refine⟨default,x,?_⟩
       refine(Po (fun x=>Option.bind x _) hr).trans ?_
       rw[show (0+2 ^ (7*0)*n:Nat)=n by omega]
       simp only[N4]
       rw[yI _ (show r.length<18446744073709551616 by omega),ia (n:=(n:Int)) r7 r7,Oc (show (n:Int)<=(r.length:Int) by omega)]
       simp only[Ow,N8]
       exact(Po (fun x=>Option.bind x _) hL).trans rfl
      | some p=>
       obtain ⟨vs,t⟩:=p
       rw[hls] at hL
       simp only at hL ⊢
       refine(Po (fun x=>Option.bind x _) hr).trans ?_
       rw[show (0+2 ^ (7*0)*n:Nat)=n by omega]
       simp only[N4]
       rw[yI _ (show r.length<18446744073709551616 by omega),ia (n:=(n:Int)) r7 r7,Oc (show (n:Int)<=(r.length:Int) by omega)]
       simp only[Ow,N8]
       refine(Po (fun x=>Option.bind x _) hL).trans ?_
       rw[h3]; rfl
     ·rw[Oh hnr]
      refine⟨default,r,?_⟩
      refine(Po (fun x=>Option.bind x _) hr).trans ?_
      rw[show (0+2 ^ (7*0)*n:Nat)=n by omega]
      simp only[N4]
      rw[yI _ (show r.length<18446744073709551616 by omega),Ov (show ¬ (n:Int)<=(r.length:Int) by omega)]
      rfl
  ·rw[Oh h3,Ov h3]
   exact⟨_,_,rfl⟩
def zb (bs:List UInt8):af×Int:=match kM 16 bs with
 | some (v,[])=>(v,0)
 | _=>(.mk 0 0 ByteArray.empty [],10)
theorem Nw (bs:List UInt8) (h:bs.length<=1100000):Gg bs=some (zb bs):=by
 unfold Gg II
 have hw:=Md 16 (aE+8) 0 bs r7 s9 h
 rw[show ((0:Nat):Int)=0 from rfl] at hw
 unfold zb
 cases hg:kM 16 bs with
 | none=>
  rw[hg] at hw
  obtain ⟨v,r,hw⟩:=hw
  rw[hw]; rfl
 | some p=>
  obtain ⟨v,r⟩:=p
  rw[hg] at hw
  simp only at hw
  rw[hw]
  cases r with
  | nil=>rfl
  | cons a r=>
   have:(((a :: r).length:Int)==0)=false:=so
   simp only[N4,N9]
   rw[this]; rfl
theorem KH (a b:Int):IT a b=some (if b<a then b else a,if a<b then b else a):=rfl
def zy (p:Int×Int):Bool:=decide (0<=p.1)&&decide (p.1<p.2)&&decide (p.2<24)
theorem Hu (p:Int×Int):FQ p=some (zy p):=by
 unfold FQ IH zy
 cases decide (0<=p.1)<;>cases decide (p.1<p.2)<;>rfl
def ky (p:av):Bool:=zy (if p.To<p.From then p.To else p.From,if p.From<p.To then p.To else p.From)&&decide ((p.Data.length:Int)<=1048576)
theorem Ht (p:av):FP p=some (ky p):=by
 unfold FP ID ky
 rw[KH,N4,Hu,N4]
 cases zy _<;>rfl
theorem KG (p:av):Gf p=some (!ky p):=by
 unfold Gf IG
 rw[Ht,N4]
theorem Hv (a:Int):uE a=some false:=by
 unfold uE Cc
 simp
theorem rC {i:Nat} (h:i<=4611686018427387904):wr .i64 ((i:Int)+1)=((i+1:Nat):Int):=by
 rw[ia r7 r7]
 omega
theorem Hr (n:Nat) (l:List av) (hl:l.length<=4611686018427387904):∀ (m i:Nat),i<=l.length->l.length - i<m ->
  (∃ j:Int,0<=j/\eE n l (l.length:Int) m (i:Int)=some (.inl j)/\(l.drop i).any (fun p=>!ky p)=true)∨(eE n l (l.length:Int) m (i:Int)=some (.inr ())/\(l.drop i).any (fun p=>!ky p)=false)
 | 0,i,_,h=>absurd h (OP _)
 | m+1,i,hi,h=>by
  unfold eE
  by_cases hlt:i<l.length
  ·rw[show decide ((i:Int)<(l.length:Int))=true by simpa using hlt,N9,br,N5 hlt,N4,KG,N4,rC r7,Oz hlt,Q8]
   cases hp:ky l[i] with
   | false=>exact .inl ⟨i,r7,rfl,rfl⟩
   | true=>
    simp only[Ow,N8,RF]
    exact Hr n l hl m (i+1) r7 r7
  ·rw[show decide ((i:Int)<(l.length:Int))=false by simpa using hlt,N8,OV.2 r7]
   exact .inr ⟨rfl,rfl⟩
theorem KF (l:List av) (hl:l.length<=4611686018427387904):pU l=some (l.any fun p=>!ky p):=by
 unfold pU sW sY sX
 have e:l.drop 0=l:=rfl
 rcases Hr aE l hl (aE+8) 0 (OC _) s9 with ⟨j,h1,h2,h3⟩ | ⟨h2,h3⟩
 ·rw[e] at h3
  rw[show ((0:Nat):Int)=0 from rfl] at h2
  rw[h2,h3]
  simp only[N4]
  rw[Oc h1]
 ·rw[e] at h3
  rw[show ((0:Nat):Int)=0 from rfl] at h2
  rw[h2,h3]
  rfl
def yo (p q:Int×Int):Bool:=decide (p.1<q.1) || (p.1==q.1&&decide (p.2<q.2))
theorem KD (n:Nat) (a b c d:Int) (m:Nat) :
  fc n [a,b] 2 c d (m+3) 0=some (if a<c then .inl (-1) else if c<a then .inl 1 else if b<d then .inl (-1) else if d<b then .inl 1 else .inr ()):=by
 have w1:wr .i64 (0+1)=1:=by decide +kernel
 have w2:wr .i64 (1+1)=2:=by decide +kernel
 have x0:bl [a,b] 0=some a:=rfl
 have x1:bl [a,b] 1=some b:=rfl
 have tail:fc n [a,b] 2 c d (m+2) 1=some (if b<d then .inl (-1) else if d<b then .inl 1 else .inr ()):=by
  rw[fc]
  simp only[x1,Hv,w2,N4,show decide ((1:Int)<2)=true from rfl,show decide ((2:Int)<=1)=false from rfl,show decide ((1:Int)=0)=false from rfl,show decide ((1:Int)=1)=true from rfl,N9,N8]
  by_cases h1:b<d
  ·simp[h1]
  ·by_cases h2:d<b
   ·simp[h1,h2]
   ·rw[fc]; simp[h1,h2]
 rw[fc]
 simp only[x0,Hv,w1,N4,show decide ((0:Int)<2)=true from rfl,show decide ((2:Int)<=0)=false from rfl,show decide ((0:Int)=0)=true from rfl,N9,N8]
 by_cases h1:a<c
 ·simp[h1]
 ·by_cases h2:c<a
  ·simp[h1,h2]
  ·simp only[h1,h2,Pr,N8,Q3]
   exact tail
def lP (l:List (Int×Int)) (i:Nat):Option (Int×Int):=if i=0 then none else l[i - 1]?
def BB:Option (Int×Int)->List (Int×Int)->Bool
 | _,[]=>true
 | o,p :: r=>zy p&&(match o with | some q=>yo q p | none=>true)&&BB (some p) r
theorem Hq (n:Nat) (v8:Int) (q:List av) (l:List (Int×Int)) (hl:l.length<=4611686018427387904):∀ (m i:Nat),i<=l.length->l.length - i<m ->
  (BB (lP l i) (l.drop i)=true/\fJ n v8 l (l.length:Int) q l m (i:Int)=some (.inr ()))∨(BB (lP l i) (l.drop i)=false/\fJ n v8 l (l.length:Int) q l m (i:Int)=some (.inl 60))
 | 0,i,_,h=>absurd h (OP _)
 | m+1,i,hi,h=>by
  by_cases hlt:i<l.length
  ·have ih:=Hq n v8 q l hl m (i+1) r7 r7
   have hp:lP l (i+1)=some l[i]:=by unfold lP; rw[Oh r7]; exact N5 hlt
   rw[hp] at ih
   rw[Oz hlt]
   unfold BB fJ
   rw[show decide ((i:Int)<(l.length:Int))=true by simpa using hlt,N9,br,N5 hlt,N4,Hu,N4,rC r7]
   cases hk:zy l[i] with
   | false=>exact .inr ⟨r9,rfl⟩
   | true=>
    simp only[Ow,N8,ON]
    by_cases h0:0<i
    ·have hpi:lP l i=some l[i - 1]:=by unfold lP; rw[Oh r7]; exact N5 r7
     have hw:wr .i64 ((i:Int) - 1)=((i - 1:Nat):Int):=by
      rw[ia r7 r7]; omega
     rw[hpi,show decide ((0:Int)<(i:Int))=true by simpa using h0,N9,hw,br,N5 r7,N4]
     rw[show n+7=(n+4)+3 from rfl,KD]
     simp only[N4]
     have key:(yo l[i - 1] l[i]=true/\(if l[i - 1].1<l[i].1 then (Sum.inl (-1):Int⊕Unit) else if l[i].1<l[i - 1].1 then .inl 1 else if l[i - 1].2<l[i].2 then .inl (-1) else if l[i].2<l[i - 1].2 then .inl 1 else .inr ())=.inl (-1)) ∨
       (yo l[i - 1] l[i]=false/\((if l[i - 1].1<l[i].1 then (Sum.inl (-1):Int⊕Unit) else if l[i].1<l[i - 1].1 then .inl 1 else if l[i - 1].2<l[i].2 then .inl (-1) else if l[i].2<l[i - 1].2 then .inl 1 else .inr ())=.inl 1∨(if l[i - 1].1<l[i].1 then (Sum.inl (-1):Int⊕Unit) else if l[i].1<l[i - 1].1 then .inl 1 else if l[i - 1].2<l[i].2 then .inl (-1) else if l[i].2<l[i - 1].2 then .inl 1 else .inr ())=.inr ())):=by
      unfold yo
      generalize l[i - 1]=p
      generalize l[i]=r
      by_cases a1:p.1<r.1
      ·exact .inl ⟨by simp[a1],by rw[Og a1]⟩
      ·by_cases a2:r.1<p.1
       ·exact .inr ⟨by simp[a1]; intro e; omega,.inl (by rw[Oh a1,Og a2])⟩
       ·have e:p.1=r.1:=by omega
        by_cases a3:p.2<r.2
        ·exact .inl ⟨by simp[e,a3],by rw[Oh a1,Oh a2,Og a3]⟩
        ·refine .inr ⟨by simp[e,a3],?_⟩
         by_cases a4:r.2<p.2
         ·exact .inl (by rw[Oh a1,Oh a2,Oh a3,Og a4])
         ·exact .inr (by rw[Oh a1,Oh a2,Oh a3,Oh a4])
     rcases key with ⟨k1,k2⟩ | ⟨k1,k2 | k2⟩
     ·rw[k1,k2]
      simp only[ON]
      exact ih
     ·rw[k1,k2]
      exact .inr ⟨r9,rfl⟩
     ·rw[k1,k2]
      exact .inr ⟨r9,rfl⟩
    ·obtain rfl:i=0:=by omega
     have hp0:lP l 0=none:=rfl
     rw[hp0,show decide ((0:Int)<((0:Nat):Int))=false from rfl]
     simp only[N8,N4,ON]
     exact ih
  ·rw[OV.2 r7]
   unfold fJ
   rw[show decide ((i:Int)<(l.length:Int))=false by simpa using hlt,N8]
   exact .inl ⟨rfl,rfl⟩
def Cb (x:bq):Bool:=decide (x.Queue.length<=4096)&&x.Queue.all ky&&BB none x.Apart
theorem Cj (l:List av):(l.any fun p=>!ky p) = !l.all ky:=by
 induction l with
 | nil=>rfl
 | cons x l ih=>rw[Q8,Qa,ih]; cases ky x<;>simp
theorem Hs (x:bq) (hA:x.Apart.length<=4611686018427387904):FO x=some (if Cb x=true then 0 else 60):=by
 unfold FO Iy Cb
 by_cases hq:x.Queue.length<=4096
 ·have hq':decide ((4096:Int)<(x.Queue.length:Int))=false:=by simp; omega
  have hqf:x.Queue.length<=4611686018427387904:=Ot hq (by decide)
  rw[hq',N8,KF _ hqf,N4,N4,Cj,Oc hq]
  cases x.Queue.all ky with
  | false=>rfl
  | true=>
   simp only[Ow,N8,ON]
   have h13:=Hq aE 0 x.Queue x.Apart hA (aE+8) 0 (OC _) s9
   have e:lP x.Apart 0=none:=rfl
   rw[e,OS,show ((0:Nat):Int)=0 from rfl] at h13
   rcases h13 with ⟨h1,h2⟩ | ⟨h1,h2⟩
   ·rw[h2,h1]; rfl
   ·rw[h2,h1]; rfl
 ·have hq':decide ((4096:Int)<(x.Queue.length:Int))=true:=by simp; omega
  rw[hq',N9,N4,Ov hq]
  rfl
theorem KE (x:bq):Gb x=some (decide (x.Queue.length<=40)&&decide (x.Apart.length<=40)):=by
 unfold Gb It
 have e1:decide ((x.Queue.length:Int)<=40)=decide (x.Queue.length<=40):=H7
 have e2:decide ((x.Apart.length:Int)<=40)=decide (x.Apart.length<=40):=H7
 rw[e1,e2]
 cases decide (x.Queue.length<=40)<;>rfl
theorem BW {T:Type} (l:List T):gD l 0 (l.length:Int)=some l:=by
 unfold gD
 simp
theorem qc {a b:Int} (h:a≠b):(a != b)=true:=by simpa using h
theorem Co {a b:Int} (h:a≠b):(a==b)=false:=by simpa using h
def Eg (x:af):Bool:=x.Kind==1
def vR:List af->Option (bM⊕ba)
 | [x0,x1,x2,x3,x4]=>if x0.N=1/\[x0,x1,x2,x3,x4].all Eg=true then some (.inl ⟨x1.N,x2.N,x3.N,x4.N⟩) else none
 | [x0,x1,x2,x3]=>if x0.N=2/\[x0,x1,x2,x3].all Eg=true then some (.inr ⟨x1.N,x2.N,x3.N⟩) else none
 | _=>none
def msg (bs:List UInt8):Option (bM⊕ba):=if (zb bs).2=0/\(zb bs).1.Kind=3 then vR (zb bs).1.L else none
theorem q1:wr .i64 (0+1)=1:=by decide +kernel
theorem q2:wr .i64 (1+1)=2:=by decide +kernel
theorem q3:wr .i64 (2+1)=3:=by decide +kernel
theorem q4:wr .i64 (3+1)=4:=by decide +kernel
theorem q5:wr .i64 (4+1)=5:=by decide +kernel
theorem Ff (n:Nat) (z:Bool) (x0 x1 x2 x3 x4:af) (z1 z2 z3:Int) (z4:af) (a b c d e:Int) (m:Nat) :
  (df n z [x0,x1,x2,x3,x4] 5 z1 z2 z3 z4 (m+6) 0 a b c d e=some (.inr (x0.N,x1.N,x2.N,x3.N,x4.N))/\[x0,x1,x2,x3,x4].all Eg=true) ∨
  (∃ t,df n z [x0,x1,x2,x3,x4] 5 z1 z2 z3 z4 (m+6) 0 a b c d e=some (.inl (false,t)))/\[x0,x1,x2,x3,x4].all Eg=false:=by
 have g0:bl [x0,x1,x2,x3,x4] 0=some x0:=rfl
 have g1:bl [x0,x1,x2,x3,x4] 1=some x1:=rfl
 have g2:bl [x0,x1,x2,x3,x4] 2=some x2:=rfl
 have g3:bl [x0,x1,x2,x3,x4] 3=some x3:=rfl
 have g4:bl [x0,x1,x2,x3,x4] 4=some x4:=rfl
 simp only[Qa,List.all_nil,Eg]
 rw[df]
 simp only[Int.reduceEq,Int.reduceLT,OW,Pr,N9,N8,N4,g0,q1,bne]
 cases x0.Kind==1
 ·exact .inr ⟨⟨_,rfl⟩,rfl⟩
 simp only[Ow,N8]
 rw[df]
 simp only[Int.reduceEq,Int.reduceLT,OW,Pr,N9,N8,N4,g1,q2,bne]
 cases x1.Kind==1
 ·exact .inr ⟨⟨_,rfl⟩,rfl⟩
 simp only[Ow,N8]
 rw[df]
 simp only[Int.reduceEq,Int.reduceLT,OW,Pr,N9,N8,N4,g2,q3,bne]
 cases x2.Kind==1
 ·exact .inr ⟨⟨_,rfl⟩,rfl⟩
 simp only[Ow,N8]
 rw[df]
 simp only[Int.reduceEq,Int.reduceLT,OW,Pr,N9,N8,N4,g3,q4,bne]
 cases x3.Kind==1
 ·exact .inr ⟨⟨_,rfl⟩,rfl⟩
 simp only[Ow,N8]
 rw[df]
 simp only[Int.reduceEq,Int.reduceLT,OW,Pr,N9,N8,N4,g4,q5,bne]
 cases x4.Kind==1
 ·exact .inr ⟨⟨_,rfl⟩,rfl⟩
 simp only[Ow,N8]
 rw[df]
 exact .inl ⟨rfl,rfl⟩
theorem CN (n:Nat) (z:Bool) (x0 x1 x2 x3:af) (z1 z2 z3 z5:Int) (z4:af) (a b c d:Int) (m:Nat) :
  (c9 n z [x0,x1,x2,x3] 4 z1 z2 z3 z5 z4 (m+5) 0 a b c d=some (.inr (x0.N,x1.N,x2.N,x3.N))/\[x0,x1,x2,x3].all Eg=true) ∨
  (∃ t,c9 n z [x0,x1,x2,x3] 4 z1 z2 z3 z5 z4 (m+5) 0 a b c d=some (.inl (false,t)))/\[x0,x1,x2,x3].all Eg=false:=by
 have g0:bl [x0,x1,x2,x3] 0=some x0:=rfl
 have g1:bl [x0,x1,x2,x3] 1=some x1:=rfl
 have g2:bl [x0,x1,x2,x3] 2=some x2:=rfl
 have g3:bl [x0,x1,x2,x3] 3=some x3:=rfl
 simp only[Qa,List.all_nil,Eg]
 rw[c9]
 simp only[Int.reduceEq,Int.reduceLT,OW,Pr,N9,N8,N4,g0,q1,bne]
 cases x0.Kind==1
 ·exact .inr ⟨⟨_,rfl⟩,rfl⟩
 simp only[Ow,N8]
 rw[c9]
 simp only[Int.reduceEq,Int.reduceLT,OW,Pr,N9,N8,N4,g1,q2,bne]
 cases x1.Kind==1
 ·exact .inr ⟨⟨_,rfl⟩,rfl⟩
 simp only[Ow,N8]
 rw[c9]
 simp only[Int.reduceEq,Int.reduceLT,OW,Pr,N9,N8,N4,g2,q3,bne]
 cases x2.Kind==1
 ·exact .inr ⟨⟨_,rfl⟩,rfl⟩
 simp only[Ow,N8]
 rw[c9]
 simp only[Int.reduceEq,Int.reduceLT,OW,Pr,N9,N8,N4,g3,q4,bne]
 cases x3.Kind==1
 ·exact .inr ⟨⟨_,rfl⟩,rfl⟩
 simp only[Ow,N8]
 rw[c9]
 exact .inl ⟨rfl,rfl⟩
theorem Fi {x:af} {l:List af} (hk:x.N=1) (hl:l.length≠4):vR (x :: l)=none:=by
 match l with
 | []=>rfl
 | [_]=>rfl
 | [_,_]=>rfl
 | [_,_,_]=>simp only[vR]; exact Oh (fun q=>r7)
 | [_,_,_,_]=>exact absurd rfl hl
 | _ :: _ :: _ :: _ :: _ :: _=>rfl
theorem Fj {x:af} {l:List af} (hk:x.N≠1) (hl:l.length≠3∨x.N≠2):vR (x :: l)=none:=by
 match l with
 | []=>rfl
 | [_]=>rfl
 | [_,_]=>rfl
 | [_,_,_]=>simp only[vR]; exact Oh (fun q=>by rcases hl with h | h; exact h rfl; exact h q.1)
 | [_,_,_,_]=>simp only[vR]; exact Oh (fun q=>hk q.1)
 | _ :: _ :: _ :: _ :: _ :: _=>rfl
theorem Lq (bs:List UInt8) (h:bs.length<=1100000):∃ r,Gd bs=some r/\match msg bs with | some (.inl c)=>r=(⟨1,c,⟨0,0,0⟩⟩,true) | some (.inr c)=>r=(⟨2,⟨0,0,0,0⟩,c⟩,true) | none=>r.2=false:=by
 unfold Gd IA msg
 rw[Nw bs h,N4]
 generalize zb bs=v
 obtain ⟨v,e⟩:=v
 by_cases h0:e=0
 ·subst h0
  by_cases h3:v.Kind=3
  ·rw[Og ⟨rfl,h3⟩]
   simp only[h3,Pb,N8,N4]
   match v.L with
   | []=>exact⟨_,rfl,rfl⟩
   | x :: L'=>
    have hne:(((x :: L').length:Int)==0)=false:=so
    simp only[hne,N8,N4,show bl (x :: L') 0=some x from rfl]
    by_cases hk:x.N=1
    ·simp only[hk,PH,N9,Pb,N8,N4]
     by_cases hl:L'.length=4
     ·obtain ⟨x1,x2,x3,x4,rfl⟩:∃ x1 x2 x3 x4,L'=[x1,x2,x3,x4]:=by
       match L',hl with | [x1,x2,x3,x4],_=>exact⟨x1,x2,x3,x4,rfl⟩
      have e5:((([x,x1,x2,x3,x4]:List af).length:Int))=5:=rfl
      simp only[e5,Pb,N8]
      simp only[vR]
      rcases Ff aE false x x1 x2 x3 x4 0 0 0 v 1 0 0 0 0 (aE+2) with ⟨hw,ha⟩ | ⟨⟨⟨t1,t2,t3,t4,t5⟩,hw⟩,ha⟩
      ·rw[hw,Og ⟨hk,ha⟩]
       exact⟨_,rfl,by simp only[hk]⟩
      ·rw[hw,Oh (fun q=>by rw[ha] at q; exact absurd q.2 Bool.false_ne_true)]
       exact⟨_,rfl,rfl⟩
     ·rw[Fi hk hl,show (((x :: L').length:Int) != 5)=true by simp; omega]
      exact⟨_,rfl,rfl⟩
    ·simp only[Co hk,N8,qc hk,N9,N4]
     by_cases hl:L'.length=3/\x.N=2
     ·obtain ⟨hl,h2⟩:=hl
      obtain ⟨x1,x2,x3,rfl⟩:∃ x1 x2 x3,L'=[x1,x2,x3]:=by
       match L',hl with | [x1,x2,x3],_=>exact⟨x1,x2,x3,rfl⟩
      have e5:((([x,x1,x2,x3]:List af).length:Int))=4:=rfl
      simp only[e5,h2,Pb,N8,N4]
      simp only[vR]
      rcases CN aE false x x1 x2 x3 0 0 0 0 v 2 0 0 0 (aE+3) with ⟨hw,ha⟩ | ⟨⟨⟨t1,t2,t3,t4⟩,hw⟩,ha⟩
      ·rw[hw,Og ⟨h2,ha⟩]
       exact⟨_,rfl,by simp only[h2]⟩
      ·rw[hw,Oh (fun q=>by rw[ha] at q; exact absurd q.2 Bool.false_ne_true)]
       exact⟨_,rfl,rfl⟩
     ·rw[Fj hk r7]
      by_cases h2:x.N=2
      ·rw[h2,show (((x :: L').length:Int) != 4)=true by simp; omega]
       exact⟨_,rfl,rfl⟩
      ·rw[qc h2]; exact⟨_,rfl,rfl⟩
  ·rw[Oh (fun q=>h3 q.2),qc h3]; exact⟨_,rfl,rfl⟩
 ·rw[Oh (fun q=>h0 q.1),qc h0]; exact⟨_,rfl,rfl⟩
section
def kF (a lo hi:Int):Bool:=decide (lo<=a)&&decide (a<=hi)
theorem zF (a lo hi:Int):wz a lo hi=some (kF a lo hi):=by
 unfold wz Ix kF
 cases decide (lo<=a)<;>rfl
def lR (c:bM) (n:Int):Bool:=kF c.No 0 1048576&&kF c.Role 0 (wr .i64 (n - 1))&&kF c.Bar 0 4095&&kF c.Program 1 8
theorem Ie (c:bM) (n:Int):EE c n=some (lR c n):=by
 unfold EE Iu lR
 simp only[zF,N4]
 cases kF c.No 0 1048576<;>cases kF c.Role 0 (wr .i64 (n - 1))<;>cases kF c.Bar 0 4095<;>rfl
theorem xu {c:bM} {n:Int} (h:lR c n=true):0<=c.Bar/\c.Bar<=4095:=by
 unfold lR kF at h
 simp only[N7,Od] at h
 exact h.1.2
def vF:List Int->List Int->Bool
 | a :: l,b :: m=>kF a 0 8&&!((b != a)&&(b != 0))&&vF l m
 | _,_=>true
theorem Eo (n:Nat) (x:aG) (hl:x.Got.length<=4611686018427387904) (hd:x.Did.length=x.Got.length):∀ (m i:Nat),i<=x.Got.length->x.Got.length - i<m ->
  jC n x.Got (x.Got.length:Int) x m (i:Int)=some (bif vF (x.Got.drop i) (x.Did.drop i) then .inr () else .inl false)
 | 0,i,_,h=>absurd h (OP _)
 | m+1,i,hi,h=>by
  rw[jC]
  by_cases hlt:i<x.Got.length
  ·have hlt':i<x.Did.length:=by omega
   rw[show decide ((i:Int)<(x.Got.length:Int))=true by simpa using hlt,N9,br,br,N5 hlt,N5 hlt',N4,zF,N4,Oz hlt,Oz hlt',rC r7,Eo n x hl hd m (i+1) r7 r7]
   simp only[vF,N4]
   cases kF x.Got[i] 0 8<;>cases (x.Did[i] != x.Got[i])<;>cases (x.Did[i] != 0)<;>simp
  ·rw[show decide ((i:Int)<(x.Got.length:Int))=false by simpa using hlt,N8,OV.2 r7]
   rfl
def nF (role n:Int):Int->List bM->Bool
 | _,[]=>true
 | lo,c :: l=>lR c n&&(c.Role==role)&&!decide (c.Bar<lo)&&nF role n (c.Bar+1) l
theorem Em (n:Nat) (role k:Int) (z:Bool) (x:aG) (hl:x.Cues.length<=4611686018427387904):∀ (m i:Nat) (lo:Int),i<=x.Cues.length->x.Cues.length - i<m ->
  jD n role k z x.Cues (x.Cues.length:Int) x m lo (i:Int)=some (bif nF role k lo (x.Cues.drop i) then .inr () else .inl false)
 | 0,i,_,_,h=>absurd h (OP _)
 | m+1,i,lo,hi,h=>by
  rw[jD]
  by_cases hlt:i<x.Cues.length
  ·rw[show decide ((i:Int)<(x.Cues.length:Int))=true by simpa using hlt,N9,br,N5 hlt,N4,Ie,N4,Oz hlt,rC r7]
   simp only[nF]
   cases hr:lR x.Cues[i] k with
   | false=>rfl
   | true=>
    obtain ⟨b1,b2⟩:=xu hr
    rw[ia r7 r7,Em n role k z x hl m (i+1) _ r7 r7]
    simp only[bne]
    cases (x.Cues[i].Role==role)<;>cases decide (x.Cues[i].Bar<lo)<;>simp
  ·rw[show decide ((i:Int)<(x.Cues.length:Int))=false by simpa using hlt,N8,OV.2 r7]
   rfl
def tC (x:aG) (role n bar:Int):Bool:=(x.Got.length:Int)==bar&&(x.Did.length:Int)==bar&&vF x.Got x.Did&&nF role n bar x.Cues
theorem Lp (x:aG) (role n bar:Int) (h1:x.Got.length<=4611686018427387904) (h2:x.Cues.length<=4611686018427387904):Gc x role n bar=some (tC x role n bar):=by
 unfold Gc Iz tC
 simp only[bne]
 cases hg:((x.Got.length:Int)==bar) with
 | false=>rfl
 | true=>cases hd:((x.Did.length:Int)==bar) with
  | false=>rfl
  | true=>
   have e1:=eq_of_beq hg; have e2:=eq_of_beq hd
   have w1:=Eo aE x h1 r7 (aE+8) 0 (OC _) s9
   have w2:=Em aE role n false x h2 (aE+8) 0 bar (OC _) s9
   rw[show ((0:Nat):Int)=0 from rfl,OS] at w1 w2
   rw[OS] at w1
   simp only[Ow,N8,N4,w1,w2,ON]
   cases vF x.Got x.Did<;>cases nF role n bar x.Cues<;>rfl
def Ct (w:al) (r:ba):Bool:=match bl w.Ears r.Role with
 | some y=>match bl y.Did r.Bar with
  | some d=>d==r.Program
  | none=>false
 | none=>false
def I1 (w:al) (p:av):Bool:=match msg p.Data with
 | some (.inl c)=>lR c (w.Ears.length:Int)&&(p.From==0)&&(p.To==wr .i64 (c.Role+1))
 | some (.inr r)=>kF r.Role 0 ((w.Ears.length:Int) - 1)&&kF r.Bar 0 (w.Bar - 1)&&(p.From==wr .i64 (r.Role+1))&&(p.To==0)&&Ct w r
 | none=>false
def EC (w:al):Prop:=∀ x∈w.Ears,(x.Did.length:Int)=w.Bar
theorem JQ {w:al} {r:ba} (he:EC w) (h1:kF r.Role 0 ((w.Ears.length:Int) - 1)=true) (h2:kF r.Bar 0 (w.Bar - 1)=true):(Option.bind (bl w.Ears r.Role) fun y=>Option.bind (bl y.Did r.Bar) fun z=>some (z==r.Program))=some (Ct w r):=by
 unfold kF at h1 h2
 simp only[N7,Od] at h1 h2
 unfold Ct
 have e1:r.Role=((r.Role.toNat:Nat):Int):=r7
 have e2:r.Bar=((r.Bar.toNat:Nat):Int):=r7
 have l1:r.Role.toNat<w.Ears.length:=r7
 rw[e1,br,N5 l1]
 have l2:r.Bar.toNat<w.Ears[r.Role.toNat].Did.length:=by have:=he _ (OL l1); omega
 simp only[N4]
 rw[e2,br,N5 l2]
 rfl
theorem En (n:Nat) (z:Int) (w:al) (hl:w.Ears.length<=12) (hg:∀ x∈w.Ears,x.Got.length<=4611686018427387904/\x.Cues.length<=4611686018427387904):∀ (m i:Nat),i<=w.Ears.length->w.Ears.length - i<m ->
  jx n z (w.Ears.length:Int) w.Ears (w.Ears.length:Int) w m (i:Int)=some (if ∀ j (h:j<w.Ears.length),i<=j->tC w.Ears[j] j (w.Ears.length:Int) w.Bar=true then .inr () else .inl 490)
 | 0,i,_,h=>absurd h (OP _)
 | m+1,i,hi,h=>by
  rw[jx]
  by_cases hlt:i<w.Ears.length
  ·obtain ⟨a1,a2⟩:=hg _ (OL hlt)
   rw[show decide ((i:Int)<(w.Ears.length:Int))=true by simpa using hlt,N9,br,N5 hlt,N4,Lp _ _ _ _ a1 a2,N4]
   cases he:tC w.Ears[i] i (w.Ears.length:Int) w.Bar with
   | false=>
    rw[Oh (fun q=>by rw[q i hlt (N6 _)] at he; cases he)]; rfl
   | true=>
    rw[rC r7,En n z w hl hg m (i+1) r7 r7]
    simp only[Ow,N8]
    refine Po some (RN (propext ⟨fun q j hj hij=>?_,fun q j hj hij=>q j hj r7⟩) (fun _=>rfl) (fun _=>rfl))
    rcases Q6 hij with rfl | h2
    ·exact he
    ·exact q j hj h2
  ·rw[show decide ((i:Int)<(w.Ears.length:Int))=false by simpa using hlt,N8,Og (fun j hj hij=>r7)]
theorem Ep (n:Nat) (z:Int) (w:al) (he:EC w) (hn:w.Ears.length<=12) (hb:-1<=w.Bar/\w.Bar<=4096) (hp:∀ p∈w.Net.Queue,p.Data.length<=1100000) (hq:w.Net.Queue.length<=4096):∀ (m i:Nat),i<=w.Net.Queue.length->w.Net.Queue.length - i<m ->
  gQ n z (w.Ears.length:Int) w.Net.Queue (w.Net.Queue.length:Int) w m (i:Int)=some (bif (w.Net.Queue.drop i).all (I1 w) then .inr () else .inl 490)
 | 0,i,_,h=>absurd h (OP _)
 | m+1,i,hi,h=>by
  rw[gQ]
  by_cases hlt:i<w.Net.Queue.length
  ·obtain ⟨r,hr,hm⟩:=Lq w.Net.Queue[i].Data (hp _ (OL hlt))
   rw[show decide ((i:Int)<(w.Net.Queue.length:Int))=true by simpa using hlt,N9,br,N5 hlt,N4,hr,N4,Oz hlt,Qa,rC r7,Ep n z w he hn hb hp hq m (i+1) r7 r7]
   simp only[Ie,zF,N4]
   rw[ia (n:=(w.Ears.length:Int) - 1) r7 r7,ia (n:=w.Bar - 1) r7 r7]
   unfold I1
   generalize w.Net.Queue[i]=p at *
   match hg:msg p.Data,hm with
   | none,hm=>
    simp only[show r.2=false from hm]
    simp
   | some (.inl c),hm=>
    simp only at hm
    subst hm
    simp only[PH,N9,N4]
    cases lR c (w.Ears.length:Int)<;>cases (p.From==0)<;>cases (p.To==wr .i64 (c.Role+1))<;>simp
   | some (.inr c),hm=>
    simp only at hm
    subst hm
    simp only[show ((2:Int)==1)=false from rfl,N9,N8,N4]
    cases hr':kF c.Role 0 ((w.Ears.length:Int) - 1) with
    | false=>simp
    | true=>cases hb':kF c.Bar 0 (w.Bar - 1) with
     | false=>simp
     | true=>
      have hd:=JQ he hr' hb'
      simp only[N9,N4]
      cases (p.From==wr .i64 (c.Role+1)) with
      | false=>simp
      | true=>cases (p.To==0) with
       | false=>simp
       | true=>
        simp only[N9,N4,hd]
        cases Ct w c<;>simp
  ·rw[show decide ((i:Int)<(w.Net.Queue.length:Int))=false by simpa using hlt,N8,OV.2 r7]
   rfl
def okW (w:al):Prop:=(1<=w.Ears.length/\w.Ears.length<=12)/\(0<=w.Bar/\w.Bar<=4096)/\Cb w.Net=true/\(∀ j (h:j<w.Ears.length),tC w.Ears[j] j (w.Ears.length:Int) w.Bar=true)/\w.Net.Queue.all (I1 w)=true
def Fit (w:al):Prop:=w.Net.Apart.length<=4611686018427387904/\∀ x∈w.Ears,x.Got.length<=4611686018427387904/\x.Cues.length<=4611686018427387904
open Classical in
noncomputable def qg (w:al):Int:=if okW w then 0 else 490
theorem AG {w:al} (h:okW w):qg w=0:=Og h
theorem kX {w:al} (h:¬ okW w):qg w=490:=Oh h
theorem CQ {p:av} (h:ky p=true):p.Data.length<=1100000:=by
 unfold ky at h
 simp only[N7,Od] at h
 omega
theorem vU {x:bq} (h:Cb x=true):x.Queue.length<=4096/\∀ p∈x.Queue,p.Data.length<=1100000:=by
 unfold Cb at h
 simp only[N7,Od,Oj] at h
 exact⟨h.1.1,fun p hp=>CQ (h.1.2 p hp)⟩
theorem pQ {w:al} (h:∀ j (h:j<w.Ears.length),tC w.Ears[j] j (w.Ears.length:Int) w.Bar=true):EC w:=fun x hx=>by
 obtain ⟨j,hj,rfl⟩:=O4 hx
 have:=h j hj
 unfold tC at this
 simp only[N7] at this
 exact eq_of_beq this.1.1.2
theorem Ln (w:al) (hf:Fit w):DK w=some (qg w):=by
 unfold DK Ip
 simp only[zF,Hs _ hf.1,N4]
 by_cases h1:1<=w.Ears.length/\w.Ears.length<=12
 ·have e1:kF (w.Ears.length:Int) 1 12=true:=by unfold kF; simp; omega
  by_cases h2:0<=w.Bar/\w.Bar<=4096
  ·have e2:kF w.Bar 0 4096=true:=by unfold kF; simp; omega
   cases h3:Cb w.Net with
   | false=>rw[kX (fun q=>by rw[q.2.2.1] at h3; cases h3),e1,e2]; rfl
   | true=>
    obtain ⟨q1,q2⟩:=vU h3
    have w1:=En aE 0 w h1.2 hf.2 (aE+8) 0 (OC _) s9
    rw[show ((0:Nat):Int)=0 from rfl] at w1
    simp only[e1,e2,Ow,N8,N4,QH,Pb,w1]
    by_cases h4:∀ j (h:j<w.Ears.length),tC w.Ears[j] j (w.Ears.length:Int) w.Bar=true
    ·have w2:=Ep aE 0 w (pQ h4) h1.2 r7 q2 q1 (aE+8) 0 (OC _) s9
     rw[show ((0:Nat):Int)=0 from rfl,OS] at w2
     rw[Og (fun j h _=>h4 j h)]
     simp only[w2]
     cases h5:w.Net.Queue.all (I1 w) with
     | false=>rw[kX (fun q=>by rw[q.2.2.2.2] at h5; cases h5)]; rfl
     | true=>rw[AG ⟨h1,h2,h3,h4,h5⟩]; rfl
    ·rw[Oh (fun q=>h4 (fun j h=>q j h (OC _))),kX (fun q=>h4 q.2.2.2.1)]
  ·have e2:kF w.Bar 0 4096=false:=by unfold kF; rw[Qs]; intro q; simp only[N7,Od] at q; exact h2 q
   rw[kX (fun q=>h2 q.2.1),e1,e2]; rfl
 ·have e1:kF (w.Ears.length:Int) 1 12=false:=by unfold kF; rw[Qs]; intro q; simp only[N7,Od] at q; exact h1 r7
  rw[kX (fun q=>h1 q.1),e1]; rfl
end
theorem Lg:G7=some true:=r8
def vI (n:Int):af:=.mk 1 n ByteArray.empty []
def vL (l:List Int):af:=.mk 3 0 ByteArray.empty (l.map vI)
theorem A5:dg 0:=NX
theorem J4:dg 1:=NX
theorem J5:dg 2:=NX
theorem J6:dg 3:=NX
theorem Fa (n:Int):tP (vI n)=true:=by
 rw[mX]
 show (emp ByteArray.empty&&(((0:Nat):Int)==0))=true
 decide +kernel
theorem yh:∀ l:List Int,kl (l.map vI)=true
 | []=>qC
 | n :: l=>by rw[O9,me,Fa,yh l]; rfl
theorem Fb (l:List Int):tP (vL l)=true:=by
 rw[mX]
 show (kl (l.map vI)&&(((0:Int)==0)&&emp ByteArray.empty))=true
 rw[yh]; decide +kernel
theorem E0 (n:Int):dep (vI n)=0:=by rw[oG]; rfl
theorem xY:∀ l:List Int,mm (l.map vI)=0
 | []=>nJ
 | n :: l=>by rw[O9,mc,E0,xY l]; rfl
theorem EW (l:List Int):jc (vL l)=0:=by
 unfold jc
 rw[Fb,oG]
 show (bif true then bif decide (16<mm (l.map vI)+1) then (2:Int) else 0 else 1)=0
 rw[xY]; rfl
theorem Fl (n:Int):pS (vI n)=1:=by rw[il]; show 1+0 / 200+jQ []=1; rw[jS]
theorem yt:∀ l:List Int,jQ (l.map vI)=l.length
 | []=>jS
 | n :: l=>by rw[O9,iC,Fl,yt l,On]; omega
theorem Fm (l:List Int):pS (vL l)=1+l.length:=by rw[il]; show 1+0 / 200+jQ (l.map vI)=_; rw[yt]
theorem Hz {n:Int} (h:dg n):bX (vI n):=(dK _).2 ⟨J4,h,OC _,OC _,fun _ q=>by cases q⟩
theorem HA {l:List Int} (h:∀ n∈l,dg n) (hl:l.length<=1000):bX (vL l):=(dK _).2 ⟨J6,A5,OC _,by show (l.map vI).length<=_; rw[PV]; exact Ot hl (by decide),fun z hz=>by
 obtain ⟨n,hn,rfl⟩:=QF.1 hz
 exact Hz (h n hn)⟩
theorem Cw (l:List Int):Cv (vL l)=(jo (vL l),0):=by unfold Cv; rw[EW]; rfl
theorem Cy {l:List Int} (h:∀ n∈l,dg n) (hl:l.length<=1000):EF (vL l)=some (jo (vL l),0):=by
 have h1:=Nu (vL l) (HA h hl) (by rw[Fm]; omega)
 rw[Cw] at h1
 exact h1
def Dv (r:ba):List Int:=[2,r.Role,r.Bar,r.Program]
def FD (r:ba):List UInt8:=jo (vL (Dv r))
theorem Dw {c:ba} (h:lO c):∀ n∈Dv c,dg n:=by
 obtain ⟨h1,h2,h3⟩:=h
 intro n hn
 simp only[Dv,OQ,P6,or_false] at hn
 rcases hn with rfl | rfl | rfl | rfl
 ·exact J5
 all_goals assumption
theorem tr (l:List af) (x:af) (h:l.length<=1000):cO 56 l [x]=some (l++[x]):=iB _ _ _ NW
theorem CM (n:Nat) (m:aC) (z1 z2:Int) (z3:ByteArray) (k:Nat):dm n 4 m z1 z2 z3 (k+5) 0 []=some ([m.kind,m.report.Role,m.report.Bar,m.report.Program].map vI):=by
 rw[dm]
 simp only[Int.reduceEq,Int.reduceLT,OW,Pr,N9,N8,N4,q1]
 rw[tr _ _ r9,N4,dm]
 simp only[Int.reduceEq,Int.reduceLT,OW,Pr,N9,N8,N4,q2]
 rw[tr _ _ r9,N4,dm]
 simp only[Int.reduceEq,Int.reduceLT,OW,Pr,N9,N8,N4,q3]
 rw[tr _ _ r9,N4,dm]
 simp only[Int.reduceEq,Int.reduceLT,OW,Pr,N9,N8,N4,q4]
 rw[tr _ _ r9,N4,dm]
 rfl
theorem Ig {c:ba} (h:lO c):FN ⟨2,⟨0,0,0,0⟩,c⟩=some (FD c):=by
 unfold FN Iw
 have hw:=CM aE ⟨2,⟨0,0,0,0⟩,c⟩ 3 0 ByteArray.empty (aE+3)
 rw[show aE+3+5=aE+8 from rfl] at hw
 simp only[show ((2:Int)==1)=false from rfl,N8,hw,N4]
 rw[show (af.mk 3 0 ByteArray.empty ([2,c.Role,c.Bar,c.Program].map vI))=vL (Dv c) from rfl,Cy (Dw h) (Pc rfl)]
 rfl
def zW:al:=⟨⟨[],[]⟩,[],0⟩
def yM (w:al):Prop:=w.Net.Queue.length<=40/\w.Net.Apart.length<=40/\w.Ears.length<=20/\∀ x∈w.Ears,x.Cues.length<=40/\x.Got.length<=5000/\x.Did.length<=5000
theorem El (n:Nat) (z:Bool) (w:al) (hl:w.Ears.length<=4611686018427387904):∀ (m i:Nat),i<=w.Ears.length->w.Ears.length - i<m ->
  mL n z w m (i:Int)=some (.inl false)∨(mL n z w m (i:Int)=some (.inr ())/\∀ x∈w.Ears.drop i,x.Cues.length<=40/\x.Got.length<=5000/\x.Did.length<=5000)
 | 0,i,_,h=>absurd h (OP _)
 | m+1,i,hi,h=>by
  rw[mL]
  by_cases hlt:i<w.Ears.length
  ·rw[show decide ((i:Int)<(w.Ears.length:Int))=true by simpa using hlt,N9,br,N5 hlt,N4,rC r7,Oz hlt]
   have ih:=El n z w hl m (i+1) r7 r7
   generalize w.Ears[i]=x
   by_cases c1:x.Cues.length<=40
   ·by_cases c2:x.Got.length<=5000
    ·by_cases c3:x.Did.length<=5000
     ·have d1:decide ((40:Int)<(x.Cues.length:Int))=false:=by rw[Pk]; omega
      have d2:decide ((5000:Int)<(x.Got.length:Int))=false:=by rw[Pk]; omega
      have d3:decide ((5000:Int)<(x.Did.length:Int))=false:=by rw[Pk]; omega
      simp only[d1,d2,d3,N8]
      cases decide ((60:Int)<(x.Got.length:Int)) with
      | false=>
       simp only[N8,N4]
       rcases ih with h' | ⟨h',hx⟩
       ·exact .inl h'
       ·refine .inr ⟨h',fun y hy=>?_⟩
        rcases OQ.1 hy with rfl | hy
        ·exact⟨c1,c2,c3⟩
        ·exact hx y hy
      | true=>
       simp only[N9,N4]
       cases decide ((x.Got.length:Int)<4094) with
       | true=>exact .inl rfl
       | false=>
        simp only[N8,N4]
        rcases ih with h' | ⟨h',hx⟩
        ·exact .inl h'
        ·refine .inr ⟨h',fun y hy=>?_⟩
         rcases OQ.1 hy with rfl | hy
         ·exact⟨c1,c2,c3⟩
         ·exact hx y hy
     ·have d3:decide ((5000:Int)<(x.Did.length:Int))=true:=by rw[P9]; omega
      rw[d3]
      cases decide ((40:Int)<(x.Cues.length:Int))<;>cases decide ((60:Int)<(x.Got.length:Int))<;>cases decide ((x.Got.length:Int)<4094)<;>cases decide ((5000:Int)<(x.Got.length:Int))<;>exact .inl rfl
    ·have d2:decide ((5000:Int)<(x.Got.length:Int))=true:=by rw[P9]; omega
     rw[d2]
     cases decide ((40:Int)<(x.Cues.length:Int))<;>cases decide ((60:Int)<(x.Got.length:Int))<;>cases decide ((x.Got.length:Int)<4094)<;>exact .inl rfl
   ·have d1:decide ((40:Int)<(x.Cues.length:Int))=true:=by rw[P9]; omega
    rw[d1]
    exact .inl rfl
  ·rw[show decide ((i:Int)<(w.Ears.length:Int))=false by simpa using hlt,N8,OV.2 r7]
   exact .inr ⟨rfl,fun _ q=>by cases q⟩
theorem NS (w:al):G8 w=some false∨(G8 w=some true/\yM w):=by
 unfold G8 F8
 rw[KE,N4]
 by_cases h1:w.Net.Queue.length<=40
 ·by_cases h2:w.Net.Apart.length<=40
  ·by_cases h3:w.Ears.length<=20
   ·have d3:decide ((20:Int)<(w.Ears.length:Int))=false:=by rw[Pk]; omega
    have hw:=El aE false w r7 (aE+8) 0 (OC _) s9
    rw[show ((0:Nat):Int)=0 from rfl,OS] at hw
    rw[Oc h1,Oc h2,d3]
    simp only[Qc,Ow,N8,N4]
    rcases hw with hw | ⟨hw,hx⟩
    ·rw[hw]; exact .inl rfl
    ·rw[hw]; exact .inr ⟨rfl,h1,h2,h3,hx⟩
   ·have d3:decide ((20:Int)<(w.Ears.length:Int))=true:=by rw[P9]; omega
    rw[d3]
    cases (decide (w.Net.Queue.length<=40)&&decide (w.Net.Apart.length<=40))<;>exact .inl rfl
  ·rw[Ov h2,Bool.and_false]; exact .inl rfl
 ·rw[Ov h1]; exact .inl rfl
theorem yM.fit {w:al} (h:yM w):Fit w:=⟨by have:=h.2.1; omega,fun x hx=>by have:=h.2.2.2 x hx; omega⟩
def zN:bq:=⟨[],[]⟩
def ri (x:bq) (p:av):bq×Int:=bif Cb x&&ky p then (bif (x.Queue.length:Int)==4096 then (zN,2) else (⟨x.Queue++[p],x.Apart⟩,0)) else (zN,60)
theorem Eu {x:bq} (h:Cb x=true):x.Queue.length<=4096:=(vU h).1
theorem Lj (x:bq) (p:av) (hA:x.Apart.length<=4611686018427387904):FM x p=some (ri x p):=by
 unfold FM Iv ri
 rw[Hs x hA,N4,Ht]
 cases hx:Cb x with
 | false=>rfl
 | true=>
  have:=Eu hx
  cases ky p with
  | false=>rfl
  | true=>
   cases he:((x.Queue.length:Int)==4096) with
   | true=>simp[he]; rfl
   | false=>
    simp only[he,BW,N4]
    rw[iB _ _ _ NW]
    rfl
theorem sS {x:bq} {p:av} (h1:x.Apart.length<=4611686018427387904):(ri x p).1.Apart.length<=4611686018427387904/\(ri x p).1.Queue.length<=4097:=by
 unfold ri
 cases hx:Cb x with
 | false=>exact⟨OC _,OC _⟩
 | true=>
  have:=Eu hx
  cases ky p with
  | false=>exact⟨OC _,OC _⟩
  | true=>
   cases ((x.Queue.length:Int)==4096) with
   | true=>exact⟨OC _,OC _⟩
   | false=>exact⟨h1,by show (x.Queue++[p]).length<=_; simp; omega⟩
def oX (x:bq) (role bar d:Int):bq×Int:=ri x ⟨wr .i64 (role+1),0,FD ⟨role,bar,d⟩⟩
theorem Ef {n:Int} (h:-9000000000000000000<=n) (h':n<=9000000000000000000):dg n:=NX
structure Lu (w:al):Prop where
 few:yM w
 ok:gA w
theorem BC {w:al} (h:(qg w != 0)=false):okW w:=by
 unfold qg at h
 split at h
 ·assumption
 ·cases h
theorem E1 {w:al} (h:gA w) {x:aG} (hx:x∈w.Ears):∀ d∈x.Did,dg d:=(h.2.1.2 x hx).2.2.2
section
def oY (n:Int):Int->List Int->Bool
 | _,[]=>true
 | last,i :: l=>kF i (last+1) (n - 1)&&oY n i l
theorem Bm (n:Nat) (k:Int) (L:List Int) (z1:List av) (z2:List (Int×Int)) (z3:List aG) (z4:Int) (hk:1<=k/\k<=12) (hL:L.length<=4611686018427387904):∀ (m i:Nat) (last:Int),-1<=last/\last<=12->i<=L.length->L.length - i<m ->
  jz n k L (L.length:Int) z1 z2 z3 z4 m last (i:Int)=some (bif oY k last (L.drop i) then .inr () else .inl 1)
 | 0,i,_,_,_,h=>absurd h (OP _)
 | m+1,i,last,hl,hi,h=>by
  rw[jz]
  by_cases hlt:i<L.length
  ·rw[show decide ((i:Int)<(L.length:Int))=true by simpa using hlt,N9,br,N5 hlt,N4,zF,N4,Oz hlt,oY,ia (n:=last+1) r7 r7,ia (n:=k - 1) r7 r7,rC r7]
   cases hw:kF L[i] (last+1) (k - 1) with
   | false=>rfl
   | true=>
    unfold kF at hw
    simp only[N7,Od] at hw
    simp only[Ow,N8,ON]
    exact Bm n k L z1 z2 z3 z4 hk hL m (i+1) L[i] r7 r7 r7
  ·rw[show decide ((i:Int)<(L.length:Int))=false by simpa using hlt,N8,OV.2 r7]
   rfl
def gB (g:List Int) (j:Nat):Bool:=match g[j]? with
 | some x=>kF x 0 (j:Int)&&decide (bl g x=some x)
 | none=>true
theorem Bg (n:Nat) (g:List Int) (z1:List av) (z2:List (Int×Int)) (z3:List aG) (z4:Int) (hL:g.length<=4611686018427387904):∀ (m i:Nat),i<=g.length->g.length - i<m ->
  jA n g g (g.length:Int) z1 z2 z3 z4 m (i:Int)=some (if ∀ j (h:j<g.length),i<=j->gB g j=true then .inr () else .inl 1)
 | 0,i,_,h=>absurd h (OP _)
 | m+1,i,hi,h=>by
  rw[jA]
  by_cases hlt:i<g.length
  ·rw[show decide ((i:Int)<(g.length:Int))=true by simpa using hlt,N9,br,N5 hlt,N4,zF,N4,rC r7,Bg n g z1 z2 z3 z4 hL m (i+1) r7 r7]
   have hg:gB g i=(kF g[i] 0 (i:Int)&&decide (bl g g[i]=some g[i])):=by unfold gB; rw[N5 hlt]
   cases hw:kF g[i] 0 (i:Int) with
   | false=>
    rw[Oh (show ¬ (∀ j (h:j<g.length),i<=j->gB g j=true) from fun q=>by have:=q i hlt (N6 _); rw[hg,hw] at this; cases this)]; rfl
   | true=>
    have hw':=hw
    unfold kF at hw'
    simp only[N7,Od] at hw'
    have hx:g[i].toNat<g.length:=r7
    have e:bl g g[i]=some g[g[i].toNat]:=by unfold bl; rw[Oc hw'.1,N9]; exact N5 hx
    rw[e]
    simp only[Ow,N8,N4]
    by_cases hq:g[g[i].toNat]=g[i]
    ·rw[hq,Pb,N8]
     refine Po some (RN (propext ⟨fun q j hj hij=>?_,fun q j hj hij=>q j hj r7⟩) (fun _=>rfl) (fun _=>rfl))
     rcases Q6 hij with rfl | h2
     ·rw[hg,hw,e,hq]; simp
     ·exact q j hj h2
    ·rw[qc hq,Oh (show ¬ (∀ j (h:j<g.length),i<=j->gB g j=true) from fun q=>by have:=q i hlt (N6 _); rw[hg,hw,e] at this; simp at this; exact hq this)]; rfl
  ·rw[show decide ((i:Int)<(g.length:Int))=false by simpa using hlt,N8,Og (fun j hj hij=>r7)]
theorem Bh (n:Nat) (g:List Int) (hL:g.length<=4611686018427387904):∀ (m i:Nat),i<=g.length->g.length - i<m ->
  jy n g (g.length:Int) m (i:Int)=some (if ∀ j (h:j<g.length),i<=j->gB g j=true then .inr () else .inl false)
 | 0,i,_,h=>absurd h (OP _)
 | m+1,i,hi,h=>by
  rw[jy]
  by_cases hlt:i<g.length
  ·rw[show decide ((i:Int)<(g.length:Int))=true by simpa using hlt,N9,br,N5 hlt]
   simp only[N4]
   have hg:gB g i=(kF g[i] 0 (i:Int)&&decide (bl g g[i]=some g[i])):=by unfold gB; rw[N5 hlt]
   have e1:(bif decide (g[i]<0) then some true else some (decide ((i:Int)<g[i])))=some (!kF g[i] 0 (i:Int)):=by
    rw[or_some]
    unfold kF
    congr 1
    rw[P1]
    simp only[Pa,Od,Pe,Bool.and_eq_false_iff,Pk]
    omega
   rw[e1,rC r7,Bh n g hL m (i+1) r7 r7]
   simp only[N4]
   cases hw:kF g[i] 0 (i:Int) with
   | false=>
    rw[Oh (show ¬ (∀ j (h:j<g.length),i<=j->gB g j=true) from fun q=>by have:=q i hlt (N6 _); rw[hg,hw] at this; cases this)]; rfl
   | true=>
    have hw':=hw
    unfold kF at hw'
    simp only[N7,Od] at hw'
    have hx:g[i].toNat<g.length:=r7
    have e:bl g g[i]=some g[g[i].toNat]:=by unfold bl; rw[Oc hw'.1,N9]; exact N5 hx
    rw[e]
    simp only[Ow,N8,N4]
    by_cases hq:g[g[i].toNat]=g[i]
    ·rw[hq,Pb,N8]
     refine Po some (RN (propext ⟨fun q j hj hij=>?_,fun q j hj hij=>q j hj r7⟩) (fun _=>rfl) (fun _=>rfl))
     rcases Q6 hij with rfl | h2
     ·rw[hg,hw,e,hq]; simp
     ·exact q j hj h2
    ·rw[qc hq,Oh (show ¬ (∀ j (h:j<g.length),i<=j->gB g j=true) from fun q=>by have:=q i hlt (N6 _); rw[hg,hw,e] at this; simp at this; exact hq this)]; rfl
  ·rw[show decide ((i:Int)<(g.length:Int))=false by simpa using hlt,N8,Og (fun j hj hij=>r7)]
theorem Bd (n:Nat) (L:List Int) (x:Int) (hL:L.length<=4611686018427387904):∀ (m i:Nat),i<=L.length->L.length - i<m ->
  (∃ j:Int,0<=j/\iL n L x (L.length:Int) m (i:Int)=some (.inl j)/\x∈L.drop i)∨(iL n L x (L.length:Int) m (i:Int)=some (.inr ())/\x ∉ L.drop i)
 | 0,i,_,h=>absurd h (OP _)
 | m+1,i,hi,h=>by
  rw[iL]
  by_cases hlt:i<L.length
  ·rw[show decide ((i:Int)<(L.length:Int))=true by simpa using hlt,N9,br,N5 hlt,N4,rC r7,Oz hlt]
   by_cases hx:x=L[i]
   ·exact .inl ⟨i,r7,by rw[show (x==L[i])=true by simpa using hx]; rfl,by rw[hx]; exact PO⟩
   ·rw[show (x==L[i])=false by simpa using hx,N8]
    rcases Bd n L x hL m (i+1) r7 r7 with ⟨j,a,b,c⟩ | ⟨b,c⟩
    ·exact .inl ⟨j,a,b,PF _ c⟩
    ·exact .inr ⟨b,fun q=>by rcases OQ.1 q with q | q; exact hx q; exact c q⟩
  ·rw[show decide ((i:Int)<(L.length:Int))=false by simpa using hlt,N8,OV.2 r7]
   exact .inr ⟨rfl,P6⟩
theorem Li (L:List Int) (x:Int) (hL:L.length<=4611686018427387904):Ge L x=some (decide (x∈L)):=by
 unfold Ge IB IU IJ
 have hw:=Bd aE L x hL (aE+8) 0 (OC _) s9
 rw[show ((0:Nat):Int)=0 from rfl,OS] at hw
 rcases hw with ⟨j,a,b,c⟩ | ⟨b,c⟩
 ·rw[b,Oc c]; simp only[N4]; rw[Oc a]
 ·rw[b,Ov c]; rfl
def bu (w:al) (deaf:List Int) (j:Nat):Int:=match w.Ears[j]? with
 | some x=>match x.Cues with
  | c :: _=>bif (c.Bar==w.Bar)&&!decide ((j:Int)∈deaf) then c.Program else 0
  | []=>0
 | none=>0
def gr (g:List Int) (j:Nat):Int:=(g[j]?).getD 0
def pA (g:List Int) (V:Nat->Int):Nat->List (Int×Int)
 | 0=>[]
 | i+1=>bif (getM (pA g V i) (gr g i)).isSome&&((getM (pA g V i) (gr g i)).getD 0 != V i) then gi (pA g V i) (gr g i) 0 else gi (pA g V i) (gr g i) (V i)
theorem oM {T:Type} (a:Int) (x:T) (b:Int):∀ m:List (Int×T),getM (gi m a x) b=if b=a then some x else getM m b
 | []=>by
  rw[gi,getM,getM]
  by_cases h:b=a
  ·rw[Og h,Oc h]; rfl
  ·rw[Oh h,Ov h]; rfl
 | p :: m=>by
  rw[gi]
  by_cases h1:a=p.1
  ·rw[Oc h1,N9,getM,getM]
   by_cases h:b=a
   ·rw[Og h,Oc (h.trans h1)]; rfl
   ·rw[Oh h,Ov (fun q=>h (q.trans h1.symm))]; rfl
  ·rw[Ov h1,N8,getM,getM]
   by_cases h2:b=p.1
   ·rw[Oc h2,N9,N9,Oh (fun q=>h1 (q.symm.trans h2))]
   ·rw[Ov h2,N8,N8]
    exact oM a x b m
open Classical in
theorem ue (g:List Int) (V:Nat->Int):∀ i,(∀ b,(∀ j,j<i->gr g j≠b)->getM (pA g V i) b=none)/\(∀ j,j<i->getM (pA g V i) (gr g j)=some (if ∀ k,k<i->gr g k=gr g j->V k=V j then V j else 0))
 | 0=>⟨fun b _=>rfl,fun j h=>absurd h (OP _)⟩
 | i+1=>by
  obtain ⟨h1,h2⟩:=ue g V i
  obtain ⟨v,hv,hm⟩:∃ v,(v=if (getM (pA g V i) (gr g i)).isSome=true/\(getM (pA g V i) (gr g i)).getD 0≠V i then 0 else V i)/\pA g V (i+1)=gi (pA g V i) (gr g i) v:=by
   refine⟨_,rfl,?_⟩
   rw[pA]
   cases ha:(getM (pA g V i) (gr g i)).isSome with
   | false=>rw[Oh (fun q=>by cases q.1)]; rfl
   | true=>
    by_cases hb:(getM (pA g V i) (gr g i)).getD 0=V i
    ·rw[Oh (fun q=>q.2 hb),hb,Pb]; rfl
    ·rw[Og ⟨rfl,hb⟩,qc hb]; rfl
  rw[hm]
  refine⟨fun b hb=>?_,fun j hj=>?_⟩
  ·rw[oM,Oh (fun q=>hb i (Qg i) q.symm)]
   exact h1 b (fun j hj=>hb j r7)
  ·rw[oM]
   by_cases hg:gr g j=gr g i
   ·rw[Og hg]
    congr 1
    rw[hv]
    by_cases hex:∃ k,k<i/\gr g k=gr g i
    ·obtain ⟨k,hk,hgk⟩:=hex
     have hs:=h2 k hk
     rw[hgk] at hs
     rw[hs]
     simp only[Option.isSome_some,Qv,Qh]
     by_cases hall:∀ k',k'<i->gr g k'=gr g i->V k'=V k
     ·rw[Og hall]
      by_cases hvi:V k=V i
      ·rw[Oh (fun q=>q hvi),Og]
       ·rcases Pz.1 hj with q | rfl
        ·rw[<-hvi]; exact(hall j q hg).symm
        ·rfl
       ·intro k' hk' hgk'
        have a1:V j=V i:=by
         rcases Pz.1 hj with q | rfl
         ·rw[hall j q hg,hvi]
         ·rfl
        rcases Pz.1 hk' with q | rfl
        ·rw[a1,hall k' q (hgk'.trans hg),hvi]
        ·exact a1.symm
      ·rw[Og hvi,Oh]
       intro q
       have b1:=q k r7 (hgk.trans hg.symm)
       have b2:=q i (Qg i) hg.symm
       exact hvi (b1.trans b2.symm)
     ·rw[Oh hall]
      have hno:¬ ∀ k',k'<i+1->gr g k'=gr g j->V k'=V j:=fun q=>hall (fun k' hk' hgk'=>by rw[q k' r7 (hgk'.trans hg.symm),q k r7 (hgk.trans hg.symm)])
      rw[Oh hno]
      by_cases h0:(0:Int)=V i
      ·rw[Oh (fun q=>q h0)]; exact h0.symm
      ·rw[Og h0]
    ·have hn:=h1 (gr g i) (fun j hj q=>hex ⟨j,hj,q⟩)
     rw[hn]
     have hji:j=i:=by
      rcases Pz.1 hj with q | q
      ·exact absurd ⟨j,q,hg⟩ hex
      ·exact q
     subst hji
     rw[Oh (fun q=>by cases q.1),Og]
     intro k' hk' hgk'
     rcases Pz.1 hk' with q | rfl
     ·exact absurd ⟨k',q,hgk'⟩ hex
     ·rfl
   ·rw[Oh hg]
    rcases Pz.1 hj with q | rfl
    ·rw[h2 j q]
     congr 1
     refine RN (propext ⟨fun hq k' hk' hgk'=>?_,fun hq k' hk' hgk'=>hq k' r7 hgk'⟩) (fun _=>rfl) (fun _=>rfl)
     rcases Pz.1 hk' with q' | rfl
     ·exact hq k' q' hgk'
     ·exact absurd hgk'.symm hg
    ·exact absurd rfl hg
end
theorem JK (l:List Int) (x:Int) (h:l.length<=1000000):cO 8 l [x]=some (l++[x]):=iB _ _ _ NW
theorem HZ (l:List Int) (x:Int) (h:l.length<=10000):DL l x=some (l++[x]):=by
 unfold DL IC
 have e0:wr .i64 ((l.length:Int)+1)=((l.length+1:Nat):Int):=rC r7
 have e1:Br 8 (((l.length+1:Nat):Int)) (0:Int)=some (List.replicate (l.length+1) 0):=by
  unfold Br
  rw[Ej,Oc r7,Oc r7,Oc r7]; rfl
 rw[e0,e1,N4]
 have e2:lJ (List.replicate (l.length+1) (0:Int)).length (l.length:Int)=some l.length:=by
  unfold lJ
  rw[QP,Oc r7,Oc r7]; rfl
 rw[e2,N4]
 have e3:pv (List.replicate (l.length+1) (0:Int)) 0 (List.replicate (l.length+1) (0:Int)).length l=l++[0]:=by
  unfold pv aR
  have t:l.take (l.length+1)=l:=O0 r7
  rw[QP,t,List.drop_replicate,OZ,Nat.add_sub_cancel_left]; rfl
 have e4:vQ (l++[0]) l.length (fun _:Int=>x)=some (l++[x]):=by
  unfold vQ
  have t:(l++[(0:Int)])[l.length]? = some 0:=by rw[OI (N6 _),Ri]; rfl
  rw[t]
  show some ((l++[(0:Int)]).set l.length x)=_
  rw[List.set_append_right _ _ (N6 _),Ri]; rfl
 rw[e3,e4,N4,OS,O0 r9]
def lG (n:Nat) (V:Nat->Int) (i:Nat):List Int:=(List.range n).map fun j=>if j<i then V j else 0
def dS (i:Nat):List Int:=(List.range i).map fun j:Nat=>(j:Int)
theorem jJ {n:Nat} {V:Nat->Int} {i:Nat}:(lG n V i).length=n:=by unfold lG; simp
theorem iX {n:Nat} {V:Nat->Int} {i j:Nat} (h:j<n):(lG n V i)[j]? = some (if j<i then V j else 0):=by
 unfold lG
 rw[OB,Qi h]; rfl
theorem A2 {n:Nat} {V:Nat->Int} {i:Nat} (h:i<n):(lG n V i).set i (V i)=lG n V (i+1):=by
 apply Pn
 intro j
 rw[PU,jJ]
 by_cases hj:j<n
 ·rw[iX hj,iX hj]
  by_cases hij:i=j
  ·subst hij; rw[Og rfl,Og h,Og (Qg i)]
  ·rw[Oh hij]
   by_cases h1:j<i
   ·rw[Og h1,Og r7]
   ·rw[Oh h1,Oh r7]
 ·rw[OY (by rw[jJ]; omega),OY (by rw[jJ]; omega)]
  by_cases hij:i=j
  ·omega
  ·rw[Oh hij]
theorem zu {n:Nat} {V:Nat->Int} {i:Nat} (h:V i=0):lG n V i=lG n V (i+1):=by
 apply Pn
 intro j
 by_cases hj:j<n
 ·rw[iX hj,iX hj]
  by_cases hij:j=i
  ·subst hij; rw[Oh (Qb _),Og (Qg _),h]
  ·by_cases h1:j<i
   ·rw[Og h1,Og r7]
   ·rw[Oh h1,Oh r7]
 ·rw[OY (by rw[jJ]; omega),OY (by rw[jJ]; omega)]
theorem vk (i:Nat):dS i++[(i:Int)]=dS (i+1):=by unfold dS; rw[QT,Ro]; rfl
theorem mU (i:Nat):(dS i).length=i:=by unfold dS; simp
theorem ym {n i:Nat} (h:i<n):lJ n (i:Int)=some i:=by
 unfold lJ
 rw[Oc r7,Oc r7]; rfl
theorem vE {w:al} {deaf:List Int} {i:Nat} (h:i<w.Ears.length):bu w deaf i=match w.Ears[i].Cues with | c :: _=>bif (c.Bar==w.Bar)&&!decide ((i:Int)∈deaf) then c.Program else 0 | []=>0:=by
 unfold bu
 first
 | (rw[N5 h]; done)
 | (rw[N5 h]; generalize w.Ears[i]=x; obtain ⟨cs,a,b⟩:=x; cases cs<;>rfl)
theorem Be (n:Nat) (w:al) (deaf g:List Int) (z1:Int) (z2:List av) (z3:List (Int×Int)) (z4:List aG) (z5:Int) (hd:deaf.length<=4611686018427387904) (hg:g.length=w.Ears.length) (hn:w.Ears.length<=12):∀ (m i:Nat),i<=w.Ears.length->w.Ears.length - i<m ->
  fI n deaf g z1 w.Ears.length w.Ears (w.Ears.length:Int) w z2 z3 z4 z5 m (i:Int) (lG w.Ears.length (bu w deaf) i) (pA g (bu w deaf) i) (dS i)=some (w.Ears.length,lG w.Ears.length (bu w deaf) w.Ears.length,pA g (bu w deaf) w.Ears.length,dS w.Ears.length)
 | 0,i,_,h=>absurd h (OP _)
 | m+1,i,hi,h=>by
  rw[fI]
  by_cases hlt:i<w.Ears.length
  ·have hlg:i<g.length:=by omega
   have hgr:bl g (i:Int)=some (gr g i):=by rw[br]; unfold gr; rw[N5 hlg]; rfl
   have ih:=Be n w deaf g z1 z2 z3 z4 z5 hd hg hn m (i+1) r7 r7
   rw[show decide ((i:Int)<(w.Ears.length:Int))=true by simpa using hlt,N9,br,N5 hlt,N4,Li _ _ hd,hgr,ym hlt,JK _ _ (by rw[mU]; omega),vk,rC r7]
   simp only[N4]
   have key:(∃ c l,w.Ears[i].Cues=c :: l/\(c.Bar==w.Bar)=true/\decide ((i:Int)∈deaf)=false/\bu w deaf i=c.Program) ∨
     ((Option.bind (bif decide (0<((w.Ears[i].Cues.length:Nat):Int)) then (Option.bind (bl w.Ears[i].Cues 0) fun y=>some (y.Bar==w.Bar)) else some false) fun y=>bif y then some (!decide ((i:Int)∈deaf)) else some false)=some false/\bu w deaf i=0):=by
    rw[vE hlt]
    cases hc:w.Ears[i].Cues with
    | nil=>exact .inr ⟨rfl,rfl⟩
    | cons c l=>
     have hpos:decide (0<(((c :: l).length:Nat):Int))=true:=by rw[On]; exact Oc r7
     simp only[hpos,N9,show bl (c :: l) 0=some c from rfl,N4]
     cases hb:(c.Bar==w.Bar) with
     | false=>exact .inr ⟨rfl,rfl⟩
     | true=>cases hq:decide ((i:Int)∈deaf) with
      | true=>exact .inr ⟨rfl,rfl⟩
      | false=>exact .inl ⟨c,l,rfl,hb,rfl,rfl⟩
   have hgv:∀ (L:List Int),L=lG w.Ears.length (bu w deaf) (i+1)->L[i]? = some (bu w deaf i):=fun L hL=>by
    rw[hL,iX hlt,Og (Qg i)]
   rcases key with ⟨c,l,k1,k2,k3,k4⟩ | ⟨k1,k2⟩
   ·have hpos:decide (0<((w.Ears[i].Cues.length:Nat):Int))=true:=by rw[k1,On]; exact Oc r7
    have hc0:bl w.Ears[i].Cues 0=some c:=by rw[k1]; rfl
    have hmod:vQ (lG w.Ears.length (bu w deaf) i) i (fun _=>c.Program)=some (lG w.Ears.length (bu w deaf) (i+1)):=by
     unfold vQ
     rw[iX hlt,<-A2 hlt,k4]
    simp only[hpos,hc0,k2,k3,N9,Ry,N4,hmod,hgv _ rfl]
    rw[<-ih]
    conv=>rhs; rw[pA]
    cases (getM (pA g (bu w deaf) i) (gr g i)).isSome with
    | false=>rfl
    | true=>cases (((getM (pA g (bu w deaf) i) (gr g i)).getD 0) != bu w deaf i)<;>rfl
   ·have hz:=zu (n:=w.Ears.length) k2
    rw[hz,hgv _ rfl]
    simp only[N4]
    generalize (bif decide (0<((w.Ears[i].Cues.length:Nat):Int)) then (Option.bind (bl w.Ears[i].Cues 0) fun y=>some (y.Bar==w.Bar)) else (some false))=X at k1 ⊢
    cases X with
    | none=>cases k1
    | some y=>
     have k3:(bif y then some (!decide ((i:Int)∈deaf)) else some false)=some false:=k1
     simp only[N4,k3,N8]
     rw[<-ih]
     conv=>rhs; rw[pA]
     cases (getM (pA g (bu w deaf) i) (gr g i)).isSome with
     | false=>rfl
     | true=>cases (((getM (pA g (bu w deaf) i) (gr g i)).getD 0) != bu w deaf i)<;>rfl
  ·obtain rfl:i=w.Ears.length:=by omega
   rw[show decide ((w.Ears.length:Int)<(w.Ears.length:Int))=false by simp]
   rfl
def B9 (g:List Int) (V:Nat->Int) (n j:Nat):Int:=(getM (pA g V n) (gr g j)).getD 0
def n4 (bar:Int):List bM->List bM
 | c :: l=>bif c.Bar==bar then l else c :: l
 | []=>[]
def oQ (w:al) (g:List Int) (V:Nat->Int) (j:Nat):aG:=match w.Ears[j]? with
 | some x=>⟨n4 w.Bar x.Cues,x.Got++[V j],x.Did++[B9 g V w.Ears.length j]⟩
 | none=>⟨[],[],[]⟩
def dt (w:al) (g:List Int) (V:Nat->Int) (i:Nat):List aG:=(List.range i).map (oQ w g V)
theorem wW (w:al) (g:List Int) (V:Nat->Int) (i:Nat):dt w g V i++[oQ w g V i]=dt w g V (i+1):=by unfold dt; rw[QT,Ro]; rfl
theorem dn {w:al} {g:List Int} {V:Nat->Int} {i:Nat}:(dt w g V i).length=i:=by unfold dt; simp
theorem Gs (l:List aG) (x:aG) (h:l.length<=1000):cO 72 l [x]=some (l++[x]):=iB _ _ _ NW
theorem Bf (n:Nat) (w:al) (g:List Int) (V:Nat->Int) (z1:Int) (z2:List av) (z3:List (Int×Int)) (z4:Int) (z5:List Int) (hg:g.length=w.Ears.length) (hf:yM w) (hn:w.Ears.length<=12):∀ (m i:Nat),i<=w.Ears.length->w.Ears.length - i<m ->
  iJ n g z1 w.Ears.length w.Ears (w.Ears.length:Int) w z2 z3 z4 (lG w.Ears.length V w.Ears.length) (pA g V w.Ears.length) z5 m (i:Int) (dt w g V i)=some (dt w g V w.Ears.length)
 | 0,i,_,h=>absurd h (OP _)
 | m+1,i,hi,h=>by
  rw[iJ]
  by_cases hlt:i<w.Ears.length
  ·have hlg:i<g.length:=by omega
   have hgr:bl g (i:Int)=some (gr g i):=by rw[br]; unfold gr; rw[N5 hlg]; rfl
   obtain ⟨a1,a2,a3⟩:=hf.2.2.2 _ (OL hlt)
   have ih:=Bf n w g V z1 z2 z3 z4 z5 hg hf hn m (i+1) r7 r7
   rw[<-wW] at ih
   rw[show decide ((i:Int)<(w.Ears.length:Int))=true by simpa using hlt,N9,br,N5 hlt,N4,hgr,ym hlt,rC r7]
   simp only[N4,iX hlt,Og hlt,HZ _ _ (Ot a2 (by decide)),HZ _ _ (Ot a3 (by decide)),Gs _ _ (show (dt w g V i).length<=1000 by rw[dn]; omega)]
   have hne:oQ w g V i=⟨n4 w.Bar w.Ears[i].Cues,w.Ears[i].Got++[V i],w.Ears[i].Did++[(getM (pA g V w.Ears.length) (gr g i)).getD 0]⟩:=by
    unfold oQ B9
    rw[N5 hlt]
   rw[hne] at ih
   cases hc:w.Ears[i].Cues with
   | nil=>
    rw[hc] at ih
    exact ih
   | cons c l=>
    rw[hc] at ih
    have hpos:decide (0<(((c :: l).length:Nat):Int))=true:=by rw[On]; exact Oc r7
    simp only[hpos,N9,show bl (c :: l) 0=some c from rfl,N4]
    cases hb:(c.Bar==w.Bar) with
    | true=>
     have hs:gD (c :: l) 1 (((c :: l).length:Nat):Int)=some l:=by
      unfold gD
      rw[Oc r7,Oc so,Oc r7]
      simp only[Qc,N9]
      congr 1
      show ((c :: l).drop 1).take _=l
      rw[RG,OS]
      exact O0 r9
     simp only[N9,hs,N4]
     simp only[n4,hb,N9] at ih
     exact ih
    | false=>
     simp only[n4,hb,N8] at ih
     exact ih
  ·obtain rfl:i=w.Ears.length:=by omega
   rw[show decide ((w.Ears.length:Int)<(w.Ears.length:Int))=false by simp]
   rfl
section
def vY (b:Nat):Nat->bq->List aG->Int⊕bq
 | _,x,[]=>.inr x
 | j,x,e :: l=>bif (oX x j b ((e.Did[b]?).getD 0)).2 != 0 then .inl (oX x j b ((e.Did[b]?).getD 0)).2 else vY b (j+1) (oX x j b ((e.Did[b]?).getD 0)).1 l
theorem Bo (n:Nat) (X:al) (b:Nat) (role:Int) (z1:List Int) (z2 z3:Int) (L:List Int) (z4:al) (z5:List av) (z6:List (Int×Int)) (z7:Int) (z8:List Int) (z9:List (Int×Int)) (z10:List Int) (z11:List aG) (z12:Int) (z13:List av) (z14:List (Int×Int)) (z15:List aG) (z16 z17:Int)
  (hr:dg role) (hL:L.length=b+1) (hb:b<=4096) (hd:∀ d∈L,dg d):∀ (m i:Nat) (q:List av) (ap:List (Int×Int)),ap.length<=4611686018427387904->i<=L.length->L.length - i<m ->
  iK n X (b:Int) role z1 z2 z3 L (L.length:Int) z4 z5 z6 z7 z8 z9 z10 z11 z12 z13 z14 z15 z16 z17 m (i:Int) q ap=some (if i<=b then (bif (oX ⟨q,ap⟩ role b ((L[b]?).getD 0)).2 != 0 then .inl (oX ⟨q,ap⟩ role b ((L[b]?).getD 0)).2 else .inr ((oX ⟨q,ap⟩ role b ((L[b]?).getD 0)).1.Queue,(oX ⟨q,ap⟩ role b ((L[b]?).getD 0)).1.Apart)) else .inr (q,ap))
 | 0,i,_,_,_,_,h=>absurd h (OP _)
 | m+1,i,q,ap,hA,hi,h=>by
  rw[iK]
  by_cases hlt:i<L.length
  ·rw[show decide ((i:Int)<(L.length:Int))=true by simpa using hlt]
   simp only[N9,br,N5 hlt,N4]
   have ih:=fun q ap h=>Bo n X b role z1 z2 z3 L z4 z5 z6 z7 z8 z9 z10 z11 z12 z13 z14 z15 z16 z17 hr hL hb hd m (i+1) q ap h r7 r7
   by_cases hib:i<b
   ·rw[show decide ((b:Int)<=(i:Int))=false by rw[Pk]; omega,N8,rC r7,ih q ap hA,Og r7,Og r7]
   ·obtain rfl:i=b:=by omega
    have hrep:lO ⟨role,(i:Int),L[i]⟩:=⟨hr,show dg ((i:Nat):Int) from Ef r7 r7,hd _ (OL hlt)⟩
    rw[show decide ((i:Int)<=(i:Int))=true by simp]
    simp only[N9,Ig hrep,Lj ⟨q,ap⟩ _ hA,N4]
    have e:ri ⟨q,ap⟩ ⟨wr .i64 (role+1),0,FD ⟨role,(i:Int),L[i]⟩⟩=oX ⟨q,ap⟩ role i L[i]:=rfl
    rw[e,Og (N6 _),N5 hlt,Qv]
    cases hq:((oX ⟨q,ap⟩ role i L[i]).2 != 0) with
    | true=>rfl
    | false=>
     simp only[N8]
     rw[rC r7,ih (oX ⟨q,ap⟩ role i L[i]).1.Queue (oX ⟨q,ap⟩ role i L[i]).1.Apart (sS (x:=⟨q,ap⟩) hA).1,Oh r7]
  ·rw[show decide ((i:Int)<(L.length:Int))=false by simpa using hlt,N8,Oh r7]
theorem Bn (n:Nat) (X:al) (b:Nat) (z4:al) (z5:List av) (z6:List (Int×Int)) (z7:Int) (z8:List Int) (z9:List (Int×Int)) (z10:List Int) (z11:List aG) (z12:Int) (z13:List av) (z14:List (Int×Int)) (z15:List aG) (z16 z17:Int)
  (hb:b<=4096) (hn:X.Ears.length<=12) (hN:10000<=n) (hd:∀ x∈X.Ears,x.Did.length=b+1/\∀ d∈x.Did,dg d):∀ (m i:Nat) (q:List av) (ap:List (Int×Int)),ap.length<=4611686018427387904->i<=X.Ears.length->X.Ears.length - i<m ->
  jB n X (b:Int) (dS X.Ears.length) ((dS X.Ears.length).length:Int) z4 z5 z6 z7 z8 z9 z10 z11 z12 z13 z14 z15 z16 z17 m (i:Int) q ap=some (match vY b i ⟨q,ap⟩ (X.Ears.drop i) with | .inl e=>.inl e | .inr x=>.inr (x.Queue,x.Apart))
 | 0,i,_,_,_,_,h=>absurd h (OP _)
 | m+1,i,q,ap,hA,hi,h=>by
  rw[jB]
  by_cases hlt:i<X.Ears.length
  ·obtain ⟨d1,d2⟩:=hd _ (OL hlt)
   have hev:bl (dS X.Ears.length) (i:Int)=some (i:Int):=by
    rw[br]; unfold dS; rw[OB,Qi hlt]; rfl
   have hw:=Bo n X b (i:Int) (dS X.Ears.length) ((dS X.Ears.length).length:Int) (i:Int) X.Ears[i].Did z4 z5 z6 z7 z8 z9 z10 z11 z12 z13 z14 z15 z16 z17 (Ef r7 r7) d1 hb d2 (n+6) 0 q ap hA (OC _) r7
   rw[show ((0:Nat):Int)=0 from rfl,Og (OC _)] at hw
   rw[show decide ((i:Int)<((dS X.Ears.length).length:Int))=true by rw[mU]; simpa using hlt]
   simp only[N9,hev,N4,br,N5 hlt,hw]
   rw[Oz hlt,vY]
   cases hq:((oX ⟨q,ap⟩ (i:Int) b ((X.Ears[i].Did[b]?).getD 0)).2 != 0) with
   | true=>rfl
   | false=>
    simp only[N8]
    rw[rC r7]
    exact Bn n X b z4 z5 z6 z7 z8 z9 z10 z11 z12 z13 z14 z15 z16 z17 hb hn hN hd m (i+1) _ _ (sS (x:=⟨q,ap⟩) hA).1 r7 r7
  ·rw[show decide ((i:Int)<((dS X.Ears.length).length:Int))=false by rw[mU]; simpa using hlt,N8,OV.2 r7]
   rfl
def Hy (g:List Int) (n:Nat):Prop:=g.length=n/\∀ j (h:j<g.length),0<=j->gB g j=true
open Classical in
noncomputable def wO (w:al) (deaf g:List Int):al×Int:=
 bif qg w != 0 then (zW,qg w) else bif !oY (w.Ears.length:Int) (-1) deaf then (zW,1) else
 if Hy g w.Ears.length then (bif w.Bar==4096 then (zW,2) else
  match vY w.Bar.toNat 0 w.Net (dt w g (bu w deaf) w.Ears.length) with
  | .inl e=>(zW,e)
  | .inr x=>(⟨x,dt w g (bu w deaf) w.Ears.length,w.Bar+1⟩,0)) else (zW,1)
theorem AY {w:al} (h:gA w) (deaf:List Int) (j:Nat):dg (bu w deaf j):=by
 unfold bu
 split
 ·rename_i x hx
  have hm:=OA hx
  split
  ·rename_i c l hc
   cases ((c.Bar==w.Bar)&&!decide ((j:Int)∈deaf))
   ·exact A5
   ·exact((h.2.1.2 x hm).1.2 c (by rw[hc]; exact PO)).2.2.2
  ·exact A5
 ·exact A5
theorem E2 {g:List Int} {V:Nat->Int} (hV:∀ j,dg (V j)) (n j:Nat) (hj:j<n):dg (B9 g V n j):=by
 unfold B9
 rw[(ue g V n).2 j hj,Qv]
 split
 ·exact hV j
 ·exact A5
theorem ze {w:al} {g:List Int} {V:Nat->Int} {x:aG} (h:x∈dt w g V w.Ears.length):∃ j,∃ hj:j<w.Ears.length,x=⟨n4 w.Bar w.Ears[j].Cues,w.Ears[j].Got++[V j],w.Ears[j].Did++[B9 g V w.Ears.length j]⟩:=by
 unfold dt at h
 obtain ⟨j,hj,rfl⟩:=QF.1 h
 have hj':=OD.1 hj
 refine⟨j,hj',?_⟩
 unfold oQ
 rw[N5 hj']
theorem zd {w:al} (h:gA w) (hw:okW w) (g deaf:List Int):∀ x∈dt w g (bu w deaf) w.Ears.length,x.Did.length=w.Bar.toNat+1/\∀ d∈x.Did,dg d:=fun x hx=>by
 obtain ⟨j,hj,rfl⟩:=ze hx
 have he:=pQ hw.2.2.2.1 _ (OL hj)
 refine⟨by show (w.Ears[j].Did++_).length=_; rw[Oq,Rz]; omega,fun d hd=>?_⟩
 rcases Pp.1 hd with q | q
 ·exact E1 h (OL hj) d q
 ·rw[List.mem_singleton.1 q]; exact E2 (AY h deaf) _ _ hj
theorem NR (w:al) (deaf g:List Int) (h:Lu w) (hd:deaf.length<=100) (hgl:g.length<=100):Ce w deaf g=some (wO w deaf g):=by
 unfold Ce Ir wO
 rw[Ln w h.few.fit,N4]
 cases hc:(qg w != 0) with
 | true=>rfl
 | false=>
  have hw:=BC hc
  obtain ⟨hn1,hn2⟩:=hw.1
  obtain ⟨hb1,hb2⟩:=hw.2.1
  have hR:=Bm aE (w.Ears.length:Int) deaf [] [] [] 0 r7 r7 (aE+8) 0 (-1) r7 (OC _) s9
  rw[show ((0:Nat):Int)=0 from rfl,OS] at hR
  simp only[N8,hR,N4]
  cases hr:oY (w.Ears.length:Int) (-1) deaf with
  | false=>rfl
  | true=>
   simp only[N9,Ow,N8]
   by_cases hgn:g.length=w.Ears.length
   ·rw[show ((g.length:Int) != (w.Ears.length:Int))=false by rw[hgn]; simp,N8]
    have hG:=Bg aE g [] [] [] 0 r7 (aE+8) 0 (OC _) s9
    rw[show ((0:Nat):Int)=0 from rfl] at hG
    rw[hG]
    by_cases hg:∀ j (h:j<g.length),0<=j->gB g j=true
    ·rw[Og hg,Og (show Hy g w.Ears.length from ⟨hgn,hg⟩)]
     simp only[N4]
     cases hbar:(w.Bar==4096) with
     | true=>rfl
     | false=>
      have hne:w.Bar≠4096:=by simpa using hbar
      have hmk:Br 8 (w.Ears.length:Int) (0:Int)=some (List.replicate w.Ears.length 0):=by
       unfold Br
       rw[Ej,Oc r7,Oc r7,Oc r7]; rfl
      have hz:List.replicate w.Ears.length (0:Int)=lG w.Ears.length (bu w deaf) 0:=by
       unfold lG
       apply Pn
       intro j
       by_cases hj:j<w.Ears.length
       ·rw[OB,Qi hj,PD,Og hj]; rfl
       ·rw[OY so,OY so]
      have hB2:=Be aE w deaf g (qg w) [] [] [] 0 r7 hgn hn2 (aE+8) 0 (OC _) s9
      have hB3:=Bf aE w g (bu w deaf) (qg w) w.Net.Queue w.Net.Apart (wr .i64 (w.Bar+1)) (dS w.Ears.length) hgn h.few hn2 (aE+8) 0 (OC _) s9
      rw[show ((0:Nat):Int)=0 from rfl] at hB2 hB3
      rw[show pA g (bu w deaf) 0=[] from rfl,show dS 0=[] from rfl] at hB2
      rw[show dt w g (bu w deaf) 0=[] from rfl] at hB3
      have hwb:wr .i64 (w.Bar+1)=w.Bar+1:=ia r7 r7
      rw[hwb] at hB3
      have eb:w.Bar=((w.Bar.toNat:Nat):Int):=r7
      simp only[hmk,N4,hz,jJ,hB2,hwb,hB3,N8]
      have hS:=Bn aE ⟨w.Net,dt w g (bu w deaf) w.Ears.length,w.Bar+1⟩ w.Bar.toNat w w.Net.Queue w.Net.Apart (w.Bar+1) (lG w.Ears.length (bu w deaf) w.Ears.length) (pA g (bu w deaf) w.Ears.length) (dS w.Ears.length) (dt w g (bu w deaf) w.Ears.length) (w.Bar+1) [] [] [] 0 0 r7 (by show (dt w g (bu w deaf) w.Ears.length).length<=12; rw[dn]; exact hn2) s9 (zd h.ok hw g deaf) (aE+6) 0 w.Net.Queue w.Net.Apart (by have:=h.few.2.1; omega) (OC _) (by rw[fu]; show (dt w g (bu w deaf) w.Ears.length).length - 0<_; rw[dn]; omega)
      rw[show ((0:Nat):Int)=0 from rfl,<-eb] at hS
      simp only[dn,OS] at hS
      rw[show IP ⟨w.Net,dt w g (bu w deaf) w.Ears.length,w.Bar+1⟩ w.Bar (dS w.Ears.length)=some (dS w.Ears.length,⟨w.Net,dt w g (bu w deaf) w.Ears.length,w.Bar+1⟩,w.Bar) from rfl]
      simp only[N4,hS]
      cases vY w.Bar.toNat 0 w.Net (dt w g (bu w deaf) w.Ears.length)<;>rfl
    ·rw[Oh hg,Oh (show ¬ Hy g w.Ears.length from fun q=>hg q.2)]; rfl
   ·rw[show ((g.length:Int) != (w.Ears.length:Int))=true by simp; omega,Oh (show ¬ Hy g w.Ears.length from fun q=>hgn q.1)]; rfl
end
theorem uu {role n bar:Int}:∀ (l:List bM),nF role n bar l=true->l.filter (fun c=>c.Bar != bar)=n4 bar l
 | [],_=>rfl
 | c :: l,h=>by
  have ge:∀ (l:List bM) (lo:Int),nF role n lo l=true->∀ c∈l,lo<=c.Bar:=by
   intro l
   induction l with
   | nil=>intro _ _ c hc; cases hc
   | cons a l ih=>
    intro lo h c hc
    rw[nF] at h
    simp only[N7,Pe,Pk] at h
    rcases OQ.1 hc with rfl | hc
    ·omega
    ·have:=ih _ h.2 c hc; omega
  rw[nF] at h
  simp only[N7,Pe,Pk] at h
  have hge:=ge l _ h.2
  have hl:l.filter (fun c=>c.Bar != bar)=l:=List.filter_eq_self.2 fun d hd=>by
   have:=hge d hd
   exact qc r7
  rw[QM,hl,n4]
  by_cases hb:c.Bar=bar
  ·rw[hb,Pb,PH]; rfl
  ·rw[qc hb,Co hb]; rfl
theorem Lo (g:List Int) (k:Nat) (hg:k<=4611686018427387904):(FK g (k:Int)=some true/\Hy g k)∨FK g (k:Int)=some false:=by
 unfold FK Iq
 by_cases hgn:g.length=k
 ·subst hgn
  have hG:=Bh aE g hg (aE+8) 0 (OC _) s9
  rw[show ((0:Nat):Int)=0 from rfl] at hG
  rw[Pb,N8,hG]
  by_cases hq:∀ j (h:j<g.length),0<=j->gB g j=true
  ·rw[Og hq]; exact .inl ⟨rfl,rfl,hq⟩
  ·rw[Oh hq]; exact .inr rfl
 ·rw[show ((g.length:Int) != (k:Int))=true by simp; omega]; exact .inr rfl
theorem xe (n:Nat) (z1 z2:List Int) (z3:Bool) (z4:Int) (z5:List aG) (z6 z7:Int) (L:List bM) (w:al) (z8:al) (z9:aG) (hl:L.length<=40):∀ (m i:Nat) (b:Bool) (k:Nat),k<=i->i<=L.length->L.length - i<m ->
  mK n z1 z2 z3 z4 z5 z6 z7 L (L.length:Int) w z8 z9 m b (k:Int) (i:Int)=some (b || (L.drop i).any (fun c=>c.Bar==w.Bar),((k+((L.drop i).filter (fun c=>c.Bar != w.Bar)).length:Nat):Int))
 | 0,i,_,_,_,_,h=>absurd h (OP _)
 | m+1,i,b,k,hk,hi,h=>by
  rw[mK]
  by_cases hlt:i<L.length
  ·rw[show decide ((i:Int)<(L.length:Int))=true by simpa using hlt,N9,br,N5 hlt,N4,Oz hlt,Q8,QM,rC (by omega:i<=4611686018427387904)]
   by_cases hb:L[i].Bar=w.Bar
   ·rw[hb,PH,Pb,N9,xe n z1 z2 z3 z4 z5 z6 z7 L w z8 z9 hl m (i+1) true k r7 r7 r7]
    simp
   ·rw[Co hb,qc hb,N8,rC (by omega:k<=4611686018427387904),xe n z1 z2 z3 z4 z5 z6 z7 L w z8 z9 hl m (i+1) b (k+1) r7 r7 r7]
    simp only[RF,QH,On]
    rw[show k+1+(List.filter (fun c=>c.Bar != w.Bar) (List.drop (i+1) L)).length=k+((List.filter (fun c=>c.Bar != w.Bar) (List.drop (i+1) L)).length+1) by omega]
  ·rw[show decide ((i:Int)<(L.length:Int))=false by simpa using hlt,N8,OV.2 r7]
   simp
theorem Bj (n:Nat) (j:Int) (L:List Int) (hl:L.length<=4611686018427387904):∀ (m i:Nat) (b:Bool),i<=L.length->L.length - i<m ->
  ot n j L (L.length:Int) m b (i:Int)=some (b&&(L.drop i).all (fun d=>d != j))
 | 0,i,_,_,h=>absurd h (OP _)
 | m+1,i,b,hi,h=>by
  rw[ot]
  by_cases hlt:i<L.length
  ·rw[show decide ((i:Int)<(L.length:Int))=true by simpa using hlt,N9,br,N5 hlt,N4,Oz hlt,Qa,rC r7]
   simp only[AA,N4]
   rw[Bj n j L hl m (i+1) _ r7 r7,Bool.and_assoc]
  ·rw[show decide ((i:Int)<(L.length:Int))=false by simpa using hlt,N8,OV.2 r7]
   simp
theorem Bl (n:Nat) (z1:List Int) (g:List Int) (z2:Bool) (j:Nat) (b:Bool) (z3:List aG) (z4 z5:Int) (E:List aG) (w z6:al) (z7:aG) (c:Nat) (hbar:w.Bar=(c:Int)) (hc:c<=4096) (hE:E.length<=12) (hg:g.length=E.length) (hj:j<E.length)
  (hd:∀ k (h:k<E.length),b=false->gr g j=gr g k->E[k].Did.length=c+1/\E[k].Did[c]? = some 0):∀ (m i:Nat),i<=E.length->E.length - i<m ->
  ou n z1 g z2 (j:Int) b z3 z4 z5 E (E.length:Int) w z6 z7 m (i:Int)=some (.inr ())
 | 0,i,_,h=>absurd h (OP _)
 | m+1,i,hi,h=>by
  have hgg:∀ q,q<E.length->bl g (q:Int)=some (gr g q):=fun q hq=>by
   rw[br]; unfold gr; rw[N5 r7]; rfl
  rw[ou]
  by_cases hlt:i<E.length
  ·have ih:=Bl n z1 g z2 j b z3 z4 z5 E w z6 z7 c hbar hc hE hg hj hd m (i+1) r7 r7
   rw[show decide ((i:Int)<(E.length:Int))=true by simpa using hlt,N9,br,N5 hlt,N4,hgg i hlt,hgg j hj,rC r7]
   cases b with
   | true=>simp only[Ow,N8,N4]; exact ih
   | false=>
    simp only[Ry,N9,N4]
    by_cases hq:gr g j=gr g i
    ·obtain ⟨d1,d2⟩:=hd i hlt rfl hq
     rw[hq,PH,N9,hbar,d1,rC r7,br,d2]
     simp only[Pb,N8,N4]
     exact ih
    ·rw[Co hq]
     simp only[N8,N4]
     exact ih
  ·rw[show decide ((i:Int)<(E.length:Int))=false by simpa using hlt]; rfl
theorem Bi (n:Nat) (w z:al) (deaf g:List Int) (z3:Bool) (hf:yM w) (hw:okW w) (hN:10000<=n) (hdl:deaf.length<=100) (hg:g.length=w.Ears.length) (hz:z.Ears=dt w g (bu w deaf) w.Ears.length):∀ (m i:Nat),i<=w.Ears.length->w.Ears.length - i<m ->
  om n deaf g z3 (dt w g (bu w deaf) w.Ears.length) (w.Ears.length:Int) w z m (i:Int)=some (.inr (.inr ()))
 | 0,i,_,h=>absurd h (OP _)
 | m+1,i,hi,h=>by
  have hn:=hw.1.2
  obtain ⟨hb1,hb2⟩:=hw.2.1
  rw[om]
  by_cases hlt:i<w.Ears.length
  ·have ih:=Bi n w z deaf g z3 hf hw hN hdl hg hz m (i+1) r7 r7
   obtain ⟨a1,a2,a3⟩:=hf.2.2.2 _ (OL hlt)
   have hear:=hw.2.2.2.1 i hlt
   unfold tC at hear
   simp only[N7] at hear
   have hE:∀ j,j<w.Ears.length->(dt w g (bu w deaf) w.Ears.length)[j]? = some (oQ w g (bu w deaf) j):=fun j hj=>by
    unfold dt; rw[OB,Qi hj]; rfl
   have hnew:∀ j (hj:j<w.Ears.length),oQ w g (bu w deaf) j=⟨n4 w.Bar w.Ears[j].Cues,w.Ears[j].Got++[bu w deaf j],w.Ears[j].Did++[B9 g (bu w deaf) w.Ears.length j]⟩:=fun j hj=>by
    unfold oQ; rw[N5 hj]
   have h1:=xe n deaf g z3 (i:Int) (dt w g (bu w deaf) w.Ears.length) (w.Ears.length:Int) (i:Int) w.Ears[i].Cues w z (oQ w g (bu w deaf) i) a1 (n+8) 0 false 0 (N6 _) (OC _) r7
   rw[show ((0:Nat):Int)=0 from rfl,OS,RF,OZ,uu _ hear.2] at h1
   have h2:=Bj n (i:Int) deaf r7 (n+8) 0 (w.Ears[i].Cues.any (fun c=>c.Bar==w.Bar)) (OC _) r7
   rw[show ((0:Nat):Int)=0 from rfl,OS] at h2
   have hdid:∀ j (hj:j<w.Ears.length),(w.Ears[j].Did++[B9 g (bu w deaf) w.Ears.length j]).length=w.Bar.toNat+1:=fun j hj=>by
    have:=pQ hw.2.2.2.1 _ (OL hj)
    rw[Oq,Rz]; omega
   have eb:w.Bar=((w.Bar.toNat:Nat):Int):=r7
   have h3:=Bl n deaf g z3 i (w.Ears[i].Cues.any (fun c=>c.Bar==w.Bar)&&deaf.all (fun d=>d != (i:Int))) (dt w g (bu w deaf) w.Ears.length) (w.Ears.length:Int) (i:Int) (dt w g (bu w deaf) w.Ears.length) w z (oQ w g (bu w deaf) i) w.Bar.toNat eb r7 (by rw[dn]; exact hn) (by rw[dn]; exact hg) (by rw[dn]; exact hlt) (fun k hk hf' hgk=>by
    rw[dn] at hk
    have e1:(dt w g (bu w deaf) w.Ears.length)[k]=oQ w g (bu w deaf) k:=Option.some.inj ((N5 (by rw[dn]; exact hk)).symm.trans (hE k hk))
    rw[e1,hnew k hk]
    refine⟨hdid k hk,?_⟩
    show (w.Ears[k].Did++[B9 g (bu w deaf) w.Ears.length k])[w.Bar.toNat]? = some 0
    have hlen:=pQ hw.2.2.2.1 _ (OL hk)
    rw[OI r7,show w.Bar.toNat - w.Ears[k].Did.length=0 by omega]
    show some (B9 g (bu w deaf) w.Ears.length k)=some 0
    congr 1
    have hv:bu w deaf i=0:=by
     rw[vE hlt]
     cases hc:w.Ears[i].Cues with
     | nil=>rfl
     | cons c l=>
      rw[hc,Q8] at hf'
      show (bif (c.Bar==w.Bar)&&!decide ((i:Int)∈deaf) then c.Program else 0)=0
      cases hcb:(c.Bar==w.Bar) with
      | false=>rfl
      | true=>
       rw[hcb] at hf'
       simp only[Rf,ON] at hf'
       have:(i:Int)∈deaf:=by
        rw[List.all_eq_false] at hf'
        obtain ⟨d,hd,hdi⟩:=hf'
        have:d=(i:Int):=by simpa using hdi
        rw[<-this]; exact hd
       rw[Oc this]; rfl
    unfold B9
    rw[(ue g (bu w deaf) w.Ears.length).2 k hk,Qv]
    split
    ·rename_i hall
     rw[<-hall i hlt hgk]; exact hv
    ·rfl) (n+8) 0 (OC _) (by rw[dn]; omega)
   rw[show ((0:Nat):Int)=0 from rfl,dn] at h3
   have hlen:=hdid i hlt
   rw[show decide ((i:Int)<(w.Ears.length:Int))=true by simpa using hlt,N9,br,br,hE i hlt,N5 hlt]
   simp only[N4,h1,h2,hz]
   have hc1:((oQ w g (bu w deaf) i).Cues.length:Int)=((n4 w.Bar w.Ears[i].Cues).length:Int):=by rw[hnew i hlt]
   have hc2:((oQ w g (bu w deaf) i).Did.length:Int)=w.Bar+1:=by rw[hnew i hlt]; show ((w.Ears[i].Did++_).length:Int)=_; rw[hlen]; omega
   rw[hc1,hc2,ia r7 r7,Pb,N8,Pb]
   simp only[N4,N8]
   rw[dn,h3,rC r7]
   exact ih
  ·rw[show decide ((i:Int)<(w.Ears.length:Int))=false by simpa using hlt]; rfl
theorem yw {b:Nat}:∀ (l:List aG) (j:Nat) (x:bq) (e:Int),vY b j x l=.inl e->e≠0
 | [],_,_,_,h=>by cases h
 | y :: l,j,x,e,h=>by
  rw[vY] at h
  cases hb:((oX x j b ((y.Did[b]?).getD 0)).2 != 0) with
  | true=>rw[hb] at h; cases h; simpa using hb
  | false=>rw[hb] at h; exact yw l _ _ e h
theorem HH:D2:=by
 intro w deaf g hw hd hg
 unfold G5 F5
 rw[Lg,N4]
 simp only[Ow,N8]
 rcases NS w with h8 | ⟨h8,hf⟩
 ·rw[h8]; rfl
 ·rw[h8]
  simp only[N4,Ow,N8]
  by_cases h50:(50:Int)<w.Bar
  ·rw[Oc h50]; rfl
  ·by_cases h20:deaf.length<=20
   ·have d2:decide ((20:Int)<(deaf.length:Int))=false:=by rw[Pk]; omega
    rw[Ov h50,d2]
    simp only[N4,N8]
    rcases Lo g w.Ears.length (by have:=hf.2.2.1; omega) with ⟨h18,hok⟩ | h18
    ·have h:Lu w:=⟨hf,hw⟩
     rw[h18]
     simp only[N4,Ow,N8]
     rw[NR w deaf g h r7 (by rw[hok.1]; have:=hf.2.2.1; omega),N4]
     unfold wO
     cases hc:(qg w != 0) with
     | true=>simp only[N9,hc]; rfl
     | false=>
      have hok':=BC hc
      simp only[N8]
      cases oY (w.Ears.length:Int) (-1) deaf with
      | false=>rfl
      | true=>
       simp only[Ow,N8]
       rw[Og hok]
       cases (w.Bar==4096) with
       | true=>rfl
       | false=>
        simp only[N8]
        cases hx:vY w.Bar.toNat 0 w.Net (dt w g (bu w deaf) w.Ears.length) with
        | inl e=>
         simp only
         by_cases he:e=0
         ·exact absurd he (yw _ _ _ _ hx)
         ·rw[qc he]; rfl
        | inr x=>
         simp only[Pb,N8,dn]
         have h0:=Bi aE w ⟨x,dt w g (bu w deaf) w.Ears.length,w.Bar+1⟩ deaf g false hf hok' s9 r7 hok.1 rfl (aE+8) 0 (OC _) (by rw[fu]; have:=hok'.1.2; omega)
         rw[show ((0:Nat):Int)=0 from rfl] at h0
         rw[h0]; rfl
    ·rw[h18]; rfl
   ·have d2:decide ((20:Int)<(deaf.length:Int))=true:=by rw[P9]; omega
    rw[d2,Ov h50]; rfl
section
open Go.RowKit Go.Deep
theorem own:ownKnob Try.prog.godebug=none:=r8
theorem laidOut:laidOutB Try.prog=true:=r8
end
section
open Go.RowKit Go.ChangeShapes Go.WideShapes Go.ChangeAt Go.Deep
theorem ph (os:Os) (started:os.Started) (H:Type) (enc:TypeId×Value->H) :
  ReturnsInHanded {} Try.checked os 5 .any (Rows.wiresHoldSpec.pre6 enc Try.prog Try.f5 Rows.wiresHoldRow.domain false) (Rows.wiresHoldSpec.post enc Try.prog Try.f5 false true false false):=by
 refine returnsInHanded_of_change (C:=Try.checked) own started r8 Try.func5
  (ChangeSpec.witness6 (enc:=enc) (C:=Try.checked) false ⟨#[],#[.agg #[.slice none 0 0,.slice none 0 0,.slice none 0 0,.int .i64 0],.slice none 0 0,.slice none 0 0],[]⟩ 8 r8 r8 r8 r8) ?_
 intro W base args ds gs before hval hW _ _
 exact ua rfl rfl Try.underlying4 laidOut r8 (fun ds h=>(by match ds,h with | [_,_,_],_=>rfl)) W base args ds gs before hval hW (fun hg=>Ih HH W base args hg (fun G vs h=>by cases h))
theorem wiresHold_holds:Rows.WiresHoldSaid:=
 OpenClaim.holds_of_wide 5 Try.f5 rfl rfl rfl rfl rfl rfl rfl ⟨rfl,rfl,rfl,rfl,rfl⟩ rfl rfl rfl rfl rfl r8 Try.func5 r8
  (Oe r8) (by unfold Func.isWrapper; first | (rw[Og (by decide +kernel)]; kernel_rfl) | (rw[Oh (by decide +kernel)]; exact⟨rfl,rfl⟩))
  (fun os started H enc _=>ph os started H enc)
#print axioms wiresHold_holds
end
end Go.Proofs.Ytebkhfhcipnfgaa
