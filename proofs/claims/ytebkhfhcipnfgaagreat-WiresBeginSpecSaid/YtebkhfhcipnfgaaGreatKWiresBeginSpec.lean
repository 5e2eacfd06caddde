/-
 WiresBeginSpec: the statement holds.
-/
import Derived.Test.YtebkhfhcipnfgaaGreatTb2
import Derived.Test.YtebkhfhcipnfgaaGreatChecked
import Derived.Test.YtebkhfhcipnfgaaGreatRows
namespace Go.Proofs.YtebkhfhcipnfgaaGreat
set_option linter.unusedVariables false
set_option linter.unusedSimpArgs false
set_option maxHeartbeats 4000000
set_option maxRecDepth 100000
set_option linter.defProp false
theorem s5 {p:Prop} (h:p:=by rw[fu]; omega):p:=h
theorem XZ {p:Prop} (h:p:=by rw[B6]; simp; omega):p:=h
theorem X1 {p:Prop} (h:p:=by rw[e3]; simp):p:=h
theorem X6 {p:Prop} (h:p:=by rw[decide_eq_false_iff_not]; omega):p:=h
theorem X7 {p:Prop} (h:p:=by unfold dg; omega):p:=h
theorem Yb {p:Prop} (h:p:=by simp[gq]; omega):p:=h
theorem Yc {p:Prop} (h:p:=by rw[List.length_cons]; omega):p:=h
theorem Yd {p:Prop} (h:p:=by rw[List.drop_zero]; simp; omega):p:=h
def Y4:=@bne_self_eq_false
def Zn:=@decide_eq_false_iff_not
def ZI:=@Nat.lt_succ_iff_lt_or_eq
def Z2:=@BitVec.toNat_ofInt
def Z3:=@decide_eq_true_iff
def qae:=@List.not_mem_nil
def qaf:=@Bool.not_false
def qai:=@Nat.eq_or_lt_of_le
def qaj:=@List.forall_mem_cons
def qaN:=@Int.fdiv_eq_ediv_of_nonneg
def qaX:=@ite_congr
def qa3:=@Bool.and_eq_false_iff
def qbb:=@Nat.pow_le_pow_right
def qbf:=@Int.le_refl
def qbj:=@Nat.mul_assoc
def qbl:=@UInt8.ofNat_toNat
def qbu:=@List.length_drop
def qbG:=@Nat.mul_le_mul
def qbL:=@List.cons.inj
def qbM:=@List.any_cons
def qbQ:=@ByteArray.toList_eq
def qbT:=@Nat.pow_succ
def qbW:=@Nat.pow_add
section
open Go.Proofs.Tryz (prog)
theorem zI:eh ax:=fun x y h=>by
 unfold ax at h
 simp only[Y8,A.v.injEq,ZE,ZF,Zy,qaq,Z7] at h
 have h3:=sI x y (by simp[h])
 obtain ⟨xKind,xN,xS,lx⟩:=x; obtain ⟨yKind,yN,yS,ly⟩:=y
 simp_all
theorem dy:eh aq:=fun x y h=>by
 obtain ⟨xFrom,xTo,xData⟩:=x; obtain ⟨yFrom,yTo,yData⟩:=y
 simp only[aq,Y8,A.v.injEq,A.imm.injEq,ZE,ZF,Zy,qaq,Z7,map_inj (nD)] at h
 simp_all
theorem kJ:eh au:=fun x y h=>by
 obtain ⟨x0_,x1_⟩:=x; obtain ⟨y0_,y1_⟩:=y
 simp only[au,Y8,A.v.injEq,A.imm.injEq,ZE,ZF,Zy,qaq,Z7] at h
 simp_all
theorem kh:eh cz:=fun x y h=>by
 obtain ⟨xQueue,xApart⟩:=x; obtain ⟨yQueue,yApart⟩:=y
 simp only[cz,Y8,A.v.injEq,A.imm.injEq,ZE,ZF,Zy,qaq,Z7,map_inj (dy),map_inj (nD),map_inj (kJ)] at h
 simp_all
theorem nC:eh aI:=fun x y h=>by
 obtain ⟨xNo,xRole,xBar,xProgram⟩:=x; obtain ⟨yNo,yRole,yBar,yProgram⟩:=y
 simp only[aI,Y8,A.v.injEq,A.imm.injEq,ZE,ZF,Zy,qaq,Z7] at h
 simp_all
theorem pZ:eh aw:=fun x y h=>by
 obtain ⟨xCues,xGot,xDid⟩:=x; obtain ⟨yCues,yGot,yDid⟩:=y
 simp only[aw,Y8,A.v.injEq,A.imm.injEq,ZE,ZF,Zy,qaq,Z7,map_inj (nC),map_inj (gg .i64)] at h
 simp_all
theorem cV:eh ak:=fun x y h=>by
 obtain ⟨⟨xNetQueue,xNetApart⟩,xEars,xBar⟩:=x; obtain ⟨⟨yNetQueue,yNetApart⟩,yEars,yBar⟩:=y
 simp only[ak,Y8,A.v.injEq,A.imm.injEq,ZE,ZF,Zy,qaq,Z7,map_inj (dy),map_inj (nD),map_inj (kJ),map_inj (pZ),map_inj (nC),map_inj (gg .i64)] at h
 simp_all
theorem xU:eh aD:=fun x y h=>by
 obtain ⟨xRole,xBar,xProgram⟩:=x; obtain ⟨yRole,yBar,yProgram⟩:=y
 simp only[aD,Y8,A.v.injEq,A.imm.injEq,ZE,ZF,Zy,qaq,Z7] at h
 simp_all
theorem oY:eh az:=fun x y h=>by
 obtain ⟨xkind,⟨xcueNo,xcueRole,xcueBar,xcueProgram⟩,⟨xreportRole,xreportBar,xreportProgram⟩⟩:=x; obtain ⟨ykind,⟨ycueNo,ycueRole,ycueBar,ycueProgram⟩,⟨yreportRole,yreportBar,yreportProgram⟩⟩:=y
 simp only[az,Y8,A.v.injEq,A.imm.injEq,ZE,ZF,Zy,qaq,Z7] at h
 simp_all
theorem cW {T:Type} {c:T->List A} (h:eh c):eh (fun x=>A.agg (c x)):=fun x y e=>h x y (A.agg.inj e)
theorem eV {T:Type} {f:T->List A} (h:eh f):eh (fun l:List T=>A.imm (l.map f) false):=fun x y e=>(map_inj h x y).1 (A.imm.inj e).1
theorem dz (k:IntKind):eh (fun n=>A.v (.int k n)):=fun x y e=>by simpa using e
theorem c7 {X:Type} {f:X->A} (hf:eh f):eh (fun x=>[f x]):=fun x y e=>hf x y (qbL e).1
theorem eH {X Y:Type} {f:X->A} {g:Y->List A} (hf:eh f) (hg:eh g):eh (fun x:X×Y=>f x.1 :: g x.2):=fun x y e=>Prod.ext (hf _ _ (qbL e).1) (hg _ _ (qbL e).2)
theorem eP:eh al:=fun x y h=>zI x y (by rw[da,da]; exact h)
noncomputable def C0:Nat->List A->Option A:=fun _ _=>none
def bI (C:Nat->List A->Option A):Prop:=∀ (k:Nat) (args:List A) (r:A),C k args=some r->fm prog (cx C0).glob k args r
theorem SQ:bI C0:=fun k args r h=>(by cases h)
theorem gF {C:Nat->List A->Option A} {k:Nat} {c:List A->Option A} (h:bI C) (hc:∀ args r,c args=some r->fm prog (cx C0).glob k args r):bI (fw C k c):=fun j args r hr=>by
 simp only[fw] at hr
 rw[bF] at hr
 split at hr
 ·rename_i hj
  rw[Yy hj]; exact hc args r hr
 ·exact h j args r hr
theorem Kf {C:Nat->List A->Option A} (hC:bI C) (N k:Nat) (args:List A) (r:A) (h:Rd C N k args=some r):fm prog (cx C0).glob k args r:=by
 unfold Rd at h
 split at h
 ·rename_i x H he
  cases h
  exact pI (cx:=cx C) (fun k args r _ h=>hC k args r h) r8 he
 ·cases h
theorem I1:∀ m,bI (Cn m)
 | 0=>fun k args r h=>(by cases h)
 | m+1=>fun k args r h=>Kf (I1 m) 1000 k args r h
theorem bS {X Y:Type} {C:Nat->List A->Option A} {k:Nat} {x:X->List A} {G:X->Option Y} {f:Y->A} (hC:bI C) (h:∀ a,J (fun (o:R) y=>∃ v,o.1=.ret v/\br o.2 v=f y) (aG (cx C) (dH (cx C) (aA+8)) (bw (cx C) (aA+8)) (aA+8) k (x a) [] 0) some (G a) some):bI (fw C k fun args=>bG x (fun a=>(G a).map f) args):=gF hC fun args r h'=>by
 obtain ⟨a,y,rfl,hy,rfl⟩:=ed h'
 exact zZ (cx:=cx C) (fun k args r _ h=>hC k args r h) r8 (h a) hy
def Br (x:Int×Int×Int):List A:=[(iA x.1),(iA x.2.1),(iA x.2.2)]
theorem RU:eh Br:=eH (dz .i64) (eH (dz .i64) (c7 (dz .i64)))
noncomputable def Ul (args:List A):Option A:=bG Br (fun x=>(wM x.1 x.2.1 x.2.2).map fun y=>(bA y)) args
noncomputable def C1:Nat->List A->Option A:=fw C0 23 Ul
theorem KT:bI C1:=bS SQ fun x=>VG C0 aA  x.1 x.2.1 x.2.2
def Vd (x:Unit):List A:=[]
theorem R9:eh Vd:=fun _ _ _=>rfl
noncomputable def PE (args:List A):Option A:=bG Vd (fun x=>(QU ).map fun y=>(A.agg [(A.imm (List.map aq y.Queue) false),(A.imm (List.map au y.Apart) false)])) args
noncomputable def C2:Nat->List A->Option A:=fw C1 51 PE
theorem KU:bI C2:=bS KT fun x=>VW C1 aA
def HZ (x:Int):List A:=[(iA x)]
theorem RP:eh HZ:=c7 (dz .i64)
noncomputable def Uh (args:List A):Option A:=bG HZ (fun x=>(LH x).map fun y=>(A.tup [(A.agg (ak y.1)),(iA y.2)])) args
theorem Cc {C:Nat->List A->Option A} (h:∀ a,C 23 a=Ul a):mZ C:=fun a0 a1 a2=>(h _).trans (aP _ RU (a0,a1,a2))
theorem Tb {C:Nat->List A->Option A} (h:∀ a,C 51 a=PE a):IG C:=fun _=>(h _).trans (aP _ R9 ())
noncomputable def C3:Nat->List A->Option A:=fw C2 18 Uh
theorem KV:bI C3:=bS KU fun x=>VB C2 aA (Cc fun _=>r8) (Tb fun _=>r8) x
def Vn (x:Int×Int):List A:=[(iA x.1),(iA x.2)]
theorem Sp:eh Vn:=eH (dz .i64) (c7 (dz .i64))
noncomputable def UG (args:List A):Option A:=bG Vn (fun x=>(Pv x.1 x.2).map fun y=>(A.agg [(iA y.1),(iA y.2)])) args
noncomputable def C4:Nat->List A->Option A:=fw C3 70 UG
theorem KW:bI C4:=bS KV fun x=>Wc C3 aA  x.1 x.2
def Bu (x:(Int×Int)):List A:=[(A.agg (au x))]
theorem Sw:eh Bu:=c7 (cW (kJ))
noncomputable def PJ (args:List A):Option A:=bG Bu (fun x=>(Ln x).map fun y=>(bA y)) args
noncomputable def C5:Nat->List A->Option A:=fw C4 84 PJ
theorem KX:bI C5:=bS KW fun x=>Wi C4 aA  x
def Vq (x:ay):List A:=[(A.agg (aq x))]
theorem Ss:eh Vq:=c7 (cW (dy))
noncomputable def UJ (args:List A):Option A:=bG Vq (fun x=>(Lm x).map fun y=>(bA y)) args
theorem Tl {C:Nat->List A->Option A} (h:∀ a,C 70 a=UG a):IL C:=fun a0 a1=>(h _).trans (aP _ Sp (a0,a1))
theorem N7 {C:Nat->List A->Option A} (h:∀ a,C 84 a=PJ a):Aw C:=fun a0=>(h _).trans (aP _ Sw a0)
noncomputable def C6:Nat->List A->Option A:=fw C5 80 UJ
theorem KY:bI C6:=bS KX fun x=>Wf C5 aA (Tl fun _=>r8) (N7 fun _=>r8) x
def Bt (x:ay):List A:=[(A.agg (aq x))]
theorem Sv:eh Bt:=c7 (cW (dy))
noncomputable def UL (args:List A):Option A:=bG Bt (fun x=>(L3 x).map fun y=>(bA y)) args
theorem N6 {C:Nat->List A->Option A} (h:∀ a,C 80 a=UJ a):CV C:=fun a0=>(h _).trans (aP _ Ss a0)
noncomputable def C7:Nat->List A->Option A:=fw C6 83 UL
theorem KZ:bI C7:=bS KY fun x=>Wh C6 aA (N6 fun _=>r8) x
def Ar (x:(List ay)):List A:=[(A.imm (List.map aq x) false),(A.fn (Fn.func 83) [] [])]
theorem Gp:eh Ar:=fun x y h=>by
 simp only[Ar,Ue,map_inj (dy),map_inj (nD)] at h
 exact h
noncomputable def EY (args:List A):Option A:=bG Ar (fun x=>(ve x).map fun y=>(iA y)) args
theorem Tp {C:Nat->List A->Option A} (h:∀ a,C 83 a=UL a):CW C:=fun a0=>(h _).trans (aP _ Sv a0)
noncomputable def C8:Nat->List A->Option A:=fw C7 99 EY
theorem K0:bI C8:=bS KZ fun x=>J6 C7 aA (Tp fun _=>r8) x
def Aq (x:(List ay)):List A:=[(A.imm (List.map aq x) false),(A.fn (Fn.func 83) [] [])]
theorem Gn:eh Aq:=fun x y h=>by
 simp only[Aq,Ue,map_inj (dy),map_inj (nD)] at h
 exact h
noncomputable def EX (args:List A):Option A:=bG Aq (fun x=>(rD x).map fun y=>(bA y)) args
theorem HO {C:Nat->List A->Option A} (h:∀ a,C 99 a=EY a):wQ C:=fun a0=>(h _).trans (aP _ Gp a0)
noncomputable def C9:Nat->List A->Option A:=fw C8 82 EX
theorem K1:bI C9:=bS K0 fun x=>J1 C8 aA (HO fun _=>r8) x
def OG (x:Int):List A:=[(iA x)]
theorem M9:eh OG:=c7 (dz .i64)
noncomputable def Gz (args:List A):Option A:=bG OG (fun x=>(wL x).map fun y=>(bA y)) args
noncomputable def PO:Nat->List A->Option A:=fw C9 116 Gz
theorem GD:bI PO:=bS K1 fun x=>Q1 C9 aA  x
def rC (x:bh):List A:=[(A.agg (cz x))]
theorem Sd:eh rC:=c7 (cW (kh))
noncomputable def Ux (args:List A):Option A:=bG rC (fun x=>(Li x).map fun y=>(iA y)) args
theorem NW {C:Nat->List A->Option A} (h:∀ a,C 116 a=Gz a):vg C:=fun a0=>(h _).trans (aP _ M9 a0)
theorem HN {C:Nat->List A->Option A} (h:∀ a,C 82 a=EX a):wP C:=fun a0=>(h _).trans (aP _ Gn a0)
noncomputable def PQ:Nat->List A->Option A:=fw PO 55 Ux
theorem GF:bI PQ:=bS GD fun x=>V0 PO aA (NW fun _=>r8) (HN fun _=>r8) (N7 fun _=>r8) x
def Ve (x:bL×Int):List A:=[(A.agg (aI x.1)),(iA x.2)]
theorem Sa:eh Ve:=eH (cW (nC)) (c7 (dz .i64))
noncomputable def Uv (args:List A):Option A:=bG Ve (fun x=>(JO x.1 x.2).map fun y=>(bA y)) args
noncomputable def PR:Nat->List A->Option A:=fw PQ 52 Uv
theorem GG:bI PR:=bS GF fun x=>VX PQ aA (Cc fun _=>r8) x.1 x.2
def yH (x:aN×Int×Int×Int):List A:=[(A.agg (aw x.1)),(iA x.2.1),(iA x.2.2.1),(iA x.2.2.2)]
theorem Se:eh yH:=eH (cW (pZ)) (eH (dz .i64) (eH (dz .i64) (c7 (dz .i64))))
noncomputable def Uy (args:List A):Option A:=bG yH (fun x=>(LR x.1 x.2.1 x.2.2.1 x.2.2.2).map fun y=>(bA y)) args
theorem K5 {C:Nat->List A->Option A} (h:∀ a,C 52 a=Uv a):uf C:=fun a0 a1=>(h _).trans (aP _ Sa (a0,a1))
noncomputable def PS:Nat->List A->Option A:=fw PR 56 Uy
theorem GH:bI PS:=bS GG fun x=>V1 PR aA (Cc fun _=>r8) (K5 fun _=>r8) x.1 x.2.1 x.2.2.1 x.2.2.2
def OD (x:Int):List A:=[(A.v (.int .u64 x))]
theorem M7:eh OD:=c7 (dz .u64)
noncomputable def Nv (args:List A):Option A:=bG OD (fun x=>(Ct x).map fun y=>(iA y)) args
noncomputable def PU:Nat->List A->Option A:=fw PS 105 Nv
theorem GI:bI PU:=bS GH fun x=>QY PS aA  x
def Vo (x:(List UInt8)):List A:=[(A.imm (List.map c8 x) false)]
theorem Sq:eh Vo:=c7 (eV (nD))
noncomputable def UH (args:List A):Option A:=bG Vo (fun x=>(L0 x).map fun y=>(A.tup [(A.agg (al y.1)),(iA y.2)])) args
theorem NT {C:Nat->List A->Option A} (h:∀ a,C 105 a=Nv a):vf C:=fun a0=>(h _).trans (aP _ M7 a0)
noncomputable def PV:Nat->List A->Option A:=fw PU 72 UH
theorem GJ:bI PV:=bS GI fun x=>Wd PU aA (NT fun _=>r8) x
def Lc (x:(List UInt8)):List A:=[(A.imm (List.map c8 x) false)]
theorem R6:eh Lc:=c7 (eV (nD))
noncomputable def Ut (args:List A):Option A:=bG Lc (fun x=>(LO x).map fun y=>(A.tup [(A.agg (az y.1)),(bA y.2)])) args
theorem Tm {C:Nat->List A->Option A} (h:∀ a,C 72 a=UH a):IM C:=fun a0=>(h _).trans (aP _ Sq a0)
noncomputable def PW:Nat->List A->Option A:=fw PV 37 Ut
theorem GK:bI PW:=bS GJ fun x=>VT PV aA (Tm fun _=>r8) x
def U7 (x:av):List A:=[(A.agg (ak x))]
theorem RR:eh U7:=c7 (cW (cV))
noncomputable def Uj (args:List A):Option A:=bG U7 (fun x=>(FL x).map fun y=>(iA y)) args
theorem S8 {C:Nat->List A->Option A} (h:∀ a,C 37 a=Ut a):CM C:=fun a0=>(h _).trans (aP _ R6 a0)
theorem N3 {C:Nat->List A->Option A} (h:∀ a,C 55 a=Ux a):CN C:=fun a0=>(h _).trans (aP _ Sd a0)
theorem Tc {C:Nat->List A->Option A} (h:∀ a,C 56 a=Uy a):CO C:=fun a0 a1 a2 a3=>(h _).trans (aP _ Se (a0,a1,a2,a3))
noncomputable def PX:Nat->List A->Option A:=fw PW 20 Uj
theorem A7:bI PX:=bS GK fun x=>VD PW aA (Cc fun _=>r8) (S8 fun _=>r8) (K5 fun _=>r8) (N3 fun _=>r8) (Tc fun _=>r8) x
def HW (x:ar):List A:=[(A.agg (al x))]
theorem Jb:eh HW:=c7 (cW eP)
noncomputable def KM (args:List A):Option A:=bG HW (fun x=>(FI x).map fun y=>(A.tup [(iA y.1),(bA y.2)])) args
noncomputable def ET (q:Nat) (args:List A):Option A:=bG HW (fun x=>(wS q x).map fun y=>(A.tup [(iA y.1),(bA y.2)])) args
noncomputable def u0 (q:Nat):Nat->List A->Option A:=fw PX 110 (ET q)
theorem Ty (q:Nat):vi (u0 q) (wS q):=fun a0=>(by kernel_rfl:_=ET q (HW a0)).trans (aP _ Jb a0)
theorem E2:∀ (q:Nat) (args:List A) (r:A) (h:ET q args=some r),fm prog (cx C0).glob 110 args r
 | 0,args,r,h=>by
  obtain ⟨x,y,rfl,hy,rfl⟩:=ed h
  cases hy
 | q+1,args,r,h=>by
  obtain ⟨x,y,rfl,hy,rfl⟩:=ed h
  exact zZ (f:=fun (y:(Int×Bool))=>(A.tup [(iA y.1),(bA y.2)])) (cx:=cx (u0 q)) (fun k args r _ h=>gF A7 (E2 q) k args r h) r8 (QZ (u0 q) aA  (wS q) (Ty q) x) hy
theorem Nx (args:List A) (r:A) (h:KM args=some r):fm prog (cx C0).glob 110 args r:=E2 aA args r h
noncomputable def PY:Nat->List A->Option A:=fw PX 110 KM
theorem GL:bI PY:=gF A7 Nx
def Vy (x:ar):List A:=[(A.agg (al x))]
theorem SD:eh Vy:=c7 (cW eP)
noncomputable def PK (args:List A):Option A:=bG Vy (fun x=>(L6 x).map fun y=>(iA y)) args
theorem NU {C:Nat->List A->Option A} (h:∀ a,C 110 a=KM a):Cz C:=fun a0=>(h _).trans (aP _ Jb a0)
noncomputable def PZ:Nat->List A->Option A:=fw PY 97 PK
theorem GM:bI PZ:=bS GL fun x=>Wp PY aA (NU fun _=>r8) x
def OE (x:Int):List A:=[(iA x)]
theorem M8:eh OE:=c7 (dz .i64)
noncomputable def Gy (args:List A):Option A:=bG OE (fun x=>(yO x).map fun y=>(A.v (.int .u64 y))) args
noncomputable def P0:Nat->List A->Option A:=fw PZ 113 Gy
theorem GN:bI P0:=bS GM fun x=>Q0 PZ aA  x
def Vr (x:ar):List A:=[(A.agg (al x))]
theorem Su:eh Vr:=c7 (cW eP)
noncomputable def UK (args:List A):Option A:=bG Vr (fun x=>(JR x).map fun y=>(A.tup [(A.imm (List.map c8 y.1) false),(iA y.2)])) args
theorem NV {C:Nat->List A->Option A} (h:∀ a,C 113 a=Gy a):qh C:=fun a0=>(h _).trans (aP _ M8 a0)
theorem Tv {C:Nat->List A->Option A} (h:∀ a,C 97 a=PK a):IV C:=fun a0=>(h _).trans (aP _ SD a0)
noncomputable def P1:Nat->List A->Option A:=fw P0 81 UK
theorem GO:bI P1:=bS GN fun x=>Wg P0 aA (NV fun _=>r8) (Tv fun _=>r8) x
def yK (x:aU):List A:=[(A.agg (az x))]
theorem Sc:eh yK:=c7 (cW (oY))
noncomputable def PF (args:List A):Option A:=bG yK (fun x=>(JQ x).map fun y=>(A.imm (List.map c8 y) false)) args
theorem Tn {C:Nat->List A->Option A} (h:∀ a,C 81 a=UK a):IP C:=fun a0=>(h _).trans (aP _ Su a0)
noncomputable def P2:Nat->List A->Option A:=fw P1 54 PF
theorem GP:bI P2:=bS GO fun x=>VZ P1 aA (Tn fun _=>r8) x
def Ij (x:bh×ay):List A:=[(A.agg (cz x.1)),(A.agg (aq x.2))]
theorem Sb:eh Ij:=eH (cW (kh)) (c7 (cW (dy)))
noncomputable def Uw (args:List A):Option A:=bG Ij (fun x=>(JP x.1 x.2).map fun y=>(A.tup [(A.agg [(A.imm (List.map aq y.1.Queue) false),(A.imm (List.map au y.1.Apart) false)]),(iA y.2)])) args
noncomputable def P3:Nat->List A->Option A:=fw P2 53 Uw
theorem GQ:bI P3:=bS GP fun x=>VY P2 aA (N3 fun _=>r8) (N6 fun _=>r8) x.1 x.2
def Ia (x:av×bL):List A:=[(A.agg (ak x.1)),(A.agg (aI x.2))]
theorem RQ:eh Ia:=eH (cW (cV)) (c7 (cW (nC)))
noncomputable def Ui (args:List A):Option A:=bG Ia (fun x=>(Le x.1 x.2).map fun y=>(A.tup [(A.agg (ak y.1)),(iA y.2)])) args
theorem HL {C:Nat->List A->Option A} (h:∀ a,C 20 a=Uj a):wN C:=fun a0=>(h _).trans (aP _ RR a0)
theorem K6 {C:Nat->List A->Option A} (h:∀ a,C 53 a=Uw a):qT C:=fun a0 a1=>(h _).trans (aP _ Sb (a0,a1))
theorem K7 {C:Nat->List A->Option A} (h:∀ a,C 54 a=PF a):qU C:=fun a0=>(h _).trans (aP _ Sc a0)
noncomputable def P4:Nat->List A->Option A:=fw P3 19 Ui
theorem GR:bI P4:=bS GQ fun x=>VC P3 aA (HL fun _=>r8) (K5 fun _=>r8) (K6 fun _=>r8) (K7 fun _=>r8) x.1 x.2
def Ib (x:av×Int×(List Int)):List A:=[(A.agg (ak x.1)),(iA x.2.1),(A.imm (List.map (cI .i64) x.2.2) false)]
theorem RX:eh Ib:=eH (cW (cV)) (eH (dz .i64) (c7 (eV (gg .i64))))
noncomputable def Un (args:List A):Option A:=bG Ib (fun x=>(Lf x.1 x.2.1 x.2.2).map fun y=>(A.fn (Fn.func 59) [] [(A.ip [(A.imm (List.map (cI .i64) y.1) false)]),(A.ip (ak y.2.1)),(A.ip [(iA y.2.2)])])) args
noncomputable def P5:Nat->List A->Option A:=fw P4 27 Un
theorem GS:bI P5:=bS GR fun x=>VJ P4 aA  x.1 x.2.1 x.2.2
def x9 (x:av×Int):List A:=[(A.agg (ak x.1)),(iA x.2)]
theorem XG:eh x9:=eH (cW (cV)) (c7 (dz .i64))
noncomputable def o9 (args:List A):Option A:=bG x9 (fun x=>(G9 x.1 x.2).map fun y=>(A.tup [(A.agg (ak y.1)),(iA y.2)])) args
theorem N0 {C:Nat->List A->Option A} (h:∀ a,C 27 a=Un a):CH C:=fun a0 a1 a2=>(h _).trans (aP _ RX (a0,a1,a2))
noncomputable def P6:Nat->List A->Option A:=fw P5 9 o9
theorem GU:bI P6:=bS GS fun x=>T9 P5 aA (HL fun _=>r8) (Cc fun _=>r8) (N0 fun _=>r8) (K6 fun _=>r8) (K7 fun _=>r8) x.1 x.2
def Ik (x:(List Int)×Int):List A:=[(A.imm (List.map (cI .i64) x.1) false),(iA x.2)]
theorem Sg:eh Ik:=eH (eV (gg .i64)) (c7 (dz .i64))
noncomputable def UA (args:List A):Option A:=bG Ik (fun x=>(Pu x.1 x.2).map fun y=>(iA y)) args
noncomputable def P7:Nat->List A->Option A:=fw P6 58 UA
theorem GV:bI P7:=bS GU fun x=>V3 P6 aA  x.1 x.2
def U8 (x:(List Int)×Int):List A:=[(A.imm (List.map (cI .i64) x.1) false),(iA x.2)]
theorem RV:eh U8:=eH (eV (gg .i64)) (c7 (dz .i64))
noncomputable def PA (args:List A):Option A:=bG U8 (fun x=>(LJ x.1 x.2).map fun y=>(bA y)) args
theorem Te {C:Nat->List A->Option A} (h:∀ a,C 58 a=UA a):IH C:=fun a0 a1=>(h _).trans (aP _ Sg (a0,a1))
noncomputable def P8:Nat->List A->Option A:=fw P7 24 PA
theorem GW:bI P8:=bS GV fun x=>VH P7 aA (Te fun _=>r8) x.1 x.2
def U9 (x:(List Int)×Int):List A:=[(A.imm (List.map (cI .i64) x.1) false),(iA x.2)]
theorem RW:eh U9:=eH (eV (gg .i64)) (c7 (dz .i64))
noncomputable def Um (args:List A):Option A:=bG U9 (fun x=>(Il x.1 x.2).map fun y=>(A.imm (List.map (cI .i64) y) false)) args
noncomputable def P9:Nat->List A->Option A:=fw P8 25 Um
theorem GX:bI P9:=bS GW fun x=>VI P8 aA  x.1 x.2
def x7 (x:av×(List Int)×(List Int)):List A:=[(A.agg (ak x.1)),(A.imm (List.map (cI .i64) x.2.1) false),(A.imm (List.map (cI .i64) x.2.2) false)]
theorem XE:eh x7:=eH (cW (cV)) (eH (eV (gg .i64)) (c7 (eV (gg .i64))))
noncomputable def o7 (args:List A):Option A:=bG x7 (fun x=>(G7 x.1 x.2.1 x.2.2).map fun y=>(A.tup [(A.agg (ak y.1)),(iA y.2)])) args
theorem S0 {C:Nat->List A->Option A} (h:∀ a,C 24 a=PA a):CF C:=fun a0 a1=>(h _).trans (aP _ RV (a0,a1))
theorem S1 {C:Nat->List A->Option A} (h:∀ a,C 25 a=Um a):CG C:=fun a0 a1=>(h _).trans (aP _ RW (a0,a1))
noncomputable def TZ:Nat->List A->Option A:=fw P9 7 o7
theorem GY:bI TZ:=bS GX fun x=>T7 P9 aA (HL fun _=>r8) (Cc fun _=>r8) (S0 fun _=>r8) (S1 fun _=>r8) (N0 fun _=>r8) (K6 fun _=>r8) (K7 fun _=>r8) x.1 x.2.1 x.2.2
def n5 (x:av×Int):List A:=[(A.agg (ak x.1)),(iA x.2)]
theorem RO:eh n5:=eH (cW (cV)) (c7 (dz .i64))
noncomputable def SO (args:List A):Option A:=bG n5 (fun x=>(JM x.1 x.2).map fun y=>(A.tup [(A.agg (ak y.1)),(A.agg (aD y.2.1)),(bA y.2.2.1),(iA y.2.2.2)])) args
theorem RF:∀ e∈On,Cn 24 12 (n5 e.1)=(fun (y:(av×bj×Bool×Int))=>some (A.tup [(A.agg (ak y.1)),(A.agg (aD y.2.1)),(bA y.2.2.1),(iA y.2.2.2)])) e.2:=qaj.2 ⟨MV,qaj.2 ⟨MW,qaj.2 ⟨MX,qaj.2 ⟨MY,qaj.2 ⟨MZ,fun _ h=>absurd h qae⟩⟩⟩⟩⟩
theorem SP (args:List A) (r:A) (h:SO args=some r):fm prog (cx C0).glob 12 args r:=by
 obtain ⟨x,y,rfl,hy,rfl⟩:=ed h
 exact I1 24 12 _ _ (RF (x,y) (yE hy))
noncomputable def Qa:Nat->List A->Option A:=fw TZ 12 SO
theorem GZ:bI Qa:=gF GY SP
def yL (x:(List Int)×(List Int)):List A:=[(A.imm (List.map (cI .i64) x.1) false),(A.imm (List.map (cI .i64) x.2) false)]
theorem Sf:eh yL:=eH (eV (gg .i64)) (c7 (eV (gg .i64)))
noncomputable def Uz (args:List A):Option A:=bG yL (fun x=>(Lj x.1 x.2).map fun y=>(bA y)) args
noncomputable def Qb:Nat->List A->Option A:=fw Qa 57 Uz
theorem G1:bI Qb:=bS GZ fun x=>V2 Qa aA  x.1 x.2
def Cg (x:(List aN)×(List aN)):List A:=[(A.imm (List.map aw x.1) false),(A.imm (List.map aw x.2) false)]
theorem RS:eh Cg:=eH (eV (pZ)) (c7 (eV (pZ)))
noncomputable def Uk (args:List A):Option A:=bG Cg (fun x=>(FM x.1 x.2).map fun y=>(bA y)) args
theorem Td {C:Nat->List A->Option A} (h:∀ a,C 57 a=Uz a):CP C:=fun a0 a1=>(h _).trans (aP _ Sf (a0,a1))
noncomputable def Qc:Nat->List A->Option A:=fw Qb 21 Uk
theorem G2:bI Qc:=bS G1 fun x=>VE Qb aA (Td fun _=>r8) x.1 x.2
def x5 (x:Unit):List A:=[]
theorem XC:eh x5:=fun _ _ _=>rfl
noncomputable def o5 (args:List A):Option A:=bG x5 (fun x=>(G5 ).map fun y=>(bA y)) args
theorem SW {C:Nat->List A->Option A} (h:∀ a,C 12 a=SO a):Iw C:=fun a0 a1=>(h _).trans (aP _ RO (a0,a1))
theorem SX {C:Nat->List A->Option A} (h:∀ a,C 18 a=Uh a):Ix C:=fun a0=>(h _).trans (aP _ RP a0)
theorem SY {C:Nat->List A->Option A} (h:∀ a,C 19 a=Ui a):Iy C:=fun a0 a1=>(h _).trans (aP _ RQ (a0,a1))
theorem NZ {C:Nat->List A->Option A} (h:∀ a,C 21 a=Uk a):CE C:=fun a0 a1=>(h _).trans (aP _ RS (a0,a1))
theorem U2 {C:Nat->List A->Option A} (h:∀ a,C 7 a=o7 a):JU C:=fun a0 a1 a2=>(h _).trans (aP _ XE (a0,a1,a2))
theorem U3 {C:Nat->List A->Option A} (h:∀ a,C 9 a=o9 a):JV C:=fun a0 a1=>(h _).trans (aP _ XG (a0,a1))
noncomputable def Qd:Nat->List A->Option A:=fw Qc 5 o5
theorem G4:bI Qd:=bS G2 fun x=>T5 Qc aA (SW fun _=>r8) (SX fun _=>r8) (SY fun _=>r8) (HL fun _=>r8) (NZ fun _=>r8) (U2 fun _=>r8) (U3 fun _=>r8)
def Ch (x:bh):List A:=[(A.agg (cz x))]
theorem RT:eh Ch:=c7 (cW (kh))
noncomputable def Pz (args:List A):Option A:=bG Ch (fun x=>(LI x).map fun y=>(bA y)) args
noncomputable def Qe:Nat->List A->Option A:=fw Qd 22 Pz
theorem Ha:bI Qe:=bS G4 fun x=>VF Qd aA  x
def x6 (x:av):List A:=[(A.agg (ak x))]
theorem XD:eh x6:=c7 (cW (cV))
noncomputable def o6 (args:List A):Option A:=bG x6 (fun x=>(G6 x).map fun y=>(bA y)) args
theorem SZ {C:Nat->List A->Option A} (h:∀ a,C 22 a=Pz a):Iz C:=fun a0=>(h _).trans (aP _ RT a0)
noncomputable def Qf:Nat->List A->Option A:=fw Qe 6 o6
theorem Hb:bI Qf:=bS Ha fun x=>T6 Qe aA (SZ fun _=>r8) x
def Vf (x:Int×Int×Int):List A:=[(iA x.1),(iA x.2.1),(iA x.2.2)]
theorem Sh:eh Vf:=eH (dz .i64) (eH (dz .i64) (c7 (dz .i64)))
noncomputable def PG (args:List A):Option A:=bG Vf (fun x=>(Cj x.1 x.2.1 x.2.2).map fun y=>(bA y)) args
noncomputable def Qg:Nat->List A->Option A:=fw Qf 60 PG
theorem Hc:bI Qg:=bS Hb fun x=>V4 Qf aA  x.1 x.2.1 x.2.2
def Vt (x:Int):List A:=[(iA x)]
theorem Sy:eh Vt:=c7 (dz .i64)
noncomputable def UN (args:List A):Option A:=bG Vt (fun x=>(Ip x).map fun y=>(bA y)) args
noncomputable def Qh:Nat->List A->Option A:=fw Qg 87 UN
theorem Hd:bI Qh:=bS Hc fun x=>Wk Qg aA  x
def Vs (x:ay):List A:=[(A.agg (aq x))]
theorem Sx:eh Vs:=c7 (cW (dy))
noncomputable def UM (args:List A):Option A:=bG Vs (fun x=>(Lo x).map fun y=>(bA y)) args
theorem N9 {C:Nat->List A->Option A} (h:∀ a,C 87 a=UN a):Ay C:=fun a0=>(h _).trans (aP _ Sy a0)
noncomputable def Qi:Nat->List A->Option A:=fw Qh 86 UM
theorem He:bI Qi:=bS Hd fun x=>Wj Qh aA (N9 fun _=>r8) x
def Vg (x:bh):List A:=[(A.agg (cz x))]
theorem Si:eh Vg:=c7 (cW (kh))
noncomputable def UB (args:List A):Option A:=bG Vg (fun x=>(Lk x).map fun y=>(iA y)) args
theorem N8 {C:Nat->List A->Option A} (h:∀ a,C 86 a=UM a):Ax C:=fun a0=>(h _).trans (aP _ Sx a0)
noncomputable def Qj:Nat->List A->Option A:=fw Qi 61 UB
theorem Hf:bI Qj:=bS He fun x=>V5 Qi aA (N8 fun _=>r8) (N9 fun _=>r8) x
def Vu (x:bL×Int):List A:=[(A.agg (aI x.1)),(iA x.2)]
theorem Sz:eh Vu:=eH (cW (nC)) (c7 (dz .i64))
noncomputable def UO (args:List A):Option A:=bG Vu (fun x=>(Lp x.1 x.2).map fun y=>(bA y)) args
theorem HM {C:Nat->List A->Option A} (h:∀ a,C 60 a=PG a):ug C:=fun a0 a1 a2=>(h _).trans (aP _ Sh (a0,a1,a2))
noncomputable def Qk:Nat->List A->Option A:=fw Qj 88 UO
theorem Hg:bI Qk:=bS Hf fun x=>Wl Qj aA (HM fun _=>r8) x.1 x.2
def Vh (x:av×Int):List A:=[(A.agg (ak x.1)),(iA x.2)]
theorem Sj:eh Vh:=eH (cW (cV)) (c7 (dz .i64))
noncomputable def PH (args:List A):Option A:=bG Vh (fun x=>(LS x.1 x.2).map fun y=>(bA y)) args
theorem Oa {C:Nat->List A->Option A} (h:∀ a,C 88 a=UO a):Az C:=fun a0 a1=>(h _).trans (aP _ Sz (a0,a1))
noncomputable def Ql:Nat->List A->Option A:=fw Qk 62 PH
theorem A8:bI Ql:=bS Hg fun x=>V6 Qk aA (HM fun _=>r8) (Oa fun _=>r8) x.1 x.2
def HX (x:ar):List A:=[(A.agg (al x))]
theorem Jc:eh HX:=c7 (cW eP)
noncomputable def KN (args:List A):Option A:=bG HX (fun x=>(FJ x).map fun y=>(bA y)) args
noncomputable def EU (q:Nat) (args:List A):Option A:=bG HX (fun x=>(wT q x).map fun y=>(bA y)) args
noncomputable def u1 (q:Nat):Nat->List A->Option A:=fw Ql 117 (EU q)
theorem Tz (q:Nat):vj (u1 q) (wT q):=fun a0=>(by kernel_rfl:_=EU q (HX a0)).trans (aP _ Jc a0)
theorem E3:∀ (q:Nat) (args:List A) (r:A) (h:EU q args=some r),fm prog (cx C0).glob 117 args r
 | 0,args,r,h=>by
  obtain ⟨x,y,rfl,hy,rfl⟩:=ed h
  cases hy
 | q+1,args,r,h=>by
  obtain ⟨x,y,rfl,hy,rfl⟩:=ed h
  exact zZ (f:=fun (y:Bool)=>(bA y)) (cx:=cx (u1 q)) (fun k args r _ h=>gF A8 (E3 q) k args r h) r8 (Q2 (u1 q) aA  (wT q) (Tz q) x) hy
theorem Ny (args:List A) (r:A) (h:KN args=some r):fm prog (cx C0).glob 117 args r:=E3 aA args r h
noncomputable def Qm:Nat->List A->Option A:=fw Ql 117 KN
theorem A9:bI Qm:=gF A8 Ny
def HY (x:ar):List A:=[(A.agg (al x))]
theorem Jd:eh HY:=c7 (cW eP)
noncomputable def KO (args:List A):Option A:=bG HY (fun x=>(FK x).map fun y=>(iA y)) args
noncomputable def EV (q:Nat) (args:List A):Option A:=bG HY (fun x=>(wU q x).map fun y=>(iA y)) args
noncomputable def va (q:Nat):Nat->List A->Option A:=fw Qm 118 (EV q)
theorem TA (q:Nat):vk (va q) (wU q):=fun a0=>(by kernel_rfl:_=EV q (HY a0)).trans (aP _ Jd a0)
theorem E4:∀ (q:Nat) (args:List A) (r:A) (h:EV q args=some r),fm prog (cx C0).glob 118 args r
 | 0,args,r,h=>by
  obtain ⟨x,y,rfl,hy,rfl⟩:=ed h
  cases hy
 | q+1,args,r,h=>by
  obtain ⟨x,y,rfl,hy,rfl⟩:=ed h
  exact zZ (f:=fun (y:Int)=>(iA y)) (cx:=cx (va q)) (fun k args r _ h=>gF A9 (E4 q) k args r h) r8 (Q3 (va q) aA  (wU q) (TA q) x) hy
theorem Nz (args:List A) (r:A) (h:KO args=some r):fm prog (cx C0).glob 118 args r:=E4 aA args r h
noncomputable def Qn:Nat->List A->Option A:=fw Qm 118 KO
theorem Hh:bI Qn:=gF A9 Nz
def OB (x:ar):List A:=[(A.agg (al x))]
theorem M5:eh OB:=c7 (cW eP)
noncomputable def Nt (args:List A):Option A:=bG OB (fun x=>(Bw x).map fun y=>(iA y)) args
theorem NX {C:Nat->List A->Option A} (h:∀ a,C 117 a=KN a):CA C:=fun a0=>(h _).trans (aP _ Jc a0)
theorem NY {C:Nat->List A->Option A} (h:∀ a,C 118 a=KO a):CB C:=fun a0=>(h _).trans (aP _ Jd a0)
noncomputable def Qo:Nat->List A->Option A:=fw Qn 101 Nt
theorem Hi:bI Qo:=bS Hh fun x=>QV Qn aA (NX fun _=>r8) (NY fun _=>r8) x
def Lb (x:Int):List A:=[(iA x)]
theorem Na:eh Lb:=c7 (dz .i64)
noncomputable def GA (args:List A):Option A:=bG Lb (fun x=>(Cu x).map fun y=>(A.v (.int .u64 y))) args
noncomputable def Qp:Nat->List A->Option A:=fw Qo 120 GA
theorem Ba:bI Qp:=bS Hi fun x=>Q5 Qo aA  x
def Fu (x:Int):List A:=[(A.v (.int .u64 x))]
theorem Je:eh Fu:=c7 (dz .u64)
noncomputable def KP (args:List A):Option A:=bG Fu (fun x=>(Bx x).map fun y=>(A.imm (List.map c8 y) false)) args
noncomputable def EW (q:Nat) (args:List A):Option A:=bG Fu (fun x=>(wV q x).map fun y=>(A.imm (List.map c8 y) false)) args
noncomputable def vb (q:Nat):Nat->List A->Option A:=fw Qp 119 (EW q)
theorem TB (q:Nat):AA (vb q) (wV q):=fun a0=>(by kernel_rfl:_=EW q (Fu a0)).trans (aP _ Je a0)
theorem E5:∀ (q:Nat) (args:List A) (r:A) (h:EW q args=some r),fm prog (cx C0).glob 119 args r
 | 0,args,r,h=>by
  obtain ⟨x,y,rfl,hy,rfl⟩:=ed h
  cases hy
 | q+1,args,r,h=>by
  obtain ⟨x,y,rfl,hy,rfl⟩:=ed h
  exact zZ (f:=fun (y:(List UInt8))=>(A.imm (List.map c8 y) false)) (cx:=cx (vb q)) (fun k args r _ h=>gF Ba (E5 q) k args r h) r8 (Q4 (vb q) aA  (wV q) (TB q) x) hy
theorem NA (args:List A) (r:A) (h:KP args=some r):fm prog (cx C0).glob 119 args r:=E5 aA args r h
noncomputable def Qq:Nat->List A->Option A:=fw Qp 119 KP
theorem Bb:bI Qq:=gF Ba NA
def HV (x:ar):List A:=[(A.agg (al x))]
theorem Ja:eh HV:=c7 (cW eP)
noncomputable def KL (args:List A):Option A:=bG HV (fun x=>(Cs x).map fun y=>(A.imm (List.map c8 y) false)) args
noncomputable def ES (q:Nat) (args:List A):Option A:=bG HV (fun x=>(wR q x).map fun y=>(A.imm (List.map c8 y) false)) args
noncomputable def pr (q:Nat):Nat->List A->Option A:=fw Qq 102 (ES q)
theorem Tx (q:Nat):vh (pr q) (wR q):=fun a0=>(by kernel_rfl:_=ES q (HV a0)).trans (aP _ Ja a0)
theorem wz (q:Nat):CC (pr q):=fun a0=>(by kernel_rfl:_=KP (Fu a0)).trans (aP _ Je a0)
theorem wA (q:Nat):CD (pr q):=fun a0=>(by kernel_rfl:_=GA (Lb a0)).trans (aP _ Na a0)
theorem E1:∀ (q:Nat) (args:List A) (r:A) (h:ES q args=some r),fm prog (cx C0).glob 102 args r
 | 0,args,r,h=>by
  obtain ⟨x,y,rfl,hy,rfl⟩:=ed h
  cases hy
 | q+1,args,r,h=>by
  obtain ⟨x,y,rfl,hy,rfl⟩:=ed h
  exact zZ (f:=fun (y:(List UInt8))=>(A.imm (List.map c8 y) false)) (cx:=cx (pr q)) (fun k args r _ h=>gF Bb (E1 q) k args r h) r8 (QW (pr q) aA (wz q) (wA q) (wR q) (Tx q) x) hy
theorem Nw (args:List A) (r:A) (h:KL args=some r):fm prog (cx C0).glob 102 args r:=E1 aA args r h
noncomputable def Qr:Nat->List A->Option A:=fw Qq 102 KL
theorem Hj:bI Qr:=gF Bb Nw
def Vx (x:(List UInt8)):List A:=[(A.imm (List.map c8 x) false)]
theorem SC:eh Vx:=c7 (eV (nD))
noncomputable def UR (args:List A):Option A:=bG Vx (fun x=>(L5 x).map fun y=>(A.tup [(A.agg (al y.1)),(iA y.2)])) args
theorem JF {C:Nat->List A->Option A} (h:∀ a,C 101 a=Nt a):yP C:=fun a0=>(h _).trans (aP _ M5 a0)
theorem JG {C:Nat->List A->Option A} (h:∀ a,C 102 a=KL a):yQ C:=fun a0=>(h _).trans (aP _ Ja a0)
noncomputable def Qs:Nat->List A->Option A:=fw Qr 96 UR
theorem Hk:bI Qs:=bS Hj fun x=>Wo Qr aA (JF fun _=>r8) (JG fun _=>r8) x
def Vp (x:(List UInt8)):List A:=[(A.imm (List.map c8 x) false)]
theorem Sr:eh Vp:=c7 (eV (nD))
noncomputable def UI (args:List A):Option A:=bG Vp (fun x=>(Ll x).map fun y=>(A.tup [(A.imm (List.map (cI .i64) y.1) false),(bA y.2)])) args
theorem Tu {C:Nat->List A->Option A} (h:∀ a,C 96 a=UR a):IU C:=fun a0=>(h _).trans (aP _ SC a0)
noncomputable def Qt:Nat->List A->Option A:=fw Qs 79 UI
theorem Hl:bI Qt:=bS Hk fun x=>We Qs aA (Tu fun _=>r8) x
def Vc (x:(List UInt8)):List A:=[(A.imm (List.map c8 x) false)]
theorem R8:eh Vc:=c7 (eV (nD))
noncomputable def PD (args:List A):Option A:=bG Vc (fun x=>(LQ x).map fun y=>(A.tup [(A.agg (aI y.1)),(bA y.2)])) args
theorem N5 {C:Nat->List A->Option A} (h:∀ a,C 79 a=UI a):CU C:=fun a0=>(h _).trans (aP _ Sr a0)
noncomputable def Qu:Nat->List A->Option A:=fw Qt 45 PD
theorem Hm:bI Qu:=bS Hl fun x=>VV Qt aA (N5 fun _=>r8) x
def Vb (x:(List UInt8)):List A:=[(A.imm (List.map c8 x) false)]
theorem R7:eh Vb:=c7 (eV (nD))
noncomputable def Uu (args:List A):Option A:=bG Vb (fun x=>(LP x).map fun y=>(A.tup [(A.agg (aD y.1)),(bA y.2)])) args
noncomputable def Qv:Nat->List A->Option A:=fw Qu 44 Uu
theorem Hn:bI Qv:=bS Hm fun x=>VU Qu aA (N5 fun _=>r8) x
def Vi (x:av×ay):List A:=[(A.agg (ak x.1)),(A.agg (aq x.2))]
theorem Sk:eh Vi:=eH (cW (cV)) (c7 (cW (dy)))
noncomputable def UC (args:List A):Option A:=bG Vi (fun x=>(LU x.1 x.2).map fun y=>(bA y)) args
theorem S9 {C:Nat->List A->Option A} (h:∀ a,C 44 a=Uu a):ID C:=fun a0=>(h _).trans (aP _ R7 a0)
theorem Ta {C:Nat->List A->Option A} (h:∀ a,C 45 a=PD a):IE C:=fun a0=>(h _).trans (aP _ R8 a0)
noncomputable def Qw:Nat->List A->Option A:=fw Qv 63 UC
theorem Ho:bI Qw:=bS Hn fun x=>V7 Qv aA (S9 fun _=>r8) (Ta fun _=>r8) (HM fun _=>r8) (Oa fun _=>r8) x.1 x.2
def Ic (x:av):List A:=[(A.agg (ak x))]
theorem RY:eh Ic:=c7 (cW (cV))
noncomputable def Uo (args:List A):Option A:=bG Ic (fun x=>(Lg x).map fun y=>(iA y)) args
theorem N4 {C:Nat->List A->Option A} (h:∀ a,C 61 a=UB a):CQ C:=fun a0=>(h _).trans (aP _ Si a0)
theorem Tf {C:Nat->List A->Option A} (h:∀ a,C 62 a=PH a):CR C:=fun a0 a1=>(h _).trans (aP _ Sj (a0,a1))
theorem Tg {C:Nat->List A->Option A} (h:∀ a,C 63 a=UC a):CS C:=fun a0 a1=>(h _).trans (aP _ Sk (a0,a1))
noncomputable def Qx:Nat->List A->Option A:=fw Qw 28 Uo
theorem Hp:bI Qx:=bS Ho fun x=>VK Qw aA (HM fun _=>r8) (N4 fun _=>r8) (Tf fun _=>r8) (Tg fun _=>r8) x
def Ci (x:(List Int)×Int):List A:=[(A.imm (List.map (cI .i64) x.1) false),(iA x.2)]
theorem RZ:eh Ci:=eH (eV (gg .i64)) (c7 (dz .i64))
noncomputable def PB (args:List A):Option A:=bG Ci (fun x=>(LK x.1 x.2).map fun y=>(bA y)) args
noncomputable def Qy:Nat->List A->Option A:=fw Qx 29 PB
theorem Hq:bI Qy:=bS Hp fun x=>VL Qx aA  x.1 x.2
def Va (x:(List Int)×Int):List A:=[(A.imm (List.map (cI .i64) x.1) false),(iA x.2)]
theorem R0:eh Va:=eH (eV (gg .i64)) (c7 (dz .i64))
noncomputable def Up (args:List A):Option A:=bG Va (fun x=>(JN x.1 x.2).map fun y=>(bA y)) args
noncomputable def Qz:Nat->List A->Option A:=fw Qy 30 Up
theorem Hr:bI Qz:=bS Hq fun x=>VM Qy aA  x.1 x.2
def Vj (x:(List Int)×Int):List A:=[(A.imm (List.map (cI .i64) x.1) false),(iA x.2)]
theorem Sl:eh Vj:=eH (eV (gg .i64)) (c7 (dz .i64))
noncomputable def UD (args:List A):Option A:=bG Vj (fun x=>(LV x.1 x.2).map fun y=>(bA y)) args
noncomputable def QA:Nat->List A->Option A:=fw Qz 64 UD
theorem Hs:bI QA:=bS Hr fun x=>V8 Qz aA  x.1 x.2
def Ie (x:av×(List Int)×Int):List A:=[(A.agg (ak x.1)),(A.imm (List.map (cI .i64) x.2.1) false),(iA x.2.2)]
theorem R1:eh Ie:=eH (cW (cV)) (eH (eV (gg .i64)) (c7 (dz .i64)))
noncomputable def Uq (args:List A):Option A:=bG Ie (fun x=>(LL x.1 x.2.1 x.2.2).map fun y=>(iA y)) args
theorem Th {C:Nat->List A->Option A} (h:∀ a,C 64 a=UD a):II C:=fun a0 a1=>(h _).trans (aP _ Sl (a0,a1))
noncomputable def QB:Nat->List A->Option A:=fw QA 31 Uq
theorem Ht:bI QB:=bS Hs fun x=>VN QA aA (Th fun _=>r8) x.1 x.2.1 x.2.2
def Ig (x:(List Int)×Int):List A:=[(A.imm (List.map (cI .i64) x.1) false),(iA x.2)]
theorem R2:eh Ig:=eH (eV (gg .i64)) (c7 (dz .i64))
noncomputable def Ly (args:List A):Option A:=bG Ig (fun x=>(Lh x.1 x.2).map fun y=>(A.imm (List.map (cI .i64) y) false)) args
noncomputable def QC:Nat->List A->Option A:=fw QB 32 Ly
theorem Hu:bI QC:=bS Ht fun x=>VO QB aA  x.1 x.2
def yG (x:(List Int)×(List Int)×Int):List A:=[(A.imm (List.map (cI .i64) x.1) false),(A.imm (List.map (cI .i64) x.2.1) false),(iA x.2.2)]
theorem R3:eh yG:=eH (eV (gg .i64)) (eH (eV (gg .i64)) (c7 (dz .i64)))
noncomputable def Ur (args:List A):Option A:=bG yG (fun x=>(LM x.1 x.2.1 x.2.2).map fun y=>(iA y)) args
noncomputable def QD:Nat->List A->Option A:=fw QC 33 Ur
theorem Hv:bI QD:=bS Hu fun x=>VP QC aA  x.1 x.2.1 x.2.2
def OC (x:Int):List A:=[(iA x)]
theorem M6:eh OC:=c7 (dz .i64)
noncomputable def Nu (args:List A):Option A:=bG OC (fun x=>(FH x).map fun y=>(A.agg (al y))) args
noncomputable def QE:Nat->List A->Option A:=fw QD 103 Nu
theorem Hw:bI QE:=bS Hv fun x=>QX QD aA  x
def Vw (x:(List Int)):List A:=[(A.imm (List.map (cI .i64) x) false)]
theorem SB:eh Vw:=c7 (eV (gg .i64))
noncomputable def UQ (args:List A):Option A:=bG Vw (fun x=>(L4 x).map fun y=>(A.agg (al y))) args
theorem NS {C:Nat->List A->Option A} (h:∀ a,C 103 a=Nu a):yR C:=fun a0=>(h _).trans (aP _ M6 a0)
noncomputable def QF:Nat->List A->Option A:=fw QE 90 UQ
theorem Hx:bI QF:=bS Hw fun x=>Wn QE aA (NS fun _=>r8) x
def Vv (x:ar):List A:=[(A.agg (al x))]
theorem SA:eh Vv:=c7 (cW eP)
noncomputable def UP (args:List A):Option A:=bG Vv (fun x=>(Lq x).map fun y=>(A.tup [(A.imm (List.map c8 y.1) false),(iA y.2)])) args
noncomputable def QG:Nat->List A->Option A:=fw QF 89 UP
theorem Hy:bI QG:=bS Hx fun x=>Wm QF aA (JF fun _=>r8) (JG fun _=>r8) x
def Vl (x:bj):List A:=[(A.agg (aD x))]
theorem Sn:eh Vl:=c7 (cW (xU))
noncomputable def UE (args:List A):Option A:=bG Vl (fun x=>(LY x).map fun y=>(A.imm (List.map c8 y) false)) args
theorem Tq {C:Nat->List A->Option A} (h:∀ a,C 89 a=UP a):IQ C:=fun a0=>(h _).trans (aP _ SA a0)
theorem Tt {C:Nat->List A->Option A} (h:∀ a,C 90 a=UQ a):IT C:=fun a0=>(h _).trans (aP _ SB a0)
noncomputable def QH:Nat->List A->Option A:=fw QG 66 UE
theorem Hz:bI QH:=bS Hy fun x=>Wa QG aA (Tq fun _=>r8) (Tt fun _=>r8) x
def Vk (x:bh×ay):List A:=[(A.agg (cz x.1)),(A.agg (aq x.2))]
theorem Sm:eh Vk:=eH (cW (kh)) (c7 (cW (dy)))
noncomputable def PI (args:List A):Option A:=bG Vk (fun x=>(LX x.1 x.2).map fun y=>(A.tup [(A.agg [(A.imm (List.map aq y.1.Queue) false),(A.imm (List.map au y.1.Apart) false)]),(iA y.2)])) args
noncomputable def QI:Nat->List A->Option A:=fw QH 65 PI
theorem HA:bI QI:=bS Hz fun x=>V9 QH aA (N4 fun _=>r8) (N8 fun _=>r8) x.1 x.2
def Ih (x:av×Int×Int):List A:=[(A.agg (ak x.1)),(iA x.2.1),(iA x.2.2)]
theorem R4:eh Ih:=eH (cW (cV)) (eH (dz .i64) (c7 (dz .i64)))
noncomputable def Us (args:List A):Option A:=bG Ih (fun x=>(Im x.1 x.2.1 x.2.2).map fun y=>(A.tup [(A.agg (ak y.1)),(iA y.2)])) args
theorem Ti {C:Nat->List A->Option A} (h:∀ a,C 65 a=PI a):IJ C:=fun a0 a1=>(h _).trans (aP _ Sm (a0,a1))
theorem Tj {C:Nat->List A->Option A} (h:∀ a,C 66 a=UE a):IK C:=fun a0=>(h _).trans (aP _ Sn a0)
noncomputable def QJ:Nat->List A->Option A:=fw QI 34 Us
theorem HB:bI QJ:=bS HA fun x=>VQ QI aA (Ti fun _=>r8) (Tj fun _=>r8) x.1 x.2.1 x.2.2
def x8 (x:av×(List Int)×(List Int)):List A:=[(A.agg (ak x.1)),(A.imm (List.map (cI .i64) x.2.1) false),(A.imm (List.map (cI .i64) x.2.2) false)]
theorem XF:eh x8:=eH (cW (cV)) (eH (eV (gg .i64)) (c7 (eV (gg .i64))))
noncomputable def o8 (args:List A):Option A:=bG x8 (fun x=>(G8 x.1 x.2.1 x.2.2).map fun y=>(A.tup [(A.agg (ak y.1)),(iA y.2)])) args
theorem N1 {C:Nat->List A->Option A} (h:∀ a,C 28 a=Uo a):CI C:=fun a0=>(h _).trans (aP _ RY a0)
theorem S2 {C:Nat->List A->Option A} (h:∀ a,C 29 a=PB a):IA C:=fun a0 a1=>(h _).trans (aP _ RZ (a0,a1))
theorem S3 {C:Nat->List A->Option A} (h:∀ a,C 30 a=Up a):IB C:=fun a0 a1=>(h _).trans (aP _ R0 (a0,a1))
theorem S4 {C:Nat->List A->Option A} (h:∀ a,C 31 a=Uq a):CJ C:=fun a0 a1 a2=>(h _).trans (aP _ R1 (a0,a1,a2))
theorem S5 {C:Nat->List A->Option A} (h:∀ a,C 32 a=Ly a):CK C:=fun a0 a1=>(h _).trans (aP _ R2 (a0,a1))
theorem S6 {C:Nat->List A->Option A} (h:∀ a,C 33 a=Ur a):CL C:=fun a0 a1 a2=>(h _).trans (aP _ R3 (a0,a1,a2))
theorem N2 {C:Nat->List A->Option A} (h:∀ a,C 34 a=Us a):wO C:=fun a0 a1 a2=>(h _).trans (aP _ R4 (a0,a1,a2))
noncomputable def QK:Nat->List A->Option A:=fw QJ 8 o8
theorem HC:bI QK:=bS HB fun x=>T8 QJ aA (N1 fun _=>r8) (S2 fun _=>r8) (S3 fun _=>r8) (S4 fun _=>r8) (S5 fun _=>r8) (S6 fun _=>r8) (N2 fun _=>r8) x.1 x.2.1 x.2.2
def mV (x:av×Int):List A:=[(A.agg (ak x.1)),(iA x.2)]
theorem RM:eh mV:=eH (cW (cV)) (c7 (dz .i64))
noncomputable def Uf (args:List A):Option A:=bG mV (fun x=>(LG x.1 x.2).map fun y=>(A.tup [(A.agg (ak y.1)),(iA y.2)])) args
noncomputable def QL:Nat->List A->Option A:=fw QK 10 Uf
theorem HD:bI QL:=bS HC fun x=>Vz QK aA (N1 fun _=>r8) (N2 fun _=>r8) x.1 x.2
def Vm (x:ay×ay):List A:=[(A.agg (aq x.1)),(A.agg (aq x.2))]
theorem So:eh Vm:=eH (cW (dy)) (c7 (cW (dy)))
noncomputable def UF (args:List A):Option A:=bG Vm (fun x=>(LZ x.1 x.2).map fun y=>(bA y)) args
noncomputable def QM:Nat->List A->Option A:=fw QL 67 UF
theorem HE:bI QM:=bS HD fun x=>Wb QL aA  x.1 x.2
def Ii (x:bh×bh):List A:=[(A.agg (cz x.1)),(A.agg (cz x.2))]
theorem R5:eh Ii:=eH (cW (kh)) (c7 (cW (kh)))
noncomputable def PC (args:List A):Option A:=bG Ii (fun x=>(LN x.1 x.2).map fun y=>(bA y)) args
theorem Tk {C:Nat->List A->Option A} (h:∀ a,C 67 a=UF a):CT C:=fun a0 a1=>(h _).trans (aP _ So (a0,a1))
noncomputable def QN:Nat->List A->Option A:=fw QM 35 PC
theorem HF:bI QN:=bS HE fun x=>VS QM aA (Tk fun _=>r8) x.1 x.2
def gR (x:av×av):List A:=[(A.agg (ak x.1)),(A.agg (ak x.2))]
theorem RN:eh gR:=eH (cW (cV)) (c7 (cW (cV)))
noncomputable def Ug (args:List A):Option A:=bG gR (fun x=>(Ld x.1 x.2).map fun y=>(bA y)) args
theorem S7 {C:Nat->List A->Option A} (h:∀ a,C 35 a=PC a):IC C:=fun a0 a1=>(h _).trans (aP _ R5 (a0,a1))
noncomputable def QO:Nat->List A->Option A:=fw QN 11 Ug
theorem HG:bI QO:=bS HF fun x=>VA QN aA (NZ fun _=>r8) (S7 fun _=>r8) x.1 x.2
def x3 (x:av×(List Int)×(List Int)×Int):List A:=[(A.agg (ak x.1)),(A.imm (List.map (cI .i64) x.2.1) false),(A.imm (List.map (cI .i64) x.2.2.1) false),(iA x.2.2.2)]
theorem XB:eh x3:=eH (cW (cV)) (eH (eV (gg .i64)) (eH (eV (gg .i64)) (c7 (dz .i64))))
noncomputable def o3 (args:List A):Option A:=bG x3 (fun x=>(G3 x.1 x.2.1 x.2.2.1 x.2.2.2).map fun y=>(bA y)) args
theorem SU {C:Nat->List A->Option A} (h:∀ a,C 10 a=Uf a):Iu C:=fun a0 a1=>(h _).trans (aP _ RM (a0,a1))
theorem SV {C:Nat->List A->Option A} (h:∀ a,C 11 a=Ug a):Iv C:=fun a0 a1=>(h _).trans (aP _ RN (a0,a1))
theorem XK {C:Nat->List A->Option A} (h:∀ a,C 5 a=o5 a):L8 C:=fun _=>(h _).trans (aP _ XC ())
theorem XL {C:Nat->List A->Option A} (h:∀ a,C 6 a=o6 a):L9 C:=fun a0=>(h _).trans (aP _ XD a0)
theorem XM {C:Nat->List A->Option A} (h:∀ a,C 8 a=o8 a):Ma C:=fun a0 a1 a2=>(h _).trans (aP _ XF (a0,a1,a2))
theorem XH (args:List A) (r:A) (h:o3 args=some r):fm prog (cx C0).glob 3 args r:=by
 obtain ⟨x,y,rfl,hy,rfl⟩:=ed h
 exact zZ (f:=fun (y:Bool)=>(bA y)) (cx:=cx QO) (fun k args r _ h=>HG k args r h) r8 (T3 QO aA (SU fun _=>r8) (SV fun _=>r8) (XK fun _=>r8) (XL fun _=>r8) (U2 fun _=>r8) (XM fun _=>r8) (U3 fun _=>r8) x.1 x.2.1 x.2.2.1 x.2.2.2) hy
end
section
open Go.RowKit Go.ChangeShapes Go.WideShapes Go.ChangeAt Go.Deep
theorem Kb {args:Array Value} (h:args.size=4):∃ a0 a1 a2 a3,args=#[a0,a1,a2,a3]:=by
 match args,h with | ⟨[a0,a1,a2,a3]⟩,_=>exact⟨a0,a1,a2,a3,rfl⟩
mutual
def bV:ar->Prop
 | .mk Kind N S L=>(dg Kind/\dg N/\(S.size<=lO)/\L.length<=lO)/\fR L
def fR:List ar->Prop
 | []=>True
 | x :: r=>bV x/\fR r
end
theorem mz:∀ (l:List ar),fR l↔∀ z∈l,bV z
 | []=>by rw[fR]; simp
 | x :: r=>by rw[fR,mz r]; simp
theorem dL (x:ar):bV x↔dg x.Kind/\dg x.N/\(x.S.size<=lO)/\(x.L.length<=lO/\∀ z∈x.L,bV z):=by
 cases x
 rw[bV,mz]
 simp only[and_assoc]
def ri (x:ay):Prop:=dg x.From/\dg x.To/\(x.Data.length<=lO)
def yi (x:bh):Prop:=(x.Queue.length<=lO/\∀ z∈x.Queue,ri z)/\(x.Apart.length<=lO/\∀ z∈x.Apart,(dg z.1/\dg z.2))
def yg (x:bL):Prop:=dg x.No/\dg x.Role/\dg x.Bar/\dg x.Program
def yh (x:aN):Prop:=(x.Cues.length<=lO/\∀ z∈x.Cues,yg z)/\(x.Got.length<=lO/\∀ z∈x.Got,dg z)/\(x.Did.length<=lO/\∀ z∈x.Did,dg z)
def iU (x:av):Prop:=yi x.Net/\(x.Ears.length<=lO/\∀ z∈x.Ears,yh z)/\dg x.Bar
def fQ (x:bj):Prop:=dg x.Role/\dg x.Bar/\dg x.Program
theorem NP:qV Tryz.prog 99 au (fun x=>(dg x.1/\dg x.2)):=qV.of (wD (n:=2) (e:=3) r8 r8 (jF r8)) fun l h=>by
 obtain ⟨_,_,rfl,⟨x0,rfl,h0⟩,_,_,rfl,⟨x1,rfl,h1⟩,rfl⟩:=h
 exact⟨(x0,x1),by simp[cI,cB,cS,cL,ax,aq,au,cz,aI,aw,ak,aD,az,bp,cG,aJ],h0,h1⟩
theorem NO:qV Tryz.prog 68 aq ri:=qV.of (gz (fs:=#[Field.mk "From" 3 0 false "" "" 0,Field.mk "To" 3 1 false "" "" 8,Field.mk "Data" 66 2 false "" "" 16]) (Ts:=[_,_,_]) r8 r8 ⟨(jF r8),(jF r8),(B9 (e:=5) (es:=1) (c:=c8) r8 r8 (by decide) (fun _=>rfl) (NQ r8)),trivial⟩) fun l h=>by
 obtain ⟨_,_,rfl,⟨x0,rfl,h0⟩,_,_,rfl,⟨x1,rfl,h1⟩,_,_,rfl,⟨x2,rfl,h2⟩,rfl⟩:=h
 exact⟨⟨x0,x1,x2⟩,by simp[aq,cI,cB,cS,cL,ax,aq,au,cz,aI,aw,ak,aD,az,bp,cG,aJ],h0,h1,h2⟩
theorem NK:qV Tryz.prog 25 cz yi:=qV.of (gz (fs:=#[Field.mk "Queue" 22 0 false "" "" 0,Field.mk "Apart" 23 1 false "" "" 24]) (Ts:=[_,_]) r8 r8 ⟨(iw (e:=68) (es:=3) (c:=aq) r8 r8 (by decide) (fun _=>rfl) NO),(iw (e:=99) (es:=2) (c:=au) r8 r8 (by decide) (fun _=>rfl) NP),trivial⟩) fun l h=>by
 obtain ⟨_,_,rfl,⟨x0,rfl,h0⟩,_,_,rfl,⟨x1,rfl,h1⟩,rfl⟩:=h
 exact⟨⟨x0,x1⟩,by simp[cz,cI,cB,cS,cL,ax,aq,au,cz,aI,aw,ak,aD,az,bp,cG,aJ],h0,h1⟩
theorem NM:qV Tryz.prog 46 aI yg:=qV.of (gz (fs:=#[Field.mk "No" 3 0 false "" "" 0,Field.mk "Role" 3 1 false "" "" 8,Field.mk "Bar" 3 2 false "" "" 16,Field.mk "Program" 3 3 false "" "" 24]) (Ts:=[_,_,_,_]) r8 r8 ⟨(jF r8),(jF r8),(jF r8),(jF r8),trivial⟩) fun l h=>by
 obtain ⟨_,_,rfl,⟨x0,rfl,h0⟩,_,_,rfl,⟨x1,rfl,h1⟩,_,_,rfl,⟨x2,rfl,h2⟩,_,_,rfl,⟨x3,rfl,h3⟩,rfl⟩:=h
 exact⟨⟨x0,x1,x2,x3⟩,by simp[aI,cI,cB,cS,cL,ax,aq,au,cz,aI,aw,ak,aD,az,bp,cG,aJ],h0,h1,h2,h3⟩
theorem NN:qV Tryz.prog 50 aw yh:=qV.of (gz (fs:=#[Field.mk "Cues" 48 0 false "" "" 0,Field.mk "Got" 29 1 false "" "" 24,Field.mk "Did" 29 2 false "" "" 48]) (Ts:=[_,_,_]) r8 r8 ⟨(iw (e:=46) (es:=4) (c:=aI) r8 r8 (by decide) (fun _=>rfl) NM),(iw (e:=3) (es:=1) (c:=(cI .i64)) r8 r8 (by decide) (fun _=>rfl) (jF r8)),(iw (e:=3) (es:=1) (c:=(cI .i64)) r8 r8 (by decide) (fun _=>rfl) (jF r8)),trivial⟩) fun l h=>by
 obtain ⟨_,_,rfl,⟨x0,rfl,h0⟩,_,_,rfl,⟨x1,rfl,h1⟩,_,_,rfl,⟨x2,rfl,h2⟩,rfl⟩:=h
 exact⟨⟨x0,x1,x2⟩,by simp[aw,cI,cB,cS,cL,ax,aq,au,cz,aI,aw,ak,aD,az,bp,cG,aJ],h0,h1,h2⟩
theorem NL:qV Tryz.prog 28 ak iU:=qV.of (gz (fs:=#[Field.mk "Net" 25 0 false "" "" 0,Field.mk "Ears" 26 2 false "" "" 48,Field.mk "Bar" 3 3 false "" "" 72]) (Ts:=[_,_,_]) r8 r8 ⟨NK,(iw (e:=50) (es:=3) (c:=aw) r8 r8 (by decide) (fun _=>rfl) NN),(jF r8),trivial⟩) fun l h=>by
 obtain ⟨_,_,rfl,⟨x0,rfl,h0⟩,_,_,rfl,⟨x1,rfl,h1⟩,_,_,rfl,⟨x2,rfl,h2⟩,rfl⟩:=h
 exact⟨⟨x0,x1,x2⟩,by simp[ak,cI,cB,cS,cL,ax,aq,au,cz,aI,aw,ak,aD,az,bp,cG,aJ],h0,h1,h2⟩
def IW:Prop:=∀ (a0:av) (a1:(List Int)) (a2:(List Int)) (a3:Int),iU a0->(a1.length<=lO/\∀ z∈a1,dg z)->(a2.length<=lO/\∀ z∈a2,dg z)->dg a3->G3 a0 a1 a2 a3=some true
theorem Oy (hp:IW) (W:World) (base:Nat) (args:Array Value) {H:Type} {enc:TypeId×Value->H} (hg:qS enc Tryz.prog W base Tryz.f3.params args) (hl:∀ (G:Nat) (vs:List Value),(cx C0).glob G=some vs->∀ (j:Nat) (v:Value),vs[j]? = some v->W.cell? ⟨G,j,none⟩=some v) :
  Calls Tryz.prog 3 args W fun e W'=>e=.returned (.bool true)/\Below W.heap.size W W':=by
 obtain ⟨v0,v1,v2,v3,rfl⟩:=Kb hg.1
 obtain ⟨a0,b0,w0⟩:=B5 hg 0 rfl rfl (fs:=#[Field.mk "Net" 25 0 false "" "" 0,Field.mk "Ears" 26 2 false "" "" 48,Field.mk "Bar" 3 3 false "" "" 72]) r8 NL
 obtain ⟨a1,b1,w1⟩:=uH hg 1 rfl rfl (e:=3) r8 (iw (e:=3) (es:=1) (c:=(cI .i64)) r8 r8 (by decide) (fun _=>rfl) (jF r8))
 obtain ⟨a2,b2,w2⟩:=uH hg 2 rfl rfl (e:=3) r8 (iw (e:=3) (es:=1) (c:=(cI .i64)) r8 r8 (by decide) (fun _=>rfl) (jF r8))
 obtain ⟨a3,b3,w3⟩:=KA hg 3 rfl rfl r8
 refine KC (glob:=(cx C0).glob) (XH _ _ ((aP _ XB (a0,a1,a2,a3)).trans (by simp only[hp a0 a1 a2 a3 b0 b1 b2 b3]; rfl))) hl ?_
 exact py w0 (py w1 (py w2 (py w3 H7)))
end
@[simp] theorem or_some (a b:Bool):(bif a then some true else some b)=some (a || b):=by cases a<;>rfl
@[simp] theorem Mg (a b:Bool):(bif a then some b else some false)=some (a&&b):=by cases a<;>rfl
theorem dE {n:Int} (h:-9223372036854775808<=n) (h':n<=9223372036854775807):wr .i64 n=n:=by
 simp only[wr,IntKind.wrap,IntKind.bits,IntKind.signed]
 simp
 omega
theorem aY {T:Type} (l:List T) (i:Nat):bf l (i:Int)=l[i]?:=by simp[bf]
theorem fu:aA=1208925819614629174706176:=rfl
mutual
def mT:ar->Nat
 | .mk _ _ s l=>1+s.size / 200+lS l
def lS:List ar->Nat
 | []=>0
 | x :: r=>mT x+lS r
end
theorem eI (v:ar):mT v=1+v.S.size / 200+lS v.L:=by cases v; rw[mT]
theorem nZ (v:ar):1<=mT v:=by rw[eI]; omega
theorem lT:lS []=0:=by rw[lS]
theorem jQ (x:ar) (r:List ar):lS (x :: r)=mT x+lS r:=by rw[lS]
theorem eA:∀ l:List ar,l.length<=lS l
 | []=>Yx _
 | x :: r=>by rw[jQ,YD]; have:=eA r; have:=nZ x; omega
theorem iu:∀ {l:List ar} {x:ar},x∈l->mT x<=lS l
 | y :: r,x,h=>by
  rw[jQ]
  rcases Y1.1 h with rfl | h
  ·omega
  ·have:=iu h; omega
def emp (s:ByteArray):Bool:=jy s (ByteArray.mk #[])
mutual
def sD:ar->Bool
 | .mk k n s l=>bif k==1 then emp s&&((l.length:Int)==0) else bif k==2 then (n==0)&&((l.length:Int)==0) else bif k==3 then kI l&&((n==0)&&emp s) else false
def kI:List ar->Bool
 | []=>true
 | x :: r=>sD x&&kI r
end
mutual
def dep:ar->Nat
 | .mk k _ _ l=>bif k==3 then nd l+1 else 0
def nd:List ar->Nat
 | []=>0
 | x :: r=>max (dep x) (nd r)
end
theorem nw (v:ar):sD v=bif v.Kind==1 then emp v.S&&((v.L.length:Int)==0) else bif v.Kind==2 then (v.N==0)&&((v.L.length:Int)==0) else bif v.Kind==3 then kI v.L&&((v.N==0)&&emp v.S) else false:=by cases v; rw[sD]
theorem oI (v:ar):dep v=bif v.Kind==3 then nd v.L+1 else 0:=by cases v; rw[dep]
theorem pX:kI []=true:=by rw[kI]
theorem lI (x:ar) (r:List ar):kI (x :: r)=(sD x&&kI r):=by rw[kI]
theorem ng:nd []=0:=by rw[nd]
theorem lG (x:ar) (r:List ar):nd (x :: r)=max (dep x) (nd r):=by rw[nd]
mutual
theorem F0:∀ v:ar,dep v<=mT v
 | .mk k n s l=>by
  rw[dep,mT]
  have:=pN l
  cases k==3<;>simp<;>omega
theorem pN:∀ l:List ar,nd l<=lS l
 | []=>by rw[ng]; omega
 | x :: r=>by
  rw[lG,jQ]
  have:=F0 x; have:=pN r; omega
end
theorem Eh (self:ar->Option Int) (n:Nat) (z:Int) (v:ar) (hn:mT v<=1100000) (hself:∀ e∈v.L,self e=some (dep e:Int)) :
  ∀ (k m i d:Nat),i+k=v.L.length->k<m->gJ self n v m (d:Int) (i:Int)=some ((max d (nd (v.L.drop i)):Nat):Int)
 | 0,m,i,d,h1,h2=>by
  obtain ⟨m,rfl⟩:∃ q,m=q+1:=⟨m - 1,r7⟩
  rw[gJ,Ys r7,YB.2 r7,ng]
  simp
 | k+1,m,i,d,h1,h2=>by
  obtain ⟨m,rfl⟩:∃ q,m=q+1:=⟨m - 1,r7⟩
  have hi:i<v.L.length:=r7
  have hl:=eA v.L
  rw[eI] at hn
  rw[gJ,Yl r7,Yt hi,lG]
  simp only[Yi,aY,Yg hi,Yf,hself _ (YH hi)]
  rw[dE r7 r7,show (i:Int)+1=((i+1:Nat):Int) by omega,show (if (d:Int)<(dep v.L[i]:Int) then (dep v.L[i]:Int) else (d:Int))=((max d (dep v.L[i]):Nat):Int) by split<;>omega]
  rw[Eh self n z v (by rw[eI]; exact hn) hself k m (i+1) _ r7 r7]
  congr 2
  omega
theorem U1:∀ (q:Nat) (v:ar),mT v<=q->mT v<=1100000->wU q v=some (dep v:Int)
 | 0,v,h,_=>by have:=nZ v; omega
 | q+1,v,h,hn=>by
  show Cq (wU q) aA v=_
  unfold Cq
  rw[oI]
  cases hk:v.Kind==3 with
  | false=>rw[show (v.Kind != 3)=true by rw[bne,hk]; rfl]; rfl
  | true=>
   rw[show (v.Kind != 3)=false by rw[bne,hk]; rfl]
   have hl:=eA v.L
   have hn':=hn
   rw[eI] at hn' h
   have:=Eh (wU q) aA 0 v hn (fun e he=>by
    have:=iu he
    exact U1 q e r7 r7) v.L.length (aA+8) 0 0 r7 s5
   rw[show ((0:Nat):Int)=0 from rfl] at this
   simp only[Yh,this,Yf,YL,Yi]
   have hd:=pN v.L
   rw[dE r7 r7]
   first | done | (congr 1; try omega)
theorem Eg (self:ar->Option Bool) (n:Nat) (z:Bool) (v:ar) (hn:mT v<=1100000) (hself:∀ e∈v.L,self e=some (sD e)) :
  ∀ (k m i:Nat),i+k=v.L.length->k<m->gI self n v m (i:Int)=some (bif kI (v.L.drop i) then .inr () else .inl false)
 | 0,m,i,h1,h2=>by
  obtain ⟨m,rfl⟩:∃ q,m=q+1:=⟨m - 1,r7⟩
  rw[gI,Ys r7,YB.2 r7,pX]
  rfl
 | k+1,m,i,h1,h2=>by
  obtain ⟨m,rfl⟩:∃ q,m=q+1:=⟨m - 1,r7⟩
  have hi:i<v.L.length:=r7
  have hl:=eA v.L
  rw[eI] at hn
  rw[gI,Yl r7,Yt hi,lI]
  simp only[Yi,aY,Yg hi,Yf,hself _ (YH hi)]
  cases sD v.L[i] with
  | false=>rfl
  | true=>
   rw[dE r7 r7,show (i:Int)+1=((i+1:Nat):Int) by omega]
   exact Eg self n z v (by rw[eI]; exact hn) hself k m (i+1) r7 r7
theorem U0:∀ (q:Nat) (v:ar),mT v<=q->mT v<=1100000->wT q v=some (sD v)
 | 0,v,h,_=>by have:=nZ v; omega
 | q+1,v,h,hn=>by
  show Cp (wT q) aA v=_
  unfold Cp
  rw[nw]
  cases hk1:v.Kind==1 with
  | true=>simp only[Yi]; show Option.bind (bif emp v.S then _ else _) _=_; cases emp v.S<;>rfl
  | false=>
   cases hk2:v.Kind==2 with
   | true=>simp only[Yi,Yh]; cases v.N==0<;>rfl
   | false=>
    cases hk3:v.Kind==3 with
    | false=>rfl
    | true=>
     have hl:=eA v.L
     have hn':=hn
     rw[eI] at hn' h
     have:=Eg (wT q) aA false v hn (fun e he=>by
      have:=iu he
      exact U0 q e r7 r7) v.L.length (aA+8) 0 r7 s5
     rw[show ((0:Nat):Int)=0 from rfl] at this
     simp only[Yh,Yi,this,Yf,YL]
     cases kI v.L with
     | false=>rfl
     | true=>show Option.bind (bif v.N==0 then some (emp v.S) else _) _=_; cases v.N==0<;>rfl
def jm (v:ar):Int:=bif sD v then (bif decide (16<dep v) then 2 else 0) else 1
theorem Uc (v:ar) (hn:mT v<=1100000):Bw v=some (jm v):=by
 unfold Bw FC FJ FK
 rw[U0 _ v s5 hn,U1 _ v s5 hn]
 simp only[Yf]
 unfold jm
 cases sD v with
 | false=>rfl
 | true=>
  simp only[Yv,Yh,Yi]
  by_cases h:16<dep v
  ·rw[Yl h,Yl r7]; rfl
  ·rw[Ys h,Ys r7]; rfl
theorem Ef (self:ar->Option (Int×Bool)) (n:Nat) (z:Bool) (v:ar) (w a b c d:Bool) (hn:mT v<=1100000) (hself:∀ e∈v.L,∃ x,self e=some (x,sD e)/\(sD e=true->x=(dep e:Int))) :
  ∀ (k m i t:Nat),i+k=v.L.length->k<m->∃ r,gH self n z v.L (v.L.length:Int) v w a b c m (t:Int) (i:Int)=some r/\(match r with | .inl p=>kI (v.L.drop i)=false/\p.1=0/\p.2=false | .inr x=>kI (v.L.drop i)=true/\x=((max t (nd (v.L.drop i)):Nat):Int))
 | 0,m,i,t,h1,h2=>by
  obtain ⟨m,rfl⟩:∃ q,m=q+1:=⟨m - 1,r7⟩
  rw[gH,Ys r7,YB.2 r7,pX,ng]
  exact⟨_,rfl,rfl,r9⟩
 | k+1,m,i,t,h1,h2=>by
  obtain ⟨m,rfl⟩:∃ q,m=q+1:=⟨m - 1,r7⟩
  have hi:i<v.L.length:=r7
  have hl:=eA v.L
  rw[eI] at hn
  obtain ⟨x,h3,h4⟩:=hself _ (YH hi)
  rw[gH,Yl r7,Yt hi,lI,lG]
  simp only[Yi,aY,Yg hi,Yf,h3]
  cases hf:sD v.L[i] with
  | false=>exact⟨_,rfl,rfl,rfl,rfl⟩
  | true=>
   rw[h4 hf]
   simp only[Yv,Yh,YP]
   rw[dE r7 r7,show (i:Int)+1=((i+1:Nat):Int) by omega,show (if (t:Int)<(dep v.L[i]:Int) then (dep v.L[i]:Int) else (t:Int))=((max t (dep v.L[i]):Nat):Int) by split<;>omega]
   have:=Ef self n z v w a b c d (by rw[eI]; exact hn) hself k m (i+1) (max t (dep v.L[i])) r7 r7
   rw[show max t (max (dep v.L[i]) (nd (v.L.drop (i+1))))=max (max t (dep v.L[i])) (nd (v.L.drop (i+1))) by omega]
   exact this
theorem yJ:∀ (q:Nat) (v:ar),mT v<=q->mT v<=1100000->∃ x,wS q v=some (x,sD v)/\(sD v=true->x=(dep v:Int))
 | 0,v,h,_=>by have:=nZ v; omega
 | q+1,v,h,hn=>by
  have hl:=eA v.L
  have hn':=hn
  rw[eI] at hn' h
  obtain ⟨r,h1,h2⟩:=Ef (wS q) aA false v false (emp v.S&&((v.L.length:Int)==0)) ((v.N==0)&&((v.L.length:Int)==0)) ((v.N==0)&&emp v.S) false hn (fun e he=>by
   have:=iu he
   exact yJ q e r7 r7) v.L.length (aA+8) 0 0 r7 s5
  rw[show ((0:Nat):Int)=0 from rfl] at h1
  rw[YL] at h2
  show ∃ x,Co (wS q) aA v=_/\_
  unfold Co
  rw[show (bif jy v.S (ByteArray.mk #[]) then some ((v.L.length:Int)==0) else some false)=some (emp v.S&&((v.L.length:Int)==0)) from by unfold emp; cases jy v.S (ByteArray.mk #[])<;>rfl,
   show (bif v.N==0 then some ((v.L.length:Int)==0) else some false)=some ((v.N==0)&&((v.L.length:Int)==0)) from by cases v.N==0<;>rfl,
   show (bif v.N==0 then some (jy v.S (ByteArray.mk #[])) else some false)=some ((v.N==0)&&emp v.S) from by unfold emp; cases v.N==0<;>rfl]
  simp only[Yf]
  rw[nw,oI]
  by_cases k1:v.Kind<1
  ·rw[Yl k1]
   refine⟨0,?_,?_⟩
   ·rw[show (v.Kind==1)=false from so,show (v.Kind==2)=false from so,show (v.Kind==3)=false from so]; rfl
   ·rw[show (v.Kind==1)=false from so,show (v.Kind==2)=false from so,show (v.Kind==3)=false from so]; intro h; cases h
  by_cases k2:3<v.Kind
  ·rw[Ys k1,Yl k2]
   refine⟨0,?_,?_⟩
   ·rw[show (v.Kind==1)=false from so,show (v.Kind==2)=false from so,show (v.Kind==3)=false from so]; rfl
   ·rw[show (v.Kind==1)=false from so,show (v.Kind==2)=false from so,show (v.Kind==3)=false from so]; intro h; cases h
  rw[Ys k1,Ys k2]
  simp only[Yh,Yi,Yf]
  rcases (show v.Kind=1∨v.Kind=2∨v.Kind=3 by omega) with hk | hk | hk
  ·rw[hk]
   simp only[show decide ((1:Int)=0)=false from rfl,show decide ((1:Int)=1)=true from rfl,show decide ((1:Int)<3)=true from rfl,show ((1:Int)==1)=true from rfl,show ((1:Int)==3)=false from rfl,Yh,Yi,Yf]
   cases emp v.S&&((v.L.length:Int)==0) with
   | false=>exact⟨0,rfl,fun h=>by cases h⟩
   | true=>exact⟨0,rfl,fun _=>rfl⟩
  ·rw[hk]
   simp only[show decide ((2:Int)=0)=false from rfl,show decide ((2:Int)=1)=false from rfl,show decide ((2:Int)=2)=true from rfl,show decide ((2:Int)<3)=true from rfl,show ((2:Int)==1)=false from rfl,show ((2:Int)==2)=true from rfl,show ((2:Int)==3)=false from rfl,Yh,Yi,Yf]
   cases (v.N==0)&&((v.L.length:Int)==0) with
   | false=>exact⟨0,rfl,fun h=>by cases h⟩
   | true=>exact⟨0,rfl,fun _=>rfl⟩
  ·rw[hk]
   simp only[show decide ((3:Int)=0)=false from rfl,show decide ((3:Int)=1)=false from rfl,show decide ((3:Int)=2)=false from rfl,show decide ((3:Int)=3)=true from rfl,show decide ((3:Int)<3)=false from rfl,show ((3:Int)==1)=false from rfl,show ((3:Int)==2)=false from rfl,show ((3:Int)==3)=true from rfl,Yh,Yi,Yf]
   cases hc:(v.N==0)&&emp v.S with
   | false=>exact⟨0,r9,fun h=>by simp at h⟩
   | true=>
    rw[hc] at h1
    simp only[Yv,Yh,h1,Yf]
    cases r with
    | inl p=>
     obtain ⟨h3,h4,h5⟩:=h2
     obtain ⟨p1,p2⟩:=p
     refine⟨0,?_,fun h=>?_⟩
     ·rw[h3]; simp only at h4 h5; subst h4; subst h5; rfl
     ·rw[h3] at h; cases h
    | inr x=>
     obtain ⟨h3,h4⟩:=h2
     have hd:=pN v.L
     refine⟨_,by rw[h3]; rfl,fun _=>?_⟩
     rw[h4,dE r7 r7]
     omega
theorem Xu (v:ar) (hn:mT v<=1100000):L6 v=some (jm v):=by
 unfold L6 Pt FI
 obtain ⟨x,h1,h2⟩:=yJ aA v s5 hn
 rw[h1,Yf]
 unfold jm
 cases hf:sD v with
 | false=>rfl
 | true=>
  rw[h2 hf]
  simp only[Yv,Yh,Yi]
  by_cases h:16<dep v
  ·rw[Yl h,Yl r7]; rfl
  ·rw[Ys h,Ys r7]; rfl
theorem B6:di=140737488355328:=r8
theorem fc {T:Type} (b:Nat) (l l2:List T) (h:(l.length+l2.length)*b<=di):cQ b l l2=some (l++l2):=by unfold cQ; rw[Yl h]; rfl
theorem mg (l l2:List UInt8) (h:l.length+l2.length<=140737488355328):cQ 1 l l2=some (l++l2):=fc _ _ _ (by rw[B6]; omega)
def num (n:Nat):List UInt8:=if h:n<128 then [UInt8.ofNat n] else UInt8.ofNat (n % 128+128) :: num (n / 128)
termination_by n
decreasing_by omega
theorem pd {n:Nat} (h:n<128):num n=[UInt8.ofNat n]:=by rw[num]; exact dif_pos h
theorem wk {n:Nat} (h:¬ n<128):num n=UInt8.ofNat (n % 128+128) :: num (n / 128):=by rw[num]; exact dif_neg h
theorem A5:∀ (k n:Nat),n<128 ^ k->(num n).length<=max k 1
 | 0,n,h=>by rw[pd (by simpa using YA h (by decide))]; simp
 | k+1,n,h=>by
  by_cases h1:n<128
  ·rw[pd h1]; simp
  ·rw[wk h1,YD]
   have hk:0<k:=by
    rcases qav k with rfl | hk
    ·simp at h; omega
    ·exact hk
   have:=A5 k (n / 128) (by rw[qaC (by decide)]; rw[qbT] at h; exact h)
   omega
theorem kM {n:Nat} (h:n<18446744073709551616):(num n).length<=10:=A5 10 n (YA h (by decide))
theorem La (n:Nat):wr .u8 (n:Int)=((n % 256:Nat):Int):=by
 unfold wr IntKind.wrap
 simp[IntKind.bits,IntKind.signed]
theorem ND:∀ c:Fin 256,mX .u8 (c.val:Int) 128=((c.val % 128+128:Nat):Int):=by decide +kernel
theorem KS (n:Nat):mX .u8 (wr .u8 (n:Int)) 128=((n % 128+128:Nat):Int):=by
 rw[La]
 have:=ND ⟨n % 256,qaD _ (by decide)⟩
 rw[this]
 simp only
 congr 2
 omega
theorem TI (n:Nat):nM .u64 (n:Int) 7=((n / 128:Nat):Int):=by
 unfold nM
 show Int.fdiv (n:Int) (2 ^ 7)=_
 rw[qaN _ (by decide)]
 rfl
theorem jN (G:Nat->Int->List UInt8->Option (Int×List UInt8)) (hG:∀ m v l,G (m+1) v l=bif decide (128<=v) then (bif (decide (0<=(mX .u8 (wr .u8 (v)) 128))&&decide ((mX .u8 (wr .u8 (v)) 128)<256)) then (Option.bind (cQ 1 l ([(UInt8.ofNat (Int.toNat (mX .u8 (wr .u8 (v)) 128)))])) fun y=>G m (nM .u64 v 7) y) else none) else some (v,l)) :
  ∀ (k m n:Nat) (l:List UInt8),n<128 ^ k->k<=11->k<m->l.length+k<=140737488355328->∃ (y:Nat) (ini:List UInt8),y<128/\G m (n:Int) l=some ((y:Int),l++ini)/\num n=ini++[UInt8.ofNat y]
 | 0,m,n,l,h,_,hm,hl=>by
  obtain ⟨m,rfl⟩:∃ q,m=q+1:=⟨m - 1,r7⟩
  have h:n<1:=h
  exact⟨n,[],r7,by rw[hG,Ys r7,Zp]; rfl,by rw[pd r7]; rfl⟩
 | k+1,m,n,l,h,hk,hm,hl=>by
  obtain ⟨m,rfl⟩:∃ q,m=q+1:=⟨m - 1,r7⟩
  by_cases h1:n<128
  ·exact⟨n,[],h1,by rw[hG,Ys r7,Zp]; rfl,by rw[pd h1]; rfl⟩
  ·have hq:n / 128<128 ^ k:=by rw[qaC (by decide)]; rw[qbT] at h; exact h
   rw[hG,Yl r7,KS,Yl r7,Yl r7,TI,qaB]
   simp only[Yi,Z0]
   rw[mg _ _ so,Yf]
   obtain ⟨y,ini,h2,h3,h4⟩:=jN G hG k m (n / 128) (l++[UInt8.ofNat (n % 128+128)]) hq r7 r7 so
   exact⟨y,UInt8.ofNat (n % 128+128) :: ini,h2,by rw[h3,Za]; rfl,by rw[wk h1,h4]; rfl⟩
theorem TM {y:Nat} (h:y<128):wr .u8 (y:Int)=(y:Int):=by rw[La,qaI r7]
theorem K2:∀ (k q n:Nat),n<128 ^ k->k<=11->k<q->n<18446744073709551616->wV q (n:Int)=some (num n)
 | 0,q,n,h,_,hq,hn=>by
  obtain ⟨q,rfl⟩:∃ p,q=p+1:=⟨q - 1,r7⟩
  have h:n<1:=h
  show yM (wV q) aA _=_
  unfold yM
  rw[Yl r7,TM r7,Yl r7,Yl r7,pd r7]
  rfl
 | k+1,q,n,h,hk,hq,hn=>by
  obtain ⟨q,rfl⟩:∃ p,q=p+1:=⟨q - 1,r7⟩
  show yM (wV q) aA _=_
  unfold yM
  by_cases h1:n<128
  ·rw[Yl r7,TM h1,Yl r7,Yl r7,pd h1]
   rfl
  ·have hk0:0<k:=by
    rcases qav k with rfl | hk
    ·simp at h; omega
    ·exact hk
   have hq2:n / 128<128 ^ k:=by rw[qaC (by decide)]; rw[qbT] at h; exact h
   have e1:Int.tmod (n:Int) 128=((n % 128:Nat):Int):=rfl
   have e2:Int.tdiv (n:Int) 128=((n / 128:Nat):Int):=rfl
   have wu:∀ z:Nat,z<18446744073709551616->wr .u64 (z:Int)=(z:Int):=fun z hz=>by
    unfold wr IntKind.wrap
    simp[IntKind.bits,IntKind.signed]
    omega
   rw[Ys r7]
   simp only[Yh]
   rw[e1,e2,show ((n % 128:Nat):Int)+128=((n % 128+128:Nat):Int) by omega,wu _ r7,wu _ r7,La (n % 128+128),qaI (show n % 128+128<256 by omega),Yl r7,Yl r7,qaB]
   simp only[Yi,Yh,Z0]
   rw[K2 k q (n / 128) hq2 r7 r7 r7,Yf,mg _ _ (by have:=kM (n:=n / 128) r7; simp; omega),wk h1]
   rfl
theorem RH (n:Nat) (h:n<18446744073709551616):Bx (n:Int)=some (num n):=K2 10 aA n (YA h (by decide)) r7 s5 h
def wH (n:Int):Nat:=if 0<=n then (2*n).toNat else (-2*n - 1).toNat
theorem Ap (z:Int):wr .u64 z=z % 18446744073709551616:=by
 unfold wr IntKind.wrap
 simp[IntKind.bits,IntKind.signed]
theorem pq {n:Int} (h:dg n):wH n<18446744073709551616:=by
 obtain ⟨h1,h2⟩:=h
 unfold wH; split<;>omega
theorem Xx (n:Int) (h:dg n):Cu n=some (wH n:Int):=by
 obtain ⟨h1,h2⟩:=h
 unfold Cu FG wH
 by_cases h0:0<=n
 ·rw[Yl h0,Yq h0]
  simp only[Yi,Ap]
  congr 1; omega
 ·rw[Ys h0,Yp h0,dE (n:=n+1) r7 r7,dE (n:=0 - (n+1)) r7 r7]
  simp only[Yh,Ap]
  congr 1; omega
theorem xor_zero (a:Int) (h:0<=a) (h':a<18446744073709551616):ru .u64 a 0=a:=by
 unfold ru
 show IntKind.wrap .u64 ((BitVec.ofInt 64 a ^^^ BitVec.ofInt 64 0).toNat:Int)=a
 rw[show BitVec.ofInt 64 0=0#64 from rfl,BitVec.xor_zero]
 have:=Ap ((BitVec.ofInt 64 a).toNat:Int)
 unfold wr at this
 rw[this,Z2]
 omega
theorem Fv (a:Int) (h:0<=a) (h':a<18446744073709551616):ru .u64 a 18446744073709551615=18446744073709551615 - a:=by
 unfold ru
 show IntKind.wrap .u64 ((BitVec.ofInt 64 a ^^^ BitVec.ofInt 64 18446744073709551615).toNat:Int)=_
 rw[show BitVec.ofInt 64 18446744073709551615=BitVec.allOnes 64 from rfl,BitVec.xor_allOnes,BitVec.toNat_not]
 have:=Ap (((2 ^ 64 - 1 - (BitVec.ofInt 64 a).toNat:Nat)):Int)
 unfold wr at this
 rw[this,Z2]
 omega
theorem RG (n:Int) (h:dg n):yO n=some (wH n:Int):=by
 obtain ⟨h1,h2⟩:=h
 unfold yO FE
 have e1:po .u64 (wr .u64 n) 1=(2*n) % 18446744073709551616:=by
  unfold po
  have:=Ap (wr .u64 n*2 ^ 1)
  unfold wr at this ⊢
  show IntKind.wrap .u64 (IntKind.wrap .u64 n*2 ^ 1)=_
  rw[this]
  have h4:=Ap n
  unfold wr at h4
  rw[h4]; omega
 have e2:nM .i64 n 63=n / 9223372036854775808:=by
  unfold nM
  show Int.fdiv n (2 ^ 63)=_
  rw[qaN _ (by decide)]
  rfl
 rw[e1,e2]
 congr 1
 unfold wH
 by_cases h0:0<=n
 ·rw[Yq h0,show n / 9223372036854775808=0 by omega,show wr .u64 0=0 from rfl,xor_zero _ r7 r7]; omega
 ·rw[Yp h0,show n / 9223372036854775808=-1 by omega,show wr .u64 (-1)=18446744073709551615 from rfl,Fv _ r7 r7]; omega
mutual
def jn:ar->List UInt8
 | .mk k n s l=>bif k==1 then 1 :: num (wH n) else bif k==2 then 2 :: (num s.size++lF s) else 3 :: (num l.length++kq l)
def kq:List ar->List UInt8
 | []=>[]
 | x :: r=>jn x++kq r
end
theorem dU (v:ar):jn v=bif v.Kind==1 then 1 :: num (wH v.N) else bif v.Kind==2 then 2 :: (num v.S.size++lF v.S) else 3 :: (num v.L.length++kq v.L):=by cases v; rw[jn]
theorem nj:kq []=[]:=by rw[kq]
theorem fX (x:ar) (r:List ar):kq (x :: r)=jn x++kq r:=by rw[kq]
theorem gq (s:ByteArray):(lF s).length=s.size:=rfl
mutual
theorem AO:∀ (v:ar),bV v->mT v<=1100000->(jn v).length<=420*mT v
 | .mk k n s l,h,hn=>by
  rw[bV] at h
  obtain ⟨⟨_,h2,_,_⟩,h5⟩:=h
  rw[mT] at hn
  have h1:=sb l h5 r7
  have h3:=eA l
  rw[jn,mT]
  have l1:=kM (n:=wH n) (pq h2)
  have l2:=kM (n:=s.size) r7
  have l3:=kM (n:=l.length) r7
  cases k==1 with
  | true=>simp only[Yi,YD]; omega
  | false=>
   cases k==2 with
   | true=>simp only[Yi,Yh,YD,YF,gq]; omega
   | false=>simp only[Yh,YD,YF]; omega
theorem sb:∀ (l:List ar),fR l->lS l<=1100000->(kq l).length<=420*lS l
 | [],_,_=>by rw[nj,lT]; simp
 | x :: r,h,hn=>by
  rw[fR] at h
  rw[jQ] at hn ⊢
  have h1:=AO x h.1 r7
  have h2:=sb r h.2 r7
  rw[fX,YF]; omega
end
theorem BO {v:ar} (h:bV v) (hn:mT v<=1100000):(jn v).length<=462000000:=by have:=AO v h hn; omega
theorem zw {v:ar} (h:bV v) (hn:mT v<=1100000):(kq v.L).length<=462000000:=by
 have h4:=((dL v).1 h).2.2.2.2
 rw[eI] at hn
 have:=sb v.L ((mz _).2 h4) r7; omega
theorem mE {v:ar} (hn:mT v<=1100000):v.S.size<=220000000:=by rw[eI] at hn; omega
theorem Ee (self:ar->Option (List UInt8)) (n:Nat) (z:List UInt8) (v:ar) (hv:bV v) (hn:mT v<=1100000) (hself:∀ e∈v.L,self e=some (jn e)) :
  ∀ (k m i:Nat) (l:List UInt8),i+k=v.L.length->k<m->l.length+(kq (v.L.drop i)).length<=140737488355328->gG self n v m (i:Int) l=some (l++kq (v.L.drop i))
 | 0,m,i,l,h1,h2,h3=>by
  obtain ⟨m,rfl⟩:∃ q,m=q+1:=⟨m - 1,r7⟩
  rw[gG,Ys r7,YB.2 r7,nj,Zp]
  rfl
 | k+1,m,i,l,h1,h2,h3=>by
  obtain ⟨m,rfl⟩:∃ q,m=q+1:=⟨m - 1,r7⟩
  have hi:i<v.L.length:=r7
  have hl:=eA v.L
  have hn':=hn
  rw[eI] at hn'
  rw[Yt hi,fX,YF] at h3
  rw[gG,Yl r7,Yt hi,fX]
  simp only[Yi,aY,Yg hi,Yf,hself _ (YH hi)]
  rw[mg _ _ r7,Yf,dE r7 r7,show (i:Int)+1=((i+1:Nat):Int) by omega]
  rw[Ee self n z v hv hn hself k m (i+1) _ r7 r7 X5,Za]
theorem tY (n:Nat) (h:n<18446744073709551616):wr .u64 (n:Int)=(n:Int):=by rw[Ap]; omega
theorem JB:∀ (q:Nat) (v:ar),bV v->mT v<=q->mT v<=1100000->wR q v=some (jn v)
 | 0,v,_,h,_=>by have:=nZ v; omega
 | q+1,v,hv,h,hn=>by
  obtain ⟨_,h2,_,_,h4⟩:=(dL v).1 hv
  have hs:=mE hn
  have he:=zw hv hn
  have hl:=eA v.L
  have hn':=hn
  rw[eI] at hn' h
  have l1:=kM (n:=wH v.N) (pq h2)
  have l2:=kM (n:=v.S.size) r7
  have l3:=kM (n:=v.L.length) r7
  show Cm (wR q) aA v=_
  unfold Cm
  rw[dU]
  cases hk1:v.Kind==1 with
  | true=>
   simp only[Yi,Xx _ h2,Yf,RH _ (pq h2)]
   rw[mg _ _ so]; rfl
  | false=>
   cases hk2:v.Kind==2 with
   | true=>
    simp only[Yi,Yh]
    rw[tY _ r7,RH _ r7,Yf,mg _ _ so,Yf,mg _ _ Yb]
    simp
   | false=>
    simp only[Yh]
    rw[tY _ r7,RH _ r7,Yf,mg _ _ so,Yf]
    have:=Ee (wR q) aA [] v hv hn (fun e he=>by
     have:=iu he
     exact JB q e (h4 e he) r7 r7) v.L.length (aA+8) 0 ([(3:UInt8)]++num v.L.length) r7 s5 Yd
    rw[show ((0:Nat):Int)=0 from rfl,YL] at this
    rw[this]
    simp
theorem Ud (v:ar) (hv:bV v) (hn:mT v<=1100000):Cs v=some (jn v):=JB aA v hv s5 hn
theorem nx:∀ {l:List ar},kI l=true->∀ e∈l,sD e=true
 | x :: r,h,e,he=>by
  rw[lI,Yj] at h
  rcases Y1.1 he with rfl | he
  ·exact h.1
  ·exact nx h.2 e he
theorem pW {v:ar} (h:sD v=true):v.Kind=1∨v.Kind=2∨(v.Kind=3/\kI v.L=true):=by
 rw[nw] at h
 cases h1:v.Kind==1 with
 | true=>exact .inl (by simpa using h1)
 | false=>
  cases h2:v.Kind==2 with
  | true=>exact .inr (.inl (by simpa using h2))
  | false=>
   cases h3:v.Kind==3 with
   | true=>
    rw[h1,h2,h3] at h
    simp only[Yi,Yh,Yj] at h
    exact .inr (.inr ⟨by simpa using h3,h.1⟩)
   | false=>rw[h1,h2,h3] at h; cases h
theorem xA {y:Nat} (h:y<128) {β:Type} (k:List UInt8->Option β) (l:List UInt8) (hl:l.length<=1000000000000) :
  (bif (decide (0<=(wr .u8 (y:Int)))&&decide ((wr .u8 (y:Int))<256)) then Option.bind (cQ 1 l ([(UInt8.ofNat (Int.toNat (wr .u8 (y:Int))))])) k else none)=k (l++[UInt8.ofNat y]):=by
 rw[TM h,Yl r7,Yl r7,mg _ _ so,qaB]
 rfl
theorem JA {n:Nat} (h:n<18446744073709551616):n<128 ^ 10:=YA h (by decide)
theorem Ek (self:ar->ar->(List UInt8)->ar->Option (List UInt8)) (n:Nat) (hn:50<=n) (z:List UInt8) (b0 b3 x:ar) (L:List ar) (hL:lS L<=1100000) (hf:kI L=true) (hok:∀ e∈L,bV e)
  (hself:∀ e∈L,e.Kind=3->∀ l:List UInt8,l.length+(jn e).length<=100000000000->self b0 b3 l e=some (l++jn e)) :
  ∀ (k m i:Nat) (l:List UInt8),i+k=L.length->k<m->l.length+(kq (L.drop i)).length<=100000000000->eM self n z L (L.length:Int) b0 b3 x m (i:Int) l=some (l++kq (L.drop i))
 | 0,m,i,l,h1,h2,h3=>by
  obtain ⟨m,rfl⟩:∃ q,m=q+1:=⟨m - 1,r7⟩
  rw[eM,Ys r7,YB.2 r7,nj,Zp]
  rfl
 | k+1,m,i,l,h1,h2,h3=>by
  obtain ⟨m,rfl⟩:∃ q,m=q+1:=⟨m - 1,r7⟩
  have hi:i<L.length:=r7
  have hl:=eA L
  have hme:L[i]∈L:=YH hi
  have hne:=iu hme
  have hs:=mE (v:=L[i]) r7
  obtain ⟨_,hN,_,_,_⟩:=(dL L[i]).1 (hok _ hme)
  rw[Yt hi,fX,YF] at h3
  have ih:=Ek self n hn z b0 b3 x L hL hf hok hself k m (i+1) (l++jn L[i]) r7 r7 X5
  rw[eM,Yl r7,Yt hi,fX]
  simp only[Yi,aY,Yg hi,Yf]
  rw[dE r7 r7,show (i:Int)+1=((i+1:Nat):Int) by omega,<-Za]
  have h3':=h3
  rw[dU] at h3
  generalize hE:kq (L.drop (i+1))=E at h3 h3' ih ⊢
  rcases pW (nx hf _ hme) with hk | hk | ⟨hk,_⟩
  ·rw[hk] at h3 ⊢
   simp only[show ((1:Int)==1)=true from rfl,Yi,YD] at h3
   simp only[show decide ((1:Int)=0)=false from rfl,show decide ((1:Int)=1)=true from rfl,Yi,Yh,RG _ hN,Yf]
   rw[mg _ _ so,Yf]
   obtain ⟨y,ini,e1,e2,e3⟩:=jN (fo n) (fun _ _ _=>rfl) 10 (n+6) (wH L[i].N) (l++[1]) (JA (pq hN)) r7 r7 so
   have e4:(num (wH L[i].N)).length=ini.length+1:=X1
   try simp only at e2
   rw[e2,Yf]
   try simp only
   rw[xA e1 _ _ so]
   rw[dU,hk] at ih
   simp only[show ((1:Int)==1)=true from rfl,Yi,e3] at ih
   rw[dU,hk]
   simp only[show ((1:Int)==1)=true from rfl,Yi,e3]
   rw[<-ih]
   congr 1
   simp
  ·rw[hk] at h3 ⊢
   simp only[show ((2:Int)==1)=false from rfl,show ((2:Int)==2)=true from rfl,Yi,Yh,YD,YF,gq] at h3
   simp only[show decide ((2:Int)=0)=false from rfl,show decide ((2:Int)=1)=false from rfl,show decide ((2:Int)=2)=true from rfl,Yi,Yh]
   rw[mg _ _ so,Yf,tY _ r7]
   obtain ⟨y,ini,e1,e2,e3⟩:=jN (fo n) (fun _ _ _=>rfl) 10 (n+6) L[i].S.size (l++[2]) (JA r7) r7 r7 so
   have e4:(num L[i].S.size).length=ini.length+1:=X1
   try simp only at e2
   rw[e2,Yf]
   try simp only
   rw[xA e1 _ _ so,mg _ _ Yb,Yf]
   rw[dU,hk] at ih
   simp only[show ((2:Int)==1)=false from rfl,show ((2:Int)==2)=true from rfl,Yi,Yh,e3] at ih
   rw[dU,hk]
   simp only[show ((2:Int)==1)=false from rfl,show ((2:Int)==2)=true from rfl,Yi,Yh,e3]
   rw[<-ih]
   congr 1
   simp
  ·rw[hk]
   simp only[show decide ((3:Int)=0)=false from rfl,show decide ((3:Int)=1)=false from rfl,show decide ((3:Int)=2)=false from rfl,show decide ((3:Int)=3)=true from rfl,Yi,Yh]
   rw[hself _ hme hk l r7,Yf]
   exact ih
theorem LB:∀ (q N:Nat) (b0 b3:ar) (l:List UInt8) (v:ar),v.Kind=3->sD v=true->bV v->mT v<=q->mT v<=1100000->q+2000000<=N->l.length+(jn v).length<=100000000000->vl N b0 b3 l v=some (l++jn v)
 | 0,N,b0,b3,l,v,_,_,_,h,_,_,_=>by have:=nZ v; omega
 | q+1,N,b0,b3,l,v,hk,hf,hv,h,hn,hN,hl=>by
  obtain ⟨N,rfl⟩:∃ p,N=p+1:=⟨N - 1,r7⟩
  obtain ⟨_,h2,_,_,h4⟩:=(dL v).1 hv
  have hll:=eA v.L
  have hn':=hn
  rw[eI] at hn' h
  have hfs:kI v.L=true:=by
   rcases pW hf with h | h | h
   ·omega
   ·omega
   ·exact h.2
  show (bif Nat.ble 8 N then ue (vl N) (N - 8) b0 b3 l v else none)=_
  rw[Zm (by omega:8<=N)]
  simp only[Yi]
  unfold ue
  rw[dU,hk] at hl ⊢
  simp only[show ((3:Int)==1)=false from rfl,show ((3:Int)==2)=false from rfl,Yh,YD,YF] at hl ⊢
  rw[mg _ _ so,Yf,tY _ r7]
  obtain ⟨y,ini,e1,e2,e3⟩:=jN (jh (N - 8)) (fun _ _ _=>rfl) 10 (N - 8+7) v.L.length (l++[3]) (JA r7) r7 r7 so
  have e4:(num v.L.length).length=ini.length+1:=X1
  try simp only at e2
  rw[e2,Yf]
  try simp only
  rw[xA e1 _ _ so]
  have:=Ek (vl N) (N - 8) r7 [] b0 b3 v v.L r7 hfs h4 (fun e he hke l' hl'=>by
   have:=iu he
   exact LB q N b0 b3 l' e hke (nx hfs e he) (h4 e he) r7 r7 r7 hl') v.L.length (N - 8+8) 0 (l++[3]++ini++[UInt8.ofNat y]) r7 r7 Yd
  rw[show ((0:Nat):Int)=0 from rfl,YL] at this
  rw[this,e3]
  simp
theorem Ed (n:Nat) (hn:50<=n) (z:List UInt8) (b0 b3:ar) (L:List ar) (hL:lS L<=1100000) (hf:kI L=true) (hok:∀ e∈L,bV e)
  (hself:∀ e∈L,e.Kind=3->∀ l:List UInt8,l.length+(jn e).length<=100000000000->vl (n+7) b0 b3 l e=some (l++jn e)) :
  ∀ (k m i:Nat) (l:List UInt8),i+k=L.length->k<m->l.length+(kq (L.drop i)).length<=100000000000->fU n z L (L.length:Int) b0 b3 m (i:Int) l=some (l++kq (L.drop i))
 | 0,m,i,l,h1,h2,h3=>by
  obtain ⟨m,rfl⟩:∃ q,m=q+1:=⟨m - 1,r7⟩
  rw[fU,Ys r7,YB.2 r7,nj,Zp]
  rfl
 | k+1,m,i,l,h1,h2,h3=>by
  obtain ⟨m,rfl⟩:∃ q,m=q+1:=⟨m - 1,r7⟩
  have hi:i<L.length:=r7
  have hl:=eA L
  have hme:L[i]∈L:=YH hi
  have hne:=iu hme
  have hs:=mE (v:=L[i]) r7
  obtain ⟨_,hN,_,_,_⟩:=(dL L[i]).1 (hok _ hme)
  rw[Yt hi,fX,YF] at h3
  have ih:=Ed n hn z b0 b3 L hL hf hok hself k m (i+1) (l++jn L[i]) r7 r7 X5
  rw[fU,Yl r7,Yt hi,fX]
  simp only[Yi,aY,Yg hi,Yf]
  rw[dE r7 r7,show (i:Int)+1=((i+1:Nat):Int) by omega,<-Za]
  have h3':=h3
  rw[dU] at h3
  generalize hE:kq (L.drop (i+1))=E at h3 h3' ih ⊢
  rcases pW (nx hf _ hme) with hk | hk | ⟨hk,_⟩
  ·rw[hk] at h3 ⊢
   simp only[show ((1:Int)==1)=true from rfl,Yi,YD] at h3
   simp only[show decide ((1:Int)=0)=false from rfl,show decide ((1:Int)=1)=true from rfl,Yi,Yh,RG _ hN,Yf]
   rw[mg _ _ so,Yf]
   obtain ⟨y,ini,e1,e2,e3⟩:=jN (gK n) (fun _ _ _=>rfl) 10 (n+5) (wH L[i].N) (l++[1]) (JA (pq hN)) r7 r7 so
   have e4:(num (wH L[i].N)).length=ini.length+1:=X1
   try simp only at e2
   rw[e2,Yf]
   try simp only
   rw[xA e1 _ _ so]
   rw[dU,hk] at ih
   simp only[show ((1:Int)==1)=true from rfl,Yi,e3] at ih
   rw[dU,hk]
   simp only[show ((1:Int)==1)=true from rfl,Yi,e3]
   rw[<-ih]
   congr 1
   simp
  ·rw[hk] at h3 ⊢
   simp only[show ((2:Int)==1)=false from rfl,show ((2:Int)==2)=true from rfl,Yi,Yh,YD,YF,gq] at h3
   simp only[show decide ((2:Int)=0)=false from rfl,show decide ((2:Int)=1)=false from rfl,show decide ((2:Int)=2)=true from rfl,Yi,Yh]
   rw[mg _ _ so,Yf,tY _ r7]
   obtain ⟨y,ini,e1,e2,e3⟩:=jN (gK n) (fun _ _ _=>rfl) 10 (n+5) L[i].S.size (l++[2]) (JA r7) r7 r7 so
   have e4:(num L[i].S.size).length=ini.length+1:=X1
   try simp only at e2
   rw[e2,Yf]
   try simp only
   rw[xA e1 _ _ so,mg _ _ Yb,Yf]
   rw[dU,hk] at ih
   simp only[show ((2:Int)==1)=false from rfl,show ((2:Int)==2)=true from rfl,Yi,Yh,e3] at ih
   rw[dU,hk]
   simp only[show ((2:Int)==1)=false from rfl,show ((2:Int)==2)=true from rfl,Yi,Yh,e3]
   rw[<-ih]
   congr 1
   simp
  ·rw[hk]
   simp only[show decide ((3:Int)=0)=false from rfl,show decide ((3:Int)=1)=false from rfl,show decide ((3:Int)=2)=false from rfl,show decide ((3:Int)=3)=true from rfl,Yi,Yh]
   rw[hself _ hme hk l r7,Yf]
   exact ih
theorem FY {v:ar} (h:jm v=0):sD v=true:=by
 unfold jm at h
 cases hf:sD v with
 | true=>rfl
 | false=>rw[hf] at h; cases h
def BN (v:ar):List UInt8×Int:=bif jm v==0 then (jn v,0) else ([],jm v)
theorem Xs (v:ar) (hv:bV v) (hn:mT v<=1100000):JR v=some (BN v):=by
 unfold JR Pj
 rw[Xu v hn,Yf]
 unfold BN
 cases hc:jm v==0 with
 | false=>rw[show (jm v != 0)=true by rw[bne,hc]; rfl]; rfl
 | true=>
  rw[show (jm v != 0)=false by rw[bne,hc]; rfl]
  have hf:=FY (by simpa using hc)
  obtain ⟨_,h2,_,_,h4⟩:=(dL v).1 hv
  have hs:=mE hn
  have he:=BO hv hn
  have hll:=eA v.L
  have hn':=hn
  rw[eI] at hn'
  simp only[Yh,Yi]
  rw[dU] at he ⊢
  rcases pW hf with hk | hk | ⟨hk,hfs⟩
  ·rw[hk] at he ⊢
   simp only[show decide ((1:Int)=0)=false from rfl,show decide ((1:Int)=1)=true from rfl,show ((1:Int)==1)=true from rfl,Yi,Yh,RG _ h2,Yf] at he ⊢
   rw[mg _ _ r9,Yf]
   obtain ⟨y,ini,e1,e2,e3⟩:=jN (fT aA) (fun _ _ _=>rfl) 10 (aA+6) (wH v.N) ([]++[1]) (JA (pq h2)) r7 s5 r9
   have e4:(num (wH v.N)).length=ini.length+1:=X1
   have l1:=kM (pq h2)
   try simp only at e2
   rw[e2,Yf]
   try simp only
   rw[xA e1 _ _ so,e3]
   simp
  ·rw[hk] at he ⊢
   simp only[show decide ((2:Int)=0)=false from rfl,show decide ((2:Int)=1)=false from rfl,show decide ((2:Int)=2)=true from rfl,show ((2:Int)==1)=false from rfl,show ((2:Int)==2)=true from rfl,Yi,Yh,YD,YF,gq] at he ⊢
   rw[mg _ _ r9,Yf,tY _ r7]
   obtain ⟨y,ini,e1,e2,e3⟩:=jN (fT aA) (fun _ _ _=>rfl) 10 (aA+6) v.S.size ([]++[2]) (JA r7) r7 s5 r9
   have e4:(num v.S.size).length=ini.length+1:=X1
   have l1:=kM (n:=v.S.size) r7
   try simp only at e2
   rw[e2,Yf]
   try simp only
   rw[xA e1 _ _ so,mg _ _ Yb,Yf,e3]
   simp
  ·rw[hk] at he ⊢
   simp only[show decide ((3:Int)=0)=false from rfl,show decide ((3:Int)=1)=false from rfl,show decide ((3:Int)=2)=false from rfl,show decide ((3:Int)=3)=true from rfl,show ((3:Int)==1)=false from rfl,show ((3:Int)==2)=false from rfl,Yi,Yh,YD,YF] at he ⊢
   rw[mg _ _ r9,Yf,tY _ r7]
   obtain ⟨y,ini,e1,e2,e3⟩:=jN (fT aA) (fun _ _ _=>rfl) 10 (aA+6) v.L.length ([]++[3]) (JA r7) r7 s5 r9
   have e4:(num v.L.length).length=ini.length+1:=X1
   have l1:=kM (n:=v.L.length) r7
   try simp only at e2
   rw[e2,Yf]
   try simp only
   rw[xA e1 _ _ so]
   have:=Ed aA s5 [] v v v.L r7 hfs h4 (fun e he' hke l' hl'=>by
    have:=iu he'
    exact LB 1100000 (aA+7) v v l' e hke (nx hfs e he') (h4 e he') r7 r7 s5 hl') v.L.length (aA+7) 0 ([]++[3]++ini++[UInt8.ofNat y]) r7 s5 Yd
   rw[show ((0:Nat):Int)=0 from rfl,YL] at this
   rw[this,e3]
   simp
theorem Xt (v:ar) (hv:bV v) (hn:mT v<=1100000):Lq v=some (BN v):=by
 unfold Lq Pq
 rw[Uc v hn,Yf]
 unfold BN
 cases hc:jm v==0 with
 | false=>rw[show (jm v != 0)=true by rw[bne,hc]; rfl]; rfl
 | true=>
  rw[show (jm v != 0)=false by rw[bne,hc]; rfl]
  simp only[Yh,Yi,Ud v hv hn,Yf]
theorem Ah (s:ByteArray):jy s s=true:=by unfold jy; exact Zk _
def jD:Nat->List UInt8->Option (Nat×List UInt8)
 | _,[]=>none
 | c,b :: r=>if (0<c/\b.toNat=0)∨(9<=c/\1<b.toNat) then none else if b.toNat<128 then some (b.toNat,r) else match jD (c+1) r with
  | some (n,t)=>some (b.toNat - 128+128*n,t)
  | none=>none
theorem pw (c:Nat):2 ^ (7*(c+1))=128*2 ^ (7*c):=by rw[qaO,qbW]; omega
theorem xP:∀ (l:List UInt8) (c n:Nat) (r:List UInt8),jD c l=some (n,r)->c<=9->l=num n++r/\(0<c->n≠0)/\2 ^ (7*c)*n<18446744073709551616
 | [],c,n,r,h,_=>by rw[jD] at h; cases h
 | b :: l,c,n,r,h,hc=>by
  have hb:=b.toNat_lt
  rw[jD] at h
  split at h
  ·cases h
  rename_i h1
  split at h
  ·rename_i h2
   cases h
   refine⟨?_,fun h3 h4=>h1 (.inl ⟨h3,h4⟩),?_⟩
   ·rw[pd h2,qbl]; rfl
   ·have:2 ^ (7*9)=9223372036854775808:=by decide
    by_cases h9:c=9
    ·subst h9; omega
    ·have h8:2 ^ (7*c)<=2 ^ 56:=qbb (by decide) r7
     have h7:2 ^ (7*c)*b.toNat<=2 ^ 56*127:=qbG h8 r7
     omega
  ·rename_i h2
   split at h
   ·rename_i m t h3
    cases h
    have h9:c≠9:=fun h=>h1 (.inr ⟨r7,r7⟩)
    obtain ⟨h4,h5,h6⟩:=xP l (c+1) m _ h3 r7
    have h5:=h5 r7
    refine⟨?_,fun _=>r7,?_⟩
    ·rw[wk r7,show (b.toNat - 128+128*m) % 128+128=b.toNat by omega,show (b.toNat - 128+128*m) / 128=m by omega,qbl,h4]
     rfl
    ·rw[pw] at h6
     have h8:2 ^ (7*c)*(b.toNat - 128)+2 ^ (7*c)*(128*m)<18446744073709551616:=by
      have e:2 ^ (7*c)*(128*m)=128*2 ^ (7*c)*m:=by rw[Zr 128 (2 ^ (7*c)),qbj]
      rw[e]
      have hlt:b.toNat - 128<128:=r7
      have h10:2 ^ (7*c)*(b.toNat - 128)<2 ^ (7*c)*128:=Nat.mul_lt_mul_of_pos_left hlt (Nat.two_pow_pos _)
      have h11:2 ^ (7*c)*128*m<18446744073709551616:=by rw[Zr (2 ^ (7*c))]; exact h6
      have hd:18446744073709551616=2 ^ (7*c)*128*2 ^ (64 - (7*c+7)):=by
       rw[qbj,show 128*2 ^ (64 - (7*c+7))=2 ^ (64 - 7*c) by
        rw[show 128=2 ^ 7 from rfl,<-qbW]; congr 1; omega,<-qbW,show 7*c+(64 - 7*c)=64 by omega]
      rw[hd] at h11
      have h12:m<2 ^ (64 - (7*c+7)):=Nat.lt_of_mul_lt_mul_left h11
      have h13:2 ^ (7*c)*128*(m+1)<=2 ^ (7*c)*128*2 ^ (64 - (7*c+7)):=qac _ h12
      rw[<-hd,qaO,Nat.mul_one] at h13
      rw[Zr 128 (2 ^ (7*c))]
      omega
     rw[qaO]; exact h8
   ·cases h
theorem ir {l:List UInt8} {n:Nat} {r:List UInt8} (h:jD 0 l=some (n,r)):l=num n++r/\n<18446744073709551616/\r.length<l.length:=by
 obtain ⟨h1,_,h2⟩:=xP l 0 n r h r7
 refine⟨h1,r7,?_⟩
 have:num n≠[]:=by
  rw[num]; split<;>simp
 have:=List.length_pos_iff.2 this
 rw[h1,YF]; omega
theorem J9:∀ c:Fin 256,pE .u8 (c.val:Int) 127=((c.val % 128:Nat):Int):=by decide +kernel
theorem U5 {b c:Nat} (hc:c<=9) (h:c=9->b<=1) (hb:b<128):po .u64 (wr .u64 (b:Int)) (wr .i64 (7*(c:Int)))=((2 ^ (7*c)*b:Nat):Int):=by
 rw[dE r7 r7,tY _ r7]
 unfold po
 rw[show (7*(c:Int)).toNat=7*c by omega,show min (7*c) (IntKind.bits .u64)=7*c from ZQ (by show 7*c<=64; omega)]
 have e:((b:Int)*2 ^ (7*c))=((2 ^ (7*c)*b:Nat):Int):=by rw[qax,Int.natCast_pow,qbS]; rfl
 rw[e]
 have:=tY (2 ^ (7*c)*b) (by
  have h9:2 ^ (7*9)=9223372036854775808:=by decide
  by_cases h1:c=9
  ·have:=h h1; subst h1; rcases (show b=0∨b=1 by omega) with rfl | rfl<;>omega
  ·have h8:2 ^ (7*c)<=2 ^ 56:=qbb (by decide) r7
   have:=qbG h8 (show b<=127 by omega)
   omega)
 exact this
theorem Nf {a b c:Nat} (hc:c<=9) (h:c=9->b<=1) (hb:b<128) (ha:a<2 ^ (7*c)):a+2 ^ (7*c)*b<18446744073709551616:=by
 have h9:2 ^ (7*9)=9223372036854775808:=by decide
 by_cases h1:c=9
 ·have:=h h1; subst h1; rcases (show b=0∨b=1 by omega) with rfl | rfl<;>omega
 ·have h8:2 ^ (7*c)<=2 ^ 56:=qbb (by decide) r7
  have:=qbG h8 (show b<=127 by omega)
  omega
theorem XI {a b c:Nat} (hc:c<=9) (h:c=9->b<=1) (hb:b<128) (ha:a<2 ^ (7*c)):mX .u64 (a:Int) ((2 ^ (7*c)*b:Nat):Int)=((a+2 ^ (7*c)*b:Nat):Int):=by
 have h1:=Nf hc h hb ha
 unfold mX
 show IntKind.wrap .u64 ((BitVec.ofInt 64 (a:Int) ||| BitVec.ofInt 64 ((2 ^ (7*c)*b:Nat):Int)).toNat:Int)=_
 rw[BitVec.toNat_or,Z2,Z2]
 have e1:((a:Int) % ((2 ^ 64:Nat):Int)).toNat=a:=r7
 have e2:(((2 ^ (7*c)*b:Nat):Int) % ((2 ^ 64:Nat):Int)).toNat=2 ^ (7*c)*b:=r7
 rw[e1,e2,Nat.or_comm,<-Nat.two_pow_add_eq_or_of_lt ha,qbo]
 exact tY _ h1
theorem wB (G:Nat->Int->Int->List UInt8->Option ((List UInt8)⊕(Int×List UInt8))) (hG:∀ m v6 v7 v8,G (m+1) v6 v7 v8=bif (!(decide (1<=((v8.length:Int))))) then (some ((Sum.inl v8))) else (Option.bind (iB v8 0 1) fun y13=>Option.bind (iB v8 1 ((v8.length:Int))) fun y14=>Option.bind (bf y13 0) fun y15=>Option.bind (bif (v7==0) then (some true) else (some (((y15.toNat:Int)) != 0))) fun y17=>Option.bind (bif y17 then (Option.bind (bif (decide (v7<9)) then (some true) else (some (decide (((y15.toNat:Int))<=1)))) fun y22=>some y22) else (some false)) fun y25=>bif (!y25) then (some ((Sum.inl y14))) else (bif decide (0<=(wr .i64 (7*v7))) then (bif (decide (((y15.toNat:Int))<128)) then (some ((Sum.inr ((mX .u64 v6 (po .u64 (wr .u64 (pE .u8 ((y15.toNat:Int)) 127)) (wr .i64 (7*v7))),y14))))) else (G m (mX .u64 v6 (po .u64 (wr .u64 (pE .u8 ((y15.toNat:Int)) 127)) (wr .i64 (7*v7)))) (wr .i64 (v7+1)) y14)) else none))) :
  ∀ (l:List UInt8) (m a c:Nat),c<=9->10<=m+c->a<2 ^ (7*c)->match jD c l with
   | some (n,r)=>G m (a:Int) (c:Int) l=some (.inr (((a+2 ^ (7*c)*n:Nat):Int),r))
   | none=>∃ r,G m (a:Int) (c:Int) l=some (.inl r)
 | [],m,a,c,hc,hm,ha=>by
  obtain ⟨m,rfl⟩:∃ q,m=q+1:=⟨m - 1,r7⟩
  rw[jD,hG]
  exact⟨_,rfl⟩
 | b :: l,m,a,c,hc,hm,ha=>by
  obtain ⟨m,rfl⟩:∃ q,m=q+1:=⟨m - 1,r7⟩
  have hb:=b.toNat_lt
  have hs1:iB (b :: l) 0 1=some [b]:=by
   unfold iB
   rw[show decide ((1:Int)<=((b :: l).length:Int))=true from Yl Yc]
   rfl
  have hs2:iB (b :: l) 1 ((b :: l).length:Int)=some l:=by
   unfold iB
   rw[show decide ((1:Int)<=((b :: l).length:Int))=true from Yl Yc,Yl (qbf _)]
   simp
  have hc1:(bif ((c:Int)==0) then (some true) else (some (((b.toNat:Int)) != 0)))=some (!decide (0<c/\b.toNat=0)):=by
   by_cases h:c=0
   ·subst h; simp
   ·rw[show ((c:Int)==0)=false by simp; omega]
    simp only[Yh]
    congr 1
    rw[Zg]
    simp
    omega
  have hc2:(bif (decide ((c:Int)<9)) then (some true) else (some (decide (((b.toNat:Int))<=1))))=some (!decide (9<=c/\1<b.toNat)):=by
   by_cases h:c<9
   ·rw[Yl r7]
    simp only[Yi]
    congr 1
    rw[Zg]
    simp
    omega
   ·rw[Ys r7]
    simp only[Yh]
    congr 1
    rw[Zg]
    simp
    omega
  have e127:pE .u8 ((b.toNat:Int)) 127=((b.toNat % 128:Nat):Int):=J9 ⟨b.toNat,hb⟩
  rw[jD,hG,hs1,hs2,Yl (show (1:Int)<=((b :: l).length:Int) by rw[YD]; omega)]
  simp only[Yv,Yh,Yf,show bf [b] 0=some b from rfl,hc1,hc2]
  by_cases h:(0<c/\b.toNat=0)∨(9<=c/\1<b.toNat)
  ·rw[Yq h]
   refine⟨l,?_⟩
   by_cases h5:0<c/\b.toNat=0
   ·rw[Yl h5]; rfl
   ·rw[Ys h5,Yl (show 9<=c/\1<b.toNat by omega)]; rfl
  ·rw[Yp h,Ys (show ¬ (0<c/\b.toNat=0) by omega),Ys (show ¬ (9<=c/\1<b.toNat) by omega)]
   have hb9:c=9->b.toNat % 128<=1:=fun h9=>r7
   rw[e127,U5 hc hb9 r7,XI hc hb9 r7 ha,Yl (show 0<=wr .i64 (7*(c:Int)) by rw[dE r7 r7]; omega)]
   simp only[qaf,Yi,Yf,Yv,Yh]
   by_cases h8:b.toNat<128
   ·rw[Yq h8,Yl r7,qaI h8]
    rfl
   ·rw[Yp h8,Ys r7,dE (n:=(c:Int)+1) r7 r7]
    have hlt:a+2 ^ (7*c)*(b.toNat % 128)<2 ^ (7*(c+1)):=by
     rw[pw]
     have:=qac (2 ^ (7*c)) (show b.toNat % 128<=127 by omega)
     omega
    have ih:=wB G hG l m (a+2 ^ (7*c)*(b.toNat % 128)) (c+1) r7 r7 hlt
    rw[show ((c+1:Nat):Int)=(c:Int)+1 by omega] at ih
    simp only[Yh]
    cases hg:jD (c+1) l with
    | none=>rw[hg] at ih; exact ih
    | some p=>
     obtain ⟨n,r⟩:=p
     rw[hg] at ih
     simp only at ih ⊢
     rw[ih,pw]
     congr 4
     rw[qaO,show b.toNat % 128=b.toNat - 128 by omega,ZY,Zr 128 (2 ^ (7*c)),qbj]
theorem Bf (bs:List UInt8) (hbs:bs.length<=1100000) (G:Nat->Int->Int->Int->Bool->Option ((Int×Int×Bool)⊕(Int×Bool))) (hG:∀ m v5 v6 v8,G (m+1) v5 v6 v8 false=(Option.bind (bif (decide (((bs.length:Int))<=v8)) then (some ((0,v8,true))) else (Option.bind (bf bs (wr .i64 ((wr .i64 (v8+1)) - 1))) fun y=>some (((y.toNat:Int),wr .i64 (v8+1),false)))) fun (y348:Int×Int×Bool)=>Option.bind (bif (v6==9) then (some (decide (1<y348.1))) else (some false)) fun y350=>Option.bind (bif y350 then (some true) else (Option.bind (bif (decide (0<v6)) then (some (y348.1==0)) else (some false)) fun y355=>some y355)) fun y358=>bif y358 then (some ((Sum.inl ((0,y348.2.1,true))))) else (bif decide (0<=(wr .i64 (7*v6))) then (bif (decide (y348.1<128)) then (some ((Sum.inl ((wr .u64 (v5+(po .u64 (wr .u64 (Int.tmod y348.1 128)) (wr .i64 (7*v6)))),y348.2.1,y348.2.2))))) else (G m (wr .u64 (v5+(po .u64 (wr .u64 (Int.tmod y348.1 128)) (wr .i64 (7*v6))))) (wr .i64 (v6+1)) y348.2.1 y348.2.2)) else none))) :
  ∀ (k i m a c:Nat),i+k=bs.length->c<=9->10<=m+c->a<2 ^ (7*c)->match jD c (bs.drop i) with
   | some (n,r)=>∃ j:Nat,G m (a:Int) (c:Int) (i:Int) false=some (.inl (((a+2 ^ (7*c)*n:Nat):Int),(j:Int),false))/\r=bs.drop j/\j<=bs.length
   | none=>∃ (x:Int) (j:Nat),G m (a:Int) (c:Int) (i:Int) false=some (.inl (x,(j:Int),true))/\j<=bs.length
 | 0,i,m,a,c,hi,hc,hm,ha=>by
  obtain ⟨m,rfl⟩:∃ q,m=q+1:=⟨m - 1,r7⟩
  rw[YB.2 r7,jD,hG,Yl r7]
  simp only[Yi,Yf]
  rw[show (bif ((c:Int)==9) then (some (decide ((1:Int)<0))) else (some false))=some false by cases (c:Int)==9<;>rfl,Yl (show 0<=wr .i64 (7*(c:Int)) by rw[dE r7 r7]; omega)]
  by_cases h:(0:Int)<c
  ·rw[Yl h]; exact⟨_,i,rfl,r7⟩
  ·rw[Ys h]; exact⟨_,i,rfl,r7⟩
 | k+1,i,m,a,c,hi,hc,hm,ha=>by
  obtain ⟨m,rfl⟩:∃ q,m=q+1:=⟨m - 1,r7⟩
  have hil:i<bs.length:=r7
  rw[Yt hil]
  generalize hb':bs[i]=b
  have hb:=b.toNat_lt
  have hc1:(bif ((c:Int)==9) then (some (decide (1<((b.toNat:Int))))) else (some false))=some (decide (9<=c/\1<b.toNat)):=by
   by_cases h:c=9
   ·subst h; simp; omega
   ·rw[show ((c:Int)==9)=false by simp; omega]
    simp only[Yh]
    congr 1
    rw[Zg]
    simp
    omega
  have hc2:(bif (decide (0<(c:Int))) then (some (((b.toNat:Int))==0)) else (some false))=some (decide (0<c/\b.toNat=0)):=by
   by_cases h:0<c
   ·rw[Yl r7]
    simp only[Yi]
    congr 1
    rw[Zg]
    simp
    omega
   ·rw[Ys r7]
    simp only[Yh]
    congr 1
    rw[Zg]
    simp
    omega
  have e127:Int.tmod ((b.toNat:Int)) 128=((b.toNat % 128:Nat):Int):=rfl
  rw[jD,hG,Ys r7,dE (n:=(i:Int)+1) r7 r7,show (i:Int)+1 - 1=(i:Int) by omega,dE (n:=(i:Int)) r7 r7,aY,Yg hil,hb']
  simp only[Yh,Yf,hc1,hc2]
  by_cases h:(0<c/\b.toNat=0)∨(9<=c/\1<b.toNat)
  ·rw[Yq h]
   refine⟨0,i+1,?_,r7⟩
   by_cases h5:9<=c/\1<b.toNat
   ·rw[Yl h5]; rfl
   ·rw[Ys h5,Yl (show 0<c/\b.toNat=0 by omega)]; rfl
  ·rw[Yp h,Ys (show ¬ (0<c/\b.toNat=0) by omega),Ys (show ¬ (9<=c/\1<b.toNat) by omega)]
   have hb9:c=9->b.toNat % 128<=1:=fun h9=>r7
   have h64:=Nf hc hb9 (show b.toNat % 128<128 by omega) ha
   rw[e127,U5 hc hb9 r7,show (a:Int)+((2 ^ (7*c)*(b.toNat % 128):Nat):Int)=((a+2 ^ (7*c)*(b.toNat % 128):Nat):Int) from (Int.natCast_add _ _).symm,tY _ h64,Yl (show 0<=wr .i64 (7*(c:Int)) by rw[dE r7 r7]; omega)]
   simp only[qaf,Yi,Yf,Yv,Yh]
   by_cases h8:b.toNat<128
   ·rw[Yq h8,Yl r7,qaI h8]
    exact⟨i+1,rfl,rfl,r7⟩
   ·rw[Yp h8,Ys r7,dE (n:=(c:Int)+1) r7 r7]
    have hlt:a+2 ^ (7*c)*(b.toNat % 128)<2 ^ (7*(c+1)):=by
     rw[pw]
     have:=qac (2 ^ (7*c)) (show b.toNat % 128<=127 by omega)
     omega
    have ih:=Bf bs hbs G hG k (i+1) m (a+2 ^ (7*c)*(b.toNat % 128)) (c+1) r7 r7 r7 hlt
    rw[show ((c+1:Nat):Int)=(c:Int)+1 by omega,show ((i+1:Nat):Int)=(i:Int)+1 by omega] at ih
    simp only[Yh]
    cases hg:jD (c+1) (bs.drop (i+1)) with
    | none=>rw[hg] at ih; exact ih
    | some p=>
     obtain ⟨n,r⟩:=p
     rw[hg] at ih
     simp only at ih ⊢
     obtain ⟨j,ih,h10,h11⟩:=ih
     refine⟨j,?_,h10,h11⟩
     rw[ih,pw]
     congr 4
     rw[qaO,show b.toNat % 128=b.toNat - 128 by omega,ZY,Zr 128 (2 ^ (7*c)),qbj]
theorem Bn (a b:ByteArray):jy a b=decide (a=b):=by
 rw[Zg]
 unfold jy
 rw[qbQ,qbQ]
 cases a; cases b
 simp
theorem HQ (a b:List UInt8):jy (gp a) (gp b)=decide (a=b):=by
 rw[Bn,Zg]
 simp[gp]
theorem AH (l:List UInt8):lF (gp l)=l:=by simp[gp,lF]
theorem BJ (l:List UInt8):(gp l).size=l.length:=by rw[<-gq,AH]
theorem DT {s:ByteArray}:emp s=true↔s=ByteArray.empty:=by
 unfold emp
 rw[Bn,Z3]
 rfl
def sg (u:Nat):Int:=if u % 2=1 then -((u / 2:Nat):Int) - 1 else ((u / 2:Nat):Int)
theorem Fx (u:Nat):wH (sg u)=u:=by unfold sg; split<;>(unfold wH; split<;>omega)
theorem Om {u:Nat} (h:u<18446744073709551616):dg (sg u):=by unfold sg dg; split<;>omega
theorem Oz (z:Int):wr .i64 z=if 9223372036854775808<=z % 18446744073709551616 then z % 18446744073709551616 - 18446744073709551616 else z % 18446744073709551616:=by
 simp only[wr,IntKind.wrap,IntKind.bits,IntKind.signed]
 simp
theorem Rc (z:Int) (h:-9223372036854775808<=z) (h':z<=9223372036854775807):wr .i64 ((BitVec.ofInt 64 z).toNat:Int)=z:=by
 rw[Oz,Z2]
 split<;>omega
theorem Au (a:Int) (h:0<=a) (h':a<=9223372036854775807):ru .i64 a 0=a:=by
 unfold ru
 show wr .i64 ((BitVec.ofInt 64 a ^^^ BitVec.ofInt 64 0).toNat:Int)=a
 rw[show BitVec.ofInt 64 0=0#64 from rfl,BitVec.xor_zero]
 exact Rc a r7 h'
theorem As (a:Int) (h:0<=a) (h':a<=9223372036854775807):ru .i64 a (-1)=-a - 1:=by
 unfold ru
 show wr .i64 ((BitVec.ofInt 64 a ^^^ BitVec.ofInt 64 (-1)).toNat:Int)=_
 rw[show BitVec.ofInt 64 (-1)=BitVec.allOnes 64 from rfl,BitVec.xor_allOnes,BitVec.toNat_not,Oz,Z2]
 split<;>omega
theorem Ra (u:Nat) (h:u<18446744073709551616):pE .u64 (u:Int) 1=((u % 2:Nat):Int):=by
 unfold pE
 show wr .u64 ((BitVec.ofInt 64 (u:Int) &&& BitVec.ofInt 64 1).toNat:Int)=_
 rw[BitVec.toNat_and,Z2,show (BitVec.ofInt 64 1).toNat=1 from rfl,Nat.and_one_is_mod,show ((u:Int) % ((2 ^ 64:Nat):Int)).toNat=u by omega,tY _ r7]
theorem Xy (u:Nat) (h:u<18446744073709551616):Ct (u:Int)=some (sg u):=by
 unfold Ct FD
 have e1:nM .u64 (u:Int) 1=((u / 2:Nat):Int):=by
  unfold nM
  show Int.fdiv (u:Int) (2 ^ 1)=_
  rw[qaN _ (by decide)]
  rfl
 rw[e1,Ra u h,dE (n:=((u / 2:Nat):Int)) r7 r7,dE (n:=((u % 2:Nat):Int)) r7 r7,dE r7 r7]
 congr 1
 unfold sg
 by_cases h2:u % 2=1
 ·rw[Yq h2,h2,show (0:Int) - ((1:Nat):Int)=-1 from rfl,As _ r7 r7]
 ·rw[Yp h2,show u % 2=0 by omega,show (0:Int) - ((0:Nat):Int)=0 from rfl,Au _ r7 r7]
def iH (f:List UInt8->Option (ar×List UInt8)):Nat->List UInt8->Option (List ar×List UInt8)
 | 0,l=>some ([],l)
 | n+1,l=>match f l with
  | none=>none
  | some (v,r)=>match iH f n r with
   | none=>none
   | some (vs,t)=>some (v :: vs,t)
def xM (b:UInt8) (l:List UInt8) (h:Nat->List UInt8->Option (List ar×List UInt8)):Option (ar×List UInt8):=
 if b.toNat=1 then (match jD 0 l with
  | none=>none
  | some (n,r)=>some (.mk 1 (sg n) ByteArray.empty [],r))
 else if b.toNat=2 then (match jD 0 l with
  | none=>none
  | some (n,r)=>if n<=r.length then some (.mk 2 0 (gp (r.take n)) [],r.drop n) else none)
 else if b.toNat=3 then (match jD 0 l with
  | none=>none
  | some (n,r)=>if n<=r.length then (match h n r with
   | none=>none
   | some (vs,t)=>some (.mk 3 0 ByteArray.empty vs,t)) else none)
 else none
def iE:Nat->List UInt8->Option (ar×List UInt8)
 | _,[]=>none
 | 0,b :: l=>xM b l fun _ _=>none
 | k+1,b :: l=>xM b l (iH (iE k))
def Got (k:Nat) (l:List UInt8) (v:ar) (r:List UInt8):Prop:=l=jn v++r/\sD v=true/\dep v<=k/\bV v/\mT v<=(jn v).length
theorem uG {f:List UInt8->Option (ar×List UInt8)} {k:Nat} (hf:∀ l v r,l.length<=1100000->f l=some (v,r)->Got k l v r):∀ (n:Nat) (l:List UInt8) (vs:List ar) (r:List UInt8),l.length<=1100000->iH f n l=some (vs,r) ->
  l=kq vs++r/\kI vs=true/\nd vs<=k/\(∀ e∈vs,bV e)/\lS vs<=(kq vs).length/\vs.length=n
 | 0,l,vs,r,_,h=>by
  rw[iH] at h; cases h
  refine⟨?_,pX,by rw[ng]; omega,fun _ h=>absurd h (qae),by rw[lT]; omega,rfl⟩
  rw[nj]; rfl
 | n+1,l,vs,r,hl,h=>by
  rw[iH] at h
  split at h
  ·cases h
  rename_i v t hv
  split at h
  ·cases h
  rename_i ws u hw
  cases h
  obtain ⟨h1,h2,h3,h4,h5⟩:=hf l v t hl hv
  rw[h1,YF] at hl
  obtain ⟨g1,g2,g3,g4,g5,g6⟩:=uG hf n t ws r r7 hw
  refine⟨?_,?_,?_,?_,?_,?_⟩
  ·rw[h1,g1,fX,Za]
  ·rw[lI,h2,g2]; rfl
  ·rw[lG]; omega
  ·intro e he
   rcases Y1.1 he with rfl | he
   ·exact h4
   ·exact g4 e he
  ·rw[jQ,fX,YF]; omega
  ·rw[YD,g6]
theorem TL {b:UInt8} {n:Nat} (h:b.toNat=n):b=UInt8.ofNat n:=by rw[<-h,qbl]
theorem xO {h:Nat->List UInt8->Option (List ar×List UInt8)} {k:Nat} {b:UInt8} {l:List UInt8} {v:ar} {r:List UInt8} (hl:l.length<=1100000)
  (hh:∀ n t vs u,t.length<=1100000->h n t=some (vs,u)->t=kq vs++u/\kI vs=true/\nd vs+1<=k/\(∀ e∈vs,bV e)/\lS vs<=(kq vs).length/\vs.length=n)
  (e:xM b l h=some (v,r)):Got k (b :: l) v r:=by
 have okm:lO=9223372036854775807:=rfl
 unfold xM at e
 split at e
 ·rename_i h1
  split at e
  ·cases e
  rename_i n t hn
  obtain ⟨h2,h3,_⟩:=ir hn
  cases e
  refine⟨?_,?_,?_,?_,?_⟩
  ·rw[TL h1,h2,dU]
   simp only[show ((1:Int)==1)=true from rfl,Yi,Fx]
   rfl
  ·rw[nw]
   simp only[show ((1:Int)==1)=true from rfl,Yi,DT.2]
   rfl
  ·rw[oI]
   simp only[show ((1:Int)==3)=false from rfl,Yh]
   omega
  ·exact(dL _).2 ⟨⟨r9,r9⟩,Om h3,r9,r9,fun _ h=>absurd h qae⟩
  ·rw[eI,dU]
   simp only[show ((1:Int)==1)=true from rfl,Yi,Fx,lT,YD]
   have:(ByteArray.empty:ByteArray).size=0:=rfl
   omega
 split at e
 ·rename_i h1
  split at e
  ·cases e
  rename_i n t hn
  obtain ⟨h2,h3,h4⟩:=ir hn
  split at e
  ·rename_i h5
   cases e
   have hs:(gp (t.take n)).size=n:=by rw[BJ,Zq]; omega
   refine⟨?_,?_,?_,?_,?_⟩
   ·rw[TL h1,h2,dU]
    simp only[show ((2:Int)==1)=false from rfl,show ((2:Int)==2)=true from rfl,Yi,Yh,hs,AH]
    rw[Y5,Za,ZH]
    rfl
   ·rw[nw]
    rfl
   ·rw[oI]
    simp only[show ((2:Int)==3)=false from rfl,Yh]
    omega
   ·refine(dL _).2 ⟨⟨r9,r9⟩,⟨r9,r9⟩,?_,r9,fun _ h=>absurd h qae⟩
    show (gp (t.take n)).size<=lO
    rw[hs]; omega
   ·rw[eI,dU]
    simp only[show ((2:Int)==1)=false from rfl,show ((2:Int)==2)=true from rfl,Yi,Yh,lT,YD,YF,gq,hs]
    omega
  ·cases e
 split at e
 ·rename_i h1
  split at e
  ·cases e
  rename_i n t hn
  obtain ⟨h2,h3,h4⟩:=ir hn
  split at e
  ·rename_i h5
   split at e
   ·cases e
   rename_i vs u hv
   cases e
   obtain ⟨g1,g2,g3,g4,g5,g6⟩:=hh n t vs r r7 hv
   refine⟨?_,?_,?_,?_,?_⟩
   ·rw[TL h1,h2,dU,g1]
    simp only[show ((3:Int)==1)=false from rfl,show ((3:Int)==2)=false from rfl,Yh,g6]
    rw[Y5,Za]
    rfl
   ·rw[nw]
    simp only[show ((3:Int)==1)=false from rfl,show ((3:Int)==2)=false from rfl,show ((3:Int)==3)=true from rfl,Yi,Yh,g2,DT.2]
    rfl
   ·rw[oI]
    simp only[show ((3:Int)==3)=true from rfl,Yi]
    omega
   ·refine(dL _).2 ⟨⟨r9,r9⟩,⟨r9,r9⟩,r9,?_,g4⟩
    show vs.length<=lO
    omega
   ·rw[eI,dU]
    simp only[show ((3:Int)==1)=false from rfl,show ((3:Int)==2)=false from rfl,Yh,YD,YF]
    have:(ByteArray.empty:ByteArray).size=0:=rfl
    omega
  ·cases e
 ·cases e
theorem sG:∀ (k:Nat) (l:List UInt8) (v:ar) (r:List UInt8),l.length<=1100000->iE k l=some (v,r)->Got k l v r
 | 0,[],v,r,_,h=>by rw[iE] at h; cases h
 | k+1,[],v,r,_,h=>by rw[iE] at h; cases h
 | 0,b :: l,v,r,hl,h=>by
  rw[iE] at h
  rw[YD] at hl
  exact xO r7 (fun _ _ _ _ _ h=>by cases h) h
 | k+1,b :: l,v,r,hl,h=>by
  rw[iE] at h
  rw[YD] at hl
  refine xO r7 (fun n t vs u ht hv=>?_) h
  obtain ⟨g1,g2,g3,g4,g5,g6⟩:=uG (fun l v r hl h=>sG k l v r hl h) n t vs u ht hv
  exact⟨g1,g2,r7,g4,g5,g6⟩
theorem DE (l:List ar) (x:ar) (h:l.length<=1100000):cQ 56 l [x]=some (l++[x]):=fc _ _ _ XZ
theorem D0 {k:Nat} {l:List UInt8} {v:ar} {r:List UInt8} (hl:l.length<=1100000) (h:iE k l=some (v,r)):r.length<=l.length:=by
 have:=(sG k l v r hl h).1
 rw[this,YF]; omega
theorem Ei (f:List UInt8->Option (ar×List UInt8)) (self:(List UInt8)->Int->Option (Bool×ar×(List UInt8))) (N d n:Nat) (z0 z1:Int) (z2:ByteArray) (hd:d<=16) (hn:n<=1100000)
  (hf:∀ l:List UInt8,l.length<=1100000->match f l with
   | some (v,r)=>self l ((d:Int)+1)=some (true,v,r)/\r.length<=l.length
   | none=>∃ v r,self l ((d:Int)+1)=some (false,v,r)) :
  ∀ (k m i:Nat) (l:List UInt8) (acc:List ar),i+k=n->k<m->l.length<=1100000->acc.length<=i->match iH f k l with
   | some (vs,r)=>gS self N (d:Int) (n:Int) z0 z1 z2 m (i:Int) l acc=some (.inr (r,acc++vs))
   | none=>∃ x,gS self N (d:Int) (n:Int) z0 z1 z2 m (i:Int) l acc=some (.inl x)
 | 0,m,i,l,acc,h1,h2,h3,h4=>by
  obtain ⟨m,rfl⟩:∃ q,m=q+1:=⟨m - 1,r7⟩
  rw[iH,gS,Ys r7]
  simp
 | k+1,m,i,l,acc,h1,h2,h3,h4=>by
  obtain ⟨m,rfl⟩:∃ q,m=q+1:=⟨m - 1,r7⟩
  have hl:=hf l h3
  rw[iH,gS,Yl r7,dE (n:=(d:Int)+1) r7 r7,dE (n:=(i:Int)+1) r7 r7]
  simp only[Yi]
  cases hv:f l with
  | none=>
   rw[hv] at hl
   obtain ⟨v,r,hl⟩:=hl
   simp only
   rw[hl]
   exact⟨_,rfl⟩
  | some p=>
   obtain ⟨v,r⟩:=p
   rw[hv] at hl
   simp only at hl ⊢
   rw[hl.1]
   simp only[Yf,Yi]
   rw[DE _ _ r7,Yf,show (i:Int)+1=((i+1:Nat):Int) by omega]
   have ih:=Ei f self N d n z0 z1 z2 hd hn hf k m (i+1) r (acc++[v]) r7 r7 r7 so
   cases hr:iH f k r with
   | none=>rw[hr] at ih; exact ih
   | some p=>
    obtain ⟨vs,t⟩:=p
    rw[hr] at ih
    simp only at ih ⊢
    rw[ih]; simp
theorem b1 {b:UInt8} (n:Nat) (h:n<256):(wr .i64 ((b.toNat:Int))==(n:Int))=decide (b.toNat=n):=by
 have:=b.toNat_lt
 rw[dE r7 r7,Zg]
 simp
 omega
theorem U6:∀ (k N d:Nat) (l:List UInt8),d+k=16->2000000+k<=N->l.length<=1100000->match iE k l with
  | some (v,r)=>Ck N l (d:Int)=some (true,v,r)
  | none=>∃ v r,Ck N l (d:Int)=some (false,v,r)
 | k,N,d,[],hd,hN,hl=>by
  obtain ⟨N,rfl⟩:∃ q,N=q+1:=⟨N - 1,r7⟩
  have:iE k []=none:=by cases k<;>rw[iE]
  rw[this]
  show ∃ v r,(bif Nat.ble 8 N then wJ (Ck N) (N - 8) [] d else none)=_
  rw[Zm (by omega:8<=N)]
  exact⟨_,_,rfl⟩
 | k,N,d,b :: l,hd,hN,hl=>by
  obtain ⟨N,rfl⟩:∃ q,N=q+1:=⟨N - 1,r7⟩
  rw[YD] at hl
  have hb:=b.toNat_lt
  have hs1:iB (b :: l) 0 1=some [b]:=by
   unfold iB
   rw[show decide ((1:Int)<=((b :: l).length:Int))=true from Yl Yc]
   rfl
  have hs2:iB (b :: l) 1 ((b :: l).length:Int)=some l:=by
   unfold iB
   rw[show decide ((1:Int)<=((b :: l).length:Int))=true from Yl Yc,Yl (qbf _)]
   simp
  have eW:Ck (N+1) (b :: l) (d:Int)=wJ (Ck N) (N - 8) (b :: l) (d:Int):=by
   show (bif Nat.ble 8 N then wJ (Ck N) (N - 8) (b :: l) d else none)=_
   rw[Zm (by omega:8<=N)]; rfl
  have eg:iE k (b :: l)=xM b l (match k with | 0=>fun _ _=>none | k+1=>iH (iE k)):=by cases k<;>rw[iE]
  rw[eW,eg]
  unfold wJ
  rw[hs1,hs2,Yl (show (1:Int)<=((b :: l).length:Int) by rw[YD]; omega)]
  simp only[Yv,Yh,Yf,show bf [b] 0=some b from rfl]
  rw[show (wr .i64 ((b.toNat:Int))==1)=decide (b.toNat=1) from b1 1 r7,show (wr .i64 ((b.toNat:Int))==2)=decide (b.toNat=2) from b1 2 r7,show (wr .i64 ((b.toNat:Int))==3)=decide (b.toNat=3) from b1 3 r7,dE (n:=(b.toNat:Int)) r7 r7]
  unfold xM
  by_cases h1:b.toNat=1
  ·rw[Yq h1,Yl h1]
   have hr:=wB (eN (N - 8+1)) (fun _ _ _ _=>rfl) l (N - 8+7) 0 0 r7 r7 (by decide)
   simp only[Yi]
   cases hg:jD 0 l with
   | none=>
    rw[hg] at hr
    obtain ⟨r,hr⟩:=hr
    refine⟨default,r,?_⟩
    exact(YX (fun x=>Option.bind x _) hr).trans rfl
   | some p=>
    obtain ⟨n,r⟩:=p
    rw[hg] at hr
    obtain ⟨_,hn,_⟩:=ir hg
    simp only at hr ⊢
    refine(YX (fun x=>Option.bind x _) hr).trans ?_
    rw[show (0+2 ^ (7*0)*n:Nat)=n by omega]
    simp only[Yf,Xy n hn]
    rw[h1]; rfl
  rw[Yp h1,Ys h1]
  simp only[Yh]
  by_cases h2:b.toNat=2
  ·rw[Yq h2,Yl h2]
   have hr:=wB (eN (N - 8)) (fun _ _ _ _=>rfl) l (N - 8+6) 0 0 r7 r7 (by decide)
   simp only[Yi]
   cases hg:jD 0 l with
   | none=>
    rw[hg] at hr
    obtain ⟨r,hr⟩:=hr
    refine⟨default,r,?_⟩
    exact(YX (fun x=>Option.bind x _) hr).trans rfl
   | some p=>
    obtain ⟨n,r⟩:=p
    rw[hg] at hr
    obtain ⟨_,hn,hrl⟩:=ir hg
    simp only at hr ⊢
    by_cases hnr:n<=r.length
    ·rw[Yq hnr]
     refine(YX (fun x=>Option.bind x _) hr).trans ?_
     rw[show (0+2 ^ (7*0)*n:Nat)=n by omega]
     simp only[Yf]
     rw[tY _ (show r.length<18446744073709551616 by omega),dE (n:=(n:Int)) r7 r7,Yl (show (n:Int)<=(r.length:Int) by omega)]
     simp only[Yv,Yh]
     unfold iB
     rw[Yl (show (n:Int)<=(r.length:Int) by omega),Yl (show (0:Int)<=(n:Int) by omega),Yl (qbf _)]
     simp[h2]
     exact Y3 r9
    ·rw[Yp hnr]
     refine⟨default,r,?_⟩
     refine(YX (fun x=>Option.bind x _) hr).trans ?_
     rw[show (0+2 ^ (7*0)*n:Nat)=n by omega]
     simp only[Yf]
     rw[tY _ (show r.length<18446744073709551616 by omega),Ys (show ¬ (n:Int)<=(r.length:Int) by omega)]
     rfl
  rw[Yp h2,Ys h2]
  simp only[Yh]
  by_cases h3:b.toNat=3
  ·rw[Yq h3,Yl h3]
   simp only[Yi]
   cases k with
   | zero=>
    rw[Ys (show ¬ ((d:Int)<16) by omega)]
    have:∃ v r,(bif !false then some (false,(default:ar),l) else none)=some (false,v,r):=⟨_,_,rfl⟩
    cases hg:jD 0 l with
    | none=>exact⟨_,_,rfl⟩
    | some p=>
     obtain ⟨n,r⟩:=p
     simp only
     split<;>rename_i hx
     ·split at hx<;>cases hx
     ·exact⟨_,_,rfl⟩
   | succ k=>
    rw[Yl (show ((d:Int)<16) by omega)]
    have hr:=wB (eN (N - 8)) (fun _ _ _ _=>rfl) l (N - 8+6) 0 0 r7 r7 (by decide)
    simp only[Yv,Yh]
    cases hg:jD 0 l with
    | none=>
     rw[hg] at hr
     obtain ⟨r,hr⟩:=hr
     refine⟨default,r,?_⟩
     exact(YX (fun x=>Option.bind x _) hr).trans rfl
    | some p=>
     obtain ⟨n,r⟩:=p
     rw[hg] at hr
     obtain ⟨_,hn,hrl⟩:=ir hg
     simp only at hr ⊢
     by_cases hnr:n<=r.length
     ·rw[Yq hnr]
      have hL:=Ei (iE k) (Ck N) (N - 8) d n (b.toNat:Int) 0 ByteArray.empty r7 r7 (fun l hl=>by
       have:=U6 k N (d+1) l r7 r7 hl
       cases hgv:iE k l with
       | none=>rw[hgv] at this; exact this
       | some p=>
        obtain ⟨v,r⟩:=p
        rw[hgv] at this
        exact⟨this,D0 hl hgv⟩) n (N - 8+8) 0 r [] r7 r7 r7 r9
      cases hls:iH (iE k) n r with
      | none=>
       rw[hls] at hL
       obtain ⟨x,hL⟩:=hL
       refine⟨default,x,?_⟩
       refine(YX (fun x=>Option.bind x _) hr).trans ?_
       rw[show (0+2 ^ (7*0)*n:Nat)=n by omega]
       simp only[Yf]
       rw[tY _ (show r.length<18446744073709551616 by omega),dE (n:=(n:Int)) r7 r7,Yl (show (n:Int)<=(r.length:Int) by omega)]
       simp only[Yv,Yh]
       exact(YX (fun x=>Option.bind x _) hL).trans rfl
      | some p=>
       obtain ⟨vs,t⟩:=p
       rw[hls] at hL
       simp only at hL ⊢
       refine(YX (fun x=>Option.bind x _) hr).trans ?_
       rw[show (0+2 ^ (7*0)*n:Nat)=n by omega]
       simp only[Yf]
       rw[tY _ (show r.length<18446744073709551616 by omega),dE (n:=(n:Int)) r7 r7,Yl (show (n:Int)<=(r.length:Int) by omega)]
       simp only[Yv,Yh]
       refine(YX (fun x=>Option.bind x _) hL).trans ?_
       rw[h3]; rfl
     ·rw[Yp hnr]
      refine⟨default,r,?_⟩
      refine(YX (fun x=>Option.bind x _) hr).trans ?_
      rw[show (0+2 ^ (7*0)*n:Nat)=n by omega]
      simp only[Yf]
      rw[tY _ (show r.length<18446744073709551616 by omega),Ys (show ¬ (n:Int)<=(r.length:Int) by omega)]
      rfl
  ·rw[Yp h3,Ys h3]
   exact⟨_,_,rfl⟩
def jB (bs:List UInt8):ar×Int:=match iE 16 bs with
 | some (v,[])=>(v,0)
 | _=>(.mk 0 0 ByteArray.empty [],10)
theorem Xv (bs:List UInt8) (h:bs.length<=1100000):L0 bs=some (jB bs):=by
 unfold L0 Pf
 have hw:=U6 16 (aA+8) 0 bs r7 s5 h
 rw[show ((0:Nat):Int)=0 from rfl] at hw
 unfold jB
 cases hg:iE 16 bs with
 | none=>
  rw[hg] at hw
  obtain ⟨v,r,hw⟩:=hw
  rw[hw]; rfl
 | some p=>
  obtain ⟨v,r⟩:=p
  rw[hg] at hw
  simp only at hw
  rw[hw]
  cases r with
  | nil=>rfl
  | cons a r=>
   have:(((a :: r).length:Int)==0)=false:=so
   simp only[Yf,Yi]
   rw[this]; rfl
theorem AJ {bs:List UInt8} {v:ar} (h:bs.length<=1100000) (e:jB bs=(v,0)):bs=jn v/\jm v=0/\bV v/\mT v<=1100000:=by
 unfold jB at e
 split at e
 ·rename_i u hg
  cases e
  obtain ⟨h1,h2,h3,h4,h5⟩:=sG 16 bs v [] h hg
  rw[Zp] at h1
  refine⟨h1,?_,h4,?_⟩
  ·unfold jm
   rw[h2]
   simp only[Yi]
   rw[Ys r7]; rfl
  ·rw[h1] at h; omega
 ·cases e
theorem zs (bs:List UInt8):(∃ v,jB bs=(v,0))∨jB bs=(.mk 0 0 ByteArray.empty [],10):=by
 unfold jB
 split
 ·exact .inl ⟨_,rfl⟩
 ·exact .inr rfl
theorem Ej (bs:List UInt8) (f:List UInt8->Option (ar×List UInt8)) (self:(List UInt8)->Int->Bool->Int->Option (ar×Int×Bool)) (N d n:Nat) (z4 z5:Int) (z6:ByteArray) (hd:d<=16) (hn:n<=1100000)
  (hf:∀ i:Nat,i<=bs.length->match f (bs.drop i) with
   | some (v,r)=>∃ j:Nat,self bs (i:Int) false ((d:Int)+1)=some (v,(j:Int),false)/\r=bs.drop j/\j<=bs.length
   | none=>∃ (v:ar) (j:Nat),self bs (i:Int) false ((d:Int)+1)=some (v,(j:Int),true)/\j<=bs.length) :
  ∀ (k m i j:Nat) (acc:List ar),i+k=n->k<m->j<=bs.length->acc.length<=i->match iH f k (bs.drop j) with
   | some (vs,r)=>∃ j':Nat,eK self N (d:Int) (n:Int) bs z4 z5 z6 m (i:Int) (j:Int) false acc=some ((j':Int),false,acc++vs)/\r=bs.drop j'/\j'<=bs.length
   | none=>∃ (j':Nat) (l:List ar),eK self N (d:Int) (n:Int) bs z4 z5 z6 m (i:Int) (j:Int) false acc=some ((j':Int),true,l)/\j'<=bs.length
 | 0,m,i,j,acc,h1,h2,h3,h4=>by
  obtain ⟨m,rfl⟩:∃ q,m=q+1:=⟨m - 1,r7⟩
  rw[iH,eK,Ys r7]
  exact⟨j,by rw[Zp]; rfl,rfl,h3⟩
 | k+1,m,i,j,acc,h1,h2,h3,h4=>by
  obtain ⟨m,rfl⟩:∃ q,m=q+1:=⟨m - 1,r7⟩
  have hl:=hf j h3
  rw[iH,eK,Yl r7,dE (n:=(d:Int)+1) r7 r7,show (i:Int)+1=((i+1:Nat):Int) by omega,tY _ r7]
  simp only[Yi,qaf,Yf]
  cases hv:f (bs.drop j) with
  | none=>
   rw[hv] at hl
   obtain ⟨v,j',hl,hj⟩:=hl
   simp only
   rw[hl]
   simp only[Yf]
   rw[DE _ _ r7,Yf]
   obtain ⟨m,rfl⟩:∃ q,m=q+1:=⟨m - 1,r7⟩
   refine⟨j',acc++[v],?_,hj⟩
   rw[eK]
   cases decide (((i+1:Nat):Int)<(n:Int))<;>rfl
  | some p=>
   obtain ⟨v,r⟩:=p
   rw[hv] at hl
   obtain ⟨j',hl,hr,hj⟩:=hl
   simp only
   rw[hl]
   simp only[Yf]
   rw[DE _ _ r7,Yf,hr]
   have ih:=Ej bs f self N d n z4 z5 z6 hd hn hf k m (i+1) j' (acc++[v]) r7 r7 hj so
   cases hg:iH f k (bs.drop j') with
   | none=>rw[hg] at ih; exact ih
   | some p=>
    obtain ⟨vs,t⟩:=p
    rw[hg] at ih
    simp only at ih ⊢
    obtain ⟨j2,ih,h5,h6⟩:=ih
    exact⟨j2,by rw[ih]; simp,h5,h6⟩
theorem XQ (n:Nat) (h:n<18446744073709551616) (j:Int) (b:Bool):(bif ((Int.tmod (n:Int) 2)==1) then (some (((ar.mk 1 (wr .i64 ((wr .i64 (0 - (wr .i64 (wr .u64 (Int.tdiv (n:Int) 2))))) - 1)) ByteArray.empty ([])),j,b))) else (some (((ar.mk 1 (wr .i64 (wr .u64 (Int.tdiv (n:Int) 2))) ByteArray.empty ([])),j,b))))=some (ar.mk 1 (sg n) ByteArray.empty [],j,b):=by
 have e1:Int.tmod (n:Int) 2=((n % 2:Nat):Int):=rfl
 have e2:Int.tdiv (n:Int) 2=((n / 2:Nat):Int):=rfl
 rw[e1,e2,tY _ r7,dE (n:=((n / 2:Nat):Int)) r7 r7,dE (n:=0 - ((n / 2:Nat):Int)) r7 r7,dE (n:=0 - ((n / 2:Nat):Int) - 1) r7 r7]
 unfold sg
 by_cases h2:n % 2=1
 ·rw[Yq h2,h2,show (0:Int) - ((n / 2:Nat):Int)=-((n / 2:Nat):Int) by omega]; rfl
 ·rw[Yp h2,show n % 2=0 by omega]; rfl
theorem HP (x j:Int):∃ v,(bif ((Int.tmod x 2)==1) then (some (((ar.mk 1 (wr .i64 ((wr .i64 (0 - (wr .i64 (wr .u64 (Int.tdiv x 2))))) - 1)) ByteArray.empty ([])),j,true))) else (some (((ar.mk 1 (wr .i64 (wr .u64 (Int.tdiv x 2))) ByteArray.empty ([])),j,true))))=some (v,j,true):=by
 cases (Int.tmod x 2)==1<;>exact⟨_,rfl⟩
def RI:Nat->Nat->List UInt8->Option (List ar×List UInt8)
 | 0=>fun _ _=>none
 | k+1=>iH (iE k)
theorem KK (bs:List UInt8) (hbs:bs.length<=1100000) (n i m:Nat) (hi:i<=bs.length) (hm:10<=m):match jD 0 (bs.drop i) with
  | some (u,r)=>∃ j:Nat,(Option.bind (eL n bs m 0 0 (i:Int) false) fun o=>match o with | (Sum.inl ((y368,y369,y370)))=>some ((y368,y369,y370)) | (Sum.inr ((y374,y375)))=>some (((0:Int),y374,y375)))=some ((u:Int),(j:Int),false)/\r=bs.drop j/\j<=bs.length
  | none=>∃ (x:Int) (j:Nat),(Option.bind (eL n bs m 0 0 (i:Int) false) fun o=>match o with | (Sum.inl ((y368,y369,y370)))=>some ((y368,y369,y370)) | (Sum.inr ((y374,y375)))=>some (((0:Int),y374,y375)))=some (x,(j:Int),true)/\j<=bs.length:=by
 have hr:=Bf bs hbs (eL n bs) (fun _ _ _ _=>rfl) (bs.length - i) i m 0 0 r7 r7 r7 (by decide)
 cases hg:jD 0 (bs.drop i) with
 | none=>
  rw[hg] at hr
  obtain ⟨x,j,hr,hj⟩:=hr
  exact⟨x,j,(YX (fun x=>Option.bind x _) hr).trans rfl,hj⟩
 | some p=>
  obtain ⟨u,r⟩:=p
  rw[hg] at hr
  obtain ⟨j,hr,h1,h2⟩:=hr
  rw[show (0+2 ^ (7*0)*u:Nat)=u by omega] at hr
  exact⟨j,(YX (fun x=>Option.bind x _) hr).trans rfl,h1,h2⟩
theorem TX (bs:List UInt8) (hbs:bs.length<=1100000):∀ (k N d i:Nat),d+k=16->2000000+k<=N->i<=bs.length->match iE k (bs.drop i) with
  | some (v,r)=>∃ j:Nat,rF N bs (i:Int) false (d:Int)=some (v,(j:Int),false)/\r=bs.drop j/\j<=bs.length
  | none=>∃ (v:ar) (j:Nat),rF N bs (i:Int) false (d:Int)=some (v,(j:Int),true)/\j<=bs.length
 | k,N,d,i,hd,hN,hi=>by
  obtain ⟨N,rfl⟩:∃ q,N=q+1:=⟨N - 1,r7⟩
  have eW:rF (N+1) bs (i:Int) false (d:Int)=qR (rF N) (N - 8) bs (i:Int) false (d:Int):=by
   show (bif Nat.ble 8 N then qR (rF N) (N - 8) bs (i:Int) false (d:Int) else none)=_
   rw[Zm (by omega:8<=N)]; rfl
  rw[eW]
  by_cases hil:i<bs.length
  ·rw[Yt hil]
   generalize hb':bs[i]=b
   have hb:=b.toNat_lt
   have eg:iE k (b :: bs.drop (i+1))=xM b (bs.drop (i+1)) (RI k):=by cases k<;>(rw[iE]; rfl)
   rw[eg]
   unfold qR
   rw[Ys r7,dE (n:=(i:Int)+1) r7 r7,show (i:Int)+1 - 1=(i:Int) by omega,dE (n:=(i:Int)) r7 r7,aY,Yg hil,hb']
   simp only[Yh,Yf]
   rw[show ((b.toNat:Int)==1)=decide (b.toNat=1) by rw[Zg]; simp; omega,show ((b.toNat:Int)==2)=decide (b.toNat=2) by rw[Zg]; simp; omega,show ((b.toNat:Int)==3)=decide (b.toNat=3) by rw[Zg]; simp; omega]
   have ei:(i:Int)+1=((i+1:Nat):Int):=r7
   rw[ei]
   unfold xM
   by_cases h1:b.toNat=1
   ·rw[Yq h1,Yl h1]
    have hr:=KK bs hbs (N - 8) (i+1) (N - 8+7) r7 r7
    simp only[Yi]
    cases hg:jD 0 (bs.drop (i+1)) with
    | none=>
     rw[hg] at hr
     obtain ⟨x,j,hr,hj⟩:=hr
     obtain ⟨v,hv⟩:=HP x j
     refine⟨v,j,?_,hj⟩
     exact(YX (fun x=>Option.bind x _) hr).trans hv
    | some p=>
     obtain ⟨n,r⟩:=p
     rw[hg] at hr
     obtain ⟨_,hn,_⟩:=ir hg
     obtain ⟨j,hr,hrj,hj⟩:=hr
     simp only
     refine⟨j,?_,hrj,hj⟩
     refine(YX (fun x=>Option.bind x _) hr).trans ?_
     exact XQ n hn j false
   rw[Yp h1,Ys h1]
   simp only[Yh]
   by_cases h2:b.toNat=2
   ·rw[Yq h2,Yl h2]
    have hr:=KK bs hbs (N - 8) (i+1) (N - 8+7) r7 r7
    simp only[Yi]
    cases hg:jD 0 (bs.drop (i+1)) with
    | none=>
     rw[hg] at hr
     obtain ⟨x,j,hr,hj⟩:=hr
     refine⟨.mk 0 0 ByteArray.empty [],j,?_,hj⟩
     exact(YX (fun x=>Option.bind x _) hr).trans rfl
    | some p=>
     obtain ⟨n,r⟩:=p
     rw[hg] at hr
     obtain ⟨_,hn,hrl⟩:=ir hg
     obtain ⟨j,hr,hrj,hj⟩:=hr
     have hlr:r.length=bs.length - j:=by rw[hrj,qbu]
     have el:wr .u64 (wr .i64 ((bs.length:Int) - (j:Int)))=((bs.length - j:Nat):Int):=by
      rw[show (bs.length:Int) - (j:Int)=((bs.length - j:Nat):Int) by omega,dE r7 r7,tY _ r7]
     simp only
     by_cases hnr:n<=r.length
     ·rw[Yq hnr]
      refine⟨j+n,?_,by rw[hrj,qbe],r7⟩
      refine(YX (fun x=>Option.bind x _) hr).trans ?_
      simp only[Yf,Yh]
      rw[el,Ys r7,dE (n:=(n:Int)) r7 r7,dE (n:=(j:Int)+(n:Int)) r7 r7,show (j:Int)+(n:Int) - (n:Int)=(j:Int) by omega,dE (n:=(j:Int)) r7 r7]
      simp only[Yh]
      unfold iB
      rw[Yl (show (0:Int)<=(j:Int) by omega),Yl (show (j:Int)<=(j:Int)+(n:Int) by omega),Yl (show (j:Int)+(n:Int)<=(bs.length:Int) by omega)]
      simp only[Z0,Yi,Yf]
      rw[show ((j:Int)+(n:Int)).toNat - (j:Int).toNat=n by omega,hrj]
      rfl
     ·rw[Yp hnr]
      refine⟨.mk 0 0 ByteArray.empty [],j,?_,hj⟩
      refine(YX (fun x=>Option.bind x _) hr).trans ?_
      simp only[Yf,Yh]
      rw[el,Yl r7]
      rfl
   rw[Yp h2,Ys h2]
   simp only[Yh]
   by_cases h3:b.toNat=3
   ·rw[Yq h3,Yl h3]
    have hr:=KK bs hbs (N - 8) (i+1) (N - 8+7) r7 r7
    simp only[Yi]
    cases hg:jD 0 (bs.drop (i+1)) with
    | none=>
     rw[hg] at hr
     obtain ⟨x,j,hr,hj⟩:=hr
     refine⟨.mk 0 0 ByteArray.empty [],j,?_,hj⟩
     exact(YX (fun x=>Option.bind x _) hr).trans rfl
    | some p=>
     obtain ⟨n,r⟩:=p
     rw[hg] at hr
     obtain ⟨_,hn,hrl⟩:=ir hg
     obtain ⟨j,hr,hrj,hj⟩:=hr
     have hlr:r.length=bs.length - j:=by rw[hrj,qbu]
     have el:wr .u64 (wr .i64 ((bs.length:Int) - (j:Int)))=((bs.length - j:Nat):Int):=by
      rw[show (bs.length:Int) - (j:Int)=((bs.length - j:Nat):Int) by omega,dE r7 r7,tY _ r7]
     simp only
     by_cases hnr:n<=r.length
     ·rw[Yq hnr]
      cases k with
      | zero=>
       refine⟨.mk 0 0 ByteArray.empty [],j,?_,hj⟩
       refine(YX (fun x=>Option.bind x _) hr).trans ?_
       simp only[Yf,Yh]
       rw[show d=16 by omega]
       cases decide ((wr .u64 (wr .i64 ((bs.length:Int) - (j:Int))))<(n:Int))<;>rfl
      | succ k=>
       have hL:=Ej bs (iE k) (rF N) (N - 8) d n 3 0 ByteArray.empty r7 r7 (fun i hi=>by
        have:=TX bs hbs k N (d+1) i r7 r7 hi
        exact this) n (N - 8+8) 0 j [] r7 r7 hj r9
       rw[<-hrj] at hL
       show (match (match iH (iE k) n r with
        | none=>none
        | some (vs,t)=>some (ar.mk 3 0 ByteArray.empty vs,t)) with
        | some (v,r)=>_
        | none=>_)
       cases hls:iH (iE k) n r with
       | none=>
        rw[hls] at hL
        obtain ⟨j',l,hL,hj'⟩:=hL
        refine⟨.mk 3 0 ByteArray.empty l,j',?_,hj'⟩
        refine(YX (fun x=>Option.bind x _) hr).trans ?_
        simp only[Yf,Yh]
        rw[el,Ys r7,show ((d:Int)==16)=false by simp; omega]
        exact(YX (fun x=>Option.bind x _) hL).trans rfl
       | some p=>
        obtain ⟨vs,t⟩:=p
        rw[hls] at hL
        obtain ⟨j',hL,ht,hj'⟩:=hL
        simp only
        refine⟨j',?_,ht,hj'⟩
        refine(YX (fun x=>Option.bind x _) hr).trans ?_
        simp only[Yf,Yh]
        rw[el,Ys r7,show ((d:Int)==16)=false by simp; omega]
        exact(YX (fun x=>Option.bind x _) hL).trans rfl
     ·rw[Yp hnr]
      refine⟨.mk 0 0 ByteArray.empty [],j,?_,hj⟩
      refine(YX (fun x=>Option.bind x _) hr).trans ?_
      simp only[Yf,Yh]
      rw[el,Yl r7]
      rfl
   ·rw[Yp h3,Ys h3]
    exact⟨_,i+1,by simp only[Yh,YM]; rfl,r7⟩
  ·have:iE k []=none:=by cases k<;>rw[iE]
   rw[YB.2 r7,this]
   refine⟨.mk 0 0 ByteArray.empty [],i,?_,hi⟩
   unfold qR
   rw[Yl r7]
   rfl
theorem Xw (bs:List UInt8) (h:bs.length<=1100000):L5 bs=some (jB bs):=by
 unfold L5 Ps
 have hw:=TX bs h 16 (aA+8) 0 0 r7 s5 r7
 rw[show ((0:Nat):Int)=0 from rfl,YL] at hw
 unfold jB
 cases hg:iE 16 bs with
 | none=>
  rw[hg] at hw
  obtain ⟨v,j,hw,_⟩:=hw
  rw[hw]; rfl
 | some p=>
  obtain ⟨v,r⟩:=p
  rw[hg] at hw
  obtain ⟨j,hw,hr,hj⟩:=hw
  rw[hw]
  simp only[Yf,Yh]
  cases r with
  | cons a r=>
   have:j<bs.length:=by
    rcases qbr j bs.length with h | h
    ·exact h
    ·rw[YB.2 h] at hr; cases hr
   rw[show ((j:Int) != (bs.length:Int))=true by simp; omega]
   rfl
  | nil=>
   have hj2:j=bs.length:=by
    have:=YX List.length hr
    rw[qbu] at this
    simp at this; omega
   obtain ⟨h1,h2,h3,h4⟩:=AJ (v:=v) h (by unfold jB; rw[hg])
   rw[show ((j:Int) != (bs.length:Int))=false by simp; omega,Uc v h4]
   simp only[Yh,Yf,h2]
   rw[show ((0:Int) != 0)=false from rfl]
   simp only[Yh,Yf,Ud v h3 h4]
   rw[HQ,<-h1,Yl rfl]
   rfl
theorem SM (a b:Int):Pv a b=some (if b<a then b else a,if a<b then b else a):=rfl
def wm (p:Int×Int):Bool:=decide (0<=p.1)&&decide (p.1<p.2)&&decide (p.2<24)
theorem Nr (p:Int×Int):Ln p=some (wm p):=by
 unfold Ln Pm wm
 cases decide (0<=p.1)<;>cases decide (p.1<p.2)<;>rfl
def kl (p:ay):Bool:=wm (if p.To<p.From then p.To else p.From,if p.From<p.To then p.To else p.From)&&decide ((p.Data.length:Int)<=1048576)
theorem Np (p:ay):Lm p=some (kl p):=by
 unfold Lm Ph kl
 rw[SM,Yf,Nr,Yf]
 cases wm _<;>rfl
theorem SK (p:ay):L3 p=some (!kl p):=by
 unfold L3 Pk
 rw[Np,Yf]
theorem Ns (a:Int):wL a=some false:=by
 unfold wL FF
 simp
theorem mH {i:Nat} (h:i<=4611686018427387904):wr .i64 ((i:Int)+1)=((i+1:Nat):Int):=by
 rw[dE r7 r7]
 omega
theorem Nj (n:Nat) (l:List ay) (hl:l.length<=4611686018427387904):∀ (m i:Nat),i<=l.length->l.length - i<m ->
  (∃ j:Int,0<=j/\fH n l (l.length:Int) m (i:Int)=some (.inl j)/\(l.drop i).any (fun p=>!kl p)=true)∨(fH n l (l.length:Int) m (i:Int)=some (.inr ())/\(l.drop i).any (fun p=>!kl p)=false)
 | 0,i,_,h=>absurd h (YC _)
 | m+1,i,hi,h=>by
  unfold fH
  by_cases hlt:i<l.length
  ·rw[show decide ((i:Int)<(l.length:Int))=true by simpa using hlt,Yi,aY,Yg hlt,Yf,SK,Yf,mH r7,Yt hlt,qbM]
   cases hp:kl l[i] with
   | false=>exact .inl ⟨i,r7,rfl,rfl⟩
   | true=>
    simp only[Yv,Yh,Bool.false_or]
    exact Nj n l hl m (i+1) r7 r7
  ·rw[show decide ((i:Int)<(l.length:Int))=false by simpa using hlt,Yh,YB.2 r7]
   exact .inr ⟨rfl,rfl⟩
theorem SJ (l:List ay) (hl:l.length<=4611686018427387904):rD l=some (l.any fun p=>!kl p):=by
 unfold rD vc ve vd
 have e:l.drop 0=l:=rfl
 rcases Nj aA l hl (aA+8) 0 (Yx _) s5 with ⟨j,h1,h2,h3⟩ | ⟨h2,h3⟩
 ·rw[e] at h3
  rw[show ((0:Nat):Int)=0 from rfl] at h2
  rw[h2,h3]
  simp only[Yf]
  rw[Yl h1]
 ·rw[e] at h3
  rw[show ((0:Nat):Int)=0 from rfl] at h2
  rw[h2,h3]
  rfl
def uM (p q:Int×Int):Bool:=decide (p.1<q.1) || (p.1==q.1&&decide (p.2<q.2))
theorem SH (n:Nat) (a b c d:Int) (m:Nat) :
  gm n [a,b] 2 c d (m+3) 0=some (if a<c then .inl (-1) else if c<a then .inl 1 else if b<d then .inl (-1) else if d<b then .inl 1 else .inr ()):=by
 have w1:wr .i64 (0+1)=1:=by decide +kernel
 have w2:wr .i64 (1+1)=2:=by decide +kernel
 have x0:bf [a,b] 0=some a:=rfl
 have x1:bf [a,b] 1=some b:=rfl
 have tail:gm n [a,b] 2 c d (m+2) 1=some (if b<d then .inl (-1) else if d<b then .inl 1 else .inr ()):=by
  rw[gm]
  simp only[x1,Ns,w2,Yf,show decide ((1:Int)<2)=true from rfl,show decide ((2:Int)<=1)=false from rfl,show decide ((1:Int)=0)=false from rfl,show decide ((1:Int)=1)=true from rfl,Yi,Yh]
  by_cases h1:b<d
  ·simp[h1]
  ·by_cases h2:d<b
   ·simp[h1,h2]
   ·rw[gm]; simp[h1,h2]
 rw[gm]
 simp only[x0,Ns,w1,Yf,show decide ((0:Int)<2)=true from rfl,show decide ((2:Int)<=0)=false from rfl,show decide ((0:Int)=0)=true from rfl,Yi,Yh]
 by_cases h1:a<c
 ·simp[h1]
 ·by_cases h2:c<a
  ·simp[h1,h2]
  ·simp only[h1,h2,Zw,Yh,qap]
   exact tail
def gj (l:List (Int×Int)) (i:Nat):Option (Int×Int):=if i=0 then none else l[i - 1]?
def yf:Option (Int×Int)->List (Int×Int)->Bool
 | _,[]=>true
 | o,p :: r=>wm p&&(match o with | some q=>uM q p | none=>true)&&yf (some p) r
theorem Ni (n:Nat) (v8:Int) (q:List ay) (l:List (Int×Int)) (hl:l.length<=4611686018427387904):∀ (m i:Nat),i<=l.length->l.length - i<m ->
  (yf (gj l i) (l.drop i)=true/\ib n v8 l (l.length:Int) q l m (i:Int)=some (.inr ()))∨(yf (gj l i) (l.drop i)=false/\ib n v8 l (l.length:Int) q l m (i:Int)=some (.inl 60))
 | 0,i,_,h=>absurd h (YC _)
 | m+1,i,hi,h=>by
  by_cases hlt:i<l.length
  ·have ih:=Ni n v8 q l hl m (i+1) r7 r7
   have hp:gj l (i+1)=some l[i]:=by unfold gj; rw[Yp r7]; exact Yg hlt
   rw[hp] at ih
   rw[Yt hlt]
   unfold yf ib
   rw[show decide ((i:Int)<(l.length:Int))=true by simpa using hlt,Yi,aY,Yg hlt,Yf,Nr,Yf,mH r7]
   cases hk:wm l[i] with
   | false=>exact .inr ⟨r9,rfl⟩
   | true=>
    simp only[Yv,Yh,YP]
    by_cases h0:0<i
    ·have hpi:gj l i=some l[i - 1]:=by unfold gj; rw[Yp r7]; exact Yg r7
     have hw:wr .i64 ((i:Int) - 1)=((i - 1:Nat):Int):=by
      rw[dE r7 r7]; omega
     rw[hpi,show decide ((0:Int)<(i:Int))=true by simpa using h0,Yi,hw,aY,Yg r7,Yf]
     rw[show n+7=(n+4)+3 from rfl,SH]
     simp only[Yf]
     have key:(uM l[i - 1] l[i]=true/\(if l[i - 1].1<l[i].1 then (Sum.inl (-1):Int⊕Unit) else if l[i].1<l[i - 1].1 then .inl 1 else if l[i - 1].2<l[i].2 then .inl (-1) else if l[i].2<l[i - 1].2 then .inl 1 else .inr ())=.inl (-1)) ∨
       (uM l[i - 1] l[i]=false/\((if l[i - 1].1<l[i].1 then (Sum.inl (-1):Int⊕Unit) else if l[i].1<l[i - 1].1 then .inl 1 else if l[i - 1].2<l[i].2 then .inl (-1) else if l[i].2<l[i - 1].2 then .inl 1 else .inr ())=.inl 1∨(if l[i - 1].1<l[i].1 then (Sum.inl (-1):Int⊕Unit) else if l[i].1<l[i - 1].1 then .inl 1 else if l[i - 1].2<l[i].2 then .inl (-1) else if l[i].2<l[i - 1].2 then .inl 1 else .inr ())=.inr ())):=by
      unfold uM
      generalize l[i - 1]=p
      generalize l[i]=r
      by_cases a1:p.1<r.1
      ·exact .inl ⟨by simp[a1],by rw[Yq a1]⟩
      ·by_cases a2:r.1<p.1
       ·exact .inr ⟨by simp[a1]; intro e; omega,.inl (by rw[Yp a1,Yq a2])⟩
       ·have e:p.1=r.1:=by omega
        by_cases a3:p.2<r.2
        ·exact .inl ⟨by simp[e,a3],by rw[Yp a1,Yp a2,Yq a3]⟩
        ·refine .inr ⟨by simp[e,a3],?_⟩
         by_cases a4:r.2<p.2
         ·exact .inl (by rw[Yp a1,Yp a2,Yp a3,Yq a4])
         ·exact .inr (by rw[Yp a1,Yp a2,Yp a3,Yp a4])
     rcases key with ⟨k1,k2⟩ | ⟨k1,k2 | k2⟩
     ·rw[k1,k2]
      simp only[YP]
      exact ih
     ·rw[k1,k2]
      exact .inr ⟨r9,rfl⟩
     ·rw[k1,k2]
      exact .inr ⟨r9,rfl⟩
    ·obtain rfl:i=0:=by omega
     have hp0:gj l 0=none:=rfl
     rw[hp0,show decide ((0:Int)<((0:Nat):Int))=false from rfl]
     simp only[Yh,Yf,YP]
     exact ih
  ·rw[YB.2 r7]
   unfold ib
   rw[show decide ((i:Int)<(l.length:Int))=false by simpa using hlt,Yh]
   exact .inl ⟨rfl,rfl⟩
def A6 (x:bh):Bool:=decide (x.Queue.length<=4096)&&x.Queue.all kl&&yf none x.Apart
theorem AG (l:List ay):(l.any fun p=>!kl p) = !l.all kl:=by
 induction l with
 | nil=>rfl
 | cons x l ih=>rw[qbM,Z8,ih]; cases kl x<;>simp
theorem Nk (x:bh) (hA:x.Apart.length<=4611686018427387904):Li x=some (if A6 x=true then 0 else 60):=by
 unfold Li O3 A6
 by_cases hq:x.Queue.length<=4096
 ·have hq':decide ((4096:Int)<(x.Queue.length:Int))=false:=by simp; omega
  have hqf:x.Queue.length<=4611686018427387904:=YG hq (by decide)
  rw[hq',Yh,SJ _ hqf,Yf,Yf,AG,Yl hq]
  cases x.Queue.all kl with
  | false=>rfl
  | true=>
   simp only[Yv,Yh,YP]
   have h13:=Ni aA 0 x.Queue x.Apart hA (aA+8) 0 (Yx _) s5
   have e:gj x.Apart 0=none:=rfl
   rw[e,YL,show ((0:Nat):Int)=0 from rfl] at h13
   rcases h13 with ⟨h1,h2⟩ | ⟨h1,h2⟩
   ·rw[h2,h1]; rfl
   ·rw[h2,h1]; rfl
 ·have hq':decide ((4096:Int)<(x.Queue.length:Int))=true:=by simp; omega
  rw[hq',Yi,Yf,Ys hq]
  rfl
def site (a:Int):Bool:=decide (0<=a)&&decide (a<24)
theorem Gw (a:Int):Ip a=some (site a):=by
 unfold Ip Po site
 cases decide (0<=a)<;>rfl
theorem Nq (p:ay):Lo p=some (kl p):=by
 unfold Lo Pn
 rw[Gw,Gw]
 have key:kl p=(site p.From&&site p.To&&(p.From != p.To)&&decide ((p.Data.length:Int)<=1048576)):=by
  unfold kl wm site
  generalize decide ((p.Data.length:Int)<=1048576)=d
  congr 1
  rw[Zg]
  simp only[Yj,Yn,bne_iff_ne,ne_eq]
  split<;>split<;>omega
 rw[key]
 cases site p.From<;>cases site p.To<;>cases (p.From != p.To)<;>rfl
theorem Js (n:Nat) (A:List (Int×Int)) (l:List ay) (hl:l.length<=4611686018427387904):∀ (m i:Nat),i<=l.length->l.length - i<m ->
  lj n l A m (i:Int)=some (if (l.drop i).any (fun p=>!kl p)=true then .inl 60 else .inr ())
 | 0,i,_,h=>absurd h (YC _)
 | m+1,i,hi,h=>by
  unfold lj
  by_cases hlt:i<l.length
  ·rw[show decide ((i:Int)<(l.length:Int))=true by simpa using hlt,Yi,aY,Yg hlt,Yf,Nq,Yf,mH r7,Yt hlt,qbM]
   cases hp:kl l[i] with
   | false=>rfl
   | true=>
    simp only[Yv,Yh,Bool.false_or]
    exact Js n A l hl m (i+1) r7 r7
  ·rw[show decide ((i:Int)<(l.length:Int))=false by simpa using hlt,Yh,YB.2 r7]
   rfl
theorem Jt (n:Nat) (v15:Int) (q:List ay) (l:List (Int×Int)) (hl:l.length<=4611686018427387904):∀ (m i:Nat),i<=l.length->l.length - i<m ->
  (yf (gj l i) (l.drop i)=true/\jk n v15 q l m (i:Int)=some (.inr ()))∨(yf (gj l i) (l.drop i)=false/\jk n v15 q l m (i:Int)=some (.inl 60))
 | 0,i,_,h=>absurd h (YC _)
 | m+1,i,hi,h=>by
  by_cases hlt:i<l.length
  ·have ih:=Jt n v15 q l hl m (i+1) r7 r7
   have hp:gj l (i+1)=some l[i]:=by unfold gj; rw[Yp r7]; exact Yg hlt
   rw[hp] at ih
   rw[Yt hlt]
   unfold yf jk
   rw[show decide ((i:Int)<(l.length:Int))=true by simpa using hlt,Yi,aY,Yg hlt,Yf,Gw,Yf,Gw,mH r7]
   have hok:wm l[i]=(site l[i].1&&site l[i].2&&!decide (l[i].2<=l[i].1)):=by
    unfold wm site
    rw[Zg]
    simp only[Yj,Yn,Ze,Zn]
    omega
   rw[hok]
   cases site l[i].1 with
   | false=>exact .inr ⟨rfl,rfl⟩
   | true=>cases site l[i].2 with
    | false=>exact .inr ⟨rfl,rfl⟩
    | true=>
     simp only[Yv,Yh,Yf,YP]
     cases hle:decide (l[i].2<=l[i].1) with
     | true=>exact .inr ⟨rfl,rfl⟩
     | false=>
      simp only[Yh,qaf,YP]
      by_cases h0:0<i
      ·have hpi:gj l i=some l[i - 1]:=by unfold gj; rw[Yp r7]; exact Yg r7
       have hw:wr .i64 ((i:Int) - 1)=((i - 1:Nat):Int):=by
          rw[dE r7 r7]; omega
       rw[hpi,show decide ((0:Int)<(i:Int))=true by simpa using h0,Yi,hw,aY,Yg r7,Yf]
       simp only[Yf]
       have key:uM l[i - 1] l[i] = !(decide (l[i].1<l[i - 1].1) || ((l[i].1==l[i - 1].1)&&decide (l[i].2<=l[i - 1].2))):=by
        unfold uM
        rw[Zg]
        simp only[Zb,Yj,Yn,Zx,Ze,Zh,qa3,Zn,qab]
        omega
       simp only[key]
       cases decide (l[i].1<l[i - 1].1) with
       | true=>exact .inr ⟨rfl,rfl⟩
       | false=>
        cases hb:(l[i].1==l[i - 1].1) with
        | false=>simp only[Yh,qbF,qbi,qaf,YP]; exact ih
        | true=>cases decide (l[i].2<=l[i - 1].2) with
         | true=>exact .inr ⟨rfl,rfl⟩
         | false=>simp only[Yh,Yi,Bool.and_false,qbi,qaf,YP]; exact ih
      ·obtain rfl:i=0:=by omega
       have hp0:gj l 0=none:=rfl
       rw[hp0,show decide ((0:Int)<((0:Nat):Int))=false from rfl]
       simp only[Yh,Yf,YP]
       exact ih
  ·rw[YB.2 r7]
   unfold jk
   rw[show decide ((i:Int)<(l.length:Int))=false by simpa using hlt,Yh]
   exact .inl ⟨rfl,rfl⟩
theorem Nl (x:bh) (hA:x.Apart.length<=4611686018427387904):Lk x=some (if A6 x=true then 0 else 60):=by
 unfold Lk O8 A6
 by_cases hq:x.Queue.length<=4096
 ·have hq':decide ((4096:Int)<(x.Queue.length:Int))=false:=by simp; omega
  have hqf:x.Queue.length<=4611686018427387904:=YG hq (by decide)
  have h0:=Js aA x.Apart x.Queue hqf (aA+8) 0 (Yx _) s5
  rw[YL,show ((0:Nat):Int)=0 from rfl,AG] at h0
  rw[hq',Yh,h0,Yf,Yl hq]
  cases x.Queue.all kl with
  | false=>rfl
  | true=>
   have h13:=Jt aA 0 x.Queue x.Apart hA (aA+8) 0 (Yx _) s5
   have e:gj x.Apart 0=none:=rfl
   rw[e,YL,show ((0:Nat):Int)=0 from rfl] at h13
   rcases h13 with ⟨h1,h2⟩ | ⟨h1,h2⟩
   ·simp only[Yv,YM,qap,h2,h1]; rfl
   ·simp only[Yv,YM,qap,h2,h1]; rfl
 ·have hq':decide ((4096:Int)<(x.Queue.length:Int))=true:=by simp; omega
  rw[hq',Yi,Ys hq]
  rfl
theorem Nn (p:ay):LZ p p=some true:=by
 unfold LZ Pe
 simp[Ah]
theorem Ju (n:Nat) (A B:List (Int×Int)) (l:List ay) (hl:l.length<=4611686018427387904):∀ (m i:Nat),i<=l.length->l.length - i<m->kZ n l A l B m (i:Int)=some (.inr ())
 | 0,i,_,h=>absurd h (YC _)
 | m+1,i,hi,h=>by
  unfold kZ
  by_cases hlt:i<l.length
  ·rw[show decide ((i:Int)<(l.length:Int))=true by simpa using hlt,Yi,aY,Yg hlt,Yf,Yf,Nn,Yf,mH r7]
   exact Ju n A B l hl m (i+1) r7 r7
  ·rw[show decide ((i:Int)<(l.length:Int))=false by simpa using hlt]
   rfl
theorem Jv (n:Nat) (A B:List ay) (l:List (Int×Int)) (hl:l.length<=4611686018427387904):∀ (m i:Nat),i<=l.length->l.length - i<m->k9 n A l B l m (i:Int)=some (.inr ())
 | 0,i,_,h=>absurd h (YC _)
 | m+1,i,hi,h=>by
  unfold k9
  by_cases hlt:i<l.length
  ·rw[show decide ((i:Int)<(l.length:Int))=true by simpa using hlt,Yi,aY,Yg hlt,Yf,Yf,mH r7]
   simp only[Zk,Zt,Yv,Yh]
   exact Jv n A B l hl m (i+1) r7 r7
  ·rw[show decide ((i:Int)<(l.length:Int))=false by simpa using hlt]
   rfl
theorem Nm (x:bh) (h1:x.Queue.length<=4611686018427387904) (h2:x.Apart.length<=4611686018427387904):LN x x=some true:=by
 unfold LN OW
 have e1:=Ju aA x.Apart x.Apart x.Queue h1 (aA+8) 0 (Yx _) s5
 have e2:=Jv aA x.Queue x.Queue x.Apart h2 (aA+8) 0 (Yx _) s5
 rw[show ((0:Nat):Int)=0 from rfl] at e1 e2
 simp only[Y4,Yh,Yf,e1,e2]
theorem SI (x:bh):LI x=some (decide (x.Queue.length<=40)&&decide (x.Apart.length<=40)):=by
 unfold LI OL
 have e1:decide ((x.Queue.length:Int)<=40)=decide (x.Queue.length<=40):=X3
 have e2:decide ((x.Apart.length:Int)<=40)=decide (x.Apart.length<=40):=X3
 rw[e1,e2]
 cases decide (x.Queue.length<=40)<;>rfl
theorem Fs {T:Type} (l:List T):iB l 0 (l.length:Int)=some l:=by
 unfold iB
 simp
theorem oH {a b:Int} (h:a≠b):(a != b)=true:=by simpa using h
theorem DF {a b:Int} (h:a≠b):(a==b)=false:=by simpa using h
def xW (x:ar):Bool:=x.Kind==1
def lP:List ar->Option (bL⊕bj)
 | [x0,x1,x2,x3,x4]=>if x0.N=1/\[x0,x1,x2,x3,x4].all xW=true then some (.inl ⟨x1.N,x2.N,x3.N,x4.N⟩) else none
 | [x0,x1,x2,x3]=>if x0.N=2/\[x0,x1,x2,x3].all xW=true then some (.inr ⟨x1.N,x2.N,x3.N⟩) else none
 | _=>none
def msg (bs:List UInt8):Option (bL⊕bj):=if (jB bs).2=0/\(jB bs).1.Kind=3 then lP (jB bs).1.L else none
theorem SF {bs:List UInt8} (h:bs.length<=1100000):(jB bs).1.L.length<=1100000:=by
 rcases zs bs with ⟨v,e⟩ | e
 ·obtain ⟨_,_,_,h4⟩:=AJ h e
  rw[e]
  have:=eA v.L
  rw[eI] at h4
  show v.L.length<=_
  omega
 ·rw[e]; exact Yx _
theorem El (n:Nat) (v:ar) (hl:v.L.length<=1100000):∀ (m i:Nat) (acc:List Int),i<=v.L.length->v.L.length - i<m->acc.length<=i ->
  lu n v m (i:Int) acc=some (if (v.L.drop i).all xW=true then .inr (acc++(v.L.drop i).map (·.N)) else .inl false)
 | 0,i,_,_,h,_=>absurd h (YC _)
 | m+1,i,acc,hi,h,ha=>by
  rw[lu]
  by_cases hlt:i<v.L.length
  ·rw[show decide ((i:Int)<(v.L.length:Int))=true by simpa using hlt,Yi,aY,Yg hlt,Yf,Yf,Yt hlt,Z8,Zc]
   by_cases hk:v.L[i].Kind=1
   ·rw[show (v.L[i].Kind != 1)=false by simp[hk],Yh,fc _ _ _ XZ,Yf,mH r7,El n v hl m (i+1) _ r7 r7 so,show xW v.L[i]=true by simp[xW,hk],YP]
    simp
   ·rw[oH hk,show xW v.L[i]=false by simp[xW,hk]]; rfl
  ·rw[show decide ((i:Int)<(v.L.length:Int))=false by simpa using hlt,Yh,YB.2 r7]
   simp
theorem Ox (bs:List UInt8) (h:bs.length<=1100000):Ll bs=some (if (jB bs).2=0/\(jB bs).1.Kind=3/\(jB bs).1.L.all xW=true then ((jB bs).1.L.map (·.N),true) else ([],false)):=by
 unfold Ll Pg
 rw[Xw bs h,Yf]
 have hl:=SF h
 by_cases h0:(jB bs).2=0
 ·by_cases h3:(jB bs).1.Kind=3
  ·simp only[h0,h3,Y4,Yh,Yf]
   have hw:=El aA (jB bs).1 hl (aA+8) 0 [] (Yx _) s5 (Yk _)
   rw[show ((0:Nat):Int)=0 from rfl,YL] at hw
   rw[hw]
   cases (jB bs).1.L.all xW<;>simp
  ·rw[Yp (fun hh=>h3 hh.2.1),h0,oH h3]; rfl
 ·rw[Yp (fun hh=>h0 hh.1),oH h0]; rfl
theorem TN (bs:List UInt8) (h:bs.length<=1100000):LQ bs=some (match msg bs with | some (.inl c)=>(c,true) | _=>(⟨0,0,0,0⟩,false)):=by
 unfold LQ OZ msg
 rw[Ox bs h,Yf]
 generalize jB bs=v
 obtain ⟨v,e⟩:=v
 by_cases h0:e=0/\v.Kind=3
 ·simp only[h0.1,h0.2,Z7,qas,and_self]
  match v.L with
  | []=>rfl
  | [_]=>simp only[lP]; split<;>rfl
  | [_,_]=>simp only[lP]; split<;>rfl
  | [_,_,_]=>simp only[lP]; split<;>rfl
  | [x0,x1,x2,x3]=>simp only[lP]; split<;>split<;>first | rfl | (rename_i q; split at q<;>cases q)
  | [x0,x1,x2,x3,x4]=>
   simp only[lP]
   by_cases ha:[x0,x1,x2,x3,x4].all xW=true
   ·by_cases hk:x0.N=1
    ·rw[Yq ha,Yq ⟨hk,ha⟩]; simp[hk,bf]
    ·rw[Yq ha,Yp (fun q=>hk q.1)]
     simp only[Zc,qaW,Yv,Yh,Yf,show bf [x0.N,x1.N,x2.N,x3.N,x4.N] 0=some x0.N from rfl,oH hk]
     rfl
   ·rw[Yp ha,Yp (fun q=>ha q.2)]; rfl
  | y0 :: y1 :: y2 :: y3 :: y4 :: y5 :: l=>
   simp only[lP]
   split
   ·have:(((List.map (fun x:ar=>x.N) (y0 :: y1 :: y2 :: y3 :: y4 :: y5 :: l)).length:Int) != 5)=true:=by simp; omega
    simp only[Yv,Yh,this,Yf,Yi]
   ·rfl
 ·rw[Yp h0,Yp (fun q=>h0 ⟨q.1,q.2.1⟩)]; rfl
theorem TU (bs:List UInt8) (h:bs.length<=1100000):LP bs=some (match msg bs with | some (.inr c)=>(c,true) | _=>(⟨0,0,0⟩,false)):=by
 unfold LP OY msg
 rw[Ox bs h,Yf]
 generalize jB bs=v
 obtain ⟨v,e⟩:=v
 by_cases h0:e=0/\v.Kind=3
 ·simp only[h0.1,h0.2,Z7,qas,and_self]
  match v.L with
  | []=>rfl
  | [_]=>simp only[lP]; split<;>rfl
  | [_,_]=>simp only[lP]; split<;>rfl
  | [_,_,_]=>simp only[lP]; split<;>rfl
  | [x0,x1,x2,x3,x4]=>simp only[lP]; split<;>split<;>first | rfl | (rename_i q; split at q<;>cases q)
  | [x0,x1,x2,x3]=>
   simp only[lP]
   by_cases ha:[x0,x1,x2,x3].all xW=true
   ·by_cases hk:x0.N=2
    ·rw[Yq ha,Yq ⟨hk,ha⟩]; simp[hk,bf]
    ·rw[Yq ha,Yp (fun q=>hk q.1)]
     simp only[Zc,qaW,Yv,Yh,Yf,show bf [x0.N,x1.N,x2.N,x3.N] 0=some x0.N from rfl,oH hk]
     rfl
   ·rw[Yp ha,Yp (fun q=>ha q.2)]; rfl
  | y0 :: y1 :: y2 :: y3 :: y4 :: y5 :: l=>
   simp only[lP]
   split
   ·have:(((List.map (fun x:ar=>x.N) (y0 :: y1 :: y2 :: y3 :: y4 :: y5 :: l)).length:Int) != 4)=true:=by simp; omega
    simp only[Yv,Yh,this,Yf,Yi]
   ·rfl
 ·rw[Yp h0,Yp (fun q=>h0 ⟨q.1,q.2.1⟩)]; rfl
theorem q1:wr .i64 (0+1)=1:=by decide +kernel
theorem q2:wr .i64 (1+1)=2:=by decide +kernel
theorem q3:wr .i64 (2+1)=3:=by decide +kernel
theorem q4:wr .i64 (3+1)=4:=by decide +kernel
theorem q5:wr .i64 (4+1)=5:=by decide +kernel
theorem KD (n:Nat) (z:Bool) (x0 x1 x2 x3 x4:ar) (z1 z2 z3:Int) (z4:ar) (a b c d e:Int) (m:Nat) :
  (dS n z [x0,x1,x2,x3,x4] 5 z1 z2 z3 z4 (m+6) 0 a b c d e=some (.inr (x0.N,x1.N,x2.N,x3.N,x4.N))/\[x0,x1,x2,x3,x4].all xW=true) ∨
  (∃ t,dS n z [x0,x1,x2,x3,x4] 5 z1 z2 z3 z4 (m+6) 0 a b c d e=some (.inl (false,t)))/\[x0,x1,x2,x3,x4].all xW=false:=by
 have g0:bf [x0,x1,x2,x3,x4] 0=some x0:=rfl
 have g1:bf [x0,x1,x2,x3,x4] 1=some x1:=rfl
 have g2:bf [x0,x1,x2,x3,x4] 2=some x2:=rfl
 have g3:bf [x0,x1,x2,x3,x4] 3=some x3:=rfl
 have g4:bf [x0,x1,x2,x3,x4] 4=some x4:=rfl
 simp only[Z8,List.all_nil,xW]
 rw[dS]
 simp only[Int.reduceEq,Int.reduceLT,YW,Zw,Yi,Yh,Yf,g0,q1,bne]
 cases x0.Kind==1
 ·exact .inr ⟨⟨_,rfl⟩,rfl⟩
 simp only[Yv,Yh]
 rw[dS]
 simp only[Int.reduceEq,Int.reduceLT,YW,Zw,Yi,Yh,Yf,g1,q2,bne]
 cases x1.Kind==1
 ·exact .inr ⟨⟨_,rfl⟩,rfl⟩
 simp only[Yv,Yh]
 rw[dS]
 simp only[Int.reduceEq,Int.reduceLT,YW,Zw,Yi,Yh,Yf,g2,q3,bne]
 cases x2.Kind==1
 ·exact .inr ⟨⟨_,rfl⟩,rfl⟩
 simp only[Yv,Yh]
 rw[dS]
 simp only[Int.reduceEq,Int.reduceLT,YW,Zw,Yi,Yh,Yf,g3,q4,bne]
 cases x3.Kind==1
 ·exact .inr ⟨⟨_,rfl⟩,rfl⟩
 simp only[Yv,Yh]
 rw[dS]
 simp only[Int.reduceEq,Int.reduceLT,YW,Zw,Yi,Yh,Yf,g4,q5,bne]
 cases x4.Kind==1
 ·exact .inr ⟨⟨_,rfl⟩,rfl⟩
 simp only[Yv,Yh]
 rw[dS]
 exact .inl ⟨rfl,rfl⟩
theorem Gu (n:Nat) (z:Bool) (x0 x1 x2 x3:ar) (z1 z2 z3 z5:Int) (z4:ar) (a b c d:Int) (m:Nat) :
  (dP n z [x0,x1,x2,x3] 4 z1 z2 z3 z5 z4 (m+5) 0 a b c d=some (.inr (x0.N,x1.N,x2.N,x3.N))/\[x0,x1,x2,x3].all xW=true) ∨
  (∃ t,dP n z [x0,x1,x2,x3] 4 z1 z2 z3 z5 z4 (m+5) 0 a b c d=some (.inl (false,t)))/\[x0,x1,x2,x3].all xW=false:=by
 have g0:bf [x0,x1,x2,x3] 0=some x0:=rfl
 have g1:bf [x0,x1,x2,x3] 1=some x1:=rfl
 have g2:bf [x0,x1,x2,x3] 2=some x2:=rfl
 have g3:bf [x0,x1,x2,x3] 3=some x3:=rfl
 simp only[Z8,List.all_nil,xW]
 rw[dP]
 simp only[Int.reduceEq,Int.reduceLT,YW,Zw,Yi,Yh,Yf,g0,q1,bne]
 cases x0.Kind==1
 ·exact .inr ⟨⟨_,rfl⟩,rfl⟩
 simp only[Yv,Yh]
 rw[dP]
 simp only[Int.reduceEq,Int.reduceLT,YW,Zw,Yi,Yh,Yf,g1,q2,bne]
 cases x1.Kind==1
 ·exact .inr ⟨⟨_,rfl⟩,rfl⟩
 simp only[Yv,Yh]
 rw[dP]
 simp only[Int.reduceEq,Int.reduceLT,YW,Zw,Yi,Yh,Yf,g2,q3,bne]
 cases x2.Kind==1
 ·exact .inr ⟨⟨_,rfl⟩,rfl⟩
 simp only[Yv,Yh]
 rw[dP]
 simp only[Int.reduceEq,Int.reduceLT,YW,Zw,Yi,Yh,Yf,g3,q4,bne]
 cases x3.Kind==1
 ·exact .inr ⟨⟨_,rfl⟩,rfl⟩
 simp only[Yv,Yh]
 rw[dP]
 exact .inl ⟨rfl,rfl⟩
theorem KG {x:ar} {l:List ar} (hk:x.N=1) (hl:l.length≠4):lP (x :: l)=none:=by
 match l with
 | []=>rfl
 | [_]=>rfl
 | [_,_]=>rfl
 | [_,_,_]=>simp only[lP]; exact Yp (fun q=>r7)
 | [_,_,_,_]=>exact absurd rfl hl
 | _ :: _ :: _ :: _ :: _ :: _=>rfl
theorem KH {x:ar} {l:List ar} (hk:x.N≠1) (hl:l.length≠3∨x.N≠2):lP (x :: l)=none:=by
 match l with
 | []=>rfl
 | [_]=>rfl
 | [_,_]=>rfl
 | [_,_,_]=>simp only[lP]; exact Yp (fun q=>by rcases hl with h | h; exact h rfl; exact h q.1)
 | [_,_,_,_]=>simp only[lP]; exact Yp (fun q=>hk q.1)
 | _ :: _ :: _ :: _ :: _ :: _=>rfl
theorem TQ (bs:List UInt8) (h:bs.length<=1100000):∃ r,LO bs=some r/\match msg bs with | some (.inl c)=>r=(⟨1,c,⟨0,0,0⟩⟩,true) | some (.inr c)=>r=(⟨2,⟨0,0,0,0⟩,c⟩,true) | none=>r.2=false:=by
 unfold LO OX msg
 rw[Xv bs h,Yf]
 generalize jB bs=v
 obtain ⟨v,e⟩:=v
 by_cases h0:e=0
 ·subst h0
  by_cases h3:v.Kind=3
  ·rw[Yq ⟨rfl,h3⟩]
   simp only[h3,Y4,Yh,Yf]
   match v.L with
   | []=>exact⟨_,rfl,rfl⟩
   | x :: L'=>
    have hne:(((x :: L').length:Int)==0)=false:=so
    simp only[hne,Yh,Yf,show bf (x :: L') 0=some x from rfl]
    by_cases hk:x.N=1
    ·simp only[hk,Zk,Yi,Y4,Yh,Yf]
     by_cases hl:L'.length=4
     ·obtain ⟨x1,x2,x3,x4,rfl⟩:∃ x1 x2 x3 x4,L'=[x1,x2,x3,x4]:=by
       match L',hl with | [x1,x2,x3,x4],_=>exact⟨x1,x2,x3,x4,rfl⟩
      have e5:((([x,x1,x2,x3,x4]:List ar).length:Int))=5:=rfl
      simp only[e5,Y4,Yh]
      simp only[lP]
      rcases KD aA false x x1 x2 x3 x4 0 0 0 v 1 0 0 0 0 (aA+2) with ⟨hw,ha⟩ | ⟨⟨⟨t1,t2,t3,t4,t5⟩,hw⟩,ha⟩
      ·rw[hw,Yq ⟨hk,ha⟩]
       exact⟨_,rfl,by simp only[hk]⟩
      ·rw[hw,Yp (fun q=>by rw[ha] at q; exact absurd q.2 Bool.false_ne_true)]
       exact⟨_,rfl,rfl⟩
     ·rw[KG hk hl,show (((x :: L').length:Int) != 5)=true by simp; omega]
      exact⟨_,rfl,rfl⟩
    ·simp only[DF hk,Yh,oH hk,Yi,Yf]
     by_cases hl:L'.length=3/\x.N=2
     ·obtain ⟨hl,h2⟩:=hl
      obtain ⟨x1,x2,x3,rfl⟩:∃ x1 x2 x3,L'=[x1,x2,x3]:=by
       match L',hl with | [x1,x2,x3],_=>exact⟨x1,x2,x3,rfl⟩
      have e5:((([x,x1,x2,x3]:List ar).length:Int))=4:=rfl
      simp only[e5,h2,Y4,Yh,Yf]
      simp only[lP]
      rcases Gu aA false x x1 x2 x3 0 0 0 0 v 2 0 0 0 (aA+3) with ⟨hw,ha⟩ | ⟨⟨⟨t1,t2,t3,t4⟩,hw⟩,ha⟩
      ·rw[hw,Yq ⟨h2,ha⟩]
       exact⟨_,rfl,by simp only[h2]⟩
      ·rw[hw,Yp (fun q=>by rw[ha] at q; exact absurd q.2 Bool.false_ne_true)]
       exact⟨_,rfl,rfl⟩
     ·rw[KH hk r7]
      by_cases h2:x.N=2
      ·rw[h2,show (((x :: L').length:Int) != 4)=true by simp; omega]
       exact⟨_,rfl,rfl⟩
      ·rw[oH h2]; exact⟨_,rfl,rfl⟩
  ·rw[Yp (fun q=>h3 q.2),oH h3]; exact⟨_,rfl,rfl⟩
 ·rw[Yp (fun q=>h0 q.1),oH h0]; exact⟨_,rfl,rfl⟩
section
def gb (a lo hi:Int):Bool:=decide (lo<=a)&&decide (a<=hi)
theorem Aj (a lo hi:Int):wM a lo hi=some (gb a lo hi):=by
 unfold wM OM gb
 cases decide (lo<=a)<;>rfl
theorem HU (a lo hi:Int):Cj a lo hi=some (gb a lo hi):=by
 unfold Cj O7 gb
 cases decide (lo<=a)<;>rfl
def jG (c:bL) (n:Int):Bool:=gb c.No 0 1048576&&gb c.Role 0 (wr .i64 (n - 1))&&gb c.Bar 0 4095&&gb c.Program 1 8
theorem Ov (c:bL) (n:Int):JO c n=some (jG c n):=by
 unfold JO O0 jG
 simp only[Aj,Yf]
 cases gb c.No 0 1048576<;>cases gb c.Role 0 (wr .i64 (n - 1))<;>cases gb c.Bar 0 4095<;>rfl
theorem Ow (c:bL) (n:Int):Lp c n=some (jG c n):=by
 unfold Lp Pp jG
 simp only[HU,Yf]
 cases gb c.No 0 1048576<;>cases gb c.Role 0 (wr .i64 (n - 1))<;>cases gb c.Bar 0 4095<;>rfl
theorem tf {c:bL} {n:Int} (h:jG c n=true):0<=c.Bar/\c.Bar<=4095:=by
 unfold jG gb at h
 simp only[Yj,Yn] at h
 exact h.1.2
def rb:List Int->List Int->Bool
 | a :: l,b :: m=>gb a 0 8&&!((b != a)&&(b != 0))&&rb l m
 | _,_=>true
theorem Jn (n:Nat) (x:aN) (hl:x.Got.length<=4611686018427387904) (hd:x.Did.length=x.Got.length):∀ (m i:Nat),i<=x.Got.length->x.Got.length - i<m ->
  la n x.Got (x.Got.length:Int) x m (i:Int)=some (bif rb (x.Got.drop i) (x.Did.drop i) then .inr () else .inl false)
 | 0,i,_,h=>absurd h (YC _)
 | m+1,i,hi,h=>by
  rw[la]
  by_cases hlt:i<x.Got.length
  ·have hlt':i<x.Did.length:=by omega
   rw[show decide ((i:Int)<(x.Got.length:Int))=true by simpa using hlt,Yi,aY,aY,Yg hlt,Yg hlt',Yf,Aj,Yf,Yt hlt,Yt hlt',mH r7,Jn n x hl hd m (i+1) r7 r7]
   simp only[rb,Yf]
   cases gb x.Got[i] 0 8<;>cases (x.Did[i] != x.Got[i])<;>cases (x.Did[i] != 0)<;>simp
  ·rw[show decide ((i:Int)<(x.Got.length:Int))=false by simpa using hlt,Yh,YB.2 r7]
   rfl
theorem Ey (n:Nat) (w:av) (x:aN) (hg:(x.Got.length:Int)=w.Bar) (hl:x.Got.length<=4611686018427387904) (hd:x.Did.length=x.Got.length):∀ (m i:Nat),i<=x.Got.length->x.Got.length - i<m ->
  ll n w x m (i:Int)=some (bif rb (x.Got.drop i) (x.Did.drop i) then .inr () else .inl false)
 | 0,i,_,h=>absurd h (YC _)
 | m+1,i,hi,h=>by
  rw[ll,<-hg]
  by_cases hlt:i<x.Got.length
  ·have hlt':i<x.Did.length:=by omega
   rw[show decide ((i:Int)<(x.Got.length:Int))=true by simpa using hlt,Yi,aY,aY,Yg hlt,Yg hlt',Yf,HU,Yf,Yt hlt,Yt hlt',mH r7,Ey n w x hg hl hd m (i+1) r7 r7]
   simp only[rb,Yf]
   cases gb x.Got[i] 0 8<;>cases (x.Did[i] != x.Got[i])<;>cases (x.Did[i] != 0)<;>simp
  ·rw[show decide ((i:Int)<(x.Got.length:Int))=false by simpa using hlt,Yh,YB.2 r7]
   rfl
def mL (role n:Int):Int->List bL->Bool
 | _,[]=>true
 | lo,c :: l=>jG c n&&(c.Role==role)&&!decide (c.Bar<lo)&&mL role n (c.Bar+1) l
theorem Jk (n:Nat) (role k:Int) (z:Bool) (x:aN) (hl:x.Cues.length<=4611686018427387904):∀ (m i:Nat) (lo:Int),i<=x.Cues.length->x.Cues.length - i<m ->
  lb n role k z x.Cues (x.Cues.length:Int) x m lo (i:Int)=some (bif mL role k lo (x.Cues.drop i) then .inr () else .inl false)
 | 0,i,_,_,h=>absurd h (YC _)
 | m+1,i,lo,hi,h=>by
  rw[lb]
  by_cases hlt:i<x.Cues.length
  ·rw[show decide ((i:Int)<(x.Cues.length:Int))=true by simpa using hlt,Yi,aY,Yg hlt,Yf,Ov,Yf,Yt hlt,mH r7]
   simp only[mL]
   cases hr:jG x.Cues[i] k with
   | false=>rfl
   | true=>
    obtain ⟨b1,b2⟩:=tf hr
    rw[dE r7 r7,Jk n role k z x hl m (i+1) _ r7 r7]
    simp only[bne]
    cases (x.Cues[i].Role==role)<;>cases decide (x.Cues[i].Bar<lo)<;>simp
  ·rw[show decide ((i:Int)<(x.Cues.length:Int))=false by simpa using hlt,Yh,YB.2 r7]
   rfl
theorem Eu (n:Nat) (role:Int) (z:Bool) (w:av) (x:aN) (hl:x.Cues.length<=4611686018427387904):∀ (m i:Nat) (lo:Int),i<=x.Cues.length->x.Cues.length - i<m->w.Bar<=lo->(i=0->lo=w.Bar)->(∀ c,0<i->x.Cues[i - 1]? = some c->lo=c.Bar+1) ->
  ln n role z w x m (i:Int)=some (bif mL role (w.Ears.length:Int) lo (x.Cues.drop i) then .inr () else .inl false)
 | 0,i,_,_,h,_,_,_=>absurd h (YC _)
 | m+1,i,lo,hi,h,h1,h2,h3=>by
  rw[ln]
  by_cases hlt:i<x.Cues.length
  ·rw[show decide ((i:Int)<(x.Cues.length:Int))=true by simpa using hlt,Yi,aY,Yg hlt,Yf,Ow,Yf,Yt hlt,mH r7]
   simp only[mL]
   cases hr:jG x.Cues[i] (w.Ears.length:Int) with
   | false=>rfl
   | true=>
    obtain ⟨b1,b2⟩:=tf hr
    simp only[bne,Yv,Yh,Yf,YP]
    cases hro:(x.Cues[i].Role==role) with
    | false=>rfl
    | true=>
     simp only[Yv,Yh,Yf,YP]
     by_cases hlo:x.Cues[i].Bar<lo
     ·rw[Yl hlo]
      by_cases hb:x.Cues[i].Bar<w.Bar
      ·rw[Yl hb]; rfl
      ·rw[Ys hb]
       have h0:0<i:=by
        rcases qav i with q | q
        ·have:=h2 q; omega
        ·exact q
       have hp:i - 1<x.Cues.length:=r7
       have hq:=h3 _ h0 (Yg hp)
       rw[show decide ((0:Int)<(i:Int))=true by simpa using h0]
       simp only[Yh,Yi]
       rw[dE r7 r7,show (i:Int) - 1=((i - 1:Nat):Int) by omega,aY,Yg hp,Yf,Yl r7]
       rfl
     ·rw[Ys hlo,Ys (by omega:¬ x.Cues[i].Bar<w.Bar)]
      have ih:=Eu n role z w x hl m (i+1) (x.Cues[i].Bar+1) r7 r7 r7 r7 (fun c _ hc=>by
       rw[qaz,Yg hlt] at hc
       rw[Option.some.inj hc])
      by_cases h0:0<i
      ·have hp:i - 1<x.Cues.length:=by omega
       have hq:=h3 _ h0 (Yg hp)
       rw[show decide ((0:Int)<(i:Int))=true by simpa using h0]
       simp only[Yh,Yi,qaf,YP]
       rw[dE r7 r7,show (i:Int) - 1=((i - 1:Nat):Int) by omega,aY,Yg hp,Yf,Ys r7]
       exact ih
      ·rw[show decide ((0:Int)<(i:Int))=false by simpa using h0]
       exact ih
  ·rw[show decide ((i:Int)<(x.Cues.length:Int))=false by simpa using hlt,Yh,YB.2 r7]
   rfl
def pO (x:aN) (role n bar:Int):Bool:=(x.Got.length:Int)==bar&&(x.Did.length:Int)==bar&&rb x.Got x.Did&&mL role n bar x.Cues
theorem TP (x:aN) (role n bar:Int) (h1:x.Got.length<=4611686018427387904) (h2:x.Cues.length<=4611686018427387904):LR x role n bar=some (pO x role n bar):=by
 unfold LR O4 pO
 simp only[bne]
 cases hg:((x.Got.length:Int)==bar) with
 | false=>rfl
 | true=>cases hd:((x.Did.length:Int)==bar) with
  | false=>rfl
  | true=>
   have e1:=eq_of_beq hg; have e2:=eq_of_beq hd
   have w1:=Jn aA x h1 r7 (aA+8) 0 (Yx _) s5
   have w2:=Jk aA role n false x h2 (aA+8) 0 bar (Yx _) s5
   rw[show ((0:Nat):Int)=0 from rfl,YL] at w1 w2
   rw[YL] at w1
   simp only[Yv,Yh,Yf,w1,w2,YP]
   cases rb x.Got x.Did<;>cases mL role n bar x.Cues<;>rfl
theorem TR (w:av) (role:Nat) (hr:role<w.Ears.length) (h1:w.Ears[role].Got.length<=4611686018427387904) (h2:w.Ears[role].Cues.length<=4611686018427387904):LS w (role:Int)=some (pO w.Ears[role] role (w.Ears.length:Int) w.Bar):=by
 unfold LS O9 pO
 rw[aY,Yg hr,Yf]
 generalize w.Ears[role]=x at *
 simp only[bne]
 cases hg:((x.Got.length:Int)==w.Bar) with
 | false=>rfl
 | true=>cases hd:((x.Did.length:Int)==w.Bar) with
  | false=>rfl
  | true=>
   have e1:=eq_of_beq hg; have e2:=eq_of_beq hd
   have w1:=Ey aA w x e1 h1 r7 (aA+8) 0 (Yx _) s5
   have w2:=Eu aA role false w x h2 (aA+8) 0 w.Bar (Yx _) s5 (qbf _) (fun _=>rfl) (fun _ h=>absurd h (ZZ _))
   rw[show ((0:Nat):Int)=0 from rfl,YL] at w1 w2
   rw[YL] at w1
   simp only[Yv,Yh,Yf,w1,w2,YP]
   cases rb x.Got x.Did<;>cases mL role (w.Ears.length:Int) w.Bar x.Cues<;>rfl
def F4 (w:av) (r:bj):Bool:=match bf w.Ears r.Role with
 | some y=>match bf y.Did r.Bar with
  | some d=>d==r.Program
  | none=>false
 | none=>false
def HI (w:av) (p:ay):Bool:=match msg p.Data with
 | some (.inl c)=>jG c (w.Ears.length:Int)&&(p.From==0)&&(p.To==wr .i64 (c.Role+1))
 | some (.inr r)=>gb r.Role 0 ((w.Ears.length:Int) - 1)&&gb r.Bar 0 (w.Bar - 1)&&(p.From==wr .i64 (r.Role+1))&&(p.To==0)&&F4 w r
 | none=>false
def Cl (w:av):Prop:=∀ x∈w.Ears,(x.Did.length:Int)=w.Bar
theorem Mo {w:av} {r:bj} (he:Cl w) (h1:gb r.Role 0 ((w.Ears.length:Int) - 1)=true) (h2:gb r.Bar 0 (w.Bar - 1)=true):(Option.bind (bf w.Ears r.Role) fun y=>Option.bind (bf y.Did r.Bar) fun z=>some (z==r.Program))=some (F4 w r):=by
 unfold gb at h1 h2
 simp only[Yj,Yn] at h1 h2
 unfold F4
 have e1:r.Role=((r.Role.toNat:Nat):Int):=r7
 have e2:r.Bar=((r.Bar.toNat:Nat):Int):=r7
 have l1:r.Role.toNat<w.Ears.length:=r7
 rw[e1,aY,Yg l1]
 have l2:r.Bar.toNat<w.Ears[r.Role.toNat].Did.length:=by have:=he _ (YH l1); omega
 simp only[Yf]
 rw[e2,aY,Yg l2]
 rfl
theorem TS (w:av) (p:ay) (he:Cl w) (hn:w.Ears.length<=12) (hb:-1<=w.Bar/\w.Bar<=4096) (hp:p.Data.length<=1100000):LU w p=some (HI w p):=by
 unfold LU Pa HI
 rw[TN _ hp,TU _ hp]
 simp only[Ow,HU,Yf]
 rw[dE (n:=(w.Ears.length:Int) - 1) r7 r7,dE (n:=w.Bar - 1) r7 r7]
 match msg p.Data with
 | none=>cases (p.From==0)<;>rfl
 | some (.inl c)=>
  simp only
  cases (p.From==0) with
  | false=>simp
  | true=>cases jG c (w.Ears.length:Int)<;>simp
 | some (.inr r)=>
  simp only
  by_cases h0:p.From=0
  ·simp only[h0,Zk,Yi,Yh,Yf]
   cases hr:gb r.Role 0 ((w.Ears.length:Int) - 1) with
   | false=>rfl
   | true=>
    unfold gb at hr
    simp only[Yj,Yn] at hr
    rw[dE r7 r7,DF (by omega:(0:Int)≠r.Role+1)]
    simp
  ·simp only[DF h0,Yh,Yi,Yf]
   cases hr:gb r.Role 0 ((w.Ears.length:Int) - 1) with
   | false=>cases (p.To==0)<;>cases (p.From==wr .i64 (r.Role+1))<;>rfl
   | true=>cases hb':gb r.Bar 0 (w.Bar - 1) with
    | false=>cases (p.To==0)<;>cases (p.From==wr .i64 (r.Role+1))<;>rfl
    | true=>
     have hd:=Mo he hr hb'
     cases (p.To==0)<;>cases (p.From==wr .i64 (r.Role+1))<;>simp[hd]
theorem Jm (n:Nat) (z:Int) (w:av) (hl:w.Ears.length<=12) (hg:∀ x∈w.Ears,x.Got.length<=4611686018427387904/\x.Cues.length<=4611686018427387904):∀ (m i:Nat),i<=w.Ears.length->w.Ears.length - i<m ->
  kR n z (w.Ears.length:Int) w.Ears (w.Ears.length:Int) w m (i:Int)=some (if ∀ j (h:j<w.Ears.length),i<=j->pO w.Ears[j] j (w.Ears.length:Int) w.Bar=true then .inr () else .inl 490)
 | 0,i,_,h=>absurd h (YC _)
 | m+1,i,hi,h=>by
  rw[kR]
  by_cases hlt:i<w.Ears.length
  ·obtain ⟨a1,a2⟩:=hg _ (YH hlt)
   rw[show decide ((i:Int)<(w.Ears.length:Int))=true by simpa using hlt,Yi,aY,Yg hlt,Yf,TP _ _ _ _ a1 a2,Yf]
   cases he:pO w.Ears[i] i (w.Ears.length:Int) w.Bar with
   | false=>
    rw[Yp (fun q=>by rw[q i hlt (Yk _)] at he; cases he)]; rfl
   | true=>
    rw[mH r7,Jm n z w hl hg m (i+1) r7 r7]
    simp only[Yv,Yh]
    refine YX some (qaX (propext ⟨fun q j hj hij=>?_,fun q j hj hij=>q j hj r7⟩) (fun _=>rfl) (fun _=>rfl))
    rcases qai hij with rfl | h2
    ·exact he
    ·exact q j hj h2
  ·rw[show decide ((i:Int)<(w.Ears.length:Int))=false by simpa using hlt,Yh,Yq (fun j hj hij=>r7)]
theorem Ex (n:Nat) (w:av) (hl:w.Ears.length<=12) (hg:∀ x∈w.Ears,x.Got.length<=4611686018427387904/\x.Cues.length<=4611686018427387904):∀ (m i:Nat),i<=w.Ears.length->w.Ears.length - i<m ->
  kU n w m (i:Int)=some (if ∀ j (h:j<w.Ears.length),i<=j->pO w.Ears[j] j (w.Ears.length:Int) w.Bar=true then .inr () else .inl 490)
 | 0,i,_,h=>absurd h (YC _)
 | m+1,i,hi,h=>by
  rw[kU]
  by_cases hlt:i<w.Ears.length
  ·obtain ⟨a1,a2⟩:=hg _ (YH hlt)
   rw[show decide ((i:Int)<(w.Ears.length:Int))=true by simpa using hlt,Yi,TR _ _ hlt a1 a2,Yf]
   cases he:pO w.Ears[i] i (w.Ears.length:Int) w.Bar with
   | false=>
    rw[Yp (fun q=>by rw[q i hlt (Yk _)] at he; cases he)]; rfl
   | true=>
    rw[mH r7,Ex n w hl hg m (i+1) r7 r7]
    simp only[Yv,Yh]
    refine YX some (qaX (propext ⟨fun q j hj hij=>?_,fun q j hj hij=>q j hj r7⟩) (fun _=>rfl) (fun _=>rfl))
    rcases qai hij with rfl | h2
    ·exact he
    ·exact q j hj h2
  ·rw[show decide ((i:Int)<(w.Ears.length:Int))=false by simpa using hlt,Yh,Yq (fun j hj hij=>r7)]
theorem Jo (n:Nat) (z:Int) (w:av) (he:Cl w) (hn:w.Ears.length<=12) (hb:-1<=w.Bar/\w.Bar<=4096) (hp:∀ p∈w.Net.Queue,p.Data.length<=1100000) (hq:w.Net.Queue.length<=4096):∀ (m i:Nat),i<=w.Net.Queue.length->w.Net.Queue.length - i<m ->
  ji n z (w.Ears.length:Int) w.Net.Queue (w.Net.Queue.length:Int) w m (i:Int)=some (bif (w.Net.Queue.drop i).all (HI w) then .inr () else .inl 490)
 | 0,i,_,h=>absurd h (YC _)
 | m+1,i,hi,h=>by
  rw[ji]
  by_cases hlt:i<w.Net.Queue.length
  ·obtain ⟨r,hr,hm⟩:=TQ w.Net.Queue[i].Data (hp _ (YH hlt))
   rw[show decide ((i:Int)<(w.Net.Queue.length:Int))=true by simpa using hlt,Yi,aY,Yg hlt,Yf,hr,Yf,Yt hlt,Z8,mH r7,Jo n z w he hn hb hp hq m (i+1) r7 r7]
   simp only[Ov,Aj,Yf]
   rw[dE (n:=(w.Ears.length:Int) - 1) r7 r7,dE (n:=w.Bar - 1) r7 r7]
   unfold HI
   generalize w.Net.Queue[i]=p at *
   match hg:msg p.Data,hm with
   | none,hm=>
    simp only[show r.2=false from hm]
    simp
   | some (.inl c),hm=>
    simp only at hm
    subst hm
    simp only[Zk,Yi,Yf]
    cases jG c (w.Ears.length:Int)<;>cases (p.From==0)<;>cases (p.To==wr .i64 (c.Role+1))<;>simp
   | some (.inr c),hm=>
    simp only at hm
    subst hm
    simp only[show ((2:Int)==1)=false from rfl,Yi,Yh,Yf]
    cases hr':gb c.Role 0 ((w.Ears.length:Int) - 1) with
    | false=>simp
    | true=>cases hb':gb c.Bar 0 (w.Bar - 1) with
     | false=>simp
     | true=>
      have hd:=Mo he hr' hb'
      simp only[Yi,Yf]
      cases (p.From==wr .i64 (c.Role+1)) with
      | false=>simp
      | true=>cases (p.To==0) with
       | false=>simp
       | true=>
        simp only[Yi,Yf,hd]
        cases F4 w c<;>simp
  ·rw[show decide ((i:Int)<(w.Net.Queue.length:Int))=false by simpa using hlt,Yh,YB.2 r7]
   rfl
theorem EB (n:Nat) (w:av) (he:Cl w) (hn:w.Ears.length<=12) (hb:-1<=w.Bar/\w.Bar<=4096) (hp:∀ p∈w.Net.Queue,p.Data.length<=1100000) (hq:w.Net.Queue.length<=4096):∀ (m i:Nat),i<=w.Net.Queue.length->w.Net.Queue.length - i<m ->
  kV n w m (i:Int)=some (bif (w.Net.Queue.drop i).all (HI w) then .inr () else .inl 490)
 | 0,i,_,h=>absurd h (YC _)
 | m+1,i,hi,h=>by
  rw[kV]
  by_cases hlt:i<w.Net.Queue.length
  ·rw[show decide ((i:Int)<(w.Net.Queue.length:Int))=true by simpa using hlt,Yi,aY,Yg hlt,Yf,TS w _ he hn hb (hp _ (YH hlt)),Yf,Yt hlt,Z8,mH r7,EB n w he hn hb hp hq m (i+1) r7 r7]
   cases HI w w.Net.Queue[i]<;>simp
  ·rw[show decide ((i:Int)<(w.Net.Queue.length:Int))=false by simpa using hlt,Yh,YB.2 r7]
   rfl
def okW (w:av):Prop:=(1<=w.Ears.length/\w.Ears.length<=12)/\(0<=w.Bar/\w.Bar<=4096)/\A6 w.Net=true/\(∀ j (h:j<w.Ears.length),pO w.Ears[j] j (w.Ears.length:Int) w.Bar=true)/\w.Net.Queue.all (HI w)=true
def Fit (w:av):Prop:=w.Net.Apart.length<=4611686018427387904/\∀ x∈w.Ears,x.Got.length<=4611686018427387904/\x.Cues.length<=4611686018427387904
open Classical in
noncomputable def mW (w:av):Int:=if okW w then 0 else 490
theorem xi {w:av} (h:okW w):mW w=0:=Yq h
theorem gu {w:av} (h:¬ okW w):mW w=490:=Yp h
theorem GB {p:ay} (h:kl p=true):p.Data.length<=1100000:=by
 unfold kl at h
 simp only[Yj,Yn] at h
 omega
theorem sX {x:bh} (h:A6 x=true):x.Queue.length<=4096/\∀ p∈x.Queue,p.Data.length<=1100000:=by
 unfold A6 at h
 simp only[Yj,Yn,Yw] at h
 exact⟨h.1.1,fun p hp=>GB (h.1.2 p hp)⟩
theorem rA {w:av} (h:∀ j (h:j<w.Ears.length),pO w.Ears[j] j (w.Ears.length:Int) w.Bar=true):Cl w:=fun x hx=>by
 obtain ⟨j,hj,rfl⟩:=Zf hx
 have:=h j hj
 unfold pO at this
 simp only[Yj] at this
 exact eq_of_beq this.1.1.2
theorem Oq (w:av) (hf:Fit w):FL w=some (mW w):=by
 unfold FL OJ
 simp only[Aj,Nk _ hf.1,Yf]
 by_cases h1:1<=w.Ears.length/\w.Ears.length<=12
 ·have e1:gb (w.Ears.length:Int) 1 12=true:=by unfold gb; simp; omega
  by_cases h2:0<=w.Bar/\w.Bar<=4096
  ·have e2:gb w.Bar 0 4096=true:=by unfold gb; simp; omega
   cases h3:A6 w.Net with
   | false=>rw[gu (fun q=>by rw[q.2.2.1] at h3; cases h3),e1,e2]; rfl
   | true=>
    obtain ⟨q1,q2⟩:=sX h3
    have w1:=Jm aA 0 w h1.2 hf.2 (aA+8) 0 (Yx _) s5
    rw[show ((0:Nat):Int)=0 from rfl] at w1
    simp only[e1,e2,Yv,Yh,Yf,qas,Y4,w1]
    by_cases h4:∀ j (h:j<w.Ears.length),pO w.Ears[j] j (w.Ears.length:Int) w.Bar=true
    ·have w2:=Jo aA 0 w (rA h4) h1.2 r7 q2 q1 (aA+8) 0 (Yx _) s5
     rw[show ((0:Nat):Int)=0 from rfl,YL] at w2
     rw[Yq (fun j h _=>h4 j h)]
     simp only[w2]
     cases h5:w.Net.Queue.all (HI w) with
     | false=>rw[gu (fun q=>by rw[q.2.2.2.2] at h5; cases h5)]; rfl
     | true=>rw[xi ⟨h1,h2,h3,h4,h5⟩]; rfl
    ·rw[Yp (fun q=>h4 (fun j h=>q j h (Yx _))),gu (fun q=>h4 q.2.2.2.1)]
  ·have e2:gb w.Bar 0 4096=false:=by unfold gb; rw[ZP]; intro q; simp only[Yj,Yn] at q; exact h2 q
   rw[gu (fun q=>h2 q.2.1),e1,e2]; rfl
 ·have e1:gb (w.Ears.length:Int) 1 12=false:=by unfold gb; rw[ZP]; intro q; simp only[Yj,Yn] at q; exact h1 r7
  rw[gu (fun q=>h1 q.1),e1]; rfl
theorem Ot (w:av) (hf:Fit w):Lg w=some (mW w):=by
 unfold Lg OP
 simp only[HU,Nl _ hf.1,Yf]
 by_cases h1:1<=w.Ears.length/\w.Ears.length<=12
 ·have a1:decide ((w.Ears.length:Int)<1)=false:=by rw[Zn]; omega
  have a2:decide (12<(w.Ears.length:Int))=false:=X6
  by_cases h2:0<=w.Bar/\w.Bar<=4096
  ·have e2:gb w.Bar 0 4096=true:=by unfold gb; simp; omega
   cases h3:A6 w.Net with
   | false=>rw[gu (fun q=>by rw[q.2.2.1] at h3; cases h3),a1,a2,e2]; rfl
   | true=>
    obtain ⟨q1,q2⟩:=sX h3
    have w1:=Ex aA w h1.2 hf.2 (aA+8) 0 (Yx _) s5
    rw[show ((0:Nat):Int)=0 from rfl] at w1
    simp only[a1,a2,e2,Yv,Yh,Yf,qas,Y4,w1]
    by_cases h4:∀ j (h:j<w.Ears.length),pO w.Ears[j] j (w.Ears.length:Int) w.Bar=true
    ·have w2:=EB aA w (rA h4) h1.2 r7 q2 q1 (aA+8) 0 (Yx _) s5
     rw[show ((0:Nat):Int)=0 from rfl,YL] at w2
     rw[Yq (fun j h _=>h4 j h)]
     simp only[w2]
     cases h5:w.Net.Queue.all (HI w) with
     | false=>rw[gu (fun q=>by rw[q.2.2.2.2] at h5; cases h5)]; rfl
     | true=>rw[xi ⟨h1,h2,h3,h4,h5⟩]; rfl
    ·rw[Yp (fun q=>h4 (fun j h=>q j h (Yx _))),gu (fun q=>h4 q.2.2.2.1)]
  ·have e2:gb w.Bar 0 4096=false:=by unfold gb; rw[ZP]; intro q; simp only[Yj,Yn] at q; exact h2 q
   rw[gu (fun q=>h2 q.2.1),a1,a2,e2]; rfl
 ·rw[gu (fun q=>h1 q.1)]
  by_cases a1:(w.Ears.length:Int)<1
  ·rw[Yl a1]; rfl
  ·rw[Ys a1,Yl r7]; rfl
end
theorem TC:G5=some true:=r8
def vI (n:Int):ar:=.mk 1 n ByteArray.empty []
def vL (l:List Int):ar:=.mk 3 0 ByteArray.empty (l.map vI)
theorem D9:dg 0:=X7
theorem RJ:dg 1:=X7
theorem RK:dg 2:=X7
theorem RL:dg 3:=X7
theorem Ky (n:Int):sD (vI n)=true:=by
 rw[nw]
 show (emp ByteArray.empty&&(((0:Nat):Int)==0))=true
 decide +kernel
theorem AU:∀ l:List Int,kI (l.map vI)=true
 | []=>pX
 | n :: l=>by rw[Zc,lI,Ky,AU l]; rfl
theorem Kz (l:List Int):sD (vL l)=true:=by
 rw[nw]
 show (kI (l.map vI)&&(((0:Int)==0)&&emp ByteArray.empty))=true
 rw[AU]; decide +kernel
theorem Ki (n:Int):dep (vI n)=0:=by rw[oI]; rfl
theorem AK:∀ l:List Int,nd (l.map vI)=0
 | []=>ng
 | n :: l=>by rw[Zc,lG,Ki,AK l]; rfl
theorem Ke (l:List Int):jm (vL l)=0:=by
 unfold jm
 rw[Kz,oI]
 show (bif true then bif decide (16<nd (l.map vI)+1) then (2:Int) else 0 else 1)=0
 rw[AK]; rfl
theorem KJ (n:Int):mT (vI n)=1:=by rw[eI]; show 1+0 / 200+lS []=1; rw[lT]
theorem A4:∀ l:List Int,lS (l.map vI)=l.length
 | []=>lT
 | n :: l=>by rw[Zc,jQ,KJ,A4 l,YD]; omega
theorem EM (l:List Int):mT (vL l)=1+l.length:=by rw[eI]; show 1+0 / 200+lS (l.map vI)=_; rw[A4]
theorem NB {n:Int} (h:dg n):bV (vI n):=(dL _).2 ⟨RJ,h,Yx _,Yx _,fun _ q=>by cases q⟩
theorem Jx {l:List Int} (h:∀ n∈l,dg n) (hl:l.length<=1000):bV (vL l):=(dL _).2 ⟨RL,D9,Yx _,by show (l.map vI).length<=_; rw[ZR]; exact YG hl (by decide),fun z hz=>by
 obtain ⟨n,hn,rfl⟩:=qaU.1 hz
 exact NB (h n hn)⟩
theorem AN (l:List Int):BN (vL l)=(jn (vL l),0):=by unfold BN; rw[Ke]; rfl
theorem Gc {l:List Int} (h:∀ n∈l,dg n) (hl:l.length<=1000):JR (vL l)=some (jn (vL l),0):=by
 have h1:=Xs (vL l) (Jx h hl) (by rw[EM]; omega)
 rw[AN] at h1
 exact h1
theorem Gd {l:List Int} (h:∀ n∈l,dg n) (hl:l.length<=1000):Lq (vL l)=some (jn (vL l),0):=by
 have h2:=Xt (vL l) (Jx h hl) (by rw[EM]; omega)
 rw[AN] at h2
 exact h2
def Fa (r:bj):List Int:=[2,r.Role,r.Bar,r.Program]
def wE (r:bj):List UInt8:=jn (vL (Fa r))
theorem Bh {c:bj} (h:fQ c):∀ n∈Fa c,dg n:=by
 obtain ⟨h1,h2,h3⟩:=h
 intro n hn
 simp only[Fa,Y1,qae,or_false] at hn
 rcases hn with rfl | rfl | rfl | rfl
 ·exact RK
 all_goals assumption
theorem rS (l:List ar) (x:ar) (h:l.length<=1000):cQ 56 l [x]=some (l++[x]):=fc _ _ _ XZ
theorem Gt (n:Nat) (m:aU) (z1 z2:Int) (z3:ByteArray) (k:Nat):dZ n 4 m z1 z2 z3 (k+5) 0 []=some ([m.kind,m.report.Role,m.report.Bar,m.report.Program].map vI):=by
 rw[dZ]
 simp only[Int.reduceEq,Int.reduceLT,YW,Zw,Yi,Yh,Yf,q1]
 rw[rS _ _ r9,Yf,dZ]
 simp only[Int.reduceEq,Int.reduceLT,YW,Zw,Yi,Yh,Yf,q2]
 rw[rS _ _ r9,Yf,dZ]
 simp only[Int.reduceEq,Int.reduceLT,YW,Zw,Yi,Yh,Yf,q3]
 rw[rS _ _ r9,Yf,dZ]
 simp only[Int.reduceEq,Int.reduceLT,YW,Zw,Yi,Yh,Yf,q4]
 rw[rS _ _ r9,Yf,dZ]
 rfl
theorem JI {c:bj} (h:fQ c):JQ ⟨2,⟨0,0,0,0⟩,c⟩=some (wE c):=by
 unfold JQ O2
 have hw:=Gt aA ⟨2,⟨0,0,0,0⟩,c⟩ 3 0 ByteArray.empty (aA+3)
 rw[show aA+3+5=aA+8 from rfl] at hw
 simp only[show ((2:Int)==1)=false from rfl,Yh,hw,Yf]
 rw[show (ar.mk 3 0 ByteArray.empty ([2,c.Role,c.Bar,c.Program].map vI))=vL (Fa c) from rfl,Gc (Bh h) (YK rfl)]
 rfl
theorem Eo (n:Nat) (l:List Int) (z1 z2:Int) (z3:ByteArray) (hl:l.length<=1000):∀ (m i:Nat),i<=l.length->l.length - i<m ->
  lz n l z1 z2 z3 m (i:Int) ((l.take i).map vI)=some (l.map vI)
 | 0,i,_,h=>absurd h (YC _)
 | m+1,i,hi,h=>by
  rw[lz]
  by_cases hlt:i<l.length
  ·rw[show decide ((i:Int)<(l.length:Int))=true by simpa using hlt,Yi,aY,Yg hlt,Yf,show FH l[i]=some (vI l[i]) from rfl,Yf,rS _ _ so,Yf,mH r7,show (l.take i).map vI++[vI l[i]]=(l.take (i+1)).map vI by rw[List.take_add_one,qaT,Yg hlt]; rfl]
   exact Eo n l z1 z2 z3 hl m (i+1) r7 r7
  ·rw[show decide ((i:Int)<(l.length:Int))=false by simpa using hlt,Yh,Y3 r7]
theorem TT (l:List Int) (hl:l.length<=1000):L4 l=some (vL l):=by
 unfold L4 Pr
 have hw:=Eo aA l 3 0 ByteArray.empty hl (aA+8) 0 (Yx _) s5
 rw[show ((0:Nat):Int)=0 from rfl,qbD,qaW] at hw
 rw[hw]; rfl
def zW:av:=⟨⟨[],[]⟩,[],0⟩
theorem Em (n:Nat) (l:List Int) (hl:l.length<=4611686018427387904):∀ (m i:Nat),i<=l.length->l.length - i<m->lh n l l m (i:Int)=some (.inr ())
 | 0,i,_,h=>absurd h (YC _)
 | m+1,i,hi,h=>by
  rw[lh]
  by_cases hlt:i<l.length
  ·rw[show decide ((i:Int)<(l.length:Int))=true by simpa using hlt,Yi,aY,Yg hlt,Yf,Yf,Y4,Yh,mH r7]
   exact Em n l hl m (i+1) r7 r7
  ·rw[show decide ((i:Int)<(l.length:Int))=false by simpa using hlt]; rfl
theorem JJ (l:List Int) (hl:l.length<=4611686018427387904):Lj l l=some true:=by
 unfold Lj O5
 have hw:=Em aA l hl (aA+8) 0 (Yx _) s5
 rw[show ((0:Nat):Int)=0 from rfl] at hw
 rw[Y4,Yh,hw]; rfl
def JL (l:List aN):Prop:=l.length<=4611686018427387904/\∀ x∈l,x.Cues.length<=4611686018427387904/\x.Got.length<=4611686018427387904/\x.Did.length<=4611686018427387904
theorem A1 (n:Nat) (l:List aN) (j:Nat) (hj:j<l.length) (hl:l[j].Cues.length<=4611686018427387904):∀ (m i:Nat),i<=l[j].Cues.length->l[j].Cues.length - i<m->kT n l l (j:Int) m (i:Int)=some (.inr ())
 | 0,i,_,h=>absurd h (YC _)
 | m+1,i,hi,h=>by
  rw[kT,aY,Yg hj,Yf]
  by_cases hlt:i<l[j].Cues.length
  ·rw[show decide ((i:Int)<(l[j].Cues.length:Int))=true by simpa using hlt]
   simp only[Yi,aY,Yg hj,Yg hlt,Yf,mH (by omega:i<=4611686018427387904),Zk,Zt,Yv,Yh]
   exact A1 n l j hj hl m (i+1) r7 r7
  ·rw[show decide ((i:Int)<(l[j].Cues.length:Int))=false by simpa using hlt]; rfl
theorem A0 (n:Nat) (l:List aN) (hl:JL l) (hn:4611686018427387904<n):∀ (m i:Nat),i<=l.length->l.length - i<m->kS n l l m (i:Int)=some (.inr ())
 | 0,i,_,h=>absurd h (YC _)
 | m+1,i,hi,h=>by
  have hll:=hl.1
  rw[kS]
  by_cases hlt:i<l.length
  ·obtain ⟨a1,a2,a3⟩:=hl.2 _ (YH hlt)
   have hw:=A1 n l i hlt a1 (n+8) 0 (Yx _) r7
   rw[show ((0:Nat):Int)=0 from rfl] at hw
   rw[show decide ((i:Int)<(l.length:Int))=true by simpa using hlt,Yi,aY,Yg hlt]
   simp only[Yf,Y4,Yh,JJ _ a2,JJ _ a3,Yv,hw]
   rw[mH r7]
   exact A0 n l hl hn m (i+1) r7 r7
  ·rw[show decide ((i:Int)<(l.length:Int))=false by simpa using hlt]; rfl
theorem Ou (l:List aN) (hl:JL l):FM l l=some true:=by
 unfold FM OK
 have hw:=A0 aA l hl s5 (aA+8) 0 (Yx _) (by rw[fu]; have:=hl.1; omega)
 rw[show ((0:Nat):Int)=0 from rfl] at hw
 rw[Y4,Yh,hw]; rfl
def Cr (w:av):Prop:=JL w.Ears/\w.Net.Queue.length<=4611686018427387904/\w.Net.Apart.length<=4611686018427387904
theorem JH (w:av) (h:Cr w):Ld w w=some true:=by
 unfold Ld OI
 rw[Zk,Yi,Ou _ h.1,Nm _ h.2.1 h.2.2]; rfl
theorem mo:Cr zW:=⟨⟨Yx _,fun _ h=>by cases h⟩,Yx _,Yx _⟩
def wK (w:av):Prop:=w.Net.Queue.length<=40/\w.Net.Apart.length<=40/\w.Ears.length<=20/\∀ x∈w.Ears,x.Cues.length<=40/\x.Got.length<=5000/\x.Did.length<=5000
theorem Ji (n:Nat) (z:Bool) (w:av) (hl:w.Ears.length<=4611686018427387904):∀ (m i:Nat),i<=w.Ears.length->w.Ears.length - i<m ->
  ox n z w m (i:Int)=some (.inl false)∨(ox n z w m (i:Int)=some (.inr ())/\∀ x∈w.Ears.drop i,x.Cues.length<=40/\x.Got.length<=5000/\x.Did.length<=5000)
 | 0,i,_,h=>absurd h (YC _)
 | m+1,i,hi,h=>by
  rw[ox]
  by_cases hlt:i<w.Ears.length
  ·rw[show decide ((i:Int)<(w.Ears.length:Int))=true by simpa using hlt,Yi,aY,Yg hlt,Yf,mH r7,Yt hlt]
   have ih:=Ji n z w hl m (i+1) r7 r7
   generalize w.Ears[i]=x
   by_cases c1:x.Cues.length<=40
   ·by_cases c2:x.Got.length<=5000
    ·by_cases c3:x.Did.length<=5000
     ·have d1:decide ((40:Int)<(x.Cues.length:Int))=false:=by rw[Zn]; omega
      have d2:decide ((5000:Int)<(x.Got.length:Int))=false:=X6
      have d3:decide ((5000:Int)<(x.Did.length:Int))=false:=X6
      simp only[d1,d2,d3,Yh]
      cases decide ((60:Int)<(x.Got.length:Int)) with
      | false=>
       simp only[Yh,Yf]
       rcases ih with h' | ⟨h',hx⟩
       ·exact .inl h'
       ·refine .inr ⟨h',fun y hy=>?_⟩
        rcases Y1.1 hy with rfl | hy
        ·exact⟨c1,c2,c3⟩
        ·exact hx y hy
      | true=>
       simp only[Yi,Yf]
       cases decide ((x.Got.length:Int)<4094) with
       | true=>exact .inl rfl
       | false=>
        simp only[Yh,Yf]
        rcases ih with h' | ⟨h',hx⟩
        ·exact .inl h'
        ·refine .inr ⟨h',fun y hy=>?_⟩
         rcases Y1.1 hy with rfl | hy
         ·exact⟨c1,c2,c3⟩
         ·exact hx y hy
     ·have d3:decide ((5000:Int)<(x.Did.length:Int))=true:=by rw[Z3]; omega
      rw[d3]
      cases decide ((40:Int)<(x.Cues.length:Int))<;>cases decide ((60:Int)<(x.Got.length:Int))<;>cases decide ((x.Got.length:Int)<4094)<;>cases decide ((5000:Int)<(x.Got.length:Int))<;>exact .inl rfl
    ·have d2:decide ((5000:Int)<(x.Got.length:Int))=true:=by rw[Z3]; omega
     rw[d2]
     cases decide ((40:Int)<(x.Cues.length:Int))<;>cases decide ((60:Int)<(x.Got.length:Int))<;>cases decide ((x.Got.length:Int)<4094)<;>exact .inl rfl
   ·have d1:decide ((40:Int)<(x.Cues.length:Int))=true:=by rw[Z3]; omega
    rw[d1]
    exact .inl rfl
  ·rw[show decide ((i:Int)<(w.Ears.length:Int))=false by simpa using hlt,Yh,YB.2 r7]
   exact .inr ⟨rfl,fun _ q=>by cases q⟩
theorem XT (w:av):G6 w=some false∨(G6 w=some true/\wK w):=by
 unfold G6 F6
 rw[SI,Yf]
 by_cases h1:w.Net.Queue.length<=40
 ·by_cases h2:w.Net.Apart.length<=40
  ·by_cases h3:w.Ears.length<=20
   ·have d3:decide ((20:Int)<(w.Ears.length:Int))=false:=by rw[Zn]; omega
    have hw:=Ji aA false w r7 (aA+8) 0 (Yx _) s5
    rw[show ((0:Nat):Int)=0 from rfl,YL] at hw
    rw[Yl h1,Yl h2,d3]
    simp only[Z0,Yv,Yh,Yf]
    rcases hw with hw | ⟨hw,hx⟩
    ·rw[hw]; exact .inl rfl
    ·rw[hw]; exact .inr ⟨rfl,h1,h2,h3,hx⟩
   ·have d3:decide ((20:Int)<(w.Ears.length:Int))=true:=by rw[Z3]; omega
    rw[d3]
    cases (decide (w.Net.Queue.length<=40)&&decide (w.Net.Apart.length<=40))<;>exact .inl rfl
  ·rw[Ys h2,Bool.and_false]; exact .inl rfl
 ·rw[Ys h1]; exact .inl rfl
theorem wK.fit {w:av} (h:wK w):Fit w:=⟨by have:=h.2.1; omega,fun x hx=>by have:=h.2.2.2 x hx; omega⟩
theorem wK.RD {w:av} (h:wK w):Cr w:=⟨⟨by have:=h.2.2.1; omega,fun x hx=>by have:=h.2.2.2 x hx; omega⟩,by have:=h.1; omega,by have:=h.2.1; omega⟩
def zN:bh:=⟨[],[]⟩
def kE (x:bh) (p:ay):bh×Int:=bif A6 x&&kl p then (bif (x.Queue.length:Int)==4096 then (zN,2) else (⟨x.Queue++[p],x.Apart⟩,0)) else (zN,60)
theorem E0 {x:bh} (h:A6 x=true):x.Queue.length<=4096:=(sX h).1
theorem Oj (x:bh) (p:ay) (hA:x.Apart.length<=4611686018427387904):JP x p=some (kE x p):=by
 unfold JP O1 kE
 rw[Nk x hA,Yf,Np]
 cases hx:A6 x with
 | false=>rfl
 | true=>
  have:=E0 hx
  cases kl p with
  | false=>rfl
  | true=>
   cases he:((x.Queue.length:Int)==4096) with
   | true=>simp[he]; rfl
   | false=>
    simp only[he,Fs,Yf]
    rw[fc _ _ _ XZ]
    rfl
theorem Ok (x:bh) (p:ay) (hA:x.Apart.length<=4611686018427387904):LX x p=some (kE x p):=by
 unfold LX Pc kE
 rw[Nl x hA,Yf,Nq]
 cases hx:A6 x with
 | false=>rfl
 | true=>
  have:=E0 hx
  cases kl p with
  | false=>rfl
  | true=>
   cases he:((x.Queue.length:Int)==4096) with
   | true=>simp[he]; rfl
   | false=>
    simp only[he]
    rw[fc 40 [] _ XZ]
    simp only[Zs,Yf]
    rw[fc _ _ _ XZ]
    rfl
theorem iV {x:bh} {p:ay} (h1:x.Apart.length<=4611686018427387904):(kE x p).1.Apart.length<=4611686018427387904/\(kE x p).1.Queue.length<=4097:=by
 unfold kE
 cases hx:A6 x with
 | false=>exact⟨Yx _,Yx _⟩
 | true=>
  have:=E0 hx
  cases kl p with
  | false=>exact⟨Yx _,Yx _⟩
  | true=>
   cases ((x.Queue.length:Int)==4096) with
   | true=>exact⟨Yx _,Yx _⟩
   | false=>exact⟨h1,by show (x.Queue++[p]).length<=_; simp; omega⟩
theorem Ol {c:bj} (h:fQ c):LY c=some (wE c):=by
 unfold LY Pd
 rw[TT _ (YK rfl),Yf,show vL ([2,c.Role,c.Bar,c.Program])=vL (Fa c) from rfl,Gd (Bh h) (YK rfl)]
 rfl
def gk (x:bh) (role bar d:Int):bh×Int:=kE x ⟨wr .i64 (role+1),0,wE ⟨role,bar,d⟩⟩
def rr (role:Int):bh->Int->List Int->Int⊕bh
 | x,_,[]=>.inr x
 | x,bar,d :: l=>bif (gk x role bar d).2 != 0 then .inl (gk x role bar d).2 else rr role (gk x role bar d).1 (bar+1) l
theorem yv {role:Int}:∀ (l:List Int) (x y:bh) (bar:Int),x.Apart.length<=4611686018427387904->x.Queue.length<=4611686018427387904->rr role x bar l=.inr y->y.Apart.length<=4611686018427387904/\y.Queue.length<=4611686018427387904
 | [],x,y,bar,h1,h2,h=>by cases h; exact⟨h1,h2⟩
 | d :: l,x,y,bar,h1,h2,h=>by
  rw[rr] at h
  obtain ⟨q1,q2⟩:=iV (p:=⟨wr .i64 (role+1),0,wE ⟨role,bar,d⟩⟩) h1
  cases hb:((gk x role bar d).2 != 0) with
  | true=>rw[hb] at h; cases h
  | false=>rw[hb] at h; exact yv l _ y _ q1 (by show (kE x _).1.Queue.length<=_; omega) h
theorem rf {n:Int} (h:-9000000000000000000<=n) (h':n<=9000000000000000000):dg n:=X7
theorem Jj (n:Nat) (w:av) (role:Int) (z1:List Int) (z2 z3:Int) (L:List Int) (z4:av) (z5:List ay) (z6:List (Int×Int)) (z7:List aN) (z8:Int) (z9:List ay) (z10:List (Int×Int)) (z11:List aN) (z12 z13:Int)
  (hr:dg role) (hL:L.length<=4611686018427387904) (hd:∀ d∈L,dg d):∀ (m i:Nat) (a:av),a.Net.Apart.length<=4611686018427387904->i<=L.length->L.length - i<m ->
  me n w 0 role z1 z2 z3 L (L.length:Int) z4 z5 z6 z7 z8 z9 z10 z11 z12 z13 m (i:Int) a=some (match rr role a.Net (i:Int) (L.drop i) with | .inl e=>.inl e | .inr x=>.inr ⟨x,a.Ears,a.Bar⟩)
 | 0,i,_,_,_,h=>absurd h (YC _)
 | m+1,i,a,hA,hi,h=>by
  rw[me]
  by_cases hlt:i<L.length
  ·rw[show decide ((i:Int)<(L.length:Int))=true by simpa using hlt,show decide ((0:Int)<=(i:Int))=true by simp,Yt hlt,rr]
   have hrep:fQ ⟨role,(i:Int),L[i]⟩:=⟨hr,show dg ((i:Nat):Int) from rf r7 r7,hd _ (YH hlt)⟩
   simp only[Yi,aY,Yg hlt,Yf,JI hrep,Oj _ _ hA]
   have e:kE a.Net ⟨wr .i64 (role+1),0,wE ⟨role,(i:Int),L[i]⟩⟩=gk a.Net role i L[i]:=rfl
   rw[e]
   cases hb:((gk a.Net role i L[i]).2 != 0) with
   | true=>rfl
   | false=>
    simp only[Yh]
    rw[mH r7,show (i:Int)+1=((i+1:Nat):Int) by omega]
    exact Jj n w role z1 z2 z3 L z4 z5 z6 z7 z8 z9 z10 z11 z12 z13 hr hL hd m (i+1) ⟨(gk a.Net role i L[i]).1,a.Ears,a.Bar⟩ (iV hA).1 r7 r7
  ·rw[show decide ((i:Int)<(L.length:Int))=false by simpa using hlt,Yh,YB.2 r7]
   rfl
theorem Er (n:Nat) (w:av) (role:Nat) (z1:List ay) (z2:List (Int×Int)) (z3:List aN) (z4:Int) (hr:role<w.Ears.length) (hb:(w.Ears[role].Did.length:Int)=w.Bar) (hL:w.Ears[role].Did.length<=4611686018427387904) (hro:dg (role:Int)) (hd:∀ d∈w.Ears[role].Did,dg d) :
  ∀ (m i:Nat) (a:av),a.Ears=w.Ears->a.Net.Apart.length<=4611686018427387904->i<=w.Ears[role].Did.length->w.Ears[role].Did.length - i<m ->
  kQ n (role:Int) w z1 z2 z3 z4 m (i:Int) a=some (match rr role a.Net (i:Int) (w.Ears[role].Did.drop i) with | .inl e=>.inl (e,0) | .inr x=>.inr ⟨x,a.Ears,a.Bar⟩)
 | 0,i,_,_,_,_,h=>absurd h (YC _)
 | m+1,i,a,hE,hA,hi,h=>by
  rw[kQ,<-hb]
  by_cases hlt:i<w.Ears[role].Did.length
  ·rw[show decide ((i:Int)<(w.Ears[role].Did.length:Int))=true by simpa using hlt,Yt hlt,rr]
   have hrep:fQ ⟨(role:Int),(i:Int),w.Ears[role].Did[i]⟩:=⟨hro,show dg ((i:Nat):Int) from rf r7 r7,hd _ (YH hlt)⟩
   have hg:Im a (role:Int) (i:Int)=some (bif (gk a.Net role i w.Ears[role].Did[i]).2 != 0 then (zW,(gk a.Net role i w.Ears[role].Did[i]).2) else (⟨(gk a.Net role i w.Ears[role].Did[i]).1,a.Ears,a.Bar⟩,0)):=by
    unfold Im LD
    rw[hE]
    simp only[aY,Yg hr,Yg hlt,Yf,Ol hrep,Ok _ _ hA]
    have e:kE a.Net ⟨wr .i64 ((role:Int)+1),0,wE ⟨(role:Int),(i:Int),w.Ears[role].Did[i]⟩⟩=gk a.Net role i w.Ears[role].Did[i]:=rfl
    rw[e]
    cases ((gk a.Net role i w.Ears[role].Did[i]).2 != 0)<;>rfl
   simp only[Yi,hg,Yf]
   cases hb':((gk a.Net role i w.Ears[role].Did[i]).2 != 0) with
   | true=>simp only[Yi,hb']
   | false=>
    simp only[Yh,Y4]
    rw[mH r7,show (i:Int)+1=((i+1:Nat):Int) by omega]
    exact Er n w role z1 z2 z3 z4 hr hb hL hro hd m (i+1) ⟨(gk a.Net role i w.Ears[role].Did[i]).1,a.Ears,a.Bar⟩ hE (iV hA).1 r7 r7
  ·rw[show decide ((i:Int)<(w.Ears[role].Did.length:Int))=false by simpa using hlt,Yh,YB.2 r7]
   rfl
noncomputable def qq (w:av) (role:Int):av×Int:=
 bif mW w != 0 then (zW,mW w) else bif !gb role 0 ((w.Ears.length:Int) - 1) || (w.Bar==0) then (zW,1) else
 match w.Ears[role.toNat]? with
 | some x=>match rr role w.Net 0 x.Did with | .inl e=>(zW,e) | .inr y=>(⟨y,w.Ears,w.Bar⟩,0)
 | none=>(zW,0)
structure JT (w:av):Prop where
 few:wK w
 ok:iU w
theorem wo {w:av} (h:(mW w != 0)=false):okW w:=by
 unfold mW at h
 split at h
 ·assumption
 ·cases h
theorem zt {w:av} (h:iU w) {x:aN} (hx:x∈w.Ears):∀ d∈x.Did,dg d:=(h.2.1.2 x hx).2.2.2
theorem TW (w:av) (role:Int) (h:JT w):G9 w role=some (qq w role):=by
 unfold G9 F9 qq
 rw[Oq w h.few.fit,Yf]
 cases hc:(mW w != 0) with
 | true=>rfl
 | false=>
  have hw:=wo hc
  obtain ⟨hn1,hn2⟩:=hw.1
  rw[dE r7 r7]
  simp only[Yh,Aj,Yf]
  cases hr:gb role 0 ((w.Ears.length:Int) - 1) with
  | false=>rfl
  | true=>
   cases hb:(w.Bar==0) with
   | true=>rfl
   | false=>
    unfold gb at hr
    simp only[Yj,Yn] at hr
    have hl:role.toNat<w.Ears.length:=r7
    have er:role=((role.toNat:Nat):Int):=r7
    have hx:=YH hl
    obtain ⟨a1,a2,a3⟩:=h.few.2.2.2 _ hx
    have hw1:=Jj aA w role [role] 1 0 w.Ears[role.toNat].Did w [] [] [] 0 [] [] [] 0 0 (rf r7 r7) r7 (zt h.ok hx) (aA+6) 0 w (by have:=h.few.2.1; omega) (Yx _) s5
    rw[show ((0:Nat):Int)=0 from rfl,YL] at hw1
    have g1:bf [role] 0=some role:=rfl
    have g2:bf w.Ears role=some w.Ears[role.toNat]:=by unfold bf; rw[Yl r7]; exact Yg hl
    have hF:mc aA w 0 [role] (([role]:List Int).length:Int) w [] [] [] 0 [] [] [] 0 0 (aA+6) 0 w=some (match rr role w.Net 0 w.Ears[role.toNat].Did with | .inl e=>.inl e | .inr x=>.inr ⟨x,w.Ears,w.Bar⟩):=by
     rw[show aA+6=(aA+4)+1+1 from rfl,mc]
     simp only[YD,qaS,g1,g2,Yf,show ((0+1:Nat):Int)=1 from rfl,show decide ((0:Int)<1)=true from rfl,Yi]
     rw[show aA+4+1+1=aA+6 from rfl] at *
     rw[hw1]
     cases rr role w.Net 0 w.Ears[role.toNat].Did with
     | inl e=>rfl
     | inr x=>
      simp only[Yf,q1]
      rw[mc]
      rfl
    rw[Yg hl]
    simp only[Yv,Yh,Yi,Yf,show Lf w 0 [role]=some ([role],w,0) from rfl,hF]
    cases rr role w.Net 0 w.Ears[role.toNat].Did<;>rfl
theorem Oo (w:av) (role:Int) (h:JT w):LG w role=some (qq w role):=by
 unfold LG OH qq
 rw[Ot w h.few.fit,Yf]
 cases hc:(mW w != 0) with
 | true=>rfl
 | false=>
  have hw:=wo hc
  obtain ⟨hn1,hn2⟩:=hw.1
  simp only[Yh,Yf]
  have e1:(bif decide (role<0) then some true else some (decide ((w.Ears.length:Int)<=role)))=some (!gb role 0 ((w.Ears.length:Int) - 1)):=by
   rw[or_some]
   unfold gb
   congr 1
   rw[Zg]
   simp only[Zb,Yn,Ze,qa3,Zn]
   omega
  rw[e1]
  simp only[Yf]
  cases hr:gb role 0 ((w.Ears.length:Int) - 1) with
  | false=>rfl
  | true=>
   cases hb:(w.Bar==0) with
   | true=>rfl
   | false=>
    unfold gb at hr
    simp only[Yj,Yn] at hr
    have hl:role.toNat<w.Ears.length:=r7
    have er:role=((role.toNat:Nat):Int):=r7
    have hx:=YH hl
    obtain ⟨a1,a2,a3⟩:=h.few.2.2.2 _ hx
    have hw1:=Er aA w role.toNat [] [] [] 0 hl (rA hw.2.2.2.1 _ hx) r7 (rf r7 r7) (zt h.ok hx) (aA+8) 0 w rfl (by have:=h.few.2.1; omega) (Yx _) s5
    rw[show ((0:Nat):Int)=0 from rfl,YL,<-er] at hw1
    rw[Yg hl]
    simp only[Yv,Yh,Yi,Yf,hw1]
    cases rr role w.Net 0 w.Ears[role.toNat].Did<;>rfl
theorem zh {w:av} (h:JT w) (role:Int):Cr (qq w role).1:=by
 unfold qq
 cases (mW w != 0) with
 | true=>exact mo
 | false=>
  simp only[Yh]
  cases (!gb role 0 ((w.Ears.length:Int) - 1) || (w.Bar==0)) with
  | true=>exact mo
  | false=>
   simp only[Yh]
   split
   ·split
    ·exact mo
    ·rename_i y hy
     obtain ⟨q1,q2⟩:=yv _ _ _ _ (by have:=h.few.2.1; omega) (by have:=h.few.1; omega) hy
     exact⟨h.few.RD.1,q2,q1⟩
   ·exact mo
section
def kj (n:Int):Int->List Int->Bool
 | _,[]=>true
 | last,i :: l=>gb i (last+1) (n - 1)&&kj n i l
theorem EC (n:Nat) (k:Int) (L:List Int) (z1:List ay) (z2:List (Int×Int)) (z3:List aN) (z4:Int) (hk:1<=k/\k<=12) (hL:L.length<=4611686018427387904):∀ (m i:Nat) (last:Int),-1<=last/\last<=12->i<=L.length->L.length - i<m ->
  qc n k L (L.length:Int) z1 z2 z3 z4 m last (i:Int)=some (bif kj k last (L.drop i) then .inr () else .inl 1)
 | 0,i,_,_,_,h=>absurd h (YC _)
 | m+1,i,last,hl,hi,h=>by
  rw[qc]
  by_cases hlt:i<L.length
  ·rw[show decide ((i:Int)<(L.length:Int))=true by simpa using hlt,Yi,aY,Yg hlt,Yf,Aj,Yf,Yt hlt,kj,dE (n:=last+1) r7 r7,dE (n:=k - 1) r7 r7,mH r7]
   cases hw:gb L[i] (last+1) (k - 1) with
   | false=>rfl
   | true=>
    unfold gb at hw
    simp only[Yj,Yn] at hw
    simp only[Yv,Yh,YP]
    exact EC n k L z1 z2 z3 z4 hk hL m (i+1) L[i] r7 r7 r7
  ·rw[show decide ((i:Int)<(L.length:Int))=false by simpa using hlt,Yh,YB.2 r7]
   rfl
theorem ED (n:Nat) (k:Int) (L:List Int) (hk:1<=k/\k<=12) (hL:L.length<=4611686018427387904):∀ (m i:Nat) (last:Int),-1<=last->(i=0->last=-1)->(0<i->L[i - 1]? = some last)->i<=L.length->L.length - i<m ->
  kW n L k m (i:Int)=some (bif kj k last (L.drop i) then .inr () else .inl false)
 | 0,i,_,_,_,_,_,h=>absurd h (YC _)
 | m+1,i,last,hl,h0,h1,hi,h=>by
  rw[kW]
  by_cases hlt:i<L.length
  ·rw[show decide ((i:Int)<(L.length:Int))=true by simpa using hlt,Yi,aY,Yg hlt,Yf,Yf,Yt hlt,kj,mH r7]
   have e1:(bif decide (L[i]<0) then some true else some (decide (k<=L[i])))=some (decide (L[i]<0) || decide (k<=L[i])):=or_some _ _
   rw[e1]
   simp only[Yf]
   by_cases hb:L[i]<0∨k<=L[i]
   ·have e2:(decide (L[i]<0) || decide (k<=L[i]))=true:=by simpa using hb
    have e3:gb L[i] (last+1) (k - 1)=false:=by
     unfold gb; rw[ZP]; intro q; simp only[Yj,Yn] at q; omega
    rw[e2,e3]; rfl
   ·have e2:(decide (L[i]<0) || decide (k<=L[i]))=false:=by
     rw[ZP]; intro q; simp only[Zb,Yn] at q; exact hb q
    rw[e2]
    simp only[Yh]
    have ih:=ED n k L hk hL m (i+1) L[i] r7 r7 (fun _=>by rw[qaz]; exact Yg hlt) r7 r7
    by_cases hp:0<i
    ·have hq:=h1 hp
     rw[show decide ((0:Int)<(i:Int))=true by simpa using hp,dE r7 r7,show (i:Int) - 1=((i - 1:Nat):Int) by omega,aY,hq]
     simp only[Yi,Yf]
     by_cases hc:L[i]<=last
     ·rw[Yl hc,show gb L[i] (last+1) (k - 1)=false by unfold gb; rw[ZP]; intro q; simp only[Yj,Yn] at q; omega]; rfl
     ·rw[Ys hc,show gb L[i] (last+1) (k - 1)=true by unfold gb; simp; omega]
      exact ih
    ·have:=h0 r7
     rw[show decide ((0:Int)<(i:Int))=false by simpa using hp,show gb L[i] (last+1) (k - 1)=true by unfold gb; simp; omega]
     exact ih
  ·rw[show decide ((i:Int)<(L.length:Int))=false by simpa using hlt,Yh,YB.2 r7]
   rfl
def gB (g:List Int) (j:Nat):Bool:=match g[j]? with
 | some x=>gb x 0 (j:Int)&&decide (bf g x=some x)
 | none=>true
theorem Ez (n:Nat) (g:List Int) (z1:List ay) (z2:List (Int×Int)) (z3:List aN) (z4:Int) (hL:g.length<=4611686018427387904):∀ (m i:Nat),i<=g.length->g.length - i<m ->
  qd n g g (g.length:Int) z1 z2 z3 z4 m (i:Int)=some (if ∀ j (h:j<g.length),i<=j->gB g j=true then .inr () else .inl 1)
 | 0,i,_,h=>absurd h (YC _)
 | m+1,i,hi,h=>by
  rw[qd]
  by_cases hlt:i<g.length
  ·rw[show decide ((i:Int)<(g.length:Int))=true by simpa using hlt,Yi,aY,Yg hlt,Yf,Aj,Yf,mH r7,Ez n g z1 z2 z3 z4 hL m (i+1) r7 r7]
   have hg:gB g i=(gb g[i] 0 (i:Int)&&decide (bf g g[i]=some g[i])):=by unfold gB; rw[Yg hlt]
   cases hw:gb g[i] 0 (i:Int) with
   | false=>
    rw[Yp (show ¬ (∀ j (h:j<g.length),i<=j->gB g j=true) from fun q=>by have:=q i hlt (Yk _); rw[hg,hw] at this; cases this)]; rfl
   | true=>
    have hw':=hw
    unfold gb at hw'
    simp only[Yj,Yn] at hw'
    have hx:g[i].toNat<g.length:=r7
    have e:bf g g[i]=some g[g[i].toNat]:=by unfold bf; rw[Yl hw'.1,Yi]; exact Yg hx
    rw[e]
    simp only[Yv,Yh,Yf]
    by_cases hq:g[g[i].toNat]=g[i]
    ·rw[hq,Y4,Yh]
     refine YX some (qaX (propext ⟨fun q j hj hij=>?_,fun q j hj hij=>q j hj r7⟩) (fun _=>rfl) (fun _=>rfl))
     rcases qai hij with rfl | h2
     ·rw[hg,hw,e,hq]; simp
     ·exact q j hj h2
    ·rw[oH hq,Yp (show ¬ (∀ j (h:j<g.length),i<=j->gB g j=true) from fun q=>by have:=q i hlt (Yk _); rw[hg,hw,e] at this; simp at this; exact hq this)]; rfl
  ·rw[show decide ((i:Int)<(g.length:Int))=false by simpa using hlt,Yh,Yq (fun j hj hij=>r7)]
theorem EA (n:Nat) (g:List Int) (hL:g.length<=4611686018427387904):∀ (m i:Nat),i<=g.length->g.length - i<m ->
  kX n g (g.length:Int) m (i:Int)=some (if ∀ j (h:j<g.length),i<=j->gB g j=true then .inr () else .inl false)
 | 0,i,_,h=>absurd h (YC _)
 | m+1,i,hi,h=>by
  rw[kX]
  by_cases hlt:i<g.length
  ·rw[show decide ((i:Int)<(g.length:Int))=true by simpa using hlt,Yi,aY,Yg hlt]
   simp only[Yf]
   have hg:gB g i=(gb g[i] 0 (i:Int)&&decide (bf g g[i]=some g[i])):=by unfold gB; rw[Yg hlt]
   have e1:(bif decide (g[i]<0) then some true else some (decide ((i:Int)<g[i])))=some (!gb g[i] 0 (i:Int)):=by
    rw[or_some]
    unfold gb
    congr 1
    rw[Zg]
    simp only[Zb,Yn,Ze,qa3,Zn]
    omega
   rw[e1,mH r7,EA n g hL m (i+1) r7 r7]
   simp only[Yf]
   cases hw:gb g[i] 0 (i:Int) with
   | false=>
    rw[Yp (show ¬ (∀ j (h:j<g.length),i<=j->gB g j=true) from fun q=>by have:=q i hlt (Yk _); rw[hg,hw] at this; cases this)]; rfl
   | true=>
    have hw':=hw
    unfold gb at hw'
    simp only[Yj,Yn] at hw'
    have hx:g[i].toNat<g.length:=r7
    have e:bf g g[i]=some g[g[i].toNat]:=by unfold bf; rw[Yl hw'.1,Yi]; exact Yg hx
    rw[e]
    simp only[Yv,Yh,Yf]
    by_cases hq:g[g[i].toNat]=g[i]
    ·rw[hq,Y4,Yh]
     refine YX some (qaX (propext ⟨fun q j hj hij=>?_,fun q j hj hij=>q j hj r7⟩) (fun _=>rfl) (fun _=>rfl))
     rcases qai hij with rfl | h2
     ·rw[hg,hw,e,hq]; simp
     ·exact q j hj h2
    ·rw[oH hq,Yp (show ¬ (∀ j (h:j<g.length),i<=j->gB g j=true) from fun q=>by have:=q i hlt (Yk _); rw[hg,hw,e] at this; simp at this; exact hq this)]; rfl
  ·rw[show decide ((i:Int)<(g.length:Int))=false by simpa using hlt,Yh,Yq (fun j hj hij=>r7)]
theorem En (n:Nat) (L:List Int) (x:Int) (hL:L.length<=4611686018427387904):∀ (m i:Nat),i<=L.length->L.length - i<m ->
  (∃ j:Int,0<=j/\jU n L x (L.length:Int) m (i:Int)=some (.inl j)/\x∈L.drop i)∨(jU n L x (L.length:Int) m (i:Int)=some (.inr ())/\x ∉ L.drop i)
 | 0,i,_,h=>absurd h (YC _)
 | m+1,i,hi,h=>by
  rw[jU]
  by_cases hlt:i<L.length
  ·rw[show decide ((i:Int)<(L.length:Int))=true by simpa using hlt,Yi,aY,Yg hlt,Yf,mH r7,Yt hlt]
   by_cases hx:x=L[i]
   ·exact .inl ⟨i,r7,by rw[show (x==L[i])=true by simpa using hx]; rfl,by rw[hx]; exact ZJ⟩
   ·rw[show (x==L[i])=false by simpa using hx,Yh]
    rcases En n L x hL m (i+1) r7 r7 with ⟨j,a,b,c⟩ | ⟨b,c⟩
    ·exact .inl ⟨j,a,b,ZD _ c⟩
    ·exact .inr ⟨b,fun q=>by rcases Y1.1 q with q | q; exact hx q; exact c q⟩
  ·rw[show decide ((i:Int)<(L.length:Int))=false by simpa using hlt,Yh,YB.2 r7]
   exact .inr ⟨rfl,qae⟩
theorem TE (L:List Int) (x:Int) (hL:L.length<=4611686018427387904):LJ L x=some (decide (x∈L)):=by
 unfold LJ ON Pu O6
 have hw:=En aA L x hL (aA+8) 0 (Yx _) s5
 rw[show ((0:Nat):Int)=0 from rfl,YL] at hw
 rcases hw with ⟨j,a,b,c⟩ | ⟨b,c⟩
 ·rw[b,Yl c]; simp only[Yf]; rw[Yl a]
 ·rw[b,Ys c]; rfl
theorem Ep (n:Nat) (L:List Int) (x:Int) (hL:L.length<=4611686018427387904):∀ (m i:Nat),i<=L.length->L.length - i<m ->
  lq n L x m (i:Int)=some (if x∈L.drop i then .inl true else .inr ())
 | 0,i,_,h=>absurd h (YC _)
 | m+1,i,hi,h=>by
  rw[lq]
  by_cases hlt:i<L.length
  ·rw[show decide ((i:Int)<(L.length:Int))=true by simpa using hlt,Yi,aY,Yg hlt,Yf,mH r7,Yt hlt]
   by_cases hx:L[i]=x
   ·rw[show (L[i]==x)=true by simpa using hx,Yi,Yq (by rw[hx]; exact ZJ)]
   ·rw[show (L[i]==x)=false by simpa using hx,Yh,Ep n L x hL m (i+1) r7 r7]
    refine YX some (qaX (propext ⟨fun q=>ZD _ q,fun q=>?_⟩) (fun _=>rfl) (fun _=>rfl))
    rcases Y1.1 q with q | q
    ·exact absurd q.symm hx
    ·exact q
  ·rw[show decide ((i:Int)<(L.length:Int))=false by simpa using hlt,Yh,YB.2 r7,Yp qae]
theorem TH (L:List Int) (x:Int) (hL:L.length<=4611686018427387904):LV L x=some (decide (x∈L)):=by
 unfold LV Pb
 have hw:=Ep aA L x hL (aA+8) 0 (Yx _) s5
 rw[show ((0:Nat):Int)=0 from rfl,YL] at hw
 rw[hw]
 by_cases hx:x∈L
 ·rw[Yq hx,Yl hx]; rfl
 ·rw[Yp hx,Ys hx]; rfl
def cO (w:av) (deaf:List Int) (j:Nat):Int:=match w.Ears[j]? with
 | some x=>match x.Cues with
  | c :: _=>bif (c.Bar==w.Bar)&&!decide ((j:Int)∈deaf) then c.Program else 0
  | []=>0
 | none=>0
theorem TF (w:av) (deaf:List Int) (j:Nat) (hj:j<w.Ears.length) (hd:deaf.length<=4611686018427387904):LL w deaf (j:Int)=some (cO w deaf j):=by
 unfold LL OS cO
 rw[aY,Yg hj,TH _ _ hd]
 simp only[Yf]
 match w.Ears[j].Cues with
 | []=>cases decide ((j:Int)∈deaf)<;>rfl
 | c :: l=>
  have hne:(((c :: l).length:Int)==0)=false:=so
  simp only[hne,show bf (c :: l) 0=some c from rfl,Yf,bne]
  cases decide ((j:Int)∈deaf)<;>cases (c.Bar==w.Bar)<;>rfl
def gr (g:List Int) (j:Nat):Int:=(g[j]?).getD 0
def rh (g:List Int) (V:Nat->Int):Nat->List (Int×Int)
 | 0=>[]
 | i+1=>bif (getM (rh g V i) (gr g i)).isSome&&((getM (rh g V i) (gr g i)).getD 0 != V i) then iG (rh g V i) (gr g i) 0 else iG (rh g V i) (gr g i) (V i)
theorem qB {T:Type} (a:Int) (x:T) (b:Int):∀ m:List (Int×T),getM (iG m a x) b=if b=a then some x else getM m b
 | []=>by
  rw[iG,getM,getM]
  by_cases h:b=a
  ·rw[Yq h,Yl h]; rfl
  ·rw[Yp h,Ys h]; rfl
 | p :: m=>by
  rw[iG]
  by_cases h1:a=p.1
  ·rw[Yl h1,Yi,getM,getM]
   by_cases h:b=a
   ·rw[Yq h,Yl (h.trans h1)]; rfl
   ·rw[Yp h,Ys (fun q=>h (q.trans h1.symm))]; rfl
  ·rw[Ys h1,Yh,getM,getM]
   by_cases h2:b=p.1
   ·rw[Yl h2,Yi,Yi,Yp (fun q=>h1 (q.symm.trans h2))]
   ·rw[Ys h2,Yh,Yh]
    exact qB a x b m
open Classical in
theorem wh (g:List Int) (V:Nat->Int):∀ i,(∀ b,(∀ j,j<i->gr g j≠b)->getM (rh g V i) b=none)/\(∀ j,j<i->getM (rh g V i) (gr g j)=some (if ∀ k,k<i->gr g k=gr g j->V k=V j then V j else 0))
 | 0=>⟨fun b _=>rfl,fun j h=>absurd h (YC _)⟩
 | i+1=>by
  obtain ⟨h1,h2⟩:=wh g V i
  obtain ⟨v,hv,hm⟩:∃ v,(v=if (getM (rh g V i) (gr g i)).isSome=true/\(getM (rh g V i) (gr g i)).getD 0≠V i then 0 else V i)/\rh g V (i+1)=iG (rh g V i) (gr g i) v:=by
   refine⟨_,rfl,?_⟩
   rw[rh]
   cases ha:(getM (rh g V i) (gr g i)).isSome with
   | false=>rw[Yp (fun q=>by cases q.1)]; rfl
   | true=>
    by_cases hb:(getM (rh g V i) (gr g i)).getD 0=V i
    ·rw[Yp (fun q=>q.2 hb),hb,Y4]; rfl
    ·rw[Yq ⟨rfl,hb⟩,oH hb]; rfl
  rw[hm]
  refine⟨fun b hb=>?_,fun j hj=>?_⟩
  ·rw[qB,Yp (fun q=>hb i (qan i) q.symm)]
   exact h1 b (fun j hj=>hb j r7)
  ·rw[qB]
   by_cases hg:gr g j=gr g i
   ·rw[Yq hg]
    congr 1
    rw[hv]
    by_cases hex:∃ k,k<i/\gr g k=gr g i
    ·obtain ⟨k,hk,hgk⟩:=hex
     have hs:=h2 k hk
     rw[hgk] at hs
     rw[hs]
     simp only[Option.isSome_some,qao,Z7]
     by_cases hall:∀ k',k'<i->gr g k'=gr g i->V k'=V k
     ·rw[Yq hall]
      by_cases hvi:V k=V i
      ·rw[Yp (fun q=>q hvi),Yq]
       ·rcases ZI.1 hj with q | rfl
        ·rw[<-hvi]; exact(hall j q hg).symm
        ·rfl
       ·intro k' hk' hgk'
        have a1:V j=V i:=by
         rcases ZI.1 hj with q | rfl
         ·rw[hall j q hg,hvi]
         ·rfl
        rcases ZI.1 hk' with q | rfl
        ·rw[a1,hall k' q (hgk'.trans hg),hvi]
        ·exact a1.symm
      ·rw[Yq hvi,Yp]
       intro q
       have b1:=q k r7 (hgk.trans hg.symm)
       have b2:=q i (qan i) hg.symm
       exact hvi (b1.trans b2.symm)
     ·rw[Yp hall]
      have hno:¬ ∀ k',k'<i+1->gr g k'=gr g j->V k'=V j:=fun q=>hall (fun k' hk' hgk'=>by rw[q k' r7 (hgk'.trans hg.symm),q k r7 (hgk.trans hg.symm)])
      rw[Yp hno]
      by_cases h0:(0:Int)=V i
      ·rw[Yp (fun q=>q h0)]; exact h0.symm
      ·rw[Yq h0]
    ·have hn:=h1 (gr g i) (fun j hj q=>hex ⟨j,hj,q⟩)
     rw[hn]
     have hji:j=i:=by
      rcases ZI.1 hj with q | q
      ·exact absurd ⟨j,q,hg⟩ hex
      ·exact q
     subst hji
     rw[Yp (fun q=>by cases q.1),Yq]
     intro k' hk' hgk'
     rcases ZI.1 hk' with q | rfl
     ·exact absurd ⟨k',q,hgk'⟩ hex
     ·rfl
   ·rw[Yp hg]
    rcases ZI.1 hj with q | rfl
    ·rw[h2 j q]
     congr 1
     refine qaX (propext ⟨fun hq k' hk' hgk'=>?_,fun hq k' hk' hgk'=>hq k' r7 hgk'⟩) (fun _=>rfl) (fun _=>rfl)
     rcases ZI.1 hk' with q' | rfl
     ·exact hq k' q' hgk'
     ·exact absurd hgk'.symm hg
    ·exact absurd rfl hg
end
section
theorem Ka (l:List Int) (x:Int) (h:l.length<=1000000):cQ 8 l [x]=some (l++[x]):=fc _ _ _ XZ
theorem Oh (l:List Int) (x:Int) (h:l.length<=10000):Il l x=some (l++[x]):=by
 unfold Il OO
 have e0:wr .i64 ((l.length:Int)+1)=((l.length+1:Nat):Int):=mH r7
 have e1:EK 8 (((l.length+1:Nat):Int)) (0:Int)=some (List.replicate (l.length+1) 0):=by
  unfold EK
  rw[B6,Yl r7,Yl r7,Yl r7]; rfl
 rw[e0,e1,Yf]
 have e2:nB (List.replicate (l.length+1) (0:Int)).length (l.length:Int)=some l.length:=by
  unfold nB
  rw[qa2,Yl r7,Yl r7]; rfl
 rw[e2,Yf]
 have e3:qY (List.replicate (l.length+1) (0:Int)) 0 (List.replicate (l.length+1) (0:Int)).length l=l++[0]:=by
  unfold qY bB
  have t:l.take (l.length+1)=l:=Y3 r7
  rw[qa2,t,List.drop_replicate,Y9,Nat.add_sub_cancel_left]; rfl
 have e4:yc (l++[0]) l.length (fun _:Int=>x)=some (l++[x]):=by
  unfold yc
  have t:(l++[(0:Int)])[l.length]? = some 0:=by rw[YY (Yk _),qbs]; rfl
  rw[t]
  show some ((l++[(0:Int)]).set l.length x)=_
  rw[List.set_append_right _ _ (Yk _),qbs]; rfl
 rw[e3,e4,Yf,YL,Y3 r9]
theorem Oi (l:List Int) (x:Int) (h:l.length<=10000):Lh l x=some (l++[x]):=by
 unfold Lh OU
 rw[fc 8 [] _ XZ,Yf,Zs,Ka _ _ r7]; rfl
def nz (n:Nat) (V:Nat->Int) (i:Nat):List Int:=(List.range n).map fun j=>if j<i then V j else 0
def fe (i:Nat):List Int:=(List.range i).map fun j:Nat=>(j:Int)
theorem lJ {n:Nat} {V:Nat->Int} {i:Nat}:(nz n V i).length=n:=by unfold nz; simp
theorem kd {n:Nat} {V:Nat->Int} {i j:Nat} (h:j<n):(nz n V i)[j]? = some (if j<i then V j else 0):=by
 unfold nz
 rw[YJ,ZX h]; rfl
theorem D6 {n:Nat} {V:Nat->Int} {i:Nat} (h:i<n):(nz n V i).set i (V i)=nz n V (i+1):=by
 apply Zv
 intro j
 rw[ZW,lJ]
 by_cases hj:j<n
 ·rw[kd hj,kd hj]
  by_cases hij:i=j
  ·subst hij; rw[Yq rfl,Yq h,Yq (qan i)]
  ·rw[Yp hij]
   by_cases h1:j<i
   ·rw[Yq h1,Yq r7]
   ·rw[Yp h1,Yp r7]
 ·rw[Y7 (by rw[lJ]; omega),Y7 (by rw[lJ]; omega)]
  by_cases hij:i=j
  ·omega
  ·rw[Yp hij]
theorem B1 {n:Nat} {V:Nat->Int} {i:Nat} (h:V i=0):nz n V i=nz n V (i+1):=by
 apply Zv
 intro j
 by_cases hj:j<n
 ·rw[kd hj,kd hj]
  by_cases hij:j=i
  ·subst hij; rw[Yp (ZZ _),Yq (qan _),h]
  ·by_cases h1:j<i
   ·rw[Yq h1,Yq r7]
   ·rw[Yp h1,Yp r7]
 ·rw[Y7 (by rw[lJ]; omega),Y7 (by rw[lJ]; omega)]
theorem xy (i:Nat):fe i++[(i:Int)]=fe (i+1):=by unfold fe; rw[qaR,qaT]; rfl
theorem oO (i:Nat):(fe i).length=i:=by unfold fe; simp
theorem AY {n i:Nat} (h:i<n):nB n (i:Int)=some i:=by
 unfold nB
 rw[Yl r7,Yl r7]; rfl
theorem D1 {w:av} {deaf:List Int} {i:Nat} (h:i<w.Ears.length):cO w deaf i=match w.Ears[i].Cues with | c :: _=>bif (c.Bar==w.Bar)&&!decide ((i:Int)∈deaf) then c.Program else 0 | []=>0:=by
 unfold cO
 first
 | (rw[Yg h]; done)
 | (rw[Yg h]; generalize w.Ears[i]=x; obtain ⟨cs,a,b⟩:=x; cases cs<;>rfl)
theorem Es (n:Nat) (w:av) (deaf g:List Int) (z1:Int) (z2:List ay) (z3:List (Int×Int)) (z4:List aN) (z5:Int) (hd:deaf.length<=4611686018427387904) (hg:g.length=w.Ears.length) (hn:w.Ears.length<=12):∀ (m i:Nat),i<=w.Ears.length->w.Ears.length - i<m ->
  ma n deaf g z1 w.Ears.length w.Ears (w.Ears.length:Int) w z2 z3 z4 z5 m (i:Int) (nz w.Ears.length (cO w deaf) i) (rh g (cO w deaf) i) (fe i)=some (w.Ears.length,nz w.Ears.length (cO w deaf) w.Ears.length,rh g (cO w deaf) w.Ears.length,fe w.Ears.length)
 | 0,i,_,h=>absurd h (YC _)
 | m+1,i,hi,h=>by
  rw[ma]
  by_cases hlt:i<w.Ears.length
  ·have hlg:i<g.length:=by omega
   have hgr:bf g (i:Int)=some (gr g i):=by rw[aY]; unfold gr; rw[Yg hlg]; rfl
   have ih:=Es n w deaf g z1 z2 z3 z4 z5 hd hg hn m (i+1) r7 r7
   rw[show decide ((i:Int)<(w.Ears.length:Int))=true by simpa using hlt,Yi,aY,Yg hlt,Yf,TE _ _ hd,hgr,AY hlt,Ka _ _ (by rw[oO]; omega),xy,mH r7]
   simp only[Yf]
   have key:(∃ c l,w.Ears[i].Cues=c :: l/\(c.Bar==w.Bar)=true/\decide ((i:Int)∈deaf)=false/\cO w deaf i=c.Program) ∨
     ((Option.bind (bif decide (0<((w.Ears[i].Cues.length:Nat):Int)) then (Option.bind (bf w.Ears[i].Cues 0) fun y=>some (y.Bar==w.Bar)) else some false) fun y=>bif y then some (!decide ((i:Int)∈deaf)) else some false)=some false/\cO w deaf i=0):=by
    rw[D1 hlt]
    cases hc:w.Ears[i].Cues with
    | nil=>exact .inr ⟨rfl,rfl⟩
    | cons c l=>
     have hpos:decide (0<(((c :: l).length:Nat):Int))=true:=by rw[YD]; exact Yl r7
     simp only[hpos,Yi,show bf (c :: l) 0=some c from rfl,Yf]
     cases hb:(c.Bar==w.Bar) with
     | false=>exact .inr ⟨rfl,rfl⟩
     | true=>cases hq:decide ((i:Int)∈deaf) with
      | true=>exact .inr ⟨rfl,rfl⟩
      | false=>exact .inl ⟨c,l,rfl,hb,rfl,rfl⟩
   have hgv:∀ (L:List Int),L=nz w.Ears.length (cO w deaf) (i+1)->L[i]? = some (cO w deaf i):=fun L hL=>by
    rw[hL,kd hlt,Yq (qan i)]
   rcases key with ⟨c,l,k1,k2,k3,k4⟩ | ⟨k1,k2⟩
   ·have hpos:decide (0<((w.Ears[i].Cues.length:Nat):Int))=true:=by rw[k1,YD]; exact Yl r7
    have hc0:bf w.Ears[i].Cues 0=some c:=by rw[k1]; rfl
    have hmod:yc (nz w.Ears.length (cO w deaf) i) i (fun _=>c.Program)=some (nz w.Ears.length (cO w deaf) (i+1)):=by
     unfold yc
     rw[kd hlt,<-D6 hlt,k4]
    simp only[hpos,hc0,k2,k3,Yi,qaf,Yf,hmod,hgv _ rfl]
    rw[<-ih]
    conv=>rhs; rw[rh]
    cases (getM (rh g (cO w deaf) i) (gr g i)).isSome with
    | false=>rfl
    | true=>cases (((getM (rh g (cO w deaf) i) (gr g i)).getD 0) != cO w deaf i)<;>rfl
   ·have hz:=B1 (n:=w.Ears.length) k2
    rw[hz,hgv _ rfl]
    simp only[Yf]
    generalize (bif decide (0<((w.Ears[i].Cues.length:Nat):Int)) then (Option.bind (bf w.Ears[i].Cues 0) fun y=>some (y.Bar==w.Bar)) else (some false))=X at k1 ⊢
    cases X with
    | none=>cases k1
    | some y=>
     have k3:(bif y then some (!decide ((i:Int)∈deaf)) else some false)=some false:=k1
     simp only[Yf,k3,Yh]
     rw[<-ih]
     conv=>rhs; rw[rh]
     cases (getM (rh g (cO w deaf) i) (gr g i)).isSome with
     | false=>rfl
     | true=>cases (((getM (rh g (cO w deaf) i) (gr g i)).getD 0) != cO w deaf i)<;>rfl
  ·obtain rfl:i=w.Ears.length:=by omega
   rw[show decide ((w.Ears.length:Int)<(w.Ears.length:Int))=false by simp]
   rfl
def Ga (g:List Int) (V:Nat->Int) (n j:Nat):Int:=(getM (rh g V n) (gr g j)).getD 0
def ou (bar:Int):List bL->List bL
 | c :: l=>bif c.Bar==bar then l else c :: l
 | []=>[]
def zV (w:av) (g:List Int) (V:Nat->Int) (j:Nat):aN:=match w.Ears[j]? with
 | some x=>⟨ou w.Bar x.Cues,x.Got++[V j],x.Did++[Ga g V w.Ears.length j]⟩
 | none=>⟨[],[],[]⟩
def fk (w:av) (g:List Int) (V:Nat->Int) (i:Nat):List aN:=(List.range i).map (zV w g V)
theorem sa (w:av) (g:List Int) (V:Nat->Int) (i:Nat):fk w g V i++[zV w g V i]=fk w g V (i+1):=by unfold fk; rw[qaR,qaT]; rfl
theorem gW {w:av} {g:List Int} {V:Nat->Int} {i:Nat}:(fk w g V i).length=i:=by unfold fk; simp
theorem IX (l:List aN) (x:aN) (h:l.length<=1000):cQ 72 l [x]=some (l++[x]):=fc _ _ _ XZ
theorem Et (n:Nat) (w:av) (g:List Int) (V:Nat->Int) (z1:Int) (z2:List ay) (z3:List (Int×Int)) (z4:Int) (z5:List Int) (hg:g.length=w.Ears.length) (hf:wK w) (hn:w.Ears.length<=12):∀ (m i:Nat),i<=w.Ears.length->w.Ears.length - i<m ->
  oy n g z1 w.Ears.length w.Ears (w.Ears.length:Int) w z2 z3 z4 (nz w.Ears.length V w.Ears.length) (rh g V w.Ears.length) z5 m (i:Int) (fk w g V i)=some (fk w g V w.Ears.length)
 | 0,i,_,h=>absurd h (YC _)
 | m+1,i,hi,h=>by
  rw[oy]
  by_cases hlt:i<w.Ears.length
  ·have hlg:i<g.length:=by omega
   have hgr:bf g (i:Int)=some (gr g i):=by rw[aY]; unfold gr; rw[Yg hlg]; rfl
   obtain ⟨a1,a2,a3⟩:=hf.2.2.2 _ (YH hlt)
   have ih:=Et n w g V z1 z2 z3 z4 z5 hg hf hn m (i+1) r7 r7
   rw[<-sa] at ih
   rw[show decide ((i:Int)<(w.Ears.length:Int))=true by simpa using hlt,Yi,aY,Yg hlt,Yf,hgr,AY hlt,mH r7]
   simp only[Yf,kd hlt,Yq hlt,Oh _ _ (YG a2 (by decide)),Oh _ _ (YG a3 (by decide)),IX _ _ (show (fk w g V i).length<=1000 by rw[gW]; omega)]
   have hne:zV w g V i=⟨ou w.Bar w.Ears[i].Cues,w.Ears[i].Got++[V i],w.Ears[i].Did++[(getM (rh g V w.Ears.length) (gr g i)).getD 0]⟩:=by
    unfold zV Ga
    rw[Yg hlt]
   rw[hne] at ih
   cases hc:w.Ears[i].Cues with
   | nil=>
    rw[hc] at ih
    exact ih
   | cons c l=>
    rw[hc] at ih
    have hpos:decide (0<(((c :: l).length:Nat):Int))=true:=by rw[YD]; exact Yl r7
    simp only[hpos,Yi,show bf (c :: l) 0=some c from rfl,Yf]
    cases hb:(c.Bar==w.Bar) with
    | true=>
     have hs:iB (c :: l) 1 (((c :: l).length:Nat):Int)=some l:=by
      unfold iB
      rw[Yl r7,Yl so,Yl r7]
      simp only[Z0,Yi]
      congr 1
      show ((c :: l).drop 1).take _=l
      rw[qbN,YL]
      exact Y3 r9
     simp only[Yi,hs,Yf]
     simp only[ou,hb,Yi] at ih
     exact ih
    | false=>
     simp only[ou,hb,Yh] at ih
     exact ih
  ·obtain rfl:i=w.Ears.length:=by omega
   rw[show decide ((w.Ears.length:Int)<(w.Ears.length:Int))=false by simp]
   rfl
theorem Ev (n:Nat) (w:av) (deaf:List Int) (hd:deaf.length<=4611686018427387904) (hn:w.Ears.length<=12):∀ (m i:Nat),i<=w.Ears.length->w.Ears.length - i<m ->
  qe n deaf w m (i:Int) ((List.range i).map (cO w deaf))=some ((List.range w.Ears.length).map (cO w deaf))
 | 0,i,_,h=>absurd h (YC _)
 | m+1,i,hi,h=>by
  rw[qe]
  by_cases hlt:i<w.Ears.length
  ·rw[show decide ((i:Int)<(w.Ears.length:Int))=true by simpa using hlt,Yi,TF w deaf i hlt hd,Yf,Ka _ _ so,Yf,mH r7,show (List.range i).map (cO w deaf)++[cO w deaf i]=(List.range (i+1)).map (cO w deaf) by rw[qaR,qaT]; rfl]
   exact Ev n w deaf hd hn m (i+1) r7 r7
  ·obtain rfl:i=w.Ears.length:=by omega
   rw[show decide ((w.Ears.length:Int)<(w.Ears.length:Int))=false by simp]; rfl
theorem Mh (l:List bL) (x:bL) (h:l.length<=1000):cQ 32 l [x]=some (l++[x]):=fc _ _ _ XZ
theorem zL (n:Nat) (w:av) (x:aN) (z1 z2:List Int) (hl:x.Cues.length<=40):∀ (m i:Nat) (acc:List bL),acc.length<=i->i<=x.Cues.length->x.Cues.length - i<m ->
  oz n w x z1 z2 m (i:Int) acc=some (acc++(x.Cues.drop i).filter fun c=>c.Bar != w.Bar)
 | 0,i,_,_,_,h=>absurd h (YC _)
 | m+1,i,acc,ha,hi,h=>by
  rw[oz]
  by_cases hlt:i<x.Cues.length
  ·rw[show decide ((i:Int)<(x.Cues.length:Int))=true by simpa using hlt,Yi,aY,Yg hlt,Yf,Yf,Yt hlt,qa0,mH r7]
   cases hb:(x.Cues[i].Bar != w.Bar) with
   | false=>
    simp only[Yh,YM,qap]
    exact zL n w x z1 z2 hl m (i+1) acc r7 r7 r7
   | true=>
    simp only[Yi,qas]
    rw[Mh _ _ r7,Yf,zL n w x z1 z2 hl m (i+1) _ so r7 r7,Za]; rfl
  ·rw[show decide ((i:Int)<(x.Cues.length:Int))=false by simpa using hlt,Yh,YB.2 r7,List.filter_nil,Zp]
theorem xj {role n:Int}:∀ (l:List bL) (lo:Int),mL role n lo l=true->∀ c∈l,lo<=c.Bar
 | [],_,_,c,hc=>by cases hc
 | a :: l,lo,h,c,hc=>by
  rw[mL] at h
  simp only[Yj,Ze,Zn] at h
  rcases Y1.1 hc with rfl | hc
  ·omega
  ·have:=xj l _ h.2 c hc; omega
theorem yw {role n bar:Int}:∀ (l:List bL),mL role n bar l=true->l.filter (fun c=>c.Bar != bar)=ou bar l
 | [],_=>rfl
 | c :: l,h=>by
  rw[mL] at h
  simp only[Yj,Ze,Zn] at h
  have hge:=xj l _ h.2
  have hl:l.filter (fun c=>c.Bar != bar)=l:=List.filter_eq_self.2 fun d hd=>by
   have:=hge d hd
   exact oH r7
  rw[qa0,hl,ou]
  by_cases hb:c.Bar=bar
  ·rw[hb,Y4,Zk]; rfl
  ·rw[oH hb,DF hb]; rfl
open Classical in
theorem Jl (n:Nat) (g:List Int) (V:Nat->Int) (k j:Nat) (hg:g.length=k) (hj:j<k) (hk:k<=1000):∀ (m i:Nat),i<=k->k - i<m ->
  kY n ((List.range k).map V) g (j:Int) m (i:Int)=some (if ∀ q,i<=q->q<k->gr g q=gr g j->V q=V j then .inr () else .inl 0)
 | 0,i,_,h=>absurd h (YC _)
 | m+1,i,hi,h=>by
  have hgg:∀ q,q<k->bf g (q:Int)=some (gr g q):=fun q hq=>by
   rw[aY]; unfold gr; rw[Yg r7]; rfl
  have hvv:∀ q,q<k->bf ((List.range k).map V) (q:Int)=some (V q):=fun q hq=>by
   rw[aY,YJ,ZX hq]; rfl
  rw[kY,ZR,List.length_range]
  by_cases hlt:i<k
  ·rw[show decide ((i:Int)<(k:Int))=true by simpa using hlt,Yi,hgg i hlt,hgg j hj,hvv i hlt,hvv j hj,mH r7,Jl n g V k j hg hj hk m (i+1) r7 r7]
   simp only[Yf]
   by_cases h1:gr g i=gr g j
   ·rw[h1,Zk,Yi,Yf]
    by_cases h2:V i=V j
    ·rw[h2,Y4,Yh]
     refine YX some (qaX (propext ⟨fun q a hia ha hga=>?_,fun q a hia ha hga=>q a r7 ha hga⟩) (fun _=>rfl) (fun _=>rfl))
     rcases qai hia with rfl | h3
     ·exact h2
     ·exact q a h3 ha hga
    ·rw[oH h2,Yi,Yp (show ¬ (∀ q,i<=q->q<k->gr g q=gr g j->V q=V j) from fun q=>h2 (q i (Yk _) hlt h1))]
   ·rw[DF h1,Yh,Yf,Yh]
    refine YX some (qaX (propext ⟨fun q a hia ha hga=>?_,fun q a hia ha hga=>q a r7 ha hga⟩) (fun _=>rfl) (fun _=>rfl))
    rcases qai hia with rfl | h3
    ·exact absurd hga h1
    ·exact q a h3 ha hga
  ·rw[show decide ((i:Int)<(k:Int))=false by simpa using hlt,Yh,Yq (fun q a b=>r7)]
theorem TG (g:List Int) (V:Nat->Int) (k j:Nat) (hg:g.length=k) (hj:j<k) (hk:k<=1000):LM ((List.range k).map V) g (j:Int)=some (Ga g V k j):=by
 unfold LM OV Ga
 have hw:=Jl aA g V k j hg hj hk (aA+8) 0 (Yx _) s5
 rw[show ((0:Nat):Int)=0 from rfl] at hw
 rw[hw,(wh g V k).2 j hj,qao]
 by_cases hq:∀ q,q<k->gr g q=gr g j->V q=V j
 ·rw[Yq (fun q _ b c=>hq q b c),Yq hq]
  simp only[Yf]
  rw[aY,YJ,ZX hj]; rfl
 ·rw[Yp (fun a=>hq (fun q b c=>a q (Yx _) b c)),Yp hq]; rfl
theorem Ew (n:Nat) (w:av) (g:List Int) (V:Nat->Int) (z1:Int) (z2:List ay) (z3:List (Int×Int)) (z4:List aN) (z5:Int) (z6:List ay) (z7:List (Int×Int)) (z8:Int) (hg:g.length=w.Ears.length) (hf:wK w) (hn:w.Ears.length<=12) (hN:1000<=n) (hw:okW w):∀ (m i:Nat),i<=w.Ears.length->w.Ears.length - i<m ->
  qf n g z1 w z2 z3 z4 z5 ((List.range w.Ears.length).map V) z6 z7 z8 m (i:Int) (fk w g V i)=some (fk w g V w.Ears.length)
 | 0,i,_,h=>absurd h (YC _)
 | m+1,i,hi,h=>by
  rw[qf]
  by_cases hlt:i<w.Ears.length
  ·obtain ⟨a1,a2,a3⟩:=hf.2.2.2 _ (YH hlt)
   have ih:=Ew n w g V z1 z2 z3 z4 z5 z6 z7 z8 hg hf hn hN hw m (i+1) r7 r7
   rw[<-sa] at ih
   have hv:bf ((List.range w.Ears.length).map V) (i:Int)=some (V i):=by rw[aY,YJ,ZX hlt]; rfl
   have hc2:=zL n w w.Ears[i] (w.Ears[i].Got++[V i]) (w.Ears[i].Did++[Ga g V w.Ears.length i]) a1 (n+8) 0 [] (Yk _) (Yx _) r7
   rw[show ((0:Nat):Int)=0 from rfl,YL,Zs] at hc2
   have hear:=hw.2.2.2.1 i hlt
   unfold pO at hear
   simp only[Yj] at hear
   rw[show decide ((i:Int)<(w.Ears.length:Int))=true by simpa using hlt,Yi,aY,Yg hlt,Yf,hv,Yf,Oi _ _ r7,Yf,TG g V _ i hg hlt r7,Yf,Oi _ _ r7,Yf,hc2,Yf]
   simp only[]
   rw[yw _ hear.2,IX _ _ (by rw[gW]; omega),Yf,mH r7]
   have hne:zV w g V i=⟨ou w.Bar w.Ears[i].Cues,w.Ears[i].Got++[V i],w.Ears[i].Did++[Ga g V w.Ears.length i]⟩:=by
    unfold zV
    rw[Yg hlt]
   rw[<-hne]
   exact ih
  ·obtain rfl:i=w.Ears.length:=by omega
   rw[show decide ((w.Ears.length:Int)<(w.Ears.length:Int))=false by simp]; rfl
end
section
def tS (b:Nat):Nat->bh->List aN->Int⊕bh
 | _,x,[]=>.inr x
 | j,x,e :: l=>bif (gk x j b ((e.Did[b]?).getD 0)).2 != 0 then .inl (gk x j b ((e.Did[b]?).getD 0)).2 else tS b (j+1) (gk x j b ((e.Did[b]?).getD 0)).1 l
theorem yj {b:Nat}:∀ (l:List aN) (j:Nat) (x y:bh),x.Apart.length<=4611686018427387904->x.Queue.length<=4611686018427387904->tS b j x l=.inr y->y.Apart.length<=4611686018427387904/\y.Queue.length<=4611686018427387904
 | [],j,x,y,h1,h2,h=>by cases h; exact⟨h1,h2⟩
 | e :: l,j,x,y,h1,h2,h=>by
  rw[tS] at h
  obtain ⟨q1,q2⟩:=iV (p:=⟨wr .i64 ((j:Int)+1),0,wE ⟨(j:Int),(b:Int),(e.Did[b]?).getD 0⟩⟩) h1
  cases hb:((gk x j b ((e.Did[b]?).getD 0)).2 != 0) with
  | true=>rw[hb] at h; cases h
  | false=>rw[hb] at h; exact yj l _ _ y q1 (by show (kE x _).1.Queue.length<=_; omega) h
theorem EF (n:Nat) (X:av) (b:Nat) (role:Int) (z1:List Int) (z2 z3:Int) (L:List Int) (z4:av) (z5:List ay) (z6:List (Int×Int)) (z7:Int) (z8:List Int) (z9:List (Int×Int)) (z10:List Int) (z11:List aN) (z12:Int) (z13:List ay) (z14:List (Int×Int)) (z15:List aN) (z16 z17:Int)
  (hr:dg role) (hL:L.length=b+1) (hb:b<=4096) (hd:∀ d∈L,dg d):∀ (m i:Nat) (q:List ay) (ap:List (Int×Int)),ap.length<=4611686018427387904->i<=L.length->L.length - i<m ->
  l0 n X (b:Int) role z1 z2 z3 L (L.length:Int) z4 z5 z6 z7 z8 z9 z10 z11 z12 z13 z14 z15 z16 z17 m (i:Int) q ap=some (if i<=b then (bif (gk ⟨q,ap⟩ role b ((L[b]?).getD 0)).2 != 0 then .inl (gk ⟨q,ap⟩ role b ((L[b]?).getD 0)).2 else .inr ((gk ⟨q,ap⟩ role b ((L[b]?).getD 0)).1.Queue,(gk ⟨q,ap⟩ role b ((L[b]?).getD 0)).1.Apart)) else .inr (q,ap))
 | 0,i,_,_,_,_,h=>absurd h (YC _)
 | m+1,i,q,ap,hA,hi,h=>by
  rw[l0]
  by_cases hlt:i<L.length
  ·rw[show decide ((i:Int)<(L.length:Int))=true by simpa using hlt]
   simp only[Yi,aY,Yg hlt,Yf]
   have ih:=fun q ap h=>EF n X b role z1 z2 z3 L z4 z5 z6 z7 z8 z9 z10 z11 z12 z13 z14 z15 z16 z17 hr hL hb hd m (i+1) q ap h r7 r7
   by_cases hib:i<b
   ·rw[show decide ((b:Int)<=(i:Int))=false by rw[Zn]; omega,Yh,mH r7,ih q ap hA,Yq r7,Yq r7]
   ·obtain rfl:i=b:=by omega
    have hrep:fQ ⟨role,(i:Int),L[i]⟩:=⟨hr,show dg ((i:Nat):Int) from rf r7 r7,hd _ (YH hlt)⟩
    rw[show decide ((i:Int)<=(i:Int))=true by simp]
    simp only[Yi,JI hrep,Oj ⟨q,ap⟩ _ hA,Yf]
    have e:kE ⟨q,ap⟩ ⟨wr .i64 (role+1),0,wE ⟨role,(i:Int),L[i]⟩⟩=gk ⟨q,ap⟩ role i L[i]:=rfl
    rw[e,Yq (Yk _),Yg hlt,qao]
    cases hq:((gk ⟨q,ap⟩ role i L[i]).2 != 0) with
    | true=>rfl
    | false=>
     simp only[Yh]
     rw[mH r7,ih (gk ⟨q,ap⟩ role i L[i]).1.Queue (gk ⟨q,ap⟩ role i L[i]).1.Apart (iV (x:=⟨q,ap⟩) hA).1,Yp r7]
  ·rw[show decide ((i:Int)<(L.length:Int))=false by simpa using hlt,Yh,Yp r7]
theorem EE (n:Nat) (X:av) (b:Nat) (z4:av) (z5:List ay) (z6:List (Int×Int)) (z7:Int) (z8:List Int) (z9:List (Int×Int)) (z10:List Int) (z11:List aN) (z12:Int) (z13:List ay) (z14:List (Int×Int)) (z15:List aN) (z16 z17:Int)
  (hb:b<=4096) (hn:X.Ears.length<=12) (hN:10000<=n) (hd:∀ x∈X.Ears,x.Did.length=b+1/\∀ d∈x.Did,dg d):∀ (m i:Nat) (q:List ay) (ap:List (Int×Int)),ap.length<=4611686018427387904->i<=X.Ears.length->X.Ears.length - i<m ->
  nS n X (b:Int) (fe X.Ears.length) ((fe X.Ears.length).length:Int) z4 z5 z6 z7 z8 z9 z10 z11 z12 z13 z14 z15 z16 z17 m (i:Int) q ap=some (match tS b i ⟨q,ap⟩ (X.Ears.drop i) with | .inl e=>.inl e | .inr x=>.inr (x.Queue,x.Apart))
 | 0,i,_,_,_,_,h=>absurd h (YC _)
 | m+1,i,q,ap,hA,hi,h=>by
  rw[nS]
  by_cases hlt:i<X.Ears.length
  ·obtain ⟨d1,d2⟩:=hd _ (YH hlt)
   have hev:bf (fe X.Ears.length) (i:Int)=some (i:Int):=by
    rw[aY]; unfold fe; rw[YJ,ZX hlt]; rfl
   have hw:=EF n X b (i:Int) (fe X.Ears.length) ((fe X.Ears.length).length:Int) (i:Int) X.Ears[i].Did z4 z5 z6 z7 z8 z9 z10 z11 z12 z13 z14 z15 z16 z17 (rf r7 r7) d1 hb d2 (n+6) 0 q ap hA (Yx _) r7
   rw[show ((0:Nat):Int)=0 from rfl,Yq (Yx _)] at hw
   rw[show decide ((i:Int)<((fe X.Ears.length).length:Int))=true by rw[oO]; simpa using hlt]
   simp only[Yi,hev,Yf,aY,Yg hlt,hw]
   rw[Yt hlt,tS]
   cases hq:((gk ⟨q,ap⟩ (i:Int) b ((X.Ears[i].Did[b]?).getD 0)).2 != 0) with
   | true=>rfl
   | false=>
    simp only[Yh]
    rw[mH r7]
    exact EE n X b z4 z5 z6 z7 z8 z9 z10 z11 z12 z13 z14 z15 z16 z17 hb hn hN hd m (i+1) _ _ (iV (x:=⟨q,ap⟩) hA).1 r7 r7
  ·rw[show decide ((i:Int)<((fe X.Ears.length).length:Int))=false by rw[oO]; simpa using hlt,Yh,YB.2 r7]
   rfl
theorem EG (n:Nat) (w:av) (E:List aN) (b:Nat) (bar:Int) (z5:List ay) (z6:List (Int×Int)) (z7:List aN) (z8:Int)
  (hwb:w.Bar=b) (hb:b<=4096) (hn:E.length<=12) (hd:∀ x∈E,x.Did.length=b+1/\∀ d∈x.Did,dg d):∀ (m i:Nat) (q:List ay) (ap:List (Int×Int)),ap.length<=4611686018427387904->i<=E.length->E.length - i<m ->
  qg n w z5 z6 z7 z8 m (i:Int) q ap E bar=some (match tS b i ⟨q,ap⟩ (E.drop i) with | .inl e=>.inl (e,0) | .inr x=>.inr (x.Queue,x.Apart,E,bar))
 | 0,i,_,_,_,_,h=>absurd h (YC _)
 | m+1,i,q,ap,hA,hi,h=>by
  rw[qg]
  by_cases hlt:i<E.length
  ·obtain ⟨d1,d2⟩:=hd _ (YH hlt)
   have hlb:b<E[i].Did.length:=r7
   have hrep:fQ ⟨(i:Int),(b:Int),E[i].Did[b]⟩:=⟨show dg ((i:Nat):Int) from rf r7 r7,show dg ((b:Nat):Int) from rf r7 r7,d2 _ (YH hlb)⟩
   have hg:Im ⟨⟨q,ap⟩,E,bar⟩ (i:Int) w.Bar=some (bif (gk ⟨q,ap⟩ i b E[i].Did[b]).2 != 0 then (zW,(gk ⟨q,ap⟩ i b E[i].Did[b]).2) else (⟨(gk ⟨q,ap⟩ i b E[i].Did[b]).1,E,bar⟩,0)):=by
    unfold Im LD
    rw[hwb]
    simp only[aY,Yg hlt,Yg hlb,Yf,Ol hrep,Ok ⟨q,ap⟩ _ hA]
    have e:kE ⟨q,ap⟩ ⟨wr .i64 ((i:Int)+1),0,wE ⟨(i:Int),(b:Int),E[i].Did[b]⟩⟩=gk ⟨q,ap⟩ i b E[i].Did[b]:=rfl
    rw[e]
    cases ((gk ⟨q,ap⟩ i b E[i].Did[b]).2 != 0)<;>rfl
   rw[show decide ((i:Int)<(E.length:Int))=true by simpa using hlt,Yt hlt,tS]
   rw[Yg hlb,qao]
   simp only[Yi,hg,Yf]
   cases hq:((gk ⟨q,ap⟩ i b E[i].Did[b]).2 != 0) with
   | true=>simp only[Yi,hq]
   | false=>
    simp only[Yh,Y4]
    rw[mH r7]
    exact EG n w E b bar z5 z6 z7 z8 hwb hb hn hd m (i+1) _ _ (iV (x:=⟨q,ap⟩) hA).1 r7 r7
  ·rw[show decide ((i:Int)<(E.length:Int))=false by simpa using hlt,Yh,YB.2 r7]
   rfl
def KQ (g:List Int) (n:Nat):Prop:=g.length=n/\∀ j (h:j<g.length),0<=j->gB g j=true
open Classical in
noncomputable def qt (w:av) (deaf g:List Int):av×Int:=
 bif mW w != 0 then (zW,mW w) else bif !kj (w.Ears.length:Int) (-1) deaf then (zW,1) else
 if KQ g w.Ears.length then (bif w.Bar==4096 then (zW,2) else
  match tS w.Bar.toNat 0 w.Net (fk w g (cO w deaf) w.Ears.length) with
  | .inl e=>(zW,e)
  | .inr x=>(⟨x,fk w g (cO w deaf) w.Ears.length,w.Bar+1⟩,0)) else (zW,1)
theorem D2 {w:av} (h:iU w) (deaf:List Int) (j:Nat):dg (cO w deaf j):=by
 unfold cO
 split
 ·rename_i x hx
  have hm:=YQ hx
  split
  ·rename_i c l hc
   cases ((c.Bar==w.Bar)&&!decide ((j:Int)∈deaf))
   ·exact D9
   ·exact((h.2.1.2 x hm).1.2 c (by rw[hc]; exact ZJ)).2.2.2
  ·exact D9
 ·exact D9
theorem Kj {g:List Int} {V:Nat->Int} (hV:∀ j,dg (V j)) (n j:Nat) (hj:j<n):dg (Ga g V n j):=by
 unfold Ga
 rw[(wh g V n).2 j hj,qao]
 split
 ·exact hV j
 ·exact D9
theorem ur {w:av} {g:List Int} {V:Nat->Int} {x:aN} (h:x∈fk w g V w.Ears.length):∃ j,∃ hj:j<w.Ears.length,x=⟨ou w.Bar w.Ears[j].Cues,w.Ears[j].Got++[V j],w.Ears[j].Did++[Ga g V w.Ears.length j]⟩:=by
 unfold fk at h
 obtain ⟨j,hj,rfl⟩:=qaU.1 h
 have hj':=YR.1 hj
 refine⟨j,hj',?_⟩
 unfold zV
 rw[Yg hj']
theorem Cb (bar:Int) (l:List bL):(ou bar l).length<=l.length:=by
 cases l with
 | nil=>exact Yk _
 | cons c l=>
  show (bif c.Bar==bar then l else c :: l).length<=_
  cases (c.Bar==bar)
  ·exact Yk _
  ·exact Nat.le_succ _
theorem uq {w:av} (h:iU w) (hw:okW w) (g deaf:List Int):∀ x∈fk w g (cO w deaf) w.Ears.length,x.Did.length=w.Bar.toNat+1/\∀ d∈x.Did,dg d:=fun x hx=>by
 obtain ⟨j,hj,rfl⟩:=ur hx
 have he:=rA hw.2.2.2.1 _ (YH hj)
 refine⟨by show (w.Ears[j].Did++_).length=_; rw[YF,List.length_singleton]; omega,fun d hd=>?_⟩
 rcases Zz.1 hd with q | q
 ·exact zt h (YH hj) d q
 ·rw[List.mem_singleton.1 q]; exact Kj (D2 h deaf) _ _ hj
theorem XS (w:av) (deaf g:List Int) (h:JT w) (hd:deaf.length<=100) (hgl:g.length<=100):G7 w deaf g=some (qt w deaf g):=by
 unfold G7 F7 qt
 rw[Oq w h.few.fit,Yf]
 cases hc:(mW w != 0) with
 | true=>rfl
 | false=>
  have hw:=wo hc
  obtain ⟨hn1,hn2⟩:=hw.1
  obtain ⟨hb1,hb2⟩:=hw.2.1
  have hR:=EC aA (w.Ears.length:Int) deaf [] [] [] 0 r7 r7 (aA+8) 0 (-1) r7 (Yx _) s5
  rw[show ((0:Nat):Int)=0 from rfl,YL] at hR
  simp only[Yh,hR,Yf]
  cases hr:kj (w.Ears.length:Int) (-1) deaf with
  | false=>rfl
  | true=>
   simp only[Yi,Yv,Yh]
   by_cases hgn:g.length=w.Ears.length
   ·rw[show ((g.length:Int) != (w.Ears.length:Int))=false by rw[hgn]; simp,Yh]
    have hG:=Ez aA g [] [] [] 0 r7 (aA+8) 0 (Yx _) s5
    rw[show ((0:Nat):Int)=0 from rfl] at hG
    rw[hG]
    by_cases hg:∀ j (h:j<g.length),0<=j->gB g j=true
    ·rw[Yq hg,Yq (show KQ g w.Ears.length from ⟨hgn,hg⟩)]
     simp only[Yf]
     cases hbar:(w.Bar==4096) with
     | true=>rfl
     | false=>
      have hne:w.Bar≠4096:=by simpa using hbar
      have hmk:EK 8 (w.Ears.length:Int) (0:Int)=some (List.replicate w.Ears.length 0):=by
       unfold EK
       rw[B6,Yl r7,Yl r7,Yl r7]; rfl
      have hz:List.replicate w.Ears.length (0:Int)=nz w.Ears.length (cO w deaf) 0:=by
       unfold nz
       apply Zv
       intro j
       by_cases hj:j<w.Ears.length
       ·rw[YJ,ZX hj,ZK,Yq hj]; rfl
       ·rw[Y7 so,Y7 so]
      have hB2:=Es aA w deaf g (mW w) [] [] [] 0 r7 hgn hn2 (aA+8) 0 (Yx _) s5
      have hB3:=Et aA w g (cO w deaf) (mW w) w.Net.Queue w.Net.Apart (wr .i64 (w.Bar+1)) (fe w.Ears.length) hgn h.few hn2 (aA+8) 0 (Yx _) s5
      rw[show ((0:Nat):Int)=0 from rfl] at hB2 hB3
      rw[show rh g (cO w deaf) 0=[] from rfl,show fe 0=[] from rfl] at hB2
      rw[show fk w g (cO w deaf) 0=[] from rfl] at hB3
      have hwb:wr .i64 (w.Bar+1)=w.Bar+1:=dE r7 r7
      rw[hwb] at hB3
      have eb:w.Bar=((w.Bar.toNat:Nat):Int):=r7
      simp only[hmk,Yf,hz,lJ,hB2,hwb,hB3,Yh]
      have hS:=EE aA ⟨w.Net,fk w g (cO w deaf) w.Ears.length,w.Bar+1⟩ w.Bar.toNat w w.Net.Queue w.Net.Apart (w.Bar+1) (nz w.Ears.length (cO w deaf) w.Ears.length) (rh g (cO w deaf) w.Ears.length) (fe w.Ears.length) (fk w g (cO w deaf) w.Ears.length) (w.Bar+1) [] [] [] 0 0 r7 (by show (fk w g (cO w deaf) w.Ears.length).length<=12; rw[gW]; exact hn2) s5 (uq h.ok hw g deaf) (aA+6) 0 w.Net.Queue w.Net.Apart (by have:=h.few.2.1; omega) (Yx _) (by rw[fu]; show (fk w g (cO w deaf) w.Ears.length).length - 0<_; rw[gW]; omega)
      rw[show ((0:Nat):Int)=0 from rfl,<-eb] at hS
      simp only[gW,YL] at hS
      rw[show Lf ⟨w.Net,fk w g (cO w deaf) w.Ears.length,w.Bar+1⟩ w.Bar (fe w.Ears.length)=some (fe w.Ears.length,⟨w.Net,fk w g (cO w deaf) w.Ears.length,w.Bar+1⟩,w.Bar) from rfl]
      simp only[Yf,hS]
      cases tS w.Bar.toNat 0 w.Net (fk w g (cO w deaf) w.Ears.length)<;>rfl
    ·rw[Yp hg,Yp (show ¬ KQ g w.Ears.length from fun q=>hg q.2)]; rfl
   ·rw[show ((g.length:Int) != (w.Ears.length:Int))=true by simp; omega,Yp (show ¬ KQ g w.Ears.length from fun q=>hgn q.1)]; rfl
theorem TV (w:av) (deaf g:List Int) (h:JT w) (hd:deaf.length<=100) (hgl:g.length<=100):G8 w deaf g=some (qt w deaf g):=by
 unfold G8 F8 qt
 rw[Ot w h.few.fit,Yf]
 cases hc:(mW w != 0) with
 | true=>rfl
 | false=>
  have hw:=wo hc
  obtain ⟨hn1,hn2⟩:=hw.1
  obtain ⟨hb1,hb2⟩:=hw.2.1
  have hR:=ED aA (w.Ears.length:Int) deaf r7 r7 (aA+8) 0 (-1) (qbf _) (fun _=>rfl) (fun q=>absurd q (ZZ _)) (Yx _) s5
  rw[show ((0:Nat):Int)=0 from rfl,YL] at hR
  have h29:LK deaf (w.Ears.length:Int)=some (kj (w.Ears.length:Int) (-1) deaf):=by
   unfold LK OQ
   rw[hR]
   cases kj (w.Ears.length:Int) (-1) deaf<;>rfl
  simp only[Yh,h29,Yf]
  cases hr:kj (w.Ears.length:Int) (-1) deaf with
  | false=>rfl
  | true=>
   simp only[Yv,Yh]
   by_cases hgn:g.length=w.Ears.length
   ·have hG:=EA aA g r7 (aA+8) 0 (Yx _) s5
    rw[show ((0:Nat):Int)=0 from rfl,hgn] at hG
    have h30:JN g (w.Ears.length:Int)=some (if ∀ j (h:j<g.length),0<=j->gB g j=true then true else false):=by
     unfold JN LC
     rw[show ((g.length:Int) != (w.Ears.length:Int))=false by rw[hgn]; simp,Yh,hG]
     rw[<-hgn]
     split<;>rfl
    rw[h30]
    by_cases hg:∀ j (h:j<g.length),0<=j->gB g j=true
    ·rw[Yq hg,Yq (show KQ g w.Ears.length from ⟨hgn,hg⟩)]
     simp only[Yf,Yv,Yh]
     cases hbar:(w.Bar==4096) with
     | true=>rfl
     | false=>
      have hne:w.Bar≠4096:=by simpa using hbar
      have hwb:wr .i64 (w.Bar+1)=w.Bar+1:=dE r7 r7
      have hC0:=Ev aA w deaf r7 hn2 (aA+8) 0 (Yx _) s5
      have hC1:=Ew aA w g (cO w deaf) 0 [] [] [] 0 w.Net.Queue w.Net.Apart (w.Bar+1) hgn h.few hn2 s5 hw (aA+8) 0 (Yx _) s5
      rw[show ((0:Nat):Int)=0 from rfl] at hC0 hC1
      rw[show (List.range 0).map (cO w deaf)=[] from rfl] at hC0
      rw[show fk w g (cO w deaf) 0=[] from rfl] at hC1
      have eb:w.Bar=((w.Bar.toNat:Nat):Int):=r7
      have hS:=EG aA w (fk w g (cO w deaf) w.Ears.length) w.Bar.toNat (w.Bar+1) [] [] [] 0 eb r7 (by rw[gW]; exact hn2) (uq h.ok hw g deaf) (aA+8) 0 w.Net.Queue w.Net.Apart (by have:=h.few.2.1; omega) (Yx _) (by rw[fu,gW]; omega)
      rw[show ((0:Nat):Int)=0 from rfl,YL] at hS
      simp only[Yh,hC0,Yf,hwb,hC1,hS]
      cases tS w.Bar.toNat 0 w.Net (fk w g (cO w deaf) w.Ears.length)<;>rfl
    ·rw[Yp hg,Yp (show ¬ KQ g w.Ears.length from fun q=>hg q.2)]; rfl
   ·have h30:JN g (w.Ears.length:Int)=some false:=by
     unfold JN LC
     rw[show ((g.length:Int) != (w.Ears.length:Int))=true by simp; omega]; rfl
    rw[h30,Yp (show ¬ KQ g w.Ears.length from fun q=>hgn q.1)]; rfl
theorem zj {w:av} (h:JT w) (deaf g:List Int):Cr (qt w deaf g).1:=by
 unfold qt
 cases (mW w != 0) with
 | true=>exact mo
 | false=>
  simp only[Yh]
  cases (!kj (w.Ears.length:Int) (-1) deaf) with
  | true=>exact mo
  | false=>
   simp only[Yh]
   split
   ·cases (w.Bar==4096) with
    | true=>exact mo
    | false=>
     simp only[Yh]
     split
     ·exact mo
     ·rename_i y hy
      obtain ⟨q1,q2⟩:=yj _ _ _ _ (by have:=h.few.2.1; omega) (by have:=h.few.1; omega) hy
      refine⟨⟨by rw[gW]; have:=h.few.2.2.1; omega,fun x hx=>?_⟩,q2,q1⟩
      obtain ⟨j,hj,rfl⟩:=ur hx
      obtain ⟨a1,a2,a3⟩:=h.few.2.2.2 _ (YH hj)
      have:=Cb w.Bar w.Ears[j].Cues
      exact⟨by show (ou _ _).length<=_; omega,by show (w.Ears[j].Got++_).length<=_; simp; omega,by show (w.Ears[j].Did++_).length<=_; simp; omega⟩
   ·exact mo
theorem NJ:IW:=by
 intro w deaf g role hw hd hg hr
 unfold G3 F3
 rw[TC,Yf]
 simp only[Yv,Yh]
 rcases XT w with h8 | ⟨h8,hf⟩
 ·rw[h8]; rfl
 ·rw[h8]
  simp only[Yf,Yv,Yh]
  by_cases h1:deaf.length<=100
  ·by_cases h2:g.length<=100
   ·have h:JT w:=⟨hf,hw⟩
    have d1:decide ((100:Int)<(deaf.length:Int))=false:=X6
    have d2:decide ((100:Int)<(g.length:Int))=false:=X6
    simp only[d1,d2,Yh,Yf,XS w deaf g h h1 h2,TV w deaf g h h1 h2,TW w role h,Oo w role h,JH _ (zj h deaf g),JH _ (zh h role),Yi,Zk]
   ·have d2:decide ((100:Int)<(g.length:Int))=true:=by rw[Z3]; omega
    rw[d2]
    cases decide ((100:Int)<(deaf.length:Int))<;>rfl
  ·have d1:decide ((100:Int)<(deaf.length:Int))=true:=by rw[Z3]; omega
   rw[d1]; rfl
end
section
open Go.RowKit Go.Deep
theorem own:ownKnob Tryz.prog.godebug=none:=r8
theorem laidOut:laidOutB Tryz.prog=true:=r8
end
section
open Go.RowKit Go.ChangeShapes Go.WideShapes Go.ChangeAt Go.Deep
theorem mY (os:Os) (started:os.Started) (H:Type) (enc:TypeId×Value->H) :
  ReturnsInHanded {} Tryz.checked os 3 .any (Rows.wiresBeginSpecSpec.pre6 enc Tryz.prog Tryz.f3 Rows.wiresBeginSpecRow.domain false) (Rows.wiresBeginSpecSpec.post enc Tryz.prog Tryz.f3 false true false false):=by
 refine returnsInHanded_of_change (C:=Tryz.checked) own started r8 Tryz.func3
  (ChangeSpec.witness6 (enc:=enc) (C:=Tryz.checked) false ⟨#[],#[.agg #[.slice none 0 0,.slice none 0 0,.slice none 0 0,.int .i64 0],.slice none 0 0,.slice none 0 0,.int .i64 0],[]⟩ 8 r8 r8 r8 r8) ?_
 intro W base args ds gs before hval hW _ _
 exact we rfl rfl Tryz.underlying4 laidOut r8 (fun ds h=>(by match ds,h with | [_,_,_,_],_=>rfl)) W base args ds gs before hval hW (fun hg=>Oy NJ W base args hg (fun G vs h=>by cases h))
theorem wiresBeginSpec_holds:Rows.WiresBeginSpecSaid:=
 OpenClaim.holds_of_wide 3 Tryz.f3 rfl rfl rfl rfl rfl rfl rfl ⟨rfl,rfl,rfl,rfl,rfl⟩ rfl rfl rfl rfl rfl r8 Tryz.func3 r8
  (Yr r8) (by unfold Func.isWrapper; first | (rw[Yq (by decide +kernel)]; kernel_rfl) | (rw[Yp (by decide +kernel)]; exact⟨rfl,rfl⟩))
  (fun os started H enc _=>mY os started H enc)
#print axioms wiresBeginSpec_holds
end
end Go.Proofs.YtebkhfhcipnfgaaGreat
