/-
 Layer 49, in plain Lean: groups, deaf roles, and what is due.
-/
import Derived.Test.YtebkhfhcipnfgaaTb3
namespace Go.Proofs.Ytebkhfhcipnfgaa
set_option linter.unusedVariables false
set_option linter.unusedSimpArgs false
set_option maxHeartbeats 4000000
set_option maxRecDepth 100000
set_option linter.defProp false
theorem u3 {p:Prop} (h:p:=by rw[fu]; omega):p:=h
theorem ZQ {p:Prop} (h:p:=by rw[BD]; simp; omega):p:=h
theorem ZV {p:Prop} (h:p:=by unfold ee; omega):p:=h
theorem ZZ {p:Prop} (h:p:=by simp[gY]; omega):p:=h
theorem Z0 {p:Prop} (h:p:=by rw[List.length_cons]; omega):p:=h
theorem Z2 {p:Prop} (h:p:=by rw[List.drop_zero]; simp; omega):p:=h
def qal:=@decide_eq_false
def qaP:=@bne_self_eq_false
def qbl:=@decide_eq_false_iff_not
def qbG:=@Nat.lt_succ_iff_lt_or_eq
def qbU:=@decide_eq_true_iff
def qb6:=@BitVec.toNat_ofInt
def qb7:=@List.length_singleton
def qb9:=@Int.le_refl
def qct:=@Int.fdiv_eq_ediv_of_nonneg
def qcM:=@Nat.le_succ_of_le
def qcY:=@List.cons.inj
def qc1:=@List.getElem?_range
def qc6:=@Nat.eq_or_lt_of_le
def qc9:=@Nat.mul_assoc
def qdm:=@Nat.pow_le_pow_right
def qdn:=@List.length_set
def qdq:=@List.takeWhile_cons
def qdr:=@List.dropWhile_cons
def qdx:=@List.pairwise_cons
def qdB:=@UInt8.ofNat_toNat
def qdK:=@Nat.pow_succ
def qdL:=@List.set_set
def qd4:=@Nat.mul_le_mul
def qea:=@List.any_cons
def qee:=@ByteArray.toList_eq
def qek:=@Nat.pow_add
section
open Go.Proofs.Try (prog)
theorem Cq:fP az:=λx y h=>by
 unfold az at h;simp only[qa9,A.v.injEq,qbD,qbE,qbA,qcr,qcd] at h;have h3:=vw x y (by simp[h]);obtain ⟨xKind,xN,xS,lx⟩:=x; obtain ⟨yKind,yN,yS,ly⟩:=y
 simp_all
theorem mg:fP ak:=λx y h=>by
 obtain ⟨xKind,xAt,xRole,xProgram,xNo,xBar,xDeaf,xGroups⟩:=x; obtain ⟨yKind,yAt,yRole,yProgram,yNo,yBar,yDeaf,yGroups⟩:=y;simp only[ak,qa9,A.v.injEq,A.imm.injEq,qbD,qbE,qbA,qcr,qcd,map_inj (oH)] at h
 simp_all
theorem hY:fP al:=λx y h=>by
 obtain ⟨xFrom,xTo,xData⟩:=x; obtain ⟨yFrom,yTo,yData⟩:=y;simp only[al,qa9,A.v.injEq,A.imm.injEq,qbD,qbE,qbA,qcr,qcd,map_inj (oH)] at h
 simp_all
theorem fK:fP au:=λx y h=>by
 obtain ⟨x0_,x1_⟩:=x; obtain ⟨y0_,y1_⟩:=y;simp only[au,qa9,A.v.injEq,A.imm.injEq,qbD,qbE,qbA,qcr,qcd] at h
 simp_all
theorem lW:fP dF:=λx y h=>by
 obtain ⟨xQueue,xApart⟩:=x; obtain ⟨yQueue,yApart⟩:=y;simp only[dF,qa9,A.v.injEq,A.imm.injEq,qbD,qbE,qbA,qcr,qcd,map_inj (hY),map_inj (oH),map_inj (fK)] at h
 simp_all
theorem kI:fP av:=λx y h=>by
 obtain ⟨xNo,xRole,xBar,xProgram⟩:=x; obtain ⟨yNo,yRole,yBar,yProgram⟩:=y;simp only[av,qa9,A.v.injEq,A.imm.injEq,qbD,qbE,qbA,qcr,qcd] at h
 simp_all
theorem AQ:fP aB:=λx y h=>by
 obtain ⟨xCues,xGot,xDid⟩:=x; obtain ⟨yCues,yGot,yDid⟩:=y;simp only[aB,qa9,A.v.injEq,A.imm.injEq,qbD,qbE,qbA,qcr,qcd,map_inj (kI),map_inj (pC .i64)] at h
 simp_all
theorem ia:fP aq:=λx y h=>by
 obtain ⟨⟨xNetQueue,xNetApart⟩,xEars,xBar⟩:=x; obtain ⟨⟨yNetQueue,yNetApart⟩,yEars,yBar⟩:=y;simp only[aq,qa9,A.v.injEq,A.imm.injEq,qbD,qbE,qbA,qcr,qcd,map_inj (hY),map_inj (oH),map_inj (fK),map_inj (AQ),map_inj (kI),map_inj (pC .i64)] at h
 simp_all
theorem qS:fP ax:=λx y h=>by
 obtain ⟨xkind,⟨xcueNo,xcueRole,xcueBar,xcueProgram⟩,⟨xreportRole,xreportBar,xreportProgram⟩⟩:=x; obtain ⟨ykind,⟨ycueNo,ycueRole,ycueBar,ycueProgram⟩,⟨yreportRole,yreportBar,yreportProgram⟩⟩:=y;simp only[ax,qa9,A.v.injEq,A.imm.injEq,qbD,qbE,qbA,qcr,qcd] at h
 simp_all
theorem eC {T:Type} {c:T->List A} (h:fP c):fP (λx=>A.agg (c x)):=λx y e=>h x y (A.agg.inj e)
theorem jE {T:Type} {f:T->List A} (h:fP f):fP (λl:List T=>A.imm (l.map f) false):=λx y e=>(map_inj h x y).1 (A.imm.inj e).1
theorem eJ (k:IntKind):fP (λn=>A.v (.int k n)):=λx y e=>by simpa using e
theorem eo {X:Type} {f:X->A} (hf:fP f):fP (λx=>[f x]):=λx y e=>hf x y (qcY e).1
theorem iR {X Y:Type} {f:X->A} {g:Y->List A} (hf:fP f) (hg:fP g):fP (λx:X×Y=>f x.1 :: g x.2):=λx y e=>Prod.ext (hf _ _ (qcY e).1) (hg _ _ (qcY e).2)
theorem fH:fP ar:=λx y h=>Cq x y (by rw[dB,dB]; exact h)
noncomputable def C0:Nat->List A->Option A:=λ_ _=>none
def cj (C:Nat->List A->Option A):Prop:=∀ (k:Nat) (args:List A) (r:A),C k args=some r->fX prog (cx C0).glob k args r
theorem UY:cj C0:=λk args r h=>(by cases h)
theorem iY {C:Nat->List A->Option A} {k:Nat} {c:List A->Option A} (h:cj C) (hc:∀ args r,c args=some r->fX prog (cx C0).glob k args r):cj (iI C k c):=λj args r hr=>by
 simp only[iI] at hr;rw[bP] at hr;split at hr
 ·rename_i hj;rw[qan hj]; exact hc args r hr
 ·exact h j args r hr
theorem MH {C:Nat->List A->Option A} (hC:cj C) (N k:Nat) (args:List A) (r:A) (h:RR C N k args=some r):fX prog (cx C0).glob k args r:=by
 unfold RR at h;split at h
 ·rename_i x H he;cases h;exact rA (cx:=cx C) (λk args r _ h=>hC k args r h) r7 he
 ·cases h
theorem LD:∀ m,cj (Cn m)
 | 0=>λk args r h=>(by cases h)
 | m+1=>λk args r h=>MH (LD m) 1000 k args r h
theorem c7 {X Y:Type} {C:Nat->List A->Option A} {k:Nat} {x:X->List A} {G:X->Option Y} {f:Y->A} (hC:cj C) (h:∀ a,J (λ(o:R) y=>∃ v,o.1=.ret v/\bp o.2 v=f y) (aK (cx C) (dH (cx C) (aD+8)) (bz (cx C) (aD+8)) (aD+8) k (x a) [] 0) some (G a) some):cj (iI C k λargs=>bW x (λa=>(G a).map f) args):=iY hC λargs r h'=>by
 obtain ⟨a,y,rfl,hy,rfl⟩:=eT h';exact CD (cx:=cx C) (λk args r _ h=>hC k args r h) r7 (h a) hy
def x7 (x:Unit):List A:=[]
theorem Zs:fP x7:=λ_ _ _=>rfl
noncomputable def o7 (args:List A):Option A:=bW x7 (λx=>(G7 ).map λy=>(bA y)) args
theorem Zf:∀ e∈W4,Cn 24 7 (x7 e.1)=(λ(y:Bool)=>some (bA y)) e.2:=List.forall_mem_cons.2 ⟨TB,λ_ h=>absurd h qb3⟩
theorem Zv (args:List A) (r:A) (h:o7 args=some r):fX prog (cx C0).glob 7 args r:=by
 obtain ⟨x,y,rfl,hy,rfl⟩:=eT h;exact LD 24 7 _ _ (Zf (x,y) (Bt hy))
noncomputable def C1:Nat->List A->Option A:=iI C0 7 o7
theorem Ns:cj C1:=iY UY Zv
def Jb (x:Int×Int×Int):List A:=[(iA x.1),(iA x.2.1),(iA x.2.2)]
theorem T7:fP Jb:=iR (eJ .i64) (iR (eJ .i64) (eo (eJ .i64)))
noncomputable def Wi (args:List A):Option A:=bW Jb (λx=>(zH x.1 x.2.1 x.2.2).map λy=>(bA y)) args
noncomputable def C2:Nat->List A->Option A:=iI C1 30 Wi
theorem Nt:cj C2:=c7 Ns λx=>XG C1 aD  x.1 x.2.1 x.2.2
def Bx (x:Unit):List A:=[]
theorem T8:fP Bx:=λ_ _ _=>rfl
noncomputable def Wj (args:List A):Option A:=bW Bx (λx=>(S5 ).map λy=>(A.agg [(A.imm (List.map al y.Queue) false),(A.imm (List.map au y.Apart) false)])) args
noncomputable def C3:Nat->List A->Option A:=iI C2 31 Wj
theorem Nu:cj C3:=c7 Nt λx=>XH C2 aD
def eM (x:Int):List A:=[(iA x)]
theorem TW:fP eM:=eo (eJ .i64)
noncomputable def Wa (args:List A):Option A:=bW eM (λx=>(Ol x).map λy=>(A.tup [(A.agg (aq y.1)),(iA y.2)])) args
theorem Fh {C:Nat->List A->Option A} (h:∀ a,C 30 a=Wi a):oP C:=λa0 a1 a2=>(h _).trans (aY _ T7 (a0,a1,a2))
theorem U6 {C:Nat->List A->Option A} (h:∀ a,C 31 a=Wj a):Lh C:=λ_=>(h _).trans (aY _ T8 ())
noncomputable def C4:Nat->List A->Option A:=iI C3 11 Wa
theorem Nv:cj C4:=c7 Nu λx=>Xw C3 aD (Fh λ_=>r7) (U6 λ_=>r7) x
def Xl (x:Int×Int):List A:=[(iA x.1),(iA x.2)]
theorem Uv:fP Xl:=iR (eJ .i64) (eo (eJ .i64))
noncomputable def WA (args:List A):Option A:=bW Xl (λx=>(OE x.1 x.2).map λy=>(A.agg [(iA y.1),(iA y.2)])) args
noncomputable def C5:Nat->List A->Option A:=iI C4 72 WA
theorem Nw:cj C5:=c7 Nv λx=>X3 C4 aD  x.1 x.2
def Xh (x:(Int×Int)):List A:=[(A.agg (au x))]
theorem Ur:fP Xh:=eo (eC (fK))
noncomputable def Wx (args:List A):Option A:=bW Xh (λx=>(NY x).map λy=>(bA y)) args
noncomputable def C6:Nat->List A->Option A:=iI C5 64 Wx
theorem Nx:cj C6:=c7 Nw λx=>XZ C5 aD  x
def BA (x:aC):List A:=[(A.agg (al x))]
theorem Um:fP BA:=eo (eC (hY))
noncomputable def N8 (args:List A):Option A:=bW BA (λx=>(NW x).map λy=>(bA y)) args
theorem QI {C:Nat->List A->Option A} (h:∀ a,C 64 a=Wx a):Dd C:=λa0=>(h _).trans (aY _ Ur a0)
theorem QJ {C:Nat->List A->Option A} (h:∀ a,C 72 a=WA a):FX C:=λa0 a1=>(h _).trans (aY _ Uv (a0,a1))
noncomputable def C7:Nat->List A->Option A:=iI C6 56 N8
theorem Ny:cj C7:=c7 Nx λx=>XU C6 aD (QI λ_=>r7) (QJ λ_=>r7) x
def Xg (x:aC):List A:=[(A.agg (al x))]
theorem Uq:fP Xg:=eo (eC (hY))
noncomputable def Ww (args:List A):Option A:=bW Xg (λx=>(OB x).map λy=>(bA y)) args
theorem QH {C:Nat->List A->Option A} (h:∀ a,C 56 a=N8 a):FV C:=λa0=>(h _).trans (aY _ Um a0)
noncomputable def C8:Nat->List A->Option A:=iI C7 63 Ww
theorem Nz:cj C8:=c7 Ny λx=>XY C7 aD (QH λ_=>r7) x
def CY (x:(List aC)):List A:=[(A.imm (List.map al x) false),(A.fn (Fn.func 63) [] [])]
theorem JR:fP CY:=λx y h=>by
 simp only[CY,TT,map_inj (hY),map_inj (oH)] at h;exact h
noncomputable def Il (args:List A):Option A:=bW CY (λx=>(xZ x).map λy=>(iA y)) args
theorem Vj {C:Nat->List A->Option A} (h:∀ a,C 63 a=Ww a):FW C:=λa0=>(h _).trans (aY _ Uq a0)
noncomputable def C9:Nat->List A->Option A:=iI C8 88 Il
theorem NA:cj C9:=c7 Nz λx=>Mx C8 aD (Vj λ_=>r7) x
def CX (x:(List aC)):List A:=[(A.imm (List.map al x) false),(A.fn (Fn.func 63) [] [])]
theorem JQ:fP CX:=λx y h=>by
 simp only[CX,TT,map_inj (hY),map_inj (oH)] at h;exact h
noncomputable def Ik (args:List A):Option A:=bW CX (λx=>(um x).map λy=>(bA y)) args
theorem KV {C:Nat->List A->Option A} (h:∀ a,C 88 a=Il a):zL C:=λa0=>(h _).trans (aY _ JR a0)
noncomputable def R7:Nat->List A->Option A:=iI C9 62 Ik
theorem J4:cj R7:=c7 NA λx=>Mv C9 aD (KV λ_=>r7) x
def Q3 (x:Int):List A:=[(iA x)]
theorem PS:fP Q3:=eo (eJ .i64)
noncomputable def Qk (args:List A):Option A:=bW Q3 (λx=>(zG x).map λy=>(bA y)) args
noncomputable def R8:Nat->List A->Option A:=iI R7 106 Qk
theorem J5:cj R8:=c7 J4 λx=>Tb R7 aD  x
def Bz (x:aP):List A:=[(A.agg (dF x))]
theorem Ua:fP Bz:=eo (eC (lW))
noncomputable def Wk (args:List A):Option A:=bW Bz (λx=>(Mm x).map λy=>(iA y)) args
theorem QD {C:Nat->List A->Option A} (h:∀ a,C 106 a=Qk a):ya C:=λa0=>(h _).trans (aY _ PS a0)
theorem KU {C:Nat->List A->Option A} (h:∀ a,C 62 a=Ik a):zK C:=λa0=>(h _).trans (aY _ JQ a0)
noncomputable def R9:Nat->List A->Option A:=iI R8 33 Wk
theorem J6:cj R9:=c7 J5 λx=>XI R8 aD (QD λ_=>r7) (KU λ_=>r7) (QI λ_=>r7) x
def W7 (x:aE×Int):List A:=[(A.agg (av x.1)),(iA x.2)]
theorem T2:fP W7:=iR (eC (kI)) (eo (eJ .i64))
noncomputable def RT (args:List A):Option A:=bW W7 (λx=>(Ml x.1 x.2).map λy=>(bA y)) args
noncomputable def Sa:Nat->List A->Option A:=iI R9 24 RT
theorem J7:cj Sa:=c7 J6 λx=>XC R9 aD (Fh λ_=>r7) x.1 x.2
def K7 (x:aR×Int×Int×Int):List A:=[(A.agg (aB x.1)),(iA x.2.1),(iA x.2.2.1),(iA x.2.2.2)]
theorem Ub:fP K7:=iR (eC (AQ)) (iR (eJ .i64) (iR (eJ .i64) (eo (eJ .i64))))
noncomputable def Wl (args:List A):Option A:=bW K7 (λx=>(Ou x.1 x.2.1 x.2.2.1 x.2.2.2).map λy=>(bA y)) args
theorem NF {C:Nat->List A->Option A} (h:∀ a,C 24 a=RT a):w5 C:=λa0 a1=>(h _).trans (aY _ T2 (a0,a1))
noncomputable def Sb:Nat->List A->Option A:=iI Sa 34 Wl
theorem J8:cj Sb:=c7 J7 λx=>XJ Sa aD (NF λ_=>r7) (Fh λ_=>r7) x.1 x.2.1 x.2.2.1 x.2.2.2
def Q4 (x:Int):List A:=[(A.v (.int .u64 x))]
theorem PU:fP Q4:=eo (eJ .u64)
noncomputable def Ql (args:List A):Option A:=bW Q4 (λx=>(FB x).map λy=>(iA y)) args
noncomputable def Sc:Nat->List A->Option A:=iI Sb 108 Ql
theorem J9:cj Sc:=c7 J8 λx=>Tc Sb aD  x
def Xi (x:(List UInt8)):List A:=[(A.imm (List.map c8 x) false)]
theorem Us:fP Xi:=eo (jE (oH))
noncomputable def Wy (args:List A):Option A:=bW Xi (λx=>(OC x).map λy=>(A.tup [(A.agg (ar y.1)),(iA y.2)])) args
theorem QE {C:Nat->List A->Option A} (h:∀ a,C 108 a=Ql a):yb C:=λa0=>(h _).trans (aY _ PU a0)
noncomputable def Sd:Nat->List A->Option A:=iI Sc 66 Wy
theorem Ka:cj Sd:=c7 J9 λx=>X0 Sc aD (QE λ_=>r7) x
def K8 (x:(List UInt8)):List A:=[(A.imm (List.map c8 x) false)]
theorem Uc:fP K8:=eo (jE (oH))
noncomputable def Wm (args:List A):Option A:=bW K8 (λx=>(NT x).map λy=>(A.tup [(A.agg (ax y.1)),(bA y.2)])) args
theorem Vk {C:Nat->List A->Option A} (h:∀ a,C 66 a=Wy a):Ln C:=λa0=>(h _).trans (aY _ Us a0)
noncomputable def Se:Nat->List A->Option A:=iI Sd 35 Wm
theorem Kb:cj Se:=c7 Ka λx=>XK Sd aD (Vk λ_=>r7) x
def W6 (x:ay):List A:=[(A.agg (aq x))]
theorem TX:fP W6:=eo (eC (ia))
noncomputable def Wb (args:List A):Option A:=bW W6 (λx=>(Fv x).map λy=>(iA y)) args
theorem NH {C:Nat->List A->Option A} (h:∀ a,C 33 a=Wk a):Db C:=λa0=>(h _).trans (aY _ Ua a0)
theorem U7 {C:Nat->List A->Option A} (h:∀ a,C 34 a=Wl a):FN C:=λa0 a1 a2 a3=>(h _).trans (aY _ Ub (a0,a1,a2,a3))
theorem QF {C:Nat->List A->Option A} (h:∀ a,C 35 a=Wm a):Dc C:=λa0=>(h _).trans (aY _ Uc a0)
noncomputable def Sf:Nat->List A->Option A:=iI Se 13 Wb
theorem D5:cj Sf:=c7 Kb λx=>Xx Se aD (NF λ_=>r7) (Fh λ_=>r7) (NH λ_=>r7) (U7 λ_=>r7) (QF λ_=>r7) x
def R6 (x:aw):List A:=[(A.agg (ar x))]
theorem PW:fP R6:=eo (eC fH)
noncomputable def UU (args:List A):Option A:=bW R6 (λx=>(RO x).map λy=>(A.tup [(iA y.1),(bA y.2)])) args
noncomputable def Nn (q:Nat) (args:List A):Option A:=bW R6 (λx=>(Ly q x).map λy=>(A.tup [(iA y.1),(bA y.2)])) args
noncomputable def BG (q:Nat):Nat->List A->Option A:=iI Sf 96 (Nn q)
theorem ZG (q:Nat):BJ (BG q) (Ly q):=λa0=>(by kernel_rfl:_=Nn q (R6 a0)).trans (aY _ PW a0)
theorem Mc:∀ (q:Nat) (args:List A) (r:A) (h:Nn q args=some r),fX prog (cx C0).glob 96 args r
 | 0,args,r,h=>by
  obtain ⟨x,y,rfl,hy,rfl⟩:=eT h;cases hy
 | q+1,args,r,h=>by
  obtain ⟨x,y,rfl,hy,rfl⟩:=eT h;exact CD (f:=λ(y:(Int×Bool))=>(A.tup [(iA y.1),(bA y.2)])) (cx:=cx (BG q)) (λk args r _ h=>iY D5 (Mc q) k args r h) r7 (Yg (BG q) aD  (Ly q) (ZG q) x) hy
theorem UX (args:List A) (r:A) (h:UU args=some r):fX prog (cx C0).glob 96 args r:=Mc aD args r h
noncomputable def Sg:Nat->List A->Option A:=iI Sf 96 UU
theorem Kc:cj Sg:=iY D5 UX
def Ep (x:aw):List A:=[(A.agg (ar x))]
theorem UD:fP Ep:=eo (eC fH)
noncomputable def WJ (args:List A):Option A:=bW Ep (λx=>(OL x).map λy=>(iA y)) args
theorem Vv {C:Nat->List A->Option A} (h:∀ a,C 96 a=UU a):Lv C:=λa0=>(h _).trans (aY _ PW a0)
noncomputable def Sh:Nat->List A->Option A:=iI Sg 83 WJ
theorem Kd:cj Sh:=c7 Kc λx=>Yb Sg aD (Vv λ_=>r7) x
def Fu (x:Int):List A:=[(iA x)]
theorem UH:fP Fu:=eo (eJ .i64)
noncomputable def WM (args:List A):Option A:=bW Fu (λx=>(Mq x).map λy=>(A.v (.int .u64 y))) args
noncomputable def Si:Nat->List A->Option A:=iI Sh 99 WM
theorem Ke:cj Si:=c7 Kd λx=>Yh Sh aD  x
def La (x:aw):List A:=[(A.agg (ar x))]
theorem Un:fP La:=eo (eC fH)
noncomputable def RX (args:List A):Option A:=bW La (λx=>(Mn x).map λy=>(A.tup [(A.imm (List.map c8 y.1) false),(iA y.2)])) args
theorem Vs {C:Nat->List A->Option A} (h:∀ a,C 83 a=WJ a):Lt C:=λa0=>(h _).trans (aY _ UD a0)
theorem Vw {C:Nat->List A->Option A} (h:∀ a,C 99 a=WM a):w6 C:=λa0=>(h _).trans (aY _ UH a0)
noncomputable def Sj:Nat->List A->Option A:=iI Si 58 RX
theorem Kf:cj Sj:=c7 Ke λx=>XV Si aD (Vs λ_=>r7) (Vw λ_=>r7) x
def W9 (x:aQ):List A:=[(A.agg (ax x))]
theorem T4:fP W9:=eo (eC (qS))
noncomputable def Wh (args:List A):Option A:=bW W9 (λx=>(Jj x).map λy=>(A.imm (List.map c8 y) false)) args
theorem Vg {C:Nat->List A->Option A} (h:∀ a,C 58 a=RX a):Lk C:=λa0=>(h _).trans (aY _ Un a0)
noncomputable def Sk:Nat->List A->Option A:=iI Sj 26 Wh
theorem Kg:cj Sk:=c7 Kf λx=>XE Sj aD (Vg λ_=>r7) x
def W8 (x:aP×aC):List A:=[(A.agg (dF x.1)),(A.agg (al x.2))]
theorem T3:fP W8:=iR (eC (lW)) (eo (eC (hY)))
noncomputable def Wg (args:List A):Option A:=bW W8 (λx=>(I6 x.1 x.2).map λy=>(A.tup [(A.agg [(A.imm (List.map al y.1.Queue) false),(A.imm (List.map au y.1.Apart) false)]),(iA y.2)])) args
noncomputable def Sl:Nat->List A->Option A:=iI Sk 25 Wg
theorem Kh:cj Sl:=c7 Kg λx=>XD Sk aD (NH λ_=>r7) (QH λ_=>r7) x.1 x.2
def x9 (x:ay×aE):List A:=[(A.agg (aq x.1)),(A.agg (av x.2))]
theorem Zt:fP x9:=iR (eC (ia)) (eo (eC (kI)))
noncomputable def o9 (args:List A):Option A:=bW x9 (λx=>(G9 x.1 x.2).map λy=>(A.tup [(A.agg (aq y.1)),(iA y.2)])) args
theorem CL {C:Nat->List A->Option A} (h:∀ a,C 13 a=Wb a):ri C:=λa0=>(h _).trans (aY _ TX a0)
theorem KS {C:Nat->List A->Option A} (h:∀ a,C 25 a=Wg a):rk C:=λa0 a1=>(h _).trans (aY _ T3 (a0,a1))
theorem NG {C:Nat->List A->Option A} (h:∀ a,C 26 a=Wh a):tj C:=λa0=>(h _).trans (aY _ T4 a0)
noncomputable def Sm:Nat->List A->Option A:=iI Sl 9 o9
theorem Ki:cj Sm:=c7 Kh λx=>T9 Sl aD (CL λ_=>r7) (NF λ_=>r7) (KS λ_=>r7) (NG λ_=>r7) x.1 x.2
def Xt (x:Int):List A:=[(iA x)]
theorem UF:fP Xt:=eo (eJ .i64)
noncomputable def RZ (args:List A):Option A:=bW Xt (λx=>(RM x).map λy=>(A.agg (ar y))) args
noncomputable def Sn:Nat->List A->Option A:=iI Sm 87 RZ
theorem Kj:cj Sn:=c7 Ki λx=>Ye Sm aD  x
def Xf (x:(List Int)):List A:=[(A.imm (List.map (cI .i64) x) false)]
theorem Up:fP Xf:=eo (jE (pC .i64))
noncomputable def Wv (args:List A):Option A:=bW Xf (λx=>(OA x).map λy=>(A.agg (ar y))) args
theorem Vt {C:Nat->List A->Option A} (h:∀ a,C 87 a=RZ a):F4 C:=λa0=>(h _).trans (aY _ UF a0)
noncomputable def So:Nat->List A->Option A:=iI Sn 61 Wv
theorem D6:cj So:=c7 Kj λx=>XX Sn aD (Vt λ_=>r7) x
def K4 (x:aw):List A:=[(A.agg (ar x))]
theorem LN:fP K4:=eo (eC fH)
noncomputable def Nj (args:List A):Option A:=bW K4 (λx=>(Jh x).map λy=>(bA y)) args
noncomputable def Ig (q:Nat) (args:List A):Option A:=bW K4 (λx=>(zM q x).map λy=>(bA y)) args
noncomputable def xR (q:Nat):Nat->List A->Option A:=iI So 102 (Ig q)
theorem Vy (q:Nat):yc (xR q) (zM q):=λa0=>(by kernel_rfl:_=Ig q (K4 a0)).trans (aY _ LN a0)
theorem Iu:∀ (q:Nat) (args:List A) (r:A) (h:Ig q args=some r),fX prog (cx C0).glob 102 args r
 | 0,args,r,h=>by
  obtain ⟨x,y,rfl,hy,rfl⟩:=eT h;cases hy
 | q+1,args,r,h=>by
  obtain ⟨x,y,rfl,hy,rfl⟩:=eT h;exact CD (f:=λ(y:Bool)=>(bA y)) (cx:=cx (xR q)) (λk args r _ h=>iY D6 (Iu q) k args r h) r7 (S7 (xR q) aD  (zM q) (Vy q) x) hy
theorem Qm (args:List A) (r:A) (h:Nj args=some r):fX prog (cx C0).glob 102 args r:=Iu aD args r h
noncomputable def Sp:Nat->List A->Option A:=iI So 102 Nj
theorem D7:cj Sp:=iY D6 Qm
def K5 (x:aw):List A:=[(A.agg (ar x))]
theorem LO:fP K5:=eo (eC fH)
noncomputable def Nk (args:List A):Option A:=bW K5 (λx=>(Ji x).map λy=>(iA y)) args
noncomputable def Ih (q:Nat) (args:List A):Option A:=bW K5 (λx=>(zO q x).map λy=>(iA y)) args
noncomputable def xU (q:Nat):Nat->List A->Option A:=iI Sp 103 (Ih q)
theorem Vz (q:Nat):yd (xU q) (zO q):=λa0=>(by kernel_rfl:_=Ih q (K5 a0)).trans (aY _ LO a0)
theorem Iv:∀ (q:Nat) (args:List A) (r:A) (h:Ih q args=some r),fX prog (cx C0).glob 103 args r
 | 0,args,r,h=>by
  obtain ⟨x,y,rfl,hy,rfl⟩:=eT h;cases hy
 | q+1,args,r,h=>by
  obtain ⟨x,y,rfl,hy,rfl⟩:=eT h;exact CD (f:=λ(y:Int)=>(iA y)) (cx:=cx (xU q)) (λk args r _ h=>iY D7 (Iv q) k args r h) r7 (S8 (xU q) aD  (zO q) (Vz q) x) hy
theorem Qn (args:List A) (r:A) (h:Nk args=some r):fX prog (cx C0).glob 103 args r:=Iv aD args r h
noncomputable def Sq:Nat->List A->Option A:=iI Sp 103 Nk
theorem Kk:cj Sq:=iY D7 Qn
def sf (x:aw):List A:=[(A.agg (ar x))]
theorem UE:fP sf:=eo (eC fH)
noncomputable def WK (args:List A):Option A:=bW sf (λx=>(NZ x).map λy=>(iA y)) args
theorem QB {C:Nat->List A->Option A} (h:∀ a,C 102 a=Nj a):FE C:=λa0=>(h _).trans (aY _ LN a0)
theorem QC {C:Nat->List A->Option A} (h:∀ a,C 103 a=Nk a):FF C:=λa0=>(h _).trans (aY _ LO a0)
noncomputable def Sr:Nat->List A->Option A:=iI Sq 85 WK
theorem Kl:cj Sr:=c7 Kk λx=>Yc Sq aD (QB λ_=>r7) (QC λ_=>r7) x
def NS (x:Int):List A:=[(iA x)]
theorem PR:fP NS:=eo (eJ .i64)
noncomputable def Qj (args:List A):Option A:=bW NS (λx=>(FA x).map λy=>(A.v (.int .u64 y))) args
noncomputable def Ss:Nat->List A->Option A:=iI Sr 105 Qj
theorem D8:cj Ss:=c7 Kl λx=>Ta Sr aD  x
def I2 (x:Int):List A:=[(A.v (.int .u64 x))]
theorem LP:fP I2:=eo (eJ .u64)
noncomputable def Nl (args:List A):Option A:=bW I2 (λx=>(Es x).map λy=>(A.imm (List.map c8 y) false)) args
noncomputable def Ii (q:Nat) (args:List A):Option A:=bW I2 (λx=>(zP q x).map λy=>(A.imm (List.map c8 y) false)) args
noncomputable def xV (q:Nat):Nat->List A->Option A:=iI Ss 104 (Ii q)
theorem VA (q:Nat):Dg (xV q) (zP q):=λa0=>(by kernel_rfl:_=Ii q (I2 a0)).trans (aY _ LP a0)
theorem Iw:∀ (q:Nat) (args:List A) (r:A) (h:Ii q args=some r),fX prog (cx C0).glob 104 args r
 | 0,args,r,h=>by
  obtain ⟨x,y,rfl,hy,rfl⟩:=eT h;cases hy
 | q+1,args,r,h=>by
  obtain ⟨x,y,rfl,hy,rfl⟩:=eT h;exact CD (f:=λ(y:(List UInt8))=>(A.imm (List.map c8 y) false)) (cx:=cx (xV q)) (λk args r _ h=>iY D8 (Iw q) k args r h) r7 (S9 (xV q) aD  (zP q) (VA q) x) hy
theorem Qo (args:List A) (r:A) (h:Nl args=some r):fX prog (cx C0).glob 104 args r:=Iw aD args r h
noncomputable def Su:Nat->List A->Option A:=iI Ss 104 Nl
theorem D9:cj Su:=iY D8 Qo
def R5 (x:aw):List A:=[(A.agg (ar x))]
theorem PV:fP R5:=eo (eC fH)
noncomputable def UT (args:List A):Option A:=bW R5 (λx=>(OM x).map λy=>(A.imm (List.map c8 y) false)) args
noncomputable def Nm (q:Nat) (args:List A):Option A:=bW R5 (λx=>(Lx q x).map λy=>(A.imm (List.map c8 y) false)) args
noncomputable def uj (q:Nat):Nat->List A->Option A:=iI Su 86 (Nm q)
theorem ZF (q:Nat):BI (uj q) (Lx q):=λa0=>(by kernel_rfl:_=Nm q (R5 a0)).trans (aY _ PV a0)
theorem Ba (q:Nat):FG (uj q):=λa0=>(by kernel_rfl:_=Nl (I2 a0)).trans (aY _ LP a0)
theorem Bb (q:Nat):FH (uj q):=λa0=>(by kernel_rfl:_=Qj (NS a0)).trans (aY _ PR a0)
theorem Ma:∀ (q:Nat) (args:List A) (r:A) (h:Nm q args=some r),fX prog (cx C0).glob 86 args r
 | 0,args,r,h=>by
  obtain ⟨x,y,rfl,hy,rfl⟩:=eT h;cases hy
 | q+1,args,r,h=>by
  obtain ⟨x,y,rfl,hy,rfl⟩:=eT h;exact CD (f:=λ(y:(List UInt8))=>(A.imm (List.map c8 y) false)) (cx:=cx (uj q)) (λk args r _ h=>iY D9 (Ma q) k args r h) r7 (Yd (uj q) aD (Ba q) (Bb q) (Lx q) (ZF q) x) hy
theorem UW (args:List A) (r:A) (h:UT args=some r):fX prog (cx C0).glob 86 args r:=Ma aD args r h
noncomputable def Sv:Nat->List A->Option A:=iI Su 86 UT
theorem Km:cj Sv:=iY D9 UW
def Xe (x:aw):List A:=[(A.agg (ar x))]
theorem Uo:fP Xe:=eo (eC fH)
noncomputable def Wu (args:List A):Option A:=bW Xe (λx=>(NX x).map λy=>(A.tup [(A.imm (List.map c8 y.1) false),(iA y.2)])) args
theorem QL {C:Nat->List A->Option A} (h:∀ a,C 85 a=WK a):F0 C:=λa0=>(h _).trans (aY _ UE a0)
theorem QM {C:Nat->List A->Option A} (h:∀ a,C 86 a=UT a):F3 C:=λa0=>(h _).trans (aY _ PV a0)
noncomputable def Sw:Nat->List A->Option A:=iI Sv 60 Wu
theorem Kn:cj Sw:=c7 Km λx=>XW Sv aD (QL λ_=>r7) (QM λ_=>r7) x
def Ft (x:aE):List A:=[(A.agg (av x))]
theorem T5:fP Ft:=eo (eC (kI))
noncomputable def RU (args:List A):Option A:=bW Ft (λx=>(Ot x).map λy=>(A.imm (List.map c8 y) false)) args
theorem Vh {C:Nat->List A->Option A} (h:∀ a,C 60 a=Wu a):Ll C:=λa0=>(h _).trans (aY _ Uo a0)
theorem Vi {C:Nat->List A->Option A} (h:∀ a,C 61 a=Wv a):Lm C:=λa0=>(h _).trans (aY _ Up a0)
noncomputable def Sx:Nat->List A->Option A:=iI Sw 29 RU
theorem Ko:cj Sx:=c7 Kn λx=>XF Sw aD (Vh λ_=>r7) (Vi λ_=>r7) x
def Xj (x:aP×Int):List A:=[(A.agg (dF x.1)),(iA x.2)]
theorem Ut:fP Xj:=iR (eC (lW)) (eo (eJ .i64))
noncomputable def Wz (args:List A):Option A:=bW Xj (λx=>(Mo x.1 x.2).map λy=>(A.tup [(A.agg (al y.1)),(iA y.2)])) args
noncomputable def Sy:Nat->List A->Option A:=iI Sx 70 Wz
theorem Kp:cj Sy:=c7 Ko λx=>X1 Sx aD (NH λ_=>r7) x.1 x.2
def Xu (x:(List (Int×Int))×(Int×Int)):List A:=[(A.imm (List.map au x.1) false),(A.agg (au x.2))]
theorem UG:fP Xu:=iR (jE (fK)) (eo (eC (fK)))
noncomputable def WL (args:List A):Option A:=bW Xu (λx=>(RN x.1 x.2).map λy=>(iA y)) args
noncomputable def Sz:Nat->List A->Option A:=iI Sy 93 WL
theorem Kq:cj Sz:=c7 Kp λx=>Yf Sy aD  x.1 x.2
def Xk (x:(List (Int×Int))×(Int×Int)):List A:=[(A.imm (List.map au x.1) false),(A.agg (au x.2))]
theorem Uu:fP Xk:=iR (jE (fK)) (eo (eC (fK)))
noncomputable def RY (args:List A):Option A:=bW Xk (λx=>(OD x.1 x.2).map λy=>(bA y)) args
theorem Vu {C:Nat->List A->Option A} (h:∀ a,C 93 a=WL a):Lu C:=λa0 a1=>(h _).trans (aY _ UG (a0,a1))
noncomputable def SA:Nat->List A->Option A:=iI Sz 71 RY
theorem Kr:cj SA:=c7 Kq λx=>X2 Sz aD (Vu λ_=>r7) x.1 x.2
def Xm (x:aP×Int):List A:=[(A.agg (dF x.1)),(iA x.2)]
theorem Uw:fP Xm:=iR (eC (lW)) (eo (eJ .i64))
noncomputable def WB (args:List A):Option A:=bW Xm (λx=>(Mp x.1 x.2).map λy=>(A.agg [(A.imm (List.map al y.Queue) false),(A.imm (List.map au y.Apart) false)])) args
noncomputable def SB:Nat->List A->Option A:=iI SA 73 WB
theorem Ks:cj SB:=c7 Kr λx=>X4 SA aD  x.1 x.2
def Jc (x:aP×Int):List A:=[(A.agg (dF x.1)),(iA x.2)]
theorem Ud:fP Jc:=iR (eC (lW)) (eo (eJ .i64))
noncomputable def Wn (args:List A):Option A:=bW Jc (λx=>(Ov x.1 x.2).map λy=>(A.tup [(A.agg (al y.1)),(A.agg [(A.imm (List.map al y.2.1.Queue) false),(A.imm (List.map au y.2.1.Apart) false)]),(iA y.2.2)])) args
theorem NI {C:Nat->List A->Option A} (h:∀ a,C 70 a=Wz a):De C:=λa0 a1=>(h _).trans (aY _ Ut (a0,a1))
theorem Vl {C:Nat->List A->Option A} (h:∀ a,C 71 a=RY a):Lo C:=λa0 a1=>(h _).trans (aY _ Uu (a0,a1))
theorem QK {C:Nat->List A->Option A} (h:∀ a,C 73 a=WB a):FY C:=λa0 a1=>(h _).trans (aY _ Uw (a0,a1))
noncomputable def SC:Nat->List A->Option A:=iI SB 41 Wn
theorem Kt:cj SC:=c7 Ks λx=>XL SB aD (NI λ_=>r7) (Vl λ_=>r7) (QJ λ_=>r7) (QK λ_=>r7) x.1 x.2
def Xa (x:aE×Int):List A:=[(A.agg (av x.1)),(iA x.2)]
theorem Ue:fP Xa:=iR (eC (kI)) (eo (eJ .i64))
noncomputable def Wo (args:List A):Option A:=bW Xa (λx=>(NU x.1 x.2).map λy=>(iA y)) args
noncomputable def SD:Nat->List A->Option A:=iI SC 43 Wo
theorem Ku:cj SD:=c7 Kt λx=>XM SC aD  x.1 x.2
def CU (x:(List aE)×Int):List A:=[(A.imm (List.map av x.1) false),(iA x.2),(A.fn (Fn.func 43) [] [])]
theorem JP:fP CU:=λx y h=>by
 simp only[CU,TT,map_inj (kI)] at h;obtain ⟨xa0,xa1⟩:=x;obtain ⟨ya0,ya1⟩:=y
 simp_all
noncomputable def Ij (args:List A):Option A:=bW CU (λx=>(uk x.1 x.2).map λy=>(A.tup [(iA y.1),(bA y.2)])) args
theorem U9 {C:Nat->List A->Option A} (h:∀ a,C 43 a=Wo a):FO C:=λa0 a1=>(h _).trans (aY _ Ue (a0,a1))
noncomputable def SE:Nat->List A->Option A:=iI SD 42 Ij
theorem Kv:cj SE:=c7 Ku λx=>Mu SD aD (U9 λ_=>r7) x.1 x.2
def ql (x:ay×Int):List A:=[(A.agg (aq x.1)),(iA x.2)]
theorem TY:fP ql:=iR (eC (ia)) (eo (eJ .i64))
noncomputable def Wc (args:List A):Option A:=bW ql (λx=>(Om x.1 x.2).map λy=>(A.tup [(A.agg (aq y.1)),(A.agg (bF y.2.1)),(bA y.2.2.1),(iA y.2.2.2)])) args
theorem U8 {C:Nat->List A->Option A} (h:∀ a,C 41 a=Wn a):Li C:=λa0 a1=>(h _).trans (aY _ Ud (a0,a1))
theorem KT {C:Nat->List A->Option A} (h:∀ a,C 42 a=Ij a):zI C:=λa0 a1=>(h _).trans (aY _ JP (a0,a1))
noncomputable def SF:Nat->List A->Option A:=iI SE 16 Wc
theorem Kw:cj SF:=c7 Kv λx=>Xy SE aD (CL λ_=>r7) (QF λ_=>r7) (U8 λ_=>r7) (KT λ_=>r7) x.1 x.2
def Xn (x:(List UInt8)):List A:=[(A.imm (List.map c8 x) false)]
theorem Ux:fP Xn:=eo (jE (oH))
noncomputable def WC (args:List A):Option A:=bW Xn (λx=>(OG x).map λy=>(A.tup [(A.agg (ar y.1)),(iA y.2)])) args
noncomputable def SG:Nat->List A->Option A:=iI SF 76 WC
theorem Kx:cj SG:=c7 Kw λx=>X5 SF aD (QL λ_=>r7) (QM λ_=>r7) x
def Xb (x:(List UInt8)):List A:=[(A.imm (List.map c8 x) false)]
theorem Uf:fP Xb:=eo (jE (oH))
noncomputable def Wp (args:List A):Option A:=bW Xb (λx=>(Ow x).map λy=>(A.tup [(A.imm (List.map (cI .i64) y.1) false),(bA y.2)])) args
theorem Vm {C:Nat->List A->Option A} (h:∀ a,C 76 a=WC a):Lp C:=λa0=>(h _).trans (aY _ Ux a0)
noncomputable def SH:Nat->List A->Option A:=iI SG 47 Wp
theorem Ky:cj SH:=c7 Kx λx=>XN SG aD (Vm λ_=>r7) x
def sn (x:(List UInt8)):List A:=[(A.imm (List.map c8 x) false)]
theorem TZ:fP sn:=eo (jE (oH))
noncomputable def Wd (args:List A):Option A:=bW sn (λx=>(On x).map λy=>(A.tup [(A.agg (av y.1)),(bA y.2)])) args
theorem Va {C:Nat->List A->Option A} (h:∀ a,C 47 a=Wp a):Lj C:=λa0=>(h _).trans (aY _ Uf a0)
noncomputable def SI:Nat->List A->Option A:=iI SH 17 Wd
theorem Kz:cj SI:=c7 Ky λx=>Xz SH aD (Va λ_=>r7) x
def Xp (x:aP×Int):List A:=[(A.agg (dF x.1)),(iA x.2)]
theorem Uz:fP Xp:=iR (eC (lW)) (eo (eJ .i64))
noncomputable def WE (args:List A):Option A:=bW Xp (λx=>(OH x.1 x.2).map λy=>(A.tup [(A.agg [(A.imm (List.map al y.1.Queue) false),(A.imm (List.map au y.1.Apart) false)]),(iA y.2)])) args
noncomputable def SJ:Nat->List A->Option A:=iI SI 79 WE
theorem KA:cj SJ:=c7 Kz λx=>X7 SI aD (NI λ_=>r7) (QK λ_=>r7) x.1 x.2
def Xd (x:ay×Int):List A:=[(A.agg (aq x.1)),(iA x.2)]
theorem Uj:fP Xd:=iR (eC (ia)) (eo (eJ .i64))
noncomputable def RW (args:List A):Option A:=bW Xd (λx=>(Oy x.1 x.2).map λy=>(A.tup [(A.agg (aq y.1)),(iA y.2)])) args
theorem Vo {C:Nat->List A->Option A} (h:∀ a,C 79 a=WE a):Lr C:=λa0 a1=>(h _).trans (aY _ Uz (a0,a1))
noncomputable def SK:Nat->List A->Option A:=iI SJ 52 RW
theorem KB:cj SK:=c7 KA λx=>XR SJ aD (CL λ_=>r7) (Vo λ_=>r7) x.1 x.2
def Xq (x:aP×Int):List A:=[(A.agg (dF x.1)),(iA x.2)]
theorem UA:fP Xq:=iR (eC (lW)) (eo (eJ .i64))
noncomputable def WG (args:List A):Option A:=bW Xq (λx=>(OI x.1 x.2).map λy=>(A.tup [(A.agg [(A.imm (List.map al y.1.Queue) false),(A.imm (List.map au y.1.Apart) false)]),(iA y.2)])) args
noncomputable def SM:Nat->List A->Option A:=iI SK 80 WG
theorem KC:cj SM:=c7 KB λx=>X8 SK aD (KS λ_=>r7) (NI λ_=>r7) x.1 x.2
def K9 (x:ay×Int):List A:=[(A.agg (aq x.1)),(iA x.2)]
theorem Uk:fP K9:=iR (eC (ia)) (eo (eJ .i64))
noncomputable def Ws (args:List A):Option A:=bW K9 (λx=>(Oz x.1 x.2).map λy=>(A.tup [(A.agg (aq y.1)),(iA y.2)])) args
theorem Vp {C:Nat->List A->Option A} (h:∀ a,C 80 a=WG a):Ls C:=λa0 a1=>(h _).trans (aY _ UA (a0,a1))
noncomputable def SN:Nat->List A->Option A:=iI SM 53 Ws
theorem KD:cj SN:=c7 KC λx=>XS SM aD (CL λ_=>r7) (Vp λ_=>r7) x.1 x.2
def Xr (x:(List UInt8)×Int):List A:=[(A.imm (List.map c8 x.1) false),(iA x.2)]
theorem UB:fP Xr:=iR (jE (oH)) (eo (eJ .i64))
noncomputable def WH (args:List A):Option A:=bW Xr (λx=>(OJ x.1 x.2).map λy=>(A.imm (List.map (cI .i64) y) false)) args
noncomputable def SO:Nat->List A->Option A:=iI SN 81 WH
theorem KE:cj SO:=c7 KD λx=>X9 SN aD  x.1 x.2
def Xo (x:(List Int)×Int):List A:=[(A.imm (List.map (cI .i64) x.1) false),(iA x.2)]
theorem Uy:fP Xo:=iR (jE (pC .i64)) (eo (eJ .i64))
noncomputable def WD (args:List A):Option A:=bW Xo (λx=>(RL x.1 x.2).map λy=>(iA y)) args
noncomputable def SP:Nat->List A->Option A:=iI SO 77 WD
theorem KF:cj SP:=c7 KE λx=>X6 SO aD  x.1 x.2
def CV (x:(List Int)×Int):List A:=[(A.imm (List.map (cI .i64) x.1) false),(iA x.2)]
theorem Ug:fP CV:=iR (jE (pC .i64)) (eo (eJ .i64))
noncomputable def RV (args:List A):Option A:=bW CV (λx=>(Ox x.1 x.2).map λy=>(bA y)) args
theorem Vn {C:Nat->List A->Option A} (h:∀ a,C 77 a=WD a):Lq C:=λa0 a1=>(h _).trans (aY _ Uy (a0,a1))
noncomputable def SQ:Nat->List A->Option A:=iI SP 48 RV
theorem KG:cj SQ:=c7 KF λx=>XO SP aD (Vn λ_=>r7) x.1 x.2
def CW (x:(List Int)×Int):List A:=[(A.imm (List.map (cI .i64) x.1) false),(iA x.2)]
theorem Uh:fP CW:=iR (jE (pC .i64)) (eo (eJ .i64))
noncomputable def Wq (args:List A):Option A:=bW CW (λx=>(Lb x.1 x.2).map λy=>(A.imm (List.map (cI .i64) y) false)) args
noncomputable def SS:Nat->List A->Option A:=iI SQ 49 Wq
theorem KH:cj SS:=c7 KG λx=>XP SQ aD  x.1 x.2
def Xc (x:ay×Int×(List Int)):List A:=[(A.agg (aq x.1)),(iA x.2.1),(A.imm (List.map (cI .i64) x.2.2) false)]
theorem Ui:fP Xc:=iR (eC (ia)) (iR (eJ .i64) (eo (jE (pC .i64))))
noncomputable def Wr (args:List A):Option A:=bW Xc (λx=>(NV x.1 x.2.1 x.2.2).map λy=>(A.fn (Fn.func 78) [] [(A.ip [(A.imm (List.map (cI .i64) y.1) false)]),(A.ip (aq y.2.1)),(A.ip [(iA y.2.2)])])) args
noncomputable def SU:Nat->List A->Option A:=iI SS 51 Wr
theorem KI:cj SU:=c7 KH λx=>XQ SS aD  x.1 x.2.1 x.2.2
def K6 (x:ay×(List Int)×(List Int)):List A:=[(A.agg (aq x.1)),(A.imm (List.map (cI .i64) x.2.1) false),(A.imm (List.map (cI .i64) x.2.2) false)]
theorem T0:fP K6:=iR (eC (ia)) (iR (jE (pC .i64)) (eo (jE (pC .i64))))
noncomputable def We (args:List A):Option A:=bW K6 (λx=>(Oo x.1 x.2.1 x.2.2).map λy=>(A.tup [(A.agg (aq y.1)),(iA y.2)])) args
theorem Vb {C:Nat->List A->Option A} (h:∀ a,C 48 a=RV a):FP C:=λa0 a1=>(h _).trans (aY _ Ug (a0,a1))
theorem Vc {C:Nat->List A->Option A} (h:∀ a,C 49 a=Wq a):FQ C:=λa0 a1=>(h _).trans (aY _ Uh (a0,a1))
theorem QG {C:Nat->List A->Option A} (h:∀ a,C 51 a=Wr a):FR C:=λa0 a1 a2=>(h _).trans (aY _ Ui (a0,a1,a2))
noncomputable def SV:Nat->List A->Option A:=iI SU 19 We
theorem KJ:cj SV:=c7 KI λx=>XA SU aD (CL λ_=>r7) (KS λ_=>r7) (NG λ_=>r7) (Fh λ_=>r7) (Vb λ_=>r7) (Vc λ_=>r7) (QG λ_=>r7) x.1 x.2.1 x.2.2
def ui (x:(List Int)×(List Int)):List A:=[(A.imm (List.map (cI .i64) x.1) false),(A.imm (List.map (cI .i64) x.2) false)]
theorem Ul:fP ui:=iR (jE (pC .i64)) (eo (jE (pC .i64)))
noncomputable def Wt (args:List A):Option A:=bW ui (λx=>(Lc x.1 x.2).map λy=>(bA y)) args
noncomputable def SW:Nat->List A->Option A:=iI SV 55 Wt
theorem KK:cj SW:=c7 KJ λx=>XT SV aD  x.1 x.2
def Xs (x:(List aE)×Int):List A:=[(A.imm (List.map av x.1) false),(iA x.2)]
theorem UC:fP Xs:=iR (jE (kI)) (eo (eJ .i64))
noncomputable def WI (args:List A):Option A:=bW Xs (λx=>(OK x.1 x.2).map λy=>(iA y)) args
noncomputable def SX:Nat->List A->Option A:=iI SW 82 WI
theorem KL:cj SX:=c7 KK λx=>Ya SW aD  x.1 x.2
def Fs (x:ay×Int):List A:=[(A.agg (aq x.1)),(iA x.2)]
theorem T1:fP Fs:=iR (eC (ia)) (eo (eJ .i64))
noncomputable def Wf (args:List A):Option A:=bW Fs (λx=>(Oq x.1 x.2).map λy=>(A.tup [(A.agg (aq y.1)),(iA y.2)])) args
noncomputable def SY:Nat->List A->Option A:=iI SX 21 Wf
theorem KM:cj SY:=c7 KL λx=>XB SX aD (CL λ_=>r7) (KS λ_=>r7) (NG λ_=>r7) (Fh λ_=>r7) (QG λ_=>r7) x.1 x.2
def x6 (x:Int×(List aJ)):List A:=[(A.v (.int .u8 x.1)),(A.imm (List.map ak x.2) false)]
theorem Zr:fP x6:=iR (eJ .u8) (eo (jE (mg)))
noncomputable def o6 (args:List A):Option A:=bW x6 (λx=>(G6 x.1 x.2).map λy=>(bA y)) args
theorem U0 {C:Nat->List A->Option A} (h:∀ a,C 11 a=Wa a):Lg C:=λa0=>(h _).trans (aY _ TW a0)
theorem U1 {C:Nat->List A->Option A} (h:∀ a,C 16 a=Wc a):FI C:=λa0 a1=>(h _).trans (aY _ TY (a0,a1))
theorem U2 {C:Nat->List A->Option A} (h:∀ a,C 17 a=Wd a):FJ C:=λa0=>(h _).trans (aY _ TZ a0)
theorem U3 {C:Nat->List A->Option A} (h:∀ a,C 19 a=We a):FK C:=λa0 a1 a2=>(h _).trans (aY _ T0 (a0,a1,a2))
theorem U4 {C:Nat->List A->Option A} (h:∀ a,C 21 a=Wf a):FL C:=λa0 a1=>(h _).trans (aY _ T1 (a0,a1))
theorem U5 {C:Nat->List A->Option A} (h:∀ a,C 29 a=RU a):FM C:=λa0=>(h _).trans (aY _ T5 a0)
theorem Vd {C:Nat->List A->Option A} (h:∀ a,C 52 a=RW a):FT C:=λa0 a1=>(h _).trans (aY _ Uj (a0,a1))
theorem Ve {C:Nat->List A->Option A} (h:∀ a,C 53 a=Ws a):FU C:=λa0 a1=>(h _).trans (aY _ Uk (a0,a1))
theorem Vf {C:Nat->List A->Option A} (h:∀ a,C 55 a=Wt a):zJ C:=λa0 a1=>(h _).trans (aY _ Ul (a0,a1))
theorem Zy {C:Nat->List A->Option A} (h:∀ a,C 7 a=o7 a):OS C:=λ_=>(h _).trans (aY _ Zs ())
theorem Vq {C:Nat->List A->Option A} (h:∀ a,C 81 a=WH a):FZ C:=λa0 a1=>(h _).trans (aY _ UB (a0,a1))
theorem Vr {C:Nat->List A->Option A} (h:∀ a,C 82 a=WI a):Df C:=λa0 a1=>(h _).trans (aY _ UC (a0,a1))
theorem Zz {C:Nat->List A->Option A} (h:∀ a,C 9 a=o9 a):Mt C:=λa0 a1=>(h _).trans (aY _ Zt (a0,a1))
theorem Zu (args:List A) (r:A) (h:o6 args=some r):fX prog (cx C0).glob 6 args r:=by
 obtain ⟨x,y,rfl,hy,rfl⟩:=eT h;exact CD (f:=λ(y:Bool)=>(bA y)) (cx:=cx SY) (λk args r _ h=>KM k args r h) r7 (T6 SY aD (U0 λ_=>r7) (CL λ_=>r7) (U1 λ_=>r7) (U2 λ_=>r7) (U3 λ_=>r7) (U4 λ_=>r7) (U5 λ_=>r7) (Vd λ_=>r7) (Ve λ_=>r7) (Vf λ_=>r7) (Zy λ_=>r7) (Vq λ_=>r7) (Vr λ_=>r7) (Zz λ_=>r7) x.1 x.2) hy
end
section
open Go.RowKit Go.ChangeShapes Go.WideShapes Go.ChangeAt Go.Deep
theorem MD {args:Array Value} (h:args.size=2):∃ a0 a1,args=#[a0,a1]:=by
 match args,h with | ⟨[a0,a1]⟩,_=>exact⟨a0,a1,rfl⟩
mutual
def b7:aw->Prop
 | .mk Kind N S L=>(ee Kind/\ee N/\(S.size<=mh)/\L.length<=mh)/\ig L
def ig:List aw->Prop
 | []=>True
 | x :: r=>b7 x/\ig r
end
theorem oa:∀ (l:List aw),ig l↔∀ z∈l,b7 z
 | []=>by rw[ig]; simp
 | x :: r=>by rw[ig,oa r]; simp
theorem dZ (x:aw):b7 x↔ee x.Kind/\ee x.N/\(x.S.size<=mh)/\(x.L.length<=mh/\∀ z∈x.L,b7 z):=by
 cases x;rw[b7,oa];simp only[and_assoc]
def fz (x:aJ):Prop:=wB x.Kind/\wB x.At/\wB x.Role/\wB x.Program/\wB x.No/\OP x.Bar/\Le x.Deaf/\(x.Groups.length<=mh)
def A3 (x:aC):Prop:=ee x.From/\ee x.To/\(x.Data.length<=mh)
def It (x:aP):Prop:=(x.Queue.length<=mh/\∀ z∈x.Queue,A3 z)/\(x.Apart.length<=mh/\∀ z∈x.Apart,(ee z.1/\ee z.2))
def jG (x:aE):Prop:=ee x.No/\ee x.Role/\ee x.Bar/\ee x.Program
def Ir (x:aR):Prop:=(x.Cues.length<=mh/\∀ z∈x.Cues,jG z)/\(x.Got.length<=mh/\∀ z∈x.Got,ee z)/\(x.Did.length<=mh/\∀ z∈x.Did,ee z)
def lZ (x:ay):Prop:=It x.Net/\(x.Ears.length<=mh/\∀ z∈x.Ears,Ir z)/\ee x.Bar
def jj (x:bH):Prop:=ee x.Role/\ee x.Bar/\ee x.Program
theorem Qy:zQ Try.prog 65 ak fz:=zQ.of (wM (fs:=#[Field.mk "Kind" 5 0 false "" "" 0,Field.mk "At" 5 1 false "" "" 1,Field.mk "Role" 5 2 false "" "" 2,Field.mk "Program" 5 3 false "" "" 3,Field.mk "No" 5 4 false "" "" 4,Field.mk "Bar" 62 5 false "" "" 5,Field.mk "Deaf" 63 6 false "" "" 6,Field.mk "Groups" 46 7 false "" "" 8]) (Ts:=[_,_,_,_,_,_,_,_]) r7 r7 ⟨(Bd r7),(Bd r7),(Bd r7),(Bd r7),(Bd r7),(QA r7),(NB r7),(Fc (e:=5) (es:=1) (c:=c8) r7 r7 (by decide) (λ_=>rfl) (Qz r7)),trivial⟩) λl h=>by
 obtain ⟨_,_,rfl,⟨x0,rfl,h0⟩,_,_,rfl,⟨x1,rfl,h1⟩,_,_,rfl,⟨x2,rfl,h2⟩,_,_,rfl,⟨x3,rfl,h3⟩,_,_,rfl,⟨x4,rfl,h4⟩,_,_,rfl,⟨x5,rfl,h5⟩,_,_,rfl,⟨x6,rfl,h6⟩,_,_,rfl,⟨x7,rfl,h7⟩,rfl⟩:=h;exact⟨⟨x0,x1,x2,x3,x4,x5,x6,x7⟩,by simp[ak,cI,cB,cS,cL,az,ak,al,au,dF,av,aB,aq,aU,bF,ax,bR,dS,aW],h0,h1,h2,h3,h4,h5,h6,h7⟩
def Lw:Prop:=∀ (a0:Int) (a1:(List aJ)),wB a0->(a1.length<=mh/\∀ z∈a1,fz z)->G6 a0 a1=some true
theorem QZ (hp:Lw) (W:World) (base:Nat) (args:Array Value) {H:Type} {enc:TypeId×Value->H} (hg:wZ enc Try.prog W base Try.f6.params args) (hl:∀ (G:Nat) (vs:List Value),(cx C0).glob G=some vs->∀ (j:Nat) (v:Value),vs[j]? = some v->W.cell? ⟨G,j,none⟩=some v) :
  Calls Try.prog 6 args W λe W'=>e=.returned (.bool true)/\Below W.heap.size W W':=by
 obtain ⟨v0,v1,rfl⟩:=MD hg.1;obtain ⟨a0,b0,w0⟩:=PO hg 0 rfl rfl r7;obtain ⟨a1,b1,w1⟩:=E4 hg 1 rfl rfl (e:=65) r7 (Bc (e:=65) (es:=8) (c:=ak) r7 r7 (by decide) (λ_=>rfl) Qy);refine M5 (glob:=(cx C0).glob) (Zu _ _ ((aY _ Zr (a0,a1)).trans (by simp only[hp a0 a1 b0 b1]; rfl))) hl ?_;exact zV w0 (zV w1 An)
end
@[simp] theorem or_some (a b:Bool):(bif a then some true else some b)=some (a || b):=by cases a<;>rfl
@[simp] theorem OX (a b:Bool):(bif a then some b else some false)=some (a&&b):=by cases a<;>rfl
theorem dy {n:Int} (h:-9223372036854775808<=n) (h':n<=9223372036854775807):wr .i64 n=n:=by
 simp only[wr,IntKind.wrap,IntKind.bits,IntKind.signed]
 simp;omega
theorem bE {T:Type} (l:List T) (i:Nat):bG l (i:Int)=l[i]?:=by simp[bG]
theorem fu:aD=1208925819614629174706176:=rfl
mutual
def oJ:aw->Nat
 | .mk _ _ s l=>1+s.size / 200+nD l
def nD:List aw->Nat
 | []=>0
 | x :: r=>oJ x+nD r
end
theorem fy (v:aw):oJ v=1+v.S.size / 200+nD v.L:=by cases v; rw[oJ]
theorem qd (v:aw):1<=oJ v:=by rw[fy]; omega
theorem nE:nD []=0:=by rw[nD]
theorem lz (x:aw) (r:List aw):nD (x :: r)=oJ x+nD r:=by rw[nD]
theorem fi:∀ l:List aw,l.length<=nD l
 | []=>qav _
 | x :: r=>by rw[lz,qae]; have:=fi r; have:=qd x; omega
theorem jF:∀ {l:List aw} {x:aw},x∈l->oJ x<=nD l
 | y :: r,x,h=>by
  rw[lz];rcases qaD.1 h with rfl | h
  ·omega
  ·have:=jF h; omega
def emp (s:ByteArray):Bool:=kR s (ByteArray.mk #[])
mutual
def ue:aw->Bool
 | .mk k n s l=>bif k==1 then emp s&&((l.length:Int)==0) else bif k==2 then (n==0)&&((l.length:Int)==0) else bif k==3 then mP l&&((n==0)&&emp s) else false
def mP:List aw->Bool
 | []=>true
 | x :: r=>ue x&&mP r
end
mutual
def dep:aw->Nat
 | .mk k _ _ l=>bif k==3 then oN l+1 else 0
def oN:List aw->Nat
 | []=>0
 | x :: r=>max (dep x) (oN r)
end
theorem n5 (v:aw):ue v=bif v.Kind==1 then emp v.S&&((v.L.length:Int)==0) else bif v.Kind==2 then (v.N==0)&&((v.L.length:Int)==0) else bif v.Kind==3 then mP v.L&&((v.N==0)&&emp v.S) else false:=by cases v; rw[ue]
theorem pa (v:aw):dep v=bif v.Kind==3 then oN v.L+1 else 0:=by cases v; rw[dep]
theorem rO:mP []=true:=by rw[mP]
theorem nw (x:aw) (r:List aw):mP (x :: r)=(ue x&&mP r):=by rw[mP]
theorem pb:oN []=0:=by rw[oN]
theorem lu (x:aw) (r:List aw):oN (x :: r)=max (dep x) (oN r):=by rw[oN]
mutual
theorem Jx:∀ v:aw,dep v<=oJ v
 | .mk k n s l=>by
  rw[dep,oJ];have:=rF l;cases k==3<;>simp<;>omega
theorem rF:∀ l:List aw,oN l<=nD l
 | []=>by rw[pb]; omega
 | x :: r=>by
  rw[lu,lz];have:=Jx x; have:=rF r; omega
end
theorem HJ (self:aw->Option Int) (n:Nat) (z:Int) (v:aw) (hn:oJ v<=1100000) (hself:∀ e∈v.L,self e=some (dep e:Int)) :
  ∀ (k m i d:Nat),i+k=v.L.length->k<m->ja self n v m (d:Int) (i:Int)=some ((max d (oN (v.L.drop i)):Nat):Int)
 | 0,m,i,d,h1,h2=>by
  obtain ⟨m,rfl⟩:∃ q,m=q+1:=⟨m - 1,o3⟩
  rw[ja,qal o3,qaH.2 o3,pb];simp
 | k+1,m,i,d,h1,h2=>by
  obtain ⟨m,rfl⟩:∃ q,m=q+1:=⟨m - 1,o3⟩
  have hi:i<v.L.length:=o3;have hl:=fi v.L;rw[fy] at hn;rw[ja,qac o3,qas hi,lu];simp only[qaa,bE,Z7 hi,Z6,hself _ (qaB hi)]
  rw[dy o3 o3,show (i:Int)+1=((i+1:Nat):Int) by omega,show (if (d:Int)<(dep v.L[i]:Int) then (dep v.L[i]:Int) else (d:Int))=((max d (dep v.L[i]):Nat):Int) by split<;>omega];rw[HJ self n z v (by rw[fy]; exact hn) hself k m (i+1) _ o3 o3];congr 2;omega
theorem WY:∀ (q:Nat) (v:aw),oJ v<=q->oJ v<=1100000->zO q v=some (dep v:Int)
 | 0,v,h,_=>by have:=qd v; omega
 | q+1,v,h,hn=>by
  show Fz (zO q) aD v=_;unfold Fz;rw[pa];cases hk:v.Kind==3 with
  | false=>rw[show (v.Kind != 3)=true by rw[bne,hk]; rfl]; rfl
  | true=>
   rw[show (v.Kind != 3)=false by rw[bne,hk]; rfl];have hl:=fi v.L;have hn':=hn;rw[fy] at hn' h;have:=HJ (zO q) aD 0 v hn (λe he=>by
    have:=jF he;exact WY q e o3 o3) v.L.length (aD+8) 0 0 o3 u3
   rw[show ((0:Nat):Int)=0 from rfl] at this;simp only[Z8,this,Z6,qaM,qaa]
   have hd:=rF v.L;rw[dy o3 o3]
   first | done | (congr 1; try omega)
theorem HI (self:aw->Option Bool) (n:Nat) (z:Bool) (v:aw) (hn:oJ v<=1100000) (hself:∀ e∈v.L,self e=some (ue e)) :
  ∀ (k m i:Nat),i+k=v.L.length->k<m->iZ self n v m (i:Int)=some (bif mP (v.L.drop i) then .inr () else .inl false)
 | 0,m,i,h1,h2=>by
  obtain ⟨m,rfl⟩:∃ q,m=q+1:=⟨m - 1,o3⟩
  rw[iZ,qal o3,qaH.2 o3,rO];rfl
 | k+1,m,i,h1,h2=>by
  obtain ⟨m,rfl⟩:∃ q,m=q+1:=⟨m - 1,o3⟩
  have hi:i<v.L.length:=o3;have hl:=fi v.L;rw[fy] at hn;rw[iZ,qac o3,qas hi,nw];simp only[qaa,bE,Z7 hi,Z6,hself _ (qaB hi)]
  cases ue v.L[i] with
  | false=>rfl
  | true=>
   rw[dy o3 o3,show (i:Int)+1=((i+1:Nat):Int) by omega];exact HI self n z v (by rw[fy]; exact hn) hself k m (i+1) o3 o3
theorem WX:∀ (q:Nat) (v:aw),oJ v<=q->oJ v<=1100000->zM q v=some (ue v)
 | 0,v,h,_=>by have:=qd v; omega
 | q+1,v,h,hn=>by
  show Fy (zM q) aD v=_;unfold Fy;rw[n5];cases hk1:v.Kind==1 with
  | true=>simp only[qaa]; show Option.bind (bif emp v.S then _ else _) _=_; cases emp v.S<;>rfl
  | false=>
   cases hk2:v.Kind==2 with
   | true=>simp only[qaa,Z8]; cases v.N==0<;>rfl
   | false=>
    cases hk3:v.Kind==3 with
    | false=>rfl
    | true=>
     have hl:=fi v.L;have hn':=hn;rw[fy] at hn' h;have:=HI (zM q) aD false v hn (λe he=>by
      have:=jF he;exact WX q e o3 o3) v.L.length (aD+8) 0 o3 u3
     rw[show ((0:Nat):Int)=0 from rfl] at this;simp only[Z8,qaa,this,Z6,qaM]
     cases mP v.L with
     | false=>rfl
     | true=>show Option.bind (bif v.N==0 then some (emp v.S) else _) _=_; cases v.N==0<;>rfl
def jT (v:aw):Int:=bif ue v then (bif decide (16<dep v) then 2 else 0) else 1
theorem V8 (v:aw) (hn:oJ v<=1100000):NZ v=some (jT v):=by
 unfold NZ RI Jh Ji;rw[WX _ v u3 hn,WY _ v u3 hn];simp only[Z6]
 unfold jT;cases ue v with
 | false=>rfl
 | true=>
  simp only[qau,Z8,qaa]
  by_cases h:16<dep v
  ·rw[qac h,qac o3]; rfl
  ·rw[qal h,qal o3]; rfl
theorem HH (self:aw->Option (Int×Bool)) (n:Nat) (z:Bool) (v:aw) (hn:oJ v<=1100000) (hself:∀ e∈v.L,∃ x,self e=some (x,ue e)/\(ue e=true->x=(dep e:Int))) :
  ∀ (k m i t:Nat),i+k=v.L.length->k<m->∃ r,lJ self n z v.L (v.L.length:Int) m (t:Int) (i:Int)=some r/\(match r with | .inl p=>mP (v.L.drop i)=false/\p.1=0/\p.2=false | .inr x=>mP (v.L.drop i)=true/\x=((max t (oN (v.L.drop i)):Nat):Int))
 | 0,m,i,t,h1,h2=>by
  obtain ⟨m,rfl⟩:∃ q,m=q+1:=⟨m - 1,o3⟩
  rw[lJ,qal o3,qaH.2 o3,rO,pb];exact⟨_,rfl,rfl,r8⟩
 | k+1,m,i,t,h1,h2=>by
  obtain ⟨m,rfl⟩:∃ q,m=q+1:=⟨m - 1,o3⟩
  have hi:i<v.L.length:=o3;have hl:=fi v.L;rw[fy] at hn;obtain ⟨x,h3,h4⟩:=hself _ (qaB hi);rw[lJ,qac o3,qas hi,nw,lu];simp only[qaa,bE,Z7 hi,Z6,h3]
  cases hf:ue v.L[i] with
  | false=>exact⟨_,rfl,rfl,rfl,rfl⟩
  | true=>
   rw[h4 hf];simp only[qau,Z8,qaX]
   rw[dy o3 o3,show (i:Int)+1=((i+1:Nat):Int) by omega,show (if (t:Int)<(dep v.L[i]:Int) then (dep v.L[i]:Int) else (t:Int))=((max t (dep v.L[i]):Nat):Int) by split<;>omega];have:=HH self n z v (by rw[fy]; exact hn) hself k m (i+1) (max t (dep v.L[i])) o3 o3;rw[show max t (max (dep v.L[i]) (oN (v.L.drop (i+1))))=max (max t (dep v.L[i])) (oN (v.L.drop (i+1))) by omega];exact this
theorem Mf:∀ (q:Nat) (v:aw),oJ v<=q->oJ v<=1100000->∃ x,Ly q v=some (x,ue v)/\(ue v=true->x=(dep v:Int))
 | 0,v,h,_=>by have:=qd v; omega
 | q+1,v,h,hn=>by
  have hl:=fi v.L;have hn':=hn;rw[fy] at hn' h;obtain ⟨r,h1,h2⟩:=HH (Ly q) aD false v hn (λe he=>by
   have:=jF he;exact Mf q e o3 o3) v.L.length (aD+8) 0 0 o3 u3
  rw[show ((0:Nat):Int)=0 from rfl] at h1;rw[qaM] at h2;show ∃ x,Oj (Ly q) aD v=_/\_;unfold Oj;rw[show (bif kR v.S (ByteArray.mk #[]) then some ((v.L.length:Int)==0) else some false)=some (emp v.S&&((v.L.length:Int)==0)) from by unfold emp; cases kR v.S (ByteArray.mk #[])<;>rfl,
   show (bif v.N==0 then some ((v.L.length:Int)==0) else some false)=some ((v.N==0)&&((v.L.length:Int)==0)) from by cases v.N==0<;>rfl,
   show (bif v.N==0 then some (kR v.S (ByteArray.mk #[])) else some false)=some ((v.N==0)&&emp v.S) from by unfold emp; cases v.N==0<;>rfl]
  simp only[Z6]
  rw[n5,pa];by_cases k1:v.Kind<1
  ·rw[qac k1];refine⟨0,?_,?_⟩
   ·rw[show (v.Kind==1)=false from r9,show (v.Kind==2)=false from r9,show (v.Kind==3)=false from r9]; rfl
   ·rw[show (v.Kind==1)=false from r9,show (v.Kind==2)=false from r9,show (v.Kind==3)=false from r9]; intro h; cases h
  by_cases k2:3<v.Kind
  ·rw[qal k1,qac k2];refine⟨0,?_,?_⟩
   ·rw[show (v.Kind==1)=false from r9,show (v.Kind==2)=false from r9,show (v.Kind==3)=false from r9]; rfl
   ·rw[show (v.Kind==1)=false from r9,show (v.Kind==2)=false from r9,show (v.Kind==3)=false from r9]; intro h; cases h
  rw[qal k1,qal k2];simp only[Z8,qaa,Z6]
  rcases (show v.Kind=1∨v.Kind=2∨v.Kind=3 by omega) with hk | hk | hk
  ·rw[hk];simp only[show decide ((1:Int)=0)=false from rfl,show decide ((1:Int)=1)=true from rfl,show decide ((1:Int)<3)=true from rfl,show ((1:Int)==1)=true from rfl,show ((1:Int)==3)=false from rfl,Z8,qaa,Z6]
   cases emp v.S&&((v.L.length:Int)==0) with
   | false=>exact⟨0,rfl,λh=>by cases h⟩
   | true=>exact⟨0,rfl,λ_=>rfl⟩
  ·rw[hk];simp only[show decide ((2:Int)=0)=false from rfl,show decide ((2:Int)=1)=false from rfl,show decide ((2:Int)=2)=true from rfl,show decide ((2:Int)<3)=true from rfl,show ((2:Int)==1)=false from rfl,show ((2:Int)==2)=true from rfl,show ((2:Int)==3)=false from rfl,Z8,qaa,Z6]
   cases (v.N==0)&&((v.L.length:Int)==0) with
   | false=>exact⟨0,rfl,λh=>by cases h⟩
   | true=>exact⟨0,rfl,λ_=>rfl⟩
  ·rw[hk];simp only[show decide ((3:Int)=0)=false from rfl,show decide ((3:Int)=1)=false from rfl,show decide ((3:Int)=2)=false from rfl,show decide ((3:Int)=3)=true from rfl,show decide ((3:Int)<3)=false from rfl,show ((3:Int)==1)=false from rfl,show ((3:Int)==2)=false from rfl,show ((3:Int)==3)=true from rfl,Z8,qaa,Z6]
   cases hc:(v.N==0)&&emp v.S with
   | false=>exact⟨0,r8,λh=>by simp at h⟩
   | true=>
    simp only[qau,Z8,h1,Z6]
    cases r with
    | inl p=>
     obtain ⟨h3,h4,h5⟩:=h2;obtain ⟨p1,p2⟩:=p;refine⟨0,?_,λh=>?_⟩
     ·rw[h3]; simp only at h4 h5; subst h4; subst h5; rfl
     ·rw[h3] at h; cases h
    | inr x=>
     obtain ⟨h3,h4⟩:=h2;have hd:=rF v.L;refine⟨_,by rw[h3]; rfl,λ_=>?_⟩;rw[h4,dy o3 o3];omega
theorem Zi (v:aw) (hn:oJ v<=1100000):OL v=some (jT v):=by
 unfold OL RH RO;obtain ⟨x,h1,h2⟩:=Mf aD v u3 hn;rw[h1,Z6];unfold jT;cases hf:ue v with
 | false=>rfl
 | true=>
  rw[h2 hf];simp only[qau,Z8,qaa]
  by_cases h:16<dep v
  ·rw[qac h,qac o3]; rfl
  ·rw[qal h,qal o3]; rfl
theorem BD:dt=140737488355328:=r7
theorem fA {T:Type} (b:Nat) (l l2:List T) (h:(l.length+l2.length)*b<=dt):cU b l l2=some (l++l2):=by unfold cU; rw[qac h]; rfl
theorem nS (l l2:List UInt8) (h:l.length+l2.length<=140737488355328):cU 1 l l2=some (l++l2):=fA _ _ _ (by rw[BD]; omega)
def num (n:Nat):List UInt8:=if h:n<128 then [UInt8.ofNat n] else UInt8.ofNat (n % 128+128) :: num (n / 128)
termination_by n
decreasing_by omega
theorem n9 {n:Nat} (h:n<128):num n=[UInt8.ofNat n]:=by rw[num]; exact dif_pos h
theorem vM {n:Nat} (h:¬ n<128):num n=UInt8.ofNat (n % 128+128) :: num (n / 128):=by rw[num]; exact dif_neg h
theorem D0:∀ (k n:Nat),n<128 ^ k->(num n).length<=max k 1
 | 0,n,h=>by rw[n9 (by simpa using qaz h (by decide))]; simp
 | k+1,n,h=>by
  by_cases h1:n<128
  ·rw[n9 h1]; simp
  ·rw[vM h1,qae];have hk:0<k:=by
    rcases qcF k with rfl | hk
    ·simp at h; omega
    ·exact hk
   have:=D0 k (n / 128) (by rw[qcn (by decide)]; rw[qdK] at h; exact h);omega
theorem mT {n:Nat} (h:n<18446744073709551616):(num n).length<=10:=D0 10 n (qaz h (by decide))
theorem NR (n:Nat):wr .u8 (n:Int)=((n % 256:Nat):Int):=by
 unfold wr IntKind.wrap;simp[IntKind.bits,IntKind.signed]
theorem Qr:∀ c:Fin 256,oO .u8 (c.val:Int) 128=((c.val % 128+128:Nat):Int):=by decide +kernel
theorem Nr (n:Nat):oO .u8 (wr .u8 (n:Int)) 128=((n % 128+128:Nat):Int):=by
 rw[NR];have:=Qr ⟨n % 256,qcu _ (by decide)⟩;rw[this];simp only
 congr 2;omega
theorem VE (n:Nat):jJ .u64 (n:Int) 7=((n / 128:Nat):Int):=by
 unfold jJ;show Int.fdiv (n:Int) (2 ^ 7)=_;rw[qct _ (by decide)];rfl
theorem ln (G:Nat->Int->List UInt8->Option (Int×List UInt8)) (hG:∀ m v l,G (m+1) v l=bif decide (128<=v) then (bif (decide (0<=(oO .u8 (wr .u8 (v)) 128))&&decide ((oO .u8 (wr .u8 (v)) 128)<256)) then (Option.bind (cU 1 l ([(UInt8.ofNat (Int.toNat (oO .u8 (wr .u8 (v)) 128)))])) λy=>G m (jJ .u64 v 7) y) else none) else some (v,l)) :
  ∀ (k m n:Nat) (l:List UInt8),n<128 ^ k->k<=11->k<m->l.length+k<=140737488355328->∃ (y:Nat) (ini:List UInt8),y<128/\G m (n:Int) l=some ((y:Int),l++ini)/\num n=ini++[UInt8.ofNat y]
 | 0,m,n,l,h,_,hm,hl=>by
  obtain ⟨m,rfl⟩:∃ q,m=q+1:=⟨m - 1,o3⟩
  have h:n<1:=h;exact⟨n,[],o3,by rw[hG,qal o3,qaW]; rfl,by rw[n9 o3]; rfl⟩
 | k+1,m,n,l,h,hk,hm,hl=>by
  obtain ⟨m,rfl⟩:∃ q,m=q+1:=⟨m - 1,o3⟩
  by_cases h1:n<128
  ·exact⟨n,[],h1,by rw[hG,qal o3,qaW]; rfl,by rw[n9 h1]; rfl⟩
  ·have hq:n / 128<128 ^ k:=by rw[qcn (by decide)]; rw[qdK] at h; exact h
   rw[hG,qac o3,Nr,qac o3,qac o3,VE,qbu];simp only[qaa,qbm]
   rw[nS _ _ r9,Z6];obtain ⟨y,ini,h2,h3,h4⟩:=ln G hG k m (n / 128) (l++[UInt8.ofNat (n % 128+128)]) hq o3 o3 r9;exact⟨y,UInt8.ofNat (n % 128+128) :: ini,h2,by rw[h3,qaV]; rfl,by rw[vM h1,h4]; rfl⟩
theorem VJ {y:Nat} (h:y<128):wr .u8 (y:Int)=(y:Int):=by rw[NR,qcS o3]
theorem WZ:∀ (k q n:Nat),n<128 ^ k->k<=11->k<q->n<18446744073709551616->zP q (n:Int)=some (num n)
 | 0,q,n,h,_,hq,hn=>by
  obtain ⟨q,rfl⟩:∃ p,q=p+1:=⟨q - 1,o3⟩
  have h:n<1:=h;show BH (zP q) aD _=_;unfold BH;rw[qac o3,VJ o3,qac o3,qac o3,n9 o3];rfl
 | k+1,q,n,h,hk,hq,hn=>by
  obtain ⟨q,rfl⟩:∃ p,q=p+1:=⟨q - 1,o3⟩
  show BH (zP q) aD _=_;unfold BH;by_cases h1:n<128
  ·rw[qac o3,VJ h1,qac o3,qac o3,n9 h1];rfl
  ·have hk0:0<k:=by
    rcases qcF k with rfl | hk
    ·simp at h; omega
    ·exact hk
   have hq2:n / 128<128 ^ k:=by rw[qcn (by decide)]; rw[qdK] at h; exact h
   have e1:Int.tmod (n:Int) 128=((n % 128:Nat):Int):=rfl;have e2:Int.tdiv (n:Int) 128=((n / 128:Nat):Int):=rfl;have wu:∀ z:Nat,z<18446744073709551616->wr .u64 (z:Int)=(z:Int):=λz hz=>by
    unfold wr IntKind.wrap;simp[IntKind.bits,IntKind.signed];omega
   rw[qal o3];simp only[Z8]
   rw[e1,e2,show ((n % 128:Nat):Int)+128=((n % 128+128:Nat):Int) by omega,wu _ o3,wu _ o3,NR (n % 128+128),qcS (show n % 128+128<256 by omega),qac o3,qac o3,qbu];simp only[qaa,Z8,qbm]
   rw[WZ k q (n / 128) hq2 o3 o3 o3,Z6,nS _ _ (by have:=mT (n:=n / 128) o3; simp; omega),vM h1];rfl
theorem TP (n:Nat) (h:n<18446744073709551616):Es (n:Int)=some (num n):=WZ 10 aD n (qaz h (by decide)) o3 u3 h
def wA (n:Int):Nat:=if 0<=n then (2*n).toNat else (-2*n - 1).toNat
theorem CT (z:Int):wr .u64 z=z % 18446744073709551616:=by
 unfold wr IntKind.wrap;simp[IntKind.bits,IntKind.signed]
theorem pR {n:Int} (h:ee n):wA n<18446744073709551616:=by
 obtain ⟨h1,h2⟩:=h;unfold wA; split<;>omega
theorem Zl (n:Int) (h:ee n):FA n=some (wA n:Int):=by
 obtain ⟨h1,h2⟩:=h;unfold FA Jd wA;by_cases h0:0<=n
 ·rw[qac h0,qaf h0];simp only[qaa,CT]
  congr 1; omega
 ·rw[qal h0,qah h0,dy (n:=n+1) o3 o3,dy (n:=0 - (n+1)) o3 o3];simp only[Z8,CT]
  congr 1; omega
theorem xor_zero (a:Int) (h:0<=a) (h':a<18446744073709551616):tQ .u64 a 0=a:=by
 unfold tQ;show IntKind.wrap .u64 ((BitVec.ofInt 64 a ^^^ BitVec.ofInt 64 0).toNat:Int)=a;rw[show BitVec.ofInt 64 0=0#64 from rfl,BitVec.xor_zero];have:=CT ((BitVec.ofInt 64 a).toNat:Int);unfold wr at this;rw[this,qb6];omega
theorem I3 (a:Int) (h:0<=a) (h':a<18446744073709551616):tQ .u64 a 18446744073709551615=18446744073709551615 - a:=by
 unfold tQ;show IntKind.wrap .u64 ((BitVec.ofInt 64 a ^^^ BitVec.ofInt 64 18446744073709551615).toNat:Int)=_;rw[show BitVec.ofInt 64 18446744073709551615=BitVec.allOnes 64 from rfl,BitVec.xor_allOnes,BitVec.toNat_not];have:=CT (((2 ^ 64 - 1 - (BitVec.ofInt 64 a).toNat:Nat)):Int);unfold wr at this;rw[this,qb6];omega
theorem TN (n:Int) (h:ee n):Mq n=some (wA n:Int):=by
 obtain ⟨h1,h2⟩:=h;unfold Mq RK;have e1:rf .u64 (wr .u64 n) 1=(2*n) % 18446744073709551616:=by
  unfold rf;have:=CT (wr .u64 n*2 ^ 1);unfold wr at this ⊢;show IntKind.wrap .u64 (IntKind.wrap .u64 n*2 ^ 1)=_;rw[this];have h4:=CT n;unfold wr at h4;rw[h4]; omega
 have e2:jJ .i64 n 63=n / 9223372036854775808:=by
  unfold jJ;show Int.fdiv n (2 ^ 63)=_;rw[qct _ (by decide)];rfl
 rw[e1,e2];congr 1;unfold wA;by_cases h0:0<=n
 ·rw[qaf h0,show n / 9223372036854775808=0 by omega,show wr .u64 0=0 from rfl,xor_zero _ o3 o3]; omega
 ·rw[qah h0,show n / 9223372036854775808=-1 by omega,show wr .u64 (-1)=18446744073709551615 from rfl,I3 _ o3 o3]; omega
mutual
def iE:aw->List UInt8
 | .mk k n s l=>bif k==1 then 1 :: num (wA n) else bif k==2 then 2 :: (num s.size++ky s) else 3 :: (num l.length++kZ l)
def kZ:List aw->List UInt8
 | []=>[]
 | x :: r=>iE x++kZ r
end
theorem eA (v:aw):iE v=bif v.Kind==1 then 1 :: num (wA v.N) else bif v.Kind==2 then 2 :: (num v.S.size++ky v.S) else 3 :: (num v.L.length++kZ v.L):=by cases v; rw[iE]
theorem nv:kZ []=[]:=by rw[kZ]
theorem fR (x:aw) (r:List aw):kZ (x :: r)=iE x++kZ r:=by rw[kZ]
theorem gY (s:ByteArray):(ky s).length=s.size:=rfl
mutual
theorem yB:∀ (v:aw),b7 v->oJ v<=1100000->(iE v).length<=420*oJ v
 | .mk k n s l,h,hn=>by
  rw[b7] at h;obtain ⟨⟨_,h2,_,_⟩,h5⟩:=h;rw[oJ] at hn;have h1:=uU l h5 o3;have h3:=fi l;rw[iE,oJ];have l1:=mT (n:=wA n) (pR h2);have l2:=mT (n:=s.size) o3;have l3:=mT (n:=l.length) o3;cases k==1 with
  | true=>simp only[qaa,qae]; omega
  | false=>
   cases k==2 with
   | true=>simp only[qaa,Z8,qae,qar,gY]; omega
   | false=>simp only[Z8,qae,qar]; omega
theorem uU:∀ (l:List aw),ig l->nD l<=1100000->(kZ l).length<=420*nD l
 | [],_,_=>by rw[nv,nE]; simp
 | x :: r,h,hn=>by
  rw[ig] at h;rw[lz] at hn ⊢;have h1:=yB x h.1 o3;have h2:=uU r h.2 o3;rw[fR,qar]; omega
end
theorem EP {v:aw} (h:b7 v) (hn:oJ v<=1100000):(iE v).length<=462000000:=by have:=yB v h hn; omega
theorem Cg {v:aw} (h:b7 v) (hn:oJ v<=1100000):(kZ v.L).length<=462000000:=by
 have h4:=((dZ v).1 h).2.2.2.2;rw[fy] at hn;have:=uU v.L ((oa _).2 h4) o3; omega
theorem ox {v:aw} (hn:oJ v<=1100000):v.S.size<=220000000:=by rw[fy] at hn; omega
theorem HG (self:aw->Option (List UInt8)) (n:Nat) (z:List UInt8) (v:aw) (hv:b7 v) (hn:oJ v<=1100000) (hself:∀ e∈v.L,self e=some (iE e)) :
  ∀ (k m i:Nat) (l:List UInt8),i+k=v.L.length->k<m->l.length+(kZ (v.L.drop i)).length<=140737488355328->lH self n v m (i:Int) l=some (l++kZ (v.L.drop i))
 | 0,m,i,l,h1,h2,h3=>by
  obtain ⟨m,rfl⟩:∃ q,m=q+1:=⟨m - 1,o3⟩
  rw[lH,qal o3,qaH.2 o3,nv,qaW];rfl
 | k+1,m,i,l,h1,h2,h3=>by
  obtain ⟨m,rfl⟩:∃ q,m=q+1:=⟨m - 1,o3⟩
  have hi:i<v.L.length:=o3;have hl:=fi v.L;have hn':=hn;rw[fy] at hn';rw[qas hi,fR,qar] at h3;rw[lH,qac o3,qas hi,fR];simp only[qaa,bE,Z7 hi,Z6,hself _ (qaB hi)]
  rw[nS _ _ o3,Z6,dy o3 o3,show (i:Int)+1=((i+1:Nat):Int) by omega];rw[HG self n z v hv hn hself k m (i+1) _ o3 o3 ZO,qaV]
theorem wU (n:Nat) (h:n<18446744073709551616):wr .u64 (n:Int)=(n:Int):=by rw[CT]; omega
theorem WW:∀ (q:Nat) (v:aw),b7 v->oJ v<=q->oJ v<=1100000->Lx q v=some (iE v)
 | 0,v,_,h,_=>by have:=qd v; omega
 | q+1,v,hv,h,hn=>by
  obtain ⟨_,h2,_,_,h4⟩:=(dZ v).1 hv;have hs:=ox hn;have he:=Cg hv hn;have hl:=fi v.L;have hn':=hn;rw[fy] at hn' h;have l1:=mT (n:=wA v.N) (pR h2);have l2:=mT (n:=v.S.size) o3;have l3:=mT (n:=v.L.length) o3;show Oi (Lx q) aD v=_;unfold Oi;rw[eA];cases hk1:v.Kind==1 with
  | true=>
   simp only[qaa,Zl _ h2,Z6,TP _ (pR h2)]
   rw[nS _ _ r9]; rfl
  | false=>
   cases hk2:v.Kind==2 with
   | true=>
    simp only[qaa,Z8]
    rw[wU _ o3,TP _ o3,Z6,nS _ _ r9,Z6,nS _ _ ZZ];simp
   | false=>
    simp only[Z8]
    rw[wU _ o3,TP _ o3,Z6,nS _ _ r9,Z6];have:=HG (Lx q) aD [] v hv hn (λe he=>by
     have:=jF he;exact WW q e (h4 e he) o3 o3) v.L.length (aD+8) 0 ([(3:UInt8)]++num v.L.length) o3 u3 Z2
    rw[show ((0:Nat):Int)=0 from rfl,qaM] at this;rw[this];simp
theorem V9 (v:aw) (hv:b7 v) (hn:oJ v<=1100000):OM v=some (iE v):=WW aD v hv u3 hn
theorem nx:∀ {l:List aw},mP l=true->∀ e∈l,ue e=true
 | x :: r,h,e,he=>by
  rw[nw,Z9] at h;rcases qaD.1 he with rfl | he
  ·exact h.1
  ·exact nx h.2 e he
theorem pq {v:aw} (h:ue v=true):v.Kind=1∨v.Kind=2∨(v.Kind=3/\mP v.L=true):=by
 rw[n5] at h;cases h1:v.Kind==1 with
 | true=>exact .inl (by simpa using h1)
 | false=>
  cases h2:v.Kind==2 with
  | true=>exact .inr (.inl (by simpa using h2))
  | false=>
   cases h3:v.Kind==3 with
   | true=>
    rw[h1,h2,h3] at h;simp only[qaa,Z8,Z9] at h;exact .inr (.inr ⟨by simpa using h3,h.1⟩)
   | false=>rw[h1,h2,h3] at h; cases h
theorem Az {y:Nat} (h:y<128) {β:Type} (k:List UInt8->Option β) (l:List UInt8) (hl:l.length<=1000000000000) :
  (bif (decide (0<=(wr .u8 (y:Int)))&&decide ((wr .u8 (y:Int))<256)) then Option.bind (cU 1 l ([(UInt8.ofNat (Int.toNat (wr .u8 (y:Int))))])) k else none)=k (l++[UInt8.ofNat y]):=by
 rw[VJ h,qac o3,qac o3,nS _ _ r9,qbu];rfl
theorem KN {n:Nat} (h:n<18446744073709551616):n<128 ^ 10:=qaz h (by decide)
theorem HM (self:aw->aw->(List UInt8)->aw->Option (List UInt8)) (n:Nat) (hn:50<=n) (z:List UInt8) (b0 b3:aw) (L:List aw) (hL:nD L<=1100000) (hf:mP L=true) (hok:∀ e∈L,b7 e)
  (hself:∀ e∈L,e.Kind=3->∀ l:List UInt8,l.length+(iE e).length<=100000000000->self b0 b3 l e=some (l++iE e)) :
  ∀ (k m i:Nat) (l:List UInt8),i+k=L.length->k<m->l.length+(kZ (L.drop i)).length<=100000000000->fD self n z L (L.length:Int) b0 b3 m (i:Int) l=some (l++kZ (L.drop i))
 | 0,m,i,l,h1,h2,h3=>by
  obtain ⟨m,rfl⟩:∃ q,m=q+1:=⟨m - 1,o3⟩
  rw[fD,qal o3,qaH.2 o3,nv,qaW];rfl
 | k+1,m,i,l,h1,h2,h3=>by
  obtain ⟨m,rfl⟩:∃ q,m=q+1:=⟨m - 1,o3⟩
  have hi:i<L.length:=o3;have hl:=fi L;have hme:L[i]∈L:=qaB hi;have hne:=jF hme;have hs:=ox (v:=L[i]) o3;obtain ⟨_,hN,_,_,_⟩:=(dZ L[i]).1 (hok _ hme);rw[qas hi,fR,qar] at h3;have ih:=HM self n hn z b0 b3 L hL hf hok hself k m (i+1) (l++iE L[i]) o3 o3 ZO;rw[fD,qac o3,qas hi,fR];simp only[qaa,bE,Z7 hi,Z6]
  rw[dy o3 o3,show (i:Int)+1=((i+1:Nat):Int) by omega,<-qaV];have h3':=h3;rw[eA] at h3;generalize hE:kZ (L.drop (i+1))=E at h3 h3' ih ⊢;rcases pq (nx hf _ hme) with hk | hk | ⟨hk,_⟩
  ·rw[hk] at h3 ⊢;simp only[show ((1:Int)==1)=true from rfl,qaa,qae] at h3;simp only[show decide ((1:Int)=0)=false from rfl,show decide ((1:Int)=1)=true from rfl,qaa,Z8,TN _ hN,Z6]
   rw[nS _ _ r9,Z6];obtain ⟨y,ini,e1,e2,e3⟩:=ln (gS n) (λ_ _ _=>rfl) 10 (n+6) (wA L[i].N) (l++[1]) (KN (pR hN)) o3 o3 r9;have e4:(num (wA L[i].N)).length=ini.length+1:=by rw[e3]; simp
   try simp only at e2
   rw[e2,Z6]
   try simp only
   rw[Az e1 _ _ r9];rw[eA,hk] at ih;simp only[show ((1:Int)==1)=true from rfl,qaa,e3] at ih;rw[eA,hk];simp only[show ((1:Int)==1)=true from rfl,qaa,e3]
   rw[<-ih];congr 1;simp
  ·rw[hk] at h3 ⊢;simp only[show ((2:Int)==1)=false from rfl,show ((2:Int)==2)=true from rfl,qaa,Z8,qae,qar,gY] at h3;simp only[show decide ((2:Int)=0)=false from rfl,show decide ((2:Int)=1)=false from rfl,show decide ((2:Int)=2)=true from rfl,qaa,Z8]
   rw[nS _ _ r9,Z6,wU _ o3];obtain ⟨y,ini,e1,e2,e3⟩:=ln (gS n) (λ_ _ _=>rfl) 10 (n+6) L[i].S.size (l++[2]) (KN o3) o3 o3 r9;have e4:(num L[i].S.size).length=ini.length+1:=by rw[e3]; simp
   try simp only at e2
   rw[e2,Z6]
   try simp only
   rw[Az e1 _ _ r9,nS _ _ ZZ,Z6];rw[eA,hk] at ih;simp only[show ((2:Int)==1)=false from rfl,show ((2:Int)==2)=true from rfl,qaa,Z8,e3] at ih;rw[eA,hk];simp only[show ((2:Int)==1)=false from rfl,show ((2:Int)==2)=true from rfl,qaa,Z8,e3]
   rw[<-ih];congr 1;simp
  ·rw[hk];simp only[show decide ((3:Int)=0)=false from rfl,show decide ((3:Int)=1)=false from rfl,show decide ((3:Int)=2)=false from rfl,show decide ((3:Int)=3)=true from rfl,qaa,Z8]
   rw[hself _ hme hk l o3,Z6];exact ih
theorem R4:∀ (q N:Nat) (b0 b3:aw) (l:List UInt8) (v:aw),v.Kind=3->ue v=true->b7 v->oJ v<=q->oJ v<=1100000->q+2000000<=N->l.length+(iE v).length<=100000000000->ye N b0 b3 l v=some (l++iE v)
 | 0,N,b0,b3,l,v,_,_,_,h,_,_,_=>by have:=qd v; omega
 | q+1,N,b0,b3,l,v,hk,hf,hv,h,hn,hN,hl=>by
  obtain ⟨N,rfl⟩:∃ p,N=p+1:=⟨N - 1,o3⟩
  obtain ⟨_,h2,_,_,h4⟩:=(dZ v).1 hv;have hll:=fi v.L;have hn':=hn;rw[fy] at hn' h;have hfs:mP v.L=true:=by
   rcases pq hf with h | h | h
   ·omega
   ·omega
   ·exact h.2
  show (bif Nat.ble 8 N then wY (ye N) (N - 8) b0 b3 l v else none)=_;rw[qbe (by omega:8<=N)];simp only[qaa]
  unfold wY;rw[eA,hk] at hl ⊢;simp only[show ((3:Int)==1)=false from rfl,show ((3:Int)==2)=false from rfl,Z8,qae,qar] at hl ⊢;rw[nS _ _ r9,Z6,wU _ o3];obtain ⟨y,ini,e1,e2,e3⟩:=ln (lB (N - 8)) (λ_ _ _=>rfl) 10 (N - 8+7) v.L.length (l++[3]) (KN o3) o3 o3 r9;have e4:(num v.L.length).length=ini.length+1:=by rw[e3]; simp
  try simp only at e2
  rw[e2,Z6]
  try simp only
  rw[Az e1 _ _ r9];have:=HM (ye N) (N - 8) o3 [] b0 b3 v.L o3 hfs h4 (λe he hke l' hl'=>by
   have:=jF he;exact R4 q N b0 b3 l' e hke (nx hfs e he) (h4 e he) o3 o3 o3 hl') v.L.length (N - 8+8) 0 (l++[3]++ini++[UInt8.ofNat y]) o3 o3 Z2
  rw[show ((0:Nat):Int)=0 from rfl,qaM] at this;rw[this,e3];simp
theorem HF (n:Nat) (hn:50<=n) (z:List UInt8) (b0 b3:aw) (L:List aw) (hL:nD L<=1100000) (hf:mP L=true) (hok:∀ e∈L,b7 e)
  (hself:∀ e∈L,e.Kind=3->∀ l:List UInt8,l.length+(iE e).length<=100000000000->ye (n+7) b0 b3 l e=some (l++iE e)) :
  ∀ (k m i:Nat) (l:List UInt8),i+k=L.length->k<m->l.length+(kZ (L.drop i)).length<=100000000000->iq n z L (L.length:Int) b0 b3 m (i:Int) l=some (l++kZ (L.drop i))
 | 0,m,i,l,h1,h2,h3=>by
  obtain ⟨m,rfl⟩:∃ q,m=q+1:=⟨m - 1,o3⟩
  rw[iq,qal o3,qaH.2 o3,nv,qaW];rfl
 | k+1,m,i,l,h1,h2,h3=>by
  obtain ⟨m,rfl⟩:∃ q,m=q+1:=⟨m - 1,o3⟩
  have hi:i<L.length:=o3;have hl:=fi L;have hme:L[i]∈L:=qaB hi;have hne:=jF hme;have hs:=ox (v:=L[i]) o3;obtain ⟨_,hN,_,_,_⟩:=(dZ L[i]).1 (hok _ hme);rw[qas hi,fR,qar] at h3;have ih:=HF n hn z b0 b3 L hL hf hok hself k m (i+1) (l++iE L[i]) o3 o3 ZO;rw[iq,qac o3,qas hi,fR];simp only[qaa,bE,Z7 hi,Z6]
  rw[dy o3 o3,show (i:Int)+1=((i+1:Nat):Int) by omega,<-qaV];have h3':=h3;rw[eA] at h3;generalize hE:kZ (L.drop (i+1))=E at h3 h3' ih ⊢;rcases pq (nx hf _ hme) with hk | hk | ⟨hk,_⟩
  ·rw[hk] at h3 ⊢;simp only[show ((1:Int)==1)=true from rfl,qaa,qae] at h3;simp only[show decide ((1:Int)=0)=false from rfl,show decide ((1:Int)=1)=true from rfl,qaa,Z8,TN _ hN,Z6]
   rw[nS _ _ r9,Z6];obtain ⟨y,ini,e1,e2,e3⟩:=ln (jO n) (λ_ _ _=>rfl) 10 (n+5) (wA L[i].N) (l++[1]) (KN (pR hN)) o3 o3 r9;have e4:(num (wA L[i].N)).length=ini.length+1:=by rw[e3]; simp
   try simp only at e2
   rw[e2,Z6]
   try simp only
   rw[Az e1 _ _ r9];rw[eA,hk] at ih;simp only[show ((1:Int)==1)=true from rfl,qaa,e3] at ih;rw[eA,hk];simp only[show ((1:Int)==1)=true from rfl,qaa,e3]
   rw[<-ih];congr 1;simp
  ·rw[hk] at h3 ⊢;simp only[show ((2:Int)==1)=false from rfl,show ((2:Int)==2)=true from rfl,qaa,Z8,qae,qar,gY] at h3;simp only[show decide ((2:Int)=0)=false from rfl,show decide ((2:Int)=1)=false from rfl,show decide ((2:Int)=2)=true from rfl,qaa,Z8]
   rw[nS _ _ r9,Z6,wU _ o3];obtain ⟨y,ini,e1,e2,e3⟩:=ln (jO n) (λ_ _ _=>rfl) 10 (n+5) L[i].S.size (l++[2]) (KN o3) o3 o3 r9;have e4:(num L[i].S.size).length=ini.length+1:=by rw[e3]; simp
   try simp only at e2
   rw[e2,Z6]
   try simp only
   rw[Az e1 _ _ r9,nS _ _ ZZ,Z6];rw[eA,hk] at ih;simp only[show ((2:Int)==1)=false from rfl,show ((2:Int)==2)=true from rfl,qaa,Z8,e3] at ih;rw[eA,hk];simp only[show ((2:Int)==1)=false from rfl,show ((2:Int)==2)=true from rfl,qaa,Z8,e3]
   rw[<-ih];congr 1;simp
  ·rw[hk];simp only[show decide ((3:Int)=0)=false from rfl,show decide ((3:Int)=1)=false from rfl,show decide ((3:Int)=2)=false from rfl,show decide ((3:Int)=3)=true from rfl,qaa,Z8]
   rw[hself _ hme hk l o3,Z6];exact ih
theorem Dq {v:aw} (h:jT v=0):ue v=true:=by
 unfold jT at h;cases hf:ue v with
 | true=>rfl
 | false=>rw[hf] at h; cases h
def EO (v:aw):List UInt8×Int:=bif jT v==0 then (iE v,0) else ([],jT v)
theorem Zg (v:aw) (hv:b7 v) (hn:oJ v<=1100000):Mn v=some (EO v):=by
 unfold Mn Rs;rw[Zi v hn,Z6];unfold EO;cases hc:jT v==0 with
 | false=>rw[show (jT v != 0)=true by rw[bne,hc]; rfl]; rfl
 | true=>
  rw[show (jT v != 0)=false by rw[bne,hc]; rfl];have hf:=Dq (by simpa using hc);obtain ⟨_,h2,_,_,h4⟩:=(dZ v).1 hv;have hs:=ox hn;have he:=EP hv hn;have hll:=fi v.L;have hn':=hn;rw[fy] at hn';simp only[Z8,qaa]
  rw[eA] at he ⊢;rcases pq hf with hk | hk | ⟨hk,hfs⟩
  ·rw[hk] at he ⊢;simp only[show decide ((1:Int)=0)=false from rfl,show decide ((1:Int)=1)=true from rfl,show ((1:Int)==1)=true from rfl,qaa,Z8,TN _ h2,Z6] at he ⊢;rw[nS _ _ r8,Z6];obtain ⟨y,ini,e1,e2,e3⟩:=ln (jt aD) (λ_ _ _=>rfl) 10 (aD+6) (wA v.N) ([]++[1]) (KN (pR h2)) o3 u3 r8;have e4:(num (wA v.N)).length=ini.length+1:=by rw[e3]; simp
   have l1:=mT (pR h2)
   try simp only at e2
   rw[e2,Z6]
   try simp only
   rw[Az e1 _ _ r9,e3];simp
  ·rw[hk] at he ⊢;simp only[show decide ((2:Int)=0)=false from rfl,show decide ((2:Int)=1)=false from rfl,show decide ((2:Int)=2)=true from rfl,show ((2:Int)==1)=false from rfl,show ((2:Int)==2)=true from rfl,qaa,Z8,qae,qar,gY] at he ⊢;rw[nS _ _ r8,Z6,wU _ o3];obtain ⟨y,ini,e1,e2,e3⟩:=ln (jt aD) (λ_ _ _=>rfl) 10 (aD+6) v.S.size ([]++[2]) (KN o3) o3 u3 r8;have e4:(num v.S.size).length=ini.length+1:=by rw[e3]; simp
   have l1:=mT (n:=v.S.size) o3
   try simp only at e2
   rw[e2,Z6]
   try simp only
   rw[Az e1 _ _ r9,nS _ _ ZZ,Z6,e3];simp
  ·rw[hk] at he ⊢;simp only[show decide ((3:Int)=0)=false from rfl,show decide ((3:Int)=1)=false from rfl,show decide ((3:Int)=2)=false from rfl,show decide ((3:Int)=3)=true from rfl,show ((3:Int)==1)=false from rfl,show ((3:Int)==2)=false from rfl,qaa,Z8,qae,qar] at he ⊢;rw[nS _ _ r8,Z6,wU _ o3];obtain ⟨y,ini,e1,e2,e3⟩:=ln (jt aD) (λ_ _ _=>rfl) 10 (aD+6) v.L.length ([]++[3]) (KN o3) o3 u3 r8;have e4:(num v.L.length).length=ini.length+1:=by rw[e3]; simp
   have l1:=mT (n:=v.L.length) o3
   try simp only at e2
   rw[e2,Z6]
   try simp only
   rw[Az e1 _ _ r9];have:=HF aD u3 [] v v v.L o3 hfs h4 (λe he' hke l' hl'=>by
    have:=jF he';exact R4 1100000 (aD+7) v v l' e hke (nx hfs e he') (h4 e he') o3 o3 u3 hl') v.L.length (aD+7) 0 ([]++[3]++ini++[UInt8.ofNat y]) o3 u3 Z2
   rw[show ((0:Nat):Int)=0 from rfl,qaM] at this;rw[this,e3];simp
theorem Zh (v:aw) (hv:b7 v) (hn:oJ v<=1100000):NX v=some (EO v):=by
 unfold NX Rt;rw[V8 v hn,Z6];unfold EO;cases hc:jT v==0 with
 | false=>rw[show (jT v != 0)=true by rw[bne,hc]; rfl]; rfl
 | true=>
  rw[show (jT v != 0)=false by rw[bne,hc]; rfl];simp only[Z8,qaa,V9 v hv hn,Z6]
theorem CM (s:ByteArray):kR s s=true:=by unfold kR; exact qbj _
def jn:Nat->List UInt8->Option (Nat×List UInt8)
 | _,[]=>none
 | c,b :: r=>if (0<c/\b.toNat=0)∨(9<=c/\1<b.toNat) then none else if b.toNat<128 then some (b.toNat,r) else match jn (c+1) r with
  | some (n,t)=>some (b.toNat - 128+128*n,t)
  | none=>none
theorem pw (c:Nat):2 ^ (7*(c+1))=128*2 ^ (7*c):=by rw[qcZ,qek]; omega
theorem VI {n:Nat} (h:n<256):(UInt8.ofNat n).toNat=n:=r9
theorem AN:∀ (k n c:Nat) (t:List UInt8),n<128 ^ k->c<=9->2 ^ (7*c)*n<18446744073709551616->(0<c->n≠0)->jn c (num n++t)=some (n,t)
 | 0,n,c,t,h1,h2,h3,h4=>by
  have h1:n<1:=h1;have h5:c=0:=by
   rcases qcF c with h | h
   ·exact h
   ·have:=h4 h; omega
  subst h5;rw[n9 o3,qbB,jn,VI o3,qah o3,qaf o3]
 | k+1,n,c,t,h1,h2,h3,h4=>by
  have h9:c=9->n<=1:=by
   intro h;subst h;have:2 ^ (7*9)=9223372036854775808:=by decide
   omega
  by_cases hn:n<128
  ·rw[n9 hn,qbB,jn,VI o3,qah (by
    rintro (⟨h5,h6⟩ | ⟨h5,h6⟩)
    ·exact h4 h5 h6
    ·have:=h9 o3; omega),qaf hn]
  ·have h5:c≠9:=λh=>by have:=h9 h; omega
   have h6:n / 128<128 ^ k:=by rw[qcn (by decide)]; rw[qdK] at h1; exact h1
   have h7:2 ^ (7*(c+1))*(n / 128)<=2 ^ (7*c)*n:=by
    rw[pw,qby 128,qc9];exact qb0 _ o3
   rw[vM hn,qaS,jn,VI o3,qah o3,qah o3,AN k (n / 128) (c+1) t h6 o3 o3 o3];simp only
   congr 2;omega
theorem vp {n:Nat} {t:List UInt8} (h:n<18446744073709551616):jn 0 (num n++t)=some (n,t):=AN 10 n 0 t (KN h) o3 o3 o3
theorem AM:∀ (l:List UInt8) (c n:Nat) (r:List UInt8),jn c l=some (n,r)->c<=9->l=num n++r/\(0<c->n≠0)/\2 ^ (7*c)*n<18446744073709551616
 | [],c,n,r,h,_=>by rw[jn] at h; cases h
 | b :: l,c,n,r,h,hc=>by
  have hb:=b.toNat_lt;rw[jn] at h;split at h
  ·cases h
  rename_i h1;split at h
  ·rename_i h2;cases h;refine⟨?_,λh3 h4=>h1 (.inl ⟨h3,h4⟩),?_⟩
   ·rw[n9 h2,qdB]; rfl
   ·have:2 ^ (7*9)=9223372036854775808:=by decide
    by_cases h9:c=9
    ·subst h9; omega
    ·have h8:2 ^ (7*c)<=2 ^ 56:=qdm (by decide) o3;have h7:2 ^ (7*c)*b.toNat<=2 ^ 56*127:=qd4 h8 o3;omega
  ·rename_i h2;split at h
   ·rename_i m t h3;cases h;have h9:c≠9:=λh=>h1 (.inr ⟨o3,o3⟩);obtain ⟨h4,h5,h6⟩:=AM l (c+1) m _ h3 o3;have h5:=h5 o3;refine⟨?_,λ_=>o3,?_⟩
    ·rw[vM o3,show (b.toNat - 128+128*m) % 128+128=b.toNat by omega,show (b.toNat - 128+128*m) / 128=m by omega,qdB,h4];rfl
    ·rw[pw] at h6;have h8:2 ^ (7*c)*(b.toNat - 128)+2 ^ (7*c)*(128*m)<18446744073709551616:=by
      have e:2 ^ (7*c)*(128*m)=128*2 ^ (7*c)*m:=by rw[qby 128 (2 ^ (7*c)),qc9]
      rw[e];have hlt:b.toNat - 128<128:=o3;have h10:2 ^ (7*c)*(b.toNat - 128)<2 ^ (7*c)*128:=Nat.mul_lt_mul_of_pos_left hlt (Nat.two_pow_pos _);have h11:2 ^ (7*c)*128*m<18446744073709551616:=by rw[qby (2 ^ (7*c))]; exact h6
      have hd:18446744073709551616=2 ^ (7*c)*128*2 ^ (64 - (7*c+7)):=by
       rw[qc9,show 128*2 ^ (64 - (7*c+7))=2 ^ (64 - 7*c) by
        rw[show 128=2 ^ 7 from rfl,<-qek]; congr 1; omega,<-qek,show 7*c+(64 - 7*c)=64 by omega]
      rw[hd] at h11;have h12:m<2 ^ (64 - (7*c+7)):=Nat.lt_of_mul_lt_mul_left h11;have h13:2 ^ (7*c)*128*(m+1)<=2 ^ (7*c)*128*2 ^ (64 - (7*c+7)):=qb0 _ h12;rw[<-hd,qcZ,Nat.mul_one] at h13;rw[qby 128 (2 ^ (7*c))];omega
     rw[qcZ]; exact h8
   ·cases h
theorem jC {l:List UInt8} {n:Nat} {r:List UInt8} (h:jn 0 l=some (n,r)):l=num n++r/\n<18446744073709551616/\r.length<l.length:=by
 obtain ⟨h1,_,h2⟩:=AM l 0 n r h o3;refine⟨h1,o3,?_⟩;have:num n≠[]:=by
  rw[num]; split<;>simp
 have:=List.length_pos_iff.2 this;rw[h1,qar]; omega
theorem MC:∀ c:Fin 256,nQ .u8 (c.val:Int) 127=((c.val % 128:Nat):Int):=by decide +kernel
theorem W0 {b c:Nat} (hc:c<=9) (h:c=9->b<=1) (hb:b<128):rf .u64 (wr .u64 (b:Int)) (wr .i64 (7*(c:Int)))=((2 ^ (7*c)*b:Nat):Int):=by
 rw[dy o3 o3,wU _ o3];unfold rf;rw[show (7*(c:Int)).toNat=7*c by omega,show min (7*c) (IntKind.bits .u64)=7*c from qbP (by show 7*c<=64; omega)];have e:((b:Int)*2 ^ (7*c))=((2 ^ (7*c)*b:Nat):Int):=by rw[qcH,Int.natCast_pow,qeg]; rfl
 rw[e];have:=wU (2 ^ (7*c)*b) (by
  have h9:2 ^ (7*9)=9223372036854775808:=by decide
  by_cases h1:c=9
  ·have:=h h1; subst h1; rcases (show b=0∨b=1 by omega) with rfl | rfl<;>omega
  ·have h8:2 ^ (7*c)<=2 ^ 56:=qdm (by decide) o3;have:=qd4 h8 (show b<=127 by omega);omega)
 exact this
theorem P1 {a b c:Nat} (hc:c<=9) (h:c=9->b<=1) (hb:b<128) (ha:a<2 ^ (7*c)):a+2 ^ (7*c)*b<18446744073709551616:=by
 have h9:2 ^ (7*9)=9223372036854775808:=by decide
 by_cases h1:c=9
 ·have:=h h1; subst h1; rcases (show b=0∨b=1 by omega) with rfl | rfl<;>omega
 ·have h8:2 ^ (7*c)<=2 ^ 56:=qdm (by decide) o3;have:=qd4 h8 (show b<=127 by omega);omega
theorem Zw {a b c:Nat} (hc:c<=9) (h:c=9->b<=1) (hb:b<128) (ha:a<2 ^ (7*c)):oO .u64 (a:Int) ((2 ^ (7*c)*b:Nat):Int)=((a+2 ^ (7*c)*b:Nat):Int):=by
 have h1:=P1 hc h hb ha;unfold oO;show IntKind.wrap .u64 ((BitVec.ofInt 64 (a:Int) ||| BitVec.ofInt 64 ((2 ^ (7*c)*b:Nat):Int)).toNat:Int)=_;rw[BitVec.toNat_or,qb6,qb6];have e1:((a:Int) % ((2 ^ 64:Nat):Int)).toNat=a:=o3;have e2:(((2 ^ (7*c)*b:Nat):Int) % ((2 ^ 64:Nat):Int)).toNat=2 ^ (7*c)*b:=o3;rw[e1,e2,Nat.or_comm,<-Nat.two_pow_add_eq_or_of_lt ha,qdF];exact wU _ h1
theorem zw (G:Nat->Int->Int->List UInt8->Option ((List UInt8)⊕(Int×List UInt8))) (hG:∀ m v6 v7 v8,G (m+1) v6 v7 v8=bif (!(decide (1<=((v8.length:Int))))) then (some ((Sum.inl v8))) else (Option.bind (gv v8 0 1) λy13=>Option.bind (gv v8 1 ((v8.length:Int))) λy14=>Option.bind (bG y13 0) λy15=>Option.bind (bif (v7==0) then (some true) else (some (((y15.toNat:Int)) != 0))) λy17=>Option.bind (bif y17 then (Option.bind (bif (decide (v7<9)) then (some true) else (some (decide (((y15.toNat:Int))<=1)))) λy22=>some y22) else (some false)) λy25=>bif (!y25) then (some ((Sum.inl y14))) else (bif decide (0<=(wr .i64 (7*v7))) then (bif (decide (((y15.toNat:Int))<128)) then (some ((Sum.inr ((oO .u64 v6 (rf .u64 (wr .u64 (nQ .u8 ((y15.toNat:Int)) 127)) (wr .i64 (7*v7))),y14))))) else (G m (oO .u64 v6 (rf .u64 (wr .u64 (nQ .u8 ((y15.toNat:Int)) 127)) (wr .i64 (7*v7)))) (wr .i64 (v7+1)) y14)) else none))) :
  ∀ (l:List UInt8) (m a c:Nat),c<=9->10<=m+c->a<2 ^ (7*c)->match jn c l with
   | some (n,r)=>G m (a:Int) (c:Int) l=some (.inr (((a+2 ^ (7*c)*n:Nat):Int),r))
   | none=>∃ r,G m (a:Int) (c:Int) l=some (.inl r)
 | [],m,a,c,hc,hm,ha=>by
  obtain ⟨m,rfl⟩:∃ q,m=q+1:=⟨m - 1,o3⟩
  rw[jn,hG];exact⟨_,rfl⟩
 | b :: l,m,a,c,hc,hm,ha=>by
  obtain ⟨m,rfl⟩:∃ q,m=q+1:=⟨m - 1,o3⟩
  have hb:=b.toNat_lt;have hs1:gv (b :: l) 0 1=some [b]:=by
   unfold gv;rw[show decide ((1:Int)<=((b :: l).length:Int))=true from qac Z0];rfl
  have hs2:gv (b :: l) 1 ((b :: l).length:Int)=some l:=by
   unfold gv;rw[show decide ((1:Int)<=((b :: l).length:Int))=true from qac Z0,qac (qb9 _)];simp
  have hc1:(bif ((c:Int)==0) then (some true) else (some (((b.toNat:Int)) != 0)))=some (!decide (0<c/\b.toNat=0)):=by
   by_cases h:c=0
   ·subst h; simp
   ·rw[show ((c:Int)==0)=false by simp; omega];simp only[Z8]
    congr 1;rw[qbr];simp;omega
  have hc2:(bif (decide ((c:Int)<9)) then (some true) else (some (decide (((b.toNat:Int))<=1))))=some (!decide (9<=c/\1<b.toNat)):=by
   by_cases h:c<9
   ·rw[qac o3];simp only[qaa]
    congr 1;rw[qbr];simp;omega
   ·rw[qal o3];simp only[Z8]
    congr 1;rw[qbr];simp;omega
  have e127:nQ .u8 ((b.toNat:Int)) 127=((b.toNat % 128:Nat):Int):=MC ⟨b.toNat,hb⟩;rw[jn,hG,hs1,hs2,qac (show (1:Int)<=((b :: l).length:Int) by rw[qae]; omega)];simp only[qau,Z8,Z6,show bG [b] 0=some b from rfl,hc1,hc2]
  by_cases h:(0<c/\b.toNat=0)∨(9<=c/\1<b.toNat)
  ·rw[qaf h];refine⟨l,?_⟩;by_cases h5:0<c/\b.toNat=0
   ·rw[qac h5]; rfl
   ·rw[qal h5,qac (show 9<=c/\1<b.toNat by omega)]; rfl
  ·rw[qah h,qal (show ¬ (0<c/\b.toNat=0) by omega),qal (show ¬ (9<=c/\1<b.toNat) by omega)];have hb9:c=9->b.toNat % 128<=1:=λh9=>o3;rw[e127,W0 hc hb9 o3,Zw hc hb9 o3 ha,qac (show 0<=wr .i64 (7*(c:Int)) by rw[dy o3 o3]; omega)];simp only[qbN,qaa,Z6,qau,Z8]
   by_cases h8:b.toNat<128
   ·rw[qaf h8,qac o3,qcS h8];rfl
   ·rw[qah h8,qal o3,dy (n:=(c:Int)+1) o3 o3];have hlt:a+2 ^ (7*c)*(b.toNat % 128)<2 ^ (7*(c+1)):=by
     rw[pw];have:=qb0 (2 ^ (7*c)) (show b.toNat % 128<=127 by omega);omega
    have ih:=zw G hG l m (a+2 ^ (7*c)*(b.toNat % 128)) (c+1) o3 o3 hlt;rw[show ((c+1:Nat):Int)=(c:Int)+1 by omega] at ih;simp only[Z8]
    cases hg:jn (c+1) l with
    | none=>rw[hg] at ih; exact ih
    | some p=>
     obtain ⟨n,r⟩:=p;rw[hg] at ih;simp only at ih ⊢;rw[ih,pw];congr 4;rw[qcZ,show b.toNat % 128=b.toNat - 128 by omega,qcf,qby 128 (2 ^ (7*c)),qc9]
theorem Ee (bs:List UInt8) (hbs:bs.length<=1100000) (G:Nat->Int->Int->Int->Bool->Option ((Int×Int×Bool)⊕(Int×Bool))) (hG:∀ m v5 v6 v8,G (m+1) v5 v6 v8 false=(Option.bind (bif (decide (((bs.length:Int))<=v8)) then (some ((0,v8,true))) else (Option.bind (bG bs (wr .i64 ((wr .i64 (v8+1)) - 1))) λy=>some (((y.toNat:Int),wr .i64 (v8+1),false)))) λ(y348:Int×Int×Bool)=>Option.bind (bif (v6==9) then (some (decide (1<y348.1))) else (some false)) λy350=>Option.bind (bif y350 then (some true) else (Option.bind (bif (decide (0<v6)) then (some (y348.1==0)) else (some false)) λy355=>some y355)) λy358=>bif y358 then (some ((Sum.inl ((0,y348.2.1,true))))) else (bif decide (0<=(wr .i64 (7*v6))) then (bif (decide (y348.1<128)) then (some ((Sum.inl ((wr .u64 (v5+(rf .u64 (wr .u64 (Int.tmod y348.1 128)) (wr .i64 (7*v6)))),y348.2.1,y348.2.2))))) else (G m (wr .u64 (v5+(rf .u64 (wr .u64 (Int.tmod y348.1 128)) (wr .i64 (7*v6))))) (wr .i64 (v6+1)) y348.2.1 y348.2.2)) else none))) :
  ∀ (k i m a c:Nat),i+k=bs.length->c<=9->10<=m+c->a<2 ^ (7*c)->match jn c (bs.drop i) with
   | some (n,r)=>∃ j:Nat,G m (a:Int) (c:Int) (i:Int) false=some (.inl (((a+2 ^ (7*c)*n:Nat):Int),(j:Int),false))/\r=bs.drop j/\j<=bs.length
   | none=>∃ (x:Int) (j:Nat),G m (a:Int) (c:Int) (i:Int) false=some (.inl (x,(j:Int),true))/\j<=bs.length
 | 0,i,m,a,c,hi,hc,hm,ha=>by
  obtain ⟨m,rfl⟩:∃ q,m=q+1:=⟨m - 1,o3⟩
  rw[qaH.2 o3,jn,hG,qac o3];simp only[qaa,Z6]
  rw[show (bif ((c:Int)==9) then (some (decide ((1:Int)<0))) else (some false))=some false by cases (c:Int)==9<;>rfl,qac (show 0<=wr .i64 (7*(c:Int)) by rw[dy o3 o3]; omega)];by_cases h:(0:Int)<c
  ·rw[qac h]; exact⟨_,i,rfl,o3⟩
  ·rw[qal h]; exact⟨_,i,rfl,o3⟩
 | k+1,i,m,a,c,hi,hc,hm,ha=>by
  obtain ⟨m,rfl⟩:∃ q,m=q+1:=⟨m - 1,o3⟩
  have hil:i<bs.length:=o3;rw[qas hil];generalize hb':bs[i]=b;have hb:=b.toNat_lt;have hc1:(bif ((c:Int)==9) then (some (decide (1<((b.toNat:Int))))) else (some false))=some (decide (9<=c/\1<b.toNat)):=by
   by_cases h:c=9
   ·subst h; simp; omega
   ·rw[show ((c:Int)==9)=false by simp; omega];simp only[Z8]
    congr 1;rw[qbr];simp;omega
  have hc2:(bif (decide (0<(c:Int))) then (some (((b.toNat:Int))==0)) else (some false))=some (decide (0<c/\b.toNat=0)):=by
   by_cases h:0<c
   ·rw[qac o3];simp only[qaa]
    congr 1;rw[qbr];simp;omega
   ·rw[qal o3];simp only[Z8]
    congr 1;rw[qbr];simp;omega
  have e127:Int.tmod ((b.toNat:Int)) 128=((b.toNat % 128:Nat):Int):=rfl;rw[jn,hG,qal o3,dy (n:=(i:Int)+1) o3 o3,show (i:Int)+1 - 1=(i:Int) by omega,dy (n:=(i:Int)) o3 o3,bE,Z7 hil,hb'];simp only[Z8,Z6,hc1,hc2]
  by_cases h:(0<c/\b.toNat=0)∨(9<=c/\1<b.toNat)
  ·rw[qaf h];refine⟨0,i+1,?_,o3⟩;by_cases h5:9<=c/\1<b.toNat
   ·rw[qac h5]; rfl
   ·rw[qal h5,qac (show 0<c/\b.toNat=0 by omega)]; rfl
  ·rw[qah h,qal (show ¬ (0<c/\b.toNat=0) by omega),qal (show ¬ (9<=c/\1<b.toNat) by omega)];have hb9:c=9->b.toNat % 128<=1:=λh9=>o3;have h64:=P1 hc hb9 (show b.toNat % 128<128 by omega) ha;rw[e127,W0 hc hb9 o3,show (a:Int)+((2 ^ (7*c)*(b.toNat % 128):Nat):Int)=((a+2 ^ (7*c)*(b.toNat % 128):Nat):Int) from (Int.natCast_add _ _).symm,wU _ h64,qac (show 0<=wr .i64 (7*(c:Int)) by rw[dy o3 o3]; omega)];simp only[qbN,qaa,Z6,qau,Z8]
   by_cases h8:b.toNat<128
   ·rw[qaf h8,qac o3,qcS h8];exact⟨i+1,rfl,rfl,o3⟩
   ·rw[qah h8,qal o3,dy (n:=(c:Int)+1) o3 o3];have hlt:a+2 ^ (7*c)*(b.toNat % 128)<2 ^ (7*(c+1)):=by
     rw[pw];have:=qb0 (2 ^ (7*c)) (show b.toNat % 128<=127 by omega);omega
    have ih:=Ee bs hbs G hG k (i+1) m (a+2 ^ (7*c)*(b.toNat % 128)) (c+1) o3 o3 o3 hlt;rw[show ((c+1:Nat):Int)=(c:Int)+1 by omega,show ((i+1:Nat):Int)=(i:Int)+1 by omega] at ih;simp only[Z8]
    cases hg:jn (c+1) (bs.drop (i+1)) with
    | none=>rw[hg] at ih; exact ih
    | some p=>
     obtain ⟨n,r⟩:=p;rw[hg] at ih;simp only at ih ⊢;obtain ⟨j,ih,h10,h11⟩:=ih;refine⟨j,?_,h10,h11⟩;rw[ih,pw];congr 4;rw[qcZ,show b.toNat % 128=b.toNat - 128 by omega,qcf,qby 128 (2 ^ (7*c)),qc9]
theorem El (a b:ByteArray):kR a b=decide (a=b):=by
 rw[qbr];unfold kR;rw[qee,qee];cases a; cases b;simp
theorem K1 (a b:List UInt8):kR (iv a) (iv b)=decide (a=b):=by
 rw[El,qbr];simp[iv]
theorem MG (s:ByteArray):iv (ky s)=s:=by cases s; simp[iv,ky]
theorem Dp (l:List UInt8):ky (iv l)=l:=by simp[iv,ky]
theorem EF (l:List UInt8):(iv l).size=l.length:=by rw[<-gY,Dp]
theorem yA {s:ByteArray}:emp s=true↔s=ByteArray.empty:=by
 unfold emp;rw[El,qbU];rfl
def sg (u:Nat):Int:=if u % 2=1 then -((u / 2:Nat):Int) - 1 else ((u / 2:Nat):Int)
theorem NO (n:Int):sg (wA n)=n:=by unfold sg wA; split<;>split<;>omega
theorem I5 (u:Nat):wA (sg u)=u:=by unfold sg; split<;>(unfold wA; split<;>omega)
theorem QU {u:Nat} (h:u<18446744073709551616):ee (sg u):=by unfold sg ee; split<;>omega
theorem Q0 (z:Int):wr .i64 z=if 9223372036854775808<=z % 18446744073709551616 then z % 18446744073709551616 - 18446744073709551616 else z % 18446744073709551616:=by
 simp only[wr,IntKind.wrap,IntKind.bits,IntKind.signed]
 simp
theorem Tk (z:Int) (h:-9223372036854775808<=z) (h':z<=9223372036854775807):wr .i64 ((BitVec.ofInt 64 z).toNat:Int)=z:=by
 rw[Q0,qb6];split<;>omega
theorem Da (a:Int) (h:0<=a) (h':a<=9223372036854775807):tQ .i64 a 0=a:=by
 unfold tQ;show wr .i64 ((BitVec.ofInt 64 a ^^^ BitVec.ofInt 64 0).toNat:Int)=a;rw[show BitVec.ofInt 64 0=0#64 from rfl,BitVec.xor_zero];exact Tk a o3 h'
theorem CZ (a:Int) (h:0<=a) (h':a<=9223372036854775807):tQ .i64 a (-1)=-a - 1:=by
 unfold tQ;show wr .i64 ((BitVec.ofInt 64 a ^^^ BitVec.ofInt 64 (-1)).toNat:Int)=_;rw[show BitVec.ofInt 64 (-1)=BitVec.allOnes 64 from rfl,BitVec.xor_allOnes,BitVec.toNat_not,Q0,qb6];split<;>omega
theorem Tg (u:Nat) (h:u<18446744073709551616):nQ .u64 (u:Int) 1=((u % 2:Nat):Int):=by
 unfold nQ;show wr .u64 ((BitVec.ofInt 64 (u:Int) &&& BitVec.ofInt 64 1).toNat:Int)=_;rw[BitVec.toNat_and,qb6,show (BitVec.ofInt 64 1).toNat=1 from rfl,Nat.and_one_is_mod,show ((u:Int) % ((2 ^ 64:Nat):Int)).toNat=u by omega,wU _ o3]
theorem Zm (u:Nat) (h:u<18446744073709551616):FB (u:Int)=some (sg u):=by
 unfold FB Jf;have e1:jJ .u64 (u:Int) 1=((u / 2:Nat):Int):=by
  unfold jJ;show Int.fdiv (u:Int) (2 ^ 1)=_;rw[qct _ (by decide)];rfl
 rw[e1,Tg u h,dy (n:=((u / 2:Nat):Int)) o3 o3,dy (n:=((u % 2:Nat):Int)) o3 o3,dy o3 o3];congr 1;unfold sg;by_cases h2:u % 2=1
 ·rw[qaf h2,h2,show (0:Int) - ((1:Nat):Int)=-1 from rfl,CZ _ o3 o3]
 ·rw[qah h2,show u % 2=0 by omega,show (0:Int) - ((0:Nat):Int)=0 from rfl,Da _ o3 o3]
def iC (f:List UInt8->Option (aw×List UInt8)):Nat->List UInt8->Option (List aw×List UInt8)
 | 0,l=>some ([],l)
 | n+1,l=>match f l with
  | none=>none
  | some (v,r)=>match iC f n r with
   | none=>none
   | some (vs,t)=>some (v :: vs,t)
def sM (b:UInt8) (l:List UInt8) (h:Nat->List UInt8->Option (List aw×List UInt8)):Option (aw×List UInt8):=
 if b.toNat=1 then (match jn 0 l with
  | none=>none
  | some (n,r)=>some (.mk 1 (sg n) ByteArray.empty [],r))
 else if b.toNat=2 then (match jn 0 l with
  | none=>none
  | some (n,r)=>if n<=r.length then some (.mk 2 0 (iv (r.take n)) [],r.drop n) else none)
 else if b.toNat=3 then (match jn 0 l with
  | none=>none
  | some (n,r)=>if n<=r.length then (match h n r with
   | none=>none
   | some (vs,t)=>some (.mk 3 0 ByteArray.empty vs,t)) else none)
 else none
def gN:Nat->List UInt8->Option (aw×List UInt8)
 | _,[]=>none
 | 0,b :: l=>sM b l λ_ _=>none
 | k+1,b :: l=>sM b l (iC (gN k))
def Got (k:Nat) (l:List UInt8) (v:aw) (r:List UInt8):Prop:=l=iE v++r/\ue v=true/\dep v<=k/\b7 v/\oJ v<=(iE v).length
theorem xq {f:List UInt8->Option (aw×List UInt8)} {k:Nat} (hf:∀ l v r,l.length<=1100000->f l=some (v,r)->Got k l v r):∀ (n:Nat) (l:List UInt8) (vs:List aw) (r:List UInt8),l.length<=1100000->iC f n l=some (vs,r) ->
  l=kZ vs++r/\mP vs=true/\oN vs<=k/\(∀ e∈vs,b7 e)/\nD vs<=(kZ vs).length/\vs.length=n
 | 0,l,vs,r,_,h=>by
  rw[iC] at h; cases h;refine⟨?_,rO,by rw[pb]; omega,λ_ h=>absurd h (qb3),by rw[nE]; omega,rfl⟩;rw[nv]; rfl
 | n+1,l,vs,r,hl,h=>by
  rw[iC] at h;split at h
  ·cases h
  rename_i v t hv;split at h
  ·cases h
  rename_i ws u hw;cases h;obtain ⟨h1,h2,h3,h4,h5⟩:=hf l v t hl hv;rw[h1,qar] at hl;obtain ⟨g1,g2,g3,g4,g5,g6⟩:=xq hf n t ws r o3 hw;refine⟨?_,?_,?_,?_,?_,?_⟩
  ·rw[h1,g1,fR,qaV]
  ·rw[nw,h2,g2]; rfl
  ·rw[lu]; omega
  ·intro e he;rcases qaD.1 he with rfl | he
   ·exact h4
   ·exact g4 e he
  ·rw[lz,fR,qar]; omega
  ·rw[qae,g6]
theorem VH {b:UInt8} {n:Nat} (h:b.toNat=n):b=UInt8.ofNat n:=by rw[<-h,qdB]
theorem AL {h:Nat->List UInt8->Option (List aw×List UInt8)} {k:Nat} {b:UInt8} {l:List UInt8} {v:aw} {r:List UInt8} (hl:l.length<=1100000)
  (hh:∀ n t vs u,t.length<=1100000->h n t=some (vs,u)->t=kZ vs++u/\mP vs=true/\oN vs+1<=k/\(∀ e∈vs,b7 e)/\nD vs<=(kZ vs).length/\vs.length=n)
  (e:sM b l h=some (v,r)):Got k (b :: l) v r:=by
 have okm:mh=9223372036854775807:=rfl;unfold sM at e;split at e
 ·rename_i h1;split at e
  ·cases e
  rename_i n t hn;obtain ⟨h2,h3,_⟩:=jC hn;cases e;refine⟨?_,?_,?_,?_,?_⟩
  ·rw[VH h1,h2,eA];simp only[show ((1:Int)==1)=true from rfl,qaa,I5]
   rfl
  ·rw[n5];simp only[show ((1:Int)==1)=true from rfl,qaa,yA.2]
   rfl
  ·rw[pa];simp only[show ((1:Int)==3)=false from rfl,Z8]
   omega
  ·exact(dZ _).2 ⟨⟨r8,r8⟩,QU h3,r8,r8,λ_ h=>absurd h qb3⟩
  ·rw[fy,eA];simp only[show ((1:Int)==1)=true from rfl,qaa,I5,nE,qae]
   have:(ByteArray.empty:ByteArray).size=0:=rfl;omega
 split at e
 ·rename_i h1;split at e
  ·cases e
  rename_i n t hn;obtain ⟨h2,h3,h4⟩:=jC hn;split at e
  ·rename_i h5;cases e;have hs:(iv (t.take n)).size=n:=by rw[EF,qba]; omega
   refine⟨?_,?_,?_,?_,?_⟩
   ·rw[VH h1,h2,eA];simp only[show ((2:Int)==1)=false from rfl,show ((2:Int)==2)=true from rfl,qaa,Z8,hs,Dp]
    rw[qaS,qaV,qbQ];rfl
   ·rw[n5];rfl
   ·rw[pa];simp only[show ((2:Int)==3)=false from rfl,Z8]
    omega
   ·refine(dZ _).2 ⟨⟨r8,r8⟩,⟨r8,r8⟩,?_,r8,λ_ h=>absurd h qb3⟩;show (iv (t.take n)).size<=mh;rw[hs]; omega
   ·rw[fy,eA];simp only[show ((2:Int)==1)=false from rfl,show ((2:Int)==2)=true from rfl,qaa,Z8,nE,qae,qar,gY,hs]
    omega
  ·cases e
 split at e
 ·rename_i h1;split at e
  ·cases e
  rename_i n t hn;obtain ⟨h2,h3,h4⟩:=jC hn;split at e
  ·rename_i h5;split at e
   ·cases e
   rename_i vs u hv;cases e;obtain ⟨g1,g2,g3,g4,g5,g6⟩:=hh n t vs r o3 hv;refine⟨?_,?_,?_,?_,?_⟩
   ·rw[VH h1,h2,eA,g1];simp only[show ((3:Int)==1)=false from rfl,show ((3:Int)==2)=false from rfl,Z8,g6]
    rw[qaS,qaV];rfl
   ·rw[n5];simp only[show ((3:Int)==1)=false from rfl,show ((3:Int)==2)=false from rfl,show ((3:Int)==3)=true from rfl,qaa,Z8,g2,yA.2]
    rfl
   ·rw[pa];simp only[show ((3:Int)==3)=true from rfl,qaa]
    omega
   ·refine(dZ _).2 ⟨⟨r8,r8⟩,⟨r8,r8⟩,r8,?_,g4⟩;show vs.length<=mh;omega
   ·rw[fy,eA];simp only[show ((3:Int)==1)=false from rfl,show ((3:Int)==2)=false from rfl,Z8,qae,qar]
    have:(ByteArray.empty:ByteArray).size=0:=rfl;omega
  ·cases e
 ·cases e
theorem vq:∀ (k:Nat) (l:List UInt8) (v:aw) (r:List UInt8),l.length<=1100000->gN k l=some (v,r)->Got k l v r
 | 0,[],v,r,_,h=>by rw[gN] at h; cases h
 | k+1,[],v,r,_,h=>by rw[gN] at h; cases h
 | 0,b :: l,v,r,hl,h=>by
  rw[gN] at h;rw[qae] at hl;exact AL o3 (λ_ _ _ _ _ h=>by cases h) h
 | k+1,b :: l,v,r,hl,h=>by
  rw[gN] at h;rw[qae] at hl;refine AL o3 (λn t vs u ht hv=>?_) h;obtain ⟨g1,g2,g3,g4,g5,g6⟩:=xq (λl v r hl h=>vq k l v r hl h) n t vs u ht hv;exact⟨g1,g2,o3,g4,g5,g6⟩
theorem JC (v:aw):1<=(iE v).length:=by
 rw[eA];cases v.Kind==1 with
 | true=>simp
 | false=>cases v.Kind==2<;>simp
theorem Dz:∀ l:List aw,l.length<=(kZ l).length
 | []=>r8
 | x :: r=>by rw[fR,qar,qae]; have:=JC x; have:=Dz r; omega
theorem xp {f:List UInt8->Option (aw×List UInt8)}:∀ (vs:List aw) (t:List UInt8),(∀ e∈vs,∀ t,f (iE e++t)=some (e,t))->iC f vs.length (kZ vs++t)=some (vs,t)
 | [],t,_=>by rw[nv]; rfl
 | x :: r,t,h=>by
  rw[qae,iC,fR,qaV,h x (qbq ..)];simp only
  rw[xp r t λe he=>h e (qbp _ he)]
theorem Aj:∀ {l:List aw} {x:aw},x∈l->dep x<=oN l
 | y :: r,x,h=>by
  rw[lu];rcases qaD.1 h with rfl | h
  ·omega
  ·have:=Aj h; omega
theorem AO:∀ (k:Nat) (v:aw) (t:List UInt8),ue v=true->dep v<=k->b7 v->gN k (iE v++t)=some (v,t)
 | k,v,t,hf,hd,hv=>by
  obtain ⟨_,h2,h3,h4,h5⟩:=(dZ v).1 hv;unfold mh at h3 h4;obtain ⟨K,N,S,L⟩:=v;simp only at h2 h3 h4 h5;have hf':=hf;rw[n5] at hf';simp only at hf';rw[eA];rcases pq hf with hk | hk | ⟨hk,hfs⟩
  ·simp only at hk;subst hk;simp only[show ((1:Int)==1)=true from rfl,qaa,Z9,yA] at hf' ⊢;have e:gN k ((1:UInt8) :: num (wA N)++t)=sM 1 (num (wA N)++t) (match k with | 0=>λ_ _=>none | k+1=>iC (gN k)):=by
    rw[qaS];cases k<;>rw[gN]
   rw[e];unfold sM;rw[qaf (by decide),vp (pR h2)];simp only[NO]
   obtain ⟨rfl,h6⟩:=hf';have:L=[]:=by
    cases L with
    | nil=>rfl
    | cons a r=>simp at h6; omega
   rw[this]
  ·simp only at hk;subst hk;simp only[show ((2:Int)==1)=false from rfl,show ((2:Int)==2)=true from rfl,qaa,Z8,Z9] at hf' ⊢;have e:gN k ((2:UInt8) :: (num S.size++ky S)++t)=sM 2 (num S.size++(ky S++t)) (match k with | 0=>λ_ _=>none | k+1=>iC (gN k)):=by
    rw[qaS,qaV];cases k<;>rw[gN]
   rw[e];unfold sM;rw[qah (by decide),qaf (by decide),vp o3];simp only
   have hsz:=gY S;rw[qaf ZO,<-hsz,qd3,List.drop_left,MG];obtain ⟨h7,h6⟩:=hf';have:L=[]:=by
    cases L with
    | nil=>rfl
    | cons a r=>simp at h6; omega
   have h8:N=0:=by simpa using h7
   rw[this,h8]
  ·simp only at hk hfs;subst hk;simp only[show ((3:Int)==1)=false from rfl,show ((3:Int)==2)=false from rfl,show ((3:Int)==3)=true from rfl,qaa,Z8,Z9,yA] at hf' ⊢;rw[pa] at hd;simp only[show ((3:Int)==3)=true from rfl,qaa] at hd;obtain ⟨k,rfl⟩:∃ q,k=q+1:=⟨k - 1,o3⟩
   rw[qaS,qaV,gN];unfold sM;have hlen:=Dz L;rw[qah (by decide),qah (by decide),qaf (by decide),vp o3];simp only
   rw[qaf ZO,xp L t λe he t=>AO k e t (nx hfs e he) (by have:=Aj he; omega) (h5 e he)];simp only
   obtain ⟨h7,h6,rfl⟩:=hf';have h8:N=0:=by simpa using h6
   rw[h8]
theorem GJ (l:List aw) (x:aw) (h:l.length<=1100000):cU 56 l [x]=some (l++[x]):=fA _ _ _ ZQ
theorem Hh {k:Nat} {l:List UInt8} {v:aw} {r:List UInt8} (hl:l.length<=1100000) (h:gN k l=some (v,r)):r.length<=l.length:=by
 have:=(vq k l v r hl h).1;rw[this,qar]; omega
theorem HK (f:List UInt8->Option (aw×List UInt8)) (self:(List UInt8)->Int->Option (Bool×aw×(List UInt8))) (N d n:Nat) (z0 z1:Int) (z2:ByteArray) (hd:d<=16) (hn:n<=1100000)
  (hf:∀ l:List UInt8,l.length<=1100000->match f l with
   | some (v,r)=>self l ((d:Int)+1)=some (true,v,r)/\r.length<=l.length
   | none=>∃ v r,self l ((d:Int)+1)=some (false,v,r)) :
  ∀ (k m i:Nat) (l:List UInt8) (acc:List aw),i+k=n->k<m->l.length<=1100000->acc.length<=i->match iC f k l with
   | some (vs,r)=>jf self N (d:Int) (n:Int) z0 z1 z2 m (i:Int) l acc=some (.inr (r,acc++vs))
   | none=>∃ x,jf self N (d:Int) (n:Int) z0 z1 z2 m (i:Int) l acc=some (.inl x)
 | 0,m,i,l,acc,h1,h2,h3,h4=>by
  obtain ⟨m,rfl⟩:∃ q,m=q+1:=⟨m - 1,o3⟩
  rw[iC,jf,qal o3];simp
 | k+1,m,i,l,acc,h1,h2,h3,h4=>by
  obtain ⟨m,rfl⟩:∃ q,m=q+1:=⟨m - 1,o3⟩
  have hl:=hf l h3;rw[iC,jf,qac o3,dy (n:=(d:Int)+1) o3 o3,dy (n:=(i:Int)+1) o3 o3];simp only[qaa]
  cases hv:f l with
  | none=>
   rw[hv] at hl;obtain ⟨v,r,hl⟩:=hl;simp only
   rw[hl];exact⟨_,rfl⟩
  | some p=>
   obtain ⟨v,r⟩:=p;rw[hv] at hl;simp only at hl ⊢;rw[hl.1];simp only[Z6,qaa]
   rw[GJ _ _ o3,Z6,show (i:Int)+1=((i+1:Nat):Int) by omega];have ih:=HK f self N d n z0 z1 z2 hd hn hf k m (i+1) r (acc++[v]) o3 o3 o3 r9;cases hr:iC f k r with
   | none=>rw[hr] at ih; exact ih
   | some p=>
    obtain ⟨vs,t⟩:=p;rw[hr] at ih;simp only at ih ⊢;rw[ih]; simp
theorem b1 {b:UInt8} (n:Nat) (h:n<256):(wr .i64 ((b.toNat:Int))==(n:Int))=decide (b.toNat=n):=by
 have:=b.toNat_lt;rw[dy o3 o3,qbr];simp;omega
theorem W5:∀ (k N d:Nat) (l:List UInt8),d+k=16->2000000+k<=N->l.length<=1100000->match gN k l with
  | some (v,r)=>Fw N l (d:Int)=some (true,v,r)
  | none=>∃ v r,Fw N l (d:Int)=some (false,v,r)
 | k,N,d,[],hd,hN,hl=>by
  obtain ⟨N,rfl⟩:∃ q,N=q+1:=⟨N - 1,o3⟩
  have:gN k []=none:=by cases k<;>rw[gN]
  rw[this];show ∃ v r,(bif Nat.ble 8 N then zE (Fw N) (N - 8) [] d else none)=_;rw[qbe (by omega:8<=N)];exact⟨_,_,rfl⟩
 | k,N,d,b :: l,hd,hN,hl=>by
  obtain ⟨N,rfl⟩:∃ q,N=q+1:=⟨N - 1,o3⟩
  rw[qae] at hl;have hb:=b.toNat_lt;have hs1:gv (b :: l) 0 1=some [b]:=by
   unfold gv;rw[show decide ((1:Int)<=((b :: l).length:Int))=true from qac Z0];rfl
  have hs2:gv (b :: l) 1 ((b :: l).length:Int)=some l:=by
   unfold gv;rw[show decide ((1:Int)<=((b :: l).length:Int))=true from qac Z0,qac (qb9 _)];simp
  have eW:Fw (N+1) (b :: l) (d:Int)=zE (Fw N) (N - 8) (b :: l) (d:Int):=by
   show (bif Nat.ble 8 N then zE (Fw N) (N - 8) (b :: l) d else none)=_;rw[qbe (by omega:8<=N)]; rfl
  have eg:gN k (b :: l)=sM b l (match k with | 0=>λ_ _=>none | k+1=>iC (gN k)):=by cases k<;>rw[gN]
  rw[eW,eg];unfold zE;rw[hs1,hs2,qac (show (1:Int)<=((b :: l).length:Int) by rw[qae]; omega)];simp only[qau,Z8,Z6,show bG [b] 0=some b from rfl]
  rw[show (wr .i64 ((b.toNat:Int))==1)=decide (b.toNat=1) from b1 1 o3,show (wr .i64 ((b.toNat:Int))==2)=decide (b.toNat=2) from b1 2 o3,show (wr .i64 ((b.toNat:Int))==3)=decide (b.toNat=3) from b1 3 o3,dy (n:=(b.toNat:Int)) o3 o3];unfold sM;by_cases h1:b.toNat=1
  ·rw[qaf h1,qac h1];have hr:=zw (fE (N - 8+1)) (λ_ _ _ _=>rfl) l (N - 8+7) 0 0 o3 o3 (by decide);simp only[qaa]
   cases hg:jn 0 l with
   | none=>
    rw[hg] at hr;obtain ⟨r,hr⟩:=hr;refine⟨default,r,?_⟩;exact(qa7 (λx=>Option.bind x _) hr).trans rfl
   | some p=>
    obtain ⟨n,r⟩:=p;rw[hg] at hr;obtain ⟨_,hn,_⟩:=jC hg;simp only at hr ⊢;refine(qa7 (λx=>Option.bind x _) hr).trans ?_;rw[show (0+2 ^ (7*0)*n:Nat)=n by omega];simp only[Z6,Zm n hn]
    rw[h1]; rfl
  rw[qah h1,qal h1];simp only[Z8]
  by_cases h2:b.toNat=2
  ·rw[qaf h2,qac h2];have hr:=zw (fE (N - 8)) (λ_ _ _ _=>rfl) l (N - 8+6) 0 0 o3 o3 (by decide);simp only[qaa]
   cases hg:jn 0 l with
   | none=>
    rw[hg] at hr;obtain ⟨r,hr⟩:=hr;refine⟨default,r,?_⟩;exact(qa7 (λx=>Option.bind x _) hr).trans rfl
   | some p=>
    obtain ⟨n,r⟩:=p;rw[hg] at hr;obtain ⟨_,hn,hrl⟩:=jC hg;simp only at hr ⊢;by_cases hnr:n<=r.length
    ·rw[qaf hnr];refine(qa7 (λx=>Option.bind x _) hr).trans ?_;rw[show (0+2 ^ (7*0)*n:Nat)=n by omega];simp only[Z6]
     rw[wU _ (show r.length<18446744073709551616 by omega),dy (n:=(n:Int)) o3 o3,qac (show (n:Int)<=(r.length:Int) by omega)];simp only[qau,Z8]
     unfold gv;rw[qac (show (n:Int)<=(r.length:Int) by omega),qac (show (0:Int)<=(n:Int) by omega),qac (qb9 _)];simp[h2];exact qaK r8
    ·rw[qah hnr];refine⟨default,r,?_⟩;refine(qa7 (λx=>Option.bind x _) hr).trans ?_;rw[show (0+2 ^ (7*0)*n:Nat)=n by omega];simp only[Z6]
     rw[wU _ (show r.length<18446744073709551616 by omega),qal (show ¬ (n:Int)<=(r.length:Int) by omega)];rfl
  rw[qah h2,qal h2];simp only[Z8]
  by_cases h3:b.toNat=3
  ·rw[qaf h3,qac h3];simp only[qaa]
   cases k with
   | zero=>
    rw[qal (show ¬ ((d:Int)<16) by omega)];have:∃ v r,(bif !false then some (false,(default:aw),l) else none)=some (false,v,r):=⟨_,_,rfl⟩
    cases hg:jn 0 l with
    | none=>exact⟨_,_,rfl⟩
    | some p=>
     obtain ⟨n,r⟩:=p;simp only
     split<;>rename_i hx
     ·split at hx<;>cases hx
     ·exact⟨_,_,rfl⟩
   | succ k=>
    rw[qac (show ((d:Int)<16) by omega)];have hr:=zw (fE (N - 8)) (λ_ _ _ _=>rfl) l (N - 8+6) 0 0 o3 o3 (by decide);simp only[qau,Z8]
    cases hg:jn 0 l with
    | none=>
     rw[hg] at hr;obtain ⟨r,hr⟩:=hr;refine⟨default,r,?_⟩;exact(qa7 (λx=>Option.bind x _) hr).trans rfl
    | some p=>
     obtain ⟨n,r⟩:=p;rw[hg] at hr;obtain ⟨_,hn,hrl⟩:=jC hg;simp only at hr ⊢;by_cases hnr:n<=r.length
     ·rw[qaf hnr];have hL:=HK (gN k) (Fw N) (N - 8) d n (b.toNat:Int) 0 ByteArray.empty o3 o3 (λl hl=>by
       have:=W5 k N (d+1) l o3 o3 hl;cases hgv:gN k l with
       | none=>rw[hgv] at this; exact this
       | some p=>
        obtain ⟨v,r⟩:=p;rw[hgv] at this;exact⟨this,Hh hl hgv⟩) n (N - 8+8) 0 r [] o3 o3 o3 r8
      cases hls:iC (gN k) n r with
      | none=>
       rw[hls] at hL;obtain ⟨x,hL⟩:=hL;refine⟨default,x,?_⟩;refine(qa7 (λx=>Option.bind x _) hr).trans ?_;rw[show (0+2 ^ (7*0)*n:Nat)=n by omega];simp only[Z6]
       rw[wU _ (show r.length<18446744073709551616 by omega),dy (n:=(n:Int)) o3 o3,qac (show (n:Int)<=(r.length:Int) by omega)];simp only[qau,Z8]
       exact(qa7 (λx=>Option.bind x _) hL).trans rfl
      | some p=>
       obtain ⟨vs,t⟩:=p;rw[hls] at hL;simp only at hL ⊢;refine(qa7 (λx=>Option.bind x _) hr).trans ?_;rw[show (0+2 ^ (7*0)*n:Nat)=n by omega];simp only[Z6]
       rw[wU _ (show r.length<18446744073709551616 by omega),dy (n:=(n:Int)) o3 o3,qac (show (n:Int)<=(r.length:Int) by omega)];simp only[qau,Z8]
       refine(qa7 (λx=>Option.bind x _) hL).trans ?_;rw[h3]; rfl
     ·rw[qah hnr];refine⟨default,r,?_⟩;refine(qa7 (λx=>Option.bind x _) hr).trans ?_;rw[show (0+2 ^ (7*0)*n:Nat)=n by omega];simp only[Z6]
      rw[wU _ (show r.length<18446744073709551616 by omega),qal (show ¬ (n:Int)<=(r.length:Int) by omega)];rfl
  ·rw[qah h3,qal h3];exact⟨_,_,rfl⟩
def kC (bs:List UInt8):aw×Int:=match gN 16 bs with
 | some (v,[])=>(v,0)
 | _=>(.mk 0 0 ByteArray.empty [],10)
theorem Zj (bs:List UInt8) (h:bs.length<=1100000):OC bs=some (kC bs):=by
 unfold OC Rx;have hw:=W5 16 (aD+8) 0 bs o3 u3 h;rw[show ((0:Nat):Int)=0 from rfl] at hw;unfold kC;cases hg:gN 16 bs with
 | none=>
  rw[hg] at hw;obtain ⟨v,r,hw⟩:=hw;rw[hw]; rfl
 | some p=>
  obtain ⟨v,r⟩:=p;rw[hg] at hw;simp only at hw;rw[hw];cases r with
  | nil=>rfl
  | cons a r=>
   have:(((a :: r).length:Int)==0)=false:=r9;simp only[Z6,qaa]
   rw[this]; rfl
theorem Ds {bs:List UInt8} {v:aw} (h:bs.length<=1100000) (e:kC bs=(v,0)):bs=iE v/\jT v=0/\b7 v/\oJ v<=1100000:=by
 unfold kC at e;split at e
 ·rename_i u hg;cases e;obtain ⟨h1,h2,h3,h4,h5⟩:=vq 16 bs v [] h hg;rw[qaW] at h1;refine⟨h1,?_,h4,?_⟩
  ·unfold jT;rw[h2];simp only[qaa]
   rw[qal o3]; rfl
  ·rw[h1] at h; omega
 ·cases e
theorem GU {v:aw} (hc:jT v=0) (hv:b7 v):kC (iE v)=(v,0):=by
 have hf:=Dq hc;have hd:dep v<=16:=by
  unfold jT at hc;rw[hf] at hc;simp only[qaa] at hc;rcases qdj 16 (dep v) with h | h
  ·rw[qac h] at hc; cases hc
  ·exact h
 unfold kC;have:=AO 16 v [] hf hd hv;rw[qaW] at this;rw[this]
theorem Cb (bs:List UInt8):(∃ v,kC bs=(v,0))∨kC bs=(.mk 0 0 ByteArray.empty [],10):=by
 unfold kC;split
 ·exact .inl ⟨_,rfl⟩
 ·exact .inr rfl
theorem HL (bs:List UInt8) (f:List UInt8->Option (aw×List UInt8)) (self:(List UInt8)->Int->Bool->Int->Option (aw×Int×Bool)) (N d n:Nat) (z4 z5:Int) (z6:ByteArray) (hd:d<=16) (hn:n<=1100000)
  (hf:∀ i:Nat,i<=bs.length->match f (bs.drop i) with
   | some (v,r)=>∃ j:Nat,self bs (i:Int) false ((d:Int)+1)=some (v,(j:Int),false)/\r=bs.drop j/\j<=bs.length
   | none=>∃ (v:aw) (j:Nat),self bs (i:Int) false ((d:Int)+1)=some (v,(j:Int),true)/\j<=bs.length) :
  ∀ (k m i j:Nat) (acc:List aw),i+k=n->k<m->j<=bs.length->acc.length<=i->match iC f k (bs.drop j) with
   | some (vs,r)=>∃ j':Nat,ir self N (d:Int) (n:Int) bs z4 z5 z6 m (i:Int) (j:Int) false acc=some ((j':Int),false,acc++vs)/\r=bs.drop j'/\j'<=bs.length
   | none=>∃ (j':Nat) (l:List aw),ir self N (d:Int) (n:Int) bs z4 z5 z6 m (i:Int) (j:Int) false acc=some ((j':Int),true,l)/\j'<=bs.length
 | 0,m,i,j,acc,h1,h2,h3,h4=>by
  obtain ⟨m,rfl⟩:∃ q,m=q+1:=⟨m - 1,o3⟩
  rw[iC,ir,qal o3];exact⟨j,by rw[qaW]; rfl,rfl,h3⟩
 | k+1,m,i,j,acc,h1,h2,h3,h4=>by
  obtain ⟨m,rfl⟩:∃ q,m=q+1:=⟨m - 1,o3⟩
  have hl:=hf j h3;rw[iC,ir,qac o3,dy (n:=(d:Int)+1) o3 o3,show (i:Int)+1=((i+1:Nat):Int) by omega,wU _ o3];simp only[qaa,qbN,Z6]
  cases hv:f (bs.drop j) with
  | none=>
   rw[hv] at hl;obtain ⟨v,j',hl,hj⟩:=hl;simp only
   rw[hl];simp only[Z6]
   rw[GJ _ _ o3,Z6];obtain ⟨m,rfl⟩:∃ q,m=q+1:=⟨m - 1,o3⟩
   refine⟨j',acc++[v],?_,hj⟩;rw[ir];cases decide (((i+1:Nat):Int)<(n:Int))<;>rfl
  | some p=>
   obtain ⟨v,r⟩:=p;rw[hv] at hl;obtain ⟨j',hl,hr,hj⟩:=hl;simp only
   rw[hl];simp only[Z6]
   rw[GJ _ _ o3,Z6,hr];have ih:=HL bs f self N d n z4 z5 z6 hd hn hf k m (i+1) j' (acc++[v]) o3 o3 hj r9;cases hg:iC f k (bs.drop j') with
   | none=>rw[hg] at ih; exact ih
   | some p=>
    obtain ⟨vs,t⟩:=p;rw[hg] at ih;simp only at ih ⊢;obtain ⟨j2,ih,h5,h6⟩:=ih;exact⟨j2,by rw[ih]; simp,h5,h6⟩
theorem ZH (n:Nat) (h:n<18446744073709551616) (j:Int) (b:Bool):(bif ((Int.tmod (n:Int) 2)==1) then (some (((aw.mk 1 (wr .i64 ((wr .i64 (0 - (wr .i64 (wr .u64 (Int.tdiv (n:Int) 2))))) - 1)) ByteArray.empty ([])),j,b))) else (some (((aw.mk 1 (wr .i64 (wr .u64 (Int.tdiv (n:Int) 2))) ByteArray.empty ([])),j,b))))=some (aw.mk 1 (sg n) ByteArray.empty [],j,b):=by
 have e1:Int.tmod (n:Int) 2=((n % 2:Nat):Int):=rfl;have e2:Int.tdiv (n:Int) 2=((n / 2:Nat):Int):=rfl;rw[e1,e2,wU _ o3,dy (n:=((n / 2:Nat):Int)) o3 o3,dy (n:=0 - ((n / 2:Nat):Int)) o3 o3,dy (n:=0 - ((n / 2:Nat):Int) - 1) o3 o3];unfold sg;by_cases h2:n % 2=1
 ·rw[qaf h2,h2,show (0:Int) - ((n / 2:Nat):Int)=-((n / 2:Nat):Int) by omega]; rfl
 ·rw[qah h2,show n % 2=0 by omega]; rfl
theorem KY (x j:Int):∃ v,(bif ((Int.tmod x 2)==1) then (some (((aw.mk 1 (wr .i64 ((wr .i64 (0 - (wr .i64 (wr .u64 (Int.tdiv x 2))))) - 1)) ByteArray.empty ([])),j,true))) else (some (((aw.mk 1 (wr .i64 (wr .u64 (Int.tdiv x 2))) ByteArray.empty ([])),j,true))))=some (v,j,true):=by
 cases (Int.tmod x 2)==1<;>exact⟨_,rfl⟩
def TQ:Nat->Nat->List UInt8->Option (List aw×List UInt8)
 | 0=>λ_ _=>none
 | k+1=>iC (gN k)
theorem Ni (bs:List UInt8) (hbs:bs.length<=1100000) (n i m:Nat) (hi:i<=bs.length) (hm:10<=m):match jn 0 (bs.drop i) with
  | some (u,r)=>∃ j:Nat,(Option.bind (fY n bs m 0 0 (i:Int) false) λo=>match o with | (Sum.inl ((y368,y369,y370)))=>some ((y368,y369,y370)) | (Sum.inr ((y374,y375)))=>some (((0:Int),y374,y375)))=some ((u:Int),(j:Int),false)/\r=bs.drop j/\j<=bs.length
  | none=>∃ (x:Int) (j:Nat),(Option.bind (fY n bs m 0 0 (i:Int) false) λo=>match o with | (Sum.inl ((y368,y369,y370)))=>some ((y368,y369,y370)) | (Sum.inr ((y374,y375)))=>some (((0:Int),y374,y375)))=some (x,(j:Int),true)/\j<=bs.length:=by
 have hr:=Ee bs hbs (fY n bs) (λ_ _ _ _=>rfl) (bs.length - i) i m 0 0 o3 o3 o3 (by decide);cases hg:jn 0 (bs.drop i) with
 | none=>
  rw[hg] at hr;obtain ⟨x,j,hr,hj⟩:=hr;exact⟨x,j,(qa7 (λx=>Option.bind x _) hr).trans rfl,hj⟩
 | some p=>
  obtain ⟨u,r⟩:=p;rw[hg] at hr;obtain ⟨j,hr,h1,h2⟩:=hr;rw[show (0+2 ^ (7*0)*u:Nat)=u by omega] at hr;exact⟨j,(qa7 (λx=>Option.bind x _) hr).trans rfl,h1,h2⟩
theorem VX (bs:List UInt8) (hbs:bs.length<=1100000):∀ (k N d i:Nat),d+k=16->2000000+k<=N->i<=bs.length->match gN k (bs.drop i) with
  | some (v,r)=>∃ j:Nat,Gz N bs (i:Int) false (d:Int)=some (v,(j:Int),false)/\r=bs.drop j/\j<=bs.length
  | none=>∃ (v:aw) (j:Nat),Gz N bs (i:Int) false (d:Int)=some (v,(j:Int),true)/\j<=bs.length
 | k,N,d,i,hd,hN,hi=>by
  obtain ⟨N,rfl⟩:∃ q,N=q+1:=⟨N - 1,o3⟩
  have eW:Gz (N+1) bs (i:Int) false (d:Int)=zF (Gz N) (N - 8) bs (i:Int) false (d:Int):=by
   show (bif Nat.ble 8 N then zF (Gz N) (N - 8) bs (i:Int) false (d:Int) else none)=_;rw[qbe (by omega:8<=N)]; rfl
  rw[eW];by_cases hil:i<bs.length
  ·rw[qas hil];generalize hb':bs[i]=b;have hb:=b.toNat_lt;have eg:gN k (b :: bs.drop (i+1))=sM b (bs.drop (i+1)) (TQ k):=by cases k<;>(rw[gN]; rfl)
   rw[eg];unfold zF;rw[qal o3,dy (n:=(i:Int)+1) o3 o3,show (i:Int)+1 - 1=(i:Int) by omega,dy (n:=(i:Int)) o3 o3,bE,Z7 hil,hb'];simp only[Z8,Z6]
   rw[show ((b.toNat:Int)==1)=decide (b.toNat=1) by rw[qbr]; simp; omega,show ((b.toNat:Int)==2)=decide (b.toNat=2) by rw[qbr]; simp; omega,show ((b.toNat:Int)==3)=decide (b.toNat=3) by rw[qbr]; simp; omega];have ei:(i:Int)+1=((i+1:Nat):Int):=o3;rw[ei];unfold sM;by_cases h1:b.toNat=1
   ·rw[qaf h1,qac h1];have hr:=Ni bs hbs (N - 8) (i+1) (N - 8+7) o3 o3;simp only[qaa]
    cases hg:jn 0 (bs.drop (i+1)) with
    | none=>
     rw[hg] at hr;obtain ⟨x,j,hr,hj⟩:=hr;obtain ⟨v,hv⟩:=KY x j;refine⟨v,j,?_,hj⟩;exact(qa7 (λx=>Option.bind x _) hr).trans hv
    | some p=>
     obtain ⟨n,r⟩:=p;rw[hg] at hr;obtain ⟨_,hn,_⟩:=jC hg;obtain ⟨j,hr,hrj,hj⟩:=hr;simp only
     refine⟨j,?_,hrj,hj⟩;refine(qa7 (λx=>Option.bind x _) hr).trans ?_;exact ZH n hn j false
   rw[qah h1,qal h1];simp only[Z8]
   by_cases h2:b.toNat=2
   ·rw[qaf h2,qac h2];have hr:=Ni bs hbs (N - 8) (i+1) (N - 8+7) o3 o3;simp only[qaa]
    cases hg:jn 0 (bs.drop (i+1)) with
    | none=>
     rw[hg] at hr;obtain ⟨x,j,hr,hj⟩:=hr;refine⟨.mk 0 0 ByteArray.empty [],j,?_,hj⟩;exact(qa7 (λx=>Option.bind x _) hr).trans rfl
    | some p=>
     obtain ⟨n,r⟩:=p;rw[hg] at hr;obtain ⟨_,hn,hrl⟩:=jC hg;obtain ⟨j,hr,hrj,hj⟩:=hr;have hlr:r.length=bs.length - j:=by rw[hrj,qbT]
     have el:wr .u64 (wr .i64 ((bs.length:Int) - (j:Int)))=((bs.length - j:Nat):Int):=by
      rw[show (bs.length:Int) - (j:Int)=((bs.length - j:Nat):Int) by omega,dy o3 o3,wU _ o3]
     simp only
     by_cases hnr:n<=r.length
     ·rw[qaf hnr];refine⟨j+n,?_,by rw[hrj,qdZ],o3⟩;refine(qa7 (λx=>Option.bind x _) hr).trans ?_;simp only[Z6,Z8]
      rw[el,qal o3,dy (n:=(n:Int)) o3 o3,dy (n:=(j:Int)+(n:Int)) o3 o3,show (j:Int)+(n:Int) - (n:Int)=(j:Int) by omega,dy (n:=(j:Int)) o3 o3];simp only[Z8]
      unfold gv;rw[qac (show (0:Int)<=(j:Int) by omega),qac (show (j:Int)<=(j:Int)+(n:Int) by omega),qac (show (j:Int)+(n:Int)<=(bs.length:Int) by omega)];simp only[qbm,qaa,Z6]
      rw[show ((j:Int)+(n:Int)).toNat - (j:Int).toNat=n by omega,hrj];rfl
     ·rw[qah hnr];refine⟨.mk 0 0 ByteArray.empty [],j,?_,hj⟩;refine(qa7 (λx=>Option.bind x _) hr).trans ?_;simp only[Z6,Z8]
      rw[el,qac o3];rfl
   rw[qah h2,qal h2];simp only[Z8]
   by_cases h3:b.toNat=3
   ·rw[qaf h3,qac h3];have hr:=Ni bs hbs (N - 8) (i+1) (N - 8+7) o3 o3;simp only[qaa]
    cases hg:jn 0 (bs.drop (i+1)) with
    | none=>
     rw[hg] at hr;obtain ⟨x,j,hr,hj⟩:=hr;refine⟨.mk 0 0 ByteArray.empty [],j,?_,hj⟩;exact(qa7 (λx=>Option.bind x _) hr).trans rfl
    | some p=>
     obtain ⟨n,r⟩:=p;rw[hg] at hr;obtain ⟨_,hn,hrl⟩:=jC hg;obtain ⟨j,hr,hrj,hj⟩:=hr;have hlr:r.length=bs.length - j:=by rw[hrj,qbT]
     have el:wr .u64 (wr .i64 ((bs.length:Int) - (j:Int)))=((bs.length - j:Nat):Int):=by
      rw[show (bs.length:Int) - (j:Int)=((bs.length - j:Nat):Int) by omega,dy o3 o3,wU _ o3]
     simp only
     by_cases hnr:n<=r.length
     ·rw[qaf hnr];cases k with
      | zero=>
       refine⟨.mk 0 0 ByteArray.empty [],j,?_,hj⟩;refine(qa7 (λx=>Option.bind x _) hr).trans ?_;simp only[Z6,Z8]
       rw[show d=16 by omega];cases decide ((wr .u64 (wr .i64 ((bs.length:Int) - (j:Int))))<(n:Int))<;>rfl
      | succ k=>
       have hL:=HL bs (gN k) (Gz N) (N - 8) d n 3 0 ByteArray.empty o3 o3 (λi hi=>by
        have:=VX bs hbs k N (d+1) i o3 o3 hi;exact this) n (N - 8+8) 0 j [] o3 o3 hj r8
       rw[<-hrj] at hL;show (match (match iC (gN k) n r with
        | none=>none
        | some (vs,t)=>some (aw.mk 3 0 ByteArray.empty vs,t)) with
        | some (v,r)=>_
        | none=>_)
       cases hls:iC (gN k) n r with
       | none=>
        rw[hls] at hL;obtain ⟨j',l,hL,hj'⟩:=hL;refine⟨.mk 3 0 ByteArray.empty l,j',?_,hj'⟩;refine(qa7 (λx=>Option.bind x _) hr).trans ?_;simp only[Z6,Z8]
        rw[el,qal o3,show ((d:Int)==16)=false by simp; omega];exact(qa7 (λx=>Option.bind x _) hL).trans rfl
       | some p=>
        obtain ⟨vs,t⟩:=p;rw[hls] at hL;obtain ⟨j',hL,ht,hj'⟩:=hL;simp only
        refine⟨j',?_,ht,hj'⟩;refine(qa7 (λx=>Option.bind x _) hr).trans ?_;simp only[Z6,Z8]
        rw[el,qal o3,show ((d:Int)==16)=false by simp; omega];exact(qa7 (λx=>Option.bind x _) hL).trans rfl
     ·rw[qah hnr];refine⟨.mk 0 0 ByteArray.empty [],j,?_,hj⟩;refine(qa7 (λx=>Option.bind x _) hr).trans ?_;simp only[Z6,Z8]
      rw[el,qac o3];rfl
   ·rw[qah h3,qal h3];exact⟨_,i+1,by simp only[Z8,qaQ]; rfl,o3⟩
  ·have:gN k []=none:=by cases k<;>rw[gN]
   rw[qaH.2 o3,this];refine⟨.mk 0 0 ByteArray.empty [],i,?_,hi⟩;unfold zF;rw[qac o3];rfl
theorem Zk (bs:List UInt8) (h:bs.length<=1100000):OG bs=some (kC bs):=by
 unfold OG RB;have hw:=VX bs h 16 (aD+8) 0 0 o3 u3 o3;rw[show ((0:Nat):Int)=0 from rfl,qaM] at hw;unfold kC;cases hg:gN 16 bs with
 | none=>
  rw[hg] at hw;obtain ⟨v,j,hw,_⟩:=hw;rw[hw]; rfl
 | some p=>
  obtain ⟨v,r⟩:=p;rw[hg] at hw;obtain ⟨j,hw,hr,hj⟩:=hw;rw[hw];simp only[Z6,Z8]
  cases r with
  | cons a r=>
   have:j<bs.length:=by
    rcases qdj j bs.length with h | h
    ·exact h
    ·rw[qaH.2 h] at hr; cases hr
   rw[show ((j:Int) != (bs.length:Int))=true by simp; omega];rfl
  | nil=>
   have hj2:j=bs.length:=by
    have:=qa7 List.length hr;rw[qbT] at this;simp at this; omega
   obtain ⟨h1,h2,h3,h4⟩:=Ds (v:=v) h (by unfold kC; rw[hg]);rw[show ((j:Int) != (bs.length:Int))=false by simp; omega,V8 v h4];simp only[Z8,Z6,h2]
   rw[show ((0:Int) != 0)=false from rfl];simp only[Z8,Z6,V9 v h3 h4]
   rw[K1,<-h1,qac rfl];rfl
theorem Qf (a b:Int):OE a b=some (if b<a then b else a,if a<b then b else a):=rfl
def A2 (p:Int×Int):Bool:=decide (0<=p.1)&&decide (p.1<p.2)&&decide (p.2<24)
theorem Qe (p:Int×Int):NY p=some (A2 p):=by
 unfold NY Rw A2;cases decide (0<=p.1)<;>cases decide (p.1<p.2)<;>rfl
def kY (p:aC):Bool:=A2 (if p.To<p.From then p.To else p.From,if p.From<p.To then p.To else p.From)&&decide ((p.Data.length:Int)<=1048576)
theorem Nd (p:aC):NW p=some (kY p):=by
 unfold NW Rq kY;rw[Qf,Z6,Qe,Z6];cases A2 _<;>rfl
theorem UQ (p:aC):OB p=some (!kY p):=by
 unfold OB Rv;rw[Nd,Z6]
theorem Qh (a:Int):zG a=some false:=by
 unfold zG Je;simp
theorem rh {i:Nat} (h:i<=4611686018427387904):wr .i64 ((i:Int)+1)=((i+1:Nat):Int):=by
 rw[dy o3 o3];omega
theorem Qb (n:Nat) (l:List aC) (hl:l.length<=4611686018427387904):∀ (m i:Nat),i<=l.length->l.length - i<m ->
  (∃ j:Int,0<=j/\gV n l (l.length:Int) m (i:Int)=some (.inl j)/\(l.drop i).any (λp=>!kY p)=true)∨(gV n l (l.length:Int) m (i:Int)=some (.inr ())/\(l.drop i).any (λp=>!kY p)=false)
 | 0,i,_,h=>absurd h (qaF _)
 | m+1,i,hi,h=>by
  unfold gV;by_cases hlt:i<l.length
  ·rw[show decide ((i:Int)<(l.length:Int))=true by simpa using hlt,qaa,bE,Z7 hlt,Z6,UQ,Z6,rh o3,qas hlt,qea];cases hp:kY l[i] with
   | false=>exact .inl ⟨i,o3,rfl,rfl⟩
   | true=>
    simp only[qau,Z8,Bool.false_or]
    exact Qb n l hl m (i+1) o3 o3
  ·rw[show decide ((i:Int)<(l.length:Int))=false by simpa using hlt,Z8,qaH.2 o3];exact .inr ⟨rfl,rfl⟩
theorem UP (l:List aC) (hl:l.length<=4611686018427387904):um l=some (l.any λp=>!kY p):=by
 unfold um xX xZ xY;have e:l.drop 0=l:=rfl;rcases Qb aD l hl (aD+8) 0 (qav _) u3 with ⟨j,h1,h2,h3⟩ | ⟨h2,h3⟩
 ·rw[e] at h3;rw[show ((0:Nat):Int)=0 from rfl] at h2;rw[h2,h3];simp only[Z6]
  rw[qac h1]
 ·rw[e] at h3;rw[show ((0:Nat):Int)=0 from rfl] at h2;rw[h2,h3];rfl
def DP (p q:Int×Int):Bool:=decide (p.1<q.1) || (p.1==q.1&&decide (p.2<q.2))
theorem UL (n:Nat) (a b c d:Int) (m:Nat) :
  iK n [a,b] 2 c d (m+3) 0=some (if a<c then .inl (-1) else if c<a then .inl 1 else if b<d then .inl (-1) else if d<b then .inl 1 else .inr ()):=by
 have w1:wr .i64 (0+1)=1:=by decide +kernel
 have w2:wr .i64 (1+1)=2:=by decide +kernel
 have x0:bG [a,b] 0=some a:=rfl;have x1:bG [a,b] 1=some b:=rfl;have tail:iK n [a,b] 2 c d (m+2) 1=some (if b<d then .inl (-1) else if d<b then .inl 1 else .inr ()):=by
  rw[iK];simp only[x1,Qh,w2,Z6,show decide ((1:Int)<2)=true from rfl,show decide ((2:Int)<=1)=false from rfl,show decide ((1:Int)=0)=false from rfl,show decide ((1:Int)=1)=true from rfl,qaa,Z8]
  by_cases h1:b<d
  ·simp[h1]
  ·by_cases h2:d<b
   ·simp[h1,h2]
   ·rw[iK]; simp[h1,h2]
 rw[iK];simp only[x0,Qh,w1,Z6,show decide ((0:Int)<2)=true from rfl,show decide ((2:Int)<=0)=false from rfl,show decide ((0:Int)=0)=true from rfl,qaa,Z8]
 by_cases h1:a<c
 ·simp[h1]
 ·by_cases h2:c<a
  ·simp[h1,h2]
  ·simp only[h1,h2,qbg,Z8,qcq]
   exact tail
def pH (l:List (Int×Int)) (i:Nat):Option (Int×Int):=if i=0 then none else l[i - 1]?
def E9:Option (Int×Int)->List (Int×Int)->Bool
 | _,[]=>true
 | o,p :: r=>A2 p&&(match o with | some q=>DP q p | none=>true)&&E9 (some p) r
theorem Qa (n:Nat) (v8:Int) (q:List aC) (l:List (Int×Int)) (hl:l.length<=4611686018427387904):∀ (m i:Nat),i<=l.length->l.length - i<m ->
  (E9 (pH l i) (l.drop i)=true/\jr n v8 l (l.length:Int) q l m (i:Int)=some (.inr ()))∨(E9 (pH l i) (l.drop i)=false/\jr n v8 l (l.length:Int) q l m (i:Int)=some (.inl 60))
 | 0,i,_,h=>absurd h (qaF _)
 | m+1,i,hi,h=>by
  by_cases hlt:i<l.length
  ·have ih:=Qa n v8 q l hl m (i+1) o3 o3;have hp:pH l (i+1)=some l[i]:=by unfold pH; rw[qah o3]; exact Z7 hlt
   rw[hp] at ih;rw[qas hlt];unfold E9 jr;rw[show decide ((i:Int)<(l.length:Int))=true by simpa using hlt,qaa,bE,Z7 hlt,Z6,Qe,Z6,rh o3];cases hk:A2 l[i] with
   | false=>exact .inr ⟨r8,rfl⟩
   | true=>
    simp only[qau,Z8,qaX]
    by_cases h0:0<i
    ·have hpi:pH l i=some l[i - 1]:=by unfold pH; rw[qah o3]; exact Z7 o3
     have hw:wr .i64 ((i:Int) - 1)=((i - 1:Nat):Int):=by
      rw[dy o3 o3]; omega
     rw[hpi,show decide ((0:Int)<(i:Int))=true by simpa using h0,qaa,hw,bE,Z7 o3,Z6];rw[show n+7=(n+4)+3 from rfl,UL];simp only[Z6]
     have key:(DP l[i - 1] l[i]=true/\(if l[i - 1].1<l[i].1 then (Sum.inl (-1):Int⊕Unit) else if l[i].1<l[i - 1].1 then .inl 1 else if l[i - 1].2<l[i].2 then .inl (-1) else if l[i].2<l[i - 1].2 then .inl 1 else .inr ())=.inl (-1)) ∨
       (DP l[i - 1] l[i]=false/\((if l[i - 1].1<l[i].1 then (Sum.inl (-1):Int⊕Unit) else if l[i].1<l[i - 1].1 then .inl 1 else if l[i - 1].2<l[i].2 then .inl (-1) else if l[i].2<l[i - 1].2 then .inl 1 else .inr ())=.inl 1∨(if l[i - 1].1<l[i].1 then (Sum.inl (-1):Int⊕Unit) else if l[i].1<l[i - 1].1 then .inl 1 else if l[i - 1].2<l[i].2 then .inl (-1) else if l[i].2<l[i - 1].2 then .inl 1 else .inr ())=.inr ())):=by
      unfold DP;generalize l[i - 1]=p;generalize l[i]=r;by_cases a1:p.1<r.1
      ·exact .inl ⟨by simp[a1],by rw[qaf a1]⟩
      ·by_cases a2:r.1<p.1
       ·exact .inr ⟨by simp[a1]; intro e; omega,.inl (by rw[qah a1,qaf a2])⟩
       ·have e:p.1=r.1:=by omega
        by_cases a3:p.2<r.2
        ·exact .inl ⟨by simp[e,a3],by rw[qah a1,qah a2,qaf a3]⟩
        ·refine .inr ⟨by simp[e,a3],?_⟩;by_cases a4:r.2<p.2
         ·exact .inl (by rw[qah a1,qah a2,qah a3,qaf a4])
         ·exact .inr (by rw[qah a1,qah a2,qah a3,qah a4])
     rcases key with ⟨k1,k2⟩ | ⟨k1,k2 | k2⟩
     ·rw[k1,k2];simp only[qaX]
      exact ih
     ·rw[k1,k2];exact .inr ⟨r8,rfl⟩
     ·rw[k1,k2];exact .inr ⟨r8,rfl⟩
    ·obtain rfl:i=0:=by omega
     have hp0:pH l 0=none:=rfl;rw[hp0,show decide ((0:Int)<((0:Nat):Int))=false from rfl];simp only[Z8,Z6,qaX]
     exact ih
  ·rw[qaH.2 o3];unfold jr;rw[show decide ((i:Int)<(l.length:Int))=false by simpa using hlt,Z8];exact .inl ⟨rfl,rfl⟩
def rR (x:aP):Bool:=decide (x.Queue.length<=4096)&&x.Queue.all kY&&E9 none x.Apart
theorem Js (l:List aC):(l.any λp=>!kY p) = !l.all kY:=by
 induction l with
 | nil=>rfl
 | cons x l ih=>rw[qea,qco,ih]; cases kY x<;>simp
theorem J1 (x:aP) (hA:x.Apart.length<=4611686018427387904):Mm x=some (if rR x=true then 0 else 60):=by
 unfold Mm Re rR;by_cases hq:x.Queue.length<=4096
 ·have hq':decide ((4096:Int)<(x.Queue.length:Int))=false:=by simp; omega
  have hqf:x.Queue.length<=4611686018427387904:=qaC hq (by decide);rw[hq',Z8,UP _ hqf,Z6,Z6,Js,qac hq];cases x.Queue.all kY with
  | false=>rfl
  | true=>
   simp only[qau,Z8,qaX]
   have h13:=Qa aD 0 x.Queue x.Apart hA (aD+8) 0 (qav _) u3;have e:pH x.Apart 0=none:=rfl;rw[e,qaM,show ((0:Nat):Int)=0 from rfl] at h13;rcases h13 with ⟨h1,h2⟩ | ⟨h1,h2⟩
   ·rw[h2,h1]; rfl
   ·rw[h2,h1]; rfl
 ·have hq':decide ((4096:Int)<(x.Queue.length:Int))=true:=by simp; omega
  rw[hq',qaa,Z6,qal hq];rfl
theorem Br {T:Type} (l:List T):gv l 0 (l.length:Int)=some l:=by
 unfold gv;simp
def rX (x:aP) (p:aC):aP×Int:=if rR x&&kY p then (aP.mk (x.Queue++[p]) x.Apart,0) else (aP.mk [] [],60)
theorem Qd (x:aP) (p:aC) (hq:x.Queue.length<=4095) (hA:x.Apart.length<=4611686018427387904):I6 x p=some (rX x p):=by
 unfold I6 Og rX;rw[J1 x hA,Z6,Nd];have e:((x.Queue.length:Int)==4096)=false:=r9;cases rR x with
 | false=>rfl
 | true=>cases kY p with
  | false=>rfl
  | true=>
   simp only[e,Br,Z6]
   rw[fA _ _ _ ZQ];rfl
theorem sE {a b:Int} (h:a≠b):(a != b)=true:=by simpa using h
theorem Ti {a b:Int} (h:a≠b):(a==b)=false:=by simpa using h
def BC (x:aw):Bool:=x.Kind==1
def qV:List aw->Option (aE⊕bH)
 | [x0,x1,x2,x3,x4]=>if x0.N=1/\[x0,x1,x2,x3,x4].all BC=true then some (.inl ⟨x1.N,x2.N,x3.N,x4.N⟩) else none
 | [x0,x1,x2,x3]=>if x0.N=2/\[x0,x1,x2,x3].all BC=true then some (.inr ⟨x1.N,x2.N,x3.N⟩) else none
 | _=>none
def msg (bs:List UInt8):Option (aE⊕bH):=if (kC bs).2=0/\(kC bs).1.Kind=3 then qV (kC bs).1.L else none
theorem UI {bs:List UInt8} (h:bs.length<=1100000):(kC bs).1.L.length<=1100000:=by
 rcases Cb bs with ⟨v,e⟩ | e
 ·obtain ⟨_,_,_,h4⟩:=Ds h e;rw[e];have:=fi v.L;rw[fy] at h4;show v.L.length<=_;omega
 ·rw[e]; exact qav _
theorem HN (n:Nat) (v:aw) (hl:v.L.length<=1100000):∀ (m i:Nat) (acc:List Int),i<=v.L.length->v.L.length - i<m->acc.length<=i ->
  nh n v m (i:Int) acc=some (if (v.L.drop i).all BC=true then .inr (acc++(v.L.drop i).map (·.N)) else .inl false)
 | 0,i,_,_,h,_=>absurd h (qaF _)
 | m+1,i,acc,hi,h,ha=>by
  rw[nh];by_cases hlt:i<v.L.length
  ·rw[show decide ((i:Int)<(v.L.length:Int))=true by simpa using hlt,qaa,bE,Z7 hlt,Z6,Z6,qas hlt,qco,qbc];by_cases hk:v.L[i].Kind=1
   ·rw[show (v.L[i].Kind != 1)=false by simp[hk],Z8,fA _ _ _ ZQ,Z6,rh o3,HN n v hl m (i+1) _ o3 o3 r9,show BC v.L[i]=true by simp[BC,hk],qaX];simp
   ·rw[sE hk,show BC v.L[i]=false by simp[BC,hk]]; rfl
  ·rw[show decide ((i:Int)<(v.L.length:Int))=false by simpa using hlt,Z8,qaH.2 o3];simp
theorem VP (bs:List UInt8) (h:bs.length<=1100000):Ow bs=some (if (kC bs).2=0/\(kC bs).1.Kind=3/\(kC bs).1.L.all BC=true then ((kC bs).1.L.map (·.N),true) else ([],false)):=by
 unfold Ow Rj;rw[Zk bs h,Z6];have hl:=UI h;by_cases h0:(kC bs).2=0
 ·by_cases h3:(kC bs).1.Kind=3
  ·simp only[h0,h3,qaP,Z8,Z6]
   have hw:=HN aD (kC bs).1 hl (aD+8) 0 [] (qav _) u3 (qab _);rw[show ((0:Nat):Int)=0 from rfl,qaM] at hw;rw[hw];cases (kC bs).1.L.all BC<;>simp
  ·rw[qah (λhh=>h3 hh.2.1),h0,sE h3]; rfl
 ·rw[qah (λhh=>h0 hh.1),sE h0]; rfl
theorem QV (bs:List UInt8) (h:bs.length<=1100000):On bs=some (match msg bs with | some (.inl c)=>(c,true) | _=>(⟨0,0,0,0⟩,false)):=by
 unfold On Q8 msg;rw[VP bs h,Z6];generalize kC bs=v;obtain ⟨v,e⟩:=v;by_cases h0:e=0/\v.Kind=3
 ·simp only[h0.1,h0.2,qcd,qb4,and_self]
  match v.L with
  | []=>rfl
  | [_]=>simp only[qV]; split<;>rfl
  | [_,_]=>simp only[qV]; split<;>rfl
  | [_,_,_]=>simp only[qV]; split<;>rfl
  | [x0,x1,x2,x3]=>simp only[qV]; split<;>split<;>first | rfl | (rename_i q; split at q<;>cases q)
  | [x0,x1,x2,x3,x4]=>
   simp only[qV]
   by_cases ha:[x0,x1,x2,x3,x4].all BC=true
   ·by_cases hk:x0.N=1
    ·rw[qaf ha,qaf ⟨hk,ha⟩]; simp[hk,bG]
    ·rw[qaf ha,qah (λq=>hk q.1)];simp only[qbc,qdh,qau,Z8,Z6,show bG [x0.N,x1.N,x2.N,x3.N,x4.N] 0=some x0.N from rfl,sE hk]
     rfl
   ·rw[qah ha,qah (λq=>ha q.2)]; rfl
  | y0 :: y1 :: y2 :: y3 :: y4 :: y5 :: l=>
   simp only[qV]
   split
   ·have:(((List.map (λx:aw=>x.N) (y0 :: y1 :: y2 :: y3 :: y4 :: y5 :: l)).length:Int) != 5)=true:=by simp; omega
    simp only[qau,Z8,this,Z6,qaa]
   ·rfl
 ·rw[qah h0,qah (λq=>h0 ⟨q.1,q.2.1⟩)]; rfl
theorem q1:wr .i64 (0+1)=1:=by decide +kernel
theorem q2:wr .i64 (1+1)=2:=by decide +kernel
theorem q3:wr .i64 (2+1)=3:=by decide +kernel
theorem q4:wr .i64 (3+1)=4:=by decide +kernel
theorem q5:wr .i64 (4+1)=5:=by decide +kernel
theorem M7 (n:Nat) (z:Bool) (x0 x1 x2 x3 x4:aw) (z1 z2 z3:Int) (a b c d e:Int) (m:Nat) :
  (eI n z [x0,x1,x2,x3,x4] 5 z1 z2 z3 (m+6) 0 a b c d e=some (.inr (x0.N,x1.N,x2.N,x3.N,x4.N))/\[x0,x1,x2,x3,x4].all BC=true) ∨
  (∃ t,eI n z [x0,x1,x2,x3,x4] 5 z1 z2 z3 (m+6) 0 a b c d e=some (.inl (false,t)))/\[x0,x1,x2,x3,x4].all BC=false:=by
 have g0:bG [x0,x1,x2,x3,x4] 0=some x0:=rfl;have g1:bG [x0,x1,x2,x3,x4] 1=some x1:=rfl;have g2:bG [x0,x1,x2,x3,x4] 2=some x2:=rfl;have g3:bG [x0,x1,x2,x3,x4] 3=some x3:=rfl;have g4:bG [x0,x1,x2,x3,x4] 4=some x4:=rfl;simp only[qco,List.all_nil,BC]
 rw[eI];simp only[Int.reduceEq,Int.reduceLT,qam,qbg,qaa,Z8,Z6,g0,q1,bne]
 cases x0.Kind==1
 ·exact .inr ⟨⟨_,rfl⟩,rfl⟩
 simp only[qau,Z8]
 rw[eI];simp only[Int.reduceEq,Int.reduceLT,qam,qbg,qaa,Z8,Z6,g1,q2,bne]
 cases x1.Kind==1
 ·exact .inr ⟨⟨_,rfl⟩,rfl⟩
 simp only[qau,Z8]
 rw[eI];simp only[Int.reduceEq,Int.reduceLT,qam,qbg,qaa,Z8,Z6,g2,q3,bne]
 cases x2.Kind==1
 ·exact .inr ⟨⟨_,rfl⟩,rfl⟩
 simp only[qau,Z8]
 rw[eI];simp only[Int.reduceEq,Int.reduceLT,qam,qbg,qaa,Z8,Z6,g3,q4,bne]
 cases x3.Kind==1
 ·exact .inr ⟨⟨_,rfl⟩,rfl⟩
 simp only[qau,Z8]
 rw[eI];simp only[Int.reduceEq,Int.reduceLT,qam,qbg,qaa,Z8,Z6,g4,q5,bne]
 cases x4.Kind==1
 ·exact .inr ⟨⟨_,rfl⟩,rfl⟩
 simp only[qau,Z8]
 rw[eI];exact .inl ⟨rfl,rfl⟩
theorem JW (n:Nat) (z:Bool) (x0 x1 x2 x3:aw) (z1 z2 z3 z5:Int) (a b c d:Int) (m:Nat) :
  (eE n z [x0,x1,x2,x3] 4 z1 z2 z3 z5 (m+5) 0 a b c d=some (.inr (x0.N,x1.N,x2.N,x3.N))/\[x0,x1,x2,x3].all BC=true) ∨
  (∃ t,eE n z [x0,x1,x2,x3] 4 z1 z2 z3 z5 (m+5) 0 a b c d=some (.inl (false,t)))/\[x0,x1,x2,x3].all BC=false:=by
 have g0:bG [x0,x1,x2,x3] 0=some x0:=rfl;have g1:bG [x0,x1,x2,x3] 1=some x1:=rfl;have g2:bG [x0,x1,x2,x3] 2=some x2:=rfl;have g3:bG [x0,x1,x2,x3] 3=some x3:=rfl;simp only[qco,List.all_nil,BC]
 rw[eE];simp only[Int.reduceEq,Int.reduceLT,qam,qbg,qaa,Z8,Z6,g0,q1,bne]
 cases x0.Kind==1
 ·exact .inr ⟨⟨_,rfl⟩,rfl⟩
 simp only[qau,Z8]
 rw[eE];simp only[Int.reduceEq,Int.reduceLT,qam,qbg,qaa,Z8,Z6,g1,q2,bne]
 cases x1.Kind==1
 ·exact .inr ⟨⟨_,rfl⟩,rfl⟩
 simp only[qau,Z8]
 rw[eE];simp only[Int.reduceEq,Int.reduceLT,qam,qbg,qaa,Z8,Z6,g2,q3,bne]
 cases x2.Kind==1
 ·exact .inr ⟨⟨_,rfl⟩,rfl⟩
 simp only[qau,Z8]
 rw[eE];simp only[Int.reduceEq,Int.reduceLT,qam,qbg,qaa,Z8,Z6,g3,q4,bne]
 cases x3.Kind==1
 ·exact .inr ⟨⟨_,rfl⟩,rfl⟩
 simp only[qau,Z8]
 rw[eE];exact .inl ⟨rfl,rfl⟩
theorem Na {x:aw} {l:List aw} (hk:x.N=1) (hl:l.length≠4):qV (x :: l)=none:=by
 match l with
 | []=>rfl
 | [_]=>rfl
 | [_,_]=>rfl
 | [_,_,_]=>simp only[qV]; exact qah (λq=>o3)
 | [_,_,_,_]=>exact absurd rfl hl
 | _ :: _ :: _ :: _ :: _ :: _=>rfl
theorem Nb {x:aw} {l:List aw} (hk:x.N≠1) (hl:l.length≠3∨x.N≠2):qV (x :: l)=none:=by
 match l with
 | []=>rfl
 | [_]=>rfl
 | [_,_]=>rfl
 | [_,_,_]=>simp only[qV]; exact qah (λq=>by rcases hl with h | h; exact h rfl; exact h q.1)
 | [_,_,_,_]=>simp only[qV]; exact qah (λq=>hk q.1)
 | _ :: _ :: _ :: _ :: _ :: _=>rfl
theorem QX (bs:List UInt8) (h:bs.length<=1100000):∃ r,NT bs=some r/\match msg bs with | some (.inl c)=>r=(⟨1,c,⟨0,0,0⟩⟩,true) | some (.inr c)=>r=(⟨2,⟨0,0,0,0⟩,c⟩,true) | none=>r.2=false:=by
 unfold NT Rg msg;rw[Zj bs h,Z6];generalize kC bs=v;obtain ⟨v,e⟩:=v;by_cases h0:e=0
 ·subst h0;by_cases h3:v.Kind=3
  ·rw[qaf ⟨rfl,h3⟩];simp only[h3,qaP,Z8,Z6]
   match v.L with
   | []=>exact⟨_,rfl,rfl⟩
   | x :: L'=>
    have hne:(((x :: L').length:Int)==0)=false:=r9;simp only[hne,Z8,Z6,show bG (x :: L') 0=some x from rfl]
    by_cases hk:x.N=1
    ·simp only[hk,qbj,qaa,qaP,Z8,Z6]
     by_cases hl:L'.length=4
     ·obtain ⟨x1,x2,x3,x4,rfl⟩:∃ x1 x2 x3 x4,L'=[x1,x2,x3,x4]:=by
       match L',hl with | [x1,x2,x3,x4],_=>exact⟨x1,x2,x3,x4,rfl⟩
      have e5:((([x,x1,x2,x3,x4]:List aw).length:Int))=5:=rfl;simp only[e5,qaP,Z8]
      simp only[qV]
      rcases M7 aD false x x1 x2 x3 x4 0 0 0 1 0 0 0 0 (aD+2) with ⟨hw,ha⟩ | ⟨⟨⟨t1,t2,t3,t4,t5⟩,hw⟩,ha⟩
      ·rw[hw,qaf ⟨hk,ha⟩];exact⟨_,rfl,by simp only[hk]⟩
      ·rw[hw,qah (λq=>by rw[ha] at q; exact absurd q.2 Bool.false_ne_true)];exact⟨_,rfl,rfl⟩
     ·rw[Na hk hl,show (((x :: L').length:Int) != 5)=true by simp; omega];exact⟨_,rfl,rfl⟩
    ·simp only[Ti hk,Z8,sE hk,qaa,Z6]
     by_cases hl:L'.length=3/\x.N=2
     ·obtain ⟨hl,h2⟩:=hl;obtain ⟨x1,x2,x3,rfl⟩:∃ x1 x2 x3,L'=[x1,x2,x3]:=by
       match L',hl with | [x1,x2,x3],_=>exact⟨x1,x2,x3,rfl⟩
      have e5:((([x,x1,x2,x3]:List aw).length:Int))=4:=rfl;simp only[e5,h2,qaP,Z8,Z6]
      simp only[qV]
      rcases JW aD false x x1 x2 x3 0 0 0 0 2 0 0 0 (aD+3) with ⟨hw,ha⟩ | ⟨⟨⟨t1,t2,t3,t4⟩,hw⟩,ha⟩
      ·rw[hw,qaf ⟨h2,ha⟩];exact⟨_,rfl,by simp only[h2]⟩
      ·rw[hw,qah (λq=>by rw[ha] at q; exact absurd q.2 Bool.false_ne_true)];exact⟨_,rfl,rfl⟩
     ·rw[Nb hk o3];by_cases h2:x.N=2
      ·rw[h2,show (((x :: L').length:Int) != 4)=true by simp; omega];exact⟨_,rfl,rfl⟩
      ·rw[sE h2]; exact⟨_,rfl,rfl⟩
  ·rw[qah (λq=>h3 q.2),sE h3]; exact⟨_,rfl,rfl⟩
 ·rw[qah (λq=>h0 q.1),sE h0]; exact⟨_,rfl,rfl⟩
section
def jo (a lo hi:Int):Bool:=decide (lo<=a)&&decide (a<=hi)
theorem Bv (a lo hi:Int):zH a lo hi=some (jo a lo hi):=by
 unfold zH Rd jo;cases decide (lo<=a)<;>rfl
def et (c:aE) (n:Int):Bool:=jo c.No 0 1048576&&jo c.Role 0 (wr .i64 (n - 1))&&jo c.Bar 0 4095&&jo c.Program 1 8
theorem NQ (c:aE) (n:Int):Ml c n=some (et c n):=by
 unfold Ml Rb et;simp only[Bv,Z6]
 cases jo c.No 0 1048576<;>cases jo c.Role 0 (wr .i64 (n - 1))<;>cases jo c.Bar 0 4095<;>rfl
theorem om {c:aE} {n:Int} (h:et c n=true):0<=c.Bar/\c.Bar<=4095:=by
 unfold et jo at h;simp only[Z9,qag] at h;exact h.1.2
def oG:List Int->List Int->Bool
 | a :: l,b :: m=>jo a 0 8&&!((b != a)&&(b != 0))&&oG l m
 | _,_=>true
theorem LZ (n:Nat) (x:aR) (hl:x.Got.length<=4611686018427387904) (hd:x.Did.length=x.Got.length):∀ (m i:Nat),i<=x.Got.length->x.Got.length - i<m ->
  nd n x.Got (x.Got.length:Int) x m (i:Int)=some (bif oG (x.Got.drop i) (x.Did.drop i) then .inr () else .inl false)
 | 0,i,_,h=>absurd h (qaF _)
 | m+1,i,hi,h=>by
  rw[nd];by_cases hlt:i<x.Got.length
  ·have hlt':i<x.Did.length:=by omega
   rw[show decide ((i:Int)<(x.Got.length:Int))=true by simpa using hlt,qaa,bE,bE,Z7 hlt,Z7 hlt',Z6,Bv,Z6,qas hlt,qas hlt',rh o3,LZ n x hl hd m (i+1) o3 o3];simp only[oG,Z6]
   cases jo x.Got[i] 0 8<;>cases (x.Did[i] != x.Got[i])<;>cases (x.Did[i] != 0)<;>simp
  ·rw[show decide ((i:Int)<(x.Got.length:Int))=false by simpa using hlt,Z8,qaH.2 o3];rfl
def gF (role n:Int):Int->List aE->Bool
 | _,[]=>true
 | lo,c :: l=>et c n&&(c.Role==role)&&!decide (c.Bar<lo)&&gF role n (c.Bar+1) l
theorem LX (n:Nat) (role k:Int) (z:Bool) (x:aR) (hl:x.Cues.length<=4611686018427387904):∀ (m i:Nat) (lo:Int),i<=x.Cues.length->x.Cues.length - i<m ->
  ng n role k z x.Cues (x.Cues.length:Int) m lo (i:Int)=some (bif gF role k lo (x.Cues.drop i) then .inr () else .inl false)
 | 0,i,_,_,h=>absurd h (qaF _)
 | m+1,i,lo,hi,h=>by
  rw[ng];by_cases hlt:i<x.Cues.length
  ·rw[show decide ((i:Int)<(x.Cues.length:Int))=true by simpa using hlt,qaa,bE,Z7 hlt,Z6,NQ,Z6,qas hlt,rh o3];simp only[gF]
   cases hr:et x.Cues[i] k with
   | false=>rfl
   | true=>
    obtain ⟨b1,b2⟩:=om hr;rw[dy o3 o3,LX n role k z x hl m (i+1) _ o3 o3];simp only[bne]
    cases (x.Cues[i].Role==role)<;>cases decide (x.Cues[i].Bar<lo)<;>simp
  ·rw[show decide ((i:Int)<(x.Cues.length:Int))=false by simpa using hlt,Z8,qaH.2 o3];rfl
def nX (x:aR) (role n bar:Int):Bool:=(x.Got.length:Int)==bar&&(x.Did.length:Int)==bar&&oG x.Got x.Did&&gF role n bar x.Cues
theorem VN (x:aR) (role n bar:Int) (h1:x.Got.length<=4611686018427387904) (h2:x.Cues.length<=4611686018427387904):Ou x role n bar=some (nX x role n bar):=by
 unfold Ou Rf nX;simp only[bne]
 cases hg:((x.Got.length:Int)==bar) with
 | false=>rfl
 | true=>cases hd:((x.Did.length:Int)==bar) with
  | false=>rfl
  | true=>
   have e1:=eq_of_beq hg; have e2:=eq_of_beq hd;have w1:=LZ aD x h1 o3 (aD+8) 0 (qav _) u3;have w2:=LX aD role n false x h2 (aD+8) 0 bar (qav _) u3;rw[show ((0:Nat):Int)=0 from rfl,qaM] at w1 w2;rw[qaM] at w1;simp only[qau,Z8,Z6,w1,w2,qaX]
   cases oG x.Got x.Did<;>cases gF role n bar x.Cues<;>rfl
def uS (w:ay) (r:bH):Bool:=match bG w.Ears r.Role with
 | some y=>match bG y.Did r.Bar with
  | some d=>d==r.Program
  | none=>false
 | none=>false
def zp (w:ay) (p:aC):Bool:=match msg p.Data with
 | some (.inl c)=>et c (w.Ears.length:Int)&&(p.From==0)&&(p.To==wr .i64 (c.Role+1))
 | some (.inr r)=>jo r.Role 0 ((w.Ears.length:Int) - 1)&&jo r.Bar 0 (w.Bar - 1)&&(p.From==wr .i64 (r.Role+1))&&(p.To==0)&&uS w r
 | none=>false
def Mk (w:ay):Prop:=∀ x∈w.Ears,(x.Did.length:Int)=w.Bar
theorem Tn {w:ay} {r:bH} (he:Mk w) (h1:jo r.Role 0 ((w.Ears.length:Int) - 1)=true) (h2:jo r.Bar 0 (w.Bar - 1)=true):(Option.bind (bG w.Ears r.Role) λy=>Option.bind (bG y.Did r.Bar) λz=>some (z==r.Program))=some (uS w r):=by
 unfold jo at h1 h2;simp only[Z9,qag] at h1 h2;unfold uS;have e1:r.Role=((r.Role.toNat:Nat):Int):=o3;have e2:r.Bar=((r.Bar.toNat:Nat):Int):=o3;have l1:r.Role.toNat<w.Ears.length:=o3;rw[e1,bE,Z7 l1];have l2:r.Bar.toNat<w.Ears[r.Role.toNat].Did.length:=by have:=he _ (qaB l1); omega
 simp only[Z6]
 rw[e2,bE,Z7 l2];rfl
theorem LY (n:Nat) (z:Int) (w:ay) (hl:w.Ears.length<=12) (hg:∀ x∈w.Ears,x.Got.length<=4611686018427387904/\x.Cues.length<=4611686018427387904):∀ (m i:Nat),i<=w.Ears.length->w.Ears.length - i<m ->
  mY n z (w.Ears.length:Int) w.Ears (w.Ears.length:Int) w m (i:Int)=some (if ∀ j (h:j<w.Ears.length),i<=j->nX w.Ears[j] j (w.Ears.length:Int) w.Bar=true then .inr () else .inl 490)
 | 0,i,_,h=>absurd h (qaF _)
 | m+1,i,hi,h=>by
  rw[mY];by_cases hlt:i<w.Ears.length
  ·obtain ⟨a1,a2⟩:=hg _ (qaB hlt);rw[show decide ((i:Int)<(w.Ears.length:Int))=true by simpa using hlt,qaa,bE,Z7 hlt,Z6,VN _ _ _ _ a1 a2,Z6];cases he:nX w.Ears[i] i (w.Ears.length:Int) w.Bar with
   | false=>
    rw[qah (λq=>by rw[q i hlt (qab _)] at he; cases he)]; rfl
   | true=>
    rw[rh o3,LY n z w hl hg m (i+1) o3 o3];simp only[qau,Z8]
    refine qa7 some (ite_congr (propext ⟨λq j hj hij=>?_,λq j hj hij=>q j hj o3⟩) (λ_=>rfl) (λ_=>rfl));rcases qc6 hij with rfl | h2
    ·exact he
    ·exact q j hj h2
  ·rw[show decide ((i:Int)<(w.Ears.length:Int))=false by simpa using hlt,Z8,qaf (λj hj hij=>o3)]
theorem L0 (n:Nat) (z:Int) (w:ay) (he:Mk w) (hn:w.Ears.length<=12) (hb:-1<=w.Bar/\w.Bar<=4096) (hp:∀ p∈w.Net.Queue,p.Data.length<=1100000) (hq:w.Net.Queue.length<=4096):∀ (m i:Nat),i<=w.Net.Queue.length->w.Net.Queue.length - i<m ->
  km n z (w.Ears.length:Int) w.Net.Queue (w.Net.Queue.length:Int) w m (i:Int)=some (bif (w.Net.Queue.drop i).all (zp w) then .inr () else .inl 490)
 | 0,i,_,h=>absurd h (qaF _)
 | m+1,i,hi,h=>by
  rw[km];by_cases hlt:i<w.Net.Queue.length
  ·obtain ⟨r,hr,hm⟩:=QX w.Net.Queue[i].Data (hp _ (qaB hlt));rw[show decide ((i:Int)<(w.Net.Queue.length:Int))=true by simpa using hlt,qaa,bE,Z7 hlt,Z6,hr,Z6,qas hlt,qco,rh o3,L0 n z w he hn hb hp hq m (i+1) o3 o3];simp only[NQ,Bv,Z6]
   rw[dy (n:=(w.Ears.length:Int) - 1) o3 o3,dy (n:=w.Bar - 1) o3 o3];unfold zp;generalize w.Net.Queue[i]=p at *
   match hg:msg p.Data,hm with
   | none,hm=>
    simp only[show r.2=false from hm]
    simp
   | some (.inl c),hm=>
    simp only at hm;subst hm;simp only[qbj,qaa,Z6]
    cases et c (w.Ears.length:Int)<;>cases (p.From==0)<;>cases (p.To==wr .i64 (c.Role+1))<;>simp
   | some (.inr c),hm=>
    simp only at hm;subst hm;simp only[show ((2:Int)==1)=false from rfl,qaa,Z8,Z6]
    cases hr':jo c.Role 0 ((w.Ears.length:Int) - 1) with
    | false=>simp
    | true=>cases hb':jo c.Bar 0 (w.Bar - 1) with
     | false=>simp
     | true=>
      have hd:=Tn he hr' hb';simp only[qaa,Z6]
      cases (p.From==wr .i64 (c.Role+1)) with
      | false=>simp
      | true=>cases (p.To==0) with
       | false=>simp
       | true=>
        simp only[qaa,Z6,hd]
        cases uS w c<;>simp
  ·rw[show decide ((i:Int)<(w.Net.Queue.length:Int))=false by simpa using hlt,Z8,qaH.2 o3];rfl
def okW (w:ay):Prop:=(1<=w.Ears.length/\w.Ears.length<=12)/\(0<=w.Bar/\w.Bar<=4096)/\rR w.Net=true/\(∀ j (h:j<w.Ears.length),nX w.Ears[j] j (w.Ears.length:Int) w.Bar=true)/\w.Net.Queue.all (zp w)=true
def Fit (w:ay):Prop:=w.Net.Apart.length<=4611686018427387904/\∀ x∈w.Ears,x.Got.length<=4611686018427387904/\x.Cues.length<=4611686018427387904
open Classical in
noncomputable def oM (w:ay):Int:=if okW w then 0 else 490
theorem fG {w:ay} (h:okW w):oM w=0:=qaf h
theorem nu {w:ay} (h:¬ okW w):oM w=490:=qah h
theorem D2 {p:aC} (h:kY p=true):p.Data.length<=1100000:=by
 unfold kY at h;simp only[Z9,qag] at h;omega
theorem rS {x:aP} (h:rR x=true):x.Queue.length<=4096/\∀ p∈x.Queue,p.Data.length<=1100000:=by
 unfold rR at h;simp only[Z9,qag,qak] at h;exact⟨h.1.1,λp hp=>D2 (h.1.2 p hp)⟩
theorem DD {w:ay} (h:∀ j (h:j<w.Ears.length),nX w.Ears[j] j (w.Ears.length:Int) w.Bar=true):Mk w:=λx hx=>by
 obtain ⟨j,hj,rfl⟩:=qa2 hx;have:=h j hj;unfold nX at this;simp only[Z9] at this;exact eq_of_beq this.1.1.2
theorem Bu (w:ay) (hf:Fit w):Fv w=some (oM w):=by
 unfold Fv Q6;simp only[Bv,J1 _ hf.1,Z6]
 by_cases h1:1<=w.Ears.length/\w.Ears.length<=12
 ·have e1:jo (w.Ears.length:Int) 1 12=true:=by unfold jo; simp; omega
  by_cases h2:0<=w.Bar/\w.Bar<=4096
  ·have e2:jo w.Bar 0 4096=true:=by unfold jo; simp; omega
   cases h3:rR w.Net with
   | false=>rw[nu (λq=>by rw[q.2.2.1] at h3; cases h3),e1,e2]; rfl
   | true=>
    obtain ⟨q1,q2⟩:=rS h3;have w1:=LY aD 0 w h1.2 hf.2 (aD+8) 0 (qav _) u3;rw[show ((0:Nat):Int)=0 from rfl] at w1;simp only[e1,e2,qau,Z8,Z6,qb4,qaP,w1]
    by_cases h4:∀ j (h:j<w.Ears.length),nX w.Ears[j] j (w.Ears.length:Int) w.Bar=true
    ·have w2:=L0 aD 0 w (DD h4) h1.2 o3 q2 q1 (aD+8) 0 (qav _) u3;rw[show ((0:Nat):Int)=0 from rfl,qaM] at w2;rw[qaf (λj h _=>h4 j h)];simp only[w2]
     cases h5:w.Net.Queue.all (zp w) with
     | false=>rw[nu (λq=>by rw[q.2.2.2.2] at h5; cases h5)]; rfl
     | true=>rw[fG ⟨h1,h2,h3,h4,h5⟩]; rfl
    ·rw[qah (λq=>h4 (λj h=>q j h (qav _))),nu (λq=>h4 q.2.2.2.1)]
  ·have e2:jo w.Bar 0 4096=false:=by unfold jo; rw[qce]; intro q; simp only[Z9,qag] at q; exact h2 q
   rw[nu (λq=>h2 q.2.1),e1,e2]; rfl
 ·have e1:jo (w.Ears.length:Int) 1 12=false:=by unfold jo; rw[qce]; intro q; simp only[Z9,qag] at q; exact h1 o3
  rw[nu (λq=>h1 q.1),e1]; rfl
end
theorem VB:G7=some true:=r7
def vI (n:Int):aw:=.mk 1 n ByteArray.empty []
def vL (l:List Int):aw:=.mk 3 0 ByteArray.empty (l.map vI)
theorem Hv:ee 0:=ZV
theorem PQ:ee 1:=ZV
theorem TU:ee 2:=ZV
theorem TV:ee 3:=ZV
theorem MY (n:Int):ue (vI n)=true:=by
 rw[n5];show (emp ByteArray.empty&&(((0:Nat):Int)==0))=true;decide +kernel
theorem DF:∀ l:List Int,mP (l.map vI)=true
 | []=>rO
 | n :: l=>by rw[qbc,nw,MY,DF l]; rfl
theorem MZ (l:List Int):ue (vL l)=true:=by
 rw[n5];show (mP (l.map vI)&&(((0:Int)==0)&&emp ByteArray.empty))=true;rw[DF]; decide +kernel
theorem MK (n:Int):dep (vI n)=0:=by rw[pa]; rfl
theorem Du:∀ l:List Int,oN (l.map vI)=0
 | []=>pb
 | n :: l=>by rw[qbc,lu,MK,Du l]; rfl
theorem GM (l:List Int):jT (vL l)=0:=by
 unfold jT;rw[MZ,pa];show (bif true then bif decide (16<oN (l.map vI)+1) then (2:Int) else 0 else 1)=0;rw[Du]; rfl
theorem Nh (n:Int):oJ (vI n)=1:=by rw[fy]; show 1+0 / 200+nD []=1; rw[nE]
theorem DZ:∀ l:List Int,nD (l.map vI)=l.length
 | []=>nE
 | n :: l=>by rw[qbc,lz,Nh,DZ l,qae]; omega
theorem zj (l:List Int):oJ (vL l)=1+l.length:=by rw[fy]; show 1+0 / 200+nD (l.map vI)=_; rw[DZ]
theorem Qp {n:Int} (h:ee n):b7 (vI n):=(dZ _).2 ⟨PQ,h,qav _,qav _,λ_ q=>by cases q⟩
theorem D4 {l:List Int} (h:∀ n∈l,ee n) (hl:l.length<=1000):b7 (vL l):=(dZ _).2 ⟨TV,Hv,qav _,by show (l.map vI).length<=_; rw[qbH]; exact qaC hl (by decide),λz hz=>by
 obtain ⟨n,hn,rfl⟩:=qdb.1 hz;exact Qp (h n hn)⟩
theorem Dx (l:List Int):EO (vL l)=(iE (vL l),0):=by unfold EO; rw[GM]; rfl
theorem Dy {l:List Int} (h:∀ n∈l,ee n) (hl:l.length<=1000):Mn (vL l)=some (iE (vL l),0):=by
 have h1:=Zg (vL l) (D4 h hl) (by rw[zj]; omega);rw[Dx] at h1;exact h1
theorem JD {l:List Int} (h:∀ n∈l,ee n) (hl:l.length<=1000):NX (vL l)=some (iE (vL l),0):=by
 have h2:=Zh (vL l) (D4 h hl) (by rw[zj]; omega);rw[Dx] at h2;exact h2
def EH (c:aE):List Int:=[1,c.No,c.Role,c.Bar,c.Program]
def IE (r:bH):List Int:=[2,r.Role,r.Bar,r.Program]
def uQ (c:aE):List UInt8:=iE (vL (EH c))
def sV (r:bH):List UInt8:=iE (vL (IE r))
theorem tX {c:aE} (h:jG c):∀ n∈EH c,ee n:=by
 obtain ⟨h1,h2,h3,h4⟩:=h;intro n hn;simp only[EH,qaD,qb3,qel] at hn;rcases hn with rfl | rfl | rfl | rfl | rfl
 ·exact PQ
 all_goals assumption
theorem zy {c:bH} (h:jj c):∀ n∈IE c,ee n:=by
 obtain ⟨h1,h2,h3⟩:=h;intro n hn;simp only[IE,qaD,qb3,qel] at hn;rcases hn with rfl | rfl | rfl | rfl
 ·exact TU
 all_goals assumption
theorem mM (l:List aw) (x:aw) (h:l.length<=1000):cU 56 l [x]=some (l++[x]):=fA _ _ _ ZQ
theorem M6 (n:Nat) (m:aQ) (z1 z2:Int) (z3:ByteArray) (k:Nat):eY n 5 m z1 z2 z3 (k+6) 0 []=some ([m.kind,m.cue.No,m.cue.Role,m.cue.Bar,m.cue.Program].map vI):=by
 rw[eY];simp only[Int.reduceEq,Int.reduceLT,qam,qbg,qaa,Z8,Z6,q1]
 rw[mM _ _ r8,Z6,eY];simp only[Int.reduceEq,Int.reduceLT,qam,qbg,qaa,Z8,Z6,q2]
 rw[mM _ _ r8,Z6,eY];simp only[Int.reduceEq,Int.reduceLT,qam,qbg,qaa,Z8,Z6,q3]
 rw[mM _ _ r8,Z6,eY];simp only[Int.reduceEq,Int.reduceLT,qam,qbg,qaa,Z8,Z6,q4]
 rw[mM _ _ r8,Z6,eY];simp only[Int.reduceEq,Int.reduceLT,qam,qbg,qaa,Z8,Z6,q5]
 rw[mM _ _ r8,Z6,eY];rfl
theorem JV (n:Nat) (m:aQ) (z1 z2:Int) (z3:ByteArray) (k:Nat):eQ n 4 m z1 z2 z3 (k+5) 0 []=some ([m.kind,m.report.Role,m.report.Bar,m.report.Program].map vI):=by
 rw[eQ];simp only[Int.reduceEq,Int.reduceLT,qam,qbg,qaa,Z8,Z6,q1]
 rw[mM _ _ r8,Z6,eQ];simp only[Int.reduceEq,Int.reduceLT,qam,qbg,qaa,Z8,Z6,q2]
 rw[mM _ _ r8,Z6,eQ];simp only[Int.reduceEq,Int.reduceLT,qam,qbg,qaa,Z8,Z6,q3]
 rw[mM _ _ r8,Z6,eQ];simp only[Int.reduceEq,Int.reduceLT,qam,qbg,qaa,Z8,Z6,q4]
 rw[mM _ _ r8,Z6,eQ];rfl
theorem QW {c:aE} (h:jG c):Jj ⟨1,c,⟨0,0,0⟩⟩=some (uQ c):=by
 unfold Jj Oh;have hw:=M6 aD ⟨1,c,⟨0,0,0⟩⟩ 3 0 ByteArray.empty (aD+2);rw[show aD+2+6=aD+8 from rfl] at hw;simp only[qbj,qaa,hw,Z6]
 rw[show (aw.mk 3 0 ByteArray.empty ([1,c.No,c.Role,c.Bar,c.Program].map vI))=vL (EH c) from rfl,Dy (tX h) (qax rfl)];rfl
theorem Mj {c:bH} (h:jj c):Jj ⟨2,⟨0,0,0,0⟩,c⟩=some (sV c):=by
 unfold Jj Oh;have hw:=JV aD ⟨2,⟨0,0,0,0⟩,c⟩ 3 0 ByteArray.empty (aD+3);rw[show aD+3+5=aD+8 from rfl] at hw;simp only[show ((2:Int)==1)=false from rfl,Z8,hw,Z6]
 rw[show (aw.mk 3 0 ByteArray.empty ([2,c.Role,c.Bar,c.Program].map vI))=vL (IE c) from rfl,Dy (zy h) (qax rfl)];rfl
theorem HQ (n:Nat) (l:List Int) (z1 z2:Int) (z3:ByteArray) (hl:l.length<=1000):∀ (m i:Nat),i<=l.length->l.length - i<m ->
  nk n l z1 z2 z3 m (i:Int) ((l.take i).map vI)=some (l.map vI)
 | 0,i,_,h=>absurd h (qaF _)
 | m+1,i,hi,h=>by
  rw[nk];by_cases hlt:i<l.length
  ·rw[show decide ((i:Int)<(l.length:Int))=true by simpa using hlt,qaa,bE,Z7 hlt,Z6,show RM l[i]=some (vI l[i]) from rfl,Z6,mM _ _ r9,Z6,rh o3,show (l.take i).map vI++[vI l[i]]=(l.take (i+1)).map vI by rw[List.take_add_one,qdl,Z7 hlt]; rfl];exact HQ n l z1 z2 z3 hl m (i+1) o3 o3
  ·rw[show decide ((i:Int)<(l.length:Int))=false by simpa using hlt,Z8,qaK o3]
theorem VT (l:List Int) (hl:l.length<=1000):OA l=some (vL l):=by
 unfold OA Ru;have hw:=HQ aD l 3 0 ByteArray.empty hl (aD+8) 0 (qav _) u3;rw[show ((0:Nat):Int)=0 from rfl,qci,qdh] at hw;rw[hw]; rfl
theorem VM {c:aE} (h:jG c):Ot c=some (uQ c):=by
 unfold Ot Rc;rw[VT _ (qax rfl),Z6,show vL ([1,c.No,c.Role,c.Bar,c.Program])=vL (EH c) from rfl,JD (tX h) (qax rfl)];rfl
def zW:ay:=⟨⟨[],[]⟩,[],0⟩
noncomputable def xK (w:ay) (c:aE):ay×Int:=
 bif oM w != 0 then (zW,oM w) else bif !et c (w.Ears.length:Int) then (zW,1) else
 bif (rX w.Net ⟨0,wr .i64 (c.Role+1),uQ c⟩).2 != 0 then (zW,(rX w.Net ⟨0,wr .i64 (c.Role+1),uQ c⟩).2) else (⟨(rX w.Net ⟨0,wr .i64 (c.Role+1),uQ c⟩).1,w.Ears,w.Bar⟩,0)
theorem ZK (w:ay) (c:aE) (hf:Fit w) (hq:w.Net.Queue.length<=4095) (hc:jG c):G9 w c=some (xK w c):=by
 unfold G9 F9 xK;simp only[Bu w hf,NQ,QW hc,Qd _ _ hq hf.1,Z6]
 cases oM w != 0<;>cases et c (w.Ears.length:Int)<;>cases (rX w.Net ⟨0,wr .i64 (c.Role+1),uQ c⟩).2 != 0<;>rfl
theorem HO (n:Nat) (l:List Int) (hl:l.length<=4611686018427387904):∀ (m i:Nat),i<=l.length->l.length - i<m->nj n l l m (i:Int)=some (.inr ())
 | 0,i,_,h=>absurd h (qaF _)
 | m+1,i,hi,h=>by
  rw[nj];by_cases hlt:i<l.length
  ·rw[show decide ((i:Int)<(l.length:Int))=true by simpa using hlt,qaa,bE,Z7 hlt,Z6,Z6,qaP,Z8,rh o3];exact HO n l hl m (i+1) o3 o3
  ·rw[show decide ((i:Int)<(l.length:Int))=false by simpa using hlt]; rfl
theorem Eo (l:List Int) (hl:l.length<=4611686018427387904):Lc l l=some true:=by
 unfold Lc Ro;have hw:=HO aD l hl (aD+8) 0 (qav _) u3;rw[show ((0:Nat):Int)=0 from rfl] at hw;rw[qaP,Z8,hw]; rfl
def Jg (w:ay):Prop:=w.Net.Queue.length<=4000/\w.Net.Apart.length<=4000/\w.Ears.length<=20/\∀ x∈w.Ears,x.Cues.length<=5000/\x.Got.length<=5000/\x.Did.length<=5000
theorem Jg.fit {w:ay} (h:Jg w):Fit w:=⟨by have:=h.2.1; omega,λx hx=>by have:=h.2.2.2 x hx; omega⟩
theorem UJ {n:Int} (h1:1<=n) (h2:n<=12):BE 72 n (aR.mk [] [] [])=some (List.replicate n.toNat (aR.mk [] [] [])):=by
 unfold BE;rw[BD,qac o3,qac o3,qac o3]; rfl
def Nc (n:Int):ay×Int:=if 1<=n/\n<=12 then (⟨⟨[],[]⟩,List.replicate n.toNat (aR.mk [] [] []),0⟩,0) else (zW,1)
theorem VK (n:Int):Ol n=some (Nc n):=by
 unfold Ol Q5 Nc;rw[Bv,Z6];by_cases h:1<=n/\n<=12
 ·rw[qaf h,show jo n 1 12=true by unfold jo; simp[h.1,h.2],UJ h.1 h.2]; rfl
 ·rw[qah h,show jo n 1 12=false by unfold jo; rw[qce]; intro q; simp only[Z9,qag] at q; exact h q]; rfl
def zN:aP:=⟨[],[]⟩
def qA (x:aP) (p:aC):aP×Int:=bif rR x&&kY p then (bif (x.Queue.length:Int)==4096 then (zN,2) else (⟨x.Queue++[p],x.Apart⟩,0)) else (zN,60)
theorem L9 {x:aP} (h:rR x=true):x.Queue.length<=4096:=(rS h).1
theorem QT (x:aP) (p:aC) (hA:x.Apart.length<=4611686018427387904):I6 x p=some (qA x p):=by
 unfold I6 Og qA;rw[J1 x hA,Z6,Nd];cases hx:rR x with
 | false=>rfl
 | true=>
  have:=L9 hx;cases kY p with
  | false=>rfl
  | true=>
   cases he:((x.Queue.length:Int)==4096) with
   | true=>simp[he]; rfl
   | false=>
    simp only[he,Br,Z6]
    rw[fA _ _ _ ZQ];rfl
theorem sY {x:aP} {p:aC} (h1:x.Apart.length<=4611686018427387904):(qA x p).1.Apart.length<=4611686018427387904/\(qA x p).1.Queue.length<=4097:=by
 unfold qA;cases hx:rR x with
 | false=>exact⟨qav _,qav _⟩
 | true=>
  have:=L9 hx;cases kY p with
  | false=>exact⟨qav _,qav _⟩
  | true=>
   cases ((x.Queue.length:Int)==4096) with
   | true=>exact⟨qav _,qav _⟩
   | false=>exact⟨h1,by show (x.Queue++[p]).length<=_; simp; omega⟩
def og (x:aP) (role bar d:Int):aP×Int:=qA x ⟨wr .i64 (role+1),0,sV ⟨role,bar,d⟩⟩
def zA (role:Int):aP->Int->List Int->Int⊕aP
 | x,_,[]=>.inr x
 | x,bar,d :: l=>bif (og x role bar d).2 != 0 then .inl (og x role bar d).2 else zA role (og x role bar d).1 (bar+1) l
theorem jN {n:Int} (h:-9000000000000000000<=n) (h':n<=9000000000000000000):ee n:=ZV
theorem LV (n:Nat) (w:ay) (role:Int) (z1:List Int) (z2 z3:Int) (L:List Int) (z9:List aC) (z10:List (Int×Int)) (z11:List aR) (z12 z13:Int)
  (hr:ee role) (hL:L.length<=4611686018427387904) (hd:∀ d∈L,ee d):∀ (m i:Nat) (a:ay),a.Net.Apart.length<=4611686018427387904->i<=L.length->L.length - i<m ->
  lF n w 0 role z1 z2 z3 L (L.length:Int) z9 z10 z11 z12 z13 m (i:Int) a=some (match zA role a.Net (i:Int) (L.drop i) with | .inl e=>.inl e | .inr x=>.inr ⟨x,a.Ears,a.Bar⟩)
 | 0,i,_,_,_,h=>absurd h (qaF _)
 | m+1,i,a,hA,hi,h=>by
  rw[lF];by_cases hlt:i<L.length
  ·rw[show decide ((i:Int)<(L.length:Int))=true by simpa using hlt,show decide ((0:Int)<=(i:Int))=true by simp,qas hlt,zA];have hrep:jj ⟨role,(i:Int),L[i]⟩:=⟨hr,show ee ((i:Nat):Int) from jN o3 o3,hd _ (qaB hlt)⟩
   simp only[qaa,bE,Z7 hlt,Z6,Mj hrep,QT _ _ hA]
   have e:qA a.Net ⟨wr .i64 (role+1),0,sV ⟨role,(i:Int),L[i]⟩⟩=og a.Net role i L[i]:=rfl;rw[e];cases hb:((og a.Net role i L[i]).2 != 0) with
   | true=>rfl
   | false=>
    simp only[Z8]
    rw[rh o3,show (i:Int)+1=((i+1:Nat):Int) by omega];exact LV n w role z1 z2 z3 L z9 z10 z11 z12 z13 hr hL hd m (i+1) ⟨(og a.Net role i L[i]).1,a.Ears,a.Bar⟩ (sY hA).1 o3 o3
  ·rw[show decide ((i:Int)<(L.length:Int))=false by simpa using hlt,Z8,qaH.2 o3];rfl
noncomputable def sC (w:ay) (role:Int):ay×Int:=
 bif oM w != 0 then (zW,oM w) else bif !jo role 0 ((w.Ears.length:Int) - 1) || (w.Bar==0) then (zW,1) else
 match w.Ears[role.toNat]? with
 | some x=>match zA role w.Net 0 x.Did with | .inl e=>(zW,e) | .inr y=>(⟨y,w.Ears,w.Bar⟩,0)
 | none=>(zW,0)
structure S6 (w:ay):Prop where
 few:Jg w
 ok:lZ w
theorem Iq {w:ay} (h:(oM w != 0)=false):okW w:=by
 unfold oM at h;split at h
 ·assumption
 ·cases h
theorem GY {w:ay} (h:lZ w) {x:aR} (hx:x∈w.Ears):∀ d∈x.Did,ee d:=(h.2.1.2 x hx).2.2.2
theorem VW (w:ay) (role:Int) (h:S6 w):Oq w role=some (sC w role):=by
 unfold Oq Ra sC;rw[Bu w h.few.fit,Z6];cases hc:(oM w != 0) with
 | true=>rfl
 | false=>
  have hw:=Iq hc;obtain ⟨hn1,hn2⟩:=hw.1;rw[dy o3 o3];simp only[Z8,Bv,Z6]
  cases hr:jo role 0 ((w.Ears.length:Int) - 1) with
  | false=>rfl
  | true=>
   cases hb:(w.Bar==0) with
   | true=>rfl
   | false=>
    unfold jo at hr;simp only[Z9,qag] at hr;have hl:role.toNat<w.Ears.length:=o3;have er:role=((role.toNat:Nat):Int):=o3;have hx:=qaB hl;obtain ⟨a1,a2,a3⟩:=h.few.2.2.2 _ hx;have hw1:=LV aD w role [role] 1 0 w.Ears[role.toNat].Did [] [] [] 0 0 (jN o3 o3) o3 (GY h.ok hx) (aD+6) 0 w (by have:=h.few.2.1; omega) (qav _) u3;rw[show ((0:Nat):Int)=0 from rfl,qaM] at hw1;have g1:bG [role] 0=some role:=rfl;have g2:bG w.Ears role=some w.Ears[role.toNat]:=by unfold bG; rw[qac o3]; exact Z7 hl
    have hF:lE aD w 0 [role] (([role]:List Int).length:Int) [] [] [] 0 0 (aD+6) 0 w=some (match zA role w.Net 0 w.Ears[role.toNat].Did with | .inl e=>.inl e | .inr x=>.inr ⟨x,w.Ears,w.Bar⟩):=by
     rw[show aD+6=(aD+4)+1+1 from rfl,lE];simp only[qae,qaq,g1,g2,Z6,show ((0+1:Nat):Int)=1 from rfl,show decide ((0:Int)<1)=true from rfl,qaa]
     rw[show aD+4+1+1=aD+6 from rfl] at *
     rw[hw1];cases zA role w.Net 0 w.Ears[role.toNat].Did with
     | inl e=>rfl
     | inr x=>
      simp only[Z6,q1]
      rw[lE];rfl
    rw[Z7 hl];simp only[qau,Z8,qaa,Z6,show NV w 0 [role]=some ([role],w,0) from rfl,hF]
    cases zA role w.Net 0 w.Ears[role.toNat].Did<;>rfl
section
def kV (n:Int):Int->List Int->Bool
 | _,[]=>true
 | last,i :: l=>jo i (last+1) (n - 1)&&kV n i l
theorem HU (n:Nat) (k:Int) (L:List Int) (z1:List aC) (z2:List (Int×Int)) (z3:List aR) (z4:Int) (hk:1<=k/\k<=12) (hL:L.length<=4611686018427387904):∀ (m i:Nat) (last:Int),-1<=last/\last<=12->i<=L.length->L.length - i<m ->
  mZ n k L (L.length:Int) z1 z2 z3 z4 m last (i:Int)=some (bif kV k last (L.drop i) then .inr () else .inl 1)
 | 0,i,_,_,_,h=>absurd h (qaF _)
 | m+1,i,last,hl,hi,h=>by
  rw[mZ];by_cases hlt:i<L.length
  ·rw[show decide ((i:Int)<(L.length:Int))=true by simpa using hlt,qaa,bE,Z7 hlt,Z6,Bv,Z6,qas hlt,kV,dy (n:=last+1) o3 o3,dy (n:=k - 1) o3 o3,rh o3];cases hw:jo L[i] (last+1) (k - 1) with
   | false=>rfl
   | true=>
    unfold jo at hw;simp only[Z9,qag] at hw;simp only[qau,Z8,qaX]
    exact HU n k L z1 z2 z3 z4 hk hL m (i+1) L[i] o3 o3 o3
  ·rw[show decide ((i:Int)<(L.length:Int))=false by simpa using hlt,Z8,qaH.2 o3];rfl
def gB (g:List Int) (j:Nat):Bool:=match g[j]? with
 | some x=>jo x 0 (j:Int)&&decide (bG g x=some x)
 | none=>true
theorem HT (n:Nat) (g:List Int) (z1:List aC) (z2:List (Int×Int)) (z3:List aR) (z4:Int) (hL:g.length<=4611686018427387904):∀ (m i:Nat),i<=g.length->g.length - i<m ->
  na n g g (g.length:Int) z1 z2 z3 z4 m (i:Int)=some (if ∀ j (h:j<g.length),i<=j->gB g j=true then .inr () else .inl 1)
 | 0,i,_,h=>absurd h (qaF _)
 | m+1,i,hi,h=>by
  rw[na];by_cases hlt:i<g.length
  ·rw[show decide ((i:Int)<(g.length:Int))=true by simpa using hlt,qaa,bE,Z7 hlt,Z6,Bv,Z6,rh o3,HT n g z1 z2 z3 z4 hL m (i+1) o3 o3];have hg:gB g i=(jo g[i] 0 (i:Int)&&decide (bG g g[i]=some g[i])):=by unfold gB; rw[Z7 hlt]
   cases hw:jo g[i] 0 (i:Int) with
   | false=>
    rw[qah (show ¬ (∀ j (h:j<g.length),i<=j->gB g j=true) from λq=>by have:=q i hlt (qab _); rw[hg,hw] at this; cases this)]; rfl
   | true=>
    have hw':=hw;unfold jo at hw';simp only[Z9,qag] at hw';have hx:g[i].toNat<g.length:=o3;have e:bG g g[i]=some g[g[i].toNat]:=by unfold bG; rw[qac hw'.1,qaa]; exact Z7 hx
    rw[e];simp only[qau,Z8,Z6]
    by_cases hq:g[g[i].toNat]=g[i]
    ·rw[hq,qaP,Z8];refine qa7 some (ite_congr (propext ⟨λq j hj hij=>?_,λq j hj hij=>q j hj o3⟩) (λ_=>rfl) (λ_=>rfl));rcases qc6 hij with rfl | h2
     ·rw[hg,hw,e,hq]; simp
     ·exact q j hj h2
    ·rw[sE hq,qah (show ¬ (∀ j (h:j<g.length),i<=j->gB g j=true) from λq=>by have:=q i hlt (qab _); rw[hg,hw,e] at this; simp at this; exact hq this)]; rfl
  ·rw[show decide ((i:Int)<(g.length:Int))=false by simpa using hlt,Z8,qaf (λj hj hij=>o3)]
theorem HP (n:Nat) (L:List Int) (x:Int) (hL:L.length<=4611686018427387904):∀ (m i:Nat),i<=L.length->L.length - i<m ->
  (∃ j:Int,0<=j/\lG n L x (L.length:Int) m (i:Int)=some (.inl j)/\x∈L.drop i)∨(lG n L x (L.length:Int) m (i:Int)=some (.inr ())/\x ∉ L.drop i)
 | 0,i,_,h=>absurd h (qaF _)
 | m+1,i,hi,h=>by
  rw[lG];by_cases hlt:i<L.length
  ·rw[show decide ((i:Int)<(L.length:Int))=true by simpa using hlt,qaa,bE,Z7 hlt,Z6,rh o3,qas hlt];by_cases hx:x=L[i]
   ·exact .inl ⟨i,o3,by rw[show (x==L[i])=true by simpa using hx]; rfl,by rw[hx]; exact qbq⟩
   ·rw[show (x==L[i])=false by simpa using hx,Z8];rcases HP n L x hL m (i+1) o3 o3 with ⟨j,a,b,c⟩ | ⟨b,c⟩
    ·exact .inl ⟨j,a,b,qbp _ c⟩
    ·exact .inr ⟨b,λq=>by rcases qaD.1 q with q | q; exact hx q; exact c q⟩
  ·rw[show decide ((i:Int)<(L.length:Int))=false by simpa using hlt,Z8,qaH.2 o3];exact .inr ⟨rfl,qb3⟩
theorem VD (L:List Int) (x:Int) (hL:L.length<=4611686018427387904):Ox L x=some (decide (x∈L)):=by
 unfold Ox Rk RL RC;have hw:=HP aD L x hL (aD+8) 0 (qav _) u3;rw[show ((0:Nat):Int)=0 from rfl,qaM] at hw;rcases hw with ⟨j,a,b,c⟩ | ⟨b,c⟩
 ·rw[b,qac c]; simp only[Z6]; rw[qac a]
 ·rw[b,qal c]; rfl
def b8 (w:ay) (deaf:List Int) (j:Nat):Int:=match w.Ears[j]? with
 | some x=>match x.Cues with
  | c :: _=>bif (c.Bar==w.Bar)&&!decide ((j:Int)∈deaf) then c.Program else 0
  | []=>0
 | none=>0
def gr (g:List Int) (j:Nat):Int:=(g[j]?).getD 0
def tN (g:List Int) (V:Nat->Int):Nat->List (Int×Int)
 | 0=>[]
 | i+1=>bif (getM (tN g V i) (gr g i)).isSome&&((getM (tN g V i) (gr g i)).getD 0 != V i) then jM (tN g V i) (gr g i) 0 else jM (tN g V i) (gr g i) (V i)
theorem sN {T:Type} (a:Int) (x:T) (b:Int):∀ m:List (Int×T),getM (jM m a x) b=if b=a then some x else getM m b
 | []=>by
  rw[jM,getM,getM];by_cases h:b=a
  ·rw[qaf h,qac h]; rfl
  ·rw[qah h,qal h]; rfl
 | p :: m=>by
  rw[jM];by_cases h1:a=p.1
  ·rw[qac h1,qaa,getM,getM];by_cases h:b=a
   ·rw[qaf h,qac (h.trans h1)]; rfl
   ·rw[qah h,qal (λq=>h (q.trans h1.symm))]; rfl
  ·rw[qal h1,Z8,getM,getM];by_cases h2:b=p.1
   ·rw[qac h2,qaa,qaa,qah (λq=>h1 (q.symm.trans h2))]
   ·rw[qal h2,Z8,Z8];exact sN a x b m
open Classical in
theorem uh (g:List Int) (V:Nat->Int):∀ i,(∀ b,(∀ j,j<i->gr g j≠b)->getM (tN g V i) b=none)/\(∀ j,j<i->getM (tN g V i) (gr g j)=some (if ∀ k,k<i->gr g k=gr g j->V k=V j then V j else 0))
 | 0=>⟨λb _=>rfl,λj h=>absurd h (qaF _)⟩
 | i+1=>by
  obtain ⟨h1,h2⟩:=uh g V i;obtain ⟨v,hv,hm⟩:∃ v,(v=if (getM (tN g V i) (gr g i)).isSome=true/\(getM (tN g V i) (gr g i)).getD 0≠V i then 0 else V i)/\tN g V (i+1)=jM (tN g V i) (gr g i) v:=by
   refine⟨_,rfl,?_⟩;rw[tN];cases ha:(getM (tN g V i) (gr g i)).isSome with
   | false=>rw[qah (λq=>by cases q.1)]; rfl
   | true=>
    by_cases hb:(getM (tN g V i) (gr g i)).getD 0=V i
    ·rw[qah (λq=>q.2 hb),hb,qaP]; rfl
    ·rw[qaf ⟨rfl,hb⟩,sE hb]; rfl
  rw[hm];refine⟨λb hb=>?_,λj hj=>?_⟩
  ·rw[sN,qah (λq=>hb i (qcy i) q.symm)];exact h1 b (λj hj=>hb j o3)
  ·rw[sN];by_cases hg:gr g j=gr g i
   ·rw[qaf hg];congr 1;rw[hv];by_cases hex:∃ k,k<i/\gr g k=gr g i
    ·obtain ⟨k,hk,hgk⟩:=hex;have hs:=h2 k hk;rw[hgk] at hs;rw[hs];simp only[Option.isSome_some,qbS,qcd]
     by_cases hall:∀ k',k'<i->gr g k'=gr g i->V k'=V k
     ·rw[qaf hall];by_cases hvi:V k=V i
      ·rw[qah (λq=>q hvi),qaf]
       ·rcases qbG.1 hj with q | rfl
        ·rw[<-hvi]; exact(hall j q hg).symm
        ·rfl
       ·intro k' hk' hgk';have a1:V j=V i:=by
         rcases qbG.1 hj with q | rfl
         ·rw[hall j q hg,hvi]
         ·rfl
        rcases qbG.1 hk' with q | rfl
        ·rw[a1,hall k' q (hgk'.trans hg),hvi]
        ·exact a1.symm
      ·rw[qaf hvi,qah];intro q;have b1:=q k o3 (hgk.trans hg.symm);have b2:=q i (qcy i) hg.symm;exact hvi (b1.trans b2.symm)
     ·rw[qah hall];have hno:¬ ∀ k',k'<i+1->gr g k'=gr g j->V k'=V j:=λq=>hall (λk' hk' hgk'=>by rw[q k' o3 (hgk'.trans hg.symm),q k o3 (hgk.trans hg.symm)]);rw[qah hno];by_cases h0:(0:Int)=V i
      ·rw[qah (λq=>q h0)]; exact h0.symm
      ·rw[qaf h0]
    ·have hn:=h1 (gr g i) (λj hj q=>hex ⟨j,hj,q⟩);rw[hn];have hji:j=i:=by
      rcases qbG.1 hj with q | q
      ·exact absurd ⟨j,q,hg⟩ hex
      ·exact q
     subst hji;rw[qah (λq=>by cases q.1),qaf];intro k' hk' hgk';rcases qbG.1 hk' with q | rfl
     ·exact absurd ⟨k',q,hgk'⟩ hex
     ·rfl
   ·rw[qah hg];rcases qbG.1 hj with q | rfl
    ·rw[h2 j q];congr 1;refine ite_congr (propext ⟨λhq k' hk' hgk'=>?_,λhq k' hk' hgk'=>hq k' o3 hgk'⟩) (λ_=>rfl) (λ_=>rfl);rcases qbG.1 hk' with q' | rfl
     ·exact hq k' q' hgk'
     ·exact absurd hgk'.symm hg
    ·exact absurd rfl hg
end
theorem O0 (l:List Int) (x:Int) (h:l.length<=1000000):cU 8 l [x]=some (l++[x]):=fA _ _ _ ZQ
theorem QS (l:List Int) (x:Int) (h:l.length<=10000):Lb l x=some (l++[x]):=by
 unfold Lb Rl;have e0:wr .i64 ((l.length:Int)+1)=((l.length+1:Nat):Int):=rh o3;have e1:BE 8 (((l.length+1:Nat):Int)) (0:Int)=some (List.replicate (l.length+1) 0):=by
  unfold BE;rw[BD,qac o3,qac o3,qac o3]; rfl
 rw[e0,e1,Z6];have e2:gO (List.replicate (l.length+1) (0:Int)).length (l.length:Int)=some l.length:=by
  unfold gO;rw[qb5,qac o3,qac o3]; rfl
 rw[e2,Z6];have e3:tt (List.replicate (l.length+1) (0:Int)) 0 (List.replicate (l.length+1) (0:Int)).length l=l++[0]:=by
  unfold tt bI;have t:l.take (l.length+1)=l:=qaK o3;rw[qb5,t,List.drop_replicate,qaU,qdM]; rfl
 have e4:lY (l++[0]) l.length (λ_:Int=>x)=some (l++[x]):=by
  unfold lY;have t:(l++[(0:Int)])[l.length]? = some 0:=by rw[qay (qab _),qc4]; rfl
  rw[t];show some ((l++[(0:Int)]).set l.length x)=_;rw[List.set_append_right _ _ (qab _),qc4]; rfl
 rw[e3,e4,Z6,qaM,qaK r8]
def qj (n:Nat) (V:Nat->Int) (i:Nat):List Int:=(List.range n).map λj=>if j<i then V j else 0
def gD (i:Nat):List Int:=(List.range i).map λj:Nat=>(j:Int)
theorem ny {n:Nat} {V:Nat->Int} {i:Nat}:(qj n V i).length=n:=by unfold qj; simp
theorem lS {n:Nat} {V:Nat->Int} {i j:Nat} (h:j<n):(qj n V i)[j]? = some (if j<i then V j else 0):=by
 unfold qj;rw[qaO,qc1 h]; rfl
theorem Ho {n:Nat} {V:Nat->Int} {i:Nat} (h:i<n):(qj n V i).set i (V i)=qj n V (i+1):=by
 apply qbz;intro j;rw[qbX,ny];by_cases hj:j<n
 ·rw[lS hj,lS hj];by_cases hij:i=j
  ·subst hij; rw[qaf rfl,qaf h,qaf (qcy i)]
  ·rw[qah hij];by_cases h1:j<i
   ·rw[qaf h1,qaf o3]
   ·rw[qah h1,qah o3]
 ·rw[qa4 (by rw[ny]; omega),qa4 (by rw[ny]; omega)];by_cases hij:i=j
  ·omega
  ·rw[qah hij]
theorem E3 {n:Nat} {V:Nat->Int} {i:Nat} (h:V i=0):qj n V i=qj n V (i+1):=by
 apply qbz;intro j;by_cases hj:j<n
 ·rw[lS hj,lS hj];by_cases hij:j=i
  ·subst hij; rw[qah (qcg _),qaf (qcy _),h]
  ·by_cases h1:j<i
   ·rw[qaf h1,qaf o3]
   ·rw[qah h1,qah o3]
 ·rw[qa4 (by rw[ny]; omega),qa4 (by rw[ny]; omega)]
theorem Ax (i:Nat):gD i++[(i:Int)]=gD (i+1):=by unfold gD; rw[qdf,qdl]; rfl
theorem nZ (i:Nat):(gD i).length=i:=by unfold gD; simp
theorem p8 {n i:Nat} (h:i<n):gO n (i:Int)=some i:=by
 unfold gO;rw[qac o3,qac o3]; rfl
theorem Hi {w:ay} {deaf:List Int} {i:Nat} (h:i<w.Ears.length):b8 w deaf i=match w.Ears[i].Cues with | c :: _=>bif (c.Bar==w.Bar)&&!decide ((i:Int)∈deaf) then c.Program else 0 | []=>0:=by
 unfold b8
 first
 | (rw[Z7 h]; done)
 | (rw[Z7 h]; generalize w.Ears[i]=x; obtain ⟨cs,a,b⟩:=x; cases cs<;>rfl)
theorem HR (n:Nat) (w:ay) (deaf g:List Int) (z1:Int) (hd:deaf.length<=4611686018427387904) (hg:g.length=w.Ears.length) (hn:w.Ears.length<=12):∀ (m i:Nat),i<=w.Ears.length->w.Ears.length - i<m ->
  jq n deaf g z1 w.Ears.length w.Ears (w.Ears.length:Int) w m (i:Int) (qj w.Ears.length (b8 w deaf) i) (tN g (b8 w deaf) i) (gD i)=some (qj w.Ears.length (b8 w deaf) w.Ears.length,tN g (b8 w deaf) w.Ears.length,gD w.Ears.length)
 | 0,i,_,h=>absurd h (qaF _)
 | m+1,i,hi,h=>by
  rw[jq];by_cases hlt:i<w.Ears.length
  ·have hlg:i<g.length:=by omega
   have hgr:bG g (i:Int)=some (gr g i):=by rw[bE]; unfold gr; rw[Z7 hlg]; rfl
   have ih:=HR n w deaf g z1 hd hg hn m (i+1) o3 o3;rw[show decide ((i:Int)<(w.Ears.length:Int))=true by simpa using hlt,qaa,bE,Z7 hlt,Z6,VD _ _ hd,hgr,p8 hlt,O0 _ _ (by rw[nZ]; omega),Ax,rh o3];simp only[Z6]
   have key:(∃ c l,w.Ears[i].Cues=c :: l/\(c.Bar==w.Bar)=true/\decide ((i:Int)∈deaf)=false/\b8 w deaf i=c.Program) ∨
     ((Option.bind (bif decide (0<((w.Ears[i].Cues.length:Nat):Int)) then (Option.bind (bG w.Ears[i].Cues 0) λy=>some (y.Bar==w.Bar)) else some false) λy=>bif y then some (!decide ((i:Int)∈deaf)) else some false)=some false/\b8 w deaf i=0):=by
    rw[Hi hlt];cases hc:w.Ears[i].Cues with
    | nil=>exact .inr ⟨rfl,rfl⟩
    | cons c l=>
     have hpos:decide (0<(((c :: l).length:Nat):Int))=true:=by rw[qae]; exact qac o3
     simp only[hpos,qaa,show bG (c :: l) 0=some c from rfl,Z6]
     cases hb:(c.Bar==w.Bar) with
     | false=>exact .inr ⟨rfl,rfl⟩
     | true=>cases hq:decide ((i:Int)∈deaf) with
      | true=>exact .inr ⟨rfl,rfl⟩
      | false=>exact .inl ⟨c,l,rfl,hb,rfl,rfl⟩
   have hgv:∀ (L:List Int),L=qj w.Ears.length (b8 w deaf) (i+1)->L[i]? = some (b8 w deaf i):=λL hL=>by
    rw[hL,lS hlt,qaf (qcy i)]
   rcases key with ⟨c,l,k1,k2,k3,k4⟩ | ⟨k1,k2⟩
   ·have hpos:decide (0<((w.Ears[i].Cues.length:Nat):Int))=true:=by rw[k1,qae]; exact qac o3
    have hc0:bG w.Ears[i].Cues 0=some c:=by rw[k1]; rfl
    have hmod:lY (qj w.Ears.length (b8 w deaf) i) i (λ_=>c.Program)=some (qj w.Ears.length (b8 w deaf) (i+1)):=by
     unfold lY;rw[lS hlt,<-Ho hlt,k4]
    simp only[hpos,hc0,k2,k3,qaa,qbN,Z6,hmod,hgv _ rfl]
    rw[<-ih]
    conv=>rhs; rw[tN]
    cases (getM (tN g (b8 w deaf) i) (gr g i)).isSome with
    | false=>rfl
    | true=>cases (((getM (tN g (b8 w deaf) i) (gr g i)).getD 0) != b8 w deaf i)<;>rfl
   ·have hz:=E3 (n:=w.Ears.length) k2;rw[hz,hgv _ rfl];simp only[Z6]
    generalize (bif decide (0<((w.Ears[i].Cues.length:Nat):Int)) then (Option.bind (bG w.Ears[i].Cues 0) λy=>some (y.Bar==w.Bar)) else (some false))=X at k1 ⊢;cases X with
    | none=>cases k1
    | some y=>
     have k3:(bif y then some (!decide ((i:Int)∈deaf)) else some false)=some false:=k1;simp only[Z6,k3,Z8]
     rw[<-ih]
     conv=>rhs; rw[tN]
     cases (getM (tN g (b8 w deaf) i) (gr g i)).isSome with
     | false=>rfl
     | true=>cases (((getM (tN g (b8 w deaf) i) (gr g i)).getD 0) != b8 w deaf i)<;>rfl
  ·obtain rfl:i=w.Ears.length:=by omega
   rw[show decide ((w.Ears.length:Int)<(w.Ears.length:Int))=false by simp];rfl
def Cc (g:List Int) (V:Nat->Int) (n j:Nat):Int:=(getM (tN g V n) (gr g j)).getD 0
def tG (bar:Int):List aE->List aE
 | c :: l=>bif c.Bar==bar then l else c :: l
 | []=>[]
def E7 (w:ay) (g:List Int) (V:Nat->Int) (j:Nat):aR:=match w.Ears[j]? with
 | some x=>⟨tG w.Bar x.Cues,x.Got++[V j],x.Did++[Cc g V w.Ears.length j]⟩
 | none=>⟨[],[],[]⟩
def cN (w:ay) (g:List Int) (V:Nat->Int) (i:Nat):List aR:=(List.range i).map (E7 w g V)
theorem Ce (w:ay) (g:List Int) (V:Nat->Int) (i:Nat):cN w g V i++[E7 w g V i]=cN w g V (i+1):=by unfold cN; rw[qdf,qdl]; rfl
theorem fC {w:ay} {g:List Int} {V:Nat->Int} {i:Nat}:(cN w g V i).length=i:=by unfold cN; simp
theorem OZ (l:List aR) (x:aR) (h:l.length<=1000):cU 72 l [x]=some (l++[x]):=fA _ _ _ ZQ
theorem HS (n:Nat) (w:ay) (g:List Int) (V:Nat->Int) (z1:Int) (z0:Nat) (z2:List aC) (z3:List (Int×Int)) (z4:Int) (hg:g.length=w.Ears.length) (hf:Jg w) (hn:w.Ears.length<=12):∀ (m i:Nat),i<=w.Ears.length->w.Ears.length - i<m ->
  lC n g z1 w.Ears.length z0 w.Ears (w.Ears.length:Int) w z2 z3 z4 (qj w.Ears.length V w.Ears.length) (tN g V w.Ears.length) m (i:Int) (cN w g V i)=some (cN w g V w.Ears.length)
 | 0,i,_,h=>absurd h (qaF _)
 | m+1,i,hi,h=>by
  rw[lC];by_cases hlt:i<w.Ears.length
  ·have hlg:i<g.length:=by omega
   have hgr:bG g (i:Int)=some (gr g i):=by rw[bE]; unfold gr; rw[Z7 hlg]; rfl
   obtain ⟨a1,a2,a3⟩:=hf.2.2.2 _ (qaB hlt);have ih:=HS n w g V z1 z0 z2 z3 z4 hg hf hn m (i+1) o3 o3;rw[<-Ce] at ih;rw[show decide ((i:Int)<(w.Ears.length:Int))=true by simpa using hlt,qaa,bE,Z7 hlt,Z6,hgr,p8 hlt,rh o3];simp only[Z6,lS hlt,qaf hlt,QS _ _ (qaC a2 (by decide)),QS _ _ (qaC a3 (by decide)),OZ _ _ (show (cN w g V i).length<=1000 by rw[fC]; omega)]
   have hne:E7 w g V i=⟨tG w.Bar w.Ears[i].Cues,w.Ears[i].Got++[V i],w.Ears[i].Did++[(getM (tN g V w.Ears.length) (gr g i)).getD 0]⟩:=by
    unfold E7 Cc;rw[Z7 hlt]
   rw[hne] at ih;cases hc:w.Ears[i].Cues with
   | nil=>
    rw[hc] at ih;exact ih
   | cons c l=>
    rw[hc] at ih;have hpos:decide (0<(((c :: l).length:Nat):Int))=true:=by rw[qae]; exact qac o3
    simp only[hpos,qaa,show bG (c :: l) 0=some c from rfl,Z6]
    cases hb:(c.Bar==w.Bar) with
    | true=>
     have hs:gv (c :: l) 1 (((c :: l).length:Nat):Int)=some l:=by
      unfold gv;rw[qac o3,qac r9,qac o3];simp only[qbm,qaa]
      congr 1;show ((c :: l).drop 1).take _=l;rw[qbZ,qaM];exact qaK r8
     simp only[qaa,hs,Z6]
     simp only[tG,hb,qaa] at ih;exact ih
    | false=>
     simp only[tG,hb,Z8] at ih;exact ih
  ·obtain rfl:i=w.Ears.length:=by omega
   rw[show decide ((w.Ears.length:Int)<(w.Ears.length:Int))=false by simp];rfl
theorem OY (l:List aE) (x:aE) (h:l.length<=1000):cU 32 l [x]=some (l++[x]):=fA _ _ _ ZQ
section
def A4 (b:Nat):Nat->aP->List aR->Int⊕aP
 | _,x,[]=>.inr x
 | j,x,e :: l=>bif (og x j b ((e.Did[b]?).getD 0)).2 != 0 then .inl (og x j b ((e.Did[b]?).getD 0)).2 else A4 b (j+1) (og x j b ((e.Did[b]?).getD 0)).1 l
theorem HW (n:Nat) (X:ay) (b:Nat) (role:Int) (z1:List Int) (z2 z3:Int) (L:List Int) (z11:Nat) (z12:Int) (z13:List aC) (z14:List (Int×Int)) (z15:List aR) (z16 z17:Int)
  (hr:ee role) (hL:L.length=b+1) (hb:b<=4096) (hd:∀ d∈L,ee d):∀ (m i:Nat) (q:List aC) (ap:List (Int×Int)),ap.length<=4611686018427387904->i<=L.length->L.length - i<m ->
  lD n X (b:Int) role z1 z2 z3 L (L.length:Int) z11 z12 z13 z14 z15 z16 z17 m (i:Int) q ap=some (if i<=b then (bif (og ⟨q,ap⟩ role b ((L[b]?).getD 0)).2 != 0 then .inl (og ⟨q,ap⟩ role b ((L[b]?).getD 0)).2 else .inr ((og ⟨q,ap⟩ role b ((L[b]?).getD 0)).1.Queue,(og ⟨q,ap⟩ role b ((L[b]?).getD 0)).1.Apart)) else .inr (q,ap))
 | 0,i,_,_,_,_,h=>absurd h (qaF _)
 | m+1,i,q,ap,hA,hi,h=>by
  rw[lD];by_cases hlt:i<L.length
  ·rw[show decide ((i:Int)<(L.length:Int))=true by simpa using hlt];simp only[qaa,bE,Z7 hlt,Z6]
   have ih:=λq ap h=>HW n X b role z1 z2 z3 L z11 z12 z13 z14 z15 z16 z17 hr hL hb hd m (i+1) q ap h o3 o3;by_cases hib:i<b
   ·rw[show decide ((b:Int)<=(i:Int))=false by rw[qbl]; omega,Z8,rh o3,ih q ap hA,qaf o3,qaf o3]
   ·obtain rfl:i=b:=by omega
    have hrep:jj ⟨role,(i:Int),L[i]⟩:=⟨hr,show ee ((i:Nat):Int) from jN o3 o3,hd _ (qaB hlt)⟩
    rw[show decide ((i:Int)<=(i:Int))=true by simp];simp only[qaa,Mj hrep,QT ⟨q,ap⟩ _ hA,Z6]
    have e:qA ⟨q,ap⟩ ⟨wr .i64 (role+1),0,sV ⟨role,(i:Int),L[i]⟩⟩=og ⟨q,ap⟩ role i L[i]:=rfl;rw[e,qaf (qab _),Z7 hlt,qbS];cases hq:((og ⟨q,ap⟩ role i L[i]).2 != 0) with
    | true=>rfl
    | false=>
     simp only[Z8]
     rw[rh o3,ih (og ⟨q,ap⟩ role i L[i]).1.Queue (og ⟨q,ap⟩ role i L[i]).1.Apart (sY (x:=⟨q,ap⟩) hA).1,qah o3]
  ·rw[show decide ((i:Int)<(L.length:Int))=false by simpa using hlt,Z8,qah o3]
theorem HV (n:Nat) (X:ay) (b:Nat) (z11:Nat) (z12:Int) (z13:List aC) (z14:List (Int×Int)) (z15:List aR) (z16 z17:Int)
  (hb:b<=4096) (hn:X.Ears.length<=12) (hN:10000<=n) (hd:∀ x∈X.Ears,x.Did.length=b+1/\∀ d∈x.Did,ee d):∀ (m i:Nat) (q:List aC) (ap:List (Int×Int)),ap.length<=4611686018427387904->i<=X.Ears.length->X.Ears.length - i<m ->
  nc n X (b:Int) (gD X.Ears.length) ((gD X.Ears.length).length:Int) z11 z12 z13 z14 z15 z16 z17 m (i:Int) q ap=some (match A4 b i ⟨q,ap⟩ (X.Ears.drop i) with | .inl e=>.inl e | .inr x=>.inr (x.Queue,x.Apart))
 | 0,i,_,_,_,_,h=>absurd h (qaF _)
 | m+1,i,q,ap,hA,hi,h=>by
  rw[nc];by_cases hlt:i<X.Ears.length
  ·obtain ⟨d1,d2⟩:=hd _ (qaB hlt);have hev:bG (gD X.Ears.length) (i:Int)=some (i:Int):=by
    rw[bE]; unfold gD; rw[qaO,qc1 hlt]; rfl
   have hw:=HW n X b (i:Int) (gD X.Ears.length) ((gD X.Ears.length).length:Int) (i:Int) X.Ears[i].Did z11 z12 z13 z14 z15 z16 z17 (jN o3 o3) d1 hb d2 (n+6) 0 q ap hA (qav _) o3;rw[show ((0:Nat):Int)=0 from rfl,qaf (qav _)] at hw;rw[show decide ((i:Int)<((gD X.Ears.length).length:Int))=true by rw[nZ]; simpa using hlt];simp only[qaa,hev,Z6,bE,Z7 hlt,hw]
   rw[qas hlt,A4];cases hq:((og ⟨q,ap⟩ (i:Int) b ((X.Ears[i].Did[b]?).getD 0)).2 != 0) with
   | true=>rfl
   | false=>
    simp only[Z8]
    rw[rh o3];exact HV n X b z11 z12 z13 z14 z15 z16 z17 hb hn hN hd m (i+1) _ _ (sY (x:=⟨q,ap⟩) hA).1 o3 o3
  ·rw[show decide ((i:Int)<((gD X.Ears.length).length:Int))=false by rw[nZ]; simpa using hlt,Z8,qaH.2 o3];rfl
def N9 (g:List Int) (n:Nat):Prop:=g.length=n/\∀ j (h:j<g.length),0<=j->gB g j=true
open Classical in
noncomputable def yp (w:ay) (deaf g:List Int):ay×Int:=
 bif oM w != 0 then (zW,oM w) else bif !kV (w.Ears.length:Int) (-1) deaf then (zW,1) else
 if N9 g w.Ears.length then (bif w.Bar==4096 then (zW,2) else
  match A4 w.Bar.toNat 0 w.Net (cN w g (b8 w deaf) w.Ears.length) with
  | .inl e=>(zW,e)
  | .inr x=>(⟨x,cN w g (b8 w deaf) w.Ears.length,w.Bar+1⟩,0)) else (zW,1)
theorem Hj {w:ay} (h:lZ w) (deaf:List Int) (j:Nat):ee (b8 w deaf j):=by
 unfold b8;split
 ·rename_i x hx;have hm:=qaI hx;split
  ·rename_i c l hc;cases ((c.Bar==w.Bar)&&!decide ((j:Int)∈deaf))
   ·exact Hv
   ·exact((h.2.1.2 x hm).1.2 c (by rw[hc]; exact qbq)).2.2.2
  ·exact Hv
 ·exact Hv
theorem MN {g:List Int} {V:Nat->Int} (hV:∀ j,ee (V j)) (n j:Nat) (hj:j<n):ee (Cc g V n j):=by
 unfold Cc;rw[(uh g V n).2 j hj,qbS];split
 ·exact hV j
 ·exact Hv
theorem EL {w:ay} {g:List Int} {V:Nat->Int} {x:aR} (h:x∈cN w g V w.Ears.length):∃ j,∃ hj:j<w.Ears.length,x=⟨tG w.Bar w.Ears[j].Cues,w.Ears[j].Got++[V j],w.Ears[j].Did++[Cc g V w.Ears.length j]⟩:=by
 unfold cN at h;obtain ⟨j,hj,rfl⟩:=qdb.1 h;have hj':=qaR.1 hj;refine⟨j,hj',?_⟩;unfold E7;rw[Z7 hj']
theorem EK {w:ay} (h:lZ w) (hw:okW w) (g deaf:List Int):∀ x∈cN w g (b8 w deaf) w.Ears.length,x.Did.length=w.Bar.toNat+1/\∀ d∈x.Did,ee d:=λx hx=>by
 obtain ⟨j,hj,rfl⟩:=EL hx;have he:=DD hw.2.2.2.1 _ (qaB hj);refine⟨by show (w.Ears[j].Did++_).length=_; rw[qar,qb7]; omega,λd hd=>?_⟩;rcases qa8.1 hd with q | q
 ·exact GY h (qaB hj) d q
 ·rw[qcl.1 q]; exact MN (Hj h deaf) _ _ hj
theorem ZJ (w:ay) (deaf g:List Int) (h:S6 w) (hd:deaf.length<=100) (hgl:g.length<=100):Oo w deaf g=some (yp w deaf g):=by
 unfold Oo Q9 yp;rw[Bu w h.few.fit,Z6];cases hc:(oM w != 0) with
 | true=>rfl
 | false=>
  have hw:=Iq hc;obtain ⟨hn1,hn2⟩:=hw.1;obtain ⟨hb1,hb2⟩:=hw.2.1;have hR:=HU aD (w.Ears.length:Int) deaf [] [] [] 0 o3 o3 (aD+8) 0 (-1) o3 (qav _) u3;rw[show ((0:Nat):Int)=0 from rfl,qaM] at hR;simp only[Z8,hR,Z6]
  cases hr:kV (w.Ears.length:Int) (-1) deaf with
  | false=>rfl
  | true=>
   simp only[qaa,qau,Z8]
   by_cases hgn:g.length=w.Ears.length
   ·rw[show ((g.length:Int) != (w.Ears.length:Int))=false by rw[hgn]; simp,Z8];have hG:=HT aD g [] [] [] 0 o3 (aD+8) 0 (qav _) u3;rw[show ((0:Nat):Int)=0 from rfl] at hG;rw[hG];by_cases hg:∀ j (h:j<g.length),0<=j->gB g j=true
    ·rw[qaf hg,qaf (show N9 g w.Ears.length from ⟨hgn,hg⟩)];simp only[Z6]
     cases hbar:(w.Bar==4096) with
     | true=>rfl
     | false=>
      have hne:w.Bar≠4096:=by simpa using hbar
      have hmk:BE 8 (w.Ears.length:Int) (0:Int)=some (List.replicate w.Ears.length 0):=by
       unfold BE;rw[BD,qac o3,qac o3,qac o3]; rfl
      have hz:List.replicate w.Ears.length (0:Int)=qj w.Ears.length (b8 w deaf) 0:=by
       unfold qj;apply qbz;intro j;by_cases hj:j<w.Ears.length
       ·rw[qaO,qc1 hj,qbJ,qaf hj]; rfl
       ·rw[qa4 r9,qa4 r9]
      have hB2:=HR aD w deaf g (oM w) o3 hgn hn2 (aD+8) 0 (qav _) u3;have hB3:=HS aD w g (b8 w deaf) (oM w) w.Ears.length w.Net.Queue w.Net.Apart (wr .i64 (w.Bar+1)) hgn h.few hn2 (aD+8) 0 (qav _) u3;rw[show ((0:Nat):Int)=0 from rfl] at hB2 hB3;rw[show tN g (b8 w deaf) 0=[] from rfl,show gD 0=[] from rfl] at hB2;rw[show cN w g (b8 w deaf) 0=[] from rfl] at hB3;have hwb:wr .i64 (w.Bar+1)=w.Bar+1:=dy o3 o3;rw[hwb] at hB3;have eb:w.Bar=((w.Bar.toNat:Nat):Int):=o3;simp only[hmk,Z6,hz,ny,hB2,hwb,nZ,hB3,Z8]
      have hS:=HV aD ⟨w.Net,cN w g (b8 w deaf) w.Ears.length,w.Bar+1⟩ w.Bar.toNat w.Ears.length (w.Bar+1) [] [] [] 0 0 o3 (by show (cN w g (b8 w deaf) w.Ears.length).length<=12; rw[fC]; exact hn2) u3 (EK h.ok hw g deaf) (aD+6) 0 w.Net.Queue w.Net.Apart (by have:=h.few.2.1; omega) (qav _) (by rw[fu]; show (cN w g (b8 w deaf) w.Ears.length).length - 0<_; rw[fC]; omega);rw[show ((0:Nat):Int)=0 from rfl,<-eb] at hS;simp only[fC,qaM] at hS;rw[show NV ⟨w.Net,cN w g (b8 w deaf) w.Ears.length,w.Bar+1⟩ w.Bar (gD w.Ears.length)=some (gD w.Ears.length,⟨w.Net,cN w g (b8 w deaf) w.Ears.length,w.Bar+1⟩,w.Bar) from rfl];simp only[Z6,fC,hS]
      cases A4 w.Bar.toNat 0 w.Net (cN w g (b8 w deaf) w.Ears.length)<;>rfl
    ·rw[qah hg,qah (show ¬ N9 g w.Ears.length from λq=>hg q.2)]; rfl
   ·rw[show ((g.length:Int) != (w.Ears.length:Int))=true by simp; omega,qah (show ¬ N9 g w.Ears.length from λq=>hgn q.1)]; rfl
end
def dN (x:aP) (i:Nat):aP:=aP.mk (x.Queue.take i++x.Queue.drop (i+1)) x.Apart
theorem xO {T:Type} (l:List T) (i:Nat) (h:i<=l.length):gv l 0 (i:Int)=some (l.take i):=by
 unfold gv;simp[h]
theorem Fk {T:Type} (l:List T) (i:Nat) (h:i<=l.length):gv l (i:Int) (l.length:Int)=some (l.drop i):=by
 unfold gv;rw[qac (by omega:(0:Int)<=(i:Int)),qac (by omega:(i:Int)<=(l.length:Int)),qac (qb9 _)];simp only[qbu,qbm,qaa]
 rw[qaK r8]
theorem Qg (x:aP) (i:Nat) (hi:i<x.Queue.length) (hq:x.Queue.length<=4096):Mp x (i:Int)=some (dN x i):=by
 unfold Mp RA dN;rw[xO _ _ o3,Z6,rh (by first | (rw[fu]; omega) | omega),Fk _ _ o3,Z6,fA _ _ _ ZQ];rfl
def mL:aC:=aC.mk 0 0 []
def xP:aP:=aP.mk [] []
def atR (x:aP) (a:Int):aC×Int:=if rR x=true then (if 0<=a then match x.Queue[a.toNat]? with | some p=>(p,0) | none=>(mL,1) else (mL,1)) else (mL,60)
theorem Nf (x:aP) (a:Int) (hA:x.Apart.length<=4611686018427387904):Mo x a=some (atR x a):=by
 unfold Mo Ry atR;rw[J1 x hA,Z6];cases rR x with
 | false=>rfl
 | true=>
  simp only[qb4]
  by_cases h0:0<=a
  ·obtain ⟨i,rfl⟩:∃ i:Nat,a=i:=⟨a.toNat,o3⟩
   rw[qaf h0,show decide ((i:Int)<0)=false by simp,qbu,bE];by_cases h1:i<x.Queue.length
   ·rw[Z7 h1,show decide ((x.Queue.length:Int)<=(i:Int))=false by simp; omega];rfl
   ·rw[qa4 o3,show decide ((x.Queue.length:Int)<=(i:Int))=true by simp; omega];rfl
  ·rw[qah h0,show decide (a<0)=true by simp; omega];rfl
def qz (x:aP) (a:Int):aP×Int:=if (atR x a).2=0 then (dN x a.toNat,0) else (xP,(atR x a).2)
theorem B4 {x:aP} {a:Int} (h:(atR x a).2=0):rR x=true/\0<=a/\∃ hlt:a.toNat<x.Queue.length,(atR x a).1=x.Queue[a.toNat]:=by
 unfold atR at h ⊢;by_cases h1:rR x=true
 ·rw[qaf h1] at h ⊢;by_cases h2:0<=a
  ·rw[qaf h2] at h ⊢;refine⟨h1,h2,?_⟩;by_cases h3:a.toNat<x.Queue.length
   ·rw[Z7 h3];exact⟨h3,rfl⟩
   ·rw[qa4 o3] at h;cases h
  ·rw[qah h2] at h; cases h
 ·rw[qah h1] at h; cases h
theorem D1 {x:aP} (h:rR x=true):x.Queue.length<=4096:=by
 unfold rR at h;simp only[Z9,qag] at h;exact h.1.1
theorem UN (x:aP) (a:Int) (hA:x.Apart.length<=4611686018427387904):OH x a=some (qz x a):=by
 unfold OH RD qz;rw[Nf x a hA,Z6];by_cases h:(atR x a).2=0
 ·obtain ⟨h1,h2,h3,_⟩:=B4 h;rw[qaf h,h];have:=Qg x a.toNat h3 (D1 h1);rw[show ((a.toNat:Nat):Int)=a by omega] at this;rw[this];rfl
 ·rw[qah h,show ((atR x a).2 != 0)=true by simpa using h];rfl
def wN (x:aP) (a:Int):aP×Int:=if (atR x a).2=0 then rX x (atR x a).1 else (xP,(atR x a).2)
theorem UO (x:aP) (a:Int) (hq:x.Queue.length<=4095) (hA:x.Apart.length<=4611686018427387904):OI x a=some (wN x a):=by
 unfold OI RE wN;rw[Nf x a hA,Z6];by_cases h:(atR x a).2=0
 ·rw[qaf h,h,Qd x _ hq hA];rfl
 ·rw[qah h,show ((atR x a).2 != 0)=true by simpa using h];rfl
theorem Qc (n:Nat) (v2 c d:Int) (l:List (Int×Int)) (hl:l.length<=4611686018427387904):∀ (m i:Nat),i<=l.length->l.length - i<m ->
  (∃ j:Int,0<=j/\lI n l (l.length:Int) c d m (i:Int)=some (.inl j)/\(l.drop i).any (λq=>c==q.1&&d==q.2)=true)∨(lI n l (l.length:Int) c d m (i:Int)=some (.inr ())/\(l.drop i).any (λq=>c==q.1&&d==q.2)=false)
 | 0,i,_,h=>absurd h (qaF _)
 | m+1,i,hi,h=>by
  unfold lI;by_cases hlt:i<l.length
  ·rw[show decide ((i:Int)<(l.length:Int))=true by simpa using hlt,qaa,bE,Z7 hlt,Z6,rh o3,qas hlt,qea];cases hp:(c==l[i].1&&d==l[i].2) with
   | true=>exact .inl ⟨i,o3,rfl,rfl⟩
   | false=>
    simp only[Z8,Bool.false_or]
    exact Qc n v2 c d l hl m (i+1) o3 o3
  ·rw[show decide ((i:Int)<(l.length:Int))=false by simpa using hlt,Z8,qaH.2 o3];exact .inr ⟨rfl,rfl⟩
def xx (l:List (Int×Int)) (p:Int×Int):Bool:=l.any λq=>p.1==q.1&&p.2==q.2
theorem UR (l:List (Int×Int)) (p:Int×Int) (hl:l.length<=4611686018427387904):OD l p=some (xx l p):=by
 unfold OD Rz RN RJ xx;have e:l.drop 0=l:=rfl;rcases Qc aD 0 p.1 p.2 l hl (aD+8) 0 (qav _) u3 with ⟨j,h1,h2,h3⟩ | ⟨h2,h3⟩
 ·rw[e] at h3;rw[show ((0:Nat):Int)=0 from rfl] at h2;rw[h2,h3];simp only[Z6]
  rw[qac h1]
 ·rw[e] at h3;rw[show ((0:Nat):Int)=0 from rfl] at h2;rw[h2,h3];rfl
def link (a b:Int):Int×Int:=(if b<a then b else a,if a<b then b else a)
def kD (x:aP) (a:Int):aC×aP×Int:=if (atR x a).2=0 then (if xx x.Apart (link (atR x a).1.From (atR x a).1.To)=true then mL else (atR x a).1,dN x a.toNat,0) else ((atR x a).1,xP,(atR x a).2)
theorem UM (x:aP) (a:Int) (hA:x.Apart.length<=4611686018427387904):Ov x a=some (kD x a):=by
 unfold Ov Rh kD;rw[Nf x a hA,Z6];by_cases h:(atR x a).2=0
 ·obtain ⟨h1,h2,h3,_⟩:=B4 h;rw[qaf h,h];have h38:=Qg x a.toNat h3 (D1 h1);rw[show ((a.toNat:Nat):Int)=a by omega] at h38;simp only[qaP,Z8]
  rw[Qf,Z6,UR _ _ hA,Z6,h38];unfold link;generalize xx x.Apart _=q;cases q<;>rfl
 ·rw[qah h,show ((atR x a).2 != 0)=true by simpa using h];rfl
theorem rT (x:aP):rR x=true↔x.Queue.length<=4096/\(∀ p∈x.Queue,kY p=true)/\E9 none x.Apart=true:=by
 unfold rR;simp only[Z9,qag,qak,and_assoc]
theorem tE {x:aP} (h:rR x=true) (k:Nat):rR (dN x k)=true:=by
 rw[rT] at h ⊢;obtain ⟨h1,h2,h3⟩:=h;refine⟨?_,λp hp=>?_,h3⟩
 ·unfold dN; simp; omega
 ·unfold dN at hp;rcases qa8.1 hp with hp | hp
  ·exact h2 p (qaJ hp)
  ·exact h2 p (qaL hp)
theorem BZ {x:aP} (h:rR x=true) {k:Nat} (hk:k<x.Queue.length):atR x (k:Int)=(x.Queue[k],0):=by
 unfold atR;rw[qaf h,qaf o3,qbu,Z7 hk]
theorem GV {x:aP} (h:rR x=true) {k:Nat} (hk:k<x.Queue.length):kD x (k:Int)=(if xx x.Apart (link x.Queue[k].From x.Queue[k].To)=true then mL else x.Queue[k],dN x k,0):=by
 unfold kD;rw[BZ h hk];simp
def qg (l:List aE) (b:Int):List aE:=l.takeWhile λx=>decide (x.Bar<b)
def I9 (l:List aE) (b:Int):List aE:=l.dropWhile λx=>decide (x.Bar<b)
def lU (l:List aE) (c:aE):List aE:=qg l c.Bar++(match I9 l c.Bar with | []=>[c] | x :: r=>if x.Bar=c.Bar then (if x.No<c.No then c :: r else x :: r) else c :: x :: r)
theorem pe (b:Int):∀ l:List aE,(qg l b).length<=l.length/\(∀ (j:Nat) (h:j<l.length),j<(qg l b).length->l[j].Bar<b)/\(∀ h:(qg l b).length<l.length,¬ l[(qg l b).length].Bar<b)/\qg l b=l.take (qg l b).length/\I9 l b=l.drop (qg l b).length
 | []=>⟨qab _,λ_ h=>absurd h (qaF _),λh=>absurd h (qaF _),rfl,rfl⟩
 | x :: r=>by
  obtain ⟨h1,h2,h3,h4,h5⟩:=pe b r;by_cases hx:x.Bar<b
  ·have e1:qg (x :: r) b=x :: qg r b:=by unfold qg; rw[qdq,qac hx]; rfl
   have e2:I9 (x :: r) b=I9 r b:=by unfold I9; rw[qdr,qac hx]; rfl
   rw[e1,e2];refine⟨by simp only[qae]; omega,λj h hj=>?_,λh=>?_,?_,?_⟩
   ·cases j with
    | zero=>exact hx
    | succ j=>simp only[qae] at h hj; exact h2 j o3 o3
   ·simp only[qae] at h;exact h3 o3
   ·rw[qae,qdp,<-h4]
   ·rw[qae,qbZ,<-h5]
  ·have e1:qg (x :: r) b=[]:=by unfold qg; rw[qdq,qal hx]; rfl
   have e2:I9 (x :: r) b=x :: r:=by unfold I9; rw[qdr,qal hx]; rfl
   rw[e1,e2];exact⟨qav _,λ_ _ h=>absurd h (qaF _),λ_=>hx,rfl,rfl⟩
theorem Q2 {a b:Nat} (h:a+b<=4611686018427387904):wr .i64 (jJ .u64 (wr .u64 (wr .i64 ((a:Int)+(b:Int)))) 1)=(((a+b) / 2:Nat):Int):=by
 have e1:wr .i64 ((a:Int)+(b:Int))=((a+b:Nat):Int):=by rw[dy o3 o3]; omega
 have e2:wr .u64 ((a+b:Nat):Int)=((a+b:Nat):Int):=by
  have:wr .u64=IntKind.u64.wrap:=rfl;rw[this];simp only[IntKind.wrap,IntKind.bits,IntKind.signed]
  simp;omega
 have e3:jJ .u64 ((a+b:Nat):Int) 1=(((a+b) / 2:Nat):Int):=by
  unfold jJ;have:(min (1:Int).toNat IntKind.u64.bits)=1:=by decide
  rw[this,qct _ (by decide)];omega
 rw[e1,e2,e3,dy o3 o3]
def Oe (l:List aE):Prop:=l.Pairwise (λx y=>x.Bar<y.Bar)/\∀ x∈l,0<=x.Bar/\x.Bar<=4095
theorem Oe.lt {l:List aE} (h:Oe l) {i j:Nat} (hi:i<l.length) (hj:j<l.length) (hij:i<j):l[i].Bar<l[j].Bar:=qdE.1 h.1 i j hi hj hij
theorem QY {x:aE} {b:Int} (h1:0<=x.Bar/\x.Bar<=4095) (h2:0<=b/\b<=4095):NU x b=some (x.Bar - b):=by
 unfold NU Ri;rw[dy o3 o3]
theorem Tj (n:Nat) {l:List aE} {b:Int} (ha:Oe l) (hb:0<=b/\b<=4095) (hl:l.length<=1000000):∀ (m lo hi:Nat),lo<=(qg l b).length->(qg l b).length<=hi->hi<=l.length->hi - lo<m ->
  gT n l b m (lo:Int) (hi:Int)=some ((qg l b).length:Int)
 | 0,_,_,_,_,_,h=>absurd h (qaF _)
 | m+1,lo,hi,h1,h2,h3,h=>by
  obtain ⟨p1,p2,p3,_⟩:=pe b l;unfold gT;by_cases hlt:lo<hi
  ·have hm1:(lo+hi) / 2<l.length:=by omega
   rw[show decide ((lo:Int)<(hi:Int))=true by simpa using hlt,qaa,Q2 o3,bE,Z7 hm1,Z6,QY (ha.2 _ (qaB _)) hb,Z6];by_cases hc:l[(lo+hi) / 2].Bar<b
   ·rw[qac (show l[(lo+hi) / 2].Bar - b<0 by omega),qaa];have e1:wr .i64 ((((lo+hi) / 2:Nat):Int)+1)=(((lo+hi) / 2+1:Nat):Int):=by rw[dy o3 o3]; omega
    rw[e1];refine Tj n ha hb hl m _ hi ?_ h2 h3 o3;refine qbs λhle=>?_;have hi':(qg l b).length<l.length:=o3;rcases Nat.lt_or_eq_of_le hle with h4 | h4
    ·exact p3 hi' (Int.lt_trans (ha.lt hi' hm1 h4) hc)
    ·refine p3 hi' ?_;simp only[h4]
     exact hc
   ·rw[qal (show ¬ l[(lo+hi) / 2].Bar - b<0 by omega),Z8];refine Tj n ha hb hl m lo _ h1 ?_ o3 o3;refine qb1 λhlt'=>hc (p2 _ hm1 hlt')
  ·rw[show decide ((lo:Int)<(hi:Int))=false by simpa using hlt,Z8];rw[show lo=(qg l b).length by omega]
theorem VO {l:List aE} {b:Int} (ha:Oe l) (hb:0<=b/\b<=4095) (hl:l.length<=1000000):uk l b=some (((qg l b).length:Int),match I9 l b with | []=>false | x :: _=>decide (x.Bar=b)):=by
 unfold uk xW;have h0:=Tj aD ha hb hl (aD+8) 0 l.length (qav _) (pe b l).1 (qab _) u3;rw[show ((0:Nat):Int)=0 from rfl] at h0;obtain ⟨p1,p2,p3,p4,p5⟩:=pe b l;rw[h0,Z6,p5];simp only
 by_cases hlt:(qg l b).length<l.length
 ·rw[show decide (((qg l b).length:Int)<(l.length:Int))=true by simpa using hlt,qaa,bE,Z7 hlt,Z6,QY (ha.2 _ (qaB _)) hb,Z6,qas hlt];simp only[Z6,qaG,qcU,qcd]
  rw[qbr];simp only[qa5,qag]
  omega
 ·rw[show decide (((qg l b).length:Int)<(l.length:Int))=false by simpa using hlt,Z8,qaH.2 o3];rfl
def zR:bH:=⟨0,0,0⟩
def mG (E:List aR) (c:aE):List aR:=match E[c.Role.toNat]? with
 | some y=>E.set c.Role.toNat ⟨lU y.Cues c,y.Got,y.Did⟩
 | none=>E
def JM (w:ay) (d:aC×aP×Int):ay×bH×Bool×Int:=match msg d.1.Data with
 | some (.inr r)=>(⟨d.2.1,w.Ears,w.Bar⟩,r,true,0)
 | some (.inl c)=>(⟨d.2.1,if w.Bar<=c.Bar then mG w.Ears c else w.Ears,w.Bar⟩,zR,false,0)
 | none=>(⟨d.2.1,w.Ears,w.Bar⟩,zR,false,0)
noncomputable def Ak (w:ay) (a:Int):ay×bH×Bool×Int:=
 if oM w=0 then (if (kD w.Net a).2.2=0 then JM w (kD w.Net a) else (zW,zR,false,(kD w.Net a).2.2)) else (zW,zR,false,oM w)
theorem DY:msg []=none:=r7
theorem GX {x:aP} {a:Int} (h:(kD x a).2.2=0):rR x=true/\0<=a/\(kD x a).2.1=dN x a.toNat/\∃ hlt:a.toNat<x.Queue.length,((kD x a).1=mL∨(kD x a).1=x.Queue[a.toNat]):=by
 unfold kD at h ⊢;by_cases h0:(atR x a).2=0
 ·rw[qaf h0] at h ⊢;obtain ⟨h1,h2,h3,h4⟩:=B4 h0;refine⟨h1,h2,rfl,h3,?_⟩;show (if _ then mL else (atR x a).1)=mL∨_;split
  ·exact .inl rfl
  ·exact .inr h4
 ·rw[qah h0] at h;exact absurd h h0
theorem lN {role n:Int}:∀ {l:List aE} {lo:Int},gF role n lo l=true->0<=lo->lo<=4096->Oe l/\(∀ x∈l,lo<=x.Bar)/\(∀ x∈l,et x n=true/\x.Role=role)/\(l.length:Int)+lo<=4096
 | [],lo,_,h0,h1=>⟨⟨List.Pairwise.nil,λx h=>(by cases h)⟩,λx h=>(by cases h),λx h=>(by cases h),by simpa using h1⟩
 | c :: l,lo,h,h0,h1=>by
  unfold gF at h;simp only[Z9,qa3,qbl,qa5] at h;obtain ⟨⟨⟨h2,h3⟩,h4⟩,h5⟩:=h;have hb:=om h2;obtain ⟨⟨p1,p2⟩,q,r,s⟩:=lN h5 o3 o3;refine⟨⟨qdx.2 ⟨λy hy=>by have:=q y hy; omega,p1⟩,λx hx=>?_⟩,λx hx=>?_,λx hx=>?_,by simp only[qae]; omega⟩
  ·rcases qaD.1 hx with rfl | hx
   ·exact hb
   ·exact p2 x hx
  ·rcases qaD.1 hx with rfl | hx
   ·omega
   ·have:=q x hx; omega
  ·rcases qaD.1 hx with rfl | hx
   ·exact⟨h2,h3⟩
   ·exact r x hx
theorem G3 {x:aR} {role n bar:Int} (h:nX x role n bar=true):gF role n bar x.Cues=true:=by
 unfold nX at h;simp only[Z9] at h;exact h.2
theorem ot {c:aE} {n:Nat} (h:et c (n:Int)=true) (hn:n<=12) (h1:1<=n):0<=c.Role/\c.Role.toNat<n:=by
 unfold et jo at h;simp only[Z9,qag] at h;rw[dy o3 o3] at h;omega
theorem vN {w:ay} (h:okW w) {p:aC} (hp:p∈w.Net.Queue):zp w p=true:=qak.1 h.2.2.2.2 p hp
theorem zs {w:ay} {p:aC} {c:aE} (h:zp w p=true) (hm:msg p.Data=some (.inl c)):et c (w.Ears.length:Int)=true/\p.From=0/\p.To=wr .i64 (c.Role+1):=by
 unfold zp at h;rw[hm] at h;simp only[Z9,qa5] at h;exact⟨h.1.1,h.1.2,h.2⟩
theorem Jw {w:ay} (h:okW w) {a:Int} (hd:(kD w.Net a).2.2=0) {m:aE⊕bH} (hm:msg (kD w.Net a).1.Data=some m):∃ hlt:a.toNat<w.Net.Queue.length,(kD w.Net a).1=w.Net.Queue[a.toNat]/\zp w w.Net.Queue[a.toNat]=true:=by
 obtain ⟨h1,h2,h3,h4,h5⟩:=GX hd;rcases h5 with h5 | h5
 ·rw[h5,show mL.Data=[] from rfl,DY] at hm;cases hm
 ·exact⟨h4,h5,vN h (qaB _)⟩
theorem GW {x:aP} {a:Int} (hd:(kD x a).2.2=0):(kD x a).1.Data.length<=1100000:=by
 obtain ⟨h1,h2,h3,h4,h5⟩:=GX hd;rcases h5 with h5 | h5
 ·rw[h5]; exact qav _
 ·rw[h5]; exact(rS h1).2 _ (qaB _)
theorem TA {R:Type} {E:List aR} (hE:E.length<=12) {r:Int} (h0:0<=r) (h1:r.toNat<E.length) (u:aR->aR) (K:List aR->R) :
  (Option.bind (cU 72 ([]) E) λy=>Option.bind (gO y.length r) λk=>Option.bind (lY y k u) λz=>some (K (List.take y.length (List.drop 0 z))))=some (K (E.set r.toNat (u E[r.toNat]))):=by
 rw[fA _ _ _ ZQ,Z6,qbd];have e1:gO E.length r=some r.toNat:=by
  unfold gO;rw[qac h0,qac (by omega:r<(E.length:Int))];rfl
 rw[e1,Z6];have e2:lY E r.toNat u=some (E.set r.toNat (u E[r.toNat])):=by
  unfold lY;rw[Z7 h1]
 rw[e2,Z6,qaM,qaK r8]
theorem Ht {E:List aR} {c:aE} (h:c.Role.toNat<E.length):mG E c=E.set c.Role.toNat ⟨lU E[c.Role.toNat].Cues c,E[c.Role.toNat].Got,E[c.Role.toNat].Did⟩:=by
 unfold mG;rw[Z7 h]
theorem DK {T:Type} {l:List T} {i:Nat} {x:T} (h:i<=l.length) (hl:l.length<=1000000):Hw l (i:Int) x=some (l.take i++x :: l.drop i):=by
 unfold Hw;rw[qac (by omega:(0:Int)<=(i:Int)),qac (by omega:(i:Int)<=(l.length:Int)),qac (by omega:l.length<4294967296),qbu];rfl
theorem VL (w:ay) (a:Int) (hf:Fit w):Om w a=some (Ak w a):=by
 unfold Om Q7 Ak;rw[Bu w hf,Z6];by_cases ok:okW w
 ·rw[fG ok,qaf rfl];simp only[qaP,Z8]
  rw[UM _ _ hf.1,Z6];by_cases hd:(kD w.Net a).2.2=0
  ·rw[qaf hd,hd];simp only[qaP,Z8]
   obtain ⟨r,hr,hm⟩:=QX _ (GW hd);rw[hr,Z6];unfold JM;cases hq:msg (kD w.Net a).1.Data with
   | none=>
    rw[hq] at hm;simp only at hm;rw[hm];rfl
   | some m=>
    cases m with
    | inr s=>
     rw[hq] at hm;simp only at hm;subst hm;rfl
    | inl c=>
     rw[hq] at hm;simp only at hm;subst hm;obtain ⟨hlt,hp1,hp2⟩:=Jw ok hd hq;rw[hp1] at hq;obtain ⟨hc,_,_⟩:=zs hp2 hq;obtain ⟨⟨hn1,hn2⟩,⟨hb1,hb2⟩,_,hears,_⟩:=ok;obtain ⟨hr0,hr1⟩:=ot hc hn2 hn1;have hbar:=om hc;simp only[qaa,Z6,show ((1:Int)==2)=false from rfl,Z8]
     by_cases hle:w.Bar<=c.Bar
     ·rw[qac hle,qaa,qaf hle];have hg:bG w.Ears c.Role=some w.Ears[c.Role.toNat]:=by
       have:=bE w.Ears c.Role.toNat;rw[show ((c.Role.toNat:Nat):Int)=c.Role by omega] at this;rw[this]; exact Z7 hr1
      obtain ⟨hasc,_,_,hlen⟩:=lN (G3 (hears c.Role.toNat hr1)) hb1 hb2;have hl:w.Ears[c.Role.toNat].Cues.length<=4096:=o3;obtain ⟨p1,p2,p3,p4,p5⟩:=pe c.Bar w.Ears[c.Role.toNat].Cues;rw[hg,Z6,VO hasc hbar o3,Z6,Ht hr1];have ha:cU 32 ([]) w.Ears[c.Role.toNat].Cues=some w.Ears[c.Role.toNat].Cues:=by
       rw[fA _ _ _ ZQ]; rfl
      rw[ha];simp only[Z6]
      have key:∀ (q:List aE),(Option.bind (cU 72 ([]) w.Ears) λy=>Option.bind (gO y.length c.Role) λk=>Option.bind (lY y k λ(y:aR)=>aR.mk q y.Got y.Did) λz=>some ((ay.mk (kD w.Net a).2.1 (List.take y.length (List.drop 0 z)) w.Bar),bH.mk 0 0 0,false,(0:Int))) =
        some (ay.mk (kD w.Net a).2.1 (w.Ears.set c.Role.toNat ⟨q,w.Ears[c.Role.toNat].Got,w.Ears[c.Role.toNat].Did⟩) w.Bar,zR,false,0):=λq=>
       TA hn2 hr0 hr1 (λ(y:aR)=>aR.mk q y.Got y.Did) λz=>(ay.mk (kD w.Net a).2.1 z w.Bar,bH.mk 0 0 0,false,(0:Int))
      unfold lU;cases ho:I9 w.Ears[c.Role.toNat].Cues c.Bar with
      | nil=>
       simp only[qbN,qaa]
       rw[DK p1 o3,Z6,key,<-p4,<-p5,ho]
      | cons x r=>
       by_cases hx:x.Bar=c.Bar
       ·simp only[qac hx,qau,Z8,qaf hx]
        have hi:(qg w.Ears[c.Role.toNat].Cues c.Bar).length<w.Ears[c.Role.toNat].Cues.length:=by
         refine qbs λh=>?_;rw[p5,qaH.2 h] at ho;cases ho
        have hx0:w.Ears[c.Role.toNat].Cues[(qg w.Ears[c.Role.toNat].Cues c.Bar).length]=x:=by
         rw[p5,qas hi] at ho;exact(qcY ho).1
        have hr':w.Ears[c.Role.toNat].Cues.drop ((qg w.Ears[c.Role.toNat].Cues c.Bar).length+1)=r:=by
         rw[p5,qas hi] at ho;exact(qcY ho).2
        rw[bE,Z7 hi,Z6,hx0];by_cases hno:x.No<c.No
        ·rw[qac hno,qaa,qaf hno];have e1:gO w.Ears[c.Role.toNat].Cues.length ((qg w.Ears[c.Role.toNat].Cues c.Bar).length:Int)=some (qg w.Ears[c.Role.toNat].Cues c.Bar).length:=by
          unfold gO;rw[qac (by omega:(0:Int)<=((qg w.Ears[c.Role.toNat].Cues c.Bar).length:Int)),qac (by omega:((qg w.Ears[c.Role.toNat].Cues c.Bar).length:Int)<(w.Ears[c.Role.toNat].Cues.length:Int)),qbu];rfl
         have e2:lY w.Ears[c.Role.toNat].Cues (qg w.Ears[c.Role.toNat].Cues c.Bar).length (λ(y:aE)=>c)=some (w.Ears[c.Role.toNat].Cues.set (qg w.Ears[c.Role.toNat].Cues c.Bar).length c):=by
          unfold lY;rw[Z7 hi]
         rw[e1,Z6,e2,Z6,qaM,qaK r8,key];congr 4;rw[List.set_eq_take_append_cons_drop,qaf hi,hr',<-p4]
        ·rw[qal hno,Z8,qah hno,key];have:qg w.Ears[c.Role.toNat].Cues c.Bar++x :: r=w.Ears[c.Role.toNat].Cues:=by rw[<-ho]; exact List.takeWhile_append_dropWhile
         rw[this]
       ·simp only[qal hx,qbN,qaa,qah hx]
        rw[DK p1 o3,Z6,key,<-p4,<-p5,ho]
     ·rw[qal hle,Z8,qah hle];rfl
  ·rw[qah hd,show ((kD w.Net a).2.2 != 0)=true by simpa using hd];rfl
 ·rw[nu ok];rfl
theorem xu (c:aE):lU [] c=[c]:=rfl
theorem qP (x:aE) (r:List aE) (c:aE):lU (x :: r) c=if x.Bar<c.Bar then x :: lU r c else if x.Bar=c.Bar then (if x.No<c.No then c :: r else x :: r) else c :: x :: r:=by
 unfold lU qg I9;rw[qdq,qdr];by_cases h:x.Bar<c.Bar
 ·rw[qac h,qaf h]; rfl
 ·rw[qal h,qah h]; rfl
theorem uR {role n:Int} {c:aE} (hc:et c n=true) (hr:c.Role=role):∀ {l:List aE} {lo:Int},gF role n lo l=true->lo<=c.Bar->gF role n lo (lU l c)=true
 | [],lo,h,hlo=>by
  rw[xu];unfold gF gF;simp only[Z9,qa3,qbl,qa5]
  exact⟨⟨⟨hc,hr⟩,o3⟩,trivial⟩
 | x :: r,lo,h,hlo=>by
  have h':=h;unfold gF at h';simp only[Z9,qa3,qbl,qa5] at h';obtain ⟨⟨⟨h1,h2⟩,h3⟩,h4⟩:=h';rw[qP];split
  ·unfold gF;simp only[Z9,qa3,qbl,qa5]
   exact⟨⟨⟨h1,h2⟩,h3⟩,uR hc hr h4 o3⟩
  ·split
   ·rename_i he;split
    ·unfold gF;simp only[Z9,qa3,qbl,qa5]
     exact⟨⟨⟨hc,hr⟩,o3⟩,by rw[<-he]; exact h4⟩
    ·exact h
   ·unfold gF;simp only[Z9,qa3,qbl,qa5]
    refine⟨⟨⟨hc,hr⟩,o3⟩,?_⟩;unfold gF;simp only[Z9,qa3,qbl,qa5]
    exact⟨⟨⟨h1,h2⟩,o3⟩,h4⟩
theorem oz (x:aP) (k:Nat) (hk:k<x.Queue.length):(dN x k).Queue.length=x.Queue.length - 1:=by
 unfold dN;simp only[qar,qba,qbT]
 omega
def CE (x:aP) (k:Nat):aC:=match x.Queue[k]? with
 | some p=>if xx x.Apart (link p.From p.To)=true then mL else p
 | none=>mL
def rG (bar:Int) (p:aC) (E:List aR):List aR:=match msg p.Data with
 | some (.inl c)=>if bar<=c.Bar then mG E c else E
 | _=>E
theorem Dt {x:aP} (h:rR x=true) {k:Nat} (hk:k<x.Queue.length):kD x (k:Int)=(CE x k,dN x k,0):=by
 rw[GV h hk];unfold CE;rw[Z7 hk]
theorem sP (E:List aR) (c:aE):(mG E c).length=E.length:=by
 unfold mG;split
 ·rw[qdn]
 ·rfl
theorem sO (E:List aR) (c:aE) (i:Nat):(mG E c)[i]? = if i=c.Role.toNat then (E[i]?).map (λy=>⟨lU y.Cues c,y.Got,y.Did⟩) else E[i]?:=by
 unfold mG;cases hy:E[c.Role.toNat]? with
 | none=>
  by_cases h:i=c.Role.toNat
  ·rw[qaf h,h,hy]; rfl
  ·rw[qah h]
 | some y=>
  have hl:=(qad.1 hy).1;by_cases h:i=c.Role.toNat
  ·rw[qaf h,h,hy];exact qaE hl
  ·rw[qah h];exact qao (qbi h)
theorem G5 (bar:Int) (p:aC) (E:List aR):(rG bar p E).length=E.length:=by
 unfold rG;split
 ·split
  ·exact sP _ _
  ·rfl
 ·rfl
theorem AP (E:List aR) (c:aE) (i:Nat):((mG E c)[i]?).map (λy=>(y.Got,y.Did))=(E[i]?).map λy=>(y.Got,y.Did):=by
 rw[sO];split
 ·cases E[i]?<;>rfl
 ·rfl
theorem JB (bar:Int) (p:aC) (E:List aR) (i:Nat):((rG bar p E)[i]?).map (λy=>(y.Got,y.Did))=(E[i]?).map λy=>(y.Got,y.Did):=by
 unfold rG;split
 ·split
  ·exact AP _ _ _
  ·rfl
 ·rfl
theorem EJ {w w':ay} (hd:∀ i:Nat,(w'.Ears[i]?).map (λy=>(y.Got,y.Did))=(w.Ears[i]?).map λy=>(y.Got,y.Did)) (r:bH):uS w' r=uS w r:=by
 unfold uS bG;cases decide (0<=r.Role) with
 | false=>rfl
 | true=>
  simp only[qaa]
  have:=hd r.Role.toNat;revert this;cases w'.Ears[r.Role.toNat]? with
  | none=>cases w.Ears[r.Role.toNat]? with
   | none=>exact λ_=>rfl
   | some y=>exact λh=>by cases h
  | some x=>cases w.Ears[r.Role.toNat]? with
   | none=>exact λh=>by cases h
   | some y=>
    intro h;simp only[qaY,qaG,qcU] at h;simp only[h.2]
theorem vR {w w':ay} (hl:w'.Ears.length=w.Ears.length) (hb:w'.Bar=w.Bar) (hd:∀ i:Nat,(w'.Ears[i]?).map (λy=>(y.Got,y.Did))=(w.Ears[i]?).map λy=>(y.Got,y.Did)) (p:aC):zp w' p=zp w p:=by
 unfold zp;rw[hl,hb];split
 ·rfl
 ·rw[EJ hd]
 ·rfl
theorem G4 {x:aR} {n bar:Int} {c:aE} {role:Int} (h:nX x role n bar=true) (hc:et c n=true) (hr:c.Role=role) (hb:bar<=c.Bar):nX ⟨lU x.Cues c,x.Got,x.Did⟩ role n bar=true:=by
 unfold nX at h ⊢;simp only[Z9] at h ⊢;exact⟨h.1,uR hc hr h.2 hb⟩
theorem KP {w:ay} (h:okW w) {k:Nat} (hk:k<w.Net.Queue.length) {c:aE} (hm:msg (CE w.Net k).Data=some (.inl c)):et c (w.Ears.length:Int)=true/\msg w.Net.Queue[k].Data=some (.inl c):=by
 unfold CE at hm;rw[Z7 hk] at hm;simp only at hm;split at hm
 ·rw[show mL.Data=[] from rfl,DY] at hm;cases hm
 ·exact⟨(zs (vN h (qaB _)) hm).1,hm⟩
theorem Fa {w:ay} (h:okW w) {k:Nat} (hk:k<w.Net.Queue.length):okW ⟨dN w.Net k,rG w.Bar (CE w.Net k) w.Ears,w.Bar⟩:=by
 have h0:=h;obtain ⟨⟨h1,h2⟩,h3,h4,h5,h6⟩:=h;have hl:=G5 w.Bar (CE w.Net k) w.Ears;refine⟨by show 1<=(rG w.Bar (CE w.Net k) w.Ears).length/\_; rw[hl]; exact⟨h1,h2⟩,h3,tE h4 k,λj hj=>?_,qak.2 λp hp=>?_⟩
 ·show nX (rG w.Bar (CE w.Net k) w.Ears)[j] j ((rG w.Bar (CE w.Net k) w.Ears).length:Int) w.Bar=true;have hj':j<w.Ears.length:=by rw[<-hl]; exact hj
  rw[hl];have key:(rG w.Bar (CE w.Net k) w.Ears)[j]? = some (rG w.Bar (CE w.Net k) w.Ears)[j]:=Z7 hj;generalize (rG w.Bar (CE w.Net k) w.Ears)[j]=y at key;unfold rG at key;split at key
  ·rename_i c hm;obtain ⟨hc,_⟩:=KP h0 hk hm;obtain ⟨hr0,hr1⟩:=ot hc h2 h1;split at key
   ·rename_i hle;rw[sO] at key;split at key
    ·rename_i he;rw[Z7 hj',qaY,qaG] at key;subst key;exact G4 (h5 j hj') hc o3 hle
    ·rw[Z7 hj',qaG] at key;subst key;exact h5 j hj'
   ·rw[Z7 hj',qaG] at key;subst key;exact h5 j hj'
  ·rw[Z7 hj',qaG] at key;subst key;exact h5 j hj'
 ·rw[vR (w:=w) (w':=⟨dN w.Net k,rG w.Bar (CE w.Net k) w.Ears,w.Bar⟩) hl rfl (JB _ _ _) p];refine qak.1 h6 p ?_;have hp':p∈w.Net.Queue.take k++w.Net.Queue.drop (k+1):=hp;rcases qa8.1 hp' with hp' | hp'
  ·exact qaJ hp'
  ·exact qaL hp'
def Od:aE:=⟨-1,0,0,0⟩
def better (b:Int) (x c:aE):aE:=if c.Bar=b/\x.No<c.No then c else x
def B5 (l:List aE) (b:Int):aE:=l.foldl (better b) Od
def oE (l:List aE) (b:Int):Option aE:=l.find? λx=>x.Bar==b
theorem EC (l:List aE) (c:aE) (b:Int):B5 (l++[c]) b=better b (B5 l b) c:=by
 unfold B5;rw[List.foldl_append];rfl
theorem Hs {x:aE} {r:List aE} {c:aE} (h:x.Bar<c.Bar):lU (x :: r) c=x :: lU r c:=by
 rw[qP,qaf h]
theorem Hr {x:aE} {r:List aE} {c:aE} (h:¬ x.Bar<c.Bar):lU (x :: r) c=if x.Bar=c.Bar then (if x.No<c.No then c :: r else x :: r) else c :: x :: r:=by
 rw[qP,qah h]
theorem gb (x:aE) (r:List aE) (b:Int):oE (x :: r) b=if x.Bar=b then some x else oE r b:=by
 unfold oE;rw[List.find?_cons];by_cases h:x.Bar=b
 ·rw[qaf h,show (x.Bar==b)=true by simpa using h]
 ·rw[qah h,show (x.Bar==b)=false by simpa using h]
theorem uP {l:List aE} {b:Int} (h:∀ x∈l,b<x.Bar):oE l b=none:=by
 unfold oE;rw[List.find?_eq_none];intro x hx;have:=h x hx;simp;omega
theorem uO (c:aE) (b:Int):∀ (l:List aE),l.Pairwise (λx y=>x.Bar<y.Bar)->oE (lU l c) b=if c.Bar=b then some (match oE l b with | some x=>if x.No<c.No then c else x | none=>c) else oE l b
 | [],_=>by
  rw[xu,gb];rfl
 | x :: r,h=>by
  obtain ⟨h1,h2⟩:=qdx.1 h;by_cases hx:x.Bar<c.Bar
  ·rw[Hs hx,gb,gb,uO c b r h2];by_cases hb:x.Bar=b
   ·rw[qaf hb,qah o3,qaf hb]
   ·rw[qah hb,qah hb]
  ·rw[Hr hx];by_cases he:x.Bar=c.Bar
   ·rw[qaf he];by_cases hn:x.No<c.No
    ·rw[qaf hn,gb c r,gb x r];by_cases hb:c.Bar=b
     ·rw[qaf hb,qaf hb,qaf (show x.Bar=b by omega)];simp only[hn,qb4]
     ·rw[qah hb,qah hb,qah (show ¬ x.Bar=b by omega)]
    ·rw[qah hn,gb x r];by_cases hb:c.Bar=b
     ·rw[qaf hb,qaf (show x.Bar=b by omega)];simp only[hn,qcq]
     ·rw[qah hb]
   ·rw[qah he,gb];by_cases hb:c.Bar=b
    ·rw[qaf hb,qaf hb,uP (l:=x :: r)];intro y hy;rcases qaD.1 hy with rfl | hy
     ·omega
     ·have:=h1 y hy; omega
    ·rw[qah hb,qah hb]
def told (cs arr:List aE) (bar:Int):Prop:=∀ b,bar<=b->B5 arr b=(oE cs b).getD Od
theorem I0 (bar:Int):told [] [] bar:=λb _=>rfl
theorem Fo {cs arr:List aE} {bar:Int} {c:aE} (h:told cs arr bar) (ha:cs.Pairwise (λx y=>x.Bar<y.Bar)) (h0:0<=c.No):told (lU cs c) (arr++[c]) bar:=λb hb=>by
 rw[EC,uO c b cs ha,h b hb];unfold better;by_cases hc:c.Bar=b
 ·rw[qaf hc];cases hq:oE cs b with
  | none=>
   rw[qaf ⟨hc,show Od.No<c.No from (by show (-1:Int)<c.No; omega)⟩];rfl
  | some x=>
   by_cases hn:x.No<c.No
   ·simp only[qbS,hn,qb4,qcr,hc]
   ·simp only[qbS,hn,qcq,and_false]
 ·rw[qah hc,qah (λq=>hc q.1)]
theorem Fp {cs arr:List aE} {bar:Int} (h:told cs arr bar):told (tG bar cs) arr (bar+1):=λb hb=>by
 rw[h b o3];cases cs with
 | nil=>rfl
 | cons c l=>
  show (oE (c :: l) b).getD Od=(oE (bif c.Bar==bar then l else c :: l) b).getD Od;cases hc:(c.Bar==bar) with
  | false=>rfl
  | true=>
   have hc:c.Bar=bar:=by simpa using hc
   rw[qaa,gb,qah o3]
theorem CN {cs arr:List aE} {bar:Int} (h:told cs arr bar) (ha:cs.Pairwise (λx y=>x.Bar<y.Bar)) (hb:∀ x∈cs,bar<=x.Bar):(B5 arr bar).Program=match cs with | c :: _=>bif c.Bar==bar then c.Program else 0 | []=>0:=by
 rw[h bar (qb9 _)];cases cs with
 | nil=>rfl
 | cons c l=>
  rw[gb];show _=bif c.Bar==bar then c.Program else 0
  by_cases hc:c.Bar=bar
  ·rw[qaf hc,show (c.Bar==bar)=true by simpa using hc];rfl
  ·rw[qah hc,show (c.Bar==bar)=false by simpa using hc,uP]
   ·rfl
   ·intro x hx;have h1:c.Bar<x.Bar:=(qdx.1 ha).1 x hx;have h2:=hb c qbq;omega
theorem DX {l:List Int} (h:∀ n∈l,ee n) (hl:l.length<=1000):msg (iE (vL l))=qV (l.map vI):=by
 unfold msg;rw[GU (GM l) (D4 h hl),qaf ⟨rfl,rfl⟩];rfl
theorem JZ {c:aE} (h:jG c):msg (uQ c)=some (.inl c):=by
 unfold uQ;rw[DX (tX h) (qax rfl)];rfl
theorem J0 {r:bH} (h:jj r):msg (sV r)=some (.inr r):=by
 unfold sV;rw[DX (zy h) (qax rfl)];rfl
theorem DN {l:List Int} (h:∀ n∈l,ee n) (hl:l.length<=1000):(iE (vL l)).length<=420*(1+l.length):=by
 have:=yB (vL l) (D4 h hl) (by rw[zj]; omega);rwa [zj] at this
theorem Ip {a b:Int} {d:List UInt8} (h0:0<=a) (h1:0<=b) (h2:a<24) (h3:b<24) (hne:a≠b) (hd:d.length<=1000000):kY ⟨a,b,d⟩=true:=by
 unfold kY A2;simp only[Z9,qag]
 refine⟨⟨⟨?_,?_⟩,?_⟩,o3⟩
 ·split<;>assumption
 ·split<;>split<;>omega
 ·split<;>assumption
theorem vP {w:ay} (h:okW w) {p:aC} (hp:zp w p=true) (hk:kY p=true) (hq:w.Net.Queue.length<=4095):okW ⟨⟨w.Net.Queue++[p],w.Net.Apart⟩,w.Ears,w.Bar⟩:=by
 obtain ⟨h1,h2,h3,h4,h5⟩:=h;refine⟨h1,h2,?_,h4,?_⟩
 ·obtain ⟨q1,q2,q3⟩:=(rT _).1 h3;refine(rT _).2 ⟨by show (w.Net.Queue++[p]).length<=_; simp; omega,λx hx=>?_,q3⟩;rcases qa8.1 (show x∈w.Net.Queue++[p] from hx) with hx | hx
  ·exact q2 x hx
  ·rw[qcl.1 hx]; exact hk
 ·refine qak.2 λx hx=>?_;rw[vR (w:=w) (w':=⟨⟨w.Net.Queue++[p],w.Net.Apart⟩,w.Ears,w.Bar⟩) rfl rfl (λ_=>rfl)];rcases qa8.1 (show x∈w.Net.Queue++[p] from hx) with hx | hx
  ·exact qak.1 h5 x hx
  ·rw[qcl.1 hx]; exact hp
theorem pG {w:ay} (h:okW w) (k:Nat):okW ⟨dN w.Net k,w.Ears,w.Bar⟩:=by
 obtain ⟨h1,h2,h3,h4,h5⟩:=h;refine⟨h1,h2,tE h3 k,h4,qak.2 λx hx=>?_⟩;rw[vR (w:=w) (w':=⟨dN w.Net k,w.Ears,w.Bar⟩) rfl rfl (λ_=>rfl)];rcases qa8.1 (show x∈w.Net.Queue.take k++w.Net.Queue.drop (k+1) from hx) with hx | hx
 ·exact qak.1 h5 x (qaJ hx)
 ·exact qak.1 h5 x (qaL hx)
theorem Bm {x:aP} {p:aC} (h:rR x=true) (hp:kY p=true):rX x p=(⟨x.Queue++[p],x.Apart⟩,0):=by
 unfold rX;rw[h,hp];rfl
theorem IV {x:aP} {p:aC} (h:rR x=true) (hp:kY p=true) (hq:x.Queue.length<=4095):qA x p=(⟨x.Queue++[p],x.Apart⟩,0):=by
 unfold qA;rw[h,hp,show ((x.Queue.length:Int)==4096)=false by simp; omega];rfl
theorem KX {w:ay} (h:okW w) {c:aE} (hc:et c (w.Ears.length:Int)=true) (hi:jG c) (hq:w.Net.Queue.length<=4095):xK w c=(⟨⟨w.Net.Queue++[⟨0,wr .i64 (c.Role+1),uQ c⟩],w.Net.Apart⟩,w.Ears,w.Bar⟩,0)/\okW ⟨⟨w.Net.Queue++[⟨0,wr .i64 (c.Role+1),uQ c⟩],w.Net.Apart⟩,w.Ears,w.Bar⟩:=by
 obtain ⟨hr0,hr1⟩:=ot hc h.1.2 h.1.1;have h12:=h.1.2;have hw:wr .i64 (c.Role+1)=c.Role+1:=dy o3 o3;have hk:kY ⟨0,wr .i64 (c.Role+1),uQ c⟩=true:=by
  rw[hw];exact Ip o3 o3 o3 o3 o3 (by have:=DN (tX hi) (qax rfl); have e:(EH c).length=5:=rfl; rw[e] at this; exact qaC this (by decide))
 refine⟨?_,vP h (by unfold zp; rw[JZ hi]; simp[hc]) hk hq⟩;unfold xK;rw[fG h,hc,Bm h.2.2.1 hk];rfl
theorem KW {w:ay} (h:okW w) {c:aE} (hc:et c (w.Ears.length:Int)=false):xK w c=(zW,1):=by
 unfold xK;rw[fG h,hc];rfl
theorem IG {w:ay} (h:okW w) {r b:Nat} (hr:r<w.Ears.length) {d:Int} (hb:(b:Int)<w.Bar) (hd:w.Ears[r].Did[b]? = some d) (hdi:ee d) (hq:w.Net.Queue.length<=4095):og w.Net (r:Int) (b:Int) d=(⟨w.Net.Queue++[⟨wr .i64 ((r:Int)+1),0,sV ⟨r,b,d⟩⟩],w.Net.Apart⟩,0)/\okW ⟨⟨w.Net.Queue++[⟨wr .i64 ((r:Int)+1),0,sV ⟨r,b,d⟩⟩],w.Net.Apart⟩,w.Ears,w.Bar⟩:=by
 have h12:=h.1.2;have hb2:=h.2.1.2;have hi:jj ⟨(r:Int),(b:Int),d⟩:=⟨jN (by show _<=((r:Nat):Int); omega) (by show ((r:Nat):Int)<=_; omega),jN (by show _<=((b:Nat):Int); omega) (by show ((b:Nat):Int)<=_; omega),hdi⟩
 have hw:wr .i64 ((r:Int)+1)=(r:Int)+1:=dy o3 o3;have hk:kY ⟨wr .i64 ((r:Int)+1),0,sV ⟨r,b,d⟩⟩=true:=by
  rw[hw];exact Ip o3 o3 o3 o3 o3 (by have:=DN (zy hi) (qax rfl); have e:(IE ⟨(r:Int),(b:Int),d⟩).length=4:=rfl; rw[e] at this; exact qaC this (by decide))
 refine⟨IV h.2.2.1 hk hq,vP h ?_ hk hq⟩;unfold zp;rw[J0 hi];have hdid:uS w ⟨(r:Int),(b:Int),d⟩=true:=by
  unfold uS;rw[bE,Z7 hr];simp only
  rw[bE,hd];simp
 simp only[hdid,qbj,qbn]
 unfold jo;simp only[Z9,qag]
 omega
theorem Eg {r:Nat}:∀ (l:List Int) (w:ay) (b:Nat),okW w->(hr:r<w.Ears.length)->(∀ j,l[j]? = w.Ears[r].Did[b+j]?)->(b:Int)+l.length<=w.Bar->(∀ d∈l,ee d)->w.Net.Queue.length+l.length<=4095 ->
  ∃ q:List aC,q.length=l.length/\zA (r:Int) w.Net (b:Int) l=.inr ⟨w.Net.Queue++q,w.Net.Apart⟩/\okW ⟨⟨w.Net.Queue++q,w.Net.Apart⟩,w.Ears,w.Bar⟩
 | [],w,b,h,hr,hd,hb,hi,hq=>⟨[],rfl,by rw[qaW]; rfl,by rw[qaW]; exact h⟩
 | d :: l,w,b,h,hr,hd,hb,hi,hq=>by
  simp only[qae] at hb hq;have h0:=hd 0;rw[qch,qbv] at h0;obtain ⟨e1,e2⟩:=IG h hr (b:=b) (d:=d) o3 h0.symm (hi d qbq) o3;obtain ⟨q,q1,q2,q3⟩:=Eg (r:=r) l ⟨⟨w.Net.Queue++[⟨wr .i64 ((r:Int)+1),0,sV ⟨r,b,d⟩⟩],w.Net.Apart⟩,w.Ears,w.Bar⟩ (b+1) e2 hr (λj=>by
   have:=hd (j+1);rw[qbC] at this;rw[this];show _=w.Ears[r].Did[b+1+j]?;rw[show b+1+j=b+(j+1) by omega]) (by show ((b+1:Nat):Int)+l.length<=w.Bar; omega) (λd' hd'=>hi d' (qbp _ hd')) (by show (w.Net.Queue++[_]).length+_<=_; simp; omega)
  simp only at q2 q3;rw[qaV] at q2 q3;refine⟨⟨wr .i64 ((r:Int)+1),0,sV ⟨r,b,d⟩⟩ :: q,by simp[q1],?_,q3⟩;rw[zA,e1];simp only[qaP,Z8]
  rw[show (b:Int)+1=((b+1:Nat):Int) by omega,q2];rfl
theorem xr {v d:Int} (hv:0<=v/\v<=8) (hd:d=v∨d=0):∀ (a b:List Int),a.length=b.length->oG a b=true->oG (a++[v]) (b++[d])=true
 | [],[],_,_=>by
  show (jo v 0 8&&!((d != v)&&(d != 0))&&true)=true;unfold jo;rcases hd with rfl | rfl<;>simp[hv.1,hv.2]
 | x :: a,y :: b,hl,h=>by
  have h':(jo x 0 8&&!((y != x)&&(y != 0))&&oG a b)=true:=h;rw[Z9] at h';show (jo x 0 8&&!((y != x)&&(y != 0))&&oG (a++[v]) (b++[d]))=true;rw[h'.1,xr hv hd a b (by simpa using hl) h'.2];rfl
theorem yO:∀ (a b:List Int),a.length=b.length->oG a b=true->(∀ x∈a,0<=x/\x<=8)/\∀ x∈b,0<=x/\x<=8
 | [],[],_,_=>⟨λx h=>(by cases h),λx h=>(by cases h)⟩
 | x :: a,y :: b,hl,h=>by
  have h':(jo x 0 8&&!((y != x)&&(y != 0))&&oG a b)=true:=h;rw[Z9,Z9] at h';obtain ⟨⟨h1,h2⟩,h3⟩:=h';unfold jo at h1;simp only[Z9,qag] at h1;obtain ⟨i1,i2⟩:=yO a b (by simpa using hl) h3;have hy:y=x∨y=0:=by
   by_cases e:y=x
   ·exact .inl e
   ·by_cases e':y=0
    ·exact .inr e'
    ·simp[e,e'] at h2
  refine⟨λz hz=>?_,λz hz=>?_⟩
  ·rcases qaD.1 hz with rfl | hz
   ·exact h1
   ·exact i1 z hz
  ·rcases qaD.1 hz with rfl | hz
   ·rcases hy with rfl | rfl
    ·exact h1
    ·exact⟨qb9 _,by decide⟩
   ·exact i2 z hz
theorem dJ {x:aR} {role n bar:Int} (h:nX x role n bar=true):(x.Got.length:Int)=bar/\(x.Did.length:Int)=bar/\oG x.Got x.Did=true/\gF role n bar x.Cues=true:=by
 unfold nX at h;simp only[Z9,qa5] at h;exact⟨h.1.1.1,h.1.1.2,h.1.2,h.2⟩
theorem we {x:Int} (h:0<=x/\x<=8):ee x:=jN o3 o3
theorem IH {c:aE} {n:Nat} (h:et c (n:Int)=true) (hn:n<=12):jG c:=by
 unfold et jo at h;simp only[Z9,qag] at h;rw[dy o3 o3] at h;exact⟨jN o3 o3,jN o3 o3,jN o3 o3,jN o3 o3⟩
theorem GZ {w:ay} (h:okW w) {x:aR} (hx:x∈w.Ears):∀ d∈x.Did,ee d:=by
 obtain ⟨j,hj,rfl⟩:=qa2 hx;obtain ⟨h1,h2,h3,_⟩:=dJ (h.2.2.2.1 j hj);exact λd hd=>we ((yO _ _ o3 h3).2 d hd)
theorem Nq {w:ay} (h:okW w) (ha:w.Net.Apart=[]):lZ w:=by
 have hm:(4611686018427387904:Nat)<=9223372036854775807:=by decide
 obtain ⟨⟨h1,h2⟩,⟨h3,h4⟩,h5,h6,h7⟩:=h;obtain ⟨q1,q2,q3⟩:=(rT _).1 h5;have big:∀ {n:Nat},n<=2000000->n<=mh:=λh=>qaC h (qax rfl);refine⟨⟨⟨big o3,λp hp=>?_⟩,?_⟩,⟨big o3,λx hx=>?_⟩,jN o3 o3⟩
 ·have hk:=q2 p hp;have hl:=D2 hk;unfold kY A2 at hk;simp only[Z9,qag] at hk;obtain ⟨⟨⟨a1,a2⟩,a3⟩,_⟩:=hk;refine⟨?_,?_,big o3⟩
  ·refine jN ?_ ?_<;>(split at a1<;>split at a3<;>omega)
  ·refine jN ?_ ?_<;>(split at a1<;>split at a3<;>omega)
 ·rw[ha];exact⟨big (qav _),λz hz=>by cases hz⟩
 ·obtain ⟨j,hj,rfl⟩:=qa2 hx;obtain ⟨e1,e2,e3,e4⟩:=dJ (h6 j hj);obtain ⟨g1,g2⟩:=yO _ _ o3 e3;obtain ⟨_,_,c1,c2⟩:=lN e4 h3 o3;exact⟨⟨big o3,λc hc=>IH (c1 c hc).1 h2⟩,⟨big o3,λz hz=>we (g1 z hz)⟩,⟨big o3,λz hz=>we (g2 z hz)⟩⟩
theorem EI {role n bar:Int}:∀ {l:List aE},gF role n bar l=true->gF role n (bar+1) (tG bar l)=true
 | [],_=>rfl
 | c :: l,h=>by
  have h':=h;unfold gF at h';simp only[Z9,qa3,qbl,qa5] at h';obtain ⟨⟨⟨h1,h2⟩,h3⟩,h4⟩:=h';show gF role n (bar+1) (bif c.Bar==bar then l else c :: l)=true;by_cases hc:c.Bar=bar
  ·rw[show (c.Bar==bar)=true by simpa using hc,qaa,<-hc];exact h4
  ·rw[show (c.Bar==bar)=false by simpa using hc,Z8];unfold gF;simp only[Z9,qa3,qbl,qa5]
   exact⟨⟨⟨h1,h2⟩,o3⟩,h4⟩
theorem JK {w:ay} (h:okW w) (deaf:List Int) (j:Nat):0<=b8 w deaf j/\b8 w deaf j<=8:=by
 unfold b8;split
 ·rename_i x hx;obtain ⟨hj,rfl⟩:=qad.1 hx;obtain ⟨_,_,_,e4⟩:=dJ (h.2.2.2.1 j hj);split
  ·rename_i c l hc;rw[hc] at e4;unfold gF at e4;simp only[Z9] at e4;have hr:=e4.1.1.1;unfold et jo at hr;simp only[Z9,qag] at hr;cases ((c.Bar==w.Bar)&&!decide ((j:Int)∈deaf))
   ·exact⟨qb9 0,show (0:Int)<=8 by decide⟩
   ·exact⟨by show (0:Int)<=c.Program; omega,by show c.Program<=8; omega⟩
  ·exact⟨qb9 _,by decide⟩
 ·exact⟨qb9 _,by decide⟩
theorem MO (g:List Int) (V:Nat->Int) (n j:Nat) (hj:j<n):Cc g V n j=V j∨Cc g V n j=0:=by
 unfold Cc;rw[(uh g V n).2 j hj,qbS];split
 ·exact .inl rfl
 ·exact .inr rfl
theorem jg {w:ay} (g:List Int) (V:Nat->Int) {j:Nat} (hj:j<w.Ears.length):(cN w g V w.Ears.length)[j]? = some ⟨tG w.Bar w.Ears[j].Cues,w.Ears[j].Got++[V j],w.Ears[j].Did++[Cc g V w.Ears.length j]⟩:=by
 unfold cN;rw[qaO,qc1 hj,qaY];unfold E7;rw[Z7 hj]
theorem IB {w:ay} (h:okW w) (hb:w.Bar<=4095) (g:List Int) (V:Nat->Int) {p:aC} (hp:zp w p=true):zp ⟨w.Net,cN w g V w.Ears.length,w.Bar+1⟩ p=true:=by
 have hl:(cN w g V w.Ears.length).length=w.Ears.length:=fC;unfold zp at hp ⊢;split
 ·rename_i c hm;rw[hm] at hp;show (et c ((cN w g V w.Ears.length).length:Int)&&_&&_)=true;rw[hl];exact hp
 ·rename_i r hm;rw[hm] at hp;simp only[Z9] at hp ⊢;obtain ⟨⟨⟨⟨h1,h2⟩,h3⟩,h4⟩,h5⟩:=hp;refine⟨⟨⟨⟨by rw[hl]; exact h1,?_⟩,h3⟩,h4⟩,?_⟩
  ·unfold jo at h2 ⊢;simp only[Z9,qag] at h2 ⊢;omega
  ·unfold jo at h1 h2;simp only[Z9,qag] at h1 h2;have hr:r.Role.toNat<w.Ears.length:=o3;unfold uS at h5 ⊢;have er:r.Role=((r.Role.toNat:Nat):Int):=o3;have eb:r.Bar=((r.Bar.toNat:Nat):Int):=o3;rw[er,bE,Z7 hr] at h5;rw[er,bE,show (ay.mk w.Net (cN w g V w.Ears.length) (w.Bar+1)).Ears[r.Role.toNat]? = _ from jg g V hr];simp only at h5 ⊢;obtain ⟨_,e2,_,_⟩:=dJ (h.2.2.2.1 _ hr);rw[eb,bE] at h5 ⊢;rw[qat o3];exact h5
 ·rename_i hm;rw[hm] at hp;exact hp
theorem Fb {w:ay} (h:okW w) (hb:w.Bar<=4095) (g deaf:List Int):okW ⟨w.Net,cN w g (b8 w deaf) w.Ears.length,w.Bar+1⟩:=by
 have hl:(cN w g (b8 w deaf) w.Ears.length).length=w.Ears.length:=fC;have h0:=h;obtain ⟨⟨h1,h2⟩,⟨h3,h4⟩,h5,h6,h7⟩:=h;refine⟨by show 1<=(cN w g (b8 w deaf) w.Ears.length).length/\(cN w g (b8 w deaf) w.Ears.length).length<=12; rw[hl]; exact⟨h1,h2⟩,⟨by show 0<=w.Bar+1; omega,by show w.Bar+1<=4096; omega⟩,h5,λj hj=>?_,qak.2 λp hp=>IB h0 hb g _ (qak.1 h7 p hp)⟩;have hj':j<w.Ears.length:=by rw[<-hl]; exact hj
 have key:=jg g (b8 w deaf) hj';rw[Z7 hj,qaG] at key;show nX (cN w g (b8 w deaf) w.Ears.length)[j] j ((cN w g (b8 w deaf) w.Ears.length).length:Int) (w.Bar+1)=true;rw[key,hl];obtain ⟨e1,e2,e3,e4⟩:=dJ (h6 j hj');unfold nX;simp only[Z9,qa5]
 refine⟨⟨⟨by rw[qar,qb7]; omega,by rw[qar,qb7]; omega⟩,xr (JK h0 deaf j) (MO g _ _ j hj') _ _ o3 e3⟩,EI e4⟩
theorem Iy {b:Nat}:∀ (l:List aR) (w:ay) (j:Nat),okW w->w.Ears.drop j=l->w.Bar=(b:Int)+1->w.Net.Queue.length+l.length<=4095 ->
  ∃ q:List aC,q.length=l.length/\A4 b j w.Net l=.inr ⟨w.Net.Queue++q,w.Net.Apart⟩/\okW ⟨⟨w.Net.Queue++q,w.Net.Apart⟩,w.Ears,w.Bar⟩
 | [],w,j,h,hd,hb,hq=>⟨[],rfl,by rw[qaW]; rfl,by rw[qaW]; exact h⟩
 | e :: l,w,j,h,hd,hb,hq=>by
  simp only[qae] at hq;have hj:j<w.Ears.length:=by
   refine qbs λhle=>?_;rw[qaH.2 hle] at hd;cases hd
  rw[qas hj] at hd;obtain ⟨rfl,hd2⟩:=qcY hd;obtain ⟨_,e2,_,_⟩:=dJ (h.2.2.2.1 j hj);have hlt:b<w.Ears[j].Did.length:=o3;have hdi:=GZ h (qaB hj) _ (qaB hlt);obtain ⟨s1,s2⟩:=IG h hj (b:=b) (d:=w.Ears[j].Did[b]) o3 (Z7 hlt) hdi o3;obtain ⟨q,q1,q2,q3⟩:=Iy l ⟨⟨w.Net.Queue++[⟨wr .i64 ((j:Int)+1),0,sV ⟨j,b,w.Ears[j].Did[b]⟩⟩],w.Net.Apart⟩,w.Ears,w.Bar⟩ (j+1) s2 hd2 hb (by show (w.Net.Queue++[_]).length+_<=_; simp; omega);simp only at q2 q3;rw[qaV] at q2 q3;refine⟨⟨wr .i64 ((j:Int)+1),0,sV ⟨j,b,w.Ears[j].Did[b]⟩⟩ :: q,by simp[q1],?_,q3⟩;rw[A4,Z7 hlt,qbS,s1];simp only[qaP,Z8]
  rw[q2];rfl
theorem GK {w:ay} (h:okW w) (hb:w.Bar<=4095) {g deaf:List Int} (hd:kV (w.Ears.length:Int) (-1) deaf=true) (hg:N9 g w.Ears.length) (hq:w.Net.Queue.length+w.Ears.length<=4095) :
  ∃ q:List aC,q.length=w.Ears.length/\yp w deaf g=(⟨⟨w.Net.Queue++q,w.Net.Apart⟩,cN w g (b8 w deaf) w.Ears.length,w.Bar+1⟩,0)/\okW ⟨⟨w.Net.Queue++q,w.Net.Apart⟩,cN w g (b8 w deaf) w.Ears.length,w.Bar+1⟩:=by
 have h0:=h.2.1.1;have hl:(cN w g (b8 w deaf) w.Ears.length).length=w.Ears.length:=fC;obtain ⟨q,q1,q2,q3⟩:=Iy (b:=w.Bar.toNat) (cN w g (b8 w deaf) w.Ears.length) ⟨w.Net,cN w g (b8 w deaf) w.Ears.length,w.Bar+1⟩ 0 (Fb h hb g deaf) rfl (by show w.Bar+1=_; omega) (by rw[hl]; exact hq);refine⟨q,by rw[q1,hl],?_,q3⟩;unfold yp;rw[fG h,hd,qaf hg,show (w.Bar==4096)=false by rw[qa6]; omega];simp only[qaP,qau,Z8]
 rw[show A4 w.Bar.toNat 0 w.Net (cN w g (b8 w deaf) w.Ears.length)=_ from q2]
theorem GH {w:ay} (h:okW w) {r:Nat} (hr:r<w.Ears.length) (hb:w.Bar≠0) (hq:(w.Net.Queue.length:Int)+w.Bar<=4095) :
  ∃ q:List aC,(q.length:Int)=w.Bar/\sC w (r:Int)=(⟨⟨w.Net.Queue++q,w.Net.Apart⟩,w.Ears,w.Bar⟩,0)/\okW ⟨⟨w.Net.Queue++q,w.Net.Apart⟩,w.Ears,w.Bar⟩:=by
 obtain ⟨_,e2,_,_⟩:=dJ (h.2.2.2.1 r hr);obtain ⟨q,q1,q2,q3⟩:=Eg (r:=r) w.Ears[r].Did w 0 h hr (λj=>by rw[qaU]) o3 (GZ h (qaB hr)) o3;refine⟨q,o3,?_,q3⟩;unfold sC;rw[fG h,show jo (r:Int) 0 ((w.Ears.length:Int) - 1)=true by unfold jo; simp only[Z9,qag]; omega,show (w.Bar==0)=false by rw[qa6]; exact hb];simp only[qaP,qau,Bool.or_self,Z8,qbu,Z7 hr]
 rw[show ((0:Nat):Int)=0 from rfl] at q2;rw[q2]
theorem GG {w:ay} (h:okW w) {r:Int} (hb:w.Bar=0):sC w r=(zW,1):=by
 unfold sC;rw[fG h,hb];simp
def Gd (k:Nat) (L:List Int) (i:Nat):Prop:=L.length=k/\∀ j,j<i->∃ x:Nat,L[j]? = some (x:Int)/\x<=j/\L[x]? = some (x:Int)
theorem Gd.set {k:Nat} {L:List Int} {i:Nat} (h:Gd k L i) (hi:i<k) {v:Int} (hv:v=(i:Int)∨∃ j,j<i/\L[j]? = some v):Gd k (L.set i v) (i+1):=by
 obtain ⟨h1,h2⟩:=h;have hself:(L.set i v)[i]? = some v:=qaE o3;refine⟨by rw[qdn]; exact h1,λj hj=>?_⟩;by_cases hji:j=i
 ·subst hji;rcases hv with rfl | ⟨q,hq,hL⟩
  ·exact⟨j,hself,qab _,hself⟩
  ·obtain ⟨x,e1,e2,e3⟩:=h2 q hq;rw[hL,qaG] at e1;subst e1;exact⟨x,hself,o3,by rw[qao o3]; exact e3⟩
 ·obtain ⟨x,e1,e2,e3⟩:=h2 j o3;exact⟨x,by rw[qao o3]; exact e1,e2,by rw[qao o3]; exact e3⟩
theorem zg {L:List Int} {i:Nat} (h:i<L.length) (v:Int):lY L i (λ(y:Int)=>v)=some (L.set i v):=by
 unfold lY;rw[Z7 h]
theorem VZ (x:UInt8):wr .i64 ((x.toNat:Nat):Int)=((x.toNat:Nat):Int):=by
 have:=x.toNat_lt;exact dy o3 o3
theorem ze (n:Nat) (l:List UInt8) (k:Nat) (hk:k<=12):∀ (m i:Nat) (L:List Int),i<=k->k - i<m->Gd k L i->∃ L',ju n l k (k:Int) m (i:Int) L=some L'/\Gd k L' k
 | 0,i,L,_,h,_=>absurd h (qaF _)
 | m+1,i,L,hi,h,hg=>by
  have hL:=hg.1;rw[ju];by_cases hlt:i<k
  ·have hx:gO k (i:Int)=some i:=p8 hlt;have hw:wr .i64 ((i:Int)+1)=((i+1:Nat):Int):=rh o3;rw[show decide ((i:Int)<(k:Int))=true by simpa using hlt,qaa,hx,Z6,zg o3,Z6,hw];have hs:((L.set i (i:Int)).set i (i:Int))=L.set i (i:Int):=by rw[qdL]
   by_cases hl:i<l.length
   ·have hne:decide (((i+1:Nat):Int)≠0)=true:=by rw[qbU]; omega
    have ht:Int.tmod ((l[i].toNat:Nat):Int) ((i+1:Nat):Int)=((l[i].toNat % (i+1):Nat):Int):=(Int.ofNat_tmod _ _).symm;rw[show decide ((i:Int)<(l.length:Int))=true by simpa using hl,qaa];simp only[bE,Z7 hl,Z6,VZ,hne,qaa,ht]
    have hm:l[i].toNat % (i+1)<i+1:=qcu _ o3;generalize l[i].toNat % (i+1)=q at hm;have hq:q<(L.set i (i:Int)).length:=by rw[qdn]; omega
    rw[p8 (by omega:q<k),Z6,Z7 hq,Z6,zg (by rw[qdn]; omega),Z6];by_cases hqi:q=i
    ·rw[show (((q:Nat):Int)==(i:Int))=true by simp[hqi],qaa,zg r9,Z6,qdL,qdL];exact ze n l k hk m (i+1) _ o3 o3 (hg.set hlt (.inl rfl))
    ·rw[show (((q:Nat):Int)==(i:Int))=false by rw[qa6]; omega,Z8,qdL];refine ze n l k hk m (i+1) _ o3 o3 (hg.set hlt (.inr ⟨q,o3,?_⟩));rw[<-Z7 hq,qao o3]
   ·rw[show decide ((i:Int)<(l.length:Int))=false by simpa using hl,Z8];exact ze n l k hk m (i+1) _ o3 o3 (hg.set hlt (.inl rfl))
  ·have hik:i=k:=by omega
   subst hik;rw[show decide ((i:Int)<(i:Int))=false by simp,Z8];exact⟨L,rfl,hg⟩
theorem VU (l:List UInt8) {k:Nat} (hk:k<=12):∃ g,OJ l (k:Int)=some g/\N9 g k:=by
 have hmk:BE 8 (k:Int) (0:Int)=some (List.replicate k 0):=by
  unfold BE;rw[BD,qac o3,qac o3,qac o3]; rfl
 obtain ⟨L',e1,e2⟩:=ze aD l k hk (aD+8) 0 (List.replicate k 0) (qav _) u3 ⟨r8,λj hj=>absurd hj (qaF _)⟩;have hlen:(List.replicate k (0:Int)).length=k:=r8;refine⟨L',?_,e2.1,λj hj _=>?_⟩
 ·unfold OJ RF;have e1':ju aD l k (k:Int) (aD+8) 0 (List.replicate k 0)=some L':=e1;rw[hmk,Z6,hlen,e1',Z6];simp only[qaM]
  rw[qaK (by rw[e2.1]; exact qab _)]
 ·obtain ⟨x,q1,q2,q3⟩:=e2.2 j (by rw[<-e2.1]; exact hj);unfold gB;rw[q1];simp only
  rw[bE,q3];unfold jo;simp only[Z9,qag]
  exact⟨⟨o3,o3⟩,trivial⟩
theorem zf (n:Nat) (b z:Int) (l:List aE) (hl:l.length<=4611686018427387904):∀ (m i:Nat) (x:aE),i<=l.length->l.length - i<m ->
  kq n b z l (l.length:Int) m (i:Int) x.No x.Role x.Bar x.Program=some ((λc:aE=>(c.No,c.Role,c.Bar,c.Program)) ((l.drop i).foldl (better b) x))
 | 0,i,x,_,h=>absurd h (qaF _)
 | m+1,i,x,hi,h=>by
  rw[kq];by_cases hlt:i<l.length
  ·rw[show decide ((i:Int)<(l.length:Int))=true by simpa using hlt,qaa,bE,Z7 hlt,Z6,qas hlt,qdc,rh o3];generalize l[i]=c;by_cases hb:c.Bar=b
   ·rw[show (c.Bar==b)=true by simpa using hb,qaa,Z6];by_cases hn:x.No<c.No
    ·rw[qac hn,qaa,show better b x c=c from qaf ⟨hb,hn⟩];exact zf n b z l hl m (i+1) c o3 o3
    ·rw[qal hn,Z8,show better b x c=x from qah (λq=>hn q.2)];exact zf n b z l hl m (i+1) x o3 o3
   ·rw[show (c.Bar==b)=false by simpa using hb,Z8,Z6,Z8,show better b x c=x from qah (λq=>hb q.1)];exact zf n b z l hl m (i+1) x o3 o3
  ·rw[show decide ((i:Int)<(l.length:Int))=false by simpa using hlt,Z8,qaH.2 o3];rfl
theorem VV (l:List aE) (b:Int) (hl:l.length<=4611686018427387904):OK l b=some (B5 l b).Program:=by
 unfold OK RG;have h:=zf aD b 0 l hl (aD+8) 0 Od (qav _) u3;rw[show ((0:Nat):Int)=0 from rfl,qaM] at h;rw[show kq aD b 0 l (l.length:Int) (aD+8) 0 (-1) 0 0 0=_ from h,Z6];rfl
def qs (mv:aJ) (j:Nat):Bool:=(nQ .u16 (jJ .u16 mv.Deaf (j:Int)) 1)==1
def gp (mv:aJ):Nat->List Int
 | 0=>[]
 | j+1=>bif qs mv j then gp mv j++[(j:Int)] else gp mv j
theorem oZ (mv:aJ):∀ i,(∀ x∈gp mv i,x<(i:Int))/\(gp mv i).length<=i
 | 0=>⟨λx h=>(by cases h),qab _⟩
 | i+1=>by
  obtain ⟨h1,h2⟩:=oZ mv i;rw[gp];cases qs mv i with
  | false=>exact⟨λx h=>by have:=h1 x h; omega,qcM h2⟩
  | true=>
   refine⟨λx h=>?_,by simp only[qaa,qar,qb7]; omega⟩;rcases qa8.1 h with h | h
   ·have:=h1 x h; omega
   ·rw[qcl.1 h]; omega
theorem xe (mv:aJ) {j:Nat}:∀ {i:Nat},j<i->decide ((j:Int)∈gp mv i)=qs mv j
 | 0,h=>absurd h (qaF _)
 | i+1,h=>by
  rw[gp];by_cases hji:j=i
  ·subst hji;cases qs mv j with
   | false=>
    rw[Z8,qbl];intro hm;have:=(oZ mv j).1 _ hm;omega
   | true=>rw[qaa,qbU]; simp
  ·rw[<-xe mv (j:=j) (i:=i) o3];cases qs mv i with
   | false=>rfl
   | true=>
    rw[qaa,qcz];simp only[qa8,qcl]
    refine⟨λq=>?_,Or.inl⟩;rcases q with q | q
    ·exact q
    ·omega
theorem vW {n j:Int}:∀ {l:List Int} {last:Int},kV n last l=true->last<j->(∀ x∈l,x<j)->j<=n - 1->kV n last (l++[j])=true
 | [],last,_,h1,_,h3=>by
  show (jo j (last+1) (n - 1)&&true)=true;unfold jo;simp only[qbn,Z9,qag]
  omega
 | x :: l,last,h,h1,h2,h3=>by
  rw[kV,Z9] at h;show kV n last (x :: (l++[j]))=true;rw[kV,h.1,vW h.2 (h2 x qbq) (λy hy=>h2 y (qbp _ hy)) h3];rfl
theorem tu (mv:aJ) {n:Nat}:∀ {i:Nat},i<=n->kV (n:Int) (-1) (gp mv i)=true
 | 0,_=>rfl
 | i+1,h=>by
  have ih:=tu mv (n:=n) (i:=i) o3;rw[gp];cases qs mv i with
  | false=>exact ih
  | true=>exact vW ih o3 (oZ mv i).1 o3
theorem DR (n:Nat) (k:Nat) (mv:aJ) (hk:k<=12):∀ (m i:Nat),i<=k->k - i<m->nM n (k:Int) mv m (i:Int) (gp mv i)=some (gp mv k)
 | 0,i,_,h=>absurd h (qaF _)
 | m+1,i,hi,h=>by
  rw[nM];by_cases hlt:i<k
  ·have ih:=DR n k mv hk m (i+1) o3 o3;rw[gp] at ih;have hl:=(oZ mv i).2;rw[show decide ((i:Int)<(k:Int))=true by simpa using hlt,qaa,show decide ((0:Int)<=(i:Int))=true by simp,qaa,show ((nQ .u16 (jJ .u16 mv.Deaf (i:Int)) 1)==1)=qs mv i from rfl,rh o3];cases hb:qs mv i with
   | false=>
    rw[hb] at ih;exact ih
   | true=>
    rw[hb] at ih;rw[qaa,O0 _ _ o3,Z6];exact ih
  ·have hik:i=k:=by omega
   subst hik;rw[show decide ((i:Int)<(i:Int))=false by simp,Z8]
end Go.Proofs.Ytebkhfhcipnfgaa
