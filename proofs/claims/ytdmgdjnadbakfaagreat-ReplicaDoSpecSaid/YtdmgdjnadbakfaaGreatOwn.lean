/-
 Two closed facts on the program.
-/
import Derived.Test.YtdmgdjnadbakfaaGreatT
namespace Go.Proofs.YtdmgdjnadbakfaaGreat
set_option linter.unusedVariables false
set_option linter.unusedSimpArgs false
set_option maxHeartbeats 4000000
set_option maxRecDepth 100000
set_option linter.defProp false
theorem An {p:Prop} (h:p:=by rw[fu]; omega):p:=h
theorem H7 {p:Prop} (h:p:=by rw[e3]; simp):p:=h
theorem XL {p:Prop} (h:p:=by rw[fD]; omega):p:=h
theorem XP {p:Prop} (h:p:=by simp[gi]; omega):p:=h
theorem XQ {p:Prop} (h:p:=by rw[List.length_cons]; omega):p:=h
theorem XR {p:Prop} (h:p:=by unfold iM; omega):p:=h
theorem XS {p:Prop} (h:p:=by simp[cI,cB,cS,cL,ax,ae,ah,aa,aN,bI,aI,aj,aq,ay,ba,au,cG,aG]):p:=h
theorem XT {p:Prop} (h:p:=by rw[List.drop_zero]; simp; omega):p:=h
def Yz:=@List.head?_drop
def Zg:=@List.length_eq_zero_iff
def Zl:=@List.filterMap_cons
def Zz:=@Bool.not_false
def ZE:=@BitVec.toNat_ofInt
def ZF:=@List.getLast?_eq_none_iff
def ZM:=@List.take_add_one
def ZV:=@List.not_mem_nil
def ZW:=@List.length_drop
def Z2:=@List.findSome?_eq_none_iff
def Z3:=@bne_self_eq_false
def qai:=@List.filterMap_append
def qaq:=@Int.fdiv_eq_ediv_of_nonneg
def qaw:=@List.mem_singleton
def qaA:=@List.cons.inj
def qaB:=@Nat.mul_assoc
def qaE:=@List.exists_of_findSome?_eq_some
def qaG:=@List.mem_iff_getElem?
def qaH:=@List.length_singleton
def qaO:=@Nat.pow_le_pow_right
def qaQ:=@List.length_pos_iff
def qaR:=@List.findSome?_cons
def qaU:=@Nat.mul_le_mul
def qa0:=@Int.toNat_natCast
def qa1:=@UInt8.ofNat_toNat
def qa2:=@List.length_range
def qa5:=@List.getLast?_eq_getElem?
def qbc:=@Nat.pow_succ
def qbd:=@List.any_eq_true
def qbm:=@List.head?_eq_getElem?
def qbn:=@List.head?_eq_none_iff
def qbo:=@Int.le_refl
def qbp:=@List.getElem_cons_drop
def qbx:=@List.pairwise_append
def qbB:=@ByteArray.toList_eq
def qbG:=@Or.imp_right
def qbJ:=@Nat.pow_add
section
open Go.Proofs.Tryz (prog)
theorem AW:eF ax:=fun x y h=>by
 unfold ax at h
 simp only[YH,A.v.injEq,Zw,Zy,Zo,qaf,qag] at h
 have h3:=tR x y (by simp[h])
 obtain ⟨xKind,xN,xS,lx⟩:=x; obtain ⟨yKind,yN,yS,ly⟩:=y
 simp_all
theorem cR:eF ae:=fun x y h=>by
 obtain ⟨xNo,xHolder,xUntil⟩:=x; obtain ⟨yNo,yHolder,yUntil⟩:=y
 simp only[ae,YH,A.v.injEq,A.imm.injEq,Zw,Zy,Zo,qaf,qag] at h
 simp_all
theorem ia:eF ah:=fun x y h=>by
 obtain ⟨xBar,xProgram⟩:=x; obtain ⟨yBar,yProgram⟩:=y
 simp only[ah,YH,A.v.injEq,A.imm.injEq,Zw,Zy,Zo,qaf,qag] at h
 simp_all
theorem bW:eF aa:=fun x y h=>by
 obtain ⟨xSelf,xLeases,xCalls,xOrder⟩:=x; obtain ⟨ySelf,yLeases,yCalls,yOrder⟩:=y
 simp only[aa,YH,A.v.injEq,A.imm.injEq,Zw,Zy,Zo,qaf,qag,map_inj (cR),map_inj (ia),map_inj (vN)] at h
 simp_all
theorem gE:eF aj:=fun x y h=>by
 obtain ⟨⟨⟨xDesks0Self,xDesks0Leases,xDesks0Calls,xDesks0Order⟩,⟨xDesks1Self,xDesks1Leases,xDesks1Calls,xDesks1Order⟩⟩,⟨xSynced0,xSynced1⟩,xTold,⟨xSpoken0,xSpoken1⟩⟩:=x; obtain ⟨⟨⟨yDesks0Self,yDesks0Leases,yDesks0Calls,yDesks0Order⟩,⟨yDesks1Self,yDesks1Leases,yDesks1Calls,yDesks1Order⟩⟩,⟨ySynced0,ySynced1⟩,yTold,⟨ySpoken0,ySpoken1⟩⟩:=y
 simp only[aj,YH,A.v.injEq,A.imm.injEq,Zw,Zy,Zo,qaf,qag,map_inj (cR),map_inj (ia),map_inj (vN)] at h
 simp_all
theorem mm:eF aq:=fun x y h=>by
 obtain ⟨xKind,xWho,xA,xB⟩:=x; obtain ⟨yKind,yWho,yA,yB⟩:=y
 simp only[aq,YH,A.v.injEq,A.imm.injEq,Zw,Zy,Zo,qaf,qag] at h
 simp_all
theorem pU:eF ay:=fun x y h=>by
 obtain ⟨xis,⟨xleaseNo,xleaseHolder,xleaseUntil⟩,⟨xcallBar,xcallProgram⟩⟩:=x; obtain ⟨yis,⟨yleaseNo,yleaseHolder,yleaseUntil⟩,⟨ycallBar,ycallProgram⟩⟩:=y
 simp only[ay,YH,A.v.injEq,A.imm.injEq,Zw,Zy,Zo,qaf,qag] at h
 simp_all
theorem cM {T:Type} {c:T->List A} (h:eF c):eF (fun x=>A.agg (c x)):=fun x y e=>h x y (A.agg.inj e)
theorem iE {T:Type} {f:T->List A} (h:eF f):eF (fun l:List T=>A.imm (l.map f) false):=fun x y e=>(map_inj h x y).1 (A.imm.inj e).1
theorem dy (k:IntKind):eF (fun n=>A.v (.int k n)):=fun x y e=>by simpa using e
theorem M1:eF (fun b=>A.v (.bool b)):=fun x y e=>by simpa using e
theorem dn {X:Type} {f:X->A} (hf:eF f):eF (fun x=>[f x]):=fun x y e=>hf x y (qaA e).1
theorem ee {X Y:Type} {f:X->A} {g:Y->List A} (hf:eF f) (hg:eF g):eF (fun x:X×Y=>f x.1 :: g x.2):=fun x y e=>Prod.ext (hf _ _ (qaA e).1) (hg _ _ (qaA e).2)
theorem eS:eF ai:=fun x y h=>AW x y (by rw[gj,gj]; exact h)
noncomputable def C0:Nat->List A->Option A:=fun _ _=>none
def b6 (C:Nat->List A->Option A):Prop:=∀ (k:Nat) (args:List A) (r:A),C k args=some r->fh prog (cx C0).glob k args r
theorem Sj:b6 C0:=fun k args r h=>(by cases h)
theorem gT {C:Nat->List A->Option A} {k:Nat} {c:List A->Option A} (h:b6 C) (hc:∀ args r,c args=some r->fh prog (cx C0).glob k args r):b6 (fW C k c):=fun j args r hr=>by
 simp only[fW] at hr
 rw[bG] at hr
 split at hr
 ·rename_i hj
  rw[Yq hj]; exact hc args r hr
 ·exact h j args r hr
theorem cu {X Y:Type} {C:Nat->List A->Option A} {k:Nat} {x:X->List A} {G:X->Option Y} {f:Y->A} (hC:b6 C) (h:∀ a,J (fun (o:R) y=>∃ v,o.1=.ret v/\aK o.2 v=f y) (aE (cx C) (dS (cx C) (aA+8)) (bq (cx C) (aA+8)) (aA+8) k (x a) [] 0) some (G a) some):b6 (fW C k fun args=>bO x (fun a=>(G a).map f) args):=gT hC fun args r h'=>by
 obtain ⟨a,y,rfl,hy,rfl⟩:=dX h'
 exact xD (cx:=cx C) (fun k args r _ h=>hC k args r h) j9 (h a) hy
def Ux (x:Int×Int×Int):List A:=[(iA x.1),(iA x.2.1),(iA x.2.2)]
theorem Rq:eF Ux:=ee (dy .i64) (ee (dy .i64) (dn (dy .i64)))
noncomputable def TA (args:List A):Option A:=bO Ux (fun x=>(zW x.1 x.2.1 x.2.2).map fun y=>(bA y)) args
noncomputable def C1:Nat->List A->Option A:=fW C0 32 TA
theorem KN:b6 C1:=cu Sj fun x=>Vg C0 aA  x.1 x.2.1 x.2.2
def Bp (x:Int×Int×Int):List A:=[(iA x.1),(iA x.2.1),(iA x.2.2)]
theorem Rf:eF Bp:=ee (dy .i64) (ee (dy .i64) (dn (dy .i64)))
noncomputable def Tn (args:List A):Option A:=bO Bp (fun x=>(Gy x.1 x.2.1 x.2.2).map fun y=>(A.tup [(A.agg (aa y.1)),(iA y.2)])) args
theorem Gb {C:Nat->List A->Option A} (h:∀ a,C 32 a=TA a):sM C:=fun a0 a1 a2=>(h _).trans (aS _ Rq (a0,a1,a2))
noncomputable def C2:Nat->List A->Option A:=fW C1 11 Tn
theorem KO:b6 C2:=cu KN fun x=>U6 C1 aA (Gb fun _=>j9) x.1 x.2.1 x.2.2
def UK (x:af):List A:=[(A.agg (aa x))]
theorem RL:eF UK:=dn (cM (bW))
noncomputable def Pz (args:List A):Option A:=bO UK (fun x=>(LL x).map fun y=>(iA y)) args
noncomputable def C3:Nat->List A->Option A:=fW C2 62 Pz
theorem KP:b6 C3:=cu KO fun x=>VA C2 aA  x
def UC (x:af×al):List A:=[(A.agg (aa x.1)),(A.agg (ae x.2))]
theorem Ry:eF UC:=ee (cM (bW)) (dn (cM (cR)))
noncomputable def TH (args:List A):Option A:=bO UC (fun x=>(IJ x.1 x.2).map fun y=>(bA y)) args
theorem SB {C:Nat->List A->Option A} (h:∀ a,C 62 a=Pz a):I3 C:=fun a0=>(h _).trans (aS _ RL a0)
noncomputable def C4:Nat->List A->Option A:=fW C3 41 TH
theorem KQ:b6 C4:=cu KP fun x=>Vn C3 aA (Gb fun _=>j9) (SB fun _=>j9) x.1 x.2
def UL (x:af×Int):List A:=[(A.agg (aa x.1)),(iA x.2)]
theorem RM:eF UL:=ee (cM (bW)) (dn (dy .i64))
noncomputable def TV (args:List A):Option A:=bO UL (fun x=>(LM x.1 x.2).map fun y=>(bA y)) args
noncomputable def C5:Nat->List A->Option A:=fW C4 64 TV
theorem KR:b6 C5:=cu KQ fun x=>VB C4 aA  x.1 x.2
def UD (x:af×av):List A:=[(A.agg (aa x.1)),(A.agg (ah x.2))]
theorem RA:eF UD:=ee (cM (bW)) (dn (cM (ia)))
noncomputable def TK (args:List A):Option A:=bO UD (fun x=>(J0 x.1 x.2).map fun y=>(bA y)) args
theorem SC {C:Nat->List A->Option A} (h:∀ a,C 64 a=TV a):I4 C:=fun a0 a1=>(h _).trans (aS _ RM (a0,a1))
noncomputable def C6:Nat->List A->Option A:=fW C5 44 TK
theorem KS:b6 C6:=cu KR fun x=>Vp C5 aA (Gb fun _=>j9) (SC fun _=>j9) x.1 x.2
def zV (x:af×ar):List A:=[(A.agg (aa x.1)),(A.agg (ay x.2))]
theorem Rz:eF zV:=ee (cM (bW)) (dn (cM (pU)))
noncomputable def TI (args:List A):Option A:=bO zV (fun x=>(CL x.1 x.2).map fun y=>(A.agg (aa y))) args
noncomputable def C7:Nat->List A->Option A:=fW C6 42 TI
theorem KT:b6 C7:=cu KS fun x=>Vo C6 aA  x.1 x.2
def Aa (x:af):List A:=[(A.agg (aa x))]
theorem Rj:eF Aa:=dn (cM (bW))
noncomputable def Tu (args:List A):Option A:=bO Aa (fun x=>(DE x).map fun y=>(iA y)) args
theorem K0 {C:Nat->List A->Option A} (h:∀ a,C 41 a=TH a):xU C:=fun a0 a1=>(h _).trans (aS _ Ry (a0,a1))
theorem Gc {C:Nat->List A->Option A} (h:∀ a,C 42 a=TI a):rI C:=fun a0 a1=>(h _).trans (aS _ Rz (a0,a1))
theorem Oa {C:Nat->List A->Option A} (h:∀ a,C 44 a=TK a):Bx C:=fun a0 a1=>(h _).trans (aS _ RA (a0,a1))
noncomputable def C8:Nat->List A->Option A:=fW C7 15 Tu
theorem KU:b6 C8:=cu KT fun x=>Va C7 aA (Gb fun _=>j9) (K0 fun _=>j9) (Gc fun _=>j9) (Oa fun _=>j9) x
def zZ (x:af×Int×Int):List A:=[(A.agg (aa x.1)),(iA x.2.1),(iA x.2.2)]
theorem Rg:eF zZ:=ee (cM (bW)) (ee (dy .i64) (dn (dy .i64)))
noncomputable def Tp (args:List A):Option A:=bO zZ (fun x=>(Lg x.1 x.2.1 x.2.2).map fun y=>(A.tup [(A.agg (aa y.1)),(iA y.2)])) args
theorem Bf {C:Nat->List A->Option A} (h:∀ a,C 15 a=Tu a):p7 C:=fun a0=>(h _).trans (aS _ Rj a0)
noncomputable def C9:Nat->List A->Option A:=fW C8 12 Tp
theorem KV:b6 C9:=cu KU fun x=>U7 C8 aA (Bf fun _=>j9) (K0 fun _=>j9) (Gc fun _=>j9) x.1 x.2.1 x.2.2
def qP (x:af×Int×Int):List A:=[(A.agg (aa x.1)),(iA x.2.1),(iA x.2.2)]
theorem Rh:eF qP:=ee (cM (bW)) (ee (dy .i64) (dn (dy .i64)))
noncomputable def Tq (args:List A):Option A:=bO qP (fun x=>(JV x.1 x.2.1 x.2.2).map fun y=>(A.tup [(A.agg (aa y.1)),(iA y.2)])) args
noncomputable def PM:Nat->List A->Option A:=fW C9 13 Tq
theorem Hn:b6 PM:=cu KV fun x=>U8 C9 aA (Bf fun _=>j9) (Gc fun _=>j9) (Oa fun _=>j9) x.1 x.2.1 x.2.2
def U3 (x:Int):List A:=[(A.v (.int .u64 x))]
theorem R4:eF U3:=dn (dy .u64)
noncomputable def PD (args:List A):Option A:=bO U3 (fun x=>(LX x).map fun y=>(iA y)) args
noncomputable def PN:Nat->List A->Option A:=fW PM 94 PD
theorem Ho:b6 PN:=cu Hn fun x=>VV PM aA  x
def UM (x:(List UInt8)):List A:=[(A.imm (List.map c8 x) false)]
theorem RN:eF UM:=dn (iE (vM))
noncomputable def TW (args:List A):Option A:=bO UM (fun x=>(LN x).map fun y=>(A.tup [(A.agg (ai y.1)),(iA y.2)])) args
theorem SQ {C:Nat->List A->Option A} (h:∀ a,C 94 a=PD a):BB C:=fun a0=>(h _).trans (aS _ R4 a0)
noncomputable def PO:Nat->List A->Option A:=fW PN 65 TW
theorem Hp:b6 PO:=cu Ho fun x=>VC PN aA (SQ fun _=>j9) x
def UE (x:(List UInt8)):List A:=[(A.imm (List.map c8 x) false)]
theorem RB:eF UE:=dn (iE (vM))
noncomputable def Py (args:List A):Option A:=bO UE (fun x=>(Lk x).map fun y=>(A.tup [(A.agg (ay y.1)),(bA y.2)])) args
theorem SD {C:Nat->List A->Option A} (h:∀ a,C 65 a=TW a):I5 C:=fun a0=>(h _).trans (aS _ RN a0)
noncomputable def PQ:Nat->List A->Option A:=fW PO 45 Py
theorem Hq:b6 PQ:=cu Hp fun x=>Vq PO aA (SD fun _=>j9) x
def pf (x:Int×(List (List UInt8))):List A:=[(iA x.1),(A.imm (List.map (cL c8) x.2) false)]
theorem Ri:eF pf:=ee (dy .i64) (dn (iE (Jr (vM))))
noncomputable def Tt (args:List A):Option A:=bO pf (fun x=>(JW x.1 x.2).map fun y=>(A.tup [(A.agg (aa y.1)),(iA y.2)])) args
theorem Sr {C:Nat->List A->Option A} (h:∀ a,C 45 a=Py a):DZ C:=fun a0=>(h _).trans (aS _ RB a0)
noncomputable def PR:Nat->List A->Option A:=fW PQ 14 Tt
theorem Hr:b6 PR:=cu Hq fun x=>U9 PQ aA (Bf fun _=>j9) (Gc fun _=>j9) (Sr fun _=>j9) x.1 x.2
def x8 (x:Int×Int):List A:=[(iA x.1),(iA x.2)]
theorem Xl:eF x8:=ee (dy .i64) (dn (dy .i64))
noncomputable def o8 (args:List A):Option A:=bO x8 (fun x=>(G8 x.1 x.2).map fun y=>(A.tup [(A.agg (aj y.1)),(iA y.2)])) args
theorem N2 {C:Nat->List A->Option A} (h:∀ a,C 11 a=Tn a):Bt C:=fun a0 a1 a2=>(h _).trans (aS _ Rf (a0,a1,a2))
noncomputable def Le:Nat->List A->Option A:=fW PR 8 o8
theorem xE:b6 Le:=cu Hr fun x=>T8 PR aA (N2 fun _=>j9) x.1 x.2
def ny (x:aD×Int×av):List A:=[(A.ip [(iA x.1.Pair.Desks.1.Self),(A.imm (List.map ae x.1.Pair.Desks.1.Leases) false),(A.imm (List.map ah x.1.Pair.Desks.1.Calls) false),(A.imm (List.map cB x.1.Pair.Desks.1.Order) false),(iA x.1.Pair.Desks.2.Self),(A.imm (List.map ae x.1.Pair.Desks.2.Leases) false),(A.imm (List.map ah x.1.Pair.Desks.2.Calls) false),(A.imm (List.map cB x.1.Pair.Desks.2.Order) false),(iA x.1.Pair.Synced.1),(iA x.1.Pair.Synced.2),(A.imm (List.map ae x.1.Pair.Told) false),(A.imm (List.map ah x.1.Pair.Spoken.1) false),(A.imm (List.map ah x.1.Pair.Spoken.2) false),(iA x.1.who)]),(iA x.2.1),(A.fn (Fn.func 68) [] [(A.ip [(iA x.2.2.Bar),(iA x.2.2.Program)])])]
theorem GZ:eF ny:=fun x y h=>by
 simp only[ny,Tk,A.ip.injEq,A.fn.injEq,map_inj (ia),map_inj (cR),map_inj (vN)] at h
 obtain ⟨⟨⟨⟨⟨xa0PairDesks0Self,xa0PairDesks0Leases,xa0PairDesks0Calls,xa0PairDesks0Order⟩,⟨xa0PairDesks1Self,xa0PairDesks1Leases,xa0PairDesks1Calls,xa0PairDesks1Order⟩⟩,⟨xa0PairSynced0,xa0PairSynced1⟩,xa0PairTold,⟨xa0PairSpoken0,xa0PairSpoken1⟩⟩,xa0who⟩,xa1,⟨xa2Bar,xa2Program⟩⟩:=x
 obtain ⟨⟨⟨⟨⟨ya0PairDesks0Self,ya0PairDesks0Leases,ya0PairDesks0Calls,ya0PairDesks0Order⟩,⟨ya0PairDesks1Self,ya0PairDesks1Leases,ya0PairDesks1Calls,ya0PairDesks1Order⟩⟩,⟨ya0PairSynced0,ya0PairSynced1⟩,ya0PairTold,⟨ya0PairSpoken0,ya0PairSpoken1⟩⟩,ya0who⟩,ya1,⟨ya2Bar,ya2Program⟩⟩:=y
 simp_all
noncomputable def uh (args:List A):Option A:=bO ny (fun x=>(mJ x.1 x.2.1 x.2.2).map fun y=>(bA y)) args
theorem Hk (args:List A) (r:A) (h:uh args=some r):fh prog (cx C0).glob 48 args r:=by
 obtain ⟨x,y,rfl,hy,rfl⟩:=dX h
 exact xD (f:=fun (y:Bool)=>(bA y)) (cx:=cx Le) (fun k args r _ h=>xE k args r h) j9 (J7 Le aA  x.1 x.2.1 x.2.2) hy
def oI (x:aD×Int×al):List A:=[(A.ip [(iA x.1.Pair.Desks.1.Self),(A.imm (List.map ae x.1.Pair.Desks.1.Leases) false),(A.imm (List.map ah x.1.Pair.Desks.1.Calls) false),(A.imm (List.map cB x.1.Pair.Desks.1.Order) false),(iA x.1.Pair.Desks.2.Self),(A.imm (List.map ae x.1.Pair.Desks.2.Leases) false),(A.imm (List.map ah x.1.Pair.Desks.2.Calls) false),(A.imm (List.map cB x.1.Pair.Desks.2.Order) false),(iA x.1.Pair.Synced.1),(iA x.1.Pair.Synced.2),(A.imm (List.map ae x.1.Pair.Told) false),(A.imm (List.map ah x.1.Pair.Spoken.1) false),(A.imm (List.map ah x.1.Pair.Spoken.2) false),(iA x.1.who)]),(iA x.2.1),(A.fn (Fn.func 69) [] [(A.ip [(iA x.2.2.No),(iA x.2.2.Holder),(iA x.2.2.Until)])])]
theorem G1:eF oI:=fun x y h=>by
 simp only[oI,Tk,A.ip.injEq,A.fn.injEq,map_inj (ia),map_inj (cR),map_inj (vN)] at h
 obtain ⟨⟨⟨⟨⟨xa0PairDesks0Self,xa0PairDesks0Leases,xa0PairDesks0Calls,xa0PairDesks0Order⟩,⟨xa0PairDesks1Self,xa0PairDesks1Leases,xa0PairDesks1Calls,xa0PairDesks1Order⟩⟩,⟨xa0PairSynced0,xa0PairSynced1⟩,xa0PairTold,⟨xa0PairSpoken0,xa0PairSpoken1⟩⟩,xa0who⟩,xa1,⟨xa2No,xa2Holder,xa2Until⟩⟩:=x
 obtain ⟨⟨⟨⟨⟨ya0PairDesks0Self,ya0PairDesks0Leases,ya0PairDesks0Calls,ya0PairDesks0Order⟩,⟨ya0PairDesks1Self,ya0PairDesks1Leases,ya0PairDesks1Calls,ya0PairDesks1Order⟩⟩,⟨ya0PairSynced0,ya0PairSynced1⟩,ya0PairTold,⟨ya0PairSpoken0,ya0PairSpoken1⟩⟩,ya0who⟩,ya1,⟨ya2No,ya2Holder,ya2Until⟩⟩:=y
 simp_all
noncomputable def xC (args:List A):Option A:=bO oI (fun x=>(mK x.1 x.2.1 x.2.2).map fun y=>(bA y)) args
theorem Hl (args:List A) (r:A) (h:xC args=some r):fh prog (cx C0).glob 48 args r:=by
 obtain ⟨x,y,rfl,hy,rfl⟩:=dX h
 exact xD (f:=fun (y:Bool)=>(bA y)) (cx:=cx Le) (fun k args r _ h=>xE k args r h) j9 (J8 Le aA  x.1 x.2.1 x.2.2) hy
noncomputable def DJ (args:List A):Option A:=match uh args with | some r=>some r | none=>xC args
theorem NJ (args:List A) (r:A) (h:DJ args=some r):fh prog (cx C0).glob 48 args r:=by
 unfold DJ at h
 split at h
 ·rename_i s hs; cases h; exact Hk args _ hs
 ·exact Hl args r h
theorem Jl (x:aD×Int×av) (y:aD×Int×al):ny x≠oI y:=fun h=>by simp[ny,oI] at h
theorem DC (x:aD×Int×av):DJ (ny x)=(mJ x.1 x.2.1 x.2.2).map fun y=>(bA y):=by
 have h1:=aS (fun x=>(mJ x.1 x.2.1 x.2.2).map fun y=>(bA y)) GZ x
 have h2:xC (ny x)=none:=by
  cases h:xC (ny x) with
  | none=>rfl
  | some r=>obtain ⟨z,hz,_⟩:=uj h; exact absurd hz.symm (Jl x z)
 unfold DJ
 rw[show uh (ny x)=_ from h1,h2]
 cases (mJ x.1 x.2.1 x.2.2).map fun y=>(bA y)<;>rfl
theorem DD (x:aD×Int×al):DJ (oI x)=(mK x.1 x.2.1 x.2.2).map fun y=>(bA y):=by
 have h1:=aS (fun x=>(mK x.1 x.2.1 x.2.2).map fun y=>(bA y)) G1 x
 have h2:uh (oI x)=none:=by
  cases h:uh (oI x) with
  | none=>rfl
  | some r=>obtain ⟨z,hz,_⟩:=uj h; exact absurd hz (Jl z x)
 unfold DJ
 rw[h2]
 exact h1
noncomputable def PS:Nat->List A->Option A:=fW Le 48 DJ
theorem Hs:b6 PS:=gT xE NJ
def UZ (x:(List al)×al):List A:=[(A.imm (List.map ae x.1) false),(A.agg (ae x.2))]
theorem R0:eF UZ:=ee (iE (cR)) (dn (cM (cR)))
noncomputable def Ud (args:List A):Option A:=bO UZ (fun x=>(Pn x.1 x.2).map fun y=>(iA y)) args
noncomputable def PU:Nat->List A->Option A:=fW PS 88 Ud
theorem Ht:b6 PU:=cu Hs fun x=>VP PS aA  x.1 x.2
def wj (x:(List al)×al):List A:=[(A.imm (List.map ae x.1) false),(A.agg (ae x.2))]
theorem RP:eF wj:=ee (iE (cR)) (dn (cM (cR)))
noncomputable def PA (args:List A):Option A:=bO wj (fun x=>(LO x.1 x.2).map fun y=>(bA y)) args
theorem SN {C:Nat->List A->Option A} (h:∀ a,C 88 a=Ud a):Jb C:=fun a0 a1=>(h _).trans (aS _ R0 (a0,a1))
noncomputable def PV:Nat->List A->Option A:=fW PU 71 PA
theorem Hu:b6 PV:=cu Ht fun x=>VE PU aA (SN fun _=>j9) x.1 x.2
def Gm (x:af×al):List A:=[(A.agg (aa x.1)),(A.agg (ae x.2))]
theorem RD:eF Gm:=ee (cM (bW)) (dn (cM (cR)))
noncomputable def TM (args:List A):Option A:=bO Gm (fun x=>(LF x.1 x.2).map fun y=>(A.tup [(A.agg (aa y.1)),(iA y.2)])) args
theorem SF {C:Nat->List A->Option A} (h:∀ a,C 71 a=PA a):I7 C:=fun a0 a1=>(h _).trans (aS _ RP (a0,a1))
noncomputable def PW:Nat->List A->Option A:=fW PV 52 TM
theorem Co:b6 PW:=cu Hu fun x=>Vs PV aA (Bf fun _=>j9) (K0 fun _=>j9) (Gc fun _=>j9) (SF fun _=>j9) x.1 x.2
def PL (x:ak):List A:=[(A.agg (ai x))]
theorem M6:eF PL:=dn (cM eS)
noncomputable def Sg (args:List A):Option A:=bO PL (fun x=>(Pp x).map fun y=>(A.tup [(iA y.1),(bA y.2)])) args
noncomputable def KK (q:Nat) (args:List A):Option A:=bO PL (fun x=>(Jg q x).map fun y=>(A.tup [(iA y.1),(bA y.2)])) args
noncomputable def Ab (q:Nat):Nat->List A->Option A:=fW PW 97 (KK q)
theorem XA (q:Nat):Af (Ab q) (Jg q):=fun a0=>(by kernel_rfl:_=KK q (PL a0)).trans (aS _ M6 a0)
theorem JM:∀ (q:Nat) (args:List A) (r:A) (h:KK q args=some r),fh prog (cx C0).glob 97 args r
 | 0,args,r,h=>by
  obtain ⟨x,y,rfl,hy,rfl⟩:=dX h
  cases hy
 | q+1,args,r,h=>by
  obtain ⟨x,y,rfl,hy,rfl⟩:=dX h
  exact xD (f:=fun (y:(Int×Bool))=>(A.tup [(iA y.1),(bA y.2)])) (cx:=cx (Ab q)) (fun k args r _ h=>gT Co (JM q) k args r h) j9 (VW (Ab q) aA  (Jg q) (XA q) x) hy
theorem Si (args:List A) (r:A) (h:Sg args=some r):fh prog (cx C0).glob 97 args r:=JM aA args r h
noncomputable def PX:Nat->List A->Option A:=fW PW 97 Sg
theorem Hv:b6 PX:=gT Co Si
def UY (x:ak):List A:=[(A.agg (ai x))]
theorem RZ:eF UY:=dn (cM eS)
noncomputable def Uc (args:List A):Option A:=bO UY (fun x=>(LS x).map fun y=>(iA y)) args
theorem SS {C:Nat->List A->Option A} (h:∀ a,C 97 a=Sg a):Jd C:=fun a0=>(h _).trans (aS _ M6 a0)
noncomputable def PY:Nat->List A->Option A:=fW PX 86 Uc
theorem Hw:b6 PY:=cu Hv fun x=>VO PX aA (SS fun _=>j9) x
def Ot (x:Int):List A:=[(iA x)]
theorem M3:eF Ot:=dn (dy .i64)
noncomputable def ND (args:List A):Option A:=bO Ot (fun x=>(Ad x).map fun y=>(A.v (.int .u64 y))) args
noncomputable def PZ:Nat->List A->Option A:=fW PY 100 ND
theorem Hx:b6 PZ:=cu Hw fun x=>QK PY aA  x
def UN (x:ak):List A:=[(A.agg (ai x))]
theorem RO:eF UN:=dn (cM eS)
noncomputable def TX (args:List A):Option A:=bO UN (fun x=>(Ll x).map fun y=>(A.tup [(A.imm (List.map c8 y.1) false),(iA y.2)])) args
theorem NZ {C:Nat->List A->Option A} (h:∀ a,C 100 a=ND a):qS C:=fun a0=>(h _).trans (aS _ M3 a0)
theorem SM {C:Nat->List A->Option A} (h:∀ a,C 86 a=Uc a):Ja C:=fun a0=>(h _).trans (aS _ RZ a0)
noncomputable def P0:Nat->List A->Option A:=fW PZ 67 TX
theorem Hy:b6 P0:=cu Hx fun x=>VD PZ aA (NZ fun _=>j9) (SM fun _=>j9) x
def UF (x:(List Int)):List A:=[(A.imm (List.map (cI .i64) x) false)]
theorem RC:eF UF:=dn (iE (Jq .i64))
noncomputable def TL (args:List A):Option A:=bO UF (fun x=>(IK x).map fun y=>(A.imm (List.map c8 y) false)) args
theorem SE {C:Nat->List A->Option A} (h:∀ a,C 67 a=TX a):I6 C:=fun a0=>(h _).trans (aS _ RO a0)
noncomputable def P1:Nat->List A->Option A:=fW P0 47 TL
theorem Hz:b6 P1:=cu Hy fun x=>Vr P0 aA (SE fun _=>j9) x
def Uw (x:af):List A:=[(A.agg (aa x))]
theorem Ro:eF Uw:=dn (cM (bW))
noncomputable def Tz (args:List A):Option A:=bO Uw (fun x=>(Lh x).map fun y=>(A.tup [(A.imm (List.map (cL c8) y.1) false),(iA y.2)])) args
theorem Ss {C:Nat->List A->Option A} (h:∀ a,C 47 a=TL a):D0 C:=fun a0=>(h _).trans (aS _ RC a0)
noncomputable def P2:Nat->List A->Option A:=fW P1 20 Tz
theorem HA:b6 P2:=cu Hz fun x=>Vf P1 aA (Bf fun _=>j9) (Ss fun _=>j9) x
def x6 (x:aC×bn):List A:=[(A.agg (aj x.1)),(A.agg (aq x.2))]
theorem Xj:eF x6:=ee (cM (gE)) (dn (cM (mm)))
noncomputable def o6 (args:List A):Option A:=bO x6 (fun x=>(G6 x.1 x.2).map fun y=>(A.tup [(A.agg (aj y.1)),(iA y.2)])) args
theorem N3 {C:Nat->List A->Option A} (h:∀ a,C 12 a=Tp a):DV C:=fun a0 a1 a2=>(h _).trans (aS _ Rg (a0,a1,a2))
theorem N4 {C:Nat->List A->Option A} (h:∀ a,C 13 a=Tq a):DW C:=fun a0 a1 a2=>(h _).trans (aS _ Rh (a0,a1,a2))
theorem N5 {C:Nat->List A->Option A} (h:∀ a,C 14 a=Tt a):DX C:=fun a0 a1=>(h _).trans (aS _ Ri (a0,a1))
theorem N7 {C:Nat->List A->Option A} (h:∀ a,C 20 a=Tz a):DY C:=fun a0=>(h _).trans (aS _ Ro a0)
theorem It {C:Nat->List A->Option A} (h:∀ a,C 48 a=DJ a):p8 C:=fun a0 a1 a2=>(h _).trans (DC (a0,a1,a2))
theorem Iu {C:Nat->List A->Option A} (h:∀ a,C 48 a=DJ a):sN C:=fun a0 a1 a2=>(h _).trans (DD (a0,a1,a2))
theorem Su {C:Nat->List A->Option A} (h:∀ a,C 52 a=TM a):IX C:=fun a0 a1=>(h _).trans (aS _ RD (a0,a1))
noncomputable def P3:Nat->List A->Option A:=fW P2 6 o6
theorem HB:b6 P3:=cu HA fun x=>T6 P2 aA (N3 fun _=>j9) (N4 fun _=>j9) (N5 fun _=>j9) (Bf fun _=>j9) (N7 fun _=>j9) (Gb fun _=>j9) (It fun _=>j9) (Iu fun _=>j9) (Su fun _=>j9) x.1 x.2
def Uv (x:aC×(List bn)):List A:=[(A.agg (aj x.1)),(A.imm (List.map aq x.2) false)]
theorem Rk:eF Uv:=ee (cM (gE)) (dn (iE (mm)))
noncomputable def Tv (args:List A):Option A:=bO Uv (fun x=>(LC x.1 x.2).map fun y=>(A.tup [(A.agg (aj y.1)),(bA y.2)])) args
theorem Sy {C:Nat->List A->Option A} (h:∀ a,C 6 a=o6 a):D1 C:=fun a0 a1=>(h _).trans (aS _ Xj (a0,a1))
noncomputable def P4:Nat->List A->Option A:=fW P3 16 Tv
theorem HC:b6 P4:=cu HB fun x=>Vb P3 aA (Sy fun _=>j9) x.1 x.2
def IB (x:(List al)×(List al)):List A:=[(A.imm (List.map ae x.1) false),(A.imm (List.map ae x.2) false)]
theorem Rl:eF IB:=ee (iE (cR)) (dn (iE (cR)))
noncomputable def Tw (args:List A):Option A:=bO IB (fun x=>(JX x.1 x.2).map fun y=>(bA y)) args
noncomputable def P5:Nat->List A->Option A:=fW P4 17 Tw
theorem HD:b6 P5:=cu HC fun x=>Vc P4 aA  x.1 x.2
def IC (x:(List av)×(List av)):List A:=[(A.imm (List.map ah x.1) false),(A.imm (List.map ah x.2) false)]
theorem Rm:eF IC:=ee (iE (ia)) (dn (iE (ia)))
noncomputable def Tx (args:List A):Option A:=bO IC (fun x=>(JY x.1 x.2).map fun y=>(bA y)) args
noncomputable def P6:Nat->List A->Option A:=fW P5 18 Tx
theorem HE:b6 P6:=cu HD fun x=>Vd P5 aA  x.1 x.2
def ID (x:af×af):List A:=[(A.agg (aa x.1)),(A.agg (aa x.2))]
theorem Rn:eF ID:=ee (cM (bW)) (dn (cM (bW)))
noncomputable def Ty (args:List A):Option A:=bO ID (fun x=>(II x.1 x.2).map fun y=>(bA y)) args
theorem KY {C:Nat->List A->Option A} (h:∀ a,C 17 a=Tw a):Bu C:=fun a0 a1=>(h _).trans (aS _ Rl (a0,a1))
theorem KZ {C:Nat->List A->Option A} (h:∀ a,C 18 a=Tx a):xQ C:=fun a0 a1=>(h _).trans (aS _ Rm (a0,a1))
noncomputable def P7:Nat->List A->Option A:=fW P6 19 Ty
theorem HF:b6 P7:=cu HE fun x=>Ve P6 aA (KY fun _=>j9) (KZ fun _=>j9) x.1 x.2
def x4 (x:Unit):List A:=[]
theorem Xh:eF x4:=fun _ _ _=>rfl
noncomputable def o4 (args:List A):Option A:=bO x4 (fun x=>(G4 ).map fun y=>(bA y)) args
theorem Sn {C:Nat->List A->Option A} (h:∀ a,C 16 a=Tv a):IT C:=fun a0 a1=>(h _).trans (aS _ Rk (a0,a1))
theorem N6 {C:Nat->List A->Option A} (h:∀ a,C 19 a=Ty a):Bv C:=fun a0 a1=>(h _).trans (aS _ Rn (a0,a1))
theorem Us {C:Nat->List A->Option A} (h:∀ a,C 8 a=o8 a):J6 C:=fun a0 a1=>(h _).trans (aS _ Xl (a0,a1))
noncomputable def P8:Nat->List A->Option A:=fW P7 4 o4
theorem HG:b6 P8:=cu HF fun x=>T4 P7 aA (N2 fun _=>j9) (N3 fun _=>j9) (N4 fun _=>j9) (N5 fun _=>j9) (Bf fun _=>j9) (Sn fun _=>j9) (KY fun _=>j9) (KZ fun _=>j9) (N6 fun _=>j9) (N7 fun _=>j9) (Sy fun _=>j9) (Us fun _=>j9)
def x5 (x:aC):List A:=[(A.agg (aj x))]
theorem Xi:eF x5:=dn (cM (gE))
noncomputable def o5 (args:List A):Option A:=bO x5 (fun x=>(G5 x).map fun y=>(bA y)) args
noncomputable def P9:Nat->List A->Option A:=fW P8 5 o5
theorem HH:b6 P9:=cu HG fun x=>T5 P8 aA  x
def Uz (x:Int×Int×Int):List A:=[(iA x.1),(iA x.2.1),(iA x.2.2)]
theorem Rt:eF Uz:=ee (dy .i64) (ee (dy .i64) (dn (dy .i64)))
noncomputable def TC (args:List A):Option A:=bO Uz (fun x=>(xM x.1 x.2.1 x.2.2).map fun y=>(bA y)) args
noncomputable def Qa:Nat->List A->Option A:=fW P9 34 TC
theorem HI:b6 Qa:=cu HH fun x=>Vi P9 aA  x.1 x.2.1 x.2.2
def UO (x:(List Bool)):List A:=[(A.imm (List.map cB x) false)]
theorem RQ:eF UO:=dn (iE (vN))
noncomputable def TY (args:List A):Option A:=bO UO (fun x=>(LP x).map fun y=>(iA y)) args
noncomputable def Qb:Nat->List A->Option A:=fW Qa 72 TY
theorem HJ:b6 Qb:=cu HI fun x=>VF Qa aA  x
def UP (x:al×Int×Int):List A:=[(A.agg (ae x.1)),(iA x.2.1),(iA x.2.2)]
theorem RR:eF UP:=ee (cM (cR)) (ee (dy .i64) (dn (dy .i64)))
noncomputable def TZ (args:List A):Option A:=bO UP (fun x=>(Gz x.1 x.2.1 x.2.2).map fun y=>(bA y)) args
theorem Bg {C:Nat->List A->Option A} (h:∀ a,C 34 a=TC a):pg C:=fun a0 a1 a2=>(h _).trans (aS _ Rt (a0,a1,a2))
noncomputable def Qc:Nat->List A->Option A:=fW Qb 73 TZ
theorem HK:b6 Qc:=cu HJ fun x=>VG Qb aA (Bg fun _=>j9) x.1 x.2.1 x.2.2
def UQ (x:(List al)×Int):List A:=[(A.imm (List.map ae x.1) false),(iA x.2)]
theorem RS:eF UQ:=ee (iE (cR)) (dn (dy .i64))
noncomputable def T0 (args:List A):Option A:=bO UQ (fun x=>(J2 x.1 x.2).map fun y=>(iA y)) args
noncomputable def Qd:Nat->List A->Option A:=fW Qc 74 T0
theorem HL:b6 Qd:=cu HK fun x=>VH Qc aA  x.1 x.2
def IG (x:(List Bool)×Bool×Int):List A:=[(A.imm (List.map cB x.1) false),(bA x.2.1),(iA x.2.2)]
theorem RF:eF IG:=ee (iE (vN)) (ee M1 (dn (dy .i64)))
noncomputable def TP (args:List A):Option A:=bO IG (fun x=>(Gr x.1 x.2.1 x.2.2).map fun y=>(iA y)) args
noncomputable def Qe:Nat->List A->Option A:=fW Qd 56 TP
theorem HM:b6 Qe:=cu HL fun x=>Vu Qd aA  x.1 x.2.1 x.2.2
def IE (x:af):List A:=[(A.agg (aa x))]
theorem RE:eF IE:=dn (cM (bW))
noncomputable def TN (args:List A):Option A:=bO IE (fun x=>(J1 x).map fun y=>(bA y)) args
theorem K2 {C:Nat->List A->Option A} (h:∀ a,C 56 a=TP a):sO C:=fun a0 a1 a2=>(h _).trans (aS _ RF (a0,a1,a2))
theorem SG {C:Nat->List A->Option A} (h:∀ a,C 72 a=TY a):I8 C:=fun a0=>(h _).trans (aS _ RQ a0)
theorem K3 {C:Nat->List A->Option A} (h:∀ a,C 73 a=TZ a):xW C:=fun a0 a1 a2=>(h _).trans (aS _ RR (a0,a1,a2))
theorem Ob {C:Nat->List A->Option A} (h:∀ a,C 74 a=T0 a):Bz C:=fun a0 a1=>(h _).trans (aS _ RS (a0,a1))
noncomputable def Qf:Nat->List A->Option A:=fW Qe 55 TN
theorem HN:b6 Qf:=cu HM fun x=>Vt Qe aA (Bg fun _=>j9) (K2 fun _=>j9) (SG fun _=>j9) (K3 fun _=>j9) (Ob fun _=>j9) x
def JU (x:af×Int×av):List A:=[(A.agg (aa x.1)),(iA x.2.1),(A.agg (ah x.2.2))]
theorem Rv:eF JU:=ee (cM (bW)) (ee (dy .i64) (dn (cM (ia))))
noncomputable def TE (args:List A):Option A:=bO JU (fun x=>(Li x.1 x.2.1 x.2.2).map fun y=>(bA y)) args
noncomputable def Qg:Nat->List A->Option A:=fW Qf 36 TE
theorem HO:b6 Qg:=cu HN fun x=>Vk Qf aA (K2 fun _=>j9) x.1 x.2.1 x.2.2
def UA (x:af×Int×al):List A:=[(A.agg (aa x.1)),(iA x.2.1),(A.agg (ae x.2.2))]
theorem Ru:eF UA:=ee (cM (bW)) (ee (dy .i64) (dn (cM (cR))))
noncomputable def TD (args:List A):Option A:=bO UA (fun x=>(JZ x.1 x.2.1 x.2.2).map fun y=>(bA y)) args
noncomputable def Qh:Nat->List A->Option A:=fW Qg 35 TD
theorem HP:b6 Qh:=cu HO fun x=>Vj Qg aA (K2 fun _=>j9) x.1 x.2.1 x.2.2
def Uy (x:aC):List A:=[(A.agg (aj x))]
theorem Rs:eF Uy:=dn (cM (gE))
noncomputable def TB (args:List A):Option A:=bO Uy (fun x=>(LD x).map fun y=>(bA y)) args
theorem N8 {C:Nat->List A->Option A} (h:∀ a,C 35 a=TD a):Bw C:=fun a0 a1 a2=>(h _).trans (aS _ Ru (a0,a1,a2))
theorem N9 {C:Nat->List A->Option A} (h:∀ a,C 36 a=TE a):xR C:=fun a0 a1 a2=>(h _).trans (aS _ Rv (a0,a1,a2))
theorem K1 {C:Nat->List A->Option A} (h:∀ a,C 55 a=TN a):xV C:=fun a0=>(h _).trans (aS _ RE a0)
noncomputable def Qi:Nat->List A->Option A:=fW Qh 33 TB
theorem HQ:b6 Qi:=cu HP fun x=>Vh Qh aA (Bg fun _=>j9) (N8 fun _=>j9) (N9 fun _=>j9) (K1 fun _=>j9) x
def UR (x:af):List A:=[(A.agg (aa x))]
theorem RT:eF UR:=dn (cM (bW))
noncomputable def PB (args:List A):Option A:=bO UR (fun x=>(J3 x).map fun y=>(iA y)) args
noncomputable def Qj:Nat->List A->Option A:=fW Qi 75 PB
theorem HR:b6 Qj:=cu HQ fun x=>VI Qi aA (K1 fun _=>j9) x
def US (x:af×al):List A:=[(A.agg (aa x.1)),(A.agg (ae x.2))]
theorem RU:eF US:=ee (cM (bW)) (dn (cM (cR)))
noncomputable def T1 (args:List A):Option A:=bO US (fun x=>(Lm x.1 x.2).map fun y=>(A.agg (aa y))) args
noncomputable def Qk:Nat->List A->Option A:=fW Qj 76 T1
theorem HS:b6 Qk:=cu HR fun x=>VJ Qj aA  x.1 x.2
def IH (x:af×Int×Int):List A:=[(A.agg (aa x.1)),(iA x.2.1),(iA x.2.2)]
theorem RG:eF IH:=ee (cM (bW)) (ee (dy .i64) (dn (dy .i64)))
noncomputable def TQ (args:List A):Option A:=bO IH (fun x=>(LG x.1 x.2.1 x.2.2).map fun y=>(A.tup [(A.agg (aa y.1)),(iA y.2)])) args
theorem K4 {C:Nat->List A->Option A} (h:∀ a,C 75 a=PB a):BA C:=fun a0=>(h _).trans (aS _ RT a0)
theorem Oc {C:Nat->List A->Option A} (h:∀ a,C 76 a=T1 a):D2 C:=fun a0 a1=>(h _).trans (aS _ RU (a0,a1))
noncomputable def Ql:Nat->List A->Option A:=fW Qk 57 TQ
theorem HT:b6 Ql:=cu HS fun x=>Vv Qk aA (K3 fun _=>j9) (K4 fun _=>j9) (Oc fun _=>j9) x.1 x.2.1 x.2.2
def UT (x:(List al)×al):List A:=[(A.imm (List.map ae x.1) false),(A.agg (ae x.2))]
theorem RV:eF UT:=ee (iE (cR)) (dn (cM (cR)))
noncomputable def PC (args:List A):Option A:=bO UT (fun x=>(LQ x.1 x.2).map fun y=>(bA y)) args
noncomputable def Qm:Nat->List A->Option A:=fW Ql 77 PC
theorem HU:b6 Qm:=cu HT fun x=>VK Ql aA  x.1 x.2
def UG (x:af×al):List A:=[(A.agg (aa x.1)),(A.agg (ae x.2))]
theorem RH:eF UG:=ee (cM (bW)) (dn (cM (cR)))
noncomputable def TR (args:List A):Option A:=bO UG (fun x=>(LH x.1 x.2).map fun y=>(A.tup [(A.agg (aa y.1)),(iA y.2)])) args
theorem SH {C:Nat->List A->Option A} (h:∀ a,C 77 a=PC a):I9 C:=fun a0 a1=>(h _).trans (aS _ RV (a0,a1))
noncomputable def Qn:Nat->List A->Option A:=fW Qm 58 TR
theorem HV:b6 Qn:=cu HU fun x=>Vw Qm aA (K3 fun _=>j9) (K4 fun _=>j9) (Oc fun _=>j9) (SH fun _=>j9) x.1 x.2
def UH (x:af×Int×Int):List A:=[(A.agg (aa x.1)),(iA x.2.1),(iA x.2.2)]
theorem RI:eF UH:=ee (cM (bW)) (ee (dy .i64) (dn (dy .i64)))
noncomputable def TS (args:List A):Option A:=bO UH (fun x=>(LI x.1 x.2.1 x.2.2).map fun y=>(A.tup [(A.agg (aa y.1)),(iA y.2)])) args
noncomputable def Qo:Nat->List A->Option A:=fW Qn 59 TS
theorem HW:b6 Qo:=cu HV fun x=>Vx Qn aA (Bg fun _=>j9) (Ob fun _=>j9) (K4 fun _=>j9) x.1 x.2.1 x.2.2
def U1 (x:Int):List A:=[(iA x)]
theorem R2:eF U1:=dn (dy .i64)
noncomputable def Uf (args:List A):Option A:=bO U1 (fun x=>(Po x).map fun y=>(A.agg (ai y))) args
noncomputable def Qp:Nat->List A->Option A:=fW Qo 90 Uf
theorem HX:b6 Qp:=cu HW fun x=>VS Qo aA  x
def UW (x:(List Int)):List A:=[(A.imm (List.map (cI .i64) x) false)]
theorem RX:eF UW:=dn (iE (Jq .i64))
noncomputable def Ua (args:List A):Option A:=bO UW (fun x=>(Ln x).map fun y=>(A.agg (ai y))) args
theorem SP {C:Nat->List A->Option A} (h:∀ a,C 90 a=Uf a):D6 C:=fun a0=>(h _).trans (aS _ R2 a0)
noncomputable def Qq:Nat->List A->Option A:=fW Qp 79 Ua
theorem Cp:b6 Qq:=cu HX fun x=>VM Qp aA (SP fun _=>j9) x
def Iz (x:ak):List A:=[(A.agg (ai x))]
theorem Js:eF Iz:=dn (cM eS)
noncomputable def FK (args:List A):Option A:=bO Iz (fun x=>(Gw x).map fun y=>(bA y)) args
noncomputable def FL (q:Nat) (args:List A):Option A:=bO Iz (fun x=>(xX q x).map fun y=>(bA y)) args
noncomputable def wk (q:Nat):Nat->List A->Option A:=fW Qq 104 (FL q)
theorem SW (q:Nat):wx (wk q) (xX q):=fun a0=>(by kernel_rfl:_=FL q (Iz a0)).trans (aS _ Js a0)
theorem FT:∀ (q:Nat) (args:List A) (r:A) (h:FL q args=some r),fh prog (cx C0).glob 104 args r
 | 0,args,r,h=>by
  obtain ⟨x,y,rfl,hy,rfl⟩:=dX h
  cases hy
 | q+1,args,r,h=>by
  obtain ⟨x,y,rfl,hy,rfl⟩:=dX h
  exact xD (f:=fun (y:Bool)=>(bA y)) (cx:=cx (wk q)) (fun k args r _ h=>gT Cp (FT q) k args r h) j9 (QL (wk q) aA  (xX q) (SW q) x) hy
theorem NG (args:List A) (r:A) (h:FK args=some r):fh prog (cx C0).glob 104 args r:=FT aA args r h
noncomputable def Qr:Nat->List A->Option A:=fW Qq 104 FK
theorem Cq:b6 Qr:=gT Cp NG
def IA (x:ak):List A:=[(A.agg (ai x))]
theorem Jt:eF IA:=dn (cM eS)
noncomputable def KH (args:List A):Option A:=bO IA (fun x=>(Gx x).map fun y=>(iA y)) args
noncomputable def FM (q:Nat) (args:List A):Option A:=bO IA (fun x=>(xY q x).map fun y=>(iA y)) args
noncomputable def wm (q:Nat):Nat->List A->Option A:=fW Qr 105 (FM q)
theorem SX (q:Nat):wy (wm q) (xY q):=fun a0=>(by kernel_rfl:_=FM q (IA a0)).trans (aS _ Jt a0)
theorem FU:∀ (q:Nat) (args:List A) (r:A) (h:FM q args=some r),fh prog (cx C0).glob 105 args r
 | 0,args,r,h=>by
  obtain ⟨x,y,rfl,hy,rfl⟩:=dX h
  cases hy
 | q+1,args,r,h=>by
  obtain ⟨x,y,rfl,hy,rfl⟩:=dX h
  exact xD (f:=fun (y:Int)=>(iA y)) (cx:=cx (wm q)) (fun k args r _ h=>gT Cq (FU q) k args r h) j9 (QM (wm q) aA  (xY q) (SX q) x) hy
theorem NH (args:List A) (r:A) (h:KH args=some r):fh prog (cx C0).glob 105 args r:=FU aA args r h
noncomputable def Qs:Nat->List A->Option A:=fW Qr 105 KH
theorem HY:b6 Qs:=gT Cq NH
def U2 (x:ak):List A:=[(A.agg (ai x))]
theorem R3:eF U2:=dn (cM eS)
noncomputable def Ug (args:List A):Option A:=bO U2 (fun x=>(Lo x).map fun y=>(iA y)) args
theorem N0 {C:Nat->List A->Option A} (h:∀ a,C 104 a=FK a):DR C:=fun a0=>(h _).trans (aS _ Js a0)
theorem N1 {C:Nat->List A->Option A} (h:∀ a,C 105 a=KH a):DS C:=fun a0=>(h _).trans (aS _ Jt a0)
noncomputable def Qt:Nat->List A->Option A:=fW Qs 91 Ug
theorem HZ:b6 Qt:=cu HY fun x=>VT Qs aA (N0 fun _=>j9) (N1 fun _=>j9) x
def Lc (x:Int):List A:=[(iA x)]
theorem M4:eF Lc:=dn (dy .i64)
noncomputable def NF (args:List A):Option A:=bO Lc (fun x=>(DM x).map fun y=>(A.v (.int .u64 y))) args
noncomputable def Qu:Nat->List A->Option A:=fW Qt 107 NF
theorem Cr:b6 Qu:=cu HZ fun x=>QO Qt aA  x
def Gl (x:Int):List A:=[(A.v (.int .u64 x))]
theorem Ju:eF Gl:=dn (dy .u64)
noncomputable def KI (args:List A):Option A:=bO Gl (fun x=>(CK x).map fun y=>(A.imm (List.map c8 y) false)) args
noncomputable def FN (q:Nat) (args:List A):Option A:=bO Gl (fun x=>(xZ q x).map fun y=>(A.imm (List.map c8 y) false)) args
noncomputable def wo (q:Nat):Nat->List A->Option A:=fW Qu 106 (FN q)
theorem SY (q:Nat):BC (wo q) (xZ q):=fun a0=>(by kernel_rfl:_=FN q (Gl a0)).trans (aS _ Ju a0)
theorem FV:∀ (q:Nat) (args:List A) (r:A) (h:FN q args=some r),fh prog (cx C0).glob 106 args r
 | 0,args,r,h=>by
  obtain ⟨x,y,rfl,hy,rfl⟩:=dX h
  cases hy
 | q+1,args,r,h=>by
  obtain ⟨x,y,rfl,hy,rfl⟩:=dX h
  exact xD (f:=fun (y:(List UInt8))=>(A.imm (List.map c8 y) false)) (cx:=cx (wo q)) (fun k args r _ h=>gT Cr (FV q) k args r h) j9 (QN (wo q) aA  (xZ q) (SY q) x) hy
theorem NI (args:List A) (r:A) (h:KI args=some r):fh prog (cx C0).glob 106 args r:=FV aA args r h
noncomputable def Qv:Nat->List A->Option A:=fW Qu 106 KI
theorem Cs:b6 Qv:=gT Cr NI
def PK (x:ak):List A:=[(A.agg (ai x))]
theorem M5:eF PK:=dn (cM eS)
noncomputable def Sf (args:List A):Option A:=bO PK (fun x=>(LV x).map fun y=>(A.imm (List.map c8 y) false)) args
noncomputable def KJ (q:Nat) (args:List A):Option A:=bO PK (fun x=>(Jf q x).map fun y=>(A.imm (List.map c8 y) false)) args
noncomputable def sJ (q:Nat):Nat->List A->Option A:=fW Qv 92 (KJ q)
theorem Xz (q:Nat):Ae (sJ q) (Jf q):=fun a0=>(by kernel_rfl:_=KJ q (PK a0)).trans (aS _ M5 a0)
theorem zE (q:Nat):DT (sJ q):=fun a0=>(by kernel_rfl:_=KI (Gl a0)).trans (aS _ Ju a0)
theorem zF (q:Nat):DU (sJ q):=fun a0=>(by kernel_rfl:_=NF (Lc a0)).trans (aS _ M4 a0)
theorem JL:∀ (q:Nat) (args:List A) (r:A) (h:KJ q args=some r),fh prog (cx C0).glob 92 args r
 | 0,args,r,h=>by
  obtain ⟨x,y,rfl,hy,rfl⟩:=dX h
  cases hy
 | q+1,args,r,h=>by
  obtain ⟨x,y,rfl,hy,rfl⟩:=dX h
  exact xD (f:=fun (y:(List UInt8))=>(A.imm (List.map c8 y) false)) (cx:=cx (sJ q)) (fun k args r _ h=>gT Cs (JL q) k args r h) j9 (VU (sJ q) aA (zE q) (zF q) (Jf q) (Xz q) x) hy
theorem Sh (args:List A) (r:A) (h:Sf args=some r):fh prog (cx C0).glob 92 args r:=JL aA args r h
noncomputable def Qw:Nat->List A->Option A:=fW Qv 92 Sf
theorem Ia:b6 Qw:=gT Cs Sh
def UX (x:ak):List A:=[(A.agg (ai x))]
theorem RY:eF UX:=dn (cM eS)
noncomputable def Ub (args:List A):Option A:=bO UX (fun x=>(J4 x).map fun y=>(A.tup [(A.imm (List.map c8 y.1) false),(iA y.2)])) args
theorem Od {C:Nat->List A->Option A} (h:∀ a,C 91 a=Ug a):D7 C:=fun a0=>(h _).trans (aS _ R3 a0)
theorem Oe {C:Nat->List A->Option A} (h:∀ a,C 92 a=Sf a):D8 C:=fun a0=>(h _).trans (aS _ M5 a0)
noncomputable def Qx:Nat->List A->Option A:=fW Qw 80 Ub
theorem Ib:b6 Qx:=cu Ia fun x=>VN Qw aA (Od fun _=>j9) (Oe fun _=>j9) x
def UJ (x:af):List A:=[(A.agg (aa x))]
theorem RK:eF UJ:=dn (cM (bW))
noncomputable def TU (args:List A):Option A:=bO UJ (fun x=>(LK x).map fun y=>(A.imm (List.map (cL c8) y) false)) args
theorem SJ {C:Nat->List A->Option A} (h:∀ a,C 79 a=Ua a):D4 C:=fun a0=>(h _).trans (aS _ RX a0)
theorem SK {C:Nat->List A->Option A} (h:∀ a,C 80 a=Ub a):D5 C:=fun a0=>(h _).trans (aS _ RY a0)
noncomputable def Qy:Nat->List A->Option A:=fW Qx 61 TU
theorem Ic:b6 Qy:=cu Ib fun x=>Vz Qx aA (SJ fun _=>j9) (SK fun _=>j9) x
def U0 (x:(List UInt8)):List A:=[(A.imm (List.map c8 x) false)]
theorem R1:eF U0:=dn (iE (vM))
noncomputable def Ue (args:List A):Option A:=bO U0 (fun x=>(LU x).map fun y=>(A.tup [(A.agg (ai y.1)),(iA y.2)])) args
noncomputable def Qz:Nat->List A->Option A:=fW Qy 89 Ue
theorem Ie:b6 Qz:=cu Ic fun x=>VQ Qy aA (Od fun _=>j9) (Oe fun _=>j9) x
def UU (x:(List UInt8)):List A:=[(A.imm (List.map c8 x) false)]
theorem RW:eF UU:=dn (iE (vM))
noncomputable def T2 (args:List A):Option A:=bO UU (fun x=>(LR x).map fun y=>(A.imm (List.map (cI .i64) y) false)) args
theorem SO {C:Nat->List A->Option A} (h:∀ a,C 89 a=Ue a):Jc C:=fun a0=>(h _).trans (aS _ R1 a0)
noncomputable def QA:Nat->List A->Option A:=fW Qz 78 T2
theorem Ig:b6 QA:=cu Ie fun x=>VL Qz aA (SO fun _=>j9) x
def UI (x:Int×(List (List UInt8))):List A:=[(iA x.1),(A.imm (List.map (cL c8) x.2) false)]
theorem RJ:eF UI:=ee (dy .i64) (dn (iE (Jr (vM))))
noncomputable def TT (args:List A):Option A:=bO UI (fun x=>(LJ x.1 x.2).map fun y=>(A.tup [(A.agg (aa y.1)),(iA y.2)])) args
theorem SI {C:Nat->List A->Option A} (h:∀ a,C 78 a=T2 a):D3 C:=fun a0=>(h _).trans (aS _ RW a0)
noncomputable def QB:Nat->List A->Option A:=fW QA 60 TT
theorem Ih:b6 QB:=cu Ig fun x=>Vy QA aA (K1 fun _=>j9) (SI fun _=>j9) x.1 x.2
def Ld (x:aC×bn):List A:=[(A.agg (aj x.1)),(A.agg (aq x.2))]
theorem Rw:eF Ld:=ee (cM (gE)) (dn (cM (mm)))
noncomputable def TF (args:List A):Option A:=bO Ld (fun x=>(Pm x.1 x.2).map fun y=>(A.tup [(A.agg (aa y.1)),(iA y.2)])) args
theorem Sv {C:Nat->List A->Option A} (h:∀ a,C 57 a=TQ a):IY C:=fun a0 a1 a2=>(h _).trans (aS _ RG (a0,a1,a2))
theorem Sw {C:Nat->List A->Option A} (h:∀ a,C 58 a=TR a):IZ C:=fun a0 a1=>(h _).trans (aS _ RH (a0,a1))
theorem Sx {C:Nat->List A->Option A} (h:∀ a,C 59 a=TS a):I0 C:=fun a0 a1 a2=>(h _).trans (aS _ RI (a0,a1,a2))
theorem Sz {C:Nat->List A->Option A} (h:∀ a,C 60 a=TT a):I1 C:=fun a0 a1=>(h _).trans (aS _ RJ (a0,a1))
theorem SA {C:Nat->List A->Option A} (h:∀ a,C 61 a=TU a):I2 C:=fun a0=>(h _).trans (aS _ RK a0)
noncomputable def QC:Nat->List A->Option A:=fW QB 37 TF
theorem Ii:b6 QC:=cu Ih fun x=>Vl QB aA (Bg fun _=>j9) (Sv fun _=>j9) (Sw fun _=>j9) (Sx fun _=>j9) (Sz fun _=>j9) (SA fun _=>j9) x.1 x.2
def x7 (x:aC×bn):List A:=[(A.agg (aj x.1)),(A.agg (aq x.2))]
theorem Xk:eF x7:=ee (cM (gE)) (dn (cM (mm)))
noncomputable def o7 (args:List A):Option A:=bO x7 (fun x=>(G7 x.1 x.2).map fun y=>(A.tup [(A.agg (aj y.1)),(iA y.2)])) args
theorem So {C:Nat->List A->Option A} (h:∀ a,C 33 a=TB a):IU C:=fun a0=>(h _).trans (aS _ Rs a0)
theorem Sp {C:Nat->List A->Option A} (h:∀ a,C 37 a=TF a):IV C:=fun a0 a1=>(h _).trans (aS _ Rw (a0,a1))
noncomputable def QD:Nat->List A->Option A:=fW QC 7 o7
theorem Ij:b6 QD:=cu Ii fun x=>T7 QC aA (So fun _=>j9) (Bg fun _=>j9) (N8 fun _=>j9) (N9 fun _=>j9) (Sp fun _=>j9) x.1 x.2
def UB (x:Int×Int×Int):List A:=[(iA x.1),(iA x.2.1),(iA x.2.2)]
theorem Rx:eF UB:=ee (dy .i64) (ee (dy .i64) (dn (dy .i64)))
noncomputable def TG (args:List A):Option A:=bO UB (fun x=>(Lj x.1 x.2.1 x.2.2).map fun y=>(A.tup [(A.agg (aa y.1)),(iA y.2)])) args
noncomputable def QE:Nat->List A->Option A:=fW QD 38 TG
theorem Ik:b6 QE:=cu Ij fun x=>Vm QD aA (Bg fun _=>j9) x.1 x.2.1 x.2.2
def x9 (x:Int×Int):List A:=[(iA x.1),(iA x.2)]
theorem Xm:eF x9:=ee (dy .i64) (dn (dy .i64))
noncomputable def o9 (args:List A):Option A:=bO x9 (fun x=>(G9 x.1 x.2).map fun y=>(A.tup [(A.agg (aj y.1)),(iA y.2)])) args
theorem Sq {C:Nat->List A->Option A} (h:∀ a,C 38 a=TG a):IW C:=fun a0 a1 a2=>(h _).trans (aS _ Rx (a0,a1,a2))
noncomputable def QF:Nat->List A->Option A:=fW QE 9 o9
theorem Il:b6 QF:=cu Ik fun x=>T9 QE aA (Sq fun _=>j9) x.1 x.2
def Bo (x:aC×aC):List A:=[(A.agg (aj x.1)),(A.agg (aj x.2))]
theorem Re:eF Bo:=ee (cM (gE)) (dn (cM (gE)))
noncomputable def Tm (args:List A):Option A:=bO Bo (fun x=>(Lf x.1 x.2).map fun y=>(bA y)) args
noncomputable def QG:Nat->List A->Option A:=fW QF 10 Tm
theorem Im:b6 QG:=cu Il fun x=>U5 QF aA (KY fun _=>j9) (KZ fun _=>j9) (N6 fun _=>j9) x.1 x.2
def x3 (x:aC×bn×Int×Int):List A:=[(A.agg (aj x.1)),(A.agg (aq x.2.1)),(iA x.2.2.1),(iA x.2.2.2)]
theorem Xg:eF x3:=ee (cM (gE)) (ee (cM (mm)) (ee (dy .i64) (dn (dy .i64))))
noncomputable def o3 (args:List A):Option A:=bO x3 (fun x=>(G3 x.1 x.2.1 x.2.2.1 x.2.2.2).map fun y=>(bA y)) args
theorem Sm {C:Nat->List A->Option A} (h:∀ a,C 10 a=Tm a):IQ C:=fun a0 a1=>(h _).trans (aS _ Re (a0,a1))
theorem Xs {C:Nat->List A->Option A} (h:∀ a,C 4 a=o4 a):L3 C:=fun _=>(h _).trans (aS _ Xh ())
theorem Xt {C:Nat->List A->Option A} (h:∀ a,C 5 a=o5 a):L4 C:=fun a0=>(h _).trans (aS _ Xi a0)
theorem Xu {C:Nat->List A->Option A} (h:∀ a,C 7 a=o7 a):L5 C:=fun a0 a1=>(h _).trans (aS _ Xk (a0,a1))
theorem Xv {C:Nat->List A->Option A} (h:∀ a,C 9 a=o9 a):L6 C:=fun a0 a1=>(h _).trans (aS _ Xm (a0,a1))
theorem Xo (args:List A) (r:A) (h:o3 args=some r):fh prog (cx C0).glob 3 args r:=by
 obtain ⟨x,y,rfl,hy,rfl⟩:=dX h
 exact xD (f:=fun (y:Bool)=>(bA y)) (cx:=cx QG) (fun k args r _ h=>Im k args r h) j9 (T3 QG aA (Sm fun _=>j9) (Xs fun _=>j9) (Xt fun _=>j9) (Sy fun _=>j9) (Xu fun _=>j9) (Us fun _=>j9) (Xv fun _=>j9) x.1 x.2.1 x.2.2.1 x.2.2.2) hy
end
section
open Go.RowKit Go.ChangeShapes Go.WideShapes Go.ChangeAt Go.Deep
theorem Ke {args:Array Value} (h:args.size=4):∃ a0 a1 a2 a3,args=#[a0,a1,a2,a3]:=by
 match args,h with | ⟨[a0,a1,a2,a3]⟩,_=>exact⟨a0,a1,a2,a3,rfl⟩
mutual
def bT:ak->Prop
 | .mk Kind N S L=>(gA Kind/\gA N/\(S.size<=iM)/\L.length<=iM)/\gu L
def gu:List ak->Prop
 | []=>True
 | x :: r=>bT x/\gu r
end
theorem nd:∀ (l:List ak),gu l↔∀ z∈l,bT z
 | []=>by rw[gu]; simp
 | x :: r=>by rw[gu,nd r]; simp
theorem dI (x:ak):bT x↔gA x.Kind/\gA x.N/\(x.S.size<=iM)/\(x.L.length<=iM/\∀ z∈x.L,bT z):=by
 cases x
 rw[bT,nd]
 simp only[and_assoc]
def kO (x:al):Prop:=gA x.No/\gA x.Holder/\gA x.Until
def ic (x:av):Prop:=gA x.Bar/\gA x.Program
def eV (x:af):Prop:=gA x.Self/\(x.Leases.length<=iM/\∀ z∈x.Leases,kO z)/\(x.Calls.length<=iM/\∀ z∈x.Calls,ic z)/\(x.Order.length<=iM)
def oW (x:aC):Prop:=(eV x.Desks.1/\eV x.Desks.2)/\(gA x.Synced.1/\gA x.Synced.2)/\(x.Told.length<=iM/\∀ z∈x.Told,kO z)/\((x.Spoken.1.length<=iM/\∀ z∈x.Spoken.1,ic z)/\(x.Spoken.2.length<=iM/\∀ z∈x.Spoken.2,ic z))
def vW (x:bn):Prop:=gA x.Kind/\gA x.Who/\gA x.A/\gA x.B
theorem JQ:p9 Tryz.prog 50 ae kO:=p9.of (gQ (fs:=#[Field.mk "No" 3 0 false "" "" 0,Field.mk "Holder" 3 1 false "" "" 8,Field.mk "Until" 3 2 false "" "" 16]) (Ts:=[_,_,_]) j9 j9 ⟨(kQ j9),(kQ j9),(kQ j9),trivial⟩) fun l h=>by
 obtain ⟨_,_,rfl,⟨x0,rfl,h0⟩,_,_,rfl,⟨x1,rfl,h1⟩,_,_,rfl,⟨x2,rfl,h2⟩,rfl⟩:=h
 exact⟨⟨x0,x1,x2⟩,by simp[ae,cI,cB,cS,cL,ax,ae,ah,aa,aN,bI,aI,aj,aq,ay,ba,au,cG,aG],h0,h1,h2⟩
theorem JR:p9 Tryz.prog 54 ah ic:=p9.of (gQ (fs:=#[Field.mk "Bar" 3 0 false "" "" 0,Field.mk "Program" 3 1 false "" "" 8]) (Ts:=[_,_]) j9 j9 ⟨(kQ j9),(kQ j9),trivial⟩) fun l h=>by
 obtain ⟨_,_,rfl,⟨x0,rfl,h0⟩,_,_,rfl,⟨x1,rfl,h1⟩,rfl⟩:=h
 exact⟨⟨x0,x1⟩,by simp[ah,cI,cB,cS,cL,ax,ae,ah,aa,aN,bI,aI,aj,aq,ay,ba,au,cG,aG],h0,h1⟩
theorem NS:p9 Tryz.prog 26 aa eV:=p9.of (gQ (fs:=#[Field.mk "Self" 3 0 false "" "" 0,Field.mk "Leases" 22 1 false "" "" 8,Field.mk "Calls" 23 2 false "" "" 32,Field.mk "Order" 24 3 false "" "" 56]) (Ts:=[_,_,_,_]) j9 j9 ⟨(kQ j9),(ov (e:=50) (es:=3) (c:=ae) j9 j9 (by decide) (fun _=>rfl) JQ),(ov (e:=54) (es:=2) (c:=ah) j9 j9 (by decide) (fun _=>rfl) JR),(Dx (e:=4) (es:=1) (c:=cB) j9 j9 (by decide) (fun _=>rfl) (Iq j9)),trivial⟩) fun l h=>by
 obtain ⟨_,_,rfl,⟨x0,rfl,h0⟩,_,_,rfl,⟨x1,rfl,h1⟩,_,_,rfl,⟨x2,rfl,h2⟩,_,_,rfl,⟨x3,rfl,h3⟩,rfl⟩:=h
 exact⟨⟨x0,x1,x2,x3⟩,by simp[aa,cI,cB,cS,cL,ax,ae,ah,aa,aN,bI,aI,aj,aq,ay,ba,au,cG,aG],h0,h1,h2,h3⟩
theorem NT:p9 Tryz.prog 27 aN (fun x=>(eV x.1/\eV x.2)):=p9.of (nh (n:=2) (e:=26) j9 j9 NS) fun l h=>by
 obtain ⟨_,_,rfl,⟨x0,rfl,h0⟩,_,_,rfl,⟨x1,rfl,h1⟩,rfl⟩:=h
 exact⟨(x0,x1),XS,h0,h1⟩
theorem NU:p9 Tryz.prog 28 bI (fun x=>(gA x.1/\gA x.2)):=p9.of (nh (n:=2) (e:=3) j9 j9 (kQ j9)) fun l h=>by
 obtain ⟨_,_,rfl,⟨x0,rfl,h0⟩,_,_,rfl,⟨x1,rfl,h1⟩,rfl⟩:=h
 exact⟨(x0,x1),XS,h0,h1⟩
theorem NV:p9 Tryz.prog 29 aI (fun x=>((x.1.length<=iM/\∀ z∈x.1,ic z)/\(x.2.length<=iM/\∀ z∈x.2,ic z))):=p9.of (nh (n:=2) (e:=23) j9 j9 (ov (e:=54) (es:=2) (c:=ah) j9 j9 (by decide) (fun _=>rfl) JR)) fun l h=>by
 obtain ⟨_,_,rfl,⟨x0,rfl,h0⟩,_,_,rfl,⟨x1,rfl,h1⟩,rfl⟩:=h
 exact⟨(x0,x1),XS,h0,h1⟩
theorem NW:p9 Tryz.prog 31 aj oW:=p9.of (gQ (fs:=#[Field.mk "Desks" 27 0 false "" "" 0,Field.mk "Synced" 28 8 false "" "" 160,Field.mk "Told" 22 10 false "" "" 176,Field.mk "Spoken" 29 11 false "" "" 200]) (Ts:=[_,_,_,_]) j9 j9 ⟨NT,NU,(ov (e:=50) (es:=3) (c:=ae) j9 j9 (by decide) (fun _=>rfl) JQ),NV,trivial⟩) fun l h=>by
 obtain ⟨_,_,rfl,⟨x0,rfl,h0⟩,_,_,rfl,⟨x1,rfl,h1⟩,_,_,rfl,⟨x2,rfl,h2⟩,_,_,rfl,⟨x3,rfl,h3⟩,rfl⟩:=h
 exact⟨⟨x0,x1,x2,x3⟩,by simp[aj,cI,cB,cS,cL,ax,ae,ah,aa,aN,bI,aI,aj,aq,ay,ba,au,cG,aG],h0,h1,h2,h3⟩
theorem NX:p9 Tryz.prog 33 aq vW:=p9.of (gQ (fs:=#[Field.mk "Kind" 3 0 false "" "" 0,Field.mk "Who" 3 1 false "" "" 8,Field.mk "A" 3 2 false "" "" 16,Field.mk "B" 3 3 false "" "" 24]) (Ts:=[_,_,_,_]) j9 j9 ⟨(kQ j9),(kQ j9),(kQ j9),(kQ j9),trivial⟩) fun l h=>by
 obtain ⟨_,_,rfl,⟨x0,rfl,h0⟩,_,_,rfl,⟨x1,rfl,h1⟩,_,_,rfl,⟨x2,rfl,h2⟩,_,_,rfl,⟨x3,rfl,h3⟩,rfl⟩:=h
 exact⟨⟨x0,x1,x2,x3⟩,by simp[aq,cI,cB,cS,cL,ax,ae,ah,aa,aN,bI,aI,aj,aq,ay,ba,au,cG,aG],h0,h1,h2,h3⟩
def Je:Prop:=∀ (a0:aC) (a1:bn) (a2:Int) (a3:Int),oW a0->vW a1->gA a2->gA a3->G3 a0 a1 a2 a3=some true
theorem On (hp:Je) (W:World) (base:Nat) (args:Array Value) {H:Type} {enc:TypeId×Value->H} (hg:sK enc Tryz.prog W base Tryz.f3.params args) (hl:∀ (G:Nat) (vs:List Value),(cx C0).glob G=some vs->∀ (j:Nat) (v:Value),vs[j]? = some v->W.cell? ⟨G,j,none⟩=some v) :
  Calls Tryz.prog 3 args W fun e W'=>e=.returned (.bool true)/\Below W.heap.size W W':=by
 obtain ⟨v0,v1,v2,v3,rfl⟩:=Ke hg.1
 obtain ⟨a0,b0,w0⟩:=vH hg 0 rfl rfl (fs:=#[Field.mk "Desks" 27 0 false "" "" 0,Field.mk "Synced" 28 8 false "" "" 160,Field.mk "Told" 22 10 false "" "" 176,Field.mk "Spoken" 29 11 false "" "" 200]) j9 NW
 obtain ⟨a1,b1,w1⟩:=vH hg 1 rfl rfl (fs:=#[Field.mk "Kind" 3 0 false "" "" 0,Field.mk "Who" 3 1 false "" "" 8,Field.mk "A" 3 2 false "" "" 16,Field.mk "B" 3 3 false "" "" 24]) j9 NX
 obtain ⟨a2,b2,w2⟩:=Fa hg 2 rfl rfl j9
 obtain ⟨a3,b3,w3⟩:=Fa hg 3 rfl rfl j9
 refine Kw (glob:=(cx C0).glob) (Xo _ _ ((aS _ Xg (a0,a1,a2,a3)).trans (by simp only[hp a0 a1 a2 a3 b0 b1 b2 b3]; rfl))) hl ?_
 exact qa w0 (qa w1 (qa w2 (qa w3 H4)))
end
@[simp] theorem or_some (a b:Bool):(bif a then some true else some b)=some (a || b):=by cases a<;>rfl
@[simp] theorem Mc (a b:Bool):(bif a then some b else some false)=some (a&&b):=by cases a<;>rfl
theorem eC {n:Int} (h:-9223372036854775808<=n) (h':n<=9223372036854775807):wr .i64 n=n:=by
 simp only[wr,IntKind.wrap,IntKind.bits,IntKind.signed]
 simp
 omega
theorem bu {T:Type} (l:List T) (i:Nat):bt l (i:Int)=l[i]?:=by simp[bt]
theorem Sk:fg=140737488355328:=j9
theorem iP {T:Type} (b:Nat) (l l2:List T) (hb:b<=1000) (h:l.length+l2.length<=10000000):cU b l l2=some (l++l2):=by
 have h1:(l.length+l2.length)*b<=10000000*1000:=qaU h hb
 unfold cU; rw[XW (by rw[Sk]; omega)]; rfl
theorem Dw {T:Type} (l:List T):eJ l 0 (l.length:Int)=some l:=by
 unfold eJ
 rw[show (decide ((0:Int)<=0)&&decide ((0:Int)<=(l.length:Int))&&decide ((l.length:Int)<=l.length))=true from r7]
 simp
theorem rU {T:Type} (x:T) (l:List T):eJ (x :: l) 1 ((x :: l).length:Int)=some l:=by
 unfold eJ
 rw[show (decide ((0:Int)<=1)&&decide ((1:Int)<=((x :: l).length:Int))&&decide (((x :: l).length:Int)<=(x :: l).length))=true from r8]
 simp
theorem qI (n:Nat) (h:n<=10000000):wr .i64 ((n:Int)+1)=((n+1:Nat):Int):=by rw[eC j6 j6]; omega
theorem Cw {T:Type} (l:List T) (h:l.length<=10000000) (hp:0<l.length):bt l (wr .i64 ((l.length:Int) - 1))=l.getLast?:=by
 rw[eC j6 j6,show ((l.length:Int) - 1)=((l.length - 1:Nat):Int) from j6,bu,qa5]
def kW (n lo hi:Int):Bool:=decide (lo<=n)&&decide (n<=hi)
theorem zt (a b c:Int):zW a b c=some (kW a b c):=by
 unfold zW OG kW
 cases decide (b<=a)<;>rfl
def su (l:List al):Int:=match l.getLast? with | some x=>x.Until | none=>0
theorem Sa (r:af) (h:r.Leases.length<=10000000):LL r=some (su r.Leases):=by
 unfold LL O1 su
 by_cases hp:0<r.Leases.length
 ·rw[XW j6,Cw _ h hp]
  cases hx:r.Leases.getLast? with
  | some x=>rfl
  | none=>rw[ZF] at hx; rw[hx] at hp; simp at hp
 ·have:r.Leases=[]:=Zg.1 j6
  rw[this]; rfl
def oZ (ls:List al) (l:al):Bool:=(l.No==(ls.length:Int))&&kW l.Holder 0 1&&decide (su ls<l.Until)&&decide (l.Until<=4096)
theorem KD (r:af) (l:al) (h:r.Leases.length<=10000000):IJ r l=some (oZ r.Leases l):=by
 unfold IJ ON oZ
 rw[zt,Sa r h]
 generalize (l.No==(r.Leases.length:Int))=a
 generalize kW l.Holder 0 1=b
 show (Option.bind (bif a then some b else some false) _)=_
 cases a<;>cases b<;>try rfl
 simp only[XY,XV,Yg]
 cases decide (su r.Leases<l.Until)<;>rfl
def oh (self:Int) (ls:List al) (bar:Int):Bool:=decide (0<=bar)&&match ls.find? (fun l=>decide (bar<l.Until)) with | some l=>l.Holder==self | none=>false
theorem Cj (n:Nat) (L:List al) (z:Int) (r:af) (bar:Int) (hL:L.length<=10000000):∀ (l:List al) (i m:Nat),L.drop i=l->i+l.length=L.length->l.length<m ->
  (∃ (j:Nat) (x:al),jt n L z (L.length:Int) r bar m (i:Int)=some (.inl (j:Int))/\L[j]? = some x/\l.find? (fun l=>decide (bar<l.Until))=some x) ∨
  (jt n L z (L.length:Int) r bar m (i:Int)=some (.inr ())/\l.find? (fun l=>decide (bar<l.Until))=none)
 | l,i,0,_,_,h=>absurd h (YB _)
 | [],i,m+1,hd,hi,h=>by
  right
  refine⟨?_,rfl⟩
  unfold jt
  rw[X0 (by simp at hi; omega)]; rfl
 | x :: l,i,m+1,hd,hi,h=>by
  have hx:L[i]? = some x:=by rw[<-Yz,hd]; rfl
  have hd':L.drop (i+1)=l:=by rw[<-Yv,hd]; rfl
  simp only[X9] at hi h
  unfold jt
  rw[XW j6,bu,hx]
  show (_∨_)
  simp only[XY,XV,List.find?_cons]
  cases hb:decide (bar<x.Until) with
  | true=>left; exact⟨i,x,rfl,hx,rfl⟩
  | false=>
   simp only[XX]
   rw[qI i j6]
   exact Cj n L z r bar hL l (i+1) m hd' j6 j6
theorem Sb (r:af) (bar:Int) (h:r.Leases.length<=10000000):LM r bar=some (oh r.Self r.Leases bar):=by
 unfold LM O2 oh
 rcases Cj aA r.Leases 0 r bar h r.Leases 0 (aA+7) rfl j6 (by rw[show aA=1208925819614629174706176 from rfl]; omega) with ⟨j,x,h1,h2,h3⟩ | ⟨h1,h3⟩
 ·rw[show ((0:Nat):Int)=0 from rfl] at h1
  rw[h1,h3]
  show (Option.bind (bif decide (0<=bar) then some (decide (0<=(j:Int))) else some false) _)=_
  rw[XW (show (0:Int)<=j by omega)]
  cases decide (0<=bar) with
  | false=>rfl
  | true=>
   simp only[XY,XV,bu,h2]; rfl
 ·rw[show ((0:Nat):Int)=0 from rfl] at h1
  rw[h1,h3]
  cases decide (0<=bar)<;>rfl
def nF (self:Int) (ls:List al) (cs:List av) (c:av):Bool:=oh self ls c.Bar&&(match cs.getLast? with | some d=>decide (d.Bar<c.Bar) | none=>true)&&kW c.Program 1 8
theorem Nu (r:af) (c:av) (h:r.Leases.length<=10000000) (h2:r.Calls.length<=10000000):J0 r c=some (nF r.Self r.Leases r.Calls c):=by
 unfold J0 OO nF
 rw[Sb r _ h,zt]
 generalize oh r.Self r.Leases c.Bar=a
 generalize kW c.Program 1 8=b
 cases a with
 | false=>rfl
 | true=>
  by_cases hp:0<r.Calls.length
  ·rw[show (((r.Calls.length:Int))==0)=false from by simp; intro hn; rw[hn] at hp; simp at hp,Cw _ h2 hp]
   cases hx:r.Calls.getLast? with
   | some x=>
    simp only[XY,XX,XV,Yg]
    cases decide (x.Bar<c.Bar)<;>rfl
   | none=>rw[ZF] at hx; rw[hx] at hp; simp at hp
  ·have:r.Calls=[]:=Zg.1 j6
   rw[this]; rfl
def l0 (r:af) (l:al):af:=.mk r.Self (r.Leases++[l]) r.Calls (r.Order++[true])
def mO (r:af) (c:av):af:=.mk r.Self r.Leases (r.Calls++[c]) (r.Order++[false])
theorem Cc (r:af) (l:al) (c:av) (h:r.Leases.length<10000000) (h2:r.Order.length<10000000):CL r (.mk true l c)=some (l0 r l):=by
 unfold CL Ly
 simp only[XY,Dw,XV]
 rw[iP _ _ _ j6 r8]
 simp only[XV,Dw]
 rw[iP _ _ _ j6 r8]
 rfl
theorem FB (r:af) (l:al) (c:av) (h:r.Calls.length<10000000) (h2:r.Order.length<10000000):CL r (.mk false l c)=some (mO r c):=by
 unfold CL Ly
 simp only[XX,Dw,XV]
 rw[iP _ _ _ j6 r8]
 simp only[XV,Dw]
 rw[iP _ _ _ j6 r8]
 rfl
def sj (s:af):List al->List av->List Bool->Bool
 | _,_,[]=>true
 | l :: ls,cs,true :: o=>oZ s.Leases l&&sj (l0 s l) ls cs o
 | [],_,true :: _=>false
 | ls,c :: cs,false :: o=>nF s.Self s.Leases s.Calls c&&sj (mO s c) ls cs o
 | _,[],false :: _=>false
theorem vG (s:af) (l:al) (ls:List al) (cs:List av) (o:List Bool):sj s (l :: ls) cs (true :: o)=(oZ s.Leases l&&sj (l0 s l) ls cs o):=by rw[sj]
theorem vF (s:af) (c:av) (ls:List al) (cs:List av) (o:List Bool):sj s ls (c :: cs) (false :: o)=(nF s.Self s.Leases s.Calls c&&sj (mO s c) ls cs o):=by cases ls<;>rw[sj]
theorem tM (s:af) (cs:List av) (o:List Bool):sj s [] cs (true :: o)=false:=by rw[sj]
theorem xf (s:af) (ls:List al) (o:List Bool):sj s ls [] (false :: o)=false:=by cases ls<;>rw[sj]
theorem xh (s:af) (ls:List al) (cs:List av):sj s ls cs []=true:=by cases ls<;>cases cs<;>rw[sj]
theorem xv (n:Nat) (O:List Bool) (r0 a0:af) (z:Int) (hO:O.length<=1000000):∀ (o:List Bool) (i m:Nat) (ls:List al) (cs:List av) (s:af),O.drop i=o->i+o.length=O.length->o.length<m ->
  s.Leases.length<=i->s.Calls.length<=i->s.Order.length<=i->∃ x,iu n O (O.length:Int) r0 z a0 m ls cs (i:Int) s.Self s.Leases s.Calls s.Order (i:Int)=some x ∧
   match sj s ls cs o with
   | true=>∃ t,x=.inr (.inr t)/\t=(O.length:Int)
   | false=>(∃ t,x=.inl t/\t.1=530)∨∃ t,x=.inr (.inl t)/\t≠(O.length:Int)
 | o,i,0,_,_,_,_,_,h,_,_,_=>absurd h (YB _)
 | [],i,m+1,ls,cs,s,hd,hi,h,_,_,_=>by
  rw[xh]
  unfold iu
  rw[X0 (by simp at hi; omega)]
  refine⟨_,rfl,_,rfl,?_⟩
  simp at hi
  show (i:Int)=_
  rw[hi]
 | true :: o,i,m+1,ls,cs,s,hd,hi,h,h1,h2,h3=>by
  have hx:O[i]? = some true:=by rw[<-Yz,hd]; rfl
  have hd':O.drop (i+1)=o:=by rw[<-Yv,hd]; rfl
  simp only[X9] at hi h
  unfold iu
  rw[XW j6,bu,hx]
  simp only[XY,XV]
  cases ls with
  | nil=>
   rw[tM]
   simp only[Z0,Int.natCast_zero,Int.lt_irrefl,ZC,XX,Yc,XV]
   exact⟨_,rfl,.inr ⟨_,rfl,by show (i:Int)≠_; omega⟩⟩
  | cons l ls=>
   rw[vG,show decide ((0:Int)<((l :: ls).length:Int))=true from XW r7]
   simp only[XY]
   rw[show bt (l :: ls) 0=some l from rfl,rU]
   simp only[XV,KD (af.mk s.Self s.Leases s.Calls s.Order) l (show s.Leases.length<=10000000 by omega)]
   cases hf:oZ s.Leases l with
   | false=>
    exact⟨_,rfl,.inl ⟨_,rfl,rfl⟩⟩
   | true=>
    simp only[Yc,XX,XV,XY,Yg]
    rw[show af.mk s.Self s.Leases s.Calls s.Order=s from rfl,Cc s l _ j6 j6]
    simp only[XV]
    rw[qI i j6]
    exact xv n O r0 a0 z hO o (i+1) m ls cs (l0 s l) hd' j6 j6 (by simp[l0]; omega) (by simp[l0]; omega) (by simp[l0]; omega)
 | false :: o,i,m+1,ls,cs,s,hd,hi,h,h1,h2,h3=>by
  have hx:O[i]? = some false:=by rw[<-Yz,hd]; rfl
  have hd':O.drop (i+1)=o:=by rw[<-Yv,hd]; rfl
  simp only[X9] at hi h
  unfold iu
  rw[XW j6,bu,hx]
  simp only[XY,XX,XV,Zz]
  cases cs with
  | nil=>
   rw[xf]
   simp only[Z0,Int.natCast_zero,Int.lt_irrefl,ZC,XX,XV]
   exact⟨_,rfl,.inr ⟨_,rfl,by show (i:Int)≠_; omega⟩⟩
  | cons c cs=>
   rw[vF,show decide ((0:Int)<((c :: cs).length:Int))=true from XW r7]
   simp only[XY]
   rw[show bt (c :: cs) 0=some c from rfl,rU]
   simp only[XV,Nu (af.mk s.Self s.Leases s.Calls s.Order) c (show s.Leases.length<=10000000 by omega) (show s.Calls.length<=10000000 by omega)]
   cases hf:nF s.Self s.Leases s.Calls c with
   | false=>
    exact⟨_,rfl,.inl ⟨_,rfl,rfl⟩⟩
   | true=>
    simp only[Yc,XX,XV,XY,Yg]
    rw[show af.mk s.Self s.Leases s.Calls s.Order=s from rfl,FB s _ c j6 j6]
    simp only[XV]
    rw[qI i j6]
    exact xv n O r0 a0 z hO o (i+1) m ls cs (mO s c) hd' j6 j6 (by simp[mO]; omega) (by simp[mO]; omega) (by simp[mO]; omega)
def gJ (r:af):Bool:=kW r.Self 0 1&&(r.Order.length != 0)&&(r.Order.length==r.Leases.length+r.Calls.length)&&decide (r.Leases.length<=256)&&sj (.mk r.Self [] [] []) r.Leases r.Calls r.Order&&(r.Order.head?==some true)
theorem Dr (r:af) (hL:r.Leases.length<=1000000) (hC:r.Calls.length<=1000000) (hO:r.Order.length<=1000000):DE r=some (if gJ r=true then 0 else 530):=by
 unfold DE OA gJ
 rw[zt]
 cases h1:kW r.Self 0 1 with
 | false=>rfl
 | true=>
 simp only[Yc,XX,XV,Yg]
 cases h2:(r.Order.length != 0) with
 | false=>
  have:r.Order.length=0:=by simpa using h2
  rw[this]; rfl
 | true=>
 have h2':r.Order.length≠0:=by simpa using h2
 rw[show ((r.Order.length:Int)==0)=false from by simp; intro h; rw[h] at h2'; simp at h2']
 simp only[XX,XV,Yg]
 rw[eC j6 j6]
 cases h3:(r.Order.length==r.Leases.length+r.Calls.length) with
 | false=>
  rw[show ((r.Order.length:Int) != (r.Leases.length:Int)+(r.Calls.length:Int))=true from by simp at h3 ⊢; omega]
  rfl
 | true=>
 rw[show ((r.Order.length:Int) != (r.Leases.length:Int)+(r.Calls.length:Int))=false from by simp at h3 ⊢; omega]
 simp only[XX,XV,Yg]
 by_cases h4:r.Leases.length<=256
 ·rw[X0 (show ¬ (256:Int)<(r.Leases.length:Int) by omega),XW h4]
  simp only[XX,XV,Yg]
  obtain ⟨x,hx,hm⟩:=xv aA r.Order r r 0 hO r.Order 0 (aA+7) r.Leases r.Calls (.mk r.Self [] [] []) rfl j6 (by rw[show aA=1208925819614629174706176 from rfl]; omega) r7 r7 r7
  rw[show ((0:Nat):Int)=0 from rfl] at hx
  rw[hx]
  simp only[XV]
  have hg:bt r.Order 0=r.Order.head?:=by rw[qbm]; rfl
  cases hw:sj (.mk r.Self [] [] []) r.Leases r.Calls r.Order with
  | true=>
   rw[hw] at hm
   obtain ⟨e,rfl,he⟩:=hm
   skip
   subst he
   simp only[Z3,XX,Yg]
   rw[hg]
   cases hh:r.Order.head? with
   | none=>rw[qbn] at hh; rw[hh] at h2'; simp at h2'
   | some b=>cases b<;>rfl
  | false=>
   rw[hw] at hm
   rcases hm with ⟨⟨y120,y121⟩,rfl,he⟩ | ⟨y144,rfl,he⟩
   ·simp only[] at he
    subst he; rfl
   ·skip
    show (Option.bind (bif (y144 != (r.Order.length:Int)) then _ else _) _)=_
    rw[show (y144 != (r.Order.length:Int))=true from by simpa using he]
    rfl
 ·rw[XW (show (256:Int)<(r.Leases.length:Int) by omega),X0 h4]
  rfl
def Dl (L:List al):Prop:=∀ k x,L[k]? = some x->oZ (L.take k) x=true
def ou (self:Int) (L:List al) (C:List av):Prop:=(∀ c∈C,oh self L c.Bar=true/\kW c.Program 1 8=true)/\C.Pairwise (fun a b=>a.Bar<b.Bar)
theorem Ff:Dl []:=fun k x h=>by simp at h
theorem A9 (self:Int) (L:List al):ou self L []:=⟨fun c h=>absurd h ZV,.nil⟩
theorem Fe {L:List al} {l:al} (h:Dl L) (hl:oZ L l=true):Dl (L++[l]):=fun k x hx=>by
 by_cases hk:k<L.length
 ·rw[Yf hk] at hx
  rw[ZO j6]
  exact h k x hx
 ·rw[Yo j6] at hx
  have hk2:k - L.length=0:=by
   by_cases h0:k - L.length=0
   ·exact h0
   ·rw[Y7 r8] at hx; cases hx
  rw[hk2] at hx
  have e:k=L.length:=j6
  subst e
  cases hx
  rw[ZO (X1 _),List.take_length]
  exact hl
theorem E3 {L:List al} {p:al->Bool} {x:al} (h:L.find? p=some x) (R:List al):(L++R).find? p=some x:=by rw[List.find?_append,h]; rfl
theorem Ds {self bar:Int} {L:List al} (h:oh self L bar=true) (R:List al):oh self (L++R) bar=true:=by
 unfold oh at h ⊢
 rw[XZ] at h ⊢
 refine⟨h.1,?_⟩
 cases hf:L.find? (fun l=>decide (bar<l.Until)) with
 | none=>rw[hf] at h; cases h.2
 | some x=>rw[E3 hf]; rw[hf] at h; exact h.2
theorem zH {self:Int} {L:List al} {C:List av} (h:ou self L C) (R:List al):ou self (L++R) C:=⟨fun c hc=>⟨Ds (h.1 c hc).1 R,(h.1 c hc).2⟩,h.2⟩
theorem Fg {C:List av} (h:C.Pairwise (fun a b=>a.Bar<b.Bar)) {d:av} (hd:C.getLast? = some d):∀ c∈C,c.Bar<=d.Bar:=by
 intro c hc
 obtain ⟨ys,hy⟩:∃ ys,C=ys++[d]:=by
  rw[List.getLast?_eq_some_iff] at hd; exact hd
 subst hy
 rw[qbx] at h
 rcases Y6.1 hc with h1 | h1
 ·have:=h.2.2 c h1 d (qaw.2 rfl); omega
 ·rw[qaw.1 h1]; exact qbo _
theorem zG {self:Int} {L:List al} {C:List av} {c:av} (h:ou self L C) (hc:nF self L C c=true):ou self L (C++[c]):=by
 unfold nF at hc
 rw[XZ,XZ] at hc
 refine⟨fun x hx=>?_,?_⟩
 ·rcases Y6.1 hx with h1 | h1
  ·exact h.1 x h1
  ·rw[qaw.1 h1]; exact⟨hc.1.1,hc.2⟩
 ·rw[qbx]
  refine⟨h.2,List.pairwise_singleton _ _,fun a ha b hb=>?_⟩
  rw[qaw.1 hb]
  cases hl:C.getLast? with
  | none=>rw[ZF] at hl; rw[hl] at ha; exact absurd ha ZV
  | some d=>
   have h1:=Fg h.2 hl a ha
   have h2:=hc.1.2
   rw[hl] at h2
   have h3:=X7 h2
   omega
theorem xg:∀ (o:List Bool) (ls:List al) (cs:List av) (s:af),sj s ls cs o=true->o.length=ls.length+cs.length->Dl s.Leases->ou s.Self s.Leases s.Calls->Dl (s.Leases++ls)/\ou s.Self (s.Leases++ls) (s.Calls++cs)
 | [],ls,cs,s,h,hl,h1,h2=>by
  have e1:ls=[]:=Zg.1 (by simp at hl; omega)
  have e2:cs=[]:=Zg.1 (by simp at hl; omega)
  subst e1; subst e2
  rw[YG,YG]
  exact⟨h1,h2⟩
 | true :: o,[],cs,s,h,hl,h1,h2=>by rw[tM] at h; cases h
 | true :: o,l :: ls,cs,s,h,hl,h1,h2=>by
  rw[vG,XZ] at h
  have:=xg o ls cs (l0 s l) h.2 (by simp at hl ⊢; omega) (Fe h1 h.1) (zH h2 [l])
  simpa [l0] using this
 | false :: o,ls,[],s,h,hl,h1,h2=>by rw[xf] at h; cases h
 | false :: o,ls,c :: cs,s,h,hl,h1,h2=>by
  rw[vF,XZ] at h
  have:=xg o ls cs (mO s c) h.2 (by simp at hl ⊢; omega) h1 (zG h2 h.1)
  simpa [mO] using this
theorem kD {r:af} (h:gJ r=true):kW r.Self 0 1=true/\Dl r.Leases/\ou r.Self r.Leases r.Calls/\r.Order.length=r.Leases.length+r.Calls.length/\r.Leases.length<=256/\r.Order.head? = some true:=by
 unfold gJ at h
 simp only[XZ,Y4,X6] at h
 obtain ⟨⟨⟨⟨⟨h1,h2⟩,h3⟩,h4⟩,h5⟩,h6⟩:=h
 obtain ⟨h7,h8⟩:=xg r.Order r.Leases r.Calls _ h5 h3 Ff (A9 _ _)
 simp only[Y5] at h7 h8
 exact⟨h1,h7,h8,h3,h4,h6⟩
theorem K8 {n:Int} (h:kW n 0 1=true):n=0∨n=1:=by
 unfold kW at h
 simp only[XZ,X6] at h
 omega
theorem Dm (L:List al) (l:al):su (L++[l])=l.Until:=by unfold su; rw[List.getLast?_append]; rfl
def qQ:af:=.mk 0 [] [] []
theorem R6 (r:af) (bar p:Int) (hL:r.Leases.length<=1000000) (hC:r.Calls.length<=1000000) (hO:r.Order.length<=1000000) :
  JV r bar p=some (if gJ r=true/\nF r.Self r.Leases r.Calls (.mk bar p)=true then (mO r (.mk bar p),0) else (qQ,530)):=by
 unfold JV Oy
 rw[Dr r hL hC hO]
 cases h1:gJ r with
 | false=>rfl
 | true=>
  simp only[Zh,XV]
  rw[show ((0:Int)==0)=true from rfl]
  simp only[XY]
  rw[Nu r _ j6 j6]
  cases h2:nF r.Self r.Leases r.Calls (.mk bar p) with
  | false=>rfl
  | true=>
   simp only[XV,Yc,XX]
   rw[FB r _ _ j6 j6]
   rfl
theorem Oh:G4=some true:=j9
theorem B7 {T:Type} [DecidableEq T] (A B:List T) (hl:A.length=B.length) (hA:A.length<=1000000) (e:T->T->Bool) (he:∀ x y,e x y=decide (x=y)) (G:Nat->Int->Option ((Bool)⊕(Unit)))
  (hG:∀ m w,G (m+1) w=bif (decide (w<((A.length:Int)))) then (Option.bind (bt A w) fun y7=>Option.bind (bt B w) fun y8=>bif (!(e y7 y8)) then (some ((Sum.inl false))) else (G m (wr .i64 (w+1)))) else (some ((Sum.inr (()))))) :
  ∀ (a b:List T) (i m:Nat),A.drop i=a->B.drop i=b->i+a.length=A.length->a.length<m->G m (i:Int)=some (if a=b then .inr () else .inl false)
 | a,b,i,0,_,_,_,h=>absurd h (YB _)
 | [],b,i,m+1,hd,hd2,hi,h=>by
  have:b=[]:=by rw[<-hd2]; exact qbk (by simp at hi; omega)
  subst this
  rw[hG,X0 (by simp at hi; omega)]
  rfl
 | x :: a,b,i,m+1,hd,hd2,hi,h=>by
  simp only[X9] at hi h
  obtain ⟨y,b',rfl⟩:∃ y b',b=y :: b':=by
   cases b with
   | nil=>
    exfalso
    have:(B.drop i).length=0:=by rw[hd2]; rfl
    rw[ZW] at this
    omega
   | cons y b'=>exact⟨y,b',rfl⟩
  have hx:A[i]? = some x:=by rw[<-Yz,hd]; rfl
  have hy:B[i]? = some y:=by rw[<-Yz,hd2]; rfl
  have hd':A.drop (i+1)=a:=by rw[<-Yv,hd]; rfl
  have hd2':B.drop (i+1)=b':=by rw[<-Yv,hd2]; rfl
  rw[hG,XW j6,bu,bu,hx,hy]
  simp only[XY,XV]
  rw[he]
  by_cases hxy:x=y
  ·subst hxy
   rw[XW rfl,qI i j6]
   simp only[Yc,XX]
   rw[B7 A B hl hA e he G hG a b' (i+1) m hd' hd2' j6 j6]
   by_cases hab:a=b'
   ·rw[X4 hab,X4 (by rw[hab])]
   ·rw[X8 hab,X8 (fun h=>hab (qaA h).2)]
  ·rw[X0 hxy,X8 (fun h=>hxy (qaA h).1)]
   rfl
theorem n9 (x y:al):((x.No==y.No)&&((x.Holder==y.Holder)&&(x.Until==y.Until)))=decide (x=y):=by
 obtain ⟨a,b,c⟩:=x; obtain ⟨d,e,f⟩:=y
 rw[YI]
 simp[al.mk.injEq]
theorem wL (x y:av):((x.Bar==y.Bar)&&(x.Program==y.Program))=decide (x=y):=by
 obtain ⟨a,b⟩:=x; obtain ⟨d,e⟩:=y
 rw[YI]
 simp[av.mk.injEq]
theorem mf (n:Nat) (h:n<=1000000) (k:Nat):n<aA+k:=by rw[show aA=1208925819614629174706176 from rfl]; omega
theorem Np (a b:List al) (ha:a.length<=1000000) (hb:b.length<=1000000):JX a b=some (decide (a=b)):=by
 unfold JX OB
 by_cases h:a.length=b.length
 ·rw[h,Z3]
  simp only[XX]
  have:=B7 a b h ha (fun x y=>(x.No==y.No)&&((x.Holder==y.Holder)&&(x.Until==y.Until))) n9 (lU aA a b) (fun m w=>by rw[lU]) a b 0 (aA+8) rfl rfl j6 (mf _ ha _)
  rw[show ((0:Nat):Int)=0 from rfl] at this
  rw[this]
  by_cases hab:a=b
  ·rw[X4 hab,XW hab]; rfl
  ·rw[X8 hab,X0 hab]; rfl
 ·rw[show ((a.length:Int) != (b.length:Int))=true from r8,X0 (fun e=>h (by rw[e]))]
  rfl
theorem Nq (a b:List av) (ha:a.length<=1000000) (hb:b.length<=1000000):JY a b=some (decide (a=b)):=by
 unfold JY OC
 by_cases h:a.length=b.length
 ·rw[h,Z3]
  simp only[XX]
  have:=B7 a b h ha (fun x y=>(x.Bar==y.Bar)&&(x.Program==y.Program)) wL (lV aA a b) (fun m w=>by rw[lV]) a b 0 (aA+8) rfl rfl j6 (mf _ ha _)
  rw[show ((0:Nat):Int)=0 from rfl] at this
  rw[this]
  by_cases hab:a=b
  ·rw[X4 hab,XW hab]; rfl
  ·rw[X8 hab,X0 hab]; rfl
 ·rw[show ((a.length:Int) != (b.length:Int))=true from r8,X0 (fun e=>h (by rw[e]))]
  rfl
def kR (r:af):Prop:=r.Leases.length<=1000000/\r.Calls.length<=1000000/\r.Order.length<=1000000
theorem GJ (x y:Bool):(!(x != y))=decide (x=y):=by cases x<;>cases y<;>rfl
theorem R5 (a b:af) (ha:kR a) (hb:kR b):II a b=some (decide (a=b)):=by
 obtain ⟨a1,a2,a3⟩:=ha
 obtain ⟨b1,b2,b3⟩:=hb
 unfold II OD
 rw[Np _ _ a1 b1,Nq _ _ a2 b2]
 obtain ⟨sa,la,ca,oa⟩:=a
 obtain ⟨sb,lb,cb,ob⟩:=b
 simp only[] at a1 a2 a3 b1 b2 b3 ⊢
 have key:decide (af.mk sa la ca oa=af.mk sb lb cb ob)=(decide (sa=sb)&&decide (la=lb)&&decide (ca=cb)&&decide (oa=ob)):=by
  rw[YI]
  simp[af.mk.injEq,and_assoc]
 rw[key]
 by_cases h1:sa=sb
 ·rw[show (sa != sb)=false from by rw[h1]; exact Z3 _,XW h1]
  simp only[XX,XV,Yg]
  cases decide (la=lb) with
  | false=>rfl
  | true=>
   simp only[Yc,XX,XV,Yg]
   cases decide (ca=cb) with
   | false=>rfl
   | true=>
    simp only[Yc,XX,XV,Yg]
    by_cases h:oa.length=ob.length
    ·rw[h,Z3]
     simp only[XX]
     have:=B7 oa ob h a3 (fun x y=>!(x != y)) GJ (lW aA (.mk sa la ca oa) (.mk sb lb cb ob)) (fun m w=>by rw[lW]; simp only[Bool.not_not]) oa ob 0 (aA+8) rfl rfl j6 (mf _ a3 _)
     rw[show ((0:Nat):Int)=0 from rfl] at this
     rw[this]
     by_cases hab:oa=ob
     ·rw[X4 hab,XW hab]; rfl
     ·rw[X8 hab,X0 hab]; rfl
    ·rw[show ((oa.length:Int) != (ob.length:Int))=true from r8,X0 (fun e=>h (by rw[e]))]
     rfl
 ·rw[show (sa != sb)=true from by simpa using h1,X0 h1]
  rfl
theorem NR {T:Type} (l:List T) (n:Nat) (h:n<=l.length):eJ l 0 (n:Int)=some (l.take n):=by
 unfold eJ
 rw[show (decide ((0:Int)<=0)&&decide ((0:Int)<=(n:Int))&&decide ((n:Int)<=l.length))=true from r8]
 simp
theorem fu:aA=1208925819614629174706176:=rfl
mutual
def na:ak->Nat
 | .mk _ _ s l=>1+s.size / 200+kN l
def kN:List ak->Nat
 | []=>0
 | x :: r=>na x+kN r
end
theorem fb (v:ak):na v=1+v.S.size / 200+kN v.L:=by cases v; rw[na]
theorem oV (v:ak):1<=na v:=by rw[fb]; omega
theorem mA:kN []=0:=by rw[kN]
theorem jY (x:ak) (r:List ak):kN (x :: r)=na x+kN r:=by rw[kN]
theorem eU:∀ l:List ak,l.length<=kN l
 | []=>YT _
 | x :: r=>by rw[jY,X9]; have:=eU r; have:=oV x; omega
theorem iG:∀ {l:List ak} {x:ak},x∈l->na x<=kN l
 | y :: r,x,h=>by
  rw[jY]
  rcases YJ.1 h with rfl | h
  ·omega
  ·have:=iG h; omega
def emp (s:ByteArray):Bool:=lI s (ByteArray.mk #[])
mutual
def sf:ak->Bool
 | .mk k n s l=>bif k==1 then emp s&&((l.length:Int)==0) else bif k==2 then (n==0)&&((l.length:Int)==0) else bif k==3 then kU l&&((n==0)&&emp s) else false
def kU:List ak->Bool
 | []=>true
 | x :: r=>sf x&&kU r
end
mutual
def dep:ak->Nat
 | .mk k _ _ l=>bif k==3 then mY l+1 else 0
def mY:List ak->Nat
 | []=>0
 | x :: r=>max (dep x) (mY r)
end
theorem m6 (v:ak):sf v=bif v.Kind==1 then emp v.S&&((v.L.length:Int)==0) else bif v.Kind==2 then (v.N==0)&&((v.L.length:Int)==0) else bif v.Kind==3 then kU v.L&&((v.N==0)&&emp v.S) else false:=by cases v; rw[sf]
theorem nQ (v:ak):dep v=bif v.Kind==3 then mY v.L+1 else 0:=by cases v; rw[dep]
theorem qA:kU []=true:=by rw[kU]
theorem mg (x:ak) (r:List ak):kU (x :: r)=(sf x&&kU r):=by rw[kU]
theorem nR:mY []=0:=by rw[mY]
theorem jX (x:ak) (r:List ak):mY (x :: r)=max (dep x) (mY r):=by rw[mY]
mutual
theorem GM:∀ v:ak,dep v<=na v
 | .mk k n s l=>by
  rw[dep,na]
  have:=qp l
  cases k==3<;>simp<;>omega
theorem qp:∀ l:List ak,mY l<=kN l
 | []=>by rw[nR]; omega
 | x :: r=>by
  rw[jX,jY]
  have:=GM x; have:=qp r; omega
end
theorem Fp (self:ak->Option Int) (n:Nat) (z:Int) (v:ak) (hn:na v<=1000000) (hself:∀ e∈v.L,self e=some (dep e:Int)) :
  ∀ (k m i d:Nat),i+k=v.L.length->k<m->gW self n v m (d:Int) (i:Int)=some ((max d (mY (v.L.drop i)):Nat):Int)
 | 0,m,i,d,h1,h2=>by
  obtain ⟨m,rfl⟩:∃ q,m=q+1:=⟨m - 1,j6⟩
  rw[gW,X0 j6,Y3.2 j6,nR]
  simp
 | k+1,m,i,d,h1,h2=>by
  obtain ⟨m,rfl⟩:∃ q,m=q+1:=⟨m - 1,j6⟩
  have hi:i<v.L.length:=j6
  have hl:=eU v.L
  rw[fb] at hn
  rw[gW,XW j6,YF hi,jX]
  simp only[XY,bu,X3 hi,XV,hself _ (Y8 hi)]
  rw[eC j6 j6,show (i:Int)+1=((i+1:Nat):Int) by omega,show (if (d:Int)<(dep v.L[i]:Int) then (dep v.L[i]:Int) else (d:Int))=((max d (dep v.L[i]):Nat):Int) by split<;>omega]
  rw[Fp self n z v (by rw[fb]; exact hn) hself k m (i+1) _ j6 j6]
  congr 2
  omega
theorem DH:∀ (q:Nat) (v:ak),na v<=q->na v<=1000000->xY q v=some (dep v:Int)
 | 0,v,h,_=>by have:=oV v; omega
 | q+1,v,h,hn=>by
  show DL (xY q) aA v=_
  unfold DL
  rw[nQ]
  cases hk:v.Kind==3 with
  | false=>rw[show (v.Kind != 3)=true by rw[bne,hk]; rfl]; rfl
  | true=>
   rw[show (v.Kind != 3)=false by rw[bne,hk]; rfl]
   have hl:=eU v.L
   have hn':=hn
   rw[fb] at hn' h
   have:=Fp (xY q) aA 0 v hn (fun e he=>by
    have:=iG he
    exact DH q e j6 j6) v.L.length (aA+8) 0 0 j6 An
   rw[show ((0:Nat):Int)=0 from rfl] at this
   simp only[XX,this,XV,Zi,XY]
   have hd:=qp v.L
   rw[eC j6 j6]
   first | done | (congr 1; try omega)
theorem Fo (self:ak->Option Bool) (n:Nat) (z:Bool) (v:ak) (hn:na v<=1000000) (hself:∀ e∈v.L,self e=some (sf e)) :
  ∀ (k m i:Nat),i+k=v.L.length->k<m->gV self n v m (i:Int)=some (bif kU (v.L.drop i) then .inr () else .inl false)
 | 0,m,i,h1,h2=>by
  obtain ⟨m,rfl⟩:∃ q,m=q+1:=⟨m - 1,j6⟩
  rw[gV,X0 j6,Y3.2 j6,qA]
  rfl
 | k+1,m,i,h1,h2=>by
  obtain ⟨m,rfl⟩:∃ q,m=q+1:=⟨m - 1,j6⟩
  have hi:i<v.L.length:=j6
  have hl:=eU v.L
  rw[fb] at hn
  rw[gV,XW j6,YF hi,mg]
  simp only[XY,bu,X3 hi,XV,hself _ (Y8 hi)]
  cases sf v.L[i] with
  | false=>rfl
  | true=>
   rw[eC j6 j6,show (i:Int)+1=((i+1:Nat):Int) by omega]
   exact Fo self n z v (by rw[fb]; exact hn) hself k m (i+1) j6 j6
theorem sI:∀ (q:Nat) (v:ak),na v<=q->na v<=1000000->xX q v=some (sf v)
 | 0,v,h,_=>by have:=oV v; omega
 | q+1,v,h,hn=>by
  show DK (xX q) aA v=_
  unfold DK
  rw[m6]
  cases hk1:v.Kind==1 with
  | true=>simp only[XY]; show Option.bind (bif emp v.S then _ else _) _=_; cases emp v.S<;>rfl
  | false=>
   cases hk2:v.Kind==2 with
   | true=>simp only[XY,XX]; cases v.N==0<;>rfl
   | false=>
    cases hk3:v.Kind==3 with
    | false=>rfl
    | true=>
     have hl:=eU v.L
     have hn':=hn
     rw[fb] at hn' h
     have:=Fo (xX q) aA false v hn (fun e he=>by
      have:=iG he
      exact sI q e j6 j6) v.L.length (aA+8) 0 j6 An
     rw[show ((0:Nat):Int)=0 from rfl] at this
     simp only[XX,XY,this,XV,Zi]
     cases kU v.L with
     | false=>rfl
     | true=>show Option.bind (bif v.N==0 then some (emp v.S) else _) _=_; cases v.N==0<;>rfl
def iX (v:ak):Int:=bif sf v then (bif decide (16<dep v) then 2 else 0) else 1
theorem Ti (v:ak) (hn:na v<=1000000):Lo v=some (iX v):=by
 unfold Lo Pj Gw Gx
 rw[sI _ v An hn,DH _ v An hn]
 simp only[XV]
 unfold iX
 cases sf v with
 | false=>rfl
 | true=>
  simp only[Yc,XX,XY]
  by_cases h:16<dep v
  ·rw[XW h,XW j6]; rfl
  ·rw[X0 h,X0 j6]; rfl
theorem Fm (self:ak->Option (Int×Bool)) (n:Nat) (z:Bool) (v:ak) (w a b c d:Bool) (hn:na v<=1000000) (hself:∀ e∈v.L,∃ x,self e=some (x,sf e)/\(sf e=true->x=(dep e:Int))) :
  ∀ (k m i t:Nat),i+k=v.L.length->k<m->∃ r,kB self n z v.L (v.L.length:Int) v w a b c m (t:Int) (i:Int)=some r/\(match r with | .inl p=>kU (v.L.drop i)=false/\p.1=0/\p.2=false | .inr x=>kU (v.L.drop i)=true/\x=((max t (mY (v.L.drop i)):Nat):Int))
 | 0,m,i,t,h1,h2=>by
  obtain ⟨m,rfl⟩:∃ q,m=q+1:=⟨m - 1,j6⟩
  rw[kB,X0 j6,Y3.2 j6,qA,nR]
  exact⟨_,rfl,rfl,r7⟩
 | k+1,m,i,t,h1,h2=>by
  obtain ⟨m,rfl⟩:∃ q,m=q+1:=⟨m - 1,j6⟩
  have hi:i<v.L.length:=j6
  have hl:=eU v.L
  rw[fb] at hn
  obtain ⟨x,h3,h4⟩:=hself _ (Y8 hi)
  rw[kB,XW j6,YF hi,mg,jX]
  simp only[XY,bu,X3 hi,XV,h3]
  cases hf:sf v.L[i] with
  | false=>exact⟨_,rfl,rfl,rfl,rfl⟩
  | true=>
   rw[h4 hf]
   simp only[Yc,XX,Yg]
   rw[eC j6 j6,show (i:Int)+1=((i+1:Nat):Int) by omega,show (if (t:Int)<(dep v.L[i]:Int) then (dep v.L[i]:Int) else (t:Int))=((max t (dep v.L[i]):Nat):Int) by split<;>omega]
   have:=Fm self n z v w a b c d (by rw[fb]; exact hn) hself k m (i+1) (max t (dep v.L[i])) j6 j6
   rw[show max t (max (dep v.L[i]) (mY (v.L.drop (i+1))))=max (max t (dep v.L[i])) (mY (v.L.drop (i+1))) by omega]
   exact this
theorem JP:∀ (q:Nat) (v:ak),na v<=q->na v<=1000000->∃ x,Jg q v=some (x,sf v)/\(sf v=true->x=(dep v:Int))
 | 0,v,h,_=>by have:=oV v; omega
 | q+1,v,h,hn=>by
  have hl:=eU v.L
  have hn':=hn
  rw[fb] at hn' h
  obtain ⟨r,h1,h2⟩:=Fm (Jg q) aA false v false (emp v.S&&((v.L.length:Int)==0)) ((v.N==0)&&((v.L.length:Int)==0)) ((v.N==0)&&emp v.S) false hn (fun e he=>by
   have:=iG he
   exact JP q e j6 j6) v.L.length (aA+8) 0 0 j6 An
  rw[show ((0:Nat):Int)=0 from rfl] at h1
  rw[Zi] at h2
  show ∃ x,LA (Jg q) aA v=_/\_
  unfold LA
  rw[show (bif lI v.S (ByteArray.mk #[]) then some ((v.L.length:Int)==0) else some false)=some (emp v.S&&((v.L.length:Int)==0)) from by unfold emp; cases lI v.S (ByteArray.mk #[])<;>rfl,
   show (bif v.N==0 then some ((v.L.length:Int)==0) else some false)=some ((v.N==0)&&((v.L.length:Int)==0)) from by cases v.N==0<;>rfl,
   show (bif v.N==0 then some (lI v.S (ByteArray.mk #[])) else some false)=some ((v.N==0)&&emp v.S) from by unfold emp; cases v.N==0<;>rfl]
  simp only[XV]
  rw[m6,nQ]
  by_cases k1:v.Kind<1
  ·rw[XW k1]
   refine⟨0,?_,?_⟩
   ·rw[show (v.Kind==1)=false from r8,show (v.Kind==2)=false from r8,show (v.Kind==3)=false from r8]; rfl
   ·rw[show (v.Kind==1)=false from r8,show (v.Kind==2)=false from r8,show (v.Kind==3)=false from r8]; intro h; cases h
  by_cases k2:3<v.Kind
  ·rw[X0 k1,XW k2]
   refine⟨0,?_,?_⟩
   ·rw[show (v.Kind==1)=false from r8,show (v.Kind==2)=false from r8,show (v.Kind==3)=false from r8]; rfl
   ·rw[show (v.Kind==1)=false from r8,show (v.Kind==2)=false from r8,show (v.Kind==3)=false from r8]; intro h; cases h
  rw[X0 k1,X0 k2]
  simp only[XX,XY,XV]
  rcases (show v.Kind=1∨v.Kind=2∨v.Kind=3 by omega) with hk | hk | hk
  ·rw[hk]
   simp only[show decide ((1:Int)=0)=false from rfl,show decide ((1:Int)=1)=true from rfl,show decide ((1:Int)<3)=true from rfl,show ((1:Int)==1)=true from rfl,show ((1:Int)==3)=false from rfl,XX,XY,XV]
   cases emp v.S&&((v.L.length:Int)==0) with
   | false=>exact⟨0,rfl,fun h=>by cases h⟩
   | true=>exact⟨0,rfl,fun _=>rfl⟩
  ·rw[hk]
   simp only[show decide ((2:Int)=0)=false from rfl,show decide ((2:Int)=1)=false from rfl,show decide ((2:Int)=2)=true from rfl,show decide ((2:Int)<3)=true from rfl,show ((2:Int)==1)=false from rfl,show ((2:Int)==2)=true from rfl,show ((2:Int)==3)=false from rfl,XX,XY,XV]
   cases (v.N==0)&&((v.L.length:Int)==0) with
   | false=>exact⟨0,rfl,fun h=>by cases h⟩
   | true=>exact⟨0,rfl,fun _=>rfl⟩
  ·rw[hk]
   simp only[show decide ((3:Int)=0)=false from rfl,show decide ((3:Int)=1)=false from rfl,show decide ((3:Int)=2)=false from rfl,show decide ((3:Int)=3)=true from rfl,show decide ((3:Int)<3)=false from rfl,show ((3:Int)==1)=false from rfl,show ((3:Int)==2)=false from rfl,show ((3:Int)==3)=true from rfl,XX,XY,XV]
   cases hc:(v.N==0)&&emp v.S with
   | false=>exact⟨0,r7,fun h=>by simp at h⟩
   | true=>
    rw[hc] at h1
    simp only[Yc,XX,h1,XV]
    cases r with
    | inl p=>
     obtain ⟨h3,h4,h5⟩:=h2
     obtain ⟨p1,p2⟩:=p
     refine⟨0,?_,fun h=>?_⟩
     ·rw[h3]; simp only at h4 h5; subst h4; subst h5; rfl
     ·rw[h3] at h; cases h
    | inr x=>
     obtain ⟨h3,h4⟩:=h2
     have hd:=qp v.L
     refine⟨_,by rw[h3]; rfl,fun _=>?_⟩
     rw[h4,eC j6 j6]
     omega
theorem W9 (v:ak) (hn:na v<=1000000):LS v=some (iX v):=by
 unfold LS Pf Pp
 obtain ⟨x,h1,h2⟩:=JP aA v An hn
 rw[h1,XV]
 unfold iX
 cases hf:sf v with
 | false=>rfl
 | true=>
  rw[h2 hf]
  simp only[Yc,XX,XY]
  by_cases h:16<dep v
  ·rw[XW h,XW j6]; rfl
  ·rw[X0 h,X0 j6]; rfl
theorem Tl:fg=140737488355328:=j9
theorem vk {T:Type} (b:Nat) (l l2:List T) (h:(l.length+l2.length)*b<=fg):cU b l l2=some (l++l2):=by unfold cU; rw[XW h]; rfl
theorem mP (l l2:List UInt8) (h:l.length+l2.length<=140737488355328):cU 1 l l2=some (l++l2):=vk _ _ _ (by rw[Tl]; omega)
def num (n:Nat):List UInt8:=if h:n<128 then [UInt8.ofNat n] else UInt8.ofNat (n % 128+128) :: num (n / 128)
termination_by n
decreasing_by omega
theorem nc {n:Nat} (h:n<128):num n=[UInt8.ofNat n]:=by rw[num]; exact dif_pos h
theorem ug {n:Nat} (h:¬ n<128):num n=UInt8.ofNat (n % 128+128) :: num (n / 128):=by rw[num]; exact dif_neg h
theorem Cn:∀ (k n:Nat),n<128 ^ k->(num n).length<=max k 1
 | 0,n,h=>by rw[nc (by simpa using Yh h (by decide))]; simp
 | k+1,n,h=>by
  by_cases h1:n<128
  ·rw[nc h1]; simp
  ·rw[ug h1,X9]
   have hk:0<k:=by
    rcases qab k with rfl | hk
    ·simp at h; omega
    ·exact hk
   have:=Cn k (n / 128) (by rw[Z1 (by decide)]; rw[qbc] at h; exact h)
   omega
theorem lP {n:Nat} (h:n<18446744073709551616):(num n).length<=10:=Cn 10 n (Yh h (by decide))
theorem Lb (n:Nat):wr .u8 (n:Int)=((n % 256:Nat):Int):=by
 unfold wr IntKind.wrap
 simp[IntKind.bits,IntKind.signed]
theorem NL:∀ c:Fin 256,nG .u8 (c.val:Int) 128=((c.val % 128+128:Nat):Int):=by decide +kernel
theorem KM (n:Nat):nG .u8 (wr .u8 (n:Int)) 128=((n % 128+128:Nat):Int):=by
 rw[Lb]
 have:=NL ⟨n % 256,qax _ (by decide)⟩
 rw[this]
 simp only
 congr 2
 omega
theorem S0 (n:Nat):oz .u64 (n:Int) 7=((n / 128:Nat):Int):=by
 unfold oz
 show Int.fdiv (n:Int) (2 ^ 7)=_
 rw[qaq _ (by decide)]
 rfl
theorem jU (G:Nat->Int->List UInt8->Option (Int×List UInt8)) (hG:∀ m v l,G (m+1) v l=bif decide (128<=v) then (bif (decide (0<=(nG .u8 (wr .u8 (v)) 128))&&decide ((nG .u8 (wr .u8 (v)) 128)<256)) then (Option.bind (cU 1 l ([(UInt8.ofNat (Int.toNat (nG .u8 (wr .u8 (v)) 128)))])) fun y=>G m (oz .u64 v 7) y) else none) else some (v,l)) :
  ∀ (k m n:Nat) (l:List UInt8),n<128 ^ k->k<=11->k<m->l.length+k<=140737488355328->∃ (y:Nat) (ini:List UInt8),y<128/\G m (n:Int) l=some ((y:Int),l++ini)/\num n=ini++[UInt8.ofNat y]
 | 0,m,n,l,h,_,hm,hl=>by
  obtain ⟨m,rfl⟩:∃ q,m=q+1:=⟨m - 1,j6⟩
  have h:n<1:=h
  exact⟨n,[],j6,by rw[hG,X0 j6,YG]; rfl,by rw[nc j6]; rfl⟩
 | k+1,m,n,l,h,hk,hm,hl=>by
  obtain ⟨m,rfl⟩:∃ q,m=q+1:=⟨m - 1,j6⟩
  by_cases h1:n<128
  ·exact⟨n,[],h1,by rw[hG,X0 j6,YG]; rfl,by rw[nc h1]; rfl⟩
  ·have hq:n / 128<128 ^ k:=by rw[Z1 (by decide)]; rw[qbc] at h; exact h
   rw[hG,XW j6,KM,XW j6,XW j6,S0,qa0]
   simp only[XY,YM]
   rw[mP _ _ r8,XV]
   obtain ⟨y,ini,h2,h3,h4⟩:=jU G hG k m (n / 128) (l++[UInt8.ofNat (n % 128+128)]) hq j6 j6 r8
   exact⟨y,UInt8.ofNat (n % 128+128) :: ini,h2,by rw[h3,YD]; rfl,by rw[ug h1,h4]; rfl⟩
theorem S5 {y:Nat} (h:y<128):wr .u8 (y:Int)=(y:Int):=by rw[Lb,qam j6]
theorem Ur:∀ (k q n:Nat),n<128 ^ k->k<=11->k<q->n<18446744073709551616->xZ q (n:Int)=some (num n)
 | 0,q,n,h,_,hq,hn=>by
  obtain ⟨q,rfl⟩:∃ p,q=p+1:=⟨q - 1,j6⟩
  have h:n<1:=h
  show Ac (xZ q) aA _=_
  unfold Ac
  rw[XW j6,S5 j6,XW j6,XW j6,nc j6]
  rfl
 | k+1,q,n,h,hk,hq,hn=>by
  obtain ⟨q,rfl⟩:∃ p,q=p+1:=⟨q - 1,j6⟩
  show Ac (xZ q) aA _=_
  unfold Ac
  by_cases h1:n<128
  ·rw[XW j6,S5 h1,XW j6,XW j6,nc h1]
   rfl
  ·have hk0:0<k:=by
    rcases qab k with rfl | hk
    ·simp at h; omega
    ·exact hk
   have hq2:n / 128<128 ^ k:=by rw[Z1 (by decide)]; rw[qbc] at h; exact h
   have e1:Int.tmod (n:Int) 128=((n % 128:Nat):Int):=rfl
   have e2:Int.tdiv (n:Int) 128=((n / 128:Nat):Int):=rfl
   have wu:∀ z:Nat,z<18446744073709551616->wr .u64 (z:Int)=(z:Int):=fun z hz=>by
    unfold wr IntKind.wrap
    simp[IntKind.bits,IntKind.signed]
    omega
   rw[X0 j6]
   simp only[XX]
   rw[e1,e2,show ((n % 128:Nat):Int)+128=((n % 128+128:Nat):Int) by omega,wu _ j6,wu _ j6,Lb (n % 128+128),qam (show n % 128+128<256 by omega),XW j6,XW j6,qa0]
   simp only[XY,XX,YM]
   rw[Ur k q (n / 128) hq2 j6 j6 j6,XV,mP _ _ (by have:=lP (n:=n / 128) j6; simp; omega),ug h1]
   rfl
theorem Rc (n:Nat) (h:n<18446744073709551616):CK (n:Int)=some (num n):=Ur 10 aA n (Yh h (by decide)) j6 An h
def uL (n:Int):Nat:=if 0<=n then (2*n).toNat else (-2*n - 1).toNat
theorem Bn (z:Int):wr .u64 z=z % 18446744073709551616:=by
 unfold wr IntKind.wrap
 simp[IntKind.bits,IntKind.signed]
theorem oJ {n:Int} (h:gA n):uL n<18446744073709551616:=by
 obtain ⟨h1,h2⟩:=h
 unfold uL; split<;>omega
theorem Xd (n:Int) (h:gA n):DM n=some (uL n:Int):=by
 obtain ⟨h1,h2⟩:=h
 unfold DM Gv uL
 by_cases h0:0<=n
 ·rw[XW h0,X4 h0]
  simp only[XY,Bn]
  congr 1; omega
 ·rw[X0 h0,X8 h0,eC (n:=n+1) j6 j6,eC (n:=0 - (n+1)) j6 j6]
  simp only[XX,Bn]
  congr 1; omega
theorem xor_zero (a:Int) (h:0<=a) (h':a<18446744073709551616):sw .u64 a 0=a:=by
 unfold sw
 show IntKind.wrap .u64 ((BitVec.ofInt 64 a ^^^ BitVec.ofInt 64 0).toNat:Int)=a
 rw[show BitVec.ofInt 64 0=0#64 from rfl,BitVec.xor_zero]
 have:=Bn ((BitVec.ofInt 64 a).toNat:Int)
 unfold wr at this
 rw[this,ZE]
 omega
theorem Gn (a:Int) (h:0<=a) (h':a<18446744073709551616):sw .u64 a 18446744073709551615=18446744073709551615 - a:=by
 unfold sw
 show IntKind.wrap .u64 ((BitVec.ofInt 64 a ^^^ BitVec.ofInt 64 18446744073709551615).toNat:Int)=_
 rw[show BitVec.ofInt 64 18446744073709551615=BitVec.allOnes 64 from rfl,BitVec.xor_allOnes,BitVec.toNat_not]
 have:=Bn (((2 ^ 64 - 1 - (BitVec.ofInt 64 a).toNat:Nat)):Int)
 unfold wr at this
 rw[this,ZE]
 omega
theorem Rb (n:Int) (h:gA n):Ad n=some (uL n:Int):=by
 obtain ⟨h1,h2⟩:=h
 unfold Ad Gu
 have e1:p5 .u64 (wr .u64 n) 1=(2*n) % 18446744073709551616:=by
  unfold p5
  have:=Bn (wr .u64 n*2 ^ 1)
  unfold wr at this ⊢
  show IntKind.wrap .u64 (IntKind.wrap .u64 n*2 ^ 1)=_
  rw[this]
  have h4:=Bn n
  unfold wr at h4
  rw[h4]; omega
 have e2:oz .i64 n 63=n / 9223372036854775808:=by
  unfold oz
  show Int.fdiv n (2 ^ 63)=_
  rw[qaq _ (by decide)]
  rfl
 rw[e1,e2]
 congr 1
 unfold uL
 by_cases h0:0<=n
 ·rw[X4 h0,show n / 9223372036854775808=0 by omega,show wr .u64 0=0 from rfl,xor_zero _ j6 j6]; omega
 ·rw[X8 h0,show n / 9223372036854775808=-1 by omega,show wr .u64 (-1)=18446744073709551615 from rfl,Gn _ j6 j6]; omega
mutual
def iY:ak->List UInt8
 | .mk k n s l=>bif k==1 then 1 :: num (uL n) else bif k==2 then 2 :: (num s.size++jw s) else 3 :: (num l.length++jQ l)
def jQ:List ak->List UInt8
 | []=>[]
 | x :: r=>iY x++jQ r
end
theorem dR (v:ak):iY v=bif v.Kind==1 then 1 :: num (uL v.N) else bif v.Kind==2 then 2 :: (num v.S.size++jw v.S) else 3 :: (num v.L.length++jQ v.L):=by cases v; rw[iY]
theorem me:jQ []=[]:=by rw[jQ]
theorem fk (x:ak) (r:List ak):jQ (x :: r)=iY x++jQ r:=by rw[jQ]
theorem gi (s:ByteArray):(jw s).length=s.size:=rfl
mutual
theorem wX:∀ (v:ak),bT v->na v<=1000000->(iY v).length<=420*na v
 | .mk k n s l,h,hn=>by
  rw[bT] at h
  obtain ⟨⟨_,h2,_,_⟩,h5⟩:=h
  rw[na] at hn
  have h1:=tq l h5 j6
  have h3:=eU l
  rw[iY,na]
  have l1:=lP (n:=uL n) (oJ h2)
  have l2:=lP (n:=s.size) j6
  have l3:=lP (n:=l.length) j6
  cases k==1 with
  | true=>simp only[XY,X9]; omega
  | false=>
   cases k==2 with
   | true=>simp only[XY,XX,X9,Ye,gi]; omega
   | false=>simp only[XX,X9,Ye]; omega
theorem tq:∀ (l:List ak),gu l->kN l<=1000000->(jQ l).length<=420*kN l
 | [],_,_=>by rw[me,mA]; simp
 | x :: r,h,hn=>by
  rw[gu] at h
  rw[jY] at hn ⊢
  have h1:=wX x h.1 j6
  have h2:=tq r h.2 j6
  rw[fk,Ye]; omega
end
theorem CZ {v:ak} (h:bT v) (hn:na v<=1000000):(iY v).length<=420000000:=by have:=wX v h hn; omega
theorem AF {v:ak} (h:bT v) (hn:na v<=1000000):(jQ v.L).length<=420000000:=by
 have h4:=((dI v).1 h).2.2.2.2
 rw[fb] at hn
 have:=tq v.L ((nd _).2 h4) j6; omega
theorem nu {v:ak} (hn:na v<=1000000):v.S.size<=200000000:=by rw[fb] at hn; omega
theorem Fl (self:ak->Option (List UInt8)) (n:Nat) (z:List UInt8) (v:ak) (hv:bT v) (hn:na v<=1000000) (hself:∀ e∈v.L,self e=some (iY e)) :
  ∀ (k m i:Nat) (l:List UInt8),i+k=v.L.length->k<m->l.length+(jQ (v.L.drop i)).length<=140737488355328->kA self n v m (i:Int) l=some (l++jQ (v.L.drop i))
 | 0,m,i,l,h1,h2,h3=>by
  obtain ⟨m,rfl⟩:∃ q,m=q+1:=⟨m - 1,j6⟩
  rw[kA,X0 j6,Y3.2 j6,me,YG]
  rfl
 | k+1,m,i,l,h1,h2,h3=>by
  obtain ⟨m,rfl⟩:∃ q,m=q+1:=⟨m - 1,j6⟩
  have hi:i<v.L.length:=j6
  have hl:=eU v.L
  have hn':=hn
  rw[fb] at hn'
  rw[YF hi,fk,Ye] at h3
  rw[kA,XW j6,YF hi,fk]
  simp only[XY,bu,X3 hi,XV,hself _ (Y8 hi)]
  rw[mP _ _ j6,XV,eC j6 j6,show (i:Int)+1=((i+1:Nat):Int) by omega]
  rw[Fl self n z v hv hn hself k m (i+1) _ j6 j6 XH,YD]
theorem va (n:Nat) (h:n<18446744073709551616):wr .u64 (n:Int)=(n:Int):=by rw[Bn]; omega
theorem Uq:∀ (q:Nat) (v:ak),bT v->na v<=q->na v<=1000000->Jf q v=some (iY v)
 | 0,v,_,h,_=>by have:=oV v; omega
 | q+1,v,hv,h,hn=>by
  obtain ⟨_,h2,_,_,h4⟩:=(dI v).1 hv
  have hs:=nu hn
  have he:=AF hv hn
  have hl:=eU v.L
  have hn':=hn
  rw[fb] at hn' h
  have l1:=lP (n:=uL v.N) (oJ h2)
  have l2:=lP (n:=v.S.size) j6
  have l3:=lP (n:=v.L.length) j6
  show Lz (Jf q) aA v=_
  unfold Lz
  rw[dR]
  cases hk1:v.Kind==1 with
  | true=>
   simp only[XY,Xd _ h2,XV,Rc _ (oJ h2)]
   rw[mP _ _ r8]; rfl
  | false=>
   cases hk2:v.Kind==2 with
   | true=>
    simp only[XY,XX]
    rw[va _ j6,Rc _ j6,XV,mP _ _ r8,XV,mP _ _ XP]
    simp
   | false=>
    simp only[XX]
    rw[va _ j6,Rc _ j6,XV,mP _ _ r8,XV]
    have:=Fl (Jf q) aA [] v hv hn (fun e he=>by
     have:=iG he
     exact Uq q e (h4 e he) j6 j6) v.L.length (aA+8) 0 ([(3:UInt8)]++num v.L.length) j6 An XT
    rw[show ((0:Nat):Int)=0 from rfl,Zi] at this
    rw[this]
    simp
theorem Tj (v:ak) (hv:bT v) (hn:na v<=1000000):LV v=some (iY v):=Uq aA v hv An hn
theorem mh:∀ {l:List ak},kU l=true->∀ e∈l,sf e=true
 | x :: r,h,e,he=>by
  rw[mg,XZ] at h
  rcases YJ.1 he with rfl | he
  ·exact h.1
  ·exact mh h.2 e he
theorem n0 {v:ak} (h:sf v=true):v.Kind=1∨v.Kind=2∨(v.Kind=3/\kU v.L=true):=by
 rw[m6] at h
 cases h1:v.Kind==1 with
 | true=>exact .inl (by simpa using h1)
 | false=>
  cases h2:v.Kind==2 with
  | true=>exact .inr (.inl (by simpa using h2))
  | false=>
   cases h3:v.Kind==3 with
   | true=>
    rw[h1,h2,h3] at h
    simp only[XY,XX,XZ] at h
    exact .inr (.inr ⟨by simpa using h3,h.1⟩)
   | false=>rw[h1,h2,h3] at h; cases h
theorem yO {y:Nat} (h:y<128) {β:Type} (k:List UInt8->Option β) (l:List UInt8) (hl:l.length<=1000000000000) :
  (bif (decide (0<=(wr .u8 (y:Int)))&&decide ((wr .u8 (y:Int))<256)) then Option.bind (cU 1 l ([(UInt8.ofNat (Int.toNat (wr .u8 (y:Int))))])) k else none)=k (l++[UInt8.ofNat y]):=by
 rw[S5 h,XW j6,XW j6,mP _ _ r8,qa0]
 rfl
theorem Ip {n:Nat} (h:n<18446744073709551616):n<128 ^ 10:=Yh h (by decide)
theorem Ft (self:ak->ak->(List UInt8)->ak->Option (List UInt8)) (n:Nat) (hn:50<=n) (z:List UInt8) (b0 b3 x:ak) (L:List ak) (hL:kN L<=1000000) (hf:kU L=true) (hok:∀ e∈L,bT e)
  (hself:∀ e∈L,e.Kind=3->∀ l:List UInt8,l.length+(iY e).length<=100000000000->self b0 b3 l e=some (l++iY e)) :
  ∀ (k m i:Nat) (l:List UInt8),i+k=L.length->k<m->l.length+(jQ (L.drop i)).length<=100000000000->eK self n z L (L.length:Int) b0 b3 x m (i:Int) l=some (l++jQ (L.drop i))
 | 0,m,i,l,h1,h2,h3=>by
  obtain ⟨m,rfl⟩:∃ q,m=q+1:=⟨m - 1,j6⟩
  rw[eK,X0 j6,Y3.2 j6,me,YG]
  rfl
 | k+1,m,i,l,h1,h2,h3=>by
  obtain ⟨m,rfl⟩:∃ q,m=q+1:=⟨m - 1,j6⟩
  have hi:i<L.length:=j6
  have hl:=eU L
  have hme:L[i]∈L:=Y8 hi
  have hne:=iG hme
  have hs:=nu (v:=L[i]) j6
  obtain ⟨_,hN,_,_,_⟩:=(dI L[i]).1 (hok _ hme)
  rw[YF hi,fk,Ye] at h3
  have ih:=Ft self n hn z b0 b3 x L hL hf hok hself k m (i+1) (l++iY L[i]) j6 j6 XH
  rw[eK,XW j6,YF hi,fk]
  simp only[XY,bu,X3 hi,XV]
  rw[eC j6 j6,show (i:Int)+1=((i+1:Nat):Int) by omega,<-YD]
  have h3':=h3
  rw[dR] at h3
  generalize hE:jQ (L.drop (i+1))=E at h3 h3' ih ⊢
  rcases n0 (mh hf _ hme) with hk | hk | ⟨hk,_⟩
  ·rw[hk] at h3 ⊢
   simp only[show ((1:Int)==1)=true from rfl,XY,X9] at h3
   simp only[show decide ((1:Int)=0)=false from rfl,show decide ((1:Int)=1)=true from rfl,XY,XX,Rb _ hN,XV]
   rw[mP _ _ r8,XV]
   obtain ⟨y,ini,e1,e2,e3⟩:=jU (fY n) (fun _ _ _=>rfl) 10 (n+6) (uL L[i].N) (l++[1]) (Ip (oJ hN)) j6 j6 r8
   have e4:(num (uL L[i].N)).length=ini.length+1:=H7
   try simp only at e2
   rw[e2,XV]
   try simp only
   rw[yO e1 _ _ r8]
   rw[dR,hk] at ih
   simp only[show ((1:Int)==1)=true from rfl,XY,e3] at ih
   rw[dR,hk]
   simp only[show ((1:Int)==1)=true from rfl,XY,e3]
   rw[<-ih]
   congr 1
   simp
  ·rw[hk] at h3 ⊢
   simp only[show ((2:Int)==1)=false from rfl,show ((2:Int)==2)=true from rfl,XY,XX,X9,Ye,gi] at h3
   simp only[show decide ((2:Int)=0)=false from rfl,show decide ((2:Int)=1)=false from rfl,show decide ((2:Int)=2)=true from rfl,XY,XX]
   rw[mP _ _ r8,XV,va _ j6]
   obtain ⟨y,ini,e1,e2,e3⟩:=jU (fY n) (fun _ _ _=>rfl) 10 (n+6) L[i].S.size (l++[2]) (Ip j6) j6 j6 r8
   have e4:(num L[i].S.size).length=ini.length+1:=H7
   try simp only at e2
   rw[e2,XV]
   try simp only
   rw[yO e1 _ _ r8,mP _ _ XP,XV]
   rw[dR,hk] at ih
   simp only[show ((2:Int)==1)=false from rfl,show ((2:Int)==2)=true from rfl,XY,XX,e3] at ih
   rw[dR,hk]
   simp only[show ((2:Int)==1)=false from rfl,show ((2:Int)==2)=true from rfl,XY,XX,e3]
   rw[<-ih]
   congr 1
   simp
  ·rw[hk]
   simp only[show decide ((3:Int)=0)=false from rfl,show decide ((3:Int)=1)=false from rfl,show decide ((3:Int)=2)=false from rfl,show decide ((3:Int)=3)=true from rfl,XY,XX]
   rw[hself _ hme hk l j6,XV]
   exact ih
theorem Om:∀ (q N:Nat) (b0 b3:ak) (l:List UInt8) (v:ak),v.Kind=3->sf v=true->bT v->na v<=q->na v<=1000000->q+2000000<=N->l.length+(iY v).length<=100000000000->wz N b0 b3 l v=some (l++iY v)
 | 0,N,b0,b3,l,v,_,_,_,h,_,_,_=>by have:=oV v; omega
 | q+1,N,b0,b3,l,v,hk,hf,hv,h,hn,hN,hl=>by
  obtain ⟨N,rfl⟩:∃ p,N=p+1:=⟨N - 1,j6⟩
  obtain ⟨_,h2,_,_,h4⟩:=(dI v).1 hv
  have hll:=eU v.L
  have hn':=hn
  rw[fb] at hn' h
  have hfs:kU v.L=true:=by
   rcases n0 hf with h | h | h
   ·omega
   ·omega
   ·exact h.2
  show (bif Nat.ble 8 N then vd (wz N) (N - 8) b0 b3 l v else none)=_
  rw[Y0 (by omega:8<=N)]
  simp only[XY]
  unfold vd
  rw[dR,hk] at hl ⊢
  simp only[show ((3:Int)==1)=false from rfl,show ((3:Int)==2)=false from rfl,XX,X9,Ye] at hl ⊢
  rw[mP _ _ r8,XV,va _ j6]
  obtain ⟨y,ini,e1,e2,e3⟩:=jU (j0 (N - 8)) (fun _ _ _=>rfl) 10 (N - 8+7) v.L.length (l++[3]) (Ip j6) j6 j6 r8
  have e4:(num v.L.length).length=ini.length+1:=H7
  try simp only at e2
  rw[e2,XV]
  try simp only
  rw[yO e1 _ _ r8]
  have:=Ft (wz N) (N - 8) j6 [] b0 b3 v v.L j6 hfs h4 (fun e he hke l' hl'=>by
   have:=iG he
   exact Om q N b0 b3 l' e hke (mh hfs e he) (h4 e he) j6 j6 j6 hl') v.L.length (N - 8+8) 0 (l++[3]++ini++[UInt8.ofNat y]) j6 j6 XT
  rw[show ((0:Nat):Int)=0 from rfl,Zi] at this
  rw[this,e3]
  simp
theorem Fk (n:Nat) (hn:50<=n) (z:List UInt8) (b0 b3:ak) (L:List ak) (hL:kN L<=1000000) (hf:kU L=true) (hok:∀ e∈L,bT e)
  (hself:∀ e∈L,e.Kind=3->∀ l:List UInt8,l.length+(iY e).length<=100000000000->wz (n+7) b0 b3 l e=some (l++iY e)) :
  ∀ (k m i:Nat) (l:List UInt8),i+k=L.length->k<m->l.length+(jQ (L.drop i)).length<=100000000000->gz n z L (L.length:Int) b0 b3 m (i:Int) l=some (l++jQ (L.drop i))
 | 0,m,i,l,h1,h2,h3=>by
  obtain ⟨m,rfl⟩:∃ q,m=q+1:=⟨m - 1,j6⟩
  rw[gz,X0 j6,Y3.2 j6,me,YG]
  rfl
 | k+1,m,i,l,h1,h2,h3=>by
  obtain ⟨m,rfl⟩:∃ q,m=q+1:=⟨m - 1,j6⟩
  have hi:i<L.length:=j6
  have hl:=eU L
  have hme:L[i]∈L:=Y8 hi
  have hne:=iG hme
  have hs:=nu (v:=L[i]) j6
  obtain ⟨_,hN,_,_,_⟩:=(dI L[i]).1 (hok _ hme)
  rw[YF hi,fk,Ye] at h3
  have ih:=Fk n hn z b0 b3 L hL hf hok hself k m (i+1) (l++iY L[i]) j6 j6 XH
  rw[gz,XW j6,YF hi,fk]
  simp only[XY,bu,X3 hi,XV]
  rw[eC j6 j6,show (i:Int)+1=((i+1:Nat):Int) by omega,<-YD]
  have h3':=h3
  rw[dR] at h3
  generalize hE:jQ (L.drop (i+1))=E at h3 h3' ih ⊢
  rcases n0 (mh hf _ hme) with hk | hk | ⟨hk,_⟩
  ·rw[hk] at h3 ⊢
   simp only[show ((1:Int)==1)=true from rfl,XY,X9] at h3
   simp only[show decide ((1:Int)=0)=false from rfl,show decide ((1:Int)=1)=true from rfl,XY,XX,Rb _ hN,XV]
   rw[mP _ _ r8,XV]
   obtain ⟨y,ini,e1,e2,e3⟩:=jU (iT n) (fun _ _ _=>rfl) 10 (n+5) (uL L[i].N) (l++[1]) (Ip (oJ hN)) j6 j6 r8
   have e4:(num (uL L[i].N)).length=ini.length+1:=H7
   try simp only at e2
   rw[e2,XV]
   try simp only
   rw[yO e1 _ _ r8]
   rw[dR,hk] at ih
   simp only[show ((1:Int)==1)=true from rfl,XY,e3] at ih
   rw[dR,hk]
   simp only[show ((1:Int)==1)=true from rfl,XY,e3]
   rw[<-ih]
   congr 1
   simp
  ·rw[hk] at h3 ⊢
   simp only[show ((2:Int)==1)=false from rfl,show ((2:Int)==2)=true from rfl,XY,XX,X9,Ye,gi] at h3
   simp only[show decide ((2:Int)=0)=false from rfl,show decide ((2:Int)=1)=false from rfl,show decide ((2:Int)=2)=true from rfl,XY,XX]
   rw[mP _ _ r8,XV,va _ j6]
   obtain ⟨y,ini,e1,e2,e3⟩:=jU (iT n) (fun _ _ _=>rfl) 10 (n+5) L[i].S.size (l++[2]) (Ip j6) j6 j6 r8
   have e4:(num L[i].S.size).length=ini.length+1:=H7
   try simp only at e2
   rw[e2,XV]
   try simp only
   rw[yO e1 _ _ r8,mP _ _ XP,XV]
   rw[dR,hk] at ih
   simp only[show ((2:Int)==1)=false from rfl,show ((2:Int)==2)=true from rfl,XY,XX,e3] at ih
   rw[dR,hk]
   simp only[show ((2:Int)==1)=false from rfl,show ((2:Int)==2)=true from rfl,XY,XX,e3]
   rw[<-ih]
   congr 1
   simp
  ·rw[hk]
   simp only[show decide ((3:Int)=0)=false from rfl,show decide ((3:Int)=1)=false from rfl,show decide ((3:Int)=2)=false from rfl,show decide ((3:Int)=3)=true from rfl,XY,XX]
   rw[hself _ hme hk l j6,XV]
   exact ih
theorem BK {v:ak} (h:iX v=0):sf v=true:=by
 unfold iX at h
 cases hf:sf v with
 | true=>rfl
 | false=>rw[hf] at h; cases h
def CY (v:ak):List UInt8×Int:=bif iX v==0 then (iY v,0) else ([],iX v)
theorem W7 (v:ak) (hv:bT v) (hn:na v<=1000000):Ll v=some (CY v):=by
 unfold Ll O4
 rw[W9 v hn,XV]
 unfold CY
 cases hc:iX v==0 with
 | false=>rw[show (iX v != 0)=true by rw[bne,hc]; rfl]; rfl
 | true=>
  rw[show (iX v != 0)=false by rw[bne,hc]; rfl]
  have hf:=BK (by simpa using hc)
  obtain ⟨_,h2,_,_,h4⟩:=(dI v).1 hv
  have hs:=nu hn
  have he:=CZ hv hn
  have hll:=eU v.L
  have hn':=hn
  rw[fb] at hn'
  simp only[XX,XY]
  rw[dR] at he ⊢
  rcases n0 hf with hk | hk | ⟨hk,hfs⟩
  ·rw[hk] at he ⊢
   simp only[show decide ((1:Int)=0)=false from rfl,show decide ((1:Int)=1)=true from rfl,show ((1:Int)==1)=true from rfl,XY,XX,Rb _ h2,XV] at he ⊢
   rw[mP _ _ r7,XV]
   obtain ⟨y,ini,e1,e2,e3⟩:=jU (iv aA) (fun _ _ _=>rfl) 10 (aA+6) (uL v.N) ([]++[1]) (Ip (oJ h2)) j6 An r7
   have e4:(num (uL v.N)).length=ini.length+1:=H7
   have l1:=lP (oJ h2)
   try simp only at e2
   rw[e2,XV]
   try simp only
   rw[yO e1 _ _ r8,e3]
   simp
  ·rw[hk] at he ⊢
   simp only[show decide ((2:Int)=0)=false from rfl,show decide ((2:Int)=1)=false from rfl,show decide ((2:Int)=2)=true from rfl,show ((2:Int)==1)=false from rfl,show ((2:Int)==2)=true from rfl,XY,XX,X9,Ye,gi] at he ⊢
   rw[mP _ _ r7,XV,va _ j6]
   obtain ⟨y,ini,e1,e2,e3⟩:=jU (iv aA) (fun _ _ _=>rfl) 10 (aA+6) v.S.size ([]++[2]) (Ip j6) j6 An r7
   have e4:(num v.S.size).length=ini.length+1:=H7
   have l1:=lP (n:=v.S.size) j6
   try simp only at e2
   rw[e2,XV]
   try simp only
   rw[yO e1 _ _ r8,mP _ _ XP,XV,e3]
   simp
  ·rw[hk] at he ⊢
   simp only[show decide ((3:Int)=0)=false from rfl,show decide ((3:Int)=1)=false from rfl,show decide ((3:Int)=2)=false from rfl,show decide ((3:Int)=3)=true from rfl,show ((3:Int)==1)=false from rfl,show ((3:Int)==2)=false from rfl,XY,XX,X9,Ye] at he ⊢
   rw[mP _ _ r7,XV,va _ j6]
   obtain ⟨y,ini,e1,e2,e3⟩:=jU (iv aA) (fun _ _ _=>rfl) 10 (aA+6) v.L.length ([]++[3]) (Ip j6) j6 An r7
   have e4:(num v.L.length).length=ini.length+1:=H7
   have l1:=lP (n:=v.L.length) j6
   try simp only at e2
   rw[e2,XV]
   try simp only
   rw[yO e1 _ _ r8]
   have:=Fk aA An [] v v v.L j6 hfs h4 (fun e he' hke l' hl'=>by
    have:=iG he'
    exact Om 1000000 (aA+7) v v l' e hke (mh hfs e he') (h4 e he') j6 j6 An hl') v.L.length (aA+7) 0 ([]++[3]++ini++[UInt8.ofNat y]) j6 An XT
   rw[show ((0:Nat):Int)=0 from rfl,Zi] at this
   rw[this,e3]
   simp
theorem W8 (v:ak) (hv:bT v) (hn:na v<=1000000):J4 v=some (CY v):=by
 unfold J4 Pe
 rw[Ti v hn,XV]
 unfold CY
 cases hc:iX v==0 with
 | false=>rw[show (iX v != 0)=true by rw[bne,hc]; rfl]; rfl
 | true=>
  rw[show (iX v != 0)=false by rw[bne,hc]; rfl]
  simp only[XX,XY,Tj v hv hn,XV]
def iq:Nat->List UInt8->Option (Nat×List UInt8)
 | _,[]=>none
 | c,b :: r=>if (0<c/\b.toNat=0)∨(9<=c/\1<b.toNat) then none else if b.toNat<128 then some (b.toNat,r) else match iq (c+1) r with
  | some (n,t)=>some (b.toNat - 128+128*n,t)
  | none=>none
theorem pw (c:Nat):2 ^ (7*(c+1))=128*2 ^ (7*c):=by rw[qar,qbJ]; omega
theorem S4 {n:Nat} (h:n<256):(UInt8.ofNat n).toNat=n:=r8
theorem zd:∀ (k n c:Nat) (t:List UInt8),n<128 ^ k->c<=9->2 ^ (7*c)*n<18446744073709551616->(0<c->n≠0)->iq c (num n++t)=some (n,t)
 | 0,n,c,t,h1,h2,h3,h4=>by
  have h1:n<1:=h1
  have h5:c=0:=by
   rcases qab c with h | h
   ·exact h
   ·have:=h4 h; omega
  subst h5
  rw[nc j6,Ze,iq,S4 j6,X8 j6,X4 j6]
 | k+1,n,c,t,h1,h2,h3,h4=>by
  have h9:c=9->n<=1:=by
   intro h
   subst h
   have:2 ^ (7*9)=9223372036854775808:=by decide
   omega
  by_cases hn:n<128
  ·rw[nc hn,Ze,iq,S4 j6,X8 (by
    rintro (⟨h5,h6⟩ | ⟨h5,h6⟩)
    ·exact h4 h5 h6
    ·have:=h9 j6; omega),X4 hn]
  ·have h5:c≠9:=fun h=>by have:=h9 h; omega
   have h6:n / 128<128 ^ k:=by rw[Z1 (by decide)]; rw[qbc] at h1; exact h1
   have h7:2 ^ (7*(c+1))*(n / 128)<=2 ^ (7*c)*n:=by
    rw[pw,Y9 128,qaB]
    exact ZB _ j6
   rw[ug hn,Yw,iq,S4 j6,X8 j6,X8 j6,zd k (n / 128) (c+1) t h6 j6 j6 j6]
   simp only
   congr 2
   omega
theorem tK {n:Nat} {t:List UInt8} (h:n<18446744073709551616):iq 0 (num n++t)=some (n,t):=zd 10 n 0 t (Ip h) j6 j6 j6
theorem zb:∀ (l:List UInt8) (c n:Nat) (r:List UInt8),iq c l=some (n,r)->c<=9->l=num n++r/\(0<c->n≠0)/\2 ^ (7*c)*n<18446744073709551616
 | [],c,n,r,h,_=>by rw[iq] at h; cases h
 | b :: l,c,n,r,h,hc=>by
  have hb:=b.toNat_lt
  rw[iq] at h
  split at h
  ·cases h
  rename_i h1
  split at h
  ·rename_i h2
   cases h
   refine⟨?_,fun h3 h4=>h1 (.inl ⟨h3,h4⟩),?_⟩
   ·rw[nc h2,qa1]; rfl
   ·have:2 ^ (7*9)=9223372036854775808:=by decide
    by_cases h9:c=9
    ·subst h9; omega
    ·have h8:2 ^ (7*c)<=2 ^ 56:=qaO (by decide) j6
     have h7:2 ^ (7*c)*b.toNat<=2 ^ 56*127:=qaU h8 j6
     omega
  ·rename_i h2
   split at h
   ·rename_i m t h3
    cases h
    have h9:c≠9:=fun h=>h1 (.inr ⟨j6,j6⟩)
    obtain ⟨h4,h5,h6⟩:=zb l (c+1) m _ h3 j6
    have h5:=h5 j6
    refine⟨?_,fun _=>j6,?_⟩
    ·rw[ug j6,show (b.toNat - 128+128*m) % 128+128=b.toNat by omega,show (b.toNat - 128+128*m) / 128=m by omega,qa1,h4]
     rfl
    ·rw[pw] at h6
     have h8:2 ^ (7*c)*(b.toNat - 128)+2 ^ (7*c)*(128*m)<18446744073709551616:=by
      have e:2 ^ (7*c)*(128*m)=128*2 ^ (7*c)*m:=by rw[Y9 128 (2 ^ (7*c)),qaB]
      rw[e]
      have hlt:b.toNat - 128<128:=j6
      have h10:2 ^ (7*c)*(b.toNat - 128)<2 ^ (7*c)*128:=Nat.mul_lt_mul_of_pos_left hlt (Nat.two_pow_pos _)
      have h11:2 ^ (7*c)*128*m<18446744073709551616:=by rw[Y9 (2 ^ (7*c))]; exact h6
      have hd:18446744073709551616=2 ^ (7*c)*128*2 ^ (64 - (7*c+7)):=by
       rw[qaB,show 128*2 ^ (64 - (7*c+7))=2 ^ (64 - 7*c) by
        rw[show 128=2 ^ 7 from rfl,<-qbJ]; congr 1; omega,<-qbJ,show 7*c+(64 - 7*c)=64 by omega]
      rw[hd] at h11
      have h12:m<2 ^ (64 - (7*c+7)):=Nat.lt_of_mul_lt_mul_left h11
      have h13:2 ^ (7*c)*128*(m+1)<=2 ^ (7*c)*128*2 ^ (64 - (7*c+7)):=ZB _ h12
      rw[<-hd,qar,Nat.mul_one] at h13
      rw[Y9 128 (2 ^ (7*c))]
      omega
     rw[qar]; exact h8
   ·cases h
theorem iD {l:List UInt8} {n:Nat} {r:List UInt8} (h:iq 0 l=some (n,r)):l=num n++r/\n<18446744073709551616/\r.length<l.length:=by
 obtain ⟨h1,_,h2⟩:=zb l 0 n r h j6
 refine⟨h1,j6,?_⟩
 have:num n≠[]:=by
  rw[num]; split<;>simp
 have:=qaQ.2 this
 rw[h1,Ye]; omega
theorem Kd:∀ c:Fin 256,qg .u8 (c.val:Int) 127=((c.val % 128:Nat):Int):=by decide +kernel
theorem Uu {b c:Nat} (hc:c<=9) (h:c=9->b<=1) (hb:b<128):p5 .u64 (wr .u64 (b:Int)) (wr .i64 (7*(c:Int)))=((2 ^ (7*c)*b:Nat):Int):=by
 rw[eC j6 j6,va _ j6]
 unfold p5
 rw[show (7*(c:Int)).toNat=7*c by omega,show min (7*c) (IntKind.bits .u64)=7*c from Zn (by show 7*c<=64; omega)]
 have e:((b:Int)*2 ^ (7*c))=((2 ^ (7*c)*b:Nat):Int):=by rw[qad,Int.natCast_pow,qbD]; rfl
 rw[e]
 have:=va (2 ^ (7*c)*b) (by
  have h9:2 ^ (7*9)=9223372036854775808:=by decide
  by_cases h1:c=9
  ·have:=h h1; subst h1; rcases (show b=0∨b=1 by omega) with rfl | rfl<;>omega
  ·have h8:2 ^ (7*c)<=2 ^ 56:=qaO (by decide) j6
   have:=qaU h8 (show b<=127 by omega)
   omega)
 exact this
theorem Na {a b c:Nat} (hc:c<=9) (h:c=9->b<=1) (hb:b<128) (ha:a<2 ^ (7*c)):a+2 ^ (7*c)*b<18446744073709551616:=by
 have h9:2 ^ (7*9)=9223372036854775808:=by decide
 by_cases h1:c=9
 ·have:=h h1; subst h1; rcases (show b=0∨b=1 by omega) with rfl | rfl<;>omega
 ·have h8:2 ^ (7*c)<=2 ^ 56:=qaO (by decide) j6
  have:=qaU h8 (show b<=127 by omega)
  omega
theorem Xp {a b c:Nat} (hc:c<=9) (h:c=9->b<=1) (hb:b<128) (ha:a<2 ^ (7*c)):nG .u64 (a:Int) ((2 ^ (7*c)*b:Nat):Int)=((a+2 ^ (7*c)*b:Nat):Int):=by
 have h1:=Na hc h hb ha
 unfold nG
 show IntKind.wrap .u64 ((BitVec.ofInt 64 (a:Int) ||| BitVec.ofInt 64 ((2 ^ (7*c)*b:Nat):Int)).toNat:Int)=_
 rw[BitVec.toNat_or,ZE,ZE]
 have e1:((a:Int) % ((2 ^ 64:Nat):Int)).toNat=a:=j6
 have e2:(((2 ^ (7*c)*b:Nat):Int) % ((2 ^ 64:Nat):Int)).toNat=2 ^ (7*c)*b:=j6
 rw[e1,e2,Nat.or_comm,<-Nat.two_pow_add_eq_or_of_lt ha,qa6]
 exact va _ h1
theorem xI (G:Nat->Int->Int->List UInt8->Option ((List UInt8)⊕(Int×List UInt8))) (hG:∀ m v6 v7 v8,G (m+1) v6 v7 v8=bif (!(decide (1<=((v8.length:Int))))) then (some ((Sum.inl v8))) else (Option.bind (eJ v8 0 1) fun y13=>Option.bind (eJ v8 1 ((v8.length:Int))) fun y14=>Option.bind (bt y13 0) fun y15=>Option.bind (bif (v7==0) then (some true) else (some (((y15.toNat:Int)) != 0))) fun y17=>Option.bind (bif y17 then (Option.bind (bif (decide (v7<9)) then (some true) else (some (decide (((y15.toNat:Int))<=1)))) fun y22=>some y22) else (some false)) fun y25=>bif (!y25) then (some ((Sum.inl y14))) else (bif decide (0<=(wr .i64 (7*v7))) then (bif (decide (((y15.toNat:Int))<128)) then (some ((Sum.inr ((nG .u64 v6 (p5 .u64 (wr .u64 (qg .u8 ((y15.toNat:Int)) 127)) (wr .i64 (7*v7))),y14))))) else (G m (nG .u64 v6 (p5 .u64 (wr .u64 (qg .u8 ((y15.toNat:Int)) 127)) (wr .i64 (7*v7)))) (wr .i64 (v7+1)) y14)) else none))) :
  ∀ (l:List UInt8) (m a c:Nat),c<=9->10<=m+c->a<2 ^ (7*c)->match iq c l with
   | some (n,r)=>G m (a:Int) (c:Int) l=some (.inr (((a+2 ^ (7*c)*n:Nat):Int),r))
   | none=>∃ r,G m (a:Int) (c:Int) l=some (.inl r)
 | [],m,a,c,hc,hm,ha=>by
  obtain ⟨m,rfl⟩:∃ q,m=q+1:=⟨m - 1,j6⟩
  rw[iq,hG]
  exact⟨_,rfl⟩
 | b :: l,m,a,c,hc,hm,ha=>by
  obtain ⟨m,rfl⟩:∃ q,m=q+1:=⟨m - 1,j6⟩
  have hb:=b.toNat_lt
  have hs1:eJ (b :: l) 0 1=some [b]:=by
   unfold eJ
   rw[show decide ((1:Int)<=((b :: l).length:Int))=true from XW XQ]
   rfl
  have hs2:eJ (b :: l) 1 ((b :: l).length:Int)=some l:=by
   unfold eJ
   rw[show decide ((1:Int)<=((b :: l).length:Int))=true from XW XQ,XW (qbo _)]
   simp
  have hc1:(bif ((c:Int)==0) then (some true) else (some (((b.toNat:Int)) != 0)))=some (!decide (0<c/\b.toNat=0)):=by
   by_cases h:c=0
   ·subst h; simp
   ·rw[show ((c:Int)==0)=false by simp; omega]
    simp only[XX]
    congr 1
    rw[YI]
    simp
    omega
  have hc2:(bif (decide ((c:Int)<9)) then (some true) else (some (decide (((b.toNat:Int))<=1))))=some (!decide (9<=c/\1<b.toNat)):=by
   by_cases h:c<9
   ·rw[XW j6]
    simp only[XY]
    congr 1
    rw[YI]
    simp
    omega
   ·rw[X0 j6]
    simp only[XX]
    congr 1
    rw[YI]
    simp
    omega
  have e127:qg .u8 ((b.toNat:Int)) 127=((b.toNat % 128:Nat):Int):=Kd ⟨b.toNat,hb⟩
  rw[iq,hG,hs1,hs2,XW (show (1:Int)<=((b :: l).length:Int) by rw[X9]; omega)]
  simp only[Yc,XX,XV,show bt [b] 0=some b from rfl,hc1,hc2]
  by_cases h:(0<c/\b.toNat=0)∨(9<=c/\1<b.toNat)
  ·rw[X4 h]
   refine⟨l,?_⟩
   by_cases h5:0<c/\b.toNat=0
   ·rw[XW h5]; rfl
   ·rw[X0 h5,XW (show 9<=c/\1<b.toNat by omega)]; rfl
  ·rw[X8 h,X0 (show ¬ (0<c/\b.toNat=0) by omega),X0 (show ¬ (9<=c/\1<b.toNat) by omega)]
   have hb9:c=9->b.toNat % 128<=1:=fun h9=>j6
   rw[e127,Uu hc hb9 j6,Xp hc hb9 j6 ha,XW (show 0<=wr .i64 (7*(c:Int)) by rw[eC j6 j6]; omega)]
   simp only[Zz,XY,XV,Yc,XX]
   by_cases h8:b.toNat<128
   ·rw[X4 h8,XW j6,qam h8]
    rfl
   ·rw[X8 h8,X0 j6,eC (n:=(c:Int)+1) j6 j6]
    have hlt:a+2 ^ (7*c)*(b.toNat % 128)<2 ^ (7*(c+1)):=by
     rw[pw]
     have:=ZB (2 ^ (7*c)) (show b.toNat % 128<=127 by omega)
     omega
    have ih:=xI G hG l m (a+2 ^ (7*c)*(b.toNat % 128)) (c+1) j6 j6 hlt
    rw[show ((c+1:Nat):Int)=(c:Int)+1 by omega] at ih
    simp only[XX]
    cases hg:iq (c+1) l with
    | none=>rw[hg] at ih; exact ih
    | some p=>
     obtain ⟨n,r⟩:=p
     rw[hg] at ih
     simp only at ih ⊢
     rw[ih,pw]
     congr 4
     rw[qar,show b.toNat % 128=b.toNat - 128 by omega,ZN,Y9 128 (2 ^ (7*c)),qaB]
theorem Cy (bs:List UInt8) (hbs:bs.length<=1000000) (G:Nat->Int->Int->Int->Bool->Option ((Int×Int×Bool)⊕(Int×Bool))) (hG:∀ m v5 v6 v8,G (m+1) v5 v6 v8 false=(Option.bind (bif (decide (((bs.length:Int))<=v8)) then (some ((0,v8,true))) else (Option.bind (bt bs (wr .i64 ((wr .i64 (v8+1)) - 1))) fun y=>some (((y.toNat:Int),wr .i64 (v8+1),false)))) fun (y348:Int×Int×Bool)=>Option.bind (bif (v6==9) then (some (decide (1<y348.1))) else (some false)) fun y350=>Option.bind (bif y350 then (some true) else (Option.bind (bif (decide (0<v6)) then (some (y348.1==0)) else (some false)) fun y355=>some y355)) fun y358=>bif y358 then (some ((Sum.inl ((0,y348.2.1,true))))) else (bif decide (0<=(wr .i64 (7*v6))) then (bif (decide (y348.1<128)) then (some ((Sum.inl ((wr .u64 (v5+(p5 .u64 (wr .u64 (Int.tmod y348.1 128)) (wr .i64 (7*v6)))),y348.2.1,y348.2.2))))) else (G m (wr .u64 (v5+(p5 .u64 (wr .u64 (Int.tmod y348.1 128)) (wr .i64 (7*v6))))) (wr .i64 (v6+1)) y348.2.1 y348.2.2)) else none))) :
  ∀ (k i m a c:Nat),i+k=bs.length->c<=9->10<=m+c->a<2 ^ (7*c)->match iq c (bs.drop i) with
   | some (n,r)=>∃ j:Nat,G m (a:Int) (c:Int) (i:Int) false=some (.inl (((a+2 ^ (7*c)*n:Nat):Int),(j:Int),false))/\r=bs.drop j/\j<=bs.length
   | none=>∃ (x:Int) (j:Nat),G m (a:Int) (c:Int) (i:Int) false=some (.inl (x,(j:Int),true))/\j<=bs.length
 | 0,i,m,a,c,hi,hc,hm,ha=>by
  obtain ⟨m,rfl⟩:∃ q,m=q+1:=⟨m - 1,j6⟩
  rw[Y3.2 j6,iq,hG,XW j6]
  simp only[XY,XV]
  rw[show (bif ((c:Int)==9) then (some (decide ((1:Int)<0))) else (some false))=some false by cases (c:Int)==9<;>rfl,XW (show 0<=wr .i64 (7*(c:Int)) by rw[eC j6 j6]; omega)]
  by_cases h:(0:Int)<c
  ·rw[XW h]; exact⟨_,i,rfl,j6⟩
  ·rw[X0 h]; exact⟨_,i,rfl,j6⟩
 | k+1,i,m,a,c,hi,hc,hm,ha=>by
  obtain ⟨m,rfl⟩:∃ q,m=q+1:=⟨m - 1,j6⟩
  have hil:i<bs.length:=j6
  rw[YF hil]
  generalize hb':bs[i]=b
  have hb:=b.toNat_lt
  have hc1:(bif ((c:Int)==9) then (some (decide (1<((b.toNat:Int))))) else (some false))=some (decide (9<=c/\1<b.toNat)):=by
   by_cases h:c=9
   ·subst h; simp; omega
   ·rw[show ((c:Int)==9)=false by simp; omega]
    simp only[XX]
    congr 1
    rw[YI]
    simp
    omega
  have hc2:(bif (decide (0<(c:Int))) then (some (((b.toNat:Int))==0)) else (some false))=some (decide (0<c/\b.toNat=0)):=by
   by_cases h:0<c
   ·rw[XW j6]
    simp only[XY]
    congr 1
    rw[YI]
    simp
    omega
   ·rw[X0 j6]
    simp only[XX]
    congr 1
    rw[YI]
    simp
    omega
  have e127:Int.tmod ((b.toNat:Int)) 128=((b.toNat % 128:Nat):Int):=rfl
  rw[iq,hG,X0 j6,eC (n:=(i:Int)+1) j6 j6,show (i:Int)+1 - 1=(i:Int) by omega,eC (n:=(i:Int)) j6 j6,bu,X3 hil,hb']
  simp only[XX,XV,hc1,hc2]
  by_cases h:(0<c/\b.toNat=0)∨(9<=c/\1<b.toNat)
  ·rw[X4 h]
   refine⟨0,i+1,?_,j6⟩
   by_cases h5:9<=c/\1<b.toNat
   ·rw[XW h5]; rfl
   ·rw[X0 h5,XW (show 0<c/\b.toNat=0 by omega)]; rfl
  ·rw[X8 h,X0 (show ¬ (0<c/\b.toNat=0) by omega),X0 (show ¬ (9<=c/\1<b.toNat) by omega)]
   have hb9:c=9->b.toNat % 128<=1:=fun h9=>j6
   have h64:=Na hc hb9 (show b.toNat % 128<128 by omega) ha
   rw[e127,Uu hc hb9 j6,show (a:Int)+((2 ^ (7*c)*(b.toNat % 128):Nat):Int)=((a+2 ^ (7*c)*(b.toNat % 128):Nat):Int) from (Int.natCast_add _ _).symm,va _ h64,XW (show 0<=wr .i64 (7*(c:Int)) by rw[eC j6 j6]; omega)]
   simp only[Zz,XY,XV,Yc,XX]
   by_cases h8:b.toNat<128
   ·rw[X4 h8,XW j6,qam h8]
    exact⟨i+1,rfl,rfl,j6⟩
   ·rw[X8 h8,X0 j6,eC (n:=(c:Int)+1) j6 j6]
    have hlt:a+2 ^ (7*c)*(b.toNat % 128)<2 ^ (7*(c+1)):=by
     rw[pw]
     have:=ZB (2 ^ (7*c)) (show b.toNat % 128<=127 by omega)
     omega
    have ih:=Cy bs hbs G hG k (i+1) m (a+2 ^ (7*c)*(b.toNat % 128)) (c+1) j6 j6 j6 hlt
    rw[show ((c+1:Nat):Int)=(c:Int)+1 by omega,show ((i+1:Nat):Int)=(i:Int)+1 by omega] at ih
    simp only[XX]
    cases hg:iq (c+1) (bs.drop (i+1)) with
    | none=>rw[hg] at ih; exact ih
    | some p=>
     obtain ⟨n,r⟩:=p
     rw[hg] at ih
     simp only at ih ⊢
     obtain ⟨j,ih,h10,h11⟩:=ih
     refine⟨j,?_,h10,h11⟩
     rw[ih,pw]
     congr 4
     rw[qar,show b.toNat % 128=b.toNat - 128 by omega,ZN,Y9 128 (2 ^ (7*c)),qaB]
theorem CG (a b:ByteArray):lI a b=decide (a=b):=by
 rw[YI]
 unfold lI
 rw[qbB,qbB]
 cases a; cases b
 simp
theorem Iw (a b:List UInt8):lI (ij a) (ij b)=decide (a=b):=by
 rw[CG,YI]
 simp[ij]
theorem Kg (s:ByteArray):ij (jw s)=s:=by cases s; simp[ij,jw]
theorem BI (l:List UInt8):jw (ij l)=l:=by simp[ij,jw]
theorem CT (l:List UInt8):(ij l).size=l.length:=by rw[<-gi,BI]
theorem rh {s:ByteArray}:emp s=true↔s=ByteArray.empty:=by
 unfold emp
 rw[CG,decide_eq_true_iff]
 rfl
def sg (u:Nat):Int:=if u % 2=1 then -((u / 2:Nat):Int) - 1 else ((u / 2:Nat):Int)
theorem K9 (n:Int):sg (uL n)=n:=by unfold sg uL; split<;>split<;>omega
theorem Gq (u:Nat):uL (sg u)=u:=by unfold sg; split<;>(unfold uL; split<;>omega)
theorem Oj {u:Nat} (h:u<18446744073709551616):gA (sg u):=by unfold sg gA; split<;>omega
theorem Oo (z:Int):wr .i64 z=if 9223372036854775808<=z % 18446744073709551616 then z % 18446744073709551616 - 18446744073709551616 else z % 18446744073709551616:=by
 simp only[wr,IntKind.wrap,IntKind.bits,IntKind.signed]
 simp
theorem QV (z:Int) (h:-9223372036854775808<=z) (h':z<=9223372036854775807):wr .i64 ((BitVec.ofInt 64 z).toNat:Int)=z:=by
 rw[Oo,ZE]
 split<;>omega
theorem Br (a:Int) (h:0<=a) (h':a<=9223372036854775807):sw .i64 a 0=a:=by
 unfold sw
 show wr .i64 ((BitVec.ofInt 64 a ^^^ BitVec.ofInt 64 0).toNat:Int)=a
 rw[show BitVec.ofInt 64 0=0#64 from rfl,BitVec.xor_zero]
 exact QV a j6 h'
theorem Bq (a:Int) (h:0<=a) (h':a<=9223372036854775807):sw .i64 a (-1)=-a - 1:=by
 unfold sw
 show wr .i64 ((BitVec.ofInt 64 a ^^^ BitVec.ofInt 64 (-1)).toNat:Int)=_
 rw[show BitVec.ofInt 64 (-1)=BitVec.allOnes 64 from rfl,BitVec.xor_allOnes,BitVec.toNat_not,Oo,ZE]
 split<;>omega
theorem QT (u:Nat) (h:u<18446744073709551616):qg .u64 (u:Int) 1=((u % 2:Nat):Int):=by
 unfold qg
 show wr .u64 ((BitVec.ofInt 64 (u:Int) &&& BitVec.ofInt 64 1).toNat:Int)=_
 rw[BitVec.toNat_and,ZE,show (BitVec.ofInt 64 1).toNat=1 from rfl,Nat.and_one_is_mod,show ((u:Int) % ((2 ^ 64:Nat):Int)).toNat=u by omega,va _ j6]
theorem Xe (u:Nat) (h:u<18446744073709551616):LX (u:Int)=some (sg u):=by
 unfold LX Pk
 have e1:oz .u64 (u:Int) 1=((u / 2:Nat):Int):=by
  unfold oz
  show Int.fdiv (u:Int) (2 ^ 1)=_
  rw[qaq _ (by decide)]
  rfl
 rw[e1,QT u h,eC (n:=((u / 2:Nat):Int)) j6 j6,eC (n:=((u % 2:Nat):Int)) j6 j6,eC j6 j6]
 congr 1
 unfold sg
 by_cases h2:u % 2=1
 ·rw[X4 h2,h2,show (0:Int) - ((1:Nat):Int)=-1 from rfl,Bq _ j6 j6]
 ·rw[X8 h2,show u % 2=0 by omega,show (0:Int) - ((0:Nat):Int)=0 from rfl,Br _ j6 j6]
def gH (f:List UInt8->Option (ak×List UInt8)):Nat->List UInt8->Option (List ak×List UInt8)
 | 0,l=>some ([],l)
 | n+1,l=>match f l with
  | none=>none
  | some (v,r)=>match gH f n r with
   | none=>none
   | some (vs,t)=>some (v :: vs,t)
def rn (b:UInt8) (l:List UInt8) (h:Nat->List UInt8->Option (List ak×List UInt8)):Option (ak×List UInt8):=
 if b.toNat=1 then (match iq 0 l with
  | none=>none
  | some (n,r)=>some (.mk 1 (sg n) ByteArray.empty [],r))
 else if b.toNat=2 then (match iq 0 l with
  | none=>none
  | some (n,r)=>if n<=r.length then some (.mk 2 0 (ij (r.take n)) [],r.drop n) else none)
 else if b.toNat=3 then (match iq 0 l with
  | none=>none
  | some (n,r)=>if n<=r.length then (match h n r with
   | none=>none
   | some (vs,t)=>some (.mk 3 0 ByteArray.empty vs,t)) else none)
 else none
def fV:Nat->List UInt8->Option (ak×List UInt8)
 | _,[]=>none
 | 0,b :: l=>rn b l fun _ _=>none
 | k+1,b :: l=>rn b l (gH (fV k))
def QJ (k:Nat) (l:List UInt8) (v:ak) (r:List UInt8):Prop:=l=iY v++r/\sf v=true/\dep v<=k/\bT v/\na v<=(iY v).length
theorem vE {f:List UInt8->Option (ak×List UInt8)} {k:Nat} (hf:∀ l v r,l.length<=1000000->f l=some (v,r)->QJ k l v r):∀ (n:Nat) (l:List UInt8) (vs:List ak) (r:List UInt8),l.length<=1000000->gH f n l=some (vs,r) ->
  l=jQ vs++r/\kU vs=true/\mY vs<=k/\(∀ e∈vs,bT e)/\kN vs<=(jQ vs).length/\vs.length=n
 | 0,l,vs,r,_,h=>by
  rw[gH] at h; cases h
  refine⟨?_,qA,by rw[nR]; omega,fun _ h=>absurd h (ZV),by rw[mA]; omega,rfl⟩
  rw[me]; rfl
 | n+1,l,vs,r,hl,h=>by
  rw[gH] at h
  split at h
  ·cases h
  rename_i v t hv
  split at h
  ·cases h
  rename_i ws u hw
  cases h
  obtain ⟨h1,h2,h3,h4,h5⟩:=hf l v t hl hv
  rw[h1,Ye] at hl
  obtain ⟨g1,g2,g3,g4,g5,g6⟩:=vE hf n t ws r j6 hw
  refine⟨?_,?_,?_,?_,?_,?_⟩
  ·rw[h1,g1,fk,YD]
  ·rw[mg,h2,g2]; rfl
  ·rw[jX]; omega
  ·intro e he
   rcases YJ.1 he with rfl | he
   ·exact h4
   ·exact g4 e he
  ·rw[jY,fk,Ye]; omega
  ·rw[X9,g6]
theorem S3 {b:UInt8} {n:Nat} (h:b.toNat=n):b=UInt8.ofNat n:=by rw[<-h,qa1]
theorem za {h:Nat->List UInt8->Option (List ak×List UInt8)} {k:Nat} {b:UInt8} {l:List UInt8} {v:ak} {r:List UInt8} (hl:l.length<=1000000)
  (hh:∀ n t vs u,t.length<=1000000->h n t=some (vs,u)->t=jQ vs++u/\kU vs=true/\mY vs+1<=k/\(∀ e∈vs,bT e)/\kN vs<=(jQ vs).length/\vs.length=n)
  (e:rn b l h=some (v,r)):QJ k (b :: l) v r:=by
 have okm:iM=9223372036854775807:=rfl
 unfold rn at e
 split at e
 ·rename_i h1
  split at e
  ·cases e
  rename_i n t hn
  obtain ⟨h2,h3,_⟩:=iD hn
  cases e
  refine⟨?_,?_,?_,?_,?_⟩
  ·rw[S3 h1,h2,dR]
   simp only[show ((1:Int)==1)=true from rfl,XY,Gq]
   rfl
  ·rw[m6]
   simp only[show ((1:Int)==1)=true from rfl,XY,rh.2]
   rfl
  ·rw[nQ]
   simp only[show ((1:Int)==3)=false from rfl,XX]
   omega
  ·exact(dI _).2 ⟨⟨r7,r7⟩,Oj h3,r7,r7,fun _ h=>absurd h ZV⟩
  ·rw[fb,dR]
   simp only[show ((1:Int)==1)=true from rfl,XY,Gq,mA,X9]
   have:(ByteArray.empty:ByteArray).size=0:=rfl
   omega
 split at e
 ·rename_i h1
  split at e
  ·cases e
  rename_i n t hn
  obtain ⟨h2,h3,h4⟩:=iD hn
  split at e
  ·rename_i h5
   cases e
   have hs:(ij (t.take n)).size=n:=by rw[CT,YV]; omega
   refine⟨?_,?_,?_,?_,?_⟩
   ·rw[S3 h1,h2,dR]
    simp only[show ((2:Int)==1)=false from rfl,show ((2:Int)==2)=true from rfl,XY,XX,hs,BI]
    rw[Yw,YD,YZ]
    rfl
   ·rw[m6]
    rfl
   ·rw[nQ]
    simp only[show ((2:Int)==3)=false from rfl,XX]
    omega
   ·refine(dI _).2 ⟨⟨r7,r7⟩,⟨r7,r7⟩,?_,r7,fun _ h=>absurd h ZV⟩
    show (ij (t.take n)).size<=iM
    rw[hs]; omega
   ·rw[fb,dR]
    simp only[show ((2:Int)==1)=false from rfl,show ((2:Int)==2)=true from rfl,XY,XX,mA,X9,Ye,gi,hs]
    omega
  ·cases e
 split at e
 ·rename_i h1
  split at e
  ·cases e
  rename_i n t hn
  obtain ⟨h2,h3,h4⟩:=iD hn
  split at e
  ·rename_i h5
   split at e
   ·cases e
   rename_i vs u hv
   cases e
   obtain ⟨g1,g2,g3,g4,g5,g6⟩:=hh n t vs r j6 hv
   refine⟨?_,?_,?_,?_,?_⟩
   ·rw[S3 h1,h2,dR,g1]
    simp only[show ((3:Int)==1)=false from rfl,show ((3:Int)==2)=false from rfl,XX,g6]
    rw[Yw,YD]
    rfl
   ·rw[m6]
    simp only[show ((3:Int)==1)=false from rfl,show ((3:Int)==2)=false from rfl,show ((3:Int)==3)=true from rfl,XY,XX,g2,rh.2]
    rfl
   ·rw[nQ]
    simp only[show ((3:Int)==3)=true from rfl,XY]
    omega
   ·refine(dI _).2 ⟨⟨r7,r7⟩,⟨r7,r7⟩,r7,?_,g4⟩
    show vs.length<=iM
    omega
   ·rw[fb,dR]
    simp only[show ((3:Int)==1)=false from rfl,show ((3:Int)==2)=false from rfl,XX,X9,Ye]
    have:(ByteArray.empty:ByteArray).size=0:=rfl
    omega
  ·cases e
 ·cases e
theorem tL:∀ (k:Nat) (l:List UInt8) (v:ak) (r:List UInt8),l.length<=1000000->fV k l=some (v,r)->QJ k l v r
 | 0,[],v,r,_,h=>by rw[fV] at h; cases h
 | k+1,[],v,r,_,h=>by rw[fV] at h; cases h
 | 0,b :: l,v,r,hl,h=>by
  rw[fV] at h
  rw[X9] at hl
  exact za j6 (fun _ _ _ _ _ h=>by cases h) h
 | k+1,b :: l,v,r,hl,h=>by
  rw[fV] at h
  rw[X9] at hl
  refine za j6 (fun n t vs u ht hv=>?_) h
  obtain ⟨g1,g2,g3,g4,g5,g6⟩:=vE (fun l v r hl h=>tL k l v r hl h) n t vs u ht hv
  exact⟨g1,g2,j6,g4,g5,g6⟩
theorem GO (v:ak):1<=(iY v).length:=by
 rw[dR]
 cases v.Kind==1 with
 | true=>simp
 | false=>cases v.Kind==2<;>simp
theorem BR:∀ l:List ak,l.length<=(jQ l).length
 | []=>r7
 | x :: r=>by rw[fk,Ye,X9]; have:=GO x; have:=BR r; omega
theorem vD {f:List UInt8->Option (ak×List UInt8)}:∀ (vs:List ak) (t:List UInt8),(∀ e∈vs,∀ t,f (iY e++t)=some (e,t))->gH f vs.length (jQ vs++t)=some (vs,t)
 | [],t,_=>by rw[me]; rfl
 | x :: r,t,h=>by
  rw[X9,gH,fk,YD,h x (Zk ..)]
  simp only
  rw[vD r t fun e he=>h e (Y2 _ he)]
theorem yy:∀ {l:List ak} {x:ak},x∈l->dep x<=mY l
 | y :: r,x,h=>by
  rw[jX]
  rcases YJ.1 h with rfl | h
  ·omega
  ·have:=yy h; omega
theorem ze:∀ (k:Nat) (v:ak) (t:List UInt8),sf v=true->dep v<=k->bT v->fV k (iY v++t)=some (v,t)
 | k,v,t,hf,hd,hv=>by
  obtain ⟨_,h2,h3,h4,h5⟩:=(dI v).1 hv
  unfold iM at h3 h4
  obtain ⟨K,N,S,L⟩:=v
  simp only at h2 h3 h4 h5
  have hf':=hf
  rw[m6] at hf'
  simp only at hf'
  rw[dR]
  rcases n0 hf with hk | hk | ⟨hk,hfs⟩
  ·simp only at hk
   subst hk
   simp only[show ((1:Int)==1)=true from rfl,XY,XZ,rh] at hf' ⊢
   have e:fV k ((1:UInt8) :: num (uL N)++t)=rn 1 (num (uL N)++t) (match k with | 0=>fun _ _=>none | k+1=>gH (fV k)):=by
    rw[Yw]
    cases k<;>rw[fV]
   rw[e]
   unfold rn
   rw[X4 (by decide),tK (oJ h2)]
   simp only[K9]
   obtain ⟨rfl,h6⟩:=hf'
   have:L=[]:=by
    cases L with
    | nil=>rfl
    | cons a r=>simp at h6; omega
   rw[this]
  ·simp only at hk
   subst hk
   simp only[show ((2:Int)==1)=false from rfl,show ((2:Int)==2)=true from rfl,XY,XX,XZ] at hf' ⊢
   have e:fV k ((2:UInt8) :: (num S.size++jw S)++t)=rn 2 (num S.size++(jw S++t)) (match k with | 0=>fun _ _=>none | k+1=>gH (fV k)):=by
    rw[Yw,YD]
    cases k<;>rw[fV]
   rw[e]
   unfold rn
   rw[X8 (by decide),X4 (by decide),tK j6]
   simp only
   have hsz:=gi S
   rw[X4 XH,<-hsz,qbs,List.drop_left,Kg]
   obtain ⟨h7,h6⟩:=hf'
   have:L=[]:=by
    cases L with
    | nil=>rfl
    | cons a r=>simp at h6; omega
   have h8:N=0:=by simpa using h7
   rw[this,h8]
  ·simp only at hk hfs
   subst hk
   simp only[show ((3:Int)==1)=false from rfl,show ((3:Int)==2)=false from rfl,show ((3:Int)==3)=true from rfl,XY,XX,XZ,rh] at hf' ⊢
   rw[nQ] at hd
   simp only[show ((3:Int)==3)=true from rfl,XY] at hd
   obtain ⟨k,rfl⟩:∃ q,k=q+1:=⟨k - 1,j6⟩
   rw[Yw,YD,fV]
   unfold rn
   have hlen:=BR L
   rw[X8 (by decide),X8 (by decide),X4 (by decide),tK j6]
   simp only
   rw[X4 XH,vD L t fun e he t=>ze k e t (mh hfs e he) (by have:=yy he; omega) (h5 e he)]
   simp only
   obtain ⟨h7,h6,rfl⟩:=hf'
   have h8:N=0:=by simpa using h6
   rw[h8]
theorem EJ (l:List ak) (x:ak) (h:l.length<=1000000):cU 56 l [x]=some (l++[x]):=vk _ _ _ (by rw[Tl]; simp; omega)
theorem E5 {k:Nat} {l:List UInt8} {v:ak} {r:List UInt8} (hl:l.length<=1000000) (h:fV k l=some (v,r)):r.length<=l.length:=by
 have:=(tL k l v r hl h).1
 rw[this,Ye]; omega
theorem Fq (f:List UInt8->Option (ak×List UInt8)) (self:(List UInt8)->Int->Option (Bool×ak×(List UInt8))) (N d n:Nat) (z0 z1:Int) (z2:ByteArray) (hd:d<=16) (hn:n<=1000000)
  (hf:∀ l:List UInt8,l.length<=1000000->match f l with
   | some (v,r)=>self l ((d:Int)+1)=some (true,v,r)/\r.length<=l.length
   | none=>∃ v r,self l ((d:Int)+1)=some (false,v,r)) :
  ∀ (k m i:Nat) (l:List UInt8) (acc:List ak),i+k=n->k<m->l.length<=1000000->acc.length<=i->match gH f k l with
   | some (vs,r)=>g8 self N (d:Int) (n:Int) z0 z1 z2 m (i:Int) l acc=some (.inr (r,acc++vs))
   | none=>∃ x,g8 self N (d:Int) (n:Int) z0 z1 z2 m (i:Int) l acc=some (.inl x)
 | 0,m,i,l,acc,h1,h2,h3,h4=>by
  obtain ⟨m,rfl⟩:∃ q,m=q+1:=⟨m - 1,j6⟩
  rw[gH,g8,X0 j6]
  simp
 | k+1,m,i,l,acc,h1,h2,h3,h4=>by
  obtain ⟨m,rfl⟩:∃ q,m=q+1:=⟨m - 1,j6⟩
  have hl:=hf l h3
  rw[gH,g8,XW j6,eC (n:=(d:Int)+1) j6 j6,eC (n:=(i:Int)+1) j6 j6]
  simp only[XY]
  cases hv:f l with
  | none=>
   rw[hv] at hl
   obtain ⟨v,r,hl⟩:=hl
   simp only
   rw[hl]
   exact⟨_,rfl⟩
  | some p=>
   obtain ⟨v,r⟩:=p
   rw[hv] at hl
   simp only at hl ⊢
   rw[hl.1]
   simp only[XV,XY]
   rw[EJ _ _ j6,XV,show (i:Int)+1=((i+1:Nat):Int) by omega]
   have ih:=Fq f self N d n z0 z1 z2 hd hn hf k m (i+1) r (acc++[v]) j6 j6 j6 r8
   cases hr:gH f k r with
   | none=>rw[hr] at ih; exact ih
   | some p=>
    obtain ⟨vs,t⟩:=p
    rw[hr] at ih
    simp only at ih ⊢
    rw[ih]; simp
theorem b1 {b:UInt8} (n:Nat) (h:n<256):(wr .i64 ((b.toNat:Int))==(n:Int))=decide (b.toNat=n):=by
 have:=b.toNat_lt
 rw[eC j6 j6,YI]
 simp
 omega
theorem PJ:∀ (k N d:Nat) (l:List UInt8),d+k=16->2000000+k<=N->l.length<=1000000->match fV k l with
  | some (v,r)=>DF N l (d:Int)=some (true,v,r)
  | none=>∃ v r,DF N l (d:Int)=some (false,v,r)
 | k,N,d,[],hd,hN,hl=>by
  obtain ⟨N,rfl⟩:∃ q,N=q+1:=⟨N - 1,j6⟩
  have:fV k []=none:=by cases k<;>rw[fV]
  rw[this]
  show ∃ v r,(bif Nat.ble 8 N then xP (DF N) (N - 8) [] d else none)=_
  rw[Y0 (by omega:8<=N)]
  exact⟨_,_,rfl⟩
 | k,N,d,b :: l,hd,hN,hl=>by
  obtain ⟨N,rfl⟩:∃ q,N=q+1:=⟨N - 1,j6⟩
  rw[X9] at hl
  have hb:=b.toNat_lt
  have hs1:eJ (b :: l) 0 1=some [b]:=by
   unfold eJ
   rw[show decide ((1:Int)<=((b :: l).length:Int))=true from XW XQ]
   rfl
  have hs2:eJ (b :: l) 1 ((b :: l).length:Int)=some l:=by
   unfold eJ
   rw[show decide ((1:Int)<=((b :: l).length:Int))=true from XW XQ,XW (qbo _)]
   simp
  have eW:DF (N+1) (b :: l) (d:Int)=xP (DF N) (N - 8) (b :: l) (d:Int):=by
   show (bif Nat.ble 8 N then xP (DF N) (N - 8) (b :: l) d else none)=_
   rw[Y0 (by omega:8<=N)]; rfl
  have eg:fV k (b :: l)=rn b l (match k with | 0=>fun _ _=>none | k+1=>gH (fV k)):=by cases k<;>rw[fV]
  rw[eW,eg]
  unfold xP
  rw[hs1,hs2,XW (show (1:Int)<=((b :: l).length:Int) by rw[X9]; omega)]
  simp only[Yc,XX,XV,show bt [b] 0=some b from rfl]
  rw[show (wr .i64 ((b.toNat:Int))==1)=decide (b.toNat=1) from b1 1 j6,show (wr .i64 ((b.toNat:Int))==2)=decide (b.toNat=2) from b1 2 j6,show (wr .i64 ((b.toNat:Int))==3)=decide (b.toNat=3) from b1 3 j6,eC (n:=(b.toNat:Int)) j6 j6]
  unfold rn
  by_cases h1:b.toNat=1
  ·rw[X4 h1,XW h1]
   have hr:=xI (fy (N - 8+1)) (fun _ _ _ _=>rfl) l (N - 8+7) 0 0 j6 j6 (by decide)
   simp only[XY]
   cases hg:iq 0 l with
   | none=>
    rw[hg] at hr
    obtain ⟨r,hr⟩:=hr
    refine⟨default,r,?_⟩
    exact(YA (fun x=>Option.bind x _) hr).trans rfl
   | some p=>
    obtain ⟨n,r⟩:=p
    rw[hg] at hr
    obtain ⟨_,hn,_⟩:=iD hg
    simp only at hr ⊢
    refine(YA (fun x=>Option.bind x _) hr).trans ?_
    rw[show (0+2 ^ (7*0)*n:Nat)=n by omega]
    simp only[XV,Xe n hn]
    rw[h1]; rfl
  rw[X8 h1,X0 h1]
  simp only[XX]
  by_cases h2:b.toNat=2
  ·rw[X4 h2,XW h2]
   have hr:=xI (fy (N - 8)) (fun _ _ _ _=>rfl) l (N - 8+6) 0 0 j6 j6 (by decide)
   simp only[XY]
   cases hg:iq 0 l with
   | none=>
    rw[hg] at hr
    obtain ⟨r,hr⟩:=hr
    refine⟨default,r,?_⟩
    exact(YA (fun x=>Option.bind x _) hr).trans rfl
   | some p=>
    obtain ⟨n,r⟩:=p
    rw[hg] at hr
    obtain ⟨_,hn,hrl⟩:=iD hg
    simp only at hr ⊢
    by_cases hnr:n<=r.length
    ·rw[X4 hnr]
     refine(YA (fun x=>Option.bind x _) hr).trans ?_
     rw[show (0+2 ^ (7*0)*n:Nat)=n by omega]
     simp only[XV]
     rw[va _ (show r.length<18446744073709551616 by omega),eC (n:=(n:Int)) j6 j6,XW (show (n:Int)<=(r.length:Int) by omega)]
     simp only[Yc,XX]
     unfold eJ
     rw[XW (show (n:Int)<=(r.length:Int) by omega),XW (show (0:Int)<=(n:Int) by omega),XW (qbo _)]
     simp[h2]
     exact YL r7
    ·rw[X8 hnr]
     refine⟨default,r,?_⟩
     refine(YA (fun x=>Option.bind x _) hr).trans ?_
     rw[show (0+2 ^ (7*0)*n:Nat)=n by omega]
     simp only[XV]
     rw[va _ (show r.length<18446744073709551616 by omega),X0 (show ¬ (n:Int)<=(r.length:Int) by omega)]
     rfl
  rw[X8 h2,X0 h2]
  simp only[XX]
  by_cases h3:b.toNat=3
  ·rw[X4 h3,XW h3]
   simp only[XY]
   cases k with
   | zero=>
    rw[X0 (show ¬ ((d:Int)<16) by omega)]
    have:∃ v r,(bif !false then some (false,(default:ak),l) else none)=some (false,v,r):=⟨_,_,rfl⟩
    cases hg:iq 0 l with
    | none=>exact⟨_,_,rfl⟩
    | some p=>
     obtain ⟨n,r⟩:=p
     simp only
     split<;>rename_i hx
     ·split at hx<;>cases hx
     ·exact⟨_,_,rfl⟩
   | succ k=>
    rw[XW (show ((d:Int)<16) by omega)]
    have hr:=xI (fy (N - 8)) (fun _ _ _ _=>rfl) l (N - 8+6) 0 0 j6 j6 (by decide)
    simp only[Yc,XX]
    cases hg:iq 0 l with
    | none=>
     rw[hg] at hr
     obtain ⟨r,hr⟩:=hr
     refine⟨default,r,?_⟩
     exact(YA (fun x=>Option.bind x _) hr).trans rfl
    | some p=>
     obtain ⟨n,r⟩:=p
     rw[hg] at hr
     obtain ⟨_,hn,hrl⟩:=iD hg
     simp only at hr ⊢
     by_cases hnr:n<=r.length
     ·rw[X4 hnr]
      have hL:=Fq (fV k) (DF N) (N - 8) d n (b.toNat:Int) 0 ByteArray.empty j6 j6 (fun l hl=>by
       have:=PJ k N (d+1) l j6 j6 hl
       cases hgv:fV k l with
       | none=>rw[hgv] at this; exact this
       | some p=>
        obtain ⟨v,r⟩:=p
        rw[hgv] at this
        exact⟨this,E5 hl hgv⟩) n (N - 8+8) 0 r [] j6 j6 j6 r7
      cases hls:gH (fV k) n r with
      | none=>
       rw[hls] at hL
       obtain ⟨x,hL⟩:=hL
       refine⟨default,x,?_⟩
       refine(YA (fun x=>Option.bind x _) hr).trans ?_
       rw[show (0+2 ^ (7*0)*n:Nat)=n by omega]
       simp only[XV]
       rw[va _ (show r.length<18446744073709551616 by omega),eC (n:=(n:Int)) j6 j6,XW (show (n:Int)<=(r.length:Int) by omega)]
       simp only[Yc,XX]
       exact(YA (fun x=>Option.bind x _) hL).trans rfl
      | some p=>
       obtain ⟨vs,t⟩:=p
       rw[hls] at hL
       simp only at hL ⊢
       refine(YA (fun x=>Option.bind x _) hr).trans ?_
       rw[show (0+2 ^ (7*0)*n:Nat)=n by omega]
       simp only[XV]
       rw[va _ (show r.length<18446744073709551616 by omega),eC (n:=(n:Int)) j6 j6,XW (show (n:Int)<=(r.length:Int) by omega)]
       simp only[Yc,XX]
       refine(YA (fun x=>Option.bind x _) hL).trans ?_
       rw[h3]; rfl
     ·rw[X8 hnr]
      refine⟨default,r,?_⟩
      refine(YA (fun x=>Option.bind x _) hr).trans ?_
      rw[show (0+2 ^ (7*0)*n:Nat)=n by omega]
      simp only[XV]
      rw[va _ (show r.length<18446744073709551616 by omega),X0 (show ¬ (n:Int)<=(r.length:Int) by omega)]
      rfl
  ·rw[X8 h3,X0 h3]
   exact⟨_,_,rfl⟩
def sc (bs:List UInt8):ak×Int:=match fV 16 bs with
 | some (v,[])=>(v,0)
 | _=>(.mk 0 0 ByteArray.empty [],10)
theorem Xa (bs:List UInt8) (h:bs.length<=1000000):LN bs=some (sc bs):=by
 unfold LN O3
 have hw:=PJ 16 (aA+8) 0 bs j6 An h
 rw[show ((0:Nat):Int)=0 from rfl] at hw
 unfold sc
 cases hg:fV 16 bs with
 | none=>
  rw[hg] at hw
  obtain ⟨v,r,hw⟩:=hw
  rw[hw]; rfl
 | some p=>
  obtain ⟨v,r⟩:=p
  rw[hg] at hw
  simp only at hw
  rw[hw]
  cases r with
  | nil=>rfl
  | cons a r=>
   have:(((a :: r).length:Int)==0)=false:=r8
   simp only[XV,XY]
   rw[this]; rfl
theorem GL {bs:List UInt8} {v:ak} (h:bs.length<=1000000) (e:sc bs=(v,0)):bs=iY v/\iX v=0/\bT v/\na v<=1000000:=by
 unfold sc at e
 split at e
 ·rename_i u hg
  cases e
  obtain ⟨h1,h2,h3,h4,h5⟩:=tL 16 bs v [] h hg
  rw[YG] at h1
  refine⟨h1,?_,h4,?_⟩
  ·unfold iX
   rw[h2]
   simp only[XY]
   rw[X0 j6]; rfl
  ·rw[h1] at h; omega
 ·cases e
theorem ES {v:ak} (hc:iX v=0) (hv:bT v):sc (iY v)=(v,0):=by
 have hf:=BK hc
 have hd:dep v<=16:=by
  unfold iX at hc
  rw[hf] at hc
  simp only[XY] at hc
  rcases ZZ 16 (dep v) with h | h
  ·rw[XW h] at hc; cases hc
  ·exact h
 unfold sc
 have:=ze 16 v [] hf hd hv
 rw[YG] at this
 rw[this]
theorem Fs (bs:List UInt8) (f:List UInt8->Option (ak×List UInt8)) (self:(List UInt8)->Int->Bool->Int->Option (ak×Int×Bool)) (N d n:Nat) (z4 z5:Int) (z6:ByteArray) (hd:d<=16) (hn:n<=1000000)
  (hf:∀ i:Nat,i<=bs.length->match f (bs.drop i) with
   | some (v,r)=>∃ j:Nat,self bs (i:Int) false ((d:Int)+1)=some (v,(j:Int),false)/\r=bs.drop j/\j<=bs.length
   | none=>∃ (v:ak) (j:Nat),self bs (i:Int) false ((d:Int)+1)=some (v,(j:Int),true)/\j<=bs.length) :
  ∀ (k m i j:Nat) (acc:List ak),i+k=n->k<m->j<=bs.length->acc.length<=i->match gH f k (bs.drop j) with
   | some (vs,r)=>∃ j':Nat,eL self N (d:Int) (n:Int) bs z4 z5 z6 m (i:Int) (j:Int) false acc=some ((j':Int),false,acc++vs)/\r=bs.drop j'/\j'<=bs.length
   | none=>∃ (j':Nat) (l:List ak),eL self N (d:Int) (n:Int) bs z4 z5 z6 m (i:Int) (j:Int) false acc=some ((j':Int),true,l)/\j'<=bs.length
 | 0,m,i,j,acc,h1,h2,h3,h4=>by
  obtain ⟨m,rfl⟩:∃ q,m=q+1:=⟨m - 1,j6⟩
  rw[gH,eL,X0 j6]
  exact⟨j,by rw[YG]; rfl,rfl,h3⟩
 | k+1,m,i,j,acc,h1,h2,h3,h4=>by
  obtain ⟨m,rfl⟩:∃ q,m=q+1:=⟨m - 1,j6⟩
  have hl:=hf j h3
  rw[gH,eL,XW j6,eC (n:=(d:Int)+1) j6 j6,show (i:Int)+1=((i+1:Nat):Int) by omega,va _ j6]
  simp only[XY,Zz,XV]
  cases hv:f (bs.drop j) with
  | none=>
   rw[hv] at hl
   obtain ⟨v,j',hl,hj⟩:=hl
   simp only
   rw[hl]
   simp only[XV]
   rw[EJ _ _ j6,XV]
   obtain ⟨m,rfl⟩:∃ q,m=q+1:=⟨m - 1,j6⟩
   refine⟨j',acc++[v],?_,hj⟩
   rw[eL]
   cases decide (((i+1:Nat):Int)<(n:Int))<;>rfl
  | some p=>
   obtain ⟨v,r⟩:=p
   rw[hv] at hl
   obtain ⟨j',hl,hr,hj⟩:=hl
   simp only
   rw[hl]
   simp only[XV]
   rw[EJ _ _ j6,XV,hr]
   have ih:=Fs bs f self N d n z4 z5 z6 hd hn hf k m (i+1) j' (acc++[v]) j6 j6 hj r8
   cases hg:gH f k (bs.drop j') with
   | none=>rw[hg] at ih; exact ih
   | some p=>
    obtain ⟨vs,t⟩:=p
    rw[hg] at ih
    simp only at ih ⊢
    obtain ⟨j2,ih,h5,h6⟩:=ih
    exact⟨j2,by rw[ih]; simp,h5,h6⟩
theorem XB (n:Nat) (h:n<18446744073709551616) (j:Int) (b:Bool):(bif ((Int.tmod (n:Int) 2)==1) then (some (((ak.mk 1 (wr .i64 ((wr .i64 (0 - (wr .i64 (wr .u64 (Int.tdiv (n:Int) 2))))) - 1)) ByteArray.empty ([])),j,b))) else (some (((ak.mk 1 (wr .i64 (wr .u64 (Int.tdiv (n:Int) 2))) ByteArray.empty ([])),j,b))))=some (ak.mk 1 (sg n) ByteArray.empty [],j,b):=by
 have e1:Int.tmod (n:Int) 2=((n % 2:Nat):Int):=rfl
 have e2:Int.tdiv (n:Int) 2=((n / 2:Nat):Int):=rfl
 rw[e1,e2,va _ j6,eC (n:=((n / 2:Nat):Int)) j6 j6,eC (n:=0 - ((n / 2:Nat):Int)) j6 j6,eC (n:=0 - ((n / 2:Nat):Int) - 1) j6 j6]
 unfold sg
 by_cases h2:n % 2=1
 ·rw[X4 h2,h2,show (0:Int) - ((n / 2:Nat):Int)=-((n / 2:Nat):Int) by omega]; rfl
 ·rw[X8 h2,show n % 2=0 by omega]; rfl
theorem Iv (x j:Int):∃ v,(bif ((Int.tmod x 2)==1) then (some (((ak.mk 1 (wr .i64 ((wr .i64 (0 - (wr .i64 (wr .u64 (Int.tdiv x 2))))) - 1)) ByteArray.empty ([])),j,true))) else (some (((ak.mk 1 (wr .i64 (wr .u64 (Int.tdiv x 2))) ByteArray.empty ([])),j,true))))=some (v,j,true):=by
 cases (Int.tmod x 2)==1<;>exact⟨_,rfl⟩
def Rd:Nat->Nat->List UInt8->Option (List ak×List UInt8)
 | 0=>fun _ _=>none
 | k+1=>gH (fV k)
theorem KG (bs:List UInt8) (hbs:bs.length<=1000000) (n i m:Nat) (hi:i<=bs.length) (hm:10<=m):match iq 0 (bs.drop i) with
  | some (u,r)=>∃ j:Nat,(Option.bind (eM n bs m 0 0 (i:Int) false) fun o=>match o with | (Sum.inl ((y368,y369,y370)))=>some ((y368,y369,y370)) | (Sum.inr ((y374,y375)))=>some (((0:Int),y374,y375)))=some ((u:Int),(j:Int),false)/\r=bs.drop j/\j<=bs.length
  | none=>∃ (x:Int) (j:Nat),(Option.bind (eM n bs m 0 0 (i:Int) false) fun o=>match o with | (Sum.inl ((y368,y369,y370)))=>some ((y368,y369,y370)) | (Sum.inr ((y374,y375)))=>some (((0:Int),y374,y375)))=some (x,(j:Int),true)/\j<=bs.length:=by
 have hr:=Cy bs hbs (eM n bs) (fun _ _ _ _=>rfl) (bs.length - i) i m 0 0 j6 j6 j6 (by decide)
 cases hg:iq 0 (bs.drop i) with
 | none=>
  rw[hg] at hr
  obtain ⟨x,j,hr,hj⟩:=hr
  exact⟨x,j,(YA (fun x=>Option.bind x _) hr).trans rfl,hj⟩
 | some p=>
  obtain ⟨u,r⟩:=p
  rw[hg] at hr
  obtain ⟨j,hr,h1,h2⟩:=hr
  rw[show (0+2 ^ (7*0)*u:Nat)=u by omega] at hr
  exact⟨j,(YA (fun x=>Option.bind x _) hr).trans rfl,h1,h2⟩
theorem S6 (bs:List UInt8) (hbs:bs.length<=1000000):∀ (k N d i:Nat),d+k=16->2000000+k<=N->i<=bs.length->match fV k (bs.drop i) with
  | some (v,r)=>∃ j:Nat,sQ N bs (i:Int) false (d:Int)=some (v,(j:Int),false)/\r=bs.drop j/\j<=bs.length
  | none=>∃ (v:ak) (j:Nat),sQ N bs (i:Int) false (d:Int)=some (v,(j:Int),true)/\j<=bs.length
 | k,N,d,i,hd,hN,hi=>by
  obtain ⟨N,rfl⟩:∃ q,N=q+1:=⟨N - 1,j6⟩
  have eW:sQ (N+1) bs (i:Int) false (d:Int)=rH (sQ N) (N - 8) bs (i:Int) false (d:Int):=by
   show (bif Nat.ble 8 N then rH (sQ N) (N - 8) bs (i:Int) false (d:Int) else none)=_
   rw[Y0 (by omega:8<=N)]; rfl
  rw[eW]
  by_cases hil:i<bs.length
  ·rw[YF hil]
   generalize hb':bs[i]=b
   have hb:=b.toNat_lt
   have eg:fV k (b :: bs.drop (i+1))=rn b (bs.drop (i+1)) (Rd k):=by cases k<;>(rw[fV]; rfl)
   rw[eg]
   unfold rH
   rw[X0 j6,eC (n:=(i:Int)+1) j6 j6,show (i:Int)+1 - 1=(i:Int) by omega,eC (n:=(i:Int)) j6 j6,bu,X3 hil,hb']
   simp only[XX,XV]
   rw[show ((b.toNat:Int)==1)=decide (b.toNat=1) by rw[YI]; simp; omega,show ((b.toNat:Int)==2)=decide (b.toNat=2) by rw[YI]; simp; omega,show ((b.toNat:Int)==3)=decide (b.toNat=3) by rw[YI]; simp; omega]
   have ei:(i:Int)+1=((i+1:Nat):Int):=j6
   rw[ei]
   unfold rn
   by_cases h1:b.toNat=1
   ·rw[X4 h1,XW h1]
    have hr:=KG bs hbs (N - 8) (i+1) (N - 8+7) j6 j6
    simp only[XY]
    cases hg:iq 0 (bs.drop (i+1)) with
    | none=>
     rw[hg] at hr
     obtain ⟨x,j,hr,hj⟩:=hr
     obtain ⟨v,hv⟩:=Iv x j
     refine⟨v,j,?_,hj⟩
     exact(YA (fun x=>Option.bind x _) hr).trans hv
    | some p=>
     obtain ⟨n,r⟩:=p
     rw[hg] at hr
     obtain ⟨_,hn,_⟩:=iD hg
     obtain ⟨j,hr,hrj,hj⟩:=hr
     simp only
     refine⟨j,?_,hrj,hj⟩
     refine(YA (fun x=>Option.bind x _) hr).trans ?_
     exact XB n hn j false
   rw[X8 h1,X0 h1]
   simp only[XX]
   by_cases h2:b.toNat=2
   ·rw[X4 h2,XW h2]
    have hr:=KG bs hbs (N - 8) (i+1) (N - 8+7) j6 j6
    simp only[XY]
    cases hg:iq 0 (bs.drop (i+1)) with
    | none=>
     rw[hg] at hr
     obtain ⟨x,j,hr,hj⟩:=hr
     refine⟨.mk 0 0 ByteArray.empty [],j,?_,hj⟩
     exact(YA (fun x=>Option.bind x _) hr).trans rfl
    | some p=>
     obtain ⟨n,r⟩:=p
     rw[hg] at hr
     obtain ⟨_,hn,hrl⟩:=iD hg
     obtain ⟨j,hr,hrj,hj⟩:=hr
     have hlr:r.length=bs.length - j:=by rw[hrj,ZW]
     have el:wr .u64 (wr .i64 ((bs.length:Int) - (j:Int)))=((bs.length - j:Nat):Int):=by
      rw[show (bs.length:Int) - (j:Int)=((bs.length - j:Nat):Int) by omega,eC j6 j6,va _ j6]
     simp only
     by_cases hnr:n<=r.length
     ·rw[X4 hnr]
      refine⟨j+n,?_,by rw[hrj,Yv],j6⟩
      refine(YA (fun x=>Option.bind x _) hr).trans ?_
      simp only[XV,XX]
      rw[el,X0 j6,eC (n:=(n:Int)) j6 j6,eC (n:=(j:Int)+(n:Int)) j6 j6,show (j:Int)+(n:Int) - (n:Int)=(j:Int) by omega,eC (n:=(j:Int)) j6 j6]
      simp only[XX]
      unfold eJ
      rw[XW (show (0:Int)<=(j:Int) by omega),XW (show (j:Int)<=(j:Int)+(n:Int) by omega),XW (show (j:Int)+(n:Int)<=(bs.length:Int) by omega)]
      simp only[YM,XY,XV]
      rw[show ((j:Int)+(n:Int)).toNat - (j:Int).toNat=n by omega,hrj]
      rfl
     ·rw[X8 hnr]
      refine⟨.mk 0 0 ByteArray.empty [],j,?_,hj⟩
      refine(YA (fun x=>Option.bind x _) hr).trans ?_
      simp only[XV,XX]
      rw[el,XW j6]
      rfl
   rw[X8 h2,X0 h2]
   simp only[XX]
   by_cases h3:b.toNat=3
   ·rw[X4 h3,XW h3]
    have hr:=KG bs hbs (N - 8) (i+1) (N - 8+7) j6 j6
    simp only[XY]
    cases hg:iq 0 (bs.drop (i+1)) with
    | none=>
     rw[hg] at hr
     obtain ⟨x,j,hr,hj⟩:=hr
     refine⟨.mk 0 0 ByteArray.empty [],j,?_,hj⟩
     exact(YA (fun x=>Option.bind x _) hr).trans rfl
    | some p=>
     obtain ⟨n,r⟩:=p
     rw[hg] at hr
     obtain ⟨_,hn,hrl⟩:=iD hg
     obtain ⟨j,hr,hrj,hj⟩:=hr
     have hlr:r.length=bs.length - j:=by rw[hrj,ZW]
     have el:wr .u64 (wr .i64 ((bs.length:Int) - (j:Int)))=((bs.length - j:Nat):Int):=by
      rw[show (bs.length:Int) - (j:Int)=((bs.length - j:Nat):Int) by omega,eC j6 j6,va _ j6]
     simp only
     by_cases hnr:n<=r.length
     ·rw[X4 hnr]
      cases k with
      | zero=>
       refine⟨.mk 0 0 ByteArray.empty [],j,?_,hj⟩
       refine(YA (fun x=>Option.bind x _) hr).trans ?_
       simp only[XV,XX]
       rw[show d=16 by omega]
       cases decide ((wr .u64 (wr .i64 ((bs.length:Int) - (j:Int))))<(n:Int))<;>rfl
      | succ k=>
       have hL:=Fs bs (fV k) (sQ N) (N - 8) d n 3 0 ByteArray.empty j6 j6 (fun i hi=>by
        have:=S6 bs hbs k N (d+1) i j6 j6 hi
        exact this) n (N - 8+8) 0 j [] j6 j6 hj r7
       rw[<-hrj] at hL
       show (match (match gH (fV k) n r with
        | none=>none
        | some (vs,t)=>some (ak.mk 3 0 ByteArray.empty vs,t)) with
        | some (v,r)=>_
        | none=>_)
       cases hls:gH (fV k) n r with
       | none=>
        rw[hls] at hL
        obtain ⟨j',l,hL,hj'⟩:=hL
        refine⟨.mk 3 0 ByteArray.empty l,j',?_,hj'⟩
        refine(YA (fun x=>Option.bind x _) hr).trans ?_
        simp only[XV,XX]
        rw[el,X0 j6,show ((d:Int)==16)=false by simp; omega]
        exact(YA (fun x=>Option.bind x _) hL).trans rfl
       | some p=>
        obtain ⟨vs,t⟩:=p
        rw[hls] at hL
        obtain ⟨j',hL,ht,hj'⟩:=hL
        simp only
        refine⟨j',?_,ht,hj'⟩
        refine(YA (fun x=>Option.bind x _) hr).trans ?_
        simp only[XV,XX]
        rw[el,X0 j6,show ((d:Int)==16)=false by simp; omega]
        exact(YA (fun x=>Option.bind x _) hL).trans rfl
     ·rw[X8 hnr]
      refine⟨.mk 0 0 ByteArray.empty [],j,?_,hj⟩
      refine(YA (fun x=>Option.bind x _) hr).trans ?_
      simp only[XV,XX]
      rw[el,XW j6]
      rfl
   ·rw[X8 h3,X0 h3]
    exact⟨_,i+1,by simp only[XX,Zb]; rfl,j6⟩
  ·have:fV k []=none:=by cases k<;>rw[fV]
   rw[Y3.2 j6,this]
   refine⟨.mk 0 0 ByteArray.empty [],i,?_,hi⟩
   unfold rH
   rw[XW j6]
   rfl
theorem Xb (bs:List UInt8) (h:bs.length<=1000000):LU bs=some (sc bs):=by
 unfold LU Ph
 have hw:=S6 bs h 16 (aA+8) 0 0 j6 An j6
 rw[show ((0:Nat):Int)=0 from rfl,Zi] at hw
 unfold sc
 cases hg:fV 16 bs with
 | none=>
  rw[hg] at hw
  obtain ⟨v,j,hw,_⟩:=hw
  rw[hw]; rfl
 | some p=>
  obtain ⟨v,r⟩:=p
  rw[hg] at hw
  obtain ⟨j,hw,hr,hj⟩:=hw
  rw[hw]
  simp only[XV,XX]
  cases r with
  | cons a r=>
   have:j<bs.length:=by
    rcases ZZ j bs.length with h | h
    ·exact h
    ·rw[Y3.2 h] at hr; cases hr
   rw[show ((j:Int) != (bs.length:Int))=true by simp; omega]
   rfl
  | nil=>
   have hj2:j=bs.length:=by
    have:=YA List.length hr
    rw[ZW] at this
    simp at this; omega
   obtain ⟨h1,h2,h3,h4⟩:=GL (v:=v) h (by unfold sc; rw[hg])
   rw[show ((j:Int) != (bs.length:Int))=false by simp; omega,Ti v h4]
   simp only[XX,XV,h2]
   rw[show ((0:Int) != 0)=false from rfl]
   simp only[XX,XV,Tj v h3 h4]
   rw[Iw,<-h1,XW rfl]
   rfl
theorem FI (n:Int):sf (.mk 1 n ByteArray.empty [])=true:=by
 rw[m6]
 simp only[show ((1:Int)==1)=true from rfl,XY,rh.2]
 rfl
theorem FH (n:Int):dep (.mk 1 n ByteArray.empty [])=0:=by
 rw[nQ]; rfl
theorem Hj {n:Int} (h:gA n):bT (.mk 1 n ByteArray.empty []):=(dI _).2 ⟨⟨r7,r7⟩,h,r7,r7,fun _ h=>absurd h ZV⟩
theorem FJ (n:Int):na (.mk 1 n ByteArray.empty [])=1:=by
 rw[fb]
 show 1+ByteArray.empty.size / 200+kN []=1
 rw[mA]; rfl
theorem Hf (l:List ak):sf (.mk 3 0 ByteArray.empty l)=kU l:=by
 rw[m6]
 simp only[show ((3:Int)==1)=false from rfl,show ((3:Int)==2)=false from rfl,show ((3:Int)==3)=true from rfl,XY,XX,rh.2]
 cases kU l<;>rfl
theorem He (l:List ak):dep (.mk 3 0 ByteArray.empty l)=mY l+1:=by rw[nQ]; rfl
theorem Hg (l:List ak):na (.mk 3 0 ByteArray.empty l)=1+kN l:=by
 rw[fb]
 have h:ByteArray.empty.size=0:=rfl
 show 1+ByteArray.empty.size / 200+kN l=1+kN l
 omega
theorem Ky {l:List ak} (h:l.length<=iM) (h2:∀ e∈l,bT e):bT (.mk 3 0 ByteArray.empty l):=(dI _).2 ⟨⟨r7,r7⟩,⟨r7,r7⟩,r7,h,h2⟩
theorem yR:∀ {l:List ak},(∀ e∈l,sf e=true)->kU l=true
 | [],_=>qA
 | x :: r,h=>by rw[mg,h x (Zk ..),yR fun e he=>h e (Y2 _ he)]; rfl
def fF (l:List Int):List ak:=l.map fun n=>.mk 1 n ByteArray.empty []
def ints (l:List Int):ak:=.mk 3 0 ByteArray.empty (fF l)
theorem vo:∀ l:List Int,mY (fF l)=0
 | []=>nR
 | x :: r=>by show mY (ak.mk 1 x ByteArray.empty [] :: fF r)=0; rw[jX,FH,vo r]; rfl
theorem vT:∀ l:List Int,kN (fF l)=l.length
 | []=>mA
 | x :: r=>by show kN (ak.mk 1 x ByteArray.empty [] :: fF r)=_; rw[jY,FJ,vT r,X9]; omega
theorem zi (l:List Int):iX (ints l)=0:=by
 unfold iX ints
 rw[Hf,He,vo,yR (fun e he=>by obtain ⟨n,_,rfl⟩:=qaI.1 he; exact FI n)]
 rfl
theorem sG {l:List Int} (hl:l.length<=iM) (h:∀ n∈l,gA n):bT (ints l):=Ky (by unfold fF; rw[Zc]; exact hl) (fun e he=>by obtain ⟨n,hn,rfl⟩:=qaI.1 he; exact Hj (h n hn))
theorem qD (l:List Int):na (ints l)=1+l.length:=by unfold ints; rw[Hg,vT]
def EY (l:List Int):List UInt8:=iY (ints l)
theorem E0 (l:List Int):CY (ints l)=(EY l,0):=by unfold CY; rw[zi]; rfl
theorem EZ {l:List Int} (hl:l.length<=iM) (h:∀ n∈l,gA n):sc (EY l)=(ints l,0):=ES (zi l) (sG hl h)
theorem Ce (n:Nat) (z1:List UInt8) (L:List Int) (z2 z3:Int) (z4:ByteArray) (hL:L.length<=100):∀ (l:List Int) (i m:Nat) (acc:List ak),L.drop i=l->i+l.length=L.length->l.length<m->acc.length<=i ->
  km n L (L.length:Int) z2 z3 z4 m (i:Int) acc=some (acc++fF l)
 | l,i,0,_,_,_,h,_=>absurd h (YB _)
 | [],i,m+1,acc,hd,hi,h,_=>by
  unfold km
  rw[X0 (by simp at hi; omega)]
  simp[fF]
 | x :: l,i,m+1,acc,hd,hi,h,ha=>by
  have hx:L[i]? = some x:=by rw[<-Yz,hd]; rfl
  have hd':L.drop (i+1)=l:=by rw[<-Yv,hd]; rfl
  simp only[X9] at hi h
  unfold km
  rw[XW j6,bu,hx]
  simp only[XY,XV]
  rw[iP _ _ _ j6 r8]
  simp only[XV]
  rw[qI i j6,Ce n z1 L z2 z3 z4 hL l (i+1) m _ hd' j6 j6 r8]
  simp[fF]
theorem R7 (l:List Int) (hl:l.length<=100) (h:∀ n∈l,gA n):IK l=some (EY l):=by
 unfold IK OQ
 have:=Ce aA [] l 3 0 ByteArray.empty hl l 0 (aA+8) [] rfl j6 (mf _ j6 _) r7
 rw[show ((0:Nat):Int)=0 from rfl] at this
 rw[this]
 simp only[XV,Y5]
 show (Option.bind (Ll (ints l)) _)=_
 rw[W7 (ints l) (sG XR h) (by rw[qD]; omega),E0]
 rfl
theorem Cf (n:Nat) (z1:Bool) (L:List Int) (z3:Bool) (z4 z5 z6 z7 z8:Int) (z9:ak) (hL:L.length<=1000000):∀ (l:List Int) (i m:Nat) (acc:List Int),L.drop i=l->i+l.length=L.length->l.length<m->acc.length<=i ->
  kl n z1 (fF L) ((fF L).length:Int) z3 z4 z5 z6 z7 z8 z9 m (i:Int) acc=some (.inr (acc++l))
 | l,i,0,_,_,_,h,_=>absurd h (YB _)
 | [],i,m+1,acc,hd,hi,h,_=>by
  unfold kl
  rw[X0 (by simp at hi; simp[fF]; omega)]
  simp
 | x :: l,i,m+1,acc,hd,hi,h,ha=>by
  have hx:L[i]? = some x:=by rw[<-Yz,hd]; rfl
  have hd':L.drop (i+1)=l:=by rw[<-Yv,hd]; rfl
  simp only[X9] at hi h
  unfold kl
  rw[XW (by simp[fF]; omega),bu,show (fF L)[i]? = some (.mk 1 x ByteArray.empty []) from by unfold fF; rw[Yj,hx]; rfl]
  simp only[XY,XV]
  rw[show ((1:Int) != 1)=false from rfl]
  simp only[XX]
  rw[iP _ _ _ j6 r8]
  simp only[XV]
  rw[qI i j6,Cf n z1 L z3 z4 z5 z6 z7 z8 z9 hL l (i+1) m _ hd' j6 j6 r8]
  simp
def GP (l:List Int):ar×Bool:=match l with
 | [a,b,c,d]=>if a=1 then (.mk true (.mk b c d) (.mk 0 0),true) else (.mk false (.mk 0 0 0) (.mk 0 0),false)
 | [a,b,c]=>if a=2 then (.mk false (.mk 0 0 0) (.mk b c),true) else (.mk false (.mk 0 0 0) (.mk 0 0),false)
 | _=>(.mk false (.mk 0 0 0) (.mk 0 0),false)
theorem Ns (bs:List UInt8) (hb:bs.length<=1000000) (l:List Int) (hl:l.length<=1000000) (h:sc bs=(ints l,0)):Lk bs=some (GP l):=by
 unfold Lk OP
 rw[Xa bs hb,h]
 simp only[XV]
 rw[show ((0:Int) != 0)=false from rfl]
 simp only[XX,XV]
 rw[show ((ints l).Kind != 3)=false from rfl]
 simp only[XX]
 have:=Cf aA false l false 0 0 0 0 0 (ints l) hl l 0 (aA+8) [] rfl j6 (mf _ hl _) r7
 rw[show ((0:Nat):Int)=0 from rfl] at this
 rw[show (ints l).L=fF l from rfl,this]
 simp only[XV,Y5]
 match l with
 | []=>rfl
 | [a]=>rfl
 | [a,b]=>rfl
 | [a,b,c]=>
  rw[show ((([a,b,c]:List Int).length:Int)==4)=false from rfl]
  simp only[XX,XV]
  rw[show ((([a,b,c]:List Int).length:Int)==3)=true from rfl]
  simp only[XY]
  rw[show bt [a,b,c] 0=some a from rfl]
  unfold GP
  by_cases ha:a=2
  ·subst ha; rfl
  ·show _=some (if a=2 then _ else _)
   rw[X8 ha]
   simp only[XV]
   rw[show (a==2)=false from by simpa using ha]
   rfl
 | [a,b,c,d]=>
  rw[show ((([a,b,c,d]:List Int).length:Int)==4)=true from rfl]
  simp only[XY]
  rw[show bt [a,b,c,d] 0=some a from rfl]
  unfold GP
  by_cases ha:a=1
  ·subst ha; rfl
  ·show _=some (if a=1 then _ else _)
   rw[X8 ha]
   simp only[XV]
   rw[show (a==1)=false from by simpa using ha]
   rfl
 | a :: b :: c :: d :: e :: r=>
  rw[show (((a :: b :: c :: d :: e :: r).length:Int)==4)=false from r8]
  simp only[XX,XV]
  rw[show (((a :: b :: c :: d :: e :: r).length:Int)==3)=false from r8]
  rfl
def fx (x:ar):List Int:=if x.is then [1,x.lease.No,x.lease.Holder,x.lease.Until] else [2,x.call.Bar,x.call.Program]
def uI (x:ar):Prop:=if x.is then x.call=.mk 0 0/\kO x.lease else x.lease=.mk 0 0 0/\ic x.call
theorem ot {x:ar} (h:uI x):∀ n∈fx x,gA n:=by
 unfold uI at h
 unfold fx
 intro n hn
 have h1:gA 1:=⟨j6,j6⟩
 have h2:gA 2:=⟨j6,j6⟩
 split at h
 ·rename_i hi
  rw[X4 hi] at hn
  obtain ⟨a,b,c⟩:=h.2
  simp at hn
  rcases hn with rfl | rfl | rfl | rfl<;>assumption
 ·rename_i hi
  rw[X8 hi] at hn
  obtain ⟨a,b⟩:=h.2
  simp at hn
  rcases hn with rfl | rfl | rfl<;>assumption
theorem Kp {x:ar} (h:uI x):GP (fx x)=(x,true):=by
 obtain ⟨is,l,c⟩:=x
 unfold uI at h
 cases is with
 | true=>obtain ⟨h1,h2⟩:=h; simp only[] at h1; subst h1; rfl
 | false=>obtain ⟨h1,h2⟩:=h; simp only[] at h1; subst h1; rfl
theorem ib (x:ar):(fx x).length<=4:=by unfold fx; split<;>simp
def lN (x:ar):List UInt8:=EY (fx x)
theorem yD {x:ar} (h:uI x):(lN x).length<=1000000:=by
 have h1:=wX (ints (fx x)) (sG (by have:=ib x; unfold iM; omega) (ot h)) (by rw[qD]; have:=ib x; omega)
 rw[qD] at h1
 have:=ib x
 unfold lN EY
 omega
theorem Nr {x:ar} (h:uI x):Lk (lN x)=some (x,true):=by
 have hl:=ib x
 rw[Ns (lN x) (yD h) (fx x) j6 (EZ XR (ot h)),Kp h]
def fI (es:List ar):List al:=es.filterMap fun x=>if x.is then some x.lease else none
def fP (es:List ar):List av:=es.filterMap fun x=>if x.is then none else some x.call
def fp (es:List ar):List Bool:=es.map (·.is)
def dZ (self:Int) (es:List ar):af:=.mk self (fI es) (fP es) (fp es)
def As (s:af) (x:ar):af:=if x.is then l0 s x.lease else mO s x.call
def PE (s:af) (x:ar):Bool:=if x.is then oZ s.Leases x.lease else nF s.Self s.Leases s.Calls x.call
def Gd:af->List ar->Bool
 | _,[]=>true
 | s,x :: es=>PE s x&&Gd (As s x) es
theorem wc (s:af) (x:ar) (es:List ar):Gd s (x :: es)=(PE s x&&Gd (As s x) es):=rfl
theorem oS (es:List ar):(fI es).length+(fP es).length=es.length:=by
 induction es with
 | nil=>rfl
 | cons x es ih=>
  unfold fI fP at *
  rw[Zl,Zl]
  cases hx:x.is<;>simp<;>omega
theorem Dz (self:Int) (es:List ar) (x:ar):dZ self (es++[x])=As (dZ self es) x:=by
 unfold dZ As fI fP fp l0 mO
 rw[qai,qai,List.map_append]
 cases hx:x.is<;>simp[Zl,hx]
theorem xi:∀ (es:List ar) (s:af),sj s (fI es) (fP es) (fp es)=Gd s es
 | [],s=>xh _ _ _
 | x :: es,s=>by
  unfold fI fP fp
  rw[Zl,Zl,YX]
  cases hx:x.is with
  | true=>
   simp only[Zh]
   rw[vG,show sj (l0 s x.lease) (es.filterMap fun x=>if x.is=true then some x.lease else none) (es.filterMap fun x=>if x.is=true then none else some x.call) (es.map (·.is))=_ from xi es (l0 s x.lease)]
   rw[wc]
   unfold PE As
   rw[hx]; rfl
  | false=>
   simp only[Zb,ZU]
   rw[vF,show sj (mO s x.call) (es.filterMap fun x=>if x.is=true then some x.lease else none) (es.filterMap fun x=>if x.is=true then none else some x.call) (es.map (·.is))=_ from xi es (mO s x.call)]
   rw[wc]
   unfold PE As
   rw[hx]; rfl
theorem pH:∀ (o:List Bool) (ls:List al) (cs:List av) (s:af),sj s ls cs o=true->o.length=ls.length+cs.length->(∀ l∈ls,kO l)->(∀ c∈cs,ic c) ->
  ∃ es,(∀ x∈es,uI x)/\ls=fI es/\cs=fP es/\o=fp es
 | [],ls,cs,s,h,hl,_,_=>by
  have e1:ls=[]:=Zg.1 (by simp at hl; omega)
  have e2:cs=[]:=Zg.1 (by simp at hl; omega)
  exact⟨[],fun _ h=>absurd h ZV,e1,e2,rfl⟩
 | true :: o,[],cs,s,h,hl,_,_=>by rw[tM] at h; cases h
 | true :: o,l :: ls,cs,s,h,hl,h1,h2=>by
  rw[vG,XZ] at h
  obtain ⟨es,i1,i2,i3,i4⟩:=pH o ls cs (l0 s l) h.2 (by simp at hl ⊢; omega) (fun x hx=>h1 x (Y2 _ hx)) h2
  refine⟨.mk true l (.mk 0 0) :: es,fun x hx=>?_,?_,?_,?_⟩
  ·rcases YJ.1 hx with rfl | hx
   ·exact⟨rfl,h1 l (Zk ..)⟩
   ·exact i1 x hx
  ·rw[i2]; rfl
  ·rw[i3]; rfl
  ·rw[i4]; rfl
 | false :: o,ls,[],s,h,hl,_,_=>by rw[xf] at h; cases h
 | false :: o,ls,c :: cs,s,h,hl,h1,h2=>by
  rw[vF,XZ] at h
  obtain ⟨es,i1,i2,i3,i4⟩:=pH o ls cs (mO s c) h.2 (by simp at hl ⊢; omega) h1 (fun x hx=>h2 x (Y2 _ hx))
  refine⟨.mk false (.mk 0 0 0) c :: es,fun x hx=>?_,?_,?_,?_⟩
  ·rcases YJ.1 hx with rfl | hx
   ·exact⟨rfl,h2 c (Zk ..)⟩
   ·exact i1 x hx
  ·rw[i2]; rfl
  ·rw[i3]; rfl
  ·rw[i4]; rfl
theorem yw {r:af} (h:gJ r=true) (hr:eV r):∃ es,(∀ x∈es,uI x)/\r=dZ r.Self es/\Gd (.mk r.Self [] [] []) es=true/\es≠[]/\es.head?.map (·.is)=some true/\(fI es).length<=256/\es.length=r.Order.length:=by
 obtain ⟨h1,h2,h3,h4,h5,h6⟩:=kD h
 have hw:sj (.mk r.Self [] [] []) r.Leases r.Calls r.Order=true:=by
  unfold gJ at h
  simp only[XZ] at h
  exact h.1.2
 obtain ⟨es,i1,i2,i3,i4⟩:=pH r.Order r.Leases r.Calls _ hw h4 hr.2.1.2 hr.2.2.1.2
 refine⟨es,i1,?_,?_,?_,?_,?_,?_⟩
 ·unfold dZ; rw[<-i2,<-i3,<-i4]
 ·rw[i2,i3,i4,xi] at hw; exact hw
 ·rintro rfl; rw[i4] at h6; cases h6
 ·rw[i4] at h6; unfold fp at h6; rw[List.head?_map] at h6; exact h6
 ·rw[<-i2]; exact h5
 ·rw[i4]; unfold fp; rw[Zc]
theorem A5 (n:Nat) (O:List Bool) (r1 r2:af) (hO:O.length<=100000):∀ (es:List ar) (i m:Nat) (acc:List (List UInt8)),(∀ x∈es,uI x)->O.drop i=fp es->i+es.length=O.length->es.length<m->acc.length<=i ->
  fZ n O (O.length:Int) r1 r2 m (fI es) (fP es) (i:Int) acc=some (.inr (acc++es.map lN))
 | es,i,0,_,_,_,_,h,_=>absurd h (YB _)
 | [],i,m+1,acc,_,hd,hi,h,_=>by
  unfold fZ
  rw[X0 (by simp at hi; omega)]
  simp
 | x :: es,i,m+1,acc,hw,hd,hi,h,ha=>by
  have hx:O[i]? = some x.is:=by rw[<-Yz,hd]; rfl
  have hd':O.drop (i+1)=fp es:=by rw[<-Yv,hd]; rfl
  simp only[X9] at hi h
  have hwx:=hw x (Zk ..)
  have hwe:∀ y∈es,uI y:=fun y hy=>hw y (Y2 _ hy)
  unfold fZ
  rw[XW j6,bu,hx]
  simp only[XY,XV]
  have Pt:=R7 (fx x) (by have:=ib x; omega) (ot hwx)
  have el:∀ y ys,fI (y :: ys)=if y.is then y.lease :: fI ys else fI ys:=fun y ys=>by unfold fI; rw[Zl]; cases y.is<;>rfl
  have ec:∀ y ys,fP (y :: ys)=if y.is then fP ys else y.call :: fP ys:=fun y ys=>by unfold fP; rw[Zl]; cases y.is<;>rfl
  rw[el,ec]
  cases hxi:x.is with
  | true=>
   simp only[Zh,XY]
   rw[show decide ((0:Int)<((x.lease :: fI es).length:Int))=true from XW r7]
   simp only[XY,XV]
   rw[show bt (x.lease :: fI es) 0=some x.lease from rfl,rU]
   simp only[XV]
   rw[show ([1,x.lease.No,x.lease.Holder,x.lease.Until]:List Int)=fx x from by unfold fx; rw[X4 hxi],Pt]
   simp only[XV]
   rw[iP _ _ _ j6 r8]
   simp only[XV]
   rw[qI i j6,A5 n O r1 r2 hO es (i+1) m _ hwe hd' j6 j6 r8]
   simp[lN]
  | false=>
   simp only[Zb,ZU,XX,XV,Zz,XY]
   rw[show decide ((0:Int)<((x.call :: fP es).length:Int))=true from XW r7]
   simp only[XY,XV]
   rw[show bt (x.call :: fP es) 0=some x.call from rfl,rU]
   simp only[XV]
   rw[show ([2,x.call.Bar,x.call.Program]:List Int)=fx x from by unfold fx; rw[X8 (by rw[hxi]; decide)],Pt]
   simp only[XV]
   rw[iP _ _ _ j6 r8]
   simp only[XV]
   rw[qI i j6,A5 n O r1 r2 hO es (i+1) m _ hwe hd' j6 j6 r8]
   simp[lN]
theorem fD (es:List ar):(fp es).length=es.length:=Zc ..
theorem oY {self:Int} {es:List ar} (h:es.length<=100000):kR (dZ self es):=by
 have:=oS es
 unfold kR dZ
 rw[fD]
 exact⟨by simp only[]; omega,by simp only[]; omega,j6⟩
theorem Sc {self:Int} {es:List ar} (hc:gJ (dZ self es)=true) (hw:∀ x∈es,uI x) (h:es.length<=100000):Lh (dZ self es)=some (es.map lN,0):=by
 obtain ⟨s1,s2,s3⟩:=oY (self:=self) h
 unfold Lh OE
 rw[Dr _ s1 s2 s3,hc]
 simp only[Zh,XV]
 rw[show ((0:Int) != 0)=false from rfl]
 simp only[XX]
 have:=A5 aA (fp es) (dZ self es) (dZ self es) (by rw[fD]; exact h) es 0 (aA+7) [] hw rfl XL (mf _ j6 _) r7
 rw[show ((0:Nat):Int)=0 from rfl] at this
 show (Option.bind (fZ aA (fp es) ((fp es).length:Int) (dZ self es) (dZ self es) (aA+7) (fI es) (fP es) 0 []) _)=_
 rw[this]
 rfl
theorem Nt (s:af) (x:ar) (h1:s.Leases.length<10000000) (h2:s.Calls.length<10000000) (h3:s.Order.length<10000000):CL s x=some (As s x):=by
 obtain ⟨is,l,c⟩:=x
 cases is with
 | true=>exact Cc s l c h1 h3
 | false=>exact FB s l c h2 h3
theorem Cd (n:Nat) (z self:Int) (es0:List ar) (h0:es0.length<=100000) (hw:∀ x∈es0,uI x):∀ (es:List ar) (i m:Nat),es0.drop i=es->i+es.length=es0.length->es.length<m ->
  kb n z (es0.map lN) ((es0.map lN).length:Int) m (i:Int) self (fI (es0.take i)) (fP (es0.take i)) (fp (es0.take i))=some (.inr (self,fI es0,fP es0,fp es0))
 | es,i,0,_,_,h=>absurd h (YB _)
 | [],i,m+1,hd,hi,h=>by
  unfold kb
  rw[X0 (by simp at hi; simp; omega)]
  simp at hi
  rw[show es0.take i=es0 from YL j6]
  rfl
 | x :: es,i,m+1,hd,hi,h=>by
  have hx:es0[i]? = some x:=by rw[<-Yz,hd]; rfl
  have hd':es0.drop (i+1)=es:=by rw[<-Yv,hd]; rfl
  simp only[X9] at hi h
  have hwx:=hw x (Yk hx)
  have hlen:(es0.take i).length<=100000:=u3
  obtain ⟨s1,s2,s3⟩:=oY (self:=self) hlen
  unfold kb
  rw[XW r8,bu,Yj,hx]
  simp only[XY,YN,XV]
  rw[Nr hwx]
  simp only[XV,Yc,XX]
  rw[show af.mk self (fI (es0.take i)) (fP (es0.take i)) (fp (es0.take i))=dZ self (es0.take i) from rfl,Nt _ _ j6 j6 j6]
  simp only[XV]
  rw[<-Dz,show es0.take i++[x]=es0.take (i+1) from by rw[ZM,hx]; rfl,qI i j6]
  exact Cd n z self es0 h0 hw es (i+1) m hd' j6 j6
theorem Nn (self:Int) {es:List ar} (h0:es.length<=100000) (hw:∀ x∈es,uI x):JW self (es.map lN)=some (if gJ (dZ self es)=true then (dZ self es,0) else (qQ,530)):=by
 obtain ⟨s1,s2,s3⟩:=oY (self:=self) h0
 unfold JW Oz
 have:=Cd aA 0 self es h0 hw es 0 (aA+8) rfl j6 (mf _ j6 _)
 rw[show ((0:Nat):Int)=0 from rfl] at this
 rw[show fI (es.take 0)=[] from rfl,show fP (es.take 0)=[] from rfl,show fp (es.take 0)=[] from rfl] at this
 rw[this]
 simp only[XV]
 rw[show af.mk self (fI es) (fP es) (fp es)=dZ self es from rfl,Dr _ s1 s2 s3]
 cases gJ (dZ self es)<;>rfl
theorem uW (a b c:Int):xM a b c=some (kW a b c):=by
 unfold xM OI kW
 cases decide (b<=a)<;>rfl
theorem Nz (l:al) (i e:Int):Gz l i e=some ((l.No==i)&&kW l.Holder 0 1&&decide (e<l.Until)&&decide (l.Until<=4096)):=by
 unfold Gz O7
 rw[uW]
 cases (l.No==i)<;>cases kW l.Holder 0 1<;>cases decide (e<l.Until)<;>rfl
def cn (b:Bool):List Bool->Nat
 | []=>0
 | x :: o=>(if x=b then 1 else 0)+cn b o
theorem mV (b:Bool):∀ (o o':List Bool),cn b (o++o')=cn b o+cn b o'
 | [],o'=>by simp[cn]
 | x :: o,o'=>by rw[Yw,cn,cn,mV b o o']; omega
theorem BL:∀ (o:List Bool),cn true o+cn false o=o.length
 | []=>rfl
 | x :: o=>by have:=BL o; cases x<;>simp[cn]<;>omega
theorem mW (b:Bool) (O:List Bool) {p q:Nat} (h:p<=q):cn b (O.take p)<=cn b (O.take q):=by
 have:O.take q=O.take p++(O.drop p).take (q - p):=by
  rw[<-List.take_add,Nat.add_sub_cancel' h]
 rw[this,mV]; omega
theorem mX (b:Bool) {O:List Bool} {p:Nat} (h:O[p]? = some b):cn b (O.take (p+1))=cn b (O.take p)+1:=by
 rw[ZM,h,mV]; simp[cn]
theorem wS {b:Bool} {O:List Bool} {p q:Nat} (hp:O[p]? = some b) (hq:O[q]? = some b) (h:cn b (O.take p)=cn b (O.take q)):p=q:=by
 rcases Nat.lt_trichotomy p q with h1 | h1 | h1
 ·have:=mW b O (show p+1<=q from h1); rw[mX b hp] at this; omega
 ·exact h1
 ·have:=mW b O (show q+1<=p from h1); rw[mX b hq] at this; omega
def mG (b:Bool):List Bool->Nat->Nat
 | [],_=>0
 | x :: o,k=>if x=b then (if k=0 then 0 else mG b o (k - 1)+1) else mG b o k+1
theorem iH (b:Bool):∀ (O:List Bool) (k:Nat),k<cn b O->O[mG b O k]? = some b/\cn b (O.take (mG b O k))=k
 | [],k,h=>absurd h (YB _)
 | x :: o,k,h=>by
  unfold mG
  unfold cn at h
  by_cases hx:x=b
  ·rw[X4 hx] at h ⊢
   by_cases hk:k=0
   ·rw[X4 hk]; subst hk; exact⟨by simp[hx],rfl⟩
   ·rw[X8 hk]
    obtain ⟨h1,h2⟩:=iH b o (k - 1) j6
    refine⟨by simpa using h1,?_⟩
    rw[qas,cn,X4 hx,h2]; omega
  ·rw[X8 hx] at h ⊢
   obtain ⟨h1,h2⟩:=iH b o k j6
   refine⟨by simpa using h1,?_⟩
   rw[qas,cn,X8 hx,h2]; omega
theorem xy (n:Nat) (O:List Bool) (b:Bool) (at_:Nat) (z:Int) (hO:O.length<=1000000):∀ (o:List Bool) (i m k:Nat),O.drop i=o->i+o.length=O.length->o.length<m->k<=i->k<=at_->at_ - k<cn b o ->
  kq n O b (at_:Int) m (k:Int) (i:Int)=some (.inl ((i+mG b o (at_ - k):Nat):Int))
 | o,i,0,k,_,_,h,_,_,_=>absurd h (YB _)
 | [],i,m+1,k,hd,hi,h,_,_,hc=>absurd hc (YB _)
 | x :: o,i,m+1,k,hd,hi,h,hki,hk,hc=>by
  have hx:O[i]? = some x:=by rw[<-Yz,hd]; rfl
  have hd':O.drop (i+1)=o:=by rw[<-Yv,hd]; rfl
  simp only[X9] at hi h
  unfold kq mG
  unfold cn at hc
  rw[XW j6,bu,hx]
  simp only[XY,XV]
  by_cases hxb:x=b
  ·rw[X4 hxb] at hc ⊢
   rw[show (x==b)=true from by simp[hxb]]
   simp only[XY]
   by_cases hka:k=at_
   ·rw[show ((k:Int)==(at_:Int))=true from by simp[hka],X4 j6]
    rfl
   ·rw[show ((k:Int)==(at_:Int))=false from r8,X8 j6]
    simp only[XX]
    rw[qI k j6,qI i j6,xy n O b at_ z hO o (i+1) m (k+1) hd' j6 j6 j6 j6 j6]
    rw[show at_ - (k+1)=at_ - k - 1 from j6]
    congr 3; omega
  ·rw[X8 hxb] at hc ⊢
   rw[show (x==b)=false from by simpa using hxb]
   simp only[XX]
   rw[qI i j6,xy n O b at_ z hO o (i+1) m k hd' j6 j6 j6 hk j6]
   congr 3; omega
theorem Hh (O:List Bool) (b:Bool) (k:Nat) (hO:O.length<=1000000) (h:k<cn b O):Gr O b (k:Int)=some ((mG b O k:Nat):Int):=by
 unfold Gr OV
 have:=xy aA O b k 0 hO O 0 (aA+8) 0 rfl j6 (mf _ hO _) j6 j6 j6
 rw[show ((0:Nat):Int)=0 from rfl] at this
 rw[this]
 simp
theorem xx (n:Nat) (O:List Bool) (z:Int) (hO:O.length<=1000000):∀ (o:List Bool) (i m k:Nat),O.drop i=o->i+o.length=O.length->o.length<m->k<=i ->
  ju n O m (k:Int) (i:Int)=some ((k+cn true o:Nat):Int)
 | o,i,0,k,_,_,h,_=>absurd h (YB _)
 | [],i,m+1,k,hd,hi,h,_=>by
  unfold ju
  rw[X0 (by simp at hi; omega)]
  rfl
 | x :: o,i,m+1,k,hd,hi,h,hk=>by
  have hx:O[i]? = some x:=by rw[<-Yz,hd]; rfl
  have hd':O.drop (i+1)=o:=by rw[<-Yv,hd]; rfl
  simp only[X9] at hi h
  unfold ju cn
  rw[XW j6,bu,hx]
  simp only[XY,XV]
  cases x with
  | true=>
   simp only[XY,Zh]
   rw[qI k j6,qI i j6,xx n O z hO o (i+1) m (k+1) hd' j6 j6 j6]
   congr 2; omega
  | false=>
   simp only[XX,Zb,ZU]
   rw[qI i j6,xx n O z hO o (i+1) m k hd' j6 j6 j6]
   congr 2; omega
theorem R9 (O:List Bool) (hO:O.length<=1000000):LP O=some ((cn true O:Nat):Int):=by
 unfold LP O6
 have:=xx aA O 0 hO O 0 (aA+8) 0 rfl j6 (mf _ hO _) j6
 rw[show ((0:Nat):Int)=0 from rfl] at this
 rw[this]
 simp
def nE (bar:Int):List al->Option Nat
 | []=>none
 | x :: l=>if bar<x.Until then some 0 else (nE bar l).map (·+1)
theorem rl (bar:Int) (x:al) (l:List al):nE bar (x :: l)=if bar<x.Until then some 0 else (nE bar l).map (·+1):=rfl
theorem Ci (n:Nat) (L:List al) (bar z:Int) (hb:0<=bar) (hL:L.length<=1000000):∀ (l:List al) (i m:Nat),L.drop i=l->i+l.length=L.length->l.length<m ->
  jv n L bar m (i:Int)=some (match nE bar l with | some k=>.inl ((i+k:Nat):Int) | none=>.inr ())
 | l,i,0,_,_,h=>absurd h (YB _)
 | [],i,m+1,hd,hi,h=>by
  unfold jv
  rw[X0 (by simp at hi; omega)]
  rfl
 | x :: l,i,m+1,hd,hi,h=>by
  have hx:L[i]? = some x:=by rw[<-Yz,hd]; rfl
  have hd':L.drop (i+1)=l:=by rw[<-Yv,hd]; rfl
  simp only[X9] at hi h
  rw[rl]
  unfold jv
  rw[XW (show (i:Int)<(L.length:Int) by omega),XW hb]
  simp only[XY,XV]
  rw[bu,hx]
  simp only[XV]
  by_cases h1:bar<x.Until
  ·rw[XW h1,X4 h1]; rfl
  ·rw[X0 h1,X8 h1]
   simp only[XX]
   rw[qI i j6,Ci n L bar z hb hL l (i+1) m hd' j6 j6]
   cases nE bar l with
   | none=>rfl
   | some k=>simp only[YN]; congr 3; omega
theorem NA (L:List al) (bar:Int) (hL:L.length<=1000000):J2 L bar=some (match (if 0<=bar then nE bar L else none) with | some k=>(k:Int) | none=>-1):=by
 unfold J2 O8
 by_cases hb:0<=bar
 ·have:=Ci aA L bar 0 hb hL L 0 (aA+8) rfl j6 (mf _ hL _)
  rw[show ((0:Nat):Int)=0 from rfl] at this
  rw[this,X4 hb]
  cases nE bar L with
  | none=>rfl
  | some k=>simp
 ·rw[X8 hb,show aA+8=(aA+7)+1 from rfl]
  unfold jv
  rw[X0 hb]
  cases decide ((0:Int)<(L.length:Int))<;>rfl
theorem rm (bar:Int):∀ (L:List al) (t:Nat),(L.take t).find? (fun l=>decide (bar<l.Until))=match nE bar L with | some k=>if k<t then L[k]? else none | none=>none
 | [],t=>by rw[List.take_nil]; rfl
 | x :: L,0=>by
  rw[qaS]
  cases nE bar (x :: L)<;>simp
 | x :: L,t+1=>by
  rw[qas,List.find?_cons,rm bar L t,rl]
  by_cases h:bar<x.Until
  ·rw[XW h,X4 h]; simp
  ·rw[X0 h,X8 h]
   cases nE bar L with
   | none=>rfl
   | some k=>simp
theorem qB {bar:Int}:∀ {L:List al} {k:Nat},nE bar L=some k->k<L.length
 | [],k,h=>by cases h
 | x :: L,k,h=>by
  rw[rl] at h
  split at h
  ·cases h; simp
  ·cases hf:nE bar L with
   | none=>rw[hf] at h; cases h
   | some j=>rw[hf] at h; cases h; have:=qB hf; simp; omega
def zx:List al->List al->Bool
 | _,[]=>true
 | a,x :: l=>oZ a x&&zx (a++[x]) l
theorem vV (a:List al) (x:al) (l:List al):zx a (x :: l)=(oZ a x&&zx (a++[x]) l):=rfl
theorem JA (L:List al) (hL:L.length<=1000000) (G:Nat->Int->Int->Option ((Bool)⊕(Unit)))
  (hG:∀ m v w,G (m+1) v w=bif (decide (w<((L.length:Int)))) then (Option.bind (bt L w) fun y41=>Option.bind (Gz y41 w v) fun y42=>bif (!y42) then (some ((Sum.inl false))) else (Option.bind (bt L w) fun y44=>G m y44.Until (wr .i64 (w+1)))) else (some ((Sum.inr (()))))) :
  ∀ (l:List al) (i m:Nat),L.drop i=l->i+l.length=L.length->l.length<m->G m (su (L.take i)) (i:Int)=some (if zx (L.take i) l=true then .inr () else .inl false)
 | l,i,0,_,_,h=>absurd h (YB _)
 | [],i,m+1,hd,hi,h=>by
  rw[hG,X0 (by simp at hi; omega)]
  rfl
 | x :: l,i,m+1,hd,hi,h=>by
  have hx:L[i]? = some x:=by rw[<-Yz,hd]; rfl
  have hd':L.drop (i+1)=l:=by rw[<-Yv,hd]; rfl
  simp only[X9] at hi h
  have hlen:(L.take i).length=i:=u3
  have ht:L.take (i+1)=L.take i++[x]:=by rw[ZM,hx]; rfl
  rw[hG,XW j6,bu,hx]
  simp only[XY,XV]
  rw[Nz]
  have hf:((x.No==(i:Int))&&kW x.Holder 0 1&&decide (su (L.take i)<x.Until)&&decide (x.Until<=4096))=oZ (L.take i) x:=by unfold oZ; rw[hlen]
  rw[hf,vV]
  simp only[XV]
  cases oZ (L.take i) x with
  | false=>rfl
  | true=>
   simp only[Yc,XX,Yg]
   rw[qI i j6,<-Dm (L.take i) x,<-ht]
   exact JA L hL G hG l (i+1) m hd' j6 j6
def pd (self:Int):List al->List al->List av->List av->List Bool->Bool
 | a,l :: ls,b,cs,true :: o=>pd self (a++[l]) ls b cs o
 | a,ls,b,c :: cs,false :: o=>nF self a b c&&pd self a ls (b++[c]) cs o
 | _,_,_,_,_=>true
theorem FR (self:Int) (a:List al) (l:al) (ls:List al) (b cs:List av) (o:List Bool):pd self a (l :: ls) b cs (true :: o)=pd self (a++[l]) ls b cs o:=by rw[pd]
theorem FP (self:Int) (a ls:List al) (b:List av) (c:av) (cs:List av) (o:List Bool):pd self a ls b (c :: cs) (false :: o)=(nF self a b c&&pd self a ls (b++[c]) cs o):=by cases ls<;>simp[pd]
theorem FQ (self:Int) (a ls:List al) (b cs:List av):pd self a ls b cs []=true:=by cases ls<;>cases cs<;>simp[pd]
theorem rp:∀ (o:List Bool) (ls:List al) (cs:List av) (s:af),cn true o=ls.length->cn false o=cs.length->sj s ls cs o=(zx s.Leases ls&&pd s.Self s.Leases ls s.Calls cs o)
 | [],ls,cs,s,h1,h2=>by
  have e1:ls=[]:=Zg.1 h1.symm
  subst e1
  rw[xh,FQ]; rfl
 | true :: o,[],cs,s,h1,h2=>by simp[cn] at h1
 | true :: o,l :: ls,cs,s,h1,h2=>by
  rw[vG,rp o ls cs (l0 s l) (by simp[cn] at h1 ⊢; omega) (by simpa [cn] using h2),FR,vV,qaT]
  rfl
 | false :: o,ls,[],s,h1,h2=>by simp[cn] at h2
 | false :: o,ls,c :: cs,s,h1,h2=>by
  rw[vF,rp o ls cs (mO s c) (by simpa [cn] using h1) (by simp[cn] at h2 ⊢; omega),FP]
  show (nF s.Self s.Leases s.Calls c&&(zx s.Leases ls&&pd s.Self s.Leases ls (s.Calls++[c]) cs o))=_
  rw[<-qaT,<-qaT,Bool.and_comm (nF _ _ _ _)]
theorem AU:∀ (o:List Bool) (ls:List al) (cs:List av) (s:af),sj s ls cs o=true->cn true o<=ls.length/\cn false o<=cs.length
 | [],ls,cs,s,_=>⟨YT _,YT _⟩
 | true :: o,[],cs,s,h=>by rw[tM] at h; cases h
 | true :: o,l :: ls,cs,s,h=>by
  rw[vG,XZ] at h
  have:=AU o ls cs _ h.2
  simp[cn]; omega
 | false :: o,ls,[],s,h=>by rw[xf] at h; cases h
 | false :: o,ls,c :: cs,s,h=>by
  rw[vF,XZ] at h
  have:=AU o ls cs _ h.2
  simp[cn]; omega
def tg (self:Int) (L:List al) (C:List av) (O:List Bool) (j:Nat) (c:av):Bool:=nF self (L.take (cn true (O.take (mG false O j)))) (C.take j) c
theorem ui (self:Int) (L:List al) (C:List av) (O:List Bool) (hL:cn true O=L.length) (hC:cn false O=C.length):∀ (o o0:List Bool) (cs:List av) (ls:List al) (i t:Nat),O=o0++o->cn true o0=t->cn false o0=i->L.drop t=ls->C.drop i=cs ->
  (pd self (L.take t) ls (C.take i) cs o=true↔∀ j c,i<=j->C[j]? = some c->tg self L C O j c=true)
 | [],o0,cs,ls,i,t,hO,h1,h2,h3,h4=>by
  rw[FQ]
  refine⟨fun _ j c hj hc=>?_,fun _=>rfl⟩
  have:=(X2.1 hc).1
  rw[hO,YG,h2] at hC
  omega
 | true :: o,o0,cs,[],i,t,hO,h1,h2,h3,h4=>by
  exfalso
  have hl:(L.drop t).length=0:=by rw[h3]; rfl
  rw[ZW] at hl
  rw[hO,mV,h1] at hL
  simp[cn] at hL
  omega
 | true :: o,o0,cs,l :: ls,i,t,hO,h1,h2,h3,h4=>by
  have hx:L[t]? = some l:=by rw[<-Yz,h3]; rfl
  rw[FR,show L.take t++[l]=L.take (t+1) from by rw[ZM,hx]; rfl]
  exact ui self L C O hL hC o (o0++[true]) cs ls i (t+1) (by rw[hO]; simp) (by rw[mV,h1]; rfl) (by rw[mV,h2]; rfl) (by rw[<-Yv,h3]; rfl) h4
 | false :: o,o0,[],ls,i,t,hO,h1,h2,h3,h4=>by
  exfalso
  have hl:(C.drop i).length=0:=by rw[h4]; rfl
  rw[ZW] at hl
  rw[hO,mV,h2] at hC
  simp[cn] at hC
  omega
 | false :: o,o0,c :: cs,ls,i,t,hO,h1,h2,h3,h4=>by
  have hx:C[i]? = some c:=by rw[<-Yz,h4]; rfl
  have hi:i<cn false O:=by rw[hC]; exact(X2.1 hx).1
  have hp:mG false O i=o0.length:=by
   obtain ⟨p1,p2⟩:=iH false O i hi
   refine wS p1 (by rw[hO]; simp) ?_
   rw[p2,hO,List.take_left' rfl,h2]
  have hcall:tg self L C O i c=nF self (L.take t) (C.take i) c:=by
   unfold tg
   rw[hp,hO,List.take_left' rfl,h1]
  rw[FP,XZ,show C.take i++[c]=C.take (i+1) from by rw[ZM,hx]; rfl,
   ui self L C O hL hC o (o0++[false]) cs ls (i+1) t (by rw[hO]; simp) (by rw[mV,h1]; rfl) (by rw[mV,h2]; rfl) h3 (by rw[<-Yv,h4]; rfl)]
  constructor
  ·rintro ⟨q1,q2⟩ j d hj hd
   rcases ZZ i j with h | h
   ·exact q2 j d h hd
   ·have:j=i:=by omega
    subst this
    rw[hx] at hd; cases hd
    rw[hcall]; exact q1
  ·intro q
   exact⟨by rw[<-hcall]; exact q i c (X1 _) hx,fun j d hj hd=>q j d j6 hd⟩
def vL (self:Int) (L:List al) (O:List Bool) (j:Nat) (bar:Int):Bool:=match (if 0<=bar then nE bar L else none) with
 | some k=>(match L[k]? with | some x=>x.Holder==self | none=>false)&&decide (mG true O k<=mG false O j)
 | none=>false
def zo (C:List av) (j:Nat) (c:av):Bool:=match (C.take j).getLast? with | some d=>decide (d.Bar<c.Bar) | none=>true
def F0 (self:Int) (L:List al) (C:List av) (O:List Bool) (j:Nat) (c:av):Bool:=zo C j c&&kW c.Program 1 8&&vL self L O j c.Bar
theorem FZ {O:List Bool} {L:List al} (hL:cn true O=L.length) {k j:Nat} (hk:k<L.length) (hj:j<cn false O):decide (mG true O k<=mG false O j)=decide (k<cn true (O.take (mG false O j))):=by
 rw[qbb]
 obtain ⟨a1,a2⟩:=iH true O k j6
 obtain ⟨b1,b2⟩:=iH false O j hj
 constructor
 ·intro h
  rcases ZZ (mG true O k) (mG false O j) with h1 | h1
  ·have:=mW true O (show mG true O k+1<=mG false O j from h1)
   rw[mX true a1,a2] at this
   omega
  ·have:mG true O k=mG false O j:=by omega
   rw[this,b1] at a1; cases a1
 ·intro h
  rcases ZZ (mG false O j) (mG true O k) with h1 | h1
  ·have:=mW true O (Nat.le_of_lt h1)
   rw[a2] at this; omega
  ·exact h1
theorem vZ {self:Int} {L:List al} {C:List av} {O:List Bool} (hL:cn true O=L.length) {j:Nat} (hj:j<cn false O) (c:av):F0 self L C O j c=tg self L C O j c:=by
 unfold F0 tg nF vL oh zo
 rw[rm]
 have e:∀ a b d:Bool,(a&&b&&d)=(d&&a&&b):=by decide
 rw[e]
 congr 2
 by_cases hb:0<=c.Bar
 ·rw[X4 hb,XW hb]
  cases hf:nE c.Bar L with
  | none=>rfl
  | some k=>
   have hk:=qB hf
   simp only[]
   rw[FZ hL hk hj]
   by_cases h:k<cn true (O.take (mG false O j))
   ·rw[XW h,X4 h]; cases L[k]?<;>simp
   ·rw[X0 h,X8 h]; cases L[k]?<;>simp
 ·rw[X8 hb,X0 hb]; rfl
def yj (self:Int) (L:List al) (C:List av) (O:List Bool):Nat->List av->Bool
 | _,[]=>true
 | i,c :: l=>F0 self L C O i c&&yj self L C O (i+1) l
theorem yk (self:Int) (L:List al) (C:List av) (O:List Bool):∀ (l:List av) (i:Nat),C.drop i=l->(yj self L C O i l=true↔∀ j c,i<=j->C[j]? = some c->F0 self L C O j c=true)
 | [],i,hd=>by
  refine⟨fun _ j c hj hc=>?_,fun _=>rfl⟩
  have:=(X2.1 hc).1
  have hl:(C.drop i).length=0:=by rw[hd]; rfl
  rw[ZW] at hl
  omega
 | x :: l,i,hd=>by
  have hx:C[i]? = some x:=by rw[<-Yz,hd]; rfl
  unfold yj
  rw[XZ,yk self L C O l (i+1) (by rw[<-Yv,hd]; rfl)]
  constructor
  ·rintro ⟨q1,q2⟩ j d hj hdd
   rcases ZZ i j with h | h
   ·exact q2 j d h hdd
   ·have e:j=i:=by omega
    rw[e,hx] at hdd; cases hdd
    rw[e]; exact q1
  ·intro q
   exact⟨q i x (X1 _) hx,fun j d hj hd=>q j d j6 hd⟩
theorem Jz (n:Nat) (r:af) (hL:r.Leases.length<=1000000) (hC:r.Calls.length<=1000000) (hO:r.Order.length<=1000000) (h1:cn true r.Order=r.Leases.length) (h2:cn false r.Order=r.Calls.length):∀ (l:List av) (i m:Nat),r.Calls.drop i=l->i+l.length=r.Calls.length->l.length<m ->
  match yj r.Self r.Leases r.Calls r.Order i l with
  | true=>et n false r m (i:Int)=some (.inr ())
  | false=>et n false r m (i:Int)=some (.inl false)
 | l,i,0,_,_,h=>absurd h (YB _)
 | [],i,m+1,hd,hi,h=>by
  show et n false r (m+1) (i:Int)=some (.inr ())
  unfold et
  rw[X0 (by simp at hi; omega)]
  rfl
 | c :: l,i,m+1,hd,hi,h=>by
  have hx:r.Calls[i]? = some c:=by rw[<-Yz,hd]; rfl
  have hd':r.Calls.drop (i+1)=l:=by rw[<-Yv,hd]; rfl
  simp only[X9] at hi h
  have ih:=Jz n r hL hC hO h1 h2 l (i+1) m hd' j6 j6
  have hw:=qI i j6
  have tail:(Option.bind (J2 r.Leases c.Bar) fun y69=>bif (decide (y69<0)) then (some ((Sum.inl false))) else (Option.bind (bt r.Leases y69) fun y71=>Option.bind (bif (y71.Holder != r.Self) then (some true) else (Option.bind (Gr r.Order true y69) fun y73=>Option.bind (Gr r.Order false (i:Int)) fun y74=>some (decide (y74<y73)))) fun y75=>bif y75 then (some ((Sum.inl false))) else (et n false r m (wr .i64 ((i:Int)+1)))))
    = bif vL r.Self r.Leases r.Order i c.Bar then et n false r m ((i+1:Nat):Int) else some (.inl false):=by
   rw[NA _ _ hL,hw]
   unfold vL
   cases hf:(if 0<=c.Bar then nE c.Bar r.Leases else none) with
   | none=>rfl
   | some k=>
    have hk:k<r.Leases.length:=by
     split at hf
     ·exact qB hf
     ·cases hf
    simp only[XV]
    obtain ⟨y,hy⟩:∃ y,r.Leases[k]? = some y:=⟨_,X3 hk⟩
    rw[X0 (show ¬ (k:Int)<0 by omega),bu,hy]
    simp only[XX,XV]
    cases hh:(y.Holder==r.Self) with
    | false=>rw[bne,hh]; rfl
    | true=>
     rw[bne,hh]
     simp only[Yc,XX,Yg]
     rw[Hh _ _ k hO j6,Hh _ _ i hO j6]
     simp only[XV]
     by_cases hp:mG true r.Order k<=mG false r.Order i
     ·rw[X0 (show ¬ ((mG false r.Order i:Nat):Int)<((mG true r.Order k:Nat):Int) by omega),XW hp]; rfl
     ·rw[XW (show ((mG false r.Order i:Nat):Int)<((mG true r.Order k:Nat):Int) by omega),X0 hp]; rfl
  have fin:∀ b:Bool,b=(zo r.Calls i c&&kW c.Program 1 8)->(bif !b then (some (Sum.inl false)) else (bif vL r.Self r.Leases r.Order i c.Bar then et n false r m ((i+1:Nat):Int) else some (.inl false)):Option (Bool⊕Unit))=et n false r (m+1) (i:Int) ->
    match yj r.Self r.Leases r.Calls r.Order i (c :: l) with
    | true=>et n false r (m+1) (i:Int)=some (.inr ())
    | false=>et n false r (m+1) (i:Int)=some (.inl false):=by
   intro b hb e
   unfold yj F0
   rw[<-hb]
   cases b with
   | false=>exact e.symm
   | true=>
    simp only[Yg]
    cases hh:vL r.Self r.Leases r.Order i c.Bar with
    | false=>rw[hh] at e; exact e.symm
    | true=>
     rw[hh] at e
     simp only[Yc,XX,XY] at e
     rw[<-e]
     exact ih
  refine fin _ rfl ?_
  conv=>rhs; rw[et]
  rw[XW (show (i:Int)<(r.Calls.length:Int) by omega),bu,hx]
  simp only[XY,XV]
  rw[tail,uW]
  by_cases h0:0<i
  ·have hpr:bt r.Calls (wr .i64 ((i:Int) - 1))=r.Calls[i - 1]?:=by rw[eC j6 j6,show ((i:Int) - 1)=((i - 1:Nat):Int) from j6,bu]
   have hlast:(r.Calls.take i).getLast? = r.Calls[i - 1]?:=by
    rw[qa5,YV,Zn j6,Yi,X4 j6]
   obtain ⟨d,hdd⟩:∃ d,r.Calls[i - 1]? = some d:=⟨_,X3 j6⟩
   rw[XW (show (0:Int)<(i:Int) by omega),hpr,hdd]
   unfold zo
   rw[hlast,hdd]
   simp only[XY,XV]
   by_cases hb:c.Bar<=d.Bar
   ·rw[XW hb,X0 (show ¬ d.Bar<c.Bar by omega)]; rfl
   ·rw[X0 hb,XW (show d.Bar<c.Bar by omega)]
    cases kW c.Program 1 8<;>rfl
  ·have:i=0:=by omega
   subst this
   unfold zo
   simp only[qaS,List.getLast?_nil,Yg]
   rw[X0 (show ¬ (0:Int)<((0:Nat):Int) by omega)]
   simp only[XX,XV]
theorem sz {r:af} (h:¬ gJ r=true):false=gJ r:=by cases hc:gJ r with | false=>rfl | true=>exact absurd hc h
theorem KC (r:af) (hs:kR r):J1 r=some (gJ r):=by
 obtain ⟨hL,hC,hO⟩:=hs
 unfold J1 OU
 rw[uW,uW]
 cases e1:kW r.Self 0 1 with
 | false=>unfold gJ; rw[e1]; rfl
 | true=>
 simp only[Yc,XX,XV]
 cases e2:kW (r.Leases.length:Int) 1 256 with
 | false=>
  refine YA some (sz fun hc=>?_)
  obtain ⟨_,h2,h3,h4,h5,h6⟩:=kD hc
  have h0:r.Leases.length=0:=by
   unfold kW at e2
   rw[XW (show (r.Leases.length:Int)<=256 by omega),YY] at e2
   have:=of_decide_eq_false e2
   omega
  have h0':r.Leases=[]:=Zg.1 h0
  unfold gJ at hc
  simp only[XZ] at hc
  have hw:=hc.1.2
  rw[h0'] at hw
  cases ho:r.Order with
  | nil=>rw[ho] at h6; cases h6
  | cons x o=>rw[ho] at h6 hw; simp at h6; subst h6; rw[tM] at hw; cases hw
 | true=>
 have hl1:1<=r.Leases.length/\r.Leases.length<=256:=by
  unfold kW at e2
  simp only[XZ,X6] at e2
  omega
 simp only[Yc,XX,XV]
 rw[eC j6 j6]
 by_cases e3:r.Order.length=r.Leases.length+r.Calls.length
 ·rw[show ((r.Order.length:Int) != (r.Leases.length:Int)+(r.Calls.length:Int))=false from r8]
  simp only[XX]
  rw[R9 _ hO]
  simp only[XV]
  have hb:=BL r.Order
  by_cases e4:cn true r.Order=r.Leases.length
  ·rw[show (((cn true r.Order:Nat):Int) != (r.Leases.length:Int))=false from by rw[e4]; exact Z3 _]
   simp only[XX]
   have hg:bt r.Order 0=r.Order.head?:=by rw[qbm]; rfl
   rw[hg]
   cases hh:r.Order.head? with
   | none=>rw[qbn] at hh; rw[hh] at e3; simp at e3; omega
   | some b=>
    cases b with
    | false=>
     refine YA some (sz fun hc=>?_)
     have:=(kD hc).2.2.2.2.2
     rw[hh] at this; cases this
    | true=>
     have key:gJ r=(zx [] r.Leases&&pd r.Self [] r.Leases [] r.Calls r.Order):=by
      unfold gJ
      rw[rp r.Order r.Leases r.Calls _ e4 j6,e1,hh,show (r.Order.length != 0)=true from by simp; intro h; rw[h] at e3; simp at e3; omega,
       show (r.Order.length==r.Leases.length+r.Calls.length)=true from by simpa using e3,XW hl1.2]
      simp
     have hcs:=ui r.Self r.Leases r.Calls r.Order e4 j6 r.Order [] r.Calls r.Leases 0 0 rfl rfl rfl rfl rfl
     have hac:=yk r.Self r.Leases r.Calls r.Order r.Calls 0 rfl
     have hkey2:pd r.Self [] r.Leases [] r.Calls r.Order=yj r.Self r.Leases r.Calls r.Order 0 r.Calls:=by
      rw[YI]
      refine(show pd r.Self [] r.Leases [] r.Calls r.Order=true↔_ from hcs).trans (Iff.trans ?_ hac.symm)
      exact⟨fun q j c hj hc=>by rw[vZ e4 (by have:=(X2.1 hc).1; omega)]; exact q j c hj hc,fun q j c hj hc=>by rw[<-vZ e4 (by have:=(X2.1 hc).1; omega)]; exact q j c hj hc⟩
     rw[key,hkey2]
     have hlo:=JA r.Leases hL (lX aA r) (fun m v w=>by rw[lX]) r.Leases 0 (aA+8) rfl j6 (mf _ hL _)
     rw[show ((0:Nat):Int)=0 from rfl,show su (r.Leases.take 0)=0 from rfl,show r.Leases.take 0=[] from rfl] at hlo
     simp only[XV,Yc,XX]
     rw[hlo]
     cases zx [] r.Leases with
     | false=>rfl
     | true=>
      simp only[Zh,XV,Yg]
      have hlc:=Jz aA r hL hC hO e4 j6 r.Calls 0 (aA+8) rfl j6 (mf _ hC _)
      rw[show ((0:Nat):Int)=0 from rfl] at hlc
      cases ha:yj r.Self r.Leases r.Calls r.Order 0 r.Calls with
      | true=>rw[ha] at hlc; simp only[] at hlc; rw[hlc]; rfl
      | false=>rw[ha] at hlc; simp only[] at hlc; rw[hlc]; rfl
  ·rw[show (((cn true r.Order:Nat):Int) != (r.Leases.length:Int))=true from r8]
   refine YA some (sz fun hc=>?_)
   unfold gJ at hc
   simp only[XZ] at hc
   have:=AU _ _ _ _ hc.1.2
   omega
 ·rw[show ((r.Order.length:Int) != (r.Leases.length:Int)+(r.Calls.length:Int))=true from r8]
  refine YA some (sz fun hc=>e3 (kD hc).2.2.2.1)
theorem Cg (n:Nat) (L:List Int) (z7 z8:Int) (z9:ByteArray) (hL:L.length<=100):∀ (l:List Int) (i m:Nat) (acc:List ak),L.drop i=l->i+l.length=L.length->l.length<m->acc.length<=i ->
  ky n L z7 z8 z9 m (i:Int) acc=some (acc++fF l)
 | l,i,0,_,_,_,h,_=>absurd h (YB _)
 | [],i,m+1,acc,hd,hi,h,_=>by
  unfold ky
  rw[X0 (by simp at hi; omega)]
  simp[fF]
 | x :: l,i,m+1,acc,hd,hi,h,ha=>by
  have hx:L[i]? = some x:=by rw[<-Yz,hd]; rfl
  have hd':L.drop (i+1)=l:=by rw[<-Yv,hd]; rfl
  simp only[X9] at hi h
  unfold ky
  rw[XW j6,bu,hx]
  simp only[XY,XV]
  rw[show Po x=some (.mk 1 x ByteArray.empty []) from rfl]
  simp only[XV]
  rw[iP _ _ _ j6 r8]
  simp only[XV]
  rw[qI i j6,Cg n L z7 z8 z9 hL l (i+1) m _ hd' j6 j6 r8]
  simp[fF]
theorem Nv (l:List Int) (hl:l.length<=100):Ln l=some (ints l):=by
 unfold Ln Pd
 have:=Cg aA l 3 0 ByteArray.empty hl l 0 (aA+8) [] rfl j6 (mf _ j6 _) r7
 rw[show ((0:Nat):Int)=0 from rfl] at this
 rw[this]
 rfl
theorem Nw {x:ar} (h:uI x):J4 (ints (fx x))=some (lN x,0):=by
 have hl:=ib x
 rw[W8 (ints (fx x)) (sG XR (ot h)) (by rw[qD]; omega),E0]
 rfl
theorem qE (a b:List ar):fI (a++b)=fI a++fI b:=qai ..
theorem qm (a b:List ar):fP (a++b)=fP a++fP b:=qai ..
theorem mq (x:ar) (es:List ar):fI (x :: es)=if x.is then x.lease :: fI es else fI es:=by unfold fI; rw[Zl]; cases x.is<;>rfl
theorem nP (x:ar) (es:List ar):fP (x :: es)=if x.is then fP es else x.call :: fP es:=by unfold fP; rw[Zl]; cases x.is<;>rfl
theorem xw (n:Nat) (z:List (List UInt8)) (self:Int) (es0:List ar) (h0:es0.length<=100000) (hw:∀ x∈es0,uI x):∀ (es:List ar) (i m:Nat) (acc:List (List UInt8)),es0.drop i=es->i+es.length=es0.length->es.length<m->acc.length<=i ->
  jr n z (dZ self es0) m ((fI (es0.take i)).length:Int) ((fP (es0.take i)).length:Int) (i:Int) acc=some (acc++es.map lN)
 | es,i,0,_,_,_,h,_=>absurd h (YB _)
 | [],i,m+1,acc,hd,hi,h,_=>by
  unfold jr
  rw[X0 (by show ¬ (i:Int)<((fp es0).length:Int); rw[fD]; simp at hi; omega)]
  simp
 | x :: es,i,m+1,acc,hd,hi,h,ha=>by
  have hx:es0[i]? = some x:=by rw[<-Yz,hd]; rfl
  have hd':es0.drop (i+1)=es:=by rw[<-Yv,hd]; rfl
  have hsp:es0=es0.take i++x :: es:=by rw[<-hd,YZ]
  have ht:es0.take (i+1)=es0.take i++[x]:=by rw[ZM,hx]; rfl
  have hwx:=hw x (Yk hx)
  have hnl:=ib x
  simp only[X9] at hi h
  have htl:=oS (es0.take i)
  rw[YV] at htl
  unfold jr
  rw[XW (by show (i:Int)<((fp es0).length:Int); rw[fD]; omega),bu,show (dZ self es0).Order[i]? = some x.is from by show (fp es0)[i]? = _; unfold fp; rw[Yj,hx]; rfl]
  simp only[XY,XV]
  cases hxi:x.is with
  | true=>
   simp only[XY]
   rw[bu,show (dZ self es0).Leases[(fI (es0.take i)).length]? = some x.lease from by
    show (fI es0)[_]? = _
    conv=>lhs; rw[hsp,qE,mq,hxi]
    simp only[Zh]
    rw[<-hsp,Yo (X1 _)]; simp]
   simp only[XV]
   rw[show ([1,x.lease.No,x.lease.Holder,x.lease.Until]:List Int)=fx x from by unfold fx; rw[X4 hxi],Nv _ j6]
   simp only[XV]
   rw[Nw hwx]
   simp only[XV]
   rw[iP _ _ _ j6 r8]
   simp only[XV]
   have e1:(fI (es0.take (i+1))).length=(fI (es0.take i)).length+1:=by rw[ht,qE,mq,hxi]; simp[fI]
   have e2:(fP (es0.take (i+1))).length=(fP (es0.take i)).length:=by rw[ht,qm,nP,hxi]; simp[fP]
   have:=xw n z self es0 h0 hw es (i+1) m (acc++[lN x]) hd' j6 j6 r8
   rw[e1,e2] at this
   rw[qI (fI (es0.take i)).length j6,qI i j6,this]
   simp
  | false=>
   simp only[XX]
   rw[bu,show (dZ self es0).Calls[(fP (es0.take i)).length]? = some x.call from by
    show (fP es0)[_]? = _
    conv=>lhs; rw[hsp,qm,nP,hxi]
    simp only[Zb,ZU]
    rw[<-hsp,Yo (X1 _)]; simp]
   simp only[XV]
   rw[show ([2,x.call.Bar,x.call.Program]:List Int)=fx x from by unfold fx; rw[X8 (by rw[hxi]; decide)],Nv _ j6]
   simp only[XV]
   rw[Nw hwx]
   simp only[XV]
   rw[iP _ _ _ j6 r8]
   simp only[XV]
   have e1:(fI (es0.take (i+1))).length=(fI (es0.take i)).length:=by rw[ht,qE,mq,hxi]; simp[fI]
   have e2:(fP (es0.take (i+1))).length=(fP (es0.take i)).length+1:=by rw[ht,qm,nP,hxi]; simp[fP]
   have:=xw n z self es0 h0 hw es (i+1) m (acc++[lN x]) hd' j6 j6 r8
   rw[e1,e2] at this
   rw[qI (fP (es0.take i)).length j6,qI i j6,this]
   simp
theorem KB {r:af} (hs:kR r):J3 r=some (if gJ r=true then 0 else 530):=by
 unfold J3 O9
 rw[KC r hs]
 cases gJ r<;>rfl
theorem Ny {self:Int} {es:List ar} (hw:∀ x∈es,uI x) (h:es.length<=100000):LK (dZ self es)=some (es.map lN):=by
 unfold LK O0
 have:=xw aA [] self es h hw es 0 (aA+8) [] rfl j6 (mf _ j6 _) r7
 rw[show ((0:Nat):Int)=0 from rfl,show ((fI (es.take 0)).length:Int)=0 from rfl,show ((fP (es.take 0)).length:Int)=0 from rfl] at this
 rw[this]
 rfl
theorem Ck (n:Nat) (L:List Int) (hL:L.length<=1000000):∀ (l:List Int) (i m:Nat) (acc:List Int),L.drop i=l->i+l.length=L.length->l.length<m->acc.length<=i ->
  kv n (ints L) m (i:Int) acc=some (.inr (acc++l))
 | l,i,0,_,_,_,h,_=>absurd h (YB _)
 | [],i,m+1,acc,hd,hi,h,_=>by
  rw[kv,X0 (by show ¬ (i:Int)<((fF L).length:Int); unfold fF; rw[Zc]; simp at hi; omega),YG]; rfl
 | x :: l,i,m+1,acc,hd,hi,h,ha=>by
  have hx:L[i]? = some x:=by rw[<-Yz,hd]; rfl
  have hd':L.drop (i+1)=l:=by rw[<-Yv,hd]; rfl
  simp only[X9] at hi h
  rw[kv,XW (by show (i:Int)<((fF L).length:Int); unfold fF; rw[Zc]; omega),bu,
   show (ints L).L[i]? = some (.mk 1 x ByteArray.empty []) from by show (fF L)[i]? = _; unfold fF; rw[Yj,hx]; rfl]
  simp only[XY,XV,show ((1:Int) != 1)=false from rfl,XX]
  rw[iP _ _ _ j6 r8,XV,qI i j6,Ck n L hL l (i+1) m _ hd' j6 j6 r8]
  simp
theorem NB {x:ar} (h:uI x):LR (lN x)=some (fx x):=by
 have hl:=ib x
 unfold LR Pc
 rw[Xb (lN x) (yD h),show sc (lN x)=(ints (fx x),0) from EZ XR (ot h)]
 simp only[XV,show ((0:Int) != 0)=false from rfl,XX,show ((ints (fx x)).Kind != 3)=false from rfl]
 have:=Ck aA (fx x) j6 (fx x) 0 (aA+8) [] rfl j6 (mf _ j6 _) r7
 rw[show ((0:Nat):Int)=0 from rfl] at this
 rw[this]; rfl
theorem Ch (n:Nat) (z1 z2:Int) (self:Int) (es0:List ar) (h0:es0.length<=100000) (hw:∀ x∈es0,uI x):∀ (es:List ar) (i m:Nat),es0.drop i=es->i+es.length=es0.length->es.length<m ->
  jq n (es0.map lN) z1 [] [] [] z2 m (i:Int) (fI (es0.take i)) (fP (es0.take i)) (fp (es0.take i))=some (.inr (fI es0,fP es0,fp es0))
 | es,i,0,_,_,h=>absurd h (YB _)
 | [],i,m+1,hd,hi,h=>by
  rw[jq,X0 (by simp at hi; simp; omega)]
  simp at hi
  rw[show es0.take i=es0 from YL j6]
  rfl
 | x :: es,i,m+1,hd,hi,h=>by
  have hx:es0[i]? = some x:=by rw[<-Yz,hd]; rfl
  have hd':es0.drop (i+1)=es:=by rw[<-Yv,hd]; rfl
  simp only[X9] at hi h
  have hwx:=hw x (Yk hx)
  have hlen:(es0.take i).length<=100000:=u3
  have hll:=oS (es0.take i)
  have hol:=fD (es0.take i)
  have ht:es0.take (i+1)=es0.take i++[x]:=by rw[ZM,hx]; rfl
  have ih:=Ch n z1 z2 self es0 h0 hw es (i+1) m hd' j6 j6
  rw[ht] at ih
  rw[jq,XW r8,bu,Yj,hx]
  simp only[XY,YN,XV]
  rw[NB hwx]
  obtain ⟨is,xl,xc⟩:=x
  have eo:fp (es0.take i++[ar.mk is xl xc])=fp (es0.take i)++[is]:=by unfold fp; rw[List.map_append]; rfl
  rw[qE,qm,eo] at ih
  cases is with
  | true=>
   obtain ⟨a,b,c⟩:=xl
   rw[show fx (.mk true (.mk a b c) xc)=[1,a,b,c] from rfl]
   simp only[XV]
   rw[show (bif ((([1,a,b,c]:List Int).length:Int)==4) then Option.bind (bt [1,a,b,c] 0) (fun y=>some (y==1)) else some false)=some true from rfl]
   simp only[XV,XY]
   rw[show bt [1,a,b,c] 1=some a from rfl,show bt [1,a,b,c] 2=some b from rfl,show bt [1,a,b,c] 3=some c from rfl]
   simp only[XV]
   rw[iP 24 _ _ j6 r8,XV,iP 1 _ _ j6 r8,XV,qI i j6]
   rw[show fI [ar.mk true (.mk a b c) xc]=[.mk a b c] from rfl,show fP [ar.mk true (.mk a b c) xc]=[] from rfl,YG] at ih
   exact ih
  | false=>
   obtain ⟨a,b⟩:=xc
   rw[show fx (.mk false xl (.mk a b))=[2,a,b] from rfl]
   simp only[XV]
   rw[show (bif ((([2,a,b]:List Int).length:Int)==4) then Option.bind (bt [2,a,b] 0) (fun y=>some (y==1)) else some false)=some false from rfl]
   simp only[XV,XX]
   rw[show (bif ((([2,a,b]:List Int).length:Int)==3) then Option.bind (bt [2,a,b] 0) (fun y=>some (y==2)) else some false)=some true from rfl]
   simp only[XV,XY]
   rw[show bt [2,a,b] 1=some a from rfl,show bt [2,a,b] 2=some b from rfl]
   simp only[XV]
   rw[iP 16 _ _ j6 r8,XV,iP 1 _ _ j6 r8,XV,qI i j6]
   rw[show fI [ar.mk false xl (.mk a b)]=[] from rfl,show fP [ar.mk false xl (.mk a b)]=[.mk a b] from rfl,YG] at ih
   exact ih
theorem Nx (self:Int) {es:List ar} (h0:es.length<=100000) (hw:∀ x∈es,uI x):LJ self (es.map lN)=some (if gJ (dZ self es)=true then (dZ self es,0) else (qQ,530)):=by
 unfold LJ OZ
 have:=Ch aA 0 self self es h0 hw es 0 (aA+8) rfl j6 (mf _ j6 _)
 rw[show ((0:Nat):Int)=0 from rfl,show fI (es.take 0)=[] from rfl,show fP (es.take 0)=[] from rfl,show fp (es.take 0)=[] from rfl] at this
 rw[this]
 simp only[XV]
 rw[show af.mk self (fI es) (fP es) (fp es)=dZ self es from rfl,KC _ (oY h0)]
 cases gJ (dZ self es)<;>rfl
def iw (w:Bool):Int:=if w then 1 else 0
def pk {T:Type} (w:Bool) (p:T×T):T:=if w then p.2 else p.1
theorem B5 (w:Bool):(decide (0<=iw w)&&decide (iw w<2))=true:=by cases w<;>rfl
theorem lE (w:Bool):decide (0<=iw w)=true:=by cases w<;>rfl
theorem lD (w:Bool):decide (iw w<2)=true:=by cases w<;>rfl
theorem fN {T:Type} (w:Bool) (a b:T):jL (iw w) a b=some (pk w (a,b)):=by cases w<;>rfl
theorem Kt {n:Int} (h:kW n 0 1=true):∃ w,n=iw w:=by
 rcases K8 h with h | h
 ·exact⟨false,h⟩
 ·exact⟨true,h⟩
theorem JB {T σ:Type} (L:List T) (hL:L.length<=1000000) (G:Nat->Int->Option σ) (g:T->Option σ) (e:σ) (hE:∀ m,G (m+1) (L.length:Int)=some e)
  (hG:∀ (m i:Nat) (x:T),i<L.length->L[i]? = some x->G (m+1) (i:Int)=match g x with | some r=>some r | none=>G m (wr .i64 ((i:Int)+1))) :
  ∀ (l:List T) (i m:Nat),L.drop i=l->i+l.length=L.length->l.length<m->G m (i:Int)=some ((l.findSome? g).getD e)
 | l,i,0,_,_,h=>absurd h (YB _)
 | [],i,m+1,hd,hi,h=>by
  simp at hi
  rw[hi,hE]; rfl
 | x :: l,i,m+1,hd,hi,h=>by
  have hx:L[i]? = some x:=by rw[<-Yz,hd]; rfl
  have hd':L.drop (i+1)=l:=by rw[<-Yv,hd]; rfl
  simp only[X9] at hi h
  rw[hG m i x j6 hx,qaR]
  cases g x with
  | some r=>rfl
  | none=>
   simp only[]
   rw[qI i j6]
   exact JB L hL G g e hE hG l (i+1) m hd' j6 j6
theorem rq {T σ:Type} (L:List T) (hL:L.length<=1000000) (G:Nat->Int->Option σ) (g:T->Option σ) (e:σ) (hE:∀ m,G (m+1) (L.length:Int)=some e)
  (hG:∀ (m i:Nat) (x:T),i<L.length->L[i]? = some x->G (m+1) (i:Int)=match g x with | some r=>some r | none=>G m (wr .i64 ((i:Int)+1))) (k:Nat):G (aA+k) 0=some ((L.findSome? g).getD e):=
 JB L hL G g e hE hG L 0 (aA+k) rfl j6 (mf _ hL _)
def zS (p:ar->Bool) (s:Nat):List ar->Nat->Bool
 | [],_=>false
 | x :: es,i=>(decide (i<s)&&p x) || zS p s es (i+1)
theorem xK (p:ar->Bool) (s:Nat):∀ (es:List ar) (i:Nat),zS p s es i=(es.take (s - i)).any p
 | [],i=>by simp[zS]
 | x :: es,i=>by
  rw[zS,xK p s es (i+1)]
  by_cases h:i<s
  ·obtain ⟨d,hd⟩:∃ d,s - i=d+1:=⟨s - i - 1,j6⟩
   rw[XW h,hd,show s - (i+1)=d by omega]; rfl
  ·rw[X0 h,show s - i=0 by omega,show s - (i+1)=0 by omega]; rfl
def pL (l:al) (x:ar):Bool:=x.is&&decide (x.lease=l)
def pC (c:av) (x:ar):Bool:=!x.is&&decide (x.call=c)
theorem Cm (n:Nat) (l:al) (P:aC) (z:Int) (w:Bool) (r:af) (b:Bool) (s:Nat) (hs:pk w P.Synced=(s:Int)) (es0:List ar) (h0:es0.length<=100000) :
  ∀ (es:List ar) (i m:Nat),es0.drop i=es->i+es.length=es0.length->es.length<m ->
  eO n l (fp es0) ((fp es0).length:Int) (.mk P z) (iw w) b r m (fI es) (fP es) (i:Int)=some (if zS (pL l) s es i then .inl true else .inr (.inr ()))
 | es,i,0,_,_,h=>absurd h (YB _)
 | [],i,m+1,hd,hi,h=>by
  unfold eO
  rw[X0 (by rw[fD]; simp at hi; omega)]; rfl
 | x :: es,i,m+1,hd,hi,h=>by
  have hx:es0[i]? = some x:=by rw[<-Yz,hd]; rfl
  have hd':es0.drop (i+1)=es:=by rw[<-Yv,hd]; rfl
  simp only[X9] at hi h
  have hos:(fp es0)[i]? = some x.is:=by unfold fp; rw[Yj,hx]; rfl
  have ih:=Cm n l P z w r b s hs es0 h0 es (i+1) m hd' j6 j6
  unfold eO
  rw[XW XL,bu,hos,qI i j6]
  simp only[XY,XV,B5,fN,show pk w (P.Synced.1,P.Synced.2)=(s:Int) from hs]
  obtain ⟨is,xl,xc⟩:=x
  rw[zS]
  cases is with
  | true=>
   rw[show fI (ar.mk true xl xc :: es)=xl :: fI es from rfl,show fP (ar.mk true xl xc :: es)=fP es from rfl]
   rw[show bt (xl :: fI es) 0=some xl from rfl,rU,show decide ((0:Int)<((xl :: fI es).length:Int))=true from XW r7]
   simp only[XY,XX,XV,Yc,Zz]
   rw[n9,ih]
   unfold pL
   by_cases hi2:i<s
   ·rw[XW hi2,XW (show (i:Int)<s by omega)]
    simp only[XY,XV,Yg]
    cases decide (xl=l)<;>rfl
   ·rw[X0 hi2,X0 (show ¬ (i:Int)<s by omega)]; rfl
  | false=>
   rw[show fI (ar.mk false xl xc :: es)=fI es from rfl,show fP (ar.mk false xl xc :: es)=xc :: fP es from rfl]
   rw[show bt (xc :: fP es) 0=some xc from rfl,rU,show decide ((0:Int)<((xc :: fP es).length:Int))=true from XW r7]
   simp only[XY,XX,XV,Yc,Zz]
   rw[ih]
   unfold pL
   by_cases hi2:i<s
   ·rw[XW hi2,XW (show (i:Int)<s by omega)]; rfl
   ·rw[X0 hi2,X0 (show ¬ (i:Int)<s by omega)]; rfl
theorem Cl (n:Nat) (c:av) (P:aC) (z:Int) (w:Bool) (r:af) (b:Bool) (s:Nat) (hs:pk w P.Synced=(s:Int)) (es0:List ar) (h0:es0.length<=100000) :
  ∀ (es:List ar) (i m:Nat),es0.drop i=es->i+es.length=es0.length->es.length<m ->
  eN n c (fp es0) ((fp es0).length:Int) (.mk P z) (iw w) b r m (fI es) (fP es) (i:Int)=some (if zS (pC c) s es i then .inl true else .inr (.inr ()))
 | es,i,0,_,_,h=>absurd h (YB _)
 | [],i,m+1,hd,hi,h=>by
  unfold eN
  rw[X0 (by rw[fD]; simp at hi; omega)]; rfl
 | x :: es,i,m+1,hd,hi,h=>by
  have hx:es0[i]? = some x:=by rw[<-Yz,hd]; rfl
  have hd':es0.drop (i+1)=es:=by rw[<-Yv,hd]; rfl
  simp only[X9] at hi h
  have hos:(fp es0)[i]? = some x.is:=by unfold fp; rw[Yj,hx]; rfl
  have ih:=Cl n c P z w r b s hs es0 h0 es (i+1) m hd' j6 j6
  unfold eN
  rw[XW XL,bu,hos,qI i j6]
  simp only[XY,XV,B5,fN,show pk w (P.Synced.1,P.Synced.2)=(s:Int) from hs]
  obtain ⟨is,xl,xc⟩:=x
  rw[zS]
  cases is with
  | true=>
   rw[show fI (ar.mk true xl xc :: es)=xl :: fI es from rfl,show fP (ar.mk true xl xc :: es)=fP es from rfl]
   rw[show bt (xl :: fI es) 0=some xl from rfl,rU,show decide ((0:Int)<((xl :: fI es).length:Int))=true from XW r7]
   simp only[XY,XX,XV,Yc,Zz]
   rw[ih]
   unfold pC
   by_cases hi2:i<s
   ·rw[XW hi2,XW (show (i:Int)<s by omega)]; rfl
   ·rw[X0 hi2,X0 (show ¬ (i:Int)<s by omega)]; rfl
  | false=>
   rw[show fI (ar.mk false xl xc :: es)=fI es from rfl,show fP (ar.mk false xl xc :: es)=xc :: fP es from rfl]
   rw[show bt (xc :: fP es) 0=some xc from rfl,rU,show decide ((0:Int)<((xc :: fP es).length:Int))=true from XW r7]
   simp only[XY,XX,XV,Yc,Zz]
   rw[wL,ih]
   unfold pC
   by_cases hi2:i<s
   ·rw[XW hi2,XW (show (i:Int)<s by omega)]
    simp only[XY,XV,Yg]
    cases decide (xc=c)<;>rfl
   ·rw[X0 hi2,X0 (show ¬ (i:Int)<s by omega)]; rfl
theorem KE (P:aC) (z:Int) (w:Bool) (l:al) (es:List ar) (s:Nat) (hd:pk w P.Desks=dZ (iw w) es) (hs:pk w P.Synced=(s:Int)) (h:es.length<=100000):mK (.mk P z) (iw w) l=some ((es.take s).any (pL l)):=by
 unfold mK wv
 rw[B5,fN,show pk w ((aD.mk P z).Pair.Desks.1,(aD.mk P z).Pair.Desks.2)=dZ (iw w) es from hd]
 have:=Cm aA l P z w (dZ (iw w) es) false s hs es h es 0 (aA+7) rfl j6 (mf _ j6 _)
 rw[xK,qbF] at this
 show Option.bind (eO aA l (fp es) ((fp es).length:Int) (.mk P z) (iw w) false (dZ (iw w) es) (aA+7) (fI es) (fP es) 0) _=_
 rw[show (0:Int)=((0:Nat):Int) from rfl,this]
 cases (es.take s).any (pL l)<;>rfl
theorem NC (P:aC) (z:Int) (w:Bool) (c:av) (es:List ar) (s:Nat) (hd:pk w P.Desks=dZ (iw w) es) (hs:pk w P.Synced=(s:Int)) (h:es.length<=100000):mJ (.mk P z) (iw w) c=some ((es.take s).any (pC c)):=by
 unfold mJ wq
 rw[B5,fN,show pk w ((aD.mk P z).Pair.Desks.1,(aD.mk P z).Pair.Desks.2)=dZ (iw w) es from hd]
 have:=Cl aA c P z w (dZ (iw w) es) false s hs es h es 0 (aA+7) rfl j6 (mf _ j6 _)
 rw[xK,qbF] at this
 show Option.bind (eN aA c (fp es) ((fp es).length:Int) (.mk P z) (iw w) false (dZ (iw w) es) (aA+7) (fI es) (fP es) 0) _=_
 rw[show (0:Int)=((0:Nat):Int) from rfl,this]
 cases (es.take s).any (pC c)<;>rfl
theorem R8 (L:List al) (l:al) (h:L.length<=1000000):LQ L l=some (decide (l∈L)):=by
 unfold LQ Pb
 have:=rq L h (ku aA L l) (fun x=>if x=l then some (.inl true) else none) (.inr ()) (fun m=>by unfold ku; rw[X0 j6]; rfl) (fun m i x hi hx=>by
  rw[ku,XW j6,bu,hx]
  simp only[XY,XV,n9]
  by_cases e:x=l
  ·rw[XW e,X4 e]; rfl
  ·rw[X0 e,X8 e]; rfl) 8
 rw[this]
 by_cases hm:l∈L
 ·rw[XW hm]
  cases hf:L.findSome? (fun x=>if x=l then some (Sum.inl true:Bool⊕Unit) else none) with
  | none=>have:=Z2.1 hf l hm; simp at this
  | some r=>
   obtain ⟨x,_,hx⟩:=qaE hf
   split at hx
   ·cases hx; rfl
   ·cases hx
 ·rw[X0 hm,Z2.2 (fun x hx=>by rw[X8 (fun e:x=l=>hm (e ▸ hx))])]; rfl
theorem Fu {σ:Type} (N:Nat) (hN:N<=1000000) (G:Nat->Int->Option σ) (t:Nat->Option σ) (e:σ) (hE:∀ m,G (m+1) (N:Int)=some e)
  (hG:∀ (m i:Nat),i<N->G (m+1) (i:Int)=match t i with | some r=>some r | none=>G m (wr .i64 ((i:Int)+1))) (k:Nat):G (aA+k) 0=some (((List.range N).findSome? t).getD e):=by
 have:=rq (List.range N) (by rw[qa2]; exact hN) G t e (fun m=>by rw[qa2]; exact hE m) (fun m i x hi hx=>by
  rw[qa2] at hi
  rw[List.getElem?_range hi] at hx
  cases hx
  exact hG m _ hi) k
 exact this
theorem BX {T σ:Type} (l:List T) (p:T->Bool) (r e:σ):(l.findSome? (fun x=>if p x then some r else none)).getD e=if l.any p then r else e:=by
 induction l with
 | nil=>rfl
 | cons x l ih=>
  rw[qaR,List.any_cons]
  cases p x with
  | true=>rfl
  | false=>simpa using ih
theorem wR (es:List ar):cn true (fp es)=(fI es).length:=by
 induction es with
 | nil=>rfl
 | cons x es ih=>rw[mq]; show cn true (x.is :: fp es)=_; unfold cn; rw[ih]; cases x.is<;>simp<;>omega
theorem wQ (es:List ar):cn false (fp es)=(fP es).length:=by
 induction es with
 | nil=>rfl
 | cons x es ih=>rw[nP]; show cn false (x.is :: fp es)=_; unfold cn; rw[ih]; cases x.is<;>simp<;>omega
theorem zy (es:List ar) (p:Nat):(fp es).take p=fp (es.take p):=qao.symm
theorem Fv {es:List ar} {p:Nat} {x:ar} (h:es[p]? = some x) (hi:x.is=true):(fI es)[cn true ((fp es).take p)]? = some x.lease:=by
 have hs:es=es.take p++x :: es.drop (p+1):=by
  obtain ⟨h1,h2⟩:=X2.1 h
  rw[<-h2,qbp,YZ]
 rw[zy,wR]
 conv=>lhs; rw[hs,qE,mq,hi]
 rw[<-hs,X4 rfl,Yo (X1 _),qa9]; rfl
theorem EK {es:List ar} {p:Nat} {x:ar} (h:es[p]? = some x) (hi:x.is=false):(fP es)[cn false ((fp es).take p)]? = some x.call:=by
 have hs:es=es.take p++x :: es.drop (p+1):=by
  obtain ⟨h1,h2⟩:=X2.1 h
  rw[<-h2,qbp,YZ]
 rw[zy,wQ]
 conv=>lhs; rw[hs,qm,nP,hi]
 rw[<-hs,X8 (by decide),Yo (X1 _),qa9]; rfl
theorem FW {es:List ar} {p:Nat} {b:Bool} (h:(fp es)[p]? = some b):∃ x,es[p]? = some x/\x.is=b:=by
 unfold fp at h
 rw[Yj] at h
 cases hx:es[p]? with
 | none=>rw[hx] at h; cases h
 | some x=>rw[hx] at h; exact⟨x,rfl,by simpa using h⟩
theorem yp {es:List ar} {s:Nat} {q:ar->Bool}:(es.take s).any q=true↔∃ p x,p<s/\es[p]? = some x/\q x=true:=by
 rw[qbd]
 constructor
 ·rintro ⟨x,hx,hq⟩
  obtain ⟨p,hp⟩:=qaG.1 hx
  rw[Yi] at hp
  split at hp
  ·exact⟨p,x,by assumption,hp,hq⟩
  ·cases hp
 ·rintro ⟨p,x,hp,hx,hq⟩
  exact⟨x,qaG.2 ⟨p,by rw[Yi,X4 hp]; exact hx⟩,hq⟩
theorem Ol (es:List ar) (s:Nat) (l:al):(List.range (fI es).length).any (fun i=>decide ((fI es)[i]? = some l/\mG true (fp es) i<s))=(es.take s).any (pL l):=by
 rw[YI,qbd,yp]
 constructor
 ·rintro ⟨i,hi,h⟩
  rw[X6] at h
  obtain ⟨h1,h2⟩:=iH true (fp es) i (by rw[wR]; exact Yn.1 hi)
  obtain ⟨x,hx,hxi⟩:=FW h1
  have:=Fv hx hxi
  rw[h2,h.1] at this
  refine⟨_,x,h.2,hx,?_⟩
  unfold pL
  rw[hxi,Yg,X6]
  cases this; rfl
 ·rintro ⟨p,x,hp,hx,hq⟩
  unfold pL at hq
  rw[XZ,X6] at hq
  have h1:=Fv hx hq.1
  have ho:(fp es)[p]? = some true:=by unfold fp; rw[Yj,hx]; simp[hq.1]
  have hlt:cn true ((fp es).take p)<(fI es).length:=(X2.1 h1).1
  obtain ⟨a1,a2⟩:=iH true (fp es) _ (show cn true ((fp es).take p)<cn true (fp es) by rw[wR]; exact hlt)
  refine⟨_,Yn.2 hlt,?_⟩
  rw[X6]
  exact⟨by rw[h1,hq.2],by rw[wS a1 ho a2]; exact hp⟩
theorem Ok (es:List ar) (s:Nat) (c:av):(List.range (fP es).length).any (fun i=>decide ((fP es)[i]? = some c/\mG false (fp es) i<s))=(es.take s).any (pC c):=by
 rw[YI,qbd,yp]
 constructor
 ·rintro ⟨i,hi,h⟩
  rw[X6] at h
  obtain ⟨h1,h2⟩:=iH false (fp es) i (by rw[wQ]; exact Yn.1 hi)
  obtain ⟨x,hx,hxi⟩:=FW h1
  have:=EK hx hxi
  rw[h2,h.1] at this
  refine⟨_,x,h.2,hx,?_⟩
  unfold pC
  rw[hxi,Zz,Yg,X6]
  cases this; rfl
 ·rintro ⟨p,x,hp,hx,hq⟩
  unfold pC at hq
  rw[XZ,X6] at hq
  have hxi:x.is=false:=by simpa using hq.1
  have h1:=EK hx hxi
  have ho:(fp es)[p]? = some false:=by unfold fp; rw[Yj,hx]; simp[hxi]
  have hlt:cn false ((fp es).take p)<(fP es).length:=(X2.1 h1).1
  obtain ⟨a1,a2⟩:=iH false (fp es) _ (show cn false ((fp es).take p)<cn false (fp es) by rw[wQ]; exact hlt)
  refine⟨_,Yn.2 hlt,?_⟩
  rw[X6]
  exact⟨by rw[h1,hq.2],by rw[wS a1 ho a2]; exact hp⟩
theorem FC (self:Int) (es:List ar) (s:Nat) (l:al) (h:es.length<=100000):JZ (dZ self es) (s:Int) l=some ((es.take s).any (pL l)):=by
 have hl:=oS es
 unfold JZ OJ
 have:=Fu (fI es).length j6 (ki aA (s:Int) (dZ self es) l) (fun i=>if decide ((fI es)[i]? = some l/\mG true (fp es) i<s) then some (.inl true) else none) (.inr ()) (fun m=>by rw[ki,X0 (by show ¬ ((fI es).length:Int)<((fI es).length:Int); omega)]; rfl) (fun m i hi=>by
  have hx:=X3 hi
  rw[ki,XW (by show (i:Int)<((fI es).length:Int); omega),bu,show (dZ self es).Leases=fI es from rfl,hx]
  simp only[XY,XV,n9]
  rw[show (dZ self es).Order=fp es from rfl,Hh (fp es) true i XL (by rw[wR]; exact hi)]
  by_cases h1:(fI es)[i]=l
  ·rw[XW h1]
   simp only[XY,XV]
   by_cases h2:mG true (fp es) i<s
   ·rw[XW (show ((mG true (fp es) i:Nat):Int)<(s:Int) by omega),XW (⟨YA some h1,h2⟩:some (fI es)[i]=some l/\_)]; rfl
   ·rw[X0 (show ¬ ((mG true (fp es) i:Nat):Int)<(s:Int) by omega),X0 (fun q=>h2 q.2)]; rfl
  ·rw[X0 h1,X0 (fun q=>h1 (by simpa using q.1))]; rfl) 8
 rw[BX,Ol] at this
 rw[this]
 cases (es.take s).any (pL l)<;>rfl
theorem JJ (self:Int) (es:List ar) (s:Nat) (c:av) (h:es.length<=100000):Li (dZ self es) (s:Int) c=some ((es.take s).any (pC c)):=by
 have hl:=oS es
 unfold Li OK
 have:=Fu (fP es).length j6 (kj aA (s:Int) (dZ self es) c.Bar c.Program) (fun i=>if decide ((fP es)[i]? = some c/\mG false (fp es) i<s) then some (.inl true) else none) (.inr ()) (fun m=>by rw[kj,X0 (by show ¬ ((fP es).length:Int)<((fP es).length:Int); omega)]; rfl) (fun m i hi=>by
  have hx:=X3 hi
  rw[kj,XW (by show (i:Int)<((fP es).length:Int); omega),bu,show (dZ self es).Calls=fP es from rfl,hx]
  simp only[XY,XV,wL]
  rw[show (dZ self es).Order=fp es from rfl,Hh (fp es) false i XL (by rw[wQ]; exact hi)]
  by_cases h1:(fP es)[i]=c
  ·rw[XW h1]
   simp only[XY,XV]
   by_cases h2:mG false (fp es) i<s
   ·rw[XW (show ((mG false (fp es) i:Nat):Int)<(s:Int) by omega),XW (⟨YA some h1,h2⟩:some (fP es)[i]=some c/\_)]; rfl
   ·rw[X0 (show ¬ ((mG false (fp es) i:Nat):Int)<(s:Int) by omega),X0 (fun q=>h2 q.2)]; rfl
  ·rw[X0 h1,X0 (fun q=>h1 (by simpa using q.1))]; rfl) 8
 rw[BX,Ok] at this
 rw[this]
 cases (es.take s).any (pC c)<;>rfl
theorem qx {T σ:Type} (l:List T) (p:T->Bool) (r e:σ):(l.findSome? (fun x=>if p x then none else some r)).getD e=if l.all p then e else r:=by
 induction l with
 | nil=>rfl
 | cons x l ih=>
  rw[qaR,qaX]
  cases p x with
  | false=>rfl
  | true=>simpa using ih
theorem Jx {L:List al} (h:L≠[]) (hl:L.length<=1000000):∃ x,bt L (wr .i64 ((L.length:Int) - 1))=some x/\x.Until=su L:=by
 cases hx:L.getLast? with
 | none=>rw[ZF] at hx; exact absurd hx h
 | some x=>exact⟨x,by rw[Cw _ j6 (qaQ.2 h),hx],by unfold su; rw[hx]⟩
theorem Uo (L:List al) (l:al):Gz l (L.length:Int) (su L)=some (oZ L l):=Nz l _ _
theorem Up (r:af) (l:al) (hr:kR r):Lm r l=some (l0 r l):=by
 obtain ⟨h1,h2,h3⟩:=hr
 unfold Lm Pa
 rw[iP 24 [] r.Leases j6 r8,XV,iP 24 _ _ j6 r8,XV,iP 1 [] r.Order j6 r8,XV,iP 1 _ _ j6 r8]
 rfl
theorem Xq (L:List al) (l:al) (h:L.length<=1000000):LO L l=some (decide (l∈L)):=by
 unfold LO O5 Pn Pg
 have:=Fu L.length h (kz aA L (L.length:Int) l) (fun i=>if L[i]? = some l then some (.inl (i:Int)) else none) (.inr ()) (fun m=>by rw[kz,X0 j6]; rfl) (fun m i hi=>by
  have hx:=X3 hi
  rw[kz,XW j6,bu,hx]
  simp only[XY,XV,n9]
  by_cases e:l=L[i]
  ·rw[XW e,X4 (YA some e.symm)]; rfl
  ·rw[X0 e,X8 (fun q=>e (Option.some.inj q).symm)]; rfl) 8
 rw[this]
 by_cases hm:l∈L
 ·rw[XW hm]
  cases hf:(List.range L.length).findSome? (fun i:Nat=>if L[i]? = some l then some (Sum.inl (i:Int):Int⊕Unit) else none) with
  | none=>
   obtain ⟨i,hi⟩:=qaG.1 hm
   have:=Z2.1 hf i (Yn.2 (X2.1 hi).1)
   rw[X4 hi] at this; cases this
  | some r=>
   obtain ⟨x,_,hx⟩:=qaE hf
   split at hx
   ·cases hx
    simp
   ·cases hx
 ·rw[X0 hm,Z2.2 (fun i _=>X8 fun e=>hm (Yk e))]; rfl
theorem dec (r:af) (a b:Int) (hr:kR r) (hc:gJ r=true) (hn:r.Leases≠[]):∃ y,Lg r a b=some y/\LG r a b=some y/\(y.1=r∨y.1=qQ∨∃ l,y.1=l0 r l):=by
 obtain ⟨h1,h2,h3⟩:=hr
 have h256:=(kD hc).2.2.2.2.1
 obtain ⟨x,hx,hu⟩:=Jx hn h1
 unfold Lg Ox LG OW
 rw[Dr r h1 h2 h3,KB ⟨h1,h2,h3⟩,hc,hx]
 simp only[Zh,XV,show (!((0:Int)==0))=false from rfl,show ((0:Int) != 0)=false from rfl,XX]
 rw[KD r _ j6,hu,Uo,show (x.Holder != r.Self) = !(x.Holder==r.Self) from rfl]
 cases x.Holder==r.Self with
 | false=>exact⟨_,rfl,rfl,.inr (.inl rfl)⟩
 | true=>
  cases oZ r.Leases (.mk (r.Leases.length:Int) a b) with
  | false=>exact⟨_,rfl,rfl,.inr (.inl rfl)⟩
  | true=>
   by_cases h:r.Leases.length<256
   ·rw[XW (show (r.Leases.length:Int)<256 by omega),show ((r.Leases.length:Int)==256)=false from r8,Cc r _ _ j6 j6,Up r _ ⟨h1,h2,h3⟩]
    exact⟨_,rfl,rfl,.inr (.inr ⟨_,rfl⟩)⟩
   ·rw[X0 (show ¬ (r.Leases.length:Int)<256 by omega),show ((r.Leases.length:Int)==256)=true from r8]
    exact⟨_,rfl,rfl,.inr (.inl rfl)⟩
theorem Xn (r:af) (l:al) (hr:kR r) (hc:gJ r=true) (hn:r.Leases≠[]):∃ y,LF r l=some y/\LH r l=some y/\(y.1=r∨y.1=qQ∨∃ l,y.1=l0 r l):=by
 obtain ⟨h1,h2,h3⟩:=hr
 have h256:=(kD hc).2.2.2.2.1
 obtain ⟨x,hx,hu⟩:=Jx hn h1
 unfold LF OS LH OX
 rw[Dr r h1 h2 h3,KB ⟨h1,h2,h3⟩,hc,hx,Xq _ _ h1,R8 _ _ h1]
 simp only[Zh,XV,show (!((0:Int)==0))=false from rfl,show ((0:Int) != 0)=false from rfl,XX]
 cases decide (l∈r.Leases) with
 | true=>exact⟨_,rfl,rfl,.inl rfl⟩
 | false=>
 rw[KD r _ j6,hu,Uo,show (x.Holder != r.Self) = !(x.Holder==r.Self) from rfl]
 cases x.Holder==r.Self with
 | true=>exact⟨_,rfl,rfl,.inr (.inl rfl)⟩
 | false=>
  cases oZ r.Leases l with
  | false=>exact⟨_,rfl,rfl,.inr (.inl rfl)⟩
  | true=>
   by_cases h:r.Leases.length<256
   ·rw[XW (show (r.Leases.length:Int)<256 by omega),show ((r.Leases.length:Int)==256)=false from r8,Cc r _ _ j6 j6,Up r _ ⟨h1,h2,h3⟩]
    exact⟨_,rfl,rfl,.inr (.inr ⟨_,rfl⟩)⟩
   ·rw[X0 (show ¬ (r.Leases.length:Int)<256 by omega),show ((r.Leases.length:Int)==256)=true from r8]
    exact⟨_,rfl,rfl,.inr (.inl rfl)⟩
theorem FD (self bar:Int) (L:List al):oh self L bar=match (if 0<=bar then nE bar L else none) with | some k=>(match L[k]? with | some x=>x.Holder==self | none=>false) | none=>false:=by
 unfold oh
 by_cases h:0<=bar
 ·have:=rm bar L L.length
  rw[List.take_length] at this
  rw[XW h,X4 h,this]
  cases hf:nE bar L with
  | none=>rfl
  | some k=>simp only[]; rw[X4 (qB hf)]; rfl
 ·rw[X0 h,X8 h]; rfl
theorem VY (r:af) (a b:Int) (hr:kR r) (hc:gJ r=true):∃ y,JV r a b=some y/\LI r a b=some y/\(y.1=r∨y.1=qQ∨∃ c,y.1=mO r c):=by
 obtain ⟨h1,h2,h3⟩:=hr
 rw[R6 r a b h1 h2 h3]
 unfold LI OY nF
 rw[KB ⟨h1,h2,h3⟩,hc,NA _ _ h1,uW,FD]
 simp only[Zh,XV,show ((0:Int) != 0)=false from rfl,XX,qag]
 cases hk:(if 0<=a then nE a r.Leases else none) with
 | none=>exact⟨_,rfl,rfl,.inr (.inl rfl)⟩
 | some k=>
  have hk2:k<r.Leases.length:=by
   split at hk
   ·exact qB hk
   ·cases hk
  simp only[]
  obtain ⟨x,hx⟩:∃ x,r.Leases[k]? = some x:=⟨_,X3 hk2⟩
  simp only[X0 (show ¬ ((k:Nat):Int)<0 by omega),bu,hx,XX,XV]
  cases kW b 1 8 with
  | false=>rw[Bool.and_false]; exact⟨_,rfl,rfl,.inr (.inl rfl)⟩
  | true=>
  rw[YY,show (x.Holder != r.Self) = !(x.Holder==r.Self) from rfl]
  cases x.Holder==r.Self with
  | false=>exact⟨_,rfl,rfl,.inr (.inl rfl)⟩
  | true=>
  rw[iP 16 [] r.Calls j6 r8,iP 1 [] r.Order j6 r8]
  simp only[XV,Y5]
  rw[iP 16 _ _ j6 r8,iP 1 _ _ j6 r8]
  cases hl:r.Calls.getLast? with
  | none=>
   rw[ZF] at hl
   rw[show decide (0<(r.Calls.length:Int))=false from by rw[hl]; rfl]
   exact⟨_,rfl,rfl,.inr (.inr ⟨_,rfl⟩)⟩
  | some d=>
   have hp:0<r.Calls.length:=qaQ.2 (fun e=>by rw[e] at hl; cases hl)
   rw[Cw _ j6 hp,hl,XW (show (0:Int)<(r.Calls.length:Int) by omega)]
   simp only[Yc,XX,XY,XV]
   by_cases hd:a<=d.Bar
   ·rw[XW hd,X8 r8]
    exact⟨_,rfl,rfl,.inr (.inl rfl)⟩
   ·rw[X0 hd,X4 r8]
    exact⟨_,rfl,rfl,.inr (.inr ⟨_,rfl⟩)⟩
section
def ZP:aC:=.mk (.mk 0 [] [] [],.mk 0 [] [] []) (0,0) [] ([],[])
def sm (k:Nat) (P:aC):Prop:=(∀ w,(pk w P.Desks).Leases.length<=k/\(pk w P.Desks).Calls.length<=k/\(pk w P.Desks).Order.length<=k/\(pk w P.Spoken).length<=k)/\P.Told.length<=k
noncomputable def GQ (r:af):List ar:=@dite _ (∃ es,(∀ x∈es,uI x)/\r=dZ r.Self es) (Classical.propDecidable _) (fun h=>h.choose) (fun _=>[])
theorem GR {r:af} (h:gJ r=true) (hr:eV r):(∀ x∈GQ r,uI x)/\r=dZ r.Self (GQ r):=by
 obtain ⟨es,h1,h2,_⟩:=yw h hr
 have hx:∃ es,(∀ x∈es,uI x)/\r=dZ r.Self es:=⟨es,h1,h2⟩
 rw[show GQ r=hx.choose from dif_pos hx]
 exact hx.choose_spec
def tj (P:aC) (w:Bool):Bool:=gJ (pk w P.Desks)&&((pk w P.Desks).Self==iw w)&&kW (pk w P.Synced) 1 ((pk w P.Desks).Order.length:Int)
noncomputable def es (P:aC) (w:Bool):List ar:=GQ (pk w P.Desks)
def sn (P:aC) (w:Bool):Nat:=(pk w P.Synced).toNat
noncomputable def sL (P:aC) (w:Bool) (l:al):Bool:=((es P w).take (sn P w)).any (pL l)
noncomputable def sC (P:aC) (w:Bool) (c:av):Bool:=((es P w).take (sn P w)).any (pC c)
noncomputable def zY (P:aC) (w:Bool):Bool:=(pk w P.Spoken).all (sC P w)
noncomputable def Lx (P:aC):Bool:=P.Told.all fun l=>sL P false l || sL P true l
variable {P:aC} (hP:sm 100 P) (ok:oW P)
theorem oA {k:Nat} {P:aC} (h:sm k P) (hk:k<=1000000) (w:Bool):kR (pk w P.Desks):=by
 have:=h.1 w
 exact⟨j6,j6,j6⟩
include hP ok in
theorem wU {w:Bool} (h:tj P w=true):(∀ x∈es P w,uI x)/\pk w P.Desks=dZ (iw w) (es P w)/\pk w P.Synced=(sn P w:Int)/\(es P w).length<=100/\sn P w<=(es P w).length/\gJ (dZ (iw w) (es P w))=true/\fI (es P w)≠[]:=by
 unfold tj at h
 simp only[XZ,Y4] at h
 obtain ⟨⟨h1,h2⟩,h3⟩:=h
 unfold kW at h3
 simp only[XZ,X6] at h3
 have okr:eV (pk w P.Desks):=match w with | false=>ok.1.1 | true=>ok.1.2
 obtain ⟨a1,a2⟩:=GR h1 okr
 rw[h2] at a2
 have hl:(es P w).length=(pk w P.Desks).Order.length:=by rw[a2]; exact(fD _).symm
 have:=hP.1 w
 refine⟨a1,a2,by unfold sn; omega,j6,by unfold sn; omega,(YA (gJ ·=true) a2).mp h1,fun he=>?_⟩
 obtain ⟨_,_,_,e1,_,e2⟩:=kD h1
 rw[a2] at e2
 have e3:(fp (es P w)).head? = some true:=e2
 cases hc:es P w with
 | nil=>rw[hc] at e3; cases e3
 | cons x l=>
  rw[hc] at e3 he
  rw[mq,X4 (show x.is=true from by simpa [fp] using e3)] at he
  cases he
theorem two {σ:Type} (G:Nat->Int->Option σ) (t:Bool->Bool) (a b:σ) (hG:∀ w m,G (m+1) (iw w)=if t w then G m (wr .i64 (iw w+1)) else some a) (hE:∀ m,G (m+1) 2=some b) (k:Nat):G (aA+k) 0=some (if t false&&t true then b else a):=by
 rw[show aA+k=aA+k - 3+1+1+1 from (by have:=mf 3 j6 k; omega),show (0:Int)=iw false from rfl,hG false]
 cases t false with
 | false=>rfl
 | true=>
  rw[X4 rfl,show wr .i64 (iw false+1)=iw true from rfl,hG true]
  cases t true with
  | false=>rfl
  | true=>rw[X4 rfl,show wr .i64 (iw true+1)=2 from rfl,hE]; rfl
include hP in
theorem v0 (d:bn) (a:Int):kX aA P.Desks.1 P.Desks.2 P d 0 [] [] [] 0 [] [] [] 0 0 [] [] [] 0 P a (aA+7) 0=some (if tj P false&&tj P true then .inr () else .inl ()):=
 two (kX aA P.Desks.1 P.Desks.2 P d 0 [] [] [] 0 [] [] [] 0 0 [] [] [] 0 P a) (tj P) (.inl ()) (.inr ()) (fun w m=>by
  obtain ⟨s1,s2,s3⟩:=oA hP j6 w
  rw[kX,show (bif decide (iw w=0) then some (P.Desks.1.Self,P.Desks.1.Leases,P.Desks.1.Calls,P.Desks.1.Order) else bif decide (iw w=1) then some (P.Desks.2.Self,P.Desks.2.Leases,P.Desks.2.Calls,P.Desks.2.Order) else none)
   = some ((pk w P.Desks).Self,(pk w P.Desks).Leases,(pk w P.Desks).Calls,(pk w P.Desks).Order) from by cases w<;>rfl]
  simp only[XY,XV,lE,lD,YM,fN,zt]
  rw[show af.mk (pk w P.Desks).Self (pk w P.Desks).Leases (pk w P.Desks).Calls (pk w P.Desks).Order=pk w P.Desks from rfl,Dr _ s1 s2 s3]
  unfold tj
  cases gJ (pk w P.Desks) with
  | false=>rfl
  | true=>
  cases (pk w P.Desks).Self==iw w with
  | false=>rfl
  | true=>
  rw[show (P.Synced.1,P.Synced.2)=P.Synced from rfl]
  cases kW (pk w P.Synced) 1 ((pk w P.Desks).Order.length:Int)<;>rfl) (fun m=>by rw[kX]; rfl) 7
include hP ok in
theorem v1 (h:∀ w,tj P w=true) (d:bn) (a:Int):kY aA P d 0 [] [] [] 0 [] [] [] 0 0 [] [] [] 0 P a (aA+7) 0=some (if zY P false&&zY P true then .inr () else .inl ()):=
 two (kY aA P d 0 [] [] [] 0 [] [] [] 0 0 [] [] [] 0 P a) (zY P) (.inl ()) (.inr ()) (fun w m=>by
  obtain ⟨_,h2,h3,h4,_⟩:=wU hP ok (h w)
  have hs:=(hP.1 w).2.2.2
  have:=rq (pk w P.Spoken) j6 (mI aA (iw w) (iw w) (pk w P.Spoken) ((pk w P.Spoken).length:Int) P d 0 [] [] [] 0 [] [] [] 0 0 [] [] [] 0 P a) (fun c=>if sC P w c then none else some (.inl ())) (.inr ()) (fun m=>by rw[mI,X0 j6]; rfl) (fun m i x hi hx=>by
   rw[mI,XW j6,bu,hx]
   simp only[XY,XV]
   rw[NC P a w x (es P w) (sn P w) h2 h3 j6]
   simp only[XV]
   rw[show ((es P w).take (sn P w)).any (pC x)=sC P w x from rfl]
   cases sC P w x<;>rfl) 7
  rw[qx] at this
  rw[kY]
  simp only[XY,XV,lE,lD,YM,fN]
  rw[show (P.Spoken.1,P.Spoken.2)=P.Spoken from rfl,this,show (pk w P.Spoken).all (sC P w)=zY P w from rfl]
  cases zY P w<;>rfl) (fun m=>by rw[kY]; rfl) 7
include hP ok in
theorem v3 (h:∀ w,tj P w=true) (d:bn) (a:Int):jP aA P.Told (P.Told.length:Int) P d 0 [] [] [] 0 [] [] [] 0 0 [] [] [] 0 P a (aA+7) 0=some (if Lx P then .inr (.inr ()) else .inl ()):=by
 obtain ⟨_,a2,a3,a4,_⟩:=wU hP ok (h false)
 obtain ⟨_,b2,b3,b4,_⟩:=wU hP ok (h true)
 have ht:=hP.2
 have:=rq P.Told j6 (jP aA P.Told (P.Told.length:Int) P d 0 [] [] [] 0 [] [] [] 0 0 [] [] [] 0 P a) (fun l=>if sL P false l || sL P true l then none else some (.inl ())) (.inr (.inr ())) (fun m=>by rw[jP,X0 j6]; rfl) (fun m i x hi hx=>by
  rw[jP,XW j6,bu,hx]
  simp only[XY,XV]
  rw[show (0:Int)=iw false from rfl,KE P a false x (es P false) (sn P false) a2 a3 j6]
  simp only[XV]
  rw[show al.mk x.No x.Holder x.Until=x from rfl,show (1:Int)=iw true from rfl,KE P a true x (es P true) (sn P true) b2 b3 j6,show ((es P true).take (sn P true)).any (pL x)=sL P true x from rfl,show ((es P false).take (sn P false)).any (pL x)=sL P false x from rfl]
  cases sL P false x with
  | true=>rfl
  | false=>cases sL P true x<;>rfl) 7
 rw[qx] at this
 exact this
include hP ok in
theorem Xc:LD P=some ((tj P false&&zY P false)&&(tj P true&&zY P true)&&Lx P):=by
 unfold LD OH
 have:=two (ke aA false P) (fun w=>tj P w&&zY P w) (.inl false) (.inr ()) (fun w m=>by
  obtain ⟨s1,s2,s3⟩:=oA hP j6 w
  have hs:=(hP.1 w).2.2.2
  rw[ke]
  simp only[XY,XV,lE,lD,YM,fN,uW]
  rw[show (P.Desks.1,P.Desks.2)=P.Desks from rfl,show (P.Synced.1,P.Synced.2)=P.Synced from rfl,KC _ ⟨s1,s2,s3⟩,show ((pk w P.Desks).Self != iw w) = !((pk w P.Desks).Self==iw w) from rfl]
  cases hd:tj P w with
  | false=>
   revert hd
   unfold tj
   cases gJ (pk w P.Desks) with
   | false=>exact fun _=>rfl
   | true=>
   cases (pk w P.Desks).Self==iw w with
   | false=>exact fun _=>rfl
   | true=>
   cases kW (pk w P.Synced) 1 ((pk w P.Desks).Order.length:Int) with
   | false=>exact fun _=>rfl
   | true=>exact fun h=>nomatch h
  | true=>
   obtain ⟨_,h2,h3,h4,_⟩:=wU hP ok hd
   unfold tj at hd
   rw[XZ,XZ] at hd
   obtain ⟨⟨e1,e2⟩,e3⟩:=hd
   rw[e1,e2,e3]
   simp only[Yc,XX,XV]
   have:=rq (pk w P.Spoken) j6 (kf aA (iw w) P (pk w P.Desks)) (fun c=>if sC P w c then none else some (.inl false)) (.inr ()) (fun m=>by
    rw[kf]
    simp only[lE,lD,YM,fN,XY,XV]
    rw[X0 (show ¬ ((pk w P.Spoken).length:Int)<((pk w P.Spoken).length:Int) by omega)]; rfl) (fun m i x hi hx=>by
    rw[kf]
    simp only[lE,lD,YM,fN,XY,XV]
    rw[show (P.Spoken.1,P.Spoken.2)=P.Spoken from rfl,show (P.Synced.1,P.Synced.2)=P.Synced from rfl,XW (show (i:Int)<((pk w P.Spoken).length:Int) by omega),bu,hx,h3]
    simp only[XY,XV]
    rw[h2,JJ _ _ _ _ j6,show ((es P w).take (sn P w)).any (pC x)=sC P w x from rfl]
    cases sC P w x<;>rfl) 8
   rw[qx] at this
   rw[this,show (pk w P.Spoken).all (sC P w)=zY P w from rfl]
   cases zY P w<;>rfl) (fun m=>by rw[ke]; rfl) 8
 rw[this]
 cases hd:((tj P false&&zY P false)&&(tj P true&&zY P true)) with
 | false=>rfl
 | true=>
 simp only[XZ] at hd
 obtain ⟨_,a2,a3,a4,_⟩:=wU hP ok hd.1.1
 obtain ⟨_,b2,b3,b4,_⟩:=wU hP ok hd.2.1
 have ht:=hP.2
 have:=rq P.Told j6 (kh aA P) (fun l=>if sL P false l || sL P true l then none else some (.inl false)) (.inr ()) (fun m=>by rw[kh,X0 j6]; rfl) (fun m i x hi hx=>by
  rw[kh,XW j6,bu,hx]
  simp only[XY,XV]
  rw[show P.Desks.1=dZ (iw false) (es P false) from a2,show P.Desks.2=dZ (iw true) (es P true) from b2,show P.Synced.1=(sn P false:Int) from a3,show P.Synced.2=(sn P true:Int) from b3,FC _ _ _ _ j6,FC _ _ _ _ j6,show ((es P true).take (sn P true)).any (pL x)=sL P true x from rfl,show ((es P false).take (sn P false)).any (pL x)=sL P false x from rfl]
  cases sL P false x with
  | true=>rfl
  | false=>cases sL P true x<;>rfl) 8
 rw[qx] at this
 simp only[Yg,Zh,XV]
 rw[this,show P.Told.all (fun l=>sL P false l || sL P true l)=Lx P from rfl]
 cases Lx P<;>rfl
end
section
variable {P:aC} (hP:sm 100 P) (ok:oW P)
def Ou (x y:Option (aC×Int)):Prop:=∃ z,x=some z/\y=some z/\sm 200 z.1
theorem zz (e:Int):Ou (some (ZP,e)) (some (ZP,e)):=⟨_,rfl,rfl,fun w=>by cases w<;>exact⟨YT _,YT _,YT _,YT _⟩,YT _⟩
theorem AR {T':Type} {L:List T'} {a:Int} (h:kW a 0 ((L.length:Int) - 1)=true):∃ x,bt L a=some x:=by
 unfold kW at h
 rw[XZ,X6,X6] at h
 obtain ⟨n,rfl⟩:∃ n:Nat,a=(n:Int):=⟨a.toNat,j6⟩
 exact⟨_,by rw[bu]; exact X3 j6⟩
include hP in
theorem Ps {w:Bool} (y:af×Int) (h:y.1.Leases.length<=200/\y.1.Calls.length<=200/\y.1.Order.length<=200) :
  Ou (bif (!(y.2==0)) then (bif (y.2 != 0) then (some (ZP,y.2)) else (some (ZP,0))) else (Option.bind (some (pk w ((y.1,P.Desks.2),(P.Desks.1,y.1)))) fun y6=>some (aC.mk (y6.1,y6.2) P.Synced P.Told P.Spoken,(0:Int))))
   (bif (y.2 != 0) then (some (ZP,y.2)) else (Option.bind (some (pk w ((y.1,P.Desks.2),(P.Desks.1,y.1)))) fun y6=>some (aC.mk (y6.1,y6.2) P.Synced P.Told P.Spoken,(0:Int)))):=by
 cases hy:(y.2==0) with
 | false=>
  rw[show (y.2 != 0) = !(y.2==0) from rfl,hy]
  exact zz _
 | true=>
  rw[show (y.2 != 0) = !(y.2==0) from rfl,hy]
  refine⟨_,rfl,rfl,fun v=>?_,by have:=hP.2; show P.Told.length<=200; omega⟩
  have h0:=hP.1 false
  have h1:=hP.1 true
  simp only[pk,Zh,Zb,ZU] at h0 h1
  cases w<;>cases v<;>simp only[pk,Zh,Zb,ZU]<;>omega
include hP in
theorem Kx {w:Bool} {y:af} (h:y=pk w P.Desks∨y=qQ∨((∃ l,y=l0 (pk w P.Desks) l)∨∃ c,y=mO (pk w P.Desks) c)):y.Leases.length<=200/\y.Calls.length<=200/\y.Order.length<=200:=by
 have:=hP.1 w
 rcases h with rfl | rfl | ⟨l,rfl⟩ | ⟨c,rfl⟩
 ·omega
 all_goals simp only[l0,mO,qQ,Ye,qaH,Z0]; omega
include hP in
theorem CE {Q:aC} (h1:Q.Desks=P.Desks) (h2:∀ v,pk v Q.Spoken=pk v P.Spoken∨∃ c,pk v Q.Spoken=pk v P.Spoken++[c]) (h3:Q.Told=P.Told∨∃ l,Q.Told=P.Told++[l]):sm 200 Q:=by
 refine⟨fun v=>?_,?_⟩
 ·have:=hP.1 v
  rw[h1]
  rcases h2 v with e | ⟨c,e⟩<;>rw[e]<;>(try simp only[Ye,qaH])<;>omega
 ·have:=hP.2
  rcases h3 with e | ⟨c,e⟩<;>rw[e]<;>(try simp only[Ye,qaH])<;>omega
def kd (n:Int):Option (Nat×Bool):=bif decide (n=1) then (some (24,true)) else bif decide (n=2) then (some (25,true)) else bif decide (n=3) then (some (26,true)) else bif decide (n=4) then (some (27,true)) else bif decide (n=5) then (some (28,true)) else bif decide (n=6) then (some (29,true)) else bif decide (n=7) then (some (30,true)) else (some (0,false))
theorem Ha (n:Int):∃ a,kd n=some a:=by
 unfold kd
 cases decide (n=1)<;>cases decide (n=2)<;>cases decide (n=3)<;>cases decide (n=4)<;>cases decide (n=5)<;>cases decide (n=6)<;>cases decide (n=7)<;>exact⟨_,rfl⟩
include hP ok in
theorem Mm (d:bn):Ou (G6 P d) (G7 P d):=by
 unfold G6 F6 G7 F7 Pm OL
 rw[v0 hP,Xc hP ok]
 cases hd:(tj P false&&tj P true) with
 | false=>
  rw[show ((tj P false&&zY P false)&&(tj P true&&zY P true)&&Lx P)=false from by
   revert hd
   cases tj P false<;>cases tj P true<;>simp]
  exact zz _
 | true=>
 rw[XZ] at hd
 have hk:∀ w,tj P w=true:=fun w=>match w with | false=>hd.1 | true=>hd.2
 rw[hd.1,hd.2,Yg,Yg]
 simp only[Zh,XV]
 rw[v1 hP ok hk]
 cases zY P false&&zY P true with
 | false=>exact zz _
 | true=>
 simp only[Zh,XV]
 rw[v3 hP ok hk]
 cases Lx P with
 | false=>exact zz _
 | true=>
 simp only[Zh,XV,YM,Yc,XX,zt,uW]
 obtain ⟨K,W,A,B⟩:=d
 simp only[]
 rw[show (bif decide (K=1) then (some (24,true)) else bif decide (K=2) then (some (25,true)) else bif decide (K=3) then (some (26,true)) else bif decide (K=4) then (some (27,true)) else bif decide (K=5) then (some (28,true)) else bif decide (K=6) then (some (29,true)) else bif decide (K=7) then (some (30,true)) else (some (0,false)))=kd K from rfl]
 cases hw:kW W 0 1 with
 | false=>
  obtain ⟨⟨a,b⟩,h⟩:=Ha K
  rw[h]
  cases b<;>exact zz _
 | true=>
 obtain ⟨w,rfl⟩:=Kt hw
 obtain ⟨h1,h2,h3,h4,h5,h6,h7⟩:=wU hP ok (hk w)
 have hsm:=oA hP j6 w
 have hpw:=hP.1 w
 have hpt:=hP.2
 have:K=1∨K=2∨K=3∨K=4∨K=5∨K=6∨K=7∨kd K=some (0,false)/\(K==1)=false/\(K==2)=false/\(K==3)=false/\(K==4)=false/\(K==5)=false/\(K==6)=false/\(K==7)=false:=by
  unfold kd
  simp only[ZS]
  by_cases a1:K=1; · exact .inl a1
  by_cases a2:K=2; · exact .inr (.inl a2)
  by_cases a3:K=3; · exact .inr (.inr (.inl a3))
  by_cases a4:K=4; · exact .inr (.inr (.inr (.inl a4)))
  by_cases a5:K=5; · exact .inr (.inr (.inr (.inr (.inl a5))))
  by_cases a6:K=6; · exact .inr (.inr (.inr (.inr (.inr (.inl a6)))))
  by_cases a7:K=7; · exact .inr (.inr (.inr (.inr (.inr (.inr (.inl a7))))))
  simp[a1,a2,a3,a4,a5,a6,a7]
 rcases this with rfl | rfl | rfl | rfl | rfl | rfl | rfl | ⟨e0,e1,e2,e3,e4,e5,e6,e7⟩
 ·
  rw[show kd 1=some (24,true) from rfl]
  simp only[XV,lE,lD,YM,fN,Int.reduceBEq,Nat.reduceEqDiff,Zu,ZC,XY,XX,Yc]
  rw[show pk w (P.Desks.1,P.Desks.2)=pk w P.Desks from rfl]
  obtain ⟨y,hy,hz,hl⟩:=dec (pk w P.Desks) A B hsm (by rw[h2]; exact h6) (by rw[h2]; exact h7)
  rw[hy,hz]
  exact Ps hP y (Kx hP (hl.imp_right (qbG .inl)))
 ·
  rw[show kd 2=some (25,true) from rfl]
  simp only[XV,lE,lD,YM,fN,Int.reduceBEq,Nat.reduceEqDiff,Zu,ZC,XY,XX,Yc]
  rw[eC j6 j6]
  cases hA:kW A 0 ((P.Told.length:Int) - 1) with
  | false=>exact zz _
  | true=>
  obtain ⟨t,ht⟩:=AR hA
  simp only[XV,Yc,XX,ht]
  rw[show pk w (P.Desks.1,P.Desks.2)=pk w P.Desks from rfl]
  obtain ⟨y,hy,hz,hl⟩:=Xn (pk w P.Desks) t hsm (by rw[h2]; exact h6) (by rw[h2]; exact h7)
  rw[hy,hz]
  exact Ps hP y (Kx hP (hl.imp_right (qbG .inl)))
 ·
  rw[show kd 3=some (26,true) from rfl]
  simp only[XV,lE,lD,YM,fN,Int.reduceBEq,Nat.reduceEqDiff,Zu,ZC,XY,XX,Yc]
  rw[show pk w (P.Desks.1,P.Desks.2)=pk w P.Desks from rfl]
  obtain ⟨y,hy,hz,hl⟩:=VY (pk w P.Desks) A B hsm (by rw[h2]; exact h6)
  rw[hy,hz]
  exact Ps hP y (Kx hP (hl.imp_right (qbG .inr)))
 ·
  rw[show kd 4=some (27,true) from rfl]
  simp only[XV,lE,lD,YM,fN,Int.reduceBEq,Nat.reduceEqDiff,Zu,ZC,XY,XX,Yc]
  rw[show pk w (P.Desks.1.Order,P.Desks.2.Order)=(pk w (P.Desks.1,P.Desks.2)).Order from by cases w<;>rfl]
  exact⟨_,rfl,rfl,CE hP rfl (fun _=>.inl rfl) (.inl rfl)⟩
 ·
  rw[show kd 5=some (28,true) from rfl]
  simp only[XV,lE,lD,YM,fN,Int.reduceBEq,Nat.reduceEqDiff,Zu,ZC,XY,XX,Yc]
  rw[show pk w (P.Desks.1.Leases,P.Desks.2.Leases)=(pk w P.Desks).Leases from by cases w<;>rfl,show pk w (P.Desks.1,P.Desks.2)=pk w P.Desks from rfl,show pk w (P.Synced.1,P.Synced.2)=pk w P.Synced from rfl,eC j6 j6]
  cases hA:kW A 0 (((pk w P.Desks).Leases.length:Int) - 1) with
  | false=>exact zz _
  | true=>
  obtain ⟨t,ht⟩:=AR hA
  simp only[XV,Yc,XX,ht]
  rw[KE P (iw w) w t (es P w) (sn P w) h2 h3 j6,h3,h2,FC _ _ _ _ j6]
  cases ((es P w).take (sn P w)).any (pL t) with
  | false=>exact zz _
  | true=>
  simp only[XV,Yc,XX]
  rw[Dw,iP 24 [] _ j6 r8]
  simp only[XV]
  rw[show []++P.Told=P.Told from rfl,iP 24 P.Told [t] j6 r8]
  exact⟨_,rfl,rfl,CE hP rfl (fun _=>.inl rfl) (.inr ⟨_,rfl⟩)⟩
 ·
  rw[show kd 6=some (29,true) from rfl]
  simp only[XV,lE,lD,YM,fN,Int.reduceBEq,Nat.reduceEqDiff,Zu,ZC,XY,XX,Yc]
  rw[show pk w (P.Desks.1.Calls,P.Desks.2.Calls)=(pk w P.Desks).Calls from by cases w<;>rfl,show pk w (P.Desks.1,P.Desks.2)=pk w P.Desks from rfl,show pk w (P.Synced.1,P.Synced.2)=pk w P.Synced from rfl,show pk w (P.Spoken.1,P.Spoken.2)=pk w P.Spoken from rfl,eC j6 j6]
  cases hA:kW A 0 (((pk w P.Desks).Calls.length:Int) - 1) with
  | false=>exact zz _
  | true=>
  obtain ⟨t,ht⟩:=AR hA
  simp only[XV,Yc,XX,ht]
  rw[NC P (iw w) w t (es P w) (sn P w) h2 h3 j6,h3,h2,JJ _ _ _ _ j6]
  cases ((es P w).take (sn P w)).any (pC t) with
  | false=>exact zz _
  | true=>
  simp only[XV,Yc,XX]
  rw[Dw,iP 16 [] _ j6 r8]
  simp only[XV]
  rw[show []++pk w P.Spoken=pk w P.Spoken from rfl,iP 16 (pk w P.Spoken) [t] j6 r8]
  cases w
  ·exact⟨_,rfl,rfl,CE hP rfl (fun v=>match v with | false=>.inr ⟨_,rfl⟩ | true=>.inl rfl) (.inl rfl)⟩
  ·exact⟨_,rfl,rfl,CE hP rfl (fun v=>match v with | true=>.inr ⟨_,rfl⟩ | false=>.inl rfl) (.inl rfl)⟩
 ·
  rw[show kd 7=some (30,true) from rfl]
  simp only[XV,lE,lD,YM,fN,Int.reduceBEq,Nat.reduceEqDiff,Zu,ZC,XY,XX,Yc]
  rw[show pk w (P.Desks.1,P.Desks.2)=pk w P.Desks from rfl,show pk w (P.Synced.1,P.Synced.2)=pk w P.Synced from rfl,h2,h3,show ((dZ (iw w) (es P w)).Order.length:Int)=((es P w).length:Int) from YA _ (fD _)]
  cases hA:kW A (sn P w:Int) ((es P w).length:Int) with
  | false=>exact zz _
  | true=>
  unfold kW at hA
  rw[XZ,X6,X6] at hA
  obtain ⟨n,rfl⟩:∃ n:Nat,A=(n:Int):=⟨A.toNat,j6⟩
  have hn2:n<=(es P w).length:=j6
  simp only[XV,Yc,XX]
  rw[Sc h6 h1 j6,Ny h1 j6]
  simp only[XV,show ((0:Int)==0)=true from rfl,Yc,XX]
  rw[NR _ n (by rw[Zc]; exact hn2)]
  simp only[XV]
  rw[<-qao,Nn (iw w) u3 (fun x hx=>h1 x (Yr hx)),Nx (iw w) u3 (fun x hx=>h1 x (Yr hx))]
  refine Ps hP _ ?_
  have hl:=oS ((es P w).take n)
  have ho:=fD ((es P w).take n)
  have ht:((es P w).take n).length<=100:=u3
  split
  ·exact⟨by show (fI _).length<=_; omega,by show (fP _).length<=_; omega,by show (fp _).length<=_; omega⟩
  ·exact⟨YT _,YT _,YT _⟩
 ·rw[e0,e1,e2,e3,e4,e5,e6,e7]
  cases w<;>exact zz _
theorem Th (h:sm 200 P):Lf P P=some true:=by
 unfold Lf Ov
 rw[two (ka aA P P) (fun _=>true) (.inl false) (.inr ()) (fun w m=>by
  have hs:=h.1 w
  rw[ka]
  simp only[XY,XV,lE,lD,YM,fN]
  rw[show (P.Desks.1,P.Desks.2)=P.Desks from rfl,show (P.Synced.1,P.Synced.2)=P.Synced from rfl,show (P.Spoken.1,P.Spoken.2)=P.Spoken from rfl,R5 _ _ (oA h j6 w) (oA h j6 w),Nq _ _ j6 j6,XW rfl,XW rfl,show (pk w P.Synced != pk w P.Synced)=false from r7]
  rfl) (fun m=>by rw[ka]; rfl) 8]
 have:=h.2
 simp only[YM,Zh,XV]
 rw[Np _ _ j6 j6,XW rfl]
 rfl
def DG (P:aC) (w:Bool):Bool:=!(decide (40<(pk w P.Desks).Leases.length) || decide (40<(pk w P.Desks).Calls.length) || decide (80<(pk w P.Desks).Order.length) || decide (40<(pk w P.Spoken).length))
theorem g5:G5 P=some (DG P false&&DG P true&&decide (P.Told.length<=40)):=by
 unfold G5 F5
 rw[two (pA aA false P) (DG P) (.inl false) (.inr ()) (fun w m=>by
  rw[pA]
  simp only[XY,XV,lE,lD,YM,fN]
  rw[show (P.Desks.1,P.Desks.2)=P.Desks from rfl,show (P.Spoken.1,P.Spoken.2)=P.Spoken from rfl,
   show decide ((40:Int)<((pk w P.Desks).Leases.length:Int))=decide (40<(pk w P.Desks).Leases.length) from XG,
   show decide ((40:Int)<((pk w P.Desks).Calls.length:Int))=decide (40<(pk w P.Desks).Calls.length) from XG,
   show decide ((80:Int)<((pk w P.Desks).Order.length:Int))=decide (80<(pk w P.Desks).Order.length) from XG,
   show decide ((40:Int)<((pk w P.Spoken).length:Int))=decide (40<(pk w P.Spoken).length) from XG]
  unfold DG
  cases decide (40<(pk w P.Desks).Leases.length)<;>cases decide (40<(pk w P.Desks).Calls.length)<;>cases decide (80<(pk w P.Desks).Order.length)<;>cases decide (40<(pk w P.Spoken).length)<;>rfl) (fun m=>by rw[pA]; rfl) 8]
 cases DG P false&&DG P true with
 | false=>rfl
 | true=>
  simp only[Zh,XV,Yg]
  rw[show decide ((P.Told.length:Int)<=40)=decide (P.Told.length<=40) from XG]
theorem Kr (h:(DG P false&&DG P true&&decide (P.Told.length<=40))=true):sm 100 P:=by
 rw[XZ,XZ,X6] at h
 refine⟨fun w=>?_,j6⟩
 have:DG P w=true:=match w with | false=>h.1.1 | true=>h.1.2
 unfold DG at this
 simp only[Za,YO,decide_eq_false_iff_not] at this
 omega
theorem nw (a h u:Int) (ha:kW a 0 1=true):∃ y,Gy a h u=some y/\Lj a h u=some y/\(y=(.mk a [.mk 0 h u] [] [true],0)/\(kW h 0 1&&kW u 1 4096)=true∨y=(qQ,1)/\(kW h 0 1&&kW u 1 4096)=false):=by
 unfold Gy Ow Lj OM
 rw[zt,zt,zt,uW,uW,uW,ha]
 cases kW h 0 1<;>cases kW u 1 4096<;>first | exact⟨_,rfl,rfl,.inl ⟨rfl,rfl⟩⟩ | exact⟨_,rfl,rfl,.inr ⟨rfl,rfl⟩⟩
theorem S2 (h u:Int):Ou (G8 h u) (G9 h u):=by
 obtain ⟨y,h1,h2,h3⟩:=nw 0 h u rfl
 obtain ⟨z,k1,k2,k3⟩:=nw 1 h u rfl
 unfold G8 F8 G9 F9
 rw[show aA+8=aA+5+1+1+1 from rfl,qR,show decide ((0:Int)<2)=true from rfl,h1,h2]
 rcases h3 with ⟨rfl,hc⟩ | ⟨rfl,hc⟩
 ·rcases k3 with ⟨rfl,_⟩ | ⟨_,hd⟩
  ·simp only[XY,XV]
   rw[show jL (0:Int) (af.mk 0 [al.mk 0 h u] [] [true],af.mk 0 [] [] []) (af.mk 0 [] [] [],af.mk 0 [al.mk 0 h u] [] [true])=some (af.mk 0 [al.mk 0 h u] [] [true],af.mk 0 [] [] []) from rfl,show jL (0:Int) ((1:Int),(0:Int)) (0,1)=some (1,0) from rfl]
   simp only[show (decide ((0:Int)<=0)&&true)=true from rfl,show ((0:Int) != 0)=false from rfl,XY,XX,XV,show wr .i64 (0+1)=1 from rfl]
   rw[qR,show decide ((1:Int)<2)=true from rfl,k1,k2]
   exact⟨_,rfl,rfl,fun w=>by cases w<;>exact⟨by show 1<=200; omega,YT _,by show 1<=200; omega,YT _⟩,YT _⟩
  ·rw[hc] at hd; cases hd
 ·exact zz _
theorem NQ:Je:=by
 intro P d h u o1 o2 o3 o4
 unfold G3 F3
 rw[Oh,g5]
 simp only[XV,Yc,XX]
 cases hf:(DG P false&&DG P true&&decide (P.Told.length<=40)) with
 | false=>rfl
 | true=>
 obtain ⟨x,x1,x2,x3⟩:=Mm (Kr hf) o1 d
 obtain ⟨y,y1,y2,y3⟩:=S2 h u
 rw[x1,x2,y1,y2]
 simp only[XV,Yc,XX]
 rw[Th x3,Th y3,show (x.2==x.2)=true from qaD _,show (y.2==y.2)=true from qaD _]
 rfl
end
section
open Go.RowKit Go.Deep
theorem own:ownKnob Tryz.prog.godebug=none:=j9
theorem laidOut:laidOutB Tryz.prog=true:=j9
end
end Go.Proofs.YtdmgdjnadbakfaaGreat
