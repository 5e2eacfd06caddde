/-
 What is proved of the functions, put together: by a tool.
-/
import Derived.Test.YtdmgdjnadbakfaaTb5
namespace Go.Proofs.Ytdmgdjnadbakfaa
open Go.Proofs.Try (prog)
set_option linter.unusedVariables false
set_option linter.unusedSimpArgs false
set_option maxHeartbeats 4000000
set_option maxRecDepth 100000
theorem fo:fT af:=fun x y h=>by
 unfold af at h
 simp only[List.cons.injEq,A.v.injEq,Value.int.injEq,Value.bool.injEq,Value.string.injEq,and_true,true_and] at h
 have h3:=rY x y (by simp[h])
 obtain ⟨xKind,xN,xS,lx⟩:=x; obtain ⟨yKind,yN,yS,ly⟩:=y
 simp_all
theorem cq:fT ae:=fun x y h=>by
 obtain ⟨xNo,xHolder,xUntil⟩:=x; obtain ⟨yNo,yHolder,yUntil⟩:=y
 simp only[ae,List.cons.injEq,A.v.injEq,A.imm.injEq,Value.int.injEq,Value.bool.injEq,Value.string.injEq,and_true,true_and] at h
 simp_all
theorem cV:fT ah:=fun x y h=>by
 obtain ⟨xBar,xProgram⟩:=x; obtain ⟨yBar,yProgram⟩:=y
 simp only[ah,List.cons.injEq,A.v.injEq,A.imm.injEq,Value.int.injEq,Value.bool.injEq,Value.string.injEq,and_true,true_and] at h
 simp_all
theorem BB:fT bK:=fun x y h=>by
 obtain ⟨xKind,xWho,xA,xB⟩:=x; obtain ⟨yKind,yWho,yA,yB⟩:=y
 simp only[bK,List.cons.injEq,A.v.injEq,A.imm.injEq,Value.int.injEq,Value.bool.injEq,Value.string.injEq,and_true,true_and] at h
 simp_all
noncomputable def C0:Nat->List A->Option A:=fun _ _=>none
def cd (C:Nat->List A->Option A):Prop:=∀ (k:Nat) (args:List A) (r:A),C k args=some r->eI prog (cx C0).glob k args r
theorem Ou:cd C0:=fun k args r h=>(by cases h)
theorem fB {C:Nat->List A->Option A} {k:Nat} {c:List A->Option A} (h:cd C) (hc:∀ args r,c args=some r->eI prog (cx C0).glob k args r):cd (gB C k c):=fun j args r hr=>by
 simp only[gB] at hr
 rw[bp] at hr
 split at hr
 ·rename_i hj
  rw[Nat.eq_of_beq_eq_true hj]; exact hc args r hr
 ·exact h j args r hr
theorem Hj {C:Nat->List A->Option A} (hC:cd C) (N k:Nat) (args:List A) (r:A) (h:MZ C N k args=some r):eI prog (cx C0).glob k args r:=by
 unfold MZ at h
 split at h
 ·rename_i x H he
  cases h
  exact po (cx:=cx C) (fun k args r _ h=>hC k args r h) (by kernel_rfl) he
 ·cases h
theorem CQ:∀ m,cd (Cn m)
 | 0=>fun k args r h=>(by cases h)
 | m+1=>fun k args r h=>Hj (CQ m) 1000 k args r h
theorem db {X Y:Type} {C:Nat->List A->Option A} {k:Nat} {x:X->List A} {G:X->Option Y} {f:Y->A} (hC:cd C) (h:∀ a,J (fun (o:R) y=>∃ v,o.1=.ret v/\aE o.2 v=f y) (av (cx C) (br (cx C) (aC+8)) (aI (cx C) (aC+8)) (aC+8) k (x a) [] 0) some (G a) some):cd (gB C k fun args=>bT x (fun a=>(G a).map f) args):=fB hC fun args r h'=>by
 obtain ⟨a,y,rfl,hy,rfl⟩:=dH h'
 exact zq (cx:=cx C) (fun k args r _ h=>hC k args r h) (by kernel_rfl) (h a) hy
def Pk (x:Int×Int×Int):List A:=[(iA x.1),(iA x.2.1),(iA x.2.2)]
theorem NB:fT Pk:=fun x y h=>by
 simp only[Pk,iL] at h
 obtain ⟨xa0,xa1,xa2⟩:=x
 obtain ⟨ya0,ya1,ya2⟩:=y
 simp_all
noncomputable def PN (args:List A):Option A:=bT Pk (fun x=>(BO x.1 x.2.1 x.2.2).map fun y=>(bA y)) args
noncomputable def C1:Nat->List A->Option A:=gB C0 47 PN
theorem HO:cd C1:=db Ou fun x=>QD C0 aC  x.1 x.2.1 x.2.2
def Em (x:Int×Int×Int):List A:=[(iA x.1),(iA x.2.1),(iA x.2.2)]
theorem Nr:fT Em:=fun x y h=>by
 simp only[Em,iL] at h
 obtain ⟨xa0,xa1,xa2⟩:=x
 obtain ⟨ya0,ya1,ya2⟩:=y
 simp_all
noncomputable def Ks (args:List A):Option A:=bT Em (fun x=>(G1 x.1 x.2.1 x.2.2).map fun y=>(A.tup [(A.agg [(iA y.1.Self),(A.imm (List.map ae y.1.Leases) false),(A.imm (List.map ah y.1.Calls) false),(A.imm (List.map cB y.1.Order) false)]),(iA y.2)])) args
theorem FL {C:Nat->List A->Option A} (h:∀ a,C 47 a=PN a):tD C:=fun a0 a1 a2=>(h _).trans (aQ _ NB (a0,a1,a2))
noncomputable def C2:Nat->List A->Option A:=gB C1 25 Ks
theorem HP:cd C2:=db HO fun x=>Qu C1 aC (FL fun _=>by kernel_rfl) x.1 x.2.1 x.2.2
def LX (x:aj×Int×Int):List A:=[(A.agg [(iA x.1.Self),(A.imm (List.map ae x.1.Leases) false),(A.imm (List.map ah x.1.Calls) false),(A.imm (List.map cB x.1.Order) false)]),(iA x.2.1),(iA x.2.2)]
theorem Ns:fT LX:=fun x y h=>by
 simp only[LX,iL,map_inj (cV),map_inj (cq),map_inj (fW)] at h
 obtain ⟨⟨xa0Self,xa0Leases,xa0Calls,xa0Order⟩,xa1,xa2⟩:=x
 obtain ⟨⟨ya0Self,ya0Leases,ya0Calls,ya0Order⟩,ya1,ya2⟩:=y
 simp_all
noncomputable def IA (args:List A):Option A:=bT LX (fun x=>(MM x.1 x.2.1 x.2.2).map fun y=>(A.tup [(A.agg [(iA y.1.Self),(A.imm (List.map ae y.1.Leases) false),(A.imm (List.map ah y.1.Calls) false),(A.imm (List.map cB y.1.Order) false)]),(iA y.2)])) args
theorem Na:∀ e∈K1,Cn 24 26 (LX e.1)=(fun (y:(aj×Int))=>some (A.tup [(A.agg [(iA y.1.Self),(A.imm (List.map ae y.1.Leases) false),(A.imm (List.map ah y.1.Calls) false),(A.imm (List.map cB y.1.Order) false)]),(iA y.2)])) e.2:=List.forall_mem_cons.2 ⟨JU,fun _ h=>absurd h List.not_mem_nil⟩
theorem Ol (args:List A) (r:A) (h:IA args=some r):eI prog (cx C0).glob 26 args r:=by
 obtain ⟨x,y,rfl,hy,rfl⟩:=dH h
 exact CQ 24 26 _ _ (Na (x,y) (sQ hy))
noncomputable def C3:Nat->List A->Option A:=gB C2 26 IA
theorem HQ:cd C3:=fB HP Ol
def Pw (x:aj):List A:=[(A.agg [(iA x.Self),(A.imm (List.map ae x.Leases) false),(A.imm (List.map ah x.Calls) false),(A.imm (List.map cB x.Order) false)])]
theorem NP:fT Pw:=fun x y h=>by
 simp only[Pw,iL,map_inj (cV),map_inj (cq),map_inj (fW)] at h
 obtain ⟨xa0Self,xa0Leases,xa0Calls,xa0Order⟩:=x
 obtain ⟨ya0Self,ya0Leases,ya0Calls,ya0Order⟩:=y
 simp_all
noncomputable def PZ (args:List A):Option A:=bT Pw (fun x=>(IZ x).map fun y=>(iA y)) args
noncomputable def C4:Nat->List A->Option A:=gB C3 74 PZ
theorem HR:cd C4:=db HQ fun x=>QQ C3 aC  x
def Pm (x:aj×ak):List A:=[(A.agg [(iA x.1.Self),(A.imm (List.map ae x.1.Leases) false),(A.imm (List.map ah x.1.Calls) false),(A.imm (List.map cB x.1.Order) false)]),(A.agg [(iA x.2.No),(iA x.2.Holder),(iA x.2.Until)])]
theorem NC:fT Pm:=fun x y h=>by
 simp only[Pm,iL,map_inj (cV),map_inj (cq),map_inj (fW)] at h
 obtain ⟨⟨xa0Self,xa0Leases,xa0Calls,xa0Order⟩,⟨xa1No,xa1Holder,xa1Until⟩⟩:=x
 obtain ⟨⟨ya0Self,ya0Leases,ya0Calls,ya0Order⟩,⟨ya1No,ya1Holder,ya1Until⟩⟩:=y
 simp_all
noncomputable def LO (args:List A):Option A:=bT Pm (fun x=>(Il x.1 x.2).map fun y=>(bA y)) args
theorem OW {C:Nat->List A->Option A} (h:∀ a,C 74 a=PZ a):F4 C:=fun a0=>(h _).trans (aQ _ NP a0)
noncomputable def C5:Nat->List A->Option A:=gB C4 50 LO
theorem HS:cd C5:=db HR fun x=>QE C4 aC (FL fun _=>by kernel_rfl) (OW fun _=>by kernel_rfl) x.1 x.2
def Px (x:aj×Int):List A:=[(A.agg [(iA x.1.Self),(A.imm (List.map ae x.1.Leases) false),(A.imm (List.map ah x.1.Calls) false),(A.imm (List.map cB x.1.Order) false)]),(iA x.2)]
theorem NQ:fT Px:=fun x y h=>by
 simp only[Px,iL,map_inj (cV),map_inj (cq),map_inj (fW)] at h
 obtain ⟨⟨xa0Self,xa0Leases,xa0Calls,xa0Order⟩,xa1⟩:=x
 obtain ⟨⟨ya0Self,ya0Leases,ya0Calls,ya0Order⟩,ya1⟩:=y
 simp_all
noncomputable def P0 (args:List A):Option A:=bT Px (fun x=>(I0 x.1 x.2).map fun y=>(bA y)) args
noncomputable def C6:Nat->List A->Option A:=gB C5 75 P0
theorem HT:cd C6:=db HS fun x=>QR C5 aC  x.1 x.2
def Pn (x:aj×ar):List A:=[(A.agg [(iA x.1.Self),(A.imm (List.map ae x.1.Leases) false),(A.imm (List.map ah x.1.Calls) false),(A.imm (List.map cB x.1.Order) false)]),(A.agg [(iA x.2.Bar),(iA x.2.Program)])]
theorem ND:fT Pn:=fun x y h=>by
 simp only[Pn,iL,map_inj (cV),map_inj (cq),map_inj (fW)] at h
 obtain ⟨⟨xa0Self,xa0Leases,xa0Calls,xa0Order⟩,⟨xa1Bar,xa1Program⟩⟩:=x
 obtain ⟨⟨ya0Self,ya0Leases,ya0Calls,ya0Order⟩,⟨ya1Bar,ya1Program⟩⟩:=y
 simp_all
noncomputable def LP (args:List A):Option A:=bT Pn (fun x=>(G2 x.1 x.2).map fun y=>(bA y)) args
theorem OX {C:Nat->List A->Option A} (h:∀ a,C 75 a=P0 a):F5 C:=fun a0 a1=>(h _).trans (aQ _ NQ (a0,a1))
noncomputable def C7:Nat->List A->Option A:=gB C6 51 LP
theorem HU:cd C7:=db HT fun x=>QF C6 aC (FL fun _=>by kernel_rfl) (OX fun _=>by kernel_rfl) x.1 x.2
def Pg (x:aj×al):List A:=[(A.agg [(iA x.1.Self),(A.imm (List.map ae x.1.Leases) false),(A.imm (List.map ah x.1.Calls) false),(A.imm (List.map cB x.1.Order) false)]),(A.agg [(bA x.2.is),(iA x.2.lease.No),(iA x.2.lease.Holder),(iA x.2.lease.Until),(iA x.2.call.Bar),(iA x.2.call.Program)])]
theorem Ny:fT Pg:=fun x y h=>by
 simp only[Pg,iL,map_inj (cV),map_inj (cq),map_inj (fW)] at h
 obtain ⟨⟨xa0Self,xa0Leases,xa0Calls,xa0Order⟩,⟨xa1is,⟨xa1leaseNo,xa1leaseHolder,xa1leaseUntil⟩,⟨xa1callBar,xa1callProgram⟩⟩⟩:=x
 obtain ⟨⟨ya0Self,ya0Leases,ya0Calls,ya0Order⟩,⟨ya1is,⟨ya1leaseNo,ya1leaseHolder,ya1leaseUntil⟩,⟨ya1callBar,ya1callProgram⟩⟩⟩:=y
 simp_all
noncomputable def Kx (args:List A):Option A:=bT Pg (fun x=>(BX x.1 x.2).map fun y=>(A.agg [(iA y.Self),(A.imm (List.map ae y.Leases) false),(A.imm (List.map ah y.Calls) false),(A.imm (List.map cB y.Order) false)])) args
noncomputable def C8:Nat->List A->Option A:=gB C7 33 Kx
theorem HV:cd C8:=db HU fun x=>QA C7 aC  x.1 x.2
def Pb (x:aj):List A:=[(A.agg [(iA x.Self),(A.imm (List.map ae x.Leases) false),(A.imm (List.map ah x.Calls) false),(A.imm (List.map cB x.Order) false)])]
theorem Nn:fT Pb:=fun x y h=>by
 simp only[Pb,iL,map_inj (cV),map_inj (cq),map_inj (fW)] at h
 obtain ⟨xa0Self,xa0Leases,xa0Calls,xa0Order⟩:=x
 obtain ⟨ya0Self,ya0Leases,ya0Calls,ya0Order⟩:=y
 simp_all
noncomputable def HE (args:List A):Option A:=bT Pb (fun x=>(Eu x).map fun y=>(iA y)) args
theorem HZ {C:Nat->List A->Option A} (h:∀ a,C 33 a=Kx a):tC C:=fun a0 a1=>(h _).trans (aQ _ Ny (a0,a1))
theorem OK {C:Nat->List A->Option A} (h:∀ a,C 50 a=LO a):B9 C:=fun a0 a1=>(h _).trans (aQ _ NC (a0,a1))
theorem KT {C:Nat->List A->Option A} (h:∀ a,C 51 a=LP a):zO C:=fun a0 a1=>(h _).trans (aQ _ ND (a0,a1))
noncomputable def C9:Nat->List A->Option A:=gB C8 20 HE
theorem HW:cd C9:=db HV fun x=>Qr C8 aC (HZ fun _=>by kernel_rfl) (FL fun _=>by kernel_rfl) (OK fun _=>by kernel_rfl) (KT fun _=>by kernel_rfl) x
def El (x:aj×Int×Int):List A:=[(A.agg [(iA x.1.Self),(A.imm (List.map ae x.1.Leases) false),(A.imm (List.map ah x.1.Calls) false),(A.imm (List.map cB x.1.Order) false)]),(iA x.2.1),(iA x.2.2)]
theorem Nq:fT El:=fun x y h=>by
 simp only[El,iL,map_inj (cV),map_inj (cq),map_inj (fW)] at h
 obtain ⟨⟨xa0Self,xa0Leases,xa0Calls,xa0Order⟩,xa1,xa2⟩:=x
 obtain ⟨⟨ya0Self,ya0Leases,ya0Calls,ya0Order⟩,ya1,ya2⟩:=y
 simp_all
noncomputable def E3 (args:List A):Option A:=bT El (fun x=>(ML x.1 x.2.1 x.2.2).map fun y=>(A.tup [(A.agg [(iA y.1.Self),(A.imm (List.map ae y.1.Leases) false),(A.imm (List.map ah y.1.Calls) false),(A.imm (List.map cB y.1.Order) false)]),(iA y.2)])) args
theorem FK {C:Nat->List A->Option A} (h:∀ a,C 20 a=HE a):q8 C:=fun a0=>(h _).trans (aQ _ Nn a0)
noncomputable def LY:Nat->List A->Option A:=gB C9 24 E3
theorem E5:cd LY:=db HW fun x=>Qt C9 aC (FK fun _=>by kernel_rfl) (HZ fun _=>by kernel_rfl) (KT fun _=>by kernel_rfl) x.1 x.2.1 x.2.2
def Ie (x:Int):List A:=[(A.v (.int .u64 x))]
theorem J1:fT Ie:=fun x y h=>by
 simp only[Ie,iL] at h
 exact h
noncomputable def Kq (args:List A):Option A:=bT Ie (fun x=>(BW x).map fun y=>(iA y)) args
noncomputable def LZ:Nat->List A->Option A:=gB LY 102 Kq
theorem E6:cd LZ:=db E5 fun x=>MP LY aC  x
def Pp (x:(List UInt8)):List A:=[(A.imm (List.map c8 x) false)]
theorem NI:fT Pp:=fun x y h=>by
 simp only[Pp,iL,map_inj (mF)] at h
 exact h
noncomputable def PS (args:List A):Option A:=bT Pp (fun x=>(IW x).map fun y=>(A.tup [(A.agg [(iA y.1.Kind),(iA y.1.N),(A.v (Value.string y.1.S)),(A.imm (List.map af y.1.L) false)]),(iA y.2)])) args
theorem KL {C:Nat->List A->Option A} (h:∀ a,C 102 a=Kq a):mN C:=fun a0=>(h _).trans (aQ _ J1 a0)
noncomputable def L0:Nat->List A->Option A:=gB LZ 59 PS
theorem E7:cd L0:=db E6 fun x=>QJ LZ aC (KL fun _=>by kernel_rfl) x
def Pf (x:(List UInt8)):List A:=[(A.imm (List.map c8 x) false)]
theorem Nx:fT Pf:=fun x y h=>by
 simp only[Pf,iL,map_inj (mF)] at h
 exact h
noncomputable def Kw (args:List A):Option A:=bT Pf (fun x=>(Ij x).map fun y=>(A.tup [(A.agg [(bA y.1.is),(iA y.1.lease.No),(iA y.1.lease.Holder),(iA y.1.lease.Until),(iA y.1.call.Bar),(iA y.1.call.Program)]),(bA y.2)])) args
theorem OO {C:Nat->List A->Option A} (h:∀ a,C 59 a=PS a):Cd C:=fun a0=>(h _).trans (aQ _ NI a0)
noncomputable def L3:Nat->List A->Option A:=gB L0 32 Kw
theorem E8:cd L3:=db E7 fun x=>Qz L0 aC (OO fun _=>by kernel_rfl) x
def xP (x:Int×(List (List UInt8))):List A:=[(iA x.1),(A.imm (List.map (cL c8) x.2) false)]
theorem Ng:fT xP:=fun x y h=>by
 simp only[xP,iL,map_inj (mF),map_inj (Ar (mF))] at h
 obtain ⟨xa0,xa1⟩:=x
 obtain ⟨ya0,ya1⟩:=y
 simp_all
noncomputable def BH (args:List A):Option A:=bT xP (fun x=>(FT x.1 x.2).map fun y=>(A.tup [(A.agg [(iA y.1.Self),(A.imm (List.map ae y.1.Leases) false),(A.imm (List.map ah y.1.Calls) false),(A.imm (List.map cB y.1.Order) false)]),(iA y.2)])) args
theorem OI {C:Nat->List A->Option A} (h:∀ a,C 32 a=Kw a):B7 C:=fun a0=>(h _).trans (aQ _ Nx a0)
noncomputable def L4:Nat->List A->Option A:=gB L3 11 BH
theorem E9:cd L4:=db E8 fun x=>Ql L3 aC (FK fun _=>by kernel_rfl) (OI fun _=>by kernel_rfl) (HZ fun _=>by kernel_rfl) x.1 x.2
def xJ (x:Int×Int):List A:=[(iA x.1),(iA x.2)]
theorem Nk:fT xJ:=fun x y h=>by
 simp only[xJ,iL] at h
 obtain ⟨xa0,xa1⟩:=x
 obtain ⟨ya0,ya1⟩:=y
 simp_all
noncomputable def Eh (args:List A):Option A:=bT xJ (fun x=>(MK x.1 x.2).map fun y=>(A.tup [(A.agg [(iA y.1.Desks.1.Self),(A.imm (List.map ae y.1.Desks.1.Leases) false),(A.imm (List.map ah y.1.Desks.1.Calls) false),(A.imm (List.map cB y.1.Desks.1.Order) false),(iA y.1.Desks.2.Self),(A.imm (List.map ae y.1.Desks.2.Leases) false),(A.imm (List.map ah y.1.Desks.2.Calls) false),(A.imm (List.map cB y.1.Desks.2.Order) false),(iA y.1.Synced.1),(iA y.1.Synced.2),(A.imm (List.map ae y.1.Told) false),(A.imm (List.map ah y.1.Spoken.1) false),(A.imm (List.map ah y.1.Spoken.2) false)]),(iA y.2)])) args
theorem KR {C:Nat->List A->Option A} (h:∀ a,C 25 a=Ks a):zM C:=fun a0 a1 a2=>(h _).trans (aQ _ Nr (a0,a1,a2))
noncomputable def PC:Nat->List A->Option A:=gB L4 15 Eh
theorem Fa:cd PC:=db E9 fun x=>Qp L4 aC (KR fun _=>by kernel_rfl) x.1 x.2
def D9 (x:bu×bG):List A:=[(A.agg [(iA x.1.Desks.1.Self),(A.imm (List.map ae x.1.Desks.1.Leases) false),(A.imm (List.map ah x.1.Desks.1.Calls) false),(A.imm (List.map cB x.1.Desks.1.Order) false),(iA x.1.Desks.2.Self),(A.imm (List.map ae x.1.Desks.2.Leases) false),(A.imm (List.map ah x.1.Desks.2.Calls) false),(A.imm (List.map cB x.1.Desks.2.Order) false),(iA x.1.Synced.1),(iA x.1.Synced.2),(A.imm (List.map ae x.1.Told) false),(A.imm (List.map ah x.1.Spoken.1) false),(A.imm (List.map ah x.1.Spoken.2) false)]),(A.agg [(iA x.2.Kind),(iA x.2.Who),(iA x.2.A),(iA x.2.B)])]
theorem Nl:fT D9:=fun x y h=>by
 simp only[D9,iL,map_inj (cV),map_inj (cq),map_inj (fW)] at h
 obtain ⟨⟨⟨⟨xa0Desks0Self,xa0Desks0Leases,xa0Desks0Calls,xa0Desks0Order⟩,⟨xa0Desks1Self,xa0Desks1Leases,xa0Desks1Calls,xa0Desks1Order⟩⟩,⟨xa0Synced0,xa0Synced1⟩,xa0Told,⟨xa0Spoken0,xa0Spoken1⟩⟩,⟨xa1Kind,xa1Who,xa1A,xa1B⟩⟩:=x
 obtain ⟨⟨⟨⟨ya0Desks0Self,ya0Desks0Leases,ya0Desks0Calls,ya0Desks0Order⟩,⟨ya0Desks1Self,ya0Desks1Leases,ya0Desks1Calls,ya0Desks1Order⟩⟩,⟨ya0Synced0,ya0Synced1⟩,ya0Told,⟨ya0Spoken0,ya0Spoken1⟩⟩,⟨ya1Kind,ya1Who,ya1A,ya1B⟩⟩:=y
 simp_all
noncomputable def DP (args:List A):Option A:=bT D9 (fun x=>(Ig x.1 x.2).map fun y=>(A.tup [(A.agg [(iA y.1.Desks.1.Self),(A.imm (List.map ae y.1.Desks.1.Leases) false),(A.imm (List.map ah y.1.Desks.1.Calls) false),(A.imm (List.map cB y.1.Desks.1.Order) false),(iA y.1.Desks.2.Self),(A.imm (List.map ae y.1.Desks.2.Leases) false),(A.imm (List.map ah y.1.Desks.2.Calls) false),(A.imm (List.map cB y.1.Desks.2.Order) false),(iA y.1.Synced.1),(iA y.1.Synced.2),(A.imm (List.map ae y.1.Told) false),(A.imm (List.map ah y.1.Spoken.1) false),(A.imm (List.map ah y.1.Spoken.2) false)]),(iA y.2)])) args
theorem M9:∀ e∈K0,Cn 24 17 (D9 e.1)=(fun (y:(bu×Int))=>some (A.tup [(A.agg [(iA y.1.Desks.1.Self),(A.imm (List.map ae y.1.Desks.1.Leases) false),(A.imm (List.map ah y.1.Desks.1.Calls) false),(A.imm (List.map cB y.1.Desks.1.Order) false),(iA y.1.Desks.2.Self),(A.imm (List.map ae y.1.Desks.2.Leases) false),(A.imm (List.map ah y.1.Desks.2.Calls) false),(A.imm (List.map cB y.1.Desks.2.Order) false),(iA y.1.Synced.1),(iA y.1.Synced.2),(A.imm (List.map ae y.1.Told) false),(A.imm (List.map ah y.1.Spoken.1) false),(A.imm (List.map ah y.1.Spoken.2) false)]),(iA y.2)])) e.2:=List.forall_mem_cons.2 ⟨JK,List.forall_mem_cons.2 ⟨JL,List.forall_mem_cons.2 ⟨JM,List.forall_mem_cons.2 ⟨JN,List.forall_mem_cons.2 ⟨JO,List.forall_mem_cons.2 ⟨JP,List.forall_mem_cons.2 ⟨JQ,List.forall_mem_cons.2 ⟨JR,List.forall_mem_cons.2 ⟨JS,List.forall_mem_cons.2 ⟨JT,List.forall_mem_cons.2 ⟨Hr,List.forall_mem_cons.2 ⟨Hs,fun _ h=>absurd h List.not_mem_nil⟩⟩⟩⟩⟩⟩⟩⟩⟩⟩⟩⟩
theorem Ok (args:List A) (r:A) (h:DP args=some r):eI prog (cx C0).glob 17 args r:=by
 obtain ⟨x,y,rfl,hy,rfl⟩:=dH h
 exact CQ 24 17 _ _ (M9 (x,y) (sQ hy))
noncomputable def L5:Nat->List A->Option A:=gB PC 17 DP
theorem Fb:cd L5:=fB Fa Ok
def En (x:bu×(List bG)):List A:=[(A.agg [(iA x.1.Desks.1.Self),(A.imm (List.map ae x.1.Desks.1.Leases) false),(A.imm (List.map ah x.1.Desks.1.Calls) false),(A.imm (List.map cB x.1.Desks.1.Order) false),(iA x.1.Desks.2.Self),(A.imm (List.map ae x.1.Desks.2.Leases) false),(A.imm (List.map ah x.1.Desks.2.Calls) false),(A.imm (List.map cB x.1.Desks.2.Order) false),(iA x.1.Synced.1),(iA x.1.Synced.2),(A.imm (List.map ae x.1.Told) false),(A.imm (List.map ah x.1.Spoken.1) false),(A.imm (List.map ah x.1.Spoken.2) false)]),(A.imm (List.map bK x.2) false)]
theorem Nt:fT En:=fun x y h=>by
 simp only[En,iL,map_inj (cV),map_inj (BB),map_inj (cq),map_inj (fW)] at h
 obtain ⟨⟨⟨⟨xa0Desks0Self,xa0Desks0Leases,xa0Desks0Calls,xa0Desks0Order⟩,⟨xa0Desks1Self,xa0Desks1Leases,xa0Desks1Calls,xa0Desks1Order⟩⟩,⟨xa0Synced0,xa0Synced1⟩,xa0Told,⟨xa0Spoken0,xa0Spoken1⟩⟩,xa1⟩:=x
 obtain ⟨⟨⟨⟨ya0Desks0Self,ya0Desks0Leases,ya0Desks0Calls,ya0Desks0Order⟩,⟨ya0Desks1Self,ya0Desks1Leases,ya0Desks1Calls,ya0Desks1Order⟩⟩,⟨ya0Synced0,ya0Synced1⟩,ya0Told,⟨ya0Spoken0,ya0Spoken1⟩⟩,ya1⟩:=y
 simp_all
noncomputable def HF (args:List A):Option A:=bT En (fun x=>(IT x.1 x.2).map fun y=>(A.tup [(A.agg [(iA y.1.Desks.1.Self),(A.imm (List.map ae y.1.Desks.1.Leases) false),(A.imm (List.map ah y.1.Desks.1.Calls) false),(A.imm (List.map cB y.1.Desks.1.Order) false),(iA y.1.Desks.2.Self),(A.imm (List.map ae y.1.Desks.2.Leases) false),(A.imm (List.map ah y.1.Desks.2.Calls) false),(A.imm (List.map cB y.1.Desks.2.Order) false),(iA y.1.Synced.1),(iA y.1.Synced.2),(A.imm (List.map ae y.1.Told) false),(A.imm (List.map ah y.1.Spoken.1) false),(A.imm (List.map ah y.1.Spoken.2) false)]),(bA y.2)])) args
theorem KO {C:Nat->List A->Option A} (h:∀ a,C 17 a=DP a):zJ C:=fun a0 a1=>(h _).trans (aQ _ Nl (a0,a1))
noncomputable def L6:Nat->List A->Option A:=gB L5 27 HF
theorem Fc:cd L6:=db Fb fun x=>Qv L5 aC (KO fun _=>by kernel_rfl) x.1 x.2
def Ek (x:(List ak)×(List ak)):List A:=[(A.imm (List.map ae x.1) false),(A.imm (List.map ae x.2) false)]
theorem Nm:fT Ek:=fun x y h=>by
 simp only[Ek,iL,map_inj (cq)] at h
 obtain ⟨xa0,xa1⟩:=x
 obtain ⟨ya0,ya1⟩:=y
 simp_all
noncomputable def HD (args:List A):Option A:=bT Ek (fun x=>(Ih x.1 x.2).map fun y=>(bA y)) args
noncomputable def L7:Nat->List A->Option A:=gB L6 19 HD
theorem Fe:cd L7:=db Fc fun x=>Qq L6 aC  x.1 x.2
def Pc (x:(List ar)×(List ar)):List A:=[(A.imm (List.map ah x.1) false),(A.imm (List.map ah x.2) false)]
theorem Np:fT Pc:=fun x y h=>by
 simp only[Pc,iL,map_inj (cV)] at h
 obtain ⟨xa0,xa1⟩:=x
 obtain ⟨ya0,ya1⟩:=y
 simp_all
noncomputable def Kr (args:List A):Option A:=bT Pc (fun x=>(Ii x.1 x.2).map fun y=>(bA y)) args
noncomputable def L8:Nat->List A->Option A:=gB L7 21 Kr
theorem Ff:cd L8:=db Fe fun x=>Qs L7 aC  x.1 x.2
def sY (x:aj×aj):List A:=[(A.agg [(iA x.1.Self),(A.imm (List.map ae x.1.Leases) false),(A.imm (List.map ah x.1.Calls) false),(A.imm (List.map cB x.1.Order) false)]),(A.agg [(iA x.2.Self),(A.imm (List.map ae x.2.Leases) false),(A.imm (List.map ah x.2.Calls) false),(A.imm (List.map cB x.2.Order) false)])]
theorem Nj:fT sY:=fun x y h=>by
 simp only[sY,iL,map_inj (cV),map_inj (cq),map_inj (fW)] at h
 obtain ⟨⟨xa0Self,xa0Leases,xa0Calls,xa0Order⟩,⟨xa1Self,xa1Leases,xa1Calls,xa1Order⟩⟩:=x
 obtain ⟨⟨ya0Self,ya0Leases,ya0Calls,ya0Order⟩,⟨ya1Self,ya1Leases,ya1Calls,ya1Order⟩⟩:=y
 simp_all
noncomputable def BS (args:List A):Option A:=bT sY (fun x=>(Ed x.1 x.2).map fun y=>(bA y)) args
theorem KP {C:Nat->List A->Option A} (h:∀ a,C 19 a=HD a):zK C:=fun a0 a1=>(h _).trans (aQ _ Nm (a0,a1))
theorem KQ {C:Nat->List A->Option A} (h:∀ a,C 21 a=Kr a):zL C:=fun a0 a1=>(h _).trans (aQ _ Np (a0,a1))
noncomputable def L9:Nat->List A->Option A:=gB L8 14 BS
theorem AE:cd L9:=db Ff fun x=>Qo L8 aC (KP fun _=>by kernel_rfl) (KQ fun _=>by kernel_rfl) x.1 x.2
def K6 (x:ai):List A:=[(A.agg [(iA x.Kind),(iA x.N),(A.v (Value.string x.S)),(A.imm (List.map af x.L) false)])]
theorem J3:fT K6:=fun x y h=>by
 simp only[K6,iL,map_inj (fo)] at h
 obtain ⟨xa0Kind,xa0N,xa0S,xa0L⟩:=x
 obtain ⟨ya0Kind,ya0N,ya0S,ya0L⟩:=y
 simp_all
noncomputable def Og (args:List A):Option A:=bT K6 (fun x=>(LH x).map fun y=>(A.tup [(iA y.1),(bA y.2)])) args
noncomputable def HI (q:Nat) (args:List A):Option A:=bT K6 (fun x=>(Ge q x).map fun y=>(A.tup [(iA y.1),(bA y.2)])) args
noncomputable def xQ (q:Nat):Nat->List A->Option A:=gB L9 91 (HI q)
theorem Sa (q:Nat):xY (xQ q) (Ge q):=fun a0=>(by kernel_rfl:_=HI q (K6 a0)).trans (aQ _ J3 a0)
theorem GN:∀ (q:Nat) (args:List A) (r:A) (h:HI q args=some r),eI prog (cx C0).glob 91 args r
 | 0,args,r,h=>by
  obtain ⟨x,y,rfl,hy,rfl⟩:=dH h
  cases hy
 | q+1,args,r,h=>by
  obtain ⟨x,y,rfl,hy,rfl⟩:=dH h
  exact zq (f:=fun (y:(Int×Bool))=>(A.tup [(iA y.1),(bA y.2)])) (cx:=cx (xQ q)) (fun k args r _ h=>fB AE (GN q) k args r h) (by kernel_rfl) (QW (xQ q) aC  (Ge q) (Sa q) x) hy
theorem On (args:List A) (r:A) (h:Og args=some r):eI prog (cx C0).glob 91 args r:=GN aC args r h
noncomputable def Ma:Nat->List A->Option A:=gB L9 91 Og
theorem Fg:cd Ma:=fB AE On
def Py (x:ai):List A:=[(A.agg [(iA x.Kind),(iA x.N),(A.v (Value.string x.S)),(A.imm (List.map af x.L) false)])]
theorem NR:fT Py:=fun x y h=>by
 simp only[Py,iL,map_inj (fo)] at h
 obtain ⟨xa0Kind,xa0N,xa0S,xa0L⟩:=x
 obtain ⟨ya0Kind,ya0N,ya0S,ya0L⟩:=y
 simp_all
noncomputable def P1 (args:List A):Option A:=bT Py (fun x=>(I1 x).map fun y=>(iA y)) args
theorem O0 {C:Nat->List A->Option A} (h:∀ a,C 91 a=Og a):F6 C:=fun a0=>(h _).trans (aQ _ J3 a0)
noncomputable def Mc:Nat->List A->Option A:=gB Ma 76 P1
theorem Fh:cd Mc:=db Fg fun x=>QS Ma aC (O0 fun _=>by kernel_rfl) x
def PB (x:Int):List A:=[(iA x)]
theorem NU:fT PB:=fun x y h=>by
 simp only[PB,iL] at h
 exact h
noncomputable def P4 (args:List A):Option A:=bT PB (fun x=>(G6 x).map fun y=>(A.v (.int .u64 y))) args
noncomputable def Md:Nat->List A->Option A:=gB Mc 94 P4
theorem Fi:cd Md:=db Fh fun x=>QX Mc aC  x
def Ep (x:ai):List A:=[(A.agg [(iA x.Kind),(iA x.N),(A.v (Value.string x.S)),(A.imm (List.map af x.L) false)])]
theorem NF:fT Ep:=fun x y h=>by
 simp only[Ep,iL,map_inj (fo)] at h
 obtain ⟨xa0Kind,xa0N,xa0S,xa0L⟩:=x
 obtain ⟨ya0Kind,ya0N,ya0S,ya0L⟩:=y
 simp_all
noncomputable def PO (args:List A):Option A:=bT Ep (fun x=>(Im x).map fun y=>(A.tup [(A.imm (List.map c8 y.1) false),(iA y.2)])) args
theorem OY {C:Nat->List A->Option A} (h:∀ a,C 76 a=P1 a):q9 C:=fun a0=>(h _).trans (aQ _ NR a0)
theorem O1 {C:Nat->List A->Option A} (h:∀ a,C 94 a=P4 a):kz C:=fun a0=>(h _).trans (aQ _ NU a0)
noncomputable def Me:Nat->List A->Option A:=gB Md 56 PO
theorem Fj:cd Me:=db Fi fun x=>QG Md aC (OY fun _=>by kernel_rfl) (O1 fun _=>by kernel_rfl) x
def Eo (x:(List Int)):List A:=[(A.imm (List.map (cI .i64) x) false)]
theorem Nu:fT Eo:=fun x y h=>by
 simp only[Eo,iL,map_inj (Gv .i64)] at h
 exact h
noncomputable def Kt (args:List A):Option A:=bT Eo (fun x=>(FU x).map fun y=>(A.imm (List.map c8 y) false)) args
theorem OL {C:Nat->List A->Option A} (h:∀ a,C 56 a=PO a):Ca C:=fun a0=>(h _).trans (aQ _ NF a0)
noncomputable def Mf:Nat->List A->Option A:=gB Me 29 Kt
theorem Fk:cd Mf:=db Fj fun x=>Qw Me aC (OL fun _=>by kernel_rfl) x
def x9 (x:aj):List A:=[(A.agg [(iA x.Self),(A.imm (List.map ae x.Leases) false),(A.imm (List.map ah x.Calls) false),(A.imm (List.map cB x.Order) false)])]
theorem R2:fT x9:=fun x y h=>by
 simp only[x9,iL,map_inj (cV),map_inj (cq),map_inj (fW)] at h
 obtain ⟨xa0Self,xa0Leases,xa0Calls,xa0Order⟩:=x
 obtain ⟨ya0Self,ya0Leases,ya0Calls,ya0Order⟩:=y
 simp_all
noncomputable def o9 (args:List A):Option A:=bT x9 (fun x=>(G9 x).map fun y=>(A.tup [(A.imm (List.map (cL c8) y.1) false),(iA y.2)])) args
theorem OE {C:Nat->List A->Option A} (h:∀ a,C 29 a=Kt a):B6 C:=fun a0=>(h _).trans (aQ _ Nu a0)
noncomputable def Mg:Nat->List A->Option A:=gB Mf 9 o9
theorem Fl:cd Mg:=db Fk fun x=>T9 Mf aC (FK fun _=>by kernel_rfl) (OE fun _=>by kernel_rfl) x
def x7 (x:Unit):List A:=[]
theorem R0:fT x7:=fun _ _ _=>rfl
noncomputable def o7 (args:List A):Option A:=bT x7 (fun x=>(G7 ).map fun y=>(bA y)) args
theorem KM {C:Nat->List A->Option A} (h:∀ a,C 11 a=BH a):zH C:=fun a0 a1=>(h _).trans (aQ _ Ng (a0,a1))
theorem KN {C:Nat->List A->Option A} (h:∀ a,C 14 a=BS a):zI C:=fun a0 a1=>(h _).trans (aQ _ Nj (a0,a1))
theorem OA {C:Nat->List A->Option A} (h:∀ a,C 15 a=Eh a):FV C:=fun a0 a1=>(h _).trans (aQ _ Nk (a0,a1))
theorem OB {C:Nat->List A->Option A} (h:∀ a,C 24 a=E3 a):FW C:=fun a0 a1 a2=>(h _).trans (aQ _ Nq (a0,a1,a2))
theorem OC {C:Nat->List A->Option A} (h:∀ a,C 26 a=IA a):FX C:=fun a0 a1 a2=>(h _).trans (aQ _ Ns (a0,a1,a2))
theorem OD {C:Nat->List A->Option A} (h:∀ a,C 27 a=HF a):FY C:=fun a0 a1=>(h _).trans (aQ _ Nt (a0,a1))
theorem Qe {C:Nat->List A->Option A} (h:∀ a,C 9 a=o9 a):Ex C:=fun a0=>(h _).trans (aQ _ R2 a0)
noncomputable def Mh:Nat->List A->Option A:=gB Mg 7 o7
theorem Fm:cd Mh:=db Fl fun x=>T7 Mg aC (KM fun _=>by kernel_rfl) (KN fun _=>by kernel_rfl) (OA fun _=>by kernel_rfl) (KO fun _=>by kernel_rfl) (KP fun _=>by kernel_rfl) (FK fun _=>by kernel_rfl) (KQ fun _=>by kernel_rfl) (OB fun _=>by kernel_rfl) (KR fun _=>by kernel_rfl) (OC fun _=>by kernel_rfl) (OD fun _=>by kernel_rfl) (Qe fun _=>by kernel_rfl)
def x8 (x:aj):List A:=[(A.agg [(iA x.Self),(A.imm (List.map ae x.Leases) false),(A.imm (List.map ah x.Calls) false),(A.imm (List.map cB x.Order) false)])]
theorem R1:fT x8:=fun x y h=>by
 simp only[x8,iL,map_inj (cV),map_inj (cq),map_inj (fW)] at h
 obtain ⟨xa0Self,xa0Leases,xa0Calls,xa0Order⟩:=x
 obtain ⟨ya0Self,ya0Leases,ya0Calls,ya0Order⟩:=y
 simp_all
noncomputable def o8 (args:List A):Option A:=bT x8 (fun x=>(G8 x).map fun y=>(bA y)) args
noncomputable def Mi:Nat->List A->Option A:=gB Mh 8 o8
theorem Fo:cd Mi:=db Fm fun x=>T8 Mh aC  x
def Pr (x:Int×Int×Int):List A:=[(iA x.1),(iA x.2.1),(iA x.2.2)]
theorem NK:fT Pr:=fun x y h=>by
 simp only[Pr,iL] at h
 obtain ⟨xa0,xa1,xa2⟩:=x
 obtain ⟨ya0,ya1,ya2⟩:=y
 simp_all
noncomputable def PU (args:List A):Option A:=bT Pr (fun x=>(Ev x.1 x.2.1 x.2.2).map fun y=>(bA y)) args
noncomputable def Mj:Nat->List A->Option A:=gB Mi 64 PU
theorem Fp:cd Mj:=db Fo fun x=>QL Mi aC  x.1 x.2.1 x.2.2
def Ps (x:(List Bool)):List A:=[(A.imm (List.map cB x) false)]
theorem NL:fT Ps:=fun x y h=>by
 simp only[Ps,iL,map_inj (fW)] at h
 exact h
noncomputable def PV (args:List A):Option A:=bT Ps (fun x=>(IY x).map fun y=>(iA y)) args
noncomputable def Mk:Nat->List A->Option A:=gB Mj 65 PV
theorem Fq:cd Mk:=db Fp fun x=>QM Mj aC  x
def Pt (x:ak×Int×Int):List A:=[(A.agg [(iA x.1.No),(iA x.1.Holder),(iA x.1.Until)]),(iA x.2.1),(iA x.2.2)]
theorem NM:fT Pt:=fun x y h=>by
 simp only[Pt,iL] at h
 obtain ⟨⟨xa0No,xa0Holder,xa0Until⟩,xa1,xa2⟩:=x
 obtain ⟨⟨ya0No,ya0Holder,ya0Until⟩,ya1,ya2⟩:=y
 simp_all
noncomputable def PW (args:List A):Option A:=bT Pt (fun x=>(Iq x.1 x.2.1 x.2.2).map fun y=>(bA y)) args
theorem KU {C:Nat->List A->Option A} (h:∀ a,C 64 a=PU a):vT C:=fun a0 a1 a2=>(h _).trans (aQ _ NK (a0,a1,a2))
noncomputable def Ml:Nat->List A->Option A:=gB Mk 66 PW
theorem Fs:cd Ml:=db Fq fun x=>QN Mk aC (KU fun _=>by kernel_rfl) x.1 x.2.1 x.2.2
def Pu (x:(List ak)×Int):List A:=[(A.imm (List.map ae x.1) false),(iA x.2)]
theorem NN:fT Pu:=fun x y h=>by
 simp only[Pu,iL,map_inj (cq)] at h
 obtain ⟨xa0,xa1⟩:=x
 obtain ⟨ya0,ya1⟩:=y
 simp_all
noncomputable def PX (args:List A):Option A:=bT Pu (fun x=>(G5 x.1 x.2).map fun y=>(iA y)) args
noncomputable def Mm:Nat->List A->Option A:=gB Ml 67 PX
theorem Ft:cd Mm:=db Fs fun x=>QO Ml aC  x.1 x.2
def Pv (x:(List Bool)×Bool×Int):List A:=[(A.imm (List.map cB x.1) false),(bA x.2.1),(iA x.2.2)]
theorem NO:fT Pv:=fun x y h=>by
 simp only[Pv,iL,map_inj (fW)] at h
 obtain ⟨xa0,xa1,xa2⟩:=x
 obtain ⟨ya0,ya1,ya2⟩:=y
 simp_all
noncomputable def PY (args:List A):Option A:=bT Pv (fun x=>(Ee x.1 x.2.1 x.2.2).map fun y=>(iA y)) args
noncomputable def Mn:Nat->List A->Option A:=gB Mm 68 PY
theorem Fu:cd Mn:=db Ft fun x=>QP Mm aC  x.1 x.2.1 x.2.2
def Pj (x:aj):List A:=[(A.agg [(iA x.Self),(A.imm (List.map ae x.Leases) false),(A.imm (List.map ah x.Calls) false),(A.imm (List.map cB x.Order) false)])]
theorem NA:fT Pj:=fun x y h=>by
 simp only[Pj,iL,map_inj (cV),map_inj (cq),map_inj (fW)] at h
 obtain ⟨xa0Self,xa0Leases,xa0Calls,xa0Order⟩:=x
 obtain ⟨ya0Self,ya0Leases,ya0Calls,ya0Order⟩:=y
 simp_all
noncomputable def Ky (args:List A):Option A:=bT Pj (fun x=>(Ik x).map fun y=>(bA y)) args
theorem OQ {C:Nat->List A->Option A} (h:∀ a,C 65 a=PV a):zP C:=fun a0=>(h _).trans (aQ _ NL a0)
theorem OS {C:Nat->List A->Option A} (h:∀ a,C 66 a=PW a):zQ C:=fun a0 a1 a2=>(h _).trans (aQ _ NM (a0,a1,a2))
theorem OU {C:Nat->List A->Option A} (h:∀ a,C 67 a=PX a):zR C:=fun a0 a1=>(h _).trans (aQ _ NN (a0,a1))
theorem OV {C:Nat->List A->Option A} (h:∀ a,C 68 a=PY a):zS C:=fun a0 a1 a2=>(h _).trans (aQ _ NO (a0,a1,a2))
noncomputable def Mo:Nat->List A->Option A:=gB Mn 35 Ky
theorem Fv:cd Mo:=db Fu fun x=>QC Mn aC (KU fun _=>by kernel_rfl) (OQ fun _=>by kernel_rfl) (OS fun _=>by kernel_rfl) (OU fun _=>by kernel_rfl) (OV fun _=>by kernel_rfl) x
def Pd (x:aj):List A:=[(A.agg [(iA x.Self),(A.imm (List.map ae x.Leases) false),(A.imm (List.map ah x.Calls) false),(A.imm (List.map cB x.Order) false)])]
theorem Nv:fT Pd:=fun x y h=>by
 simp only[Pd,iL,map_inj (cV),map_inj (cq),map_inj (fW)] at h
 obtain ⟨xa0Self,xa0Leases,xa0Calls,xa0Order⟩:=x
 obtain ⟨ya0Self,ya0Leases,ya0Calls,ya0Order⟩:=y
 simp_all
noncomputable def Ku (args:List A):Option A:=bT Pd (fun x=>(IU x).map fun y=>(iA y)) args
theorem KS {C:Nat->List A->Option A} (h:∀ a,C 35 a=Ky a):zN C:=fun a0=>(h _).trans (aQ _ NA a0)
noncomputable def Mp:Nat->List A->Option A:=gB Mo 30 Ku
theorem Fw:cd Mp:=db Fv fun x=>Qx Mo aC (KS fun _=>by kernel_rfl) x
def Pz (x:Int):List A:=[(iA x)]
theorem NS:fT Pz:=fun x y h=>by
 simp only[Pz,iL] at h
 exact h
noncomputable def P2 (args:List A):Option A:=bT Pz (fun x=>(LG x).map fun y=>(A.agg [(iA y.Kind),(iA y.N),(A.v (Value.string y.S)),(A.imm (List.map af y.L) false)])) args
noncomputable def Mq:Nat->List A->Option A:=gB Mp 78 P2
theorem Fx:cd Mq:=db Fw fun x=>QT Mp aC  x
def Er (x:(List Int)):List A:=[(A.imm (List.map (cI .i64) x) false)]
theorem NG:fT Er:=fun x y h=>by
 simp only[Er,iL,map_inj (Gv .i64)] at h
 exact h
noncomputable def PQ (args:List A):Option A:=bT Er (fun x=>(Ip x).map fun y=>(A.agg [(iA y.Kind),(iA y.N),(A.v (Value.string y.S)),(A.imm (List.map af y.L) false)])) args
theorem OZ {C:Nat->List A->Option A} (h:∀ a,C 78 a=P2 a):Cf C:=fun a0=>(h _).trans (aQ _ NS a0)
noncomputable def Mr:Nat->List A->Option A:=gB Mq 57 PQ
theorem AF:cd Mr:=db Fx fun x=>QH Mq aC (OZ fun _=>by kernel_rfl) x
def K7 (x:ai):List A:=[(A.agg [(iA x.Kind),(iA x.N),(A.v (Value.string x.S)),(A.imm (List.map af x.L) false)])]
theorem J4:fT K7:=fun x y h=>by
 simp only[K7,iL,map_inj (fo)] at h
 obtain ⟨xa0Kind,xa0N,xa0S,xa0L⟩:=x
 obtain ⟨ya0Kind,ya0N,ya0S,ya0L⟩:=y
 simp_all
noncomputable def Oh (args:List A):Option A:=bT K7 (fun x=>(LI x).map fun y=>(bA y)) args
noncomputable def HJ (q:Nat) (args:List A):Option A:=bT K7 (fun x=>(Gf q x).map fun y=>(bA y)) args
noncomputable def xR (q:Nat):Nat->List A->Option A:=gB Mr 97 (HJ q)
theorem Sb (q:Nat):xZ (xR q) (Gf q):=fun a0=>(by kernel_rfl:_=HJ q (K7 a0)).trans (aQ _ J4 a0)
theorem GO:∀ (q:Nat) (args:List A) (r:A) (h:HJ q args=some r),eI prog (cx C0).glob 97 args r
 | 0,args,r,h=>by
  obtain ⟨x,y,rfl,hy,rfl⟩:=dH h
  cases hy
 | q+1,args,r,h=>by
  obtain ⟨x,y,rfl,hy,rfl⟩:=dH h
  exact zq (f:=fun (y:Bool)=>(bA y)) (cx:=cx (xR q)) (fun k args r _ h=>fB AF (GO q) k args r h) (by kernel_rfl) (QY (xR q) aC  (Gf q) (Sb q) x) hy
theorem Oo (args:List A) (r:A) (h:Oh args=some r):eI prog (cx C0).glob 97 args r:=GO aC args r h
noncomputable def Ms:Nat->List A->Option A:=gB Mr 97 Oh
theorem AG:cd Ms:=fB AF Oo
def K8 (x:ai):List A:=[(A.agg [(iA x.Kind),(iA x.N),(A.v (Value.string x.S)),(A.imm (List.map af x.L) false)])]
theorem J5:fT K8:=fun x y h=>by
 simp only[K8,iL,map_inj (fo)] at h
 obtain ⟨xa0Kind,xa0N,xa0S,xa0L⟩:=x
 obtain ⟨ya0Kind,ya0N,ya0S,ya0L⟩:=y
 simp_all
noncomputable def Oi (args:List A):Option A:=bT K8 (fun x=>(LJ x).map fun y=>(iA y)) args
noncomputable def HK (q:Nat) (args:List A):Option A:=bT K8 (fun x=>(Gg q x).map fun y=>(iA y)) args
noncomputable def xU (q:Nat):Nat->List A->Option A:=gB Ms 98 (HK q)
theorem Sc (q:Nat):ya (xU q) (Gg q):=fun a0=>(by kernel_rfl:_=HK q (K8 a0)).trans (aQ _ J5 a0)
theorem GP:∀ (q:Nat) (args:List A) (r:A) (h:HK q args=some r),eI prog (cx C0).glob 98 args r
 | 0,args,r,h=>by
  obtain ⟨x,y,rfl,hy,rfl⟩:=dH h
  cases hy
 | q+1,args,r,h=>by
  obtain ⟨x,y,rfl,hy,rfl⟩:=dH h
  exact zq (f:=fun (y:Int)=>(iA y)) (cx:=cx (xU q)) (fun k args r _ h=>fB AG (GP q) k args r h) (by kernel_rfl) (QZ (xU q) aC  (Gg q) (Sc q) x) hy
theorem Oq (args:List A) (r:A) (h:Oi args=some r):eI prog (cx C0).glob 98 args r:=GP aC args r h
noncomputable def Mt:Nat->List A->Option A:=gB Ms 98 Oi
theorem Fy:cd Mt:=fB AG Oq
def PA (x:ai):List A:=[(A.agg [(iA x.Kind),(iA x.N),(A.v (Value.string x.S)),(A.imm (List.map af x.L) false)])]
theorem NT:fT PA:=fun x y h=>by
 simp only[PA,iL,map_inj (fo)] at h
 obtain ⟨xa0Kind,xa0N,xa0S,xa0L⟩:=x
 obtain ⟨ya0Kind,ya0N,ya0S,ya0L⟩:=y
 simp_all
noncomputable def P3 (args:List A):Option A:=bT PA (fun x=>(Ir x).map fun y=>(iA y)) args
theorem O2 {C:Nat->List A->Option A} (h:∀ a,C 97 a=Oh a):Ga C:=fun a0=>(h _).trans (aQ _ J4 a0)
theorem O3 {C:Nat->List A->Option A} (h:∀ a,C 98 a=Oi a):Gb C:=fun a0=>(h _).trans (aQ _ J5 a0)
noncomputable def Mu:Nat->List A->Option A:=gB Mt 79 P3
theorem Fz:cd Mu:=db Fy fun x=>QU Mt aC (O2 fun _=>by kernel_rfl) (O3 fun _=>by kernel_rfl) x
def FQ (x:Int):List A:=[(iA x)]
theorem J0:fT FQ:=fun x y h=>by
 simp only[FQ,iL] at h
 exact h
noncomputable def Kp (args:List A):Option A:=bT FQ (fun x=>(BV x).map fun y=>(A.v (.int .u64 y))) args
noncomputable def Mv:Nat->List A->Option A:=gB Mu 100 Kp
theorem AH:cd Mv:=db Fz fun x=>MO Mu aC  x
def ID (x:Int):List A:=[(A.v (.int .u64 x))]
theorem J6:fT ID:=fun x y h=>by
 simp only[ID,iL] at h
 exact h
noncomputable def Oj (args:List A):Option A:=bT ID (fun x=>(It x).map fun y=>(A.imm (List.map c8 y) false)) args
noncomputable def HL (q:Nat) (args:List A):Option A:=bT ID (fun x=>(Gi q x).map fun y=>(A.imm (List.map c8 y) false)) args
noncomputable def xV (q:Nat):Nat->List A->Option A:=gB Mv 99 (HL q)
theorem Sd (q:Nat):Cj (xV q) (Gi q):=fun a0=>(by kernel_rfl:_=HL q (ID a0)).trans (aQ _ J6 a0)
theorem GQ:∀ (q:Nat) (args:List A) (r:A) (h:HL q args=some r),eI prog (cx C0).glob 99 args r
 | 0,args,r,h=>by
  obtain ⟨x,y,rfl,hy,rfl⟩:=dH h
  cases hy
 | q+1,args,r,h=>by
  obtain ⟨x,y,rfl,hy,rfl⟩:=dH h
  exact zq (f:=fun (y:(List UInt8))=>(A.imm (List.map c8 y) false)) (cx:=cx (xV q)) (fun k args r _ h=>fB AH (GQ q) k args r h) (by kernel_rfl) (Q0 (xV q) aC  (Gi q) (Sd q) x) hy
theorem Ot (args:List A) (r:A) (h:Oj args=some r):eI prog (cx C0).glob 99 args r:=GQ aC args r h
noncomputable def Mw:Nat->List A->Option A:=gB Mv 99 Oj
theorem AI:cd Mw:=fB AH Ot
def K5 (x:ai):List A:=[(A.agg [(iA x.Kind),(iA x.N),(A.v (Value.string x.S)),(A.imm (List.map af x.L) false)])]
theorem J2:fT K5:=fun x y h=>by
 simp only[K5,iL,map_inj (fo)] at h
 obtain ⟨xa0Kind,xa0N,xa0S,xa0L⟩:=x
 obtain ⟨ya0Kind,ya0N,ya0S,ya0L⟩:=y
 simp_all
noncomputable def Oe (args:List A):Option A:=bT K5 (fun x=>(I2 x).map fun y=>(A.imm (List.map c8 y) false)) args
noncomputable def HH (q:Nat) (args:List A):Option A:=bT K5 (fun x=>(Gd q x).map fun y=>(A.imm (List.map c8 y) false)) args
noncomputable def qZ (q:Nat):Nat->List A->Option A:=gB Mw 80 (HH q)
theorem R9 (q:Nat):xX (qZ q) (Gd q):=fun a0=>(by kernel_rfl:_=HH q (K5 a0)).trans (aQ _ J2 a0)
theorem xq (q:Nat):xW (qZ q):=fun a0=>(by kernel_rfl:_=Kp (FQ a0)).trans (aQ _ J0 a0)
theorem zs (q:Nat):Ci (qZ q):=fun a0=>(by kernel_rfl:_=Oj (ID a0)).trans (aQ _ J6 a0)
theorem GM:∀ (q:Nat) (args:List A) (r:A) (h:HH q args=some r),eI prog (cx C0).glob 80 args r
 | 0,args,r,h=>by
  obtain ⟨x,y,rfl,hy,rfl⟩:=dH h
  cases hy
 | q+1,args,r,h=>by
  obtain ⟨x,y,rfl,hy,rfl⟩:=dH h
  exact zq (f:=fun (y:(List UInt8))=>(A.imm (List.map c8 y) false)) (cx:=cx (qZ q)) (fun k args r _ h=>fB AI (GM q) k args r h) (by kernel_rfl) (QV (qZ q) aC (xq q) (zs q) (Gd q) (R9 q) x) hy
theorem Om (args:List A) (r:A) (h:Oe args=some r):eI prog (cx C0).glob 80 args r:=GM aC args r h
noncomputable def Mx:Nat->List A->Option A:=gB Mw 80 Oe
theorem FA:cd Mx:=fB AI Om
def Po (x:ai):List A:=[(A.agg [(iA x.Kind),(iA x.N),(A.v (Value.string x.S)),(A.imm (List.map af x.L) false)])]
theorem NH:fT Po:=fun x y h=>by
 simp only[Po,iL,map_inj (fo)] at h
 obtain ⟨xa0Kind,xa0N,xa0S,xa0L⟩:=x
 obtain ⟨ya0Kind,ya0N,ya0S,ya0L⟩:=y
 simp_all
noncomputable def PR (args:List A):Option A:=bT Po (fun x=>(G4 x).map fun y=>(A.tup [(A.imm (List.map c8 y.1) false),(iA y.2)])) args
theorem KV {C:Nat->List A->Option A} (h:∀ a,C 79 a=P3 a):Cg C:=fun a0=>(h _).trans (aQ _ NT a0)
theorem KW {C:Nat->List A->Option A} (h:∀ a,C 80 a=Oe a):Ch C:=fun a0=>(h _).trans (aQ _ J2 a0)
noncomputable def My:Nat->List A->Option A:=gB Mx 58 PR
theorem FB:cd My:=db FA fun x=>QI Mx aC (KV fun _=>by kernel_rfl) (KW fun _=>by kernel_rfl) x
def Pe (x:aj):List A:=[(A.agg [(iA x.Self),(A.imm (List.map ae x.Leases) false),(A.imm (List.map ah x.Calls) false),(A.imm (List.map cB x.Order) false)])]
theorem Nw:fT Pe:=fun x y h=>by
 simp only[Pe,iL,map_inj (cV),map_inj (cq),map_inj (fW)] at h
 obtain ⟨xa0Self,xa0Leases,xa0Calls,xa0Order⟩:=x
 obtain ⟨ya0Self,ya0Leases,ya0Calls,ya0Order⟩:=y
 simp_all
noncomputable def Kv (args:List A):Option A:=bT Pe (fun x=>(LF x).map fun y=>(A.imm (List.map (cL c8) y) false)) args
theorem OM {C:Nat->List A->Option A} (h:∀ a,C 57 a=PQ a):Cb C:=fun a0=>(h _).trans (aQ _ NG a0)
theorem ON {C:Nat->List A->Option A} (h:∀ a,C 58 a=PR a):Cc C:=fun a0=>(h _).trans (aQ _ NH a0)
noncomputable def Mz:Nat->List A->Option A:=gB My 31 Kv
theorem FC:cd Mz:=db FB fun x=>Qy My aC (OM fun _=>by kernel_rfl) (ON fun _=>by kernel_rfl) x
def xO (x:aj):List A:=[(A.agg [(iA x.Self),(A.imm (List.map ae x.Leases) false),(A.imm (List.map ah x.Calls) false),(A.imm (List.map cB x.Order) false)])]
theorem Nf:fT xO:=fun x y h=>by
 simp only[xO,iL,map_inj (cV),map_inj (cq),map_inj (fW)] at h
 obtain ⟨xa0Self,xa0Leases,xa0Calls,xa0Order⟩:=x
 obtain ⟨ya0Self,ya0Leases,ya0Calls,ya0Order⟩:=y
 simp_all
noncomputable def qW (args:List A):Option A:=bT xO (fun x=>(FR x).map fun y=>(A.tup [(A.imm (List.map (cL c8) y.1) false),(iA y.2)])) args
theorem OG {C:Nat->List A->Option A} (h:∀ a,C 30 a=Ku a):FZ C:=fun a0=>(h _).trans (aQ _ Nv a0)
theorem OH {C:Nat->List A->Option A} (h:∀ a,C 31 a=Kv a):F0 C:=fun a0=>(h _).trans (aQ _ Nw a0)
noncomputable def MA:Nat->List A->Option A:=gB Mz 10 qW
theorem FD:cd MA:=db FC fun x=>Qk Mz aC (OG fun _=>by kernel_rfl) (OH fun _=>by kernel_rfl) x
def Pq (x:(List UInt8)):List A:=[(A.imm (List.map c8 x) false)]
theorem NJ:fT Pq:=fun x y h=>by
 simp only[Pq,iL,map_inj (mF)] at h
 exact h
noncomputable def LQ (args:List A):Option A:=bT Pq (fun x=>(IX x).map fun y=>(A.tup [(A.agg [(iA y.1.Kind),(iA y.1.N),(A.v (Value.string y.1.S)),(A.imm (List.map af y.1.L) false)]),(iA y.2)])) args
noncomputable def MB:Nat->List A->Option A:=gB MA 63 LQ
theorem FE:cd MB:=db FD fun x=>QK MA aC (KV fun _=>by kernel_rfl) (KW fun _=>by kernel_rfl) x
def Ph (x:(List UInt8)):List A:=[(A.imm (List.map c8 x) false)]
theorem Nz:fT Ph:=fun x y h=>by
 simp only[Ph,iL,map_inj (mF)] at h
 exact h
noncomputable def HG (args:List A):Option A:=bT Ph (fun x=>(IV x).map fun y=>(A.imm (List.map (cI .i64) y) false)) args
theorem OP {C:Nat->List A->Option A} (h:∀ a,C 63 a=LQ a):Ce C:=fun a0=>(h _).trans (aQ _ NJ a0)
noncomputable def MC:Nat->List A->Option A:=gB MB 34 HG
theorem FF:cd MC:=db FE fun x=>QB MB aC (OP fun _=>by kernel_rfl) x
def xI (x:Int×(List (List UInt8))):List A:=[(iA x.1),(A.imm (List.map (cL c8) x.2) false)]
theorem Nh:fT xI:=fun x y h=>by
 simp only[xI,iL,map_inj (mF),map_inj (Ar (mF))] at h
 obtain ⟨xa0,xa1⟩:=x
 obtain ⟨ya0,ya1⟩:=y
 simp_all
noncomputable def zo (args:List A):Option A:=bT xI (fun x=>(IP x.1 x.2).map fun y=>(A.tup [(A.agg [(iA y.1.Self),(A.imm (List.map ae y.1.Leases) false),(A.imm (List.map ah y.1.Calls) false),(A.imm (List.map cB y.1.Order) false)]),(iA y.2)])) args
theorem OJ {C:Nat->List A->Option A} (h:∀ a,C 34 a=HG a):B8 C:=fun a0=>(h _).trans (aQ _ Nz a0)
noncomputable def MD:Nat->List A->Option A:=gB MC 12 zo
theorem FG:cd MD:=db FF fun x=>Qm MC aC (OJ fun _=>by kernel_rfl) (KS fun _=>by kernel_rfl) x.1 x.2
def sX (x:(List (List UInt8))×(List (List UInt8))):List A:=[(A.imm (List.map (cL c8) x.1) false),(A.imm (List.map (cL c8) x.2) false)]
theorem Ni:fT sX:=fun x y h=>by
 simp only[sX,iL,map_inj (mF),map_inj (Ar (mF))] at h
 obtain ⟨xa0,xa1⟩:=x
 obtain ⟨ya0,ya1⟩:=y
 simp_all
noncomputable def GL (args:List A):Option A:=bT sX (fun x=>(IQ x.1 x.2).map fun y=>(bA y)) args
noncomputable def ME:Nat->List A->Option A:=gB MD 13 GL
theorem FH:cd ME:=db FG fun x=>Qn MD aC  x.1 x.2
def x3 (x:aj×Int×(List (List UInt8))):List A:=[(A.agg [(iA x.1.Self),(A.imm (List.map ae x.1.Leases) false),(A.imm (List.map ah x.1.Calls) false),(A.imm (List.map cB x.1.Order) false)]),(iA x.2.1),(A.imm (List.map (cL c8) x.2.2) false)]
theorem RZ:fT x3:=fun x y h=>by
 simp only[x3,iL,map_inj (cV),map_inj (cq),map_inj (mF),map_inj (fW),map_inj (Ar (mF))] at h
 obtain ⟨⟨xa0Self,xa0Leases,xa0Calls,xa0Order⟩,xa1,xa2⟩:=x
 obtain ⟨⟨ya0Self,ya0Leases,ya0Calls,ya0Order⟩,ya1,ya2⟩:=y
 simp_all
noncomputable def o3 (args:List A):Option A:=bT x3 (fun x=>(G3 x.1 x.2.1 x.2.2).map fun y=>(bA y)) args
theorem Ox {C:Nat->List A->Option A} (h:∀ a,C 10 a=qW a):B1 C:=fun a0=>(h _).trans (aQ _ Nf a0)
theorem Oy {C:Nat->List A->Option A} (h:∀ a,C 12 a=zo a):B4 C:=fun a0 a1=>(h _).trans (aQ _ Nh (a0,a1))
theorem Oz {C:Nat->List A->Option A} (h:∀ a,C 13 a=GL a):B5 C:=fun a0 a1=>(h _).trans (aQ _ Ni (a0,a1))
theorem R7 {C:Nat->List A->Option A} (h:∀ a,C 7 a=o7 a):Ha C:=fun _=>(h _).trans (aQ _ R0 ())
theorem R8 {C:Nat->List A->Option A} (h:∀ a,C 8 a=o8 a):Hb C:=fun a0=>(h _).trans (aQ _ R1 a0)
theorem R4 (args:List A) (r:A) (h:o3 args=some r):eI prog (cx C0).glob 3 args r:=by
 obtain ⟨x,y,rfl,hy,rfl⟩:=dH h
 exact zq (f:=fun (y:Bool)=>(bA y)) (cx:=cx ME) (fun k args r _ h=>FH k args r h) (by kernel_rfl) (T3 ME aC (Ox fun _=>by kernel_rfl) (KM fun _=>by kernel_rfl) (Oy fun _=>by kernel_rfl) (Oz fun _=>by kernel_rfl) (KN fun _=>by kernel_rfl) (R7 fun _=>by kernel_rfl) (R8 fun _=>by kernel_rfl) (Qe fun _=>by kernel_rfl) x.1 x.2.1 x.2.2) hy
end Go.Proofs.Ytdmgdjnadbakfaa
