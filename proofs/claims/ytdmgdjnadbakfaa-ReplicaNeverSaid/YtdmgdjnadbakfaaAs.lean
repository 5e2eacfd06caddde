/-
 What is proved of the functions, put together: by a tool.
-/
import Derived.Test.YtdmgdjnadbakfaaT
namespace Go.Proofs.Ytdmgdjnadbakfaa
open Go.Proofs.Try (prog)
set_option linter.unusedVariables false
set_option linter.unusedSimpArgs false
set_option maxHeartbeats 4000000
set_option maxRecDepth 100000
theorem og:jd aw:=fun x y h=>by
 unfold aw at h
 simp only[List.cons.injEq,A.v.injEq,Value.int.injEq,Value.bool.injEq,Value.string.injEq,and_true,true_and] at h
 have h3:=rP x y (by simp[h])
 obtain ⟨xKind,xN,xS,lx⟩:=x; obtain ⟨yKind,yN,yS,ly⟩:=y
 simp_all
theorem tZ:jd al:=fun x y h=>by
 obtain ⟨xKind,xWho,xA,xB⟩:=x; obtain ⟨yKind,yWho,yA,yB⟩:=y
 simp only[al,List.cons.injEq,A.v.injEq,A.imm.injEq,Value.int.injEq,Value.bool.injEq,Value.string.injEq,and_true,true_and] at h
 simp_all
theorem bL:jd ae:=fun x y h=>by
 obtain ⟨xNo,xHolder,xUntil⟩:=x; obtain ⟨yNo,yHolder,yUntil⟩:=y
 simp only[ae,List.cons.injEq,A.v.injEq,A.imm.injEq,Value.int.injEq,Value.bool.injEq,Value.string.injEq,and_true,true_and] at h
 simp_all
theorem cU:jd af:=fun x y h=>by
 obtain ⟨xBar,xProgram⟩:=x; obtain ⟨yBar,yProgram⟩:=y
 simp only[af,List.cons.injEq,A.v.injEq,A.imm.injEq,Value.int.injEq,Value.bool.injEq,Value.string.injEq,and_true,true_and] at h
 simp_all
noncomputable def C0:Nat->List A->Option A:=fun _ _=>none
def di (C:Nat->List A->Option A):Prop:=∀ (k:Nat) (args:List A) (r:A),C k args=some r->iU prog (cx C0).glob k args r
theorem L8:di C0:=fun k args r h=>(by cases h)
theorem qK {C:Nat->List A->Option A} {k:Nat} {c:List A->Option A} (h:di C) (hc:∀ args r,c args=some r->iU prog (cx C0).glob k args r):di (lE C k c):=fun j args r hr=>by
 simp only[lE] at hr
 rw[br] at hr
 split at hr
 ·rename_i hj
  rw[Nat.eq_of_beq_eq_true hj]; exact hc args r hr
 ·exact h j args r hr
theorem dQ {X Y:Type} {C:Nat->List A->Option A} {k:Nat} {x:X->List A} {G:X->Option Y} {f:Y->A} (hC:di C) (h:∀ a,J (fun (o:R) y=>∃ v,o.1=.ret v/\aF o.2 v=f y) (aB (cx C) (aO (cx C) (aH+8)) (aA (cx C) (aH+8)) (aH+8) k (x a) [] 0) some (G a) some):di (lE C k fun args=>cY x (fun a=>(G a).map f) args):=qK hC fun args r h'=>by
 obtain ⟨a,y,rfl,hy,rfl⟩:=jm h'
 exact Dg (cx:=cx C) (fun k args r _ h=>hC k args r h) (by kernel_rfl) (h a) hy
def DM (x:Int×Int×Int):List A:=[(iA x.1),(iA x.2.1),(iA x.2.2)]
theorem Lw:jd DM:=fun x y h=>by
 simp only[DM,mD] at h
 obtain ⟨xa0,xa1,xa2⟩:=x
 obtain ⟨ya0,ya1,ya2⟩:=y
 simp_all
noncomputable def Ni (args:List A):Option A:=cY DM (fun x=>(vR x.1 x.2.1 x.2.2).map fun y=>(bA y)) args
noncomputable def C1:Nat->List A->Option A:=lE C0 47 Ni
theorem GK:di C1:=dQ L8 fun x=>NW C0 aH  x.1 x.2.1 x.2.2
def DL (x:Int×Int×Int):List A:=[(iA x.1),(iA x.2.1),(iA x.2.2)]
theorem Lq:jd DL:=fun x y h=>by
 simp only[DL,mD] at h
 obtain ⟨xa0,xa1,xa2⟩:=x
 obtain ⟨ya0,ya1,ya2⟩:=y
 simp_all
noncomputable def Nb (args:List A):Option A:=cY DL (fun x=>(DU x.1 x.2.1 x.2.2).map fun y=>(A.tup [(A.agg [(iA y.1.Self),(A.imm (List.map ae y.1.Leases) false),(A.imm (List.map af y.1.Calls) false),(A.imm (List.map cB y.1.Order) false)]),(iA y.2)])) args
theorem Dp {C:Nat->List A->Option A} (h:∀ a,C 47 a=Ni a):qM C:=fun a0 a1 a2=>(h _).trans (bu _ Lw (a0,a1,a2))
noncomputable def C2:Nat->List A->Option A:=lE C1 25 Nb
theorem GL:di C2:=dQ GK fun x=>NQ C1 aH (Dp fun _=>by kernel_rfl) x.1 x.2.1 x.2.2
def ML (x:ah):List A:=[(A.agg [(iA x.Self),(A.imm (List.map ae x.Leases) false),(A.imm (List.map af x.Calls) false),(A.imm (List.map cB x.Order) false)])]
theorem LF:jd ML:=fun x y h=>by
 simp only[ML,mD,map_inj (cU),map_inj (bL),map_inj (iJ)] at h
 obtain ⟨xa0Self,xa0Leases,xa0Calls,xa0Order⟩:=x
 obtain ⟨ya0Self,ya0Leases,ya0Calls,ya0Order⟩:=y
 simp_all
noncomputable def Nr (args:List A):Option A:=cY ML (fun x=>(Hy x).map fun y=>(iA y)) args
noncomputable def C3:Nat->List A->Option A:=lE C2 74 Nr
theorem GM:di C3:=dQ GL fun x=>N4 C2 aH  x
def MJ (x:ah×ak):List A:=[(A.agg [(iA x.1.Self),(A.imm (List.map ae x.1.Leases) false),(A.imm (List.map af x.1.Calls) false),(A.imm (List.map cB x.1.Order) false)]),(A.agg [(iA x.2.No),(iA x.2.Holder),(iA x.2.Until)])]
theorem Lz:jd MJ:=fun x y h=>by
 simp only[MJ,mD,map_inj (cU),map_inj (bL),map_inj (iJ)] at h
 obtain ⟨⟨xa0Self,xa0Leases,xa0Calls,xa0Order⟩,⟨xa1No,xa1Holder,xa1Until⟩⟩:=x
 obtain ⟨⟨ya0Self,ya0Leases,ya0Calls,ya0Order⟩,⟨ya1No,ya1Holder,ya1Until⟩⟩:=y
 simp_all
noncomputable def Nl (args:List A):Option A:=cY MJ (fun x=>(Fa x.1 x.2).map fun y=>(bA y)) args
theorem Mn {C:Nat->List A->Option A} (h:∀ a,C 74 a=Nr a):Fi C:=fun a0=>(h _).trans (bu _ LF a0)
noncomputable def C4:Nat->List A->Option A:=lE C3 50 Nl
theorem GN:di C4:=dQ GM fun x=>NZ C3 aH (Dp fun _=>by kernel_rfl) (Mn fun _=>by kernel_rfl) x.1 x.2
def MM (x:ah×Int):List A:=[(A.agg [(iA x.1.Self),(A.imm (List.map ae x.1.Leases) false),(A.imm (List.map af x.1.Calls) false),(A.imm (List.map cB x.1.Order) false)]),(iA x.2)]
theorem LG:jd MM:=fun x y h=>by
 simp only[MM,mD,map_inj (cU),map_inj (bL),map_inj (iJ)] at h
 obtain ⟨⟨xa0Self,xa0Leases,xa0Calls,xa0Order⟩,xa1⟩:=x
 obtain ⟨⟨ya0Self,ya0Leases,ya0Calls,ya0Order⟩,ya1⟩:=y
 simp_all
noncomputable def Ns (args:List A):Option A:=cY MM (fun x=>(Hz x.1 x.2).map fun y=>(bA y)) args
noncomputable def C5:Nat->List A->Option A:=lE C4 75 Ns
theorem GO:di C5:=dQ GN fun x=>N5 C4 aH  x.1 x.2
def Bn (x:ah×av):List A:=[(A.agg [(iA x.1.Self),(A.imm (List.map ae x.1.Leases) false),(A.imm (List.map af x.1.Calls) false),(A.imm (List.map cB x.1.Order) false)]),(A.agg [(iA x.2.Bar),(iA x.2.Program)])]
theorem LA:jd Bn:=fun x y h=>by
 simp only[Bn,mD,map_inj (cU),map_inj (bL),map_inj (iJ)] at h
 obtain ⟨⟨xa0Self,xa0Leases,xa0Calls,xa0Order⟩,⟨xa1Bar,xa1Program⟩⟩:=x
 obtain ⟨⟨ya0Self,ya0Leases,ya0Calls,ya0Order⟩,⟨ya1Bar,ya1Program⟩⟩:=y
 simp_all
noncomputable def Nm (args:List A):Option A:=cY Bn (fun x=>(FW x.1 x.2).map fun y=>(bA y)) args
theorem Mo {C:Nat->List A->Option A} (h:∀ a,C 75 a=Ns a):Fj C:=fun a0 a1=>(h _).trans (bu _ LG (a0,a1))
noncomputable def C6:Nat->List A->Option A:=lE C5 51 Nm
theorem GP:di C6:=dQ GO fun x=>N0 C5 aH (Dp fun _=>by kernel_rfl) (Mo fun _=>by kernel_rfl) x.1 x.2
def MG (x:ah×aj):List A:=[(A.agg [(iA x.1.Self),(A.imm (List.map ae x.1.Leases) false),(A.imm (List.map af x.1.Calls) false),(A.imm (List.map cB x.1.Order) false)]),(A.agg [(bA x.2.is),(iA x.2.lease.No),(iA x.2.lease.Holder),(iA x.2.lease.Until),(iA x.2.call.Bar),(iA x.2.call.Program)])]
theorem Lv:jd MG:=fun x y h=>by
 simp only[MG,mD,map_inj (cU),map_inj (bL),map_inj (iJ)] at h
 obtain ⟨⟨xa0Self,xa0Leases,xa0Calls,xa0Order⟩,⟨xa1is,⟨xa1leaseNo,xa1leaseHolder,xa1leaseUntil⟩,⟨xa1callBar,xa1callProgram⟩⟩⟩:=x
 obtain ⟨⟨ya0Self,ya0Leases,ya0Calls,ya0Order⟩,⟨ya1is,⟨ya1leaseNo,ya1leaseHolder,ya1leaseUntil⟩,⟨ya1callBar,ya1callProgram⟩⟩⟩:=y
 simp_all
noncomputable def Nh (args:List A):Option A:=cY MG (fun x=>(xO x.1 x.2).map fun y=>(A.agg [(iA y.Self),(A.imm (List.map ae y.Leases) false),(A.imm (List.map af y.Calls) false),(A.imm (List.map cB y.Order) false)])) args
noncomputable def C7:Nat->List A->Option A:=lE C6 33 Nh
theorem GQ:di C7:=dQ GP fun x=>NV C6 aH  x.1 x.2
def MA (x:ah):List A:=[(A.agg [(iA x.Self),(A.imm (List.map ae x.Leases) false),(A.imm (List.map af x.Calls) false),(A.imm (List.map cB x.Order) false)])]
theorem Lm:jd MA:=fun x y h=>by
 simp only[MA,mD,map_inj (cU),map_inj (bL),map_inj (iJ)] at h
 obtain ⟨xa0Self,xa0Leases,xa0Calls,xa0Order⟩:=x
 obtain ⟨ya0Self,ya0Leases,ya0Calls,ya0Order⟩:=y
 simp_all
noncomputable def M8 (args:List A):Option A:=cY MA (fun x=>(AB x).map fun y=>(iA y)) args
theorem Dn {C:Nat->List A->Option A} (h:∀ a,C 33 a=Nh a):qk C:=fun a0 a1=>(h _).trans (bu _ Lv (a0,a1))
theorem GX {C:Nat->List A->Option A} (h:∀ a,C 50 a=Nl a):vW C:=fun a0 a1=>(h _).trans (bu _ Lz (a0,a1))
theorem JB {C:Nat->List A->Option A} (h:∀ a,C 51 a=Nm a):zq C:=fun a0 a1=>(h _).trans (bu _ LA (a0,a1))
noncomputable def C8:Nat->List A->Option A:=lE C7 20 M8
theorem GR:di C8:=dQ GQ fun x=>NM C7 aH (Dn fun _=>by kernel_rfl) (Dp fun _=>by kernel_rfl) (GX fun _=>by kernel_rfl) (JB fun _=>by kernel_rfl) x
def MD (x:ah×Int×Int):List A:=[(A.agg [(iA x.1.Self),(A.imm (List.map ae x.1.Leases) false),(A.imm (List.map af x.1.Calls) false),(A.imm (List.map cB x.1.Order) false)]),(iA x.2.1),(iA x.2.2)]
theorem Lr:jd MD:=fun x y h=>by
 simp only[MD,mD,map_inj (cU),map_inj (bL),map_inj (iJ)] at h
 obtain ⟨⟨xa0Self,xa0Leases,xa0Calls,xa0Order⟩,xa1,xa2⟩:=x
 obtain ⟨⟨ya0Self,ya0Leases,ya0Calls,ya0Order⟩,ya1,ya2⟩:=y
 simp_all
noncomputable def Nc (args:List A):Option A:=cY MD (fun x=>(Hc x.1 x.2.1 x.2.2).map fun y=>(A.tup [(A.agg [(iA y.1.Self),(A.imm (List.map ae y.1.Leases) false),(A.imm (List.map af y.1.Calls) false),(A.imm (List.map cB y.1.Order) false)]),(iA y.2)])) args
theorem xv {C:Nat->List A->Option A} (h:∀ a,C 20 a=M8 a):mq C:=fun a0=>(h _).trans (bu _ Lm a0)
noncomputable def C9:Nat->List A->Option A:=lE C8 26 Nc
theorem GS:di C9:=dQ GR fun x=>NR C8 aH (xv fun _=>by kernel_rfl) (Dn fun _=>by kernel_rfl) (GX fun _=>by kernel_rfl) x.1 x.2.1 x.2.2
def DK (x:ah×Int×Int):List A:=[(A.agg [(iA x.1.Self),(A.imm (List.map ae x.1.Leases) false),(A.imm (List.map af x.1.Calls) false),(A.imm (List.map cB x.1.Order) false)]),(iA x.2.1),(iA x.2.2)]
theorem Lp:jd DK:=fun x y h=>by
 simp only[DK,mD,map_inj (cU),map_inj (bL),map_inj (iJ)] at h
 obtain ⟨⟨xa0Self,xa0Leases,xa0Calls,xa0Order⟩,xa1,xa2⟩:=x
 obtain ⟨⟨ya0Self,ya0Leases,ya0Calls,ya0Order⟩,ya1,ya2⟩:=y
 simp_all
noncomputable def Hn (args:List A):Option A:=cY DK (fun x=>(Hb x.1 x.2.1 x.2.2).map fun y=>(A.tup [(A.agg [(iA y.1.Self),(A.imm (List.map ae y.1.Leases) false),(A.imm (List.map af y.1.Calls) false),(A.imm (List.map cB y.1.Order) false)]),(iA y.2)])) args
noncomputable def Ko:Nat->List A->Option A:=lE C9 24 Hn
theorem Ev:di Ko:=dQ GS fun x=>NP C9 aH (xv fun _=>by kernel_rfl) (Dn fun _=>by kernel_rfl) (JB fun _=>by kernel_rfl) x.1 x.2.1 x.2.2
def G3 (x:Int):List A:=[(A.v (.int .u64 x))]
theorem II:jd G3:=fun x y h=>by
 simp only[G3,mD] at h
 exact h
noncomputable def Jf (args:List A):Option A:=cY G3 (fun x=>(Bo x).map fun y=>(iA y)) args
noncomputable def Kp:Nat->List A->Option A:=lE Ko 102 Jf
theorem Ew:di Kp:=dQ Ev fun x=>KS Ko aH  x
def DP (x:(List UInt8)):List A:=[(A.imm (List.map c8 x) false)]
theorem LC:jd DP:=fun x y h=>by
 simp only[DP,mD,map_inj (zU)] at h
 exact h
noncomputable def Np (args:List A):Option A:=cY DP (fun x=>(Hw x).map fun y=>(A.tup [(A.agg [(iA y.1.Kind),(iA y.1.N),(A.v (Value.string y.1.S)),(A.imm (List.map aw y.1.L) false)]),(iA y.2)])) args
theorem Jt {C:Nat->List A->Option A} (h:∀ a,C 102 a=Jf a):uH C:=fun a0=>(h _).trans (bu _ II a0)
noncomputable def Kq:Nat->List A->Option A:=lE Kp 59 Np
theorem Ex:di Kq:=dQ Ew fun x=>N2 Kp aH (Jt fun _=>by kernel_rfl) x
def vT (x:(List UInt8)):List A:=[(A.imm (List.map c8 x) false)]
theorem Lu:jd vT:=fun x y h=>by
 simp only[vT,mD,map_inj (zU)] at h
 exact h
noncomputable def Ng (args:List A):Option A:=cY vT (fun x=>(Hd x).map fun y=>(A.tup [(A.agg [(bA y.1.is),(iA y.1.lease.No),(iA y.1.lease.Holder),(iA y.1.lease.Until),(iA y.1.call.Bar),(iA y.1.call.Program)]),(bA y.2)])) args
theorem Ml {C:Nat->List A->Option A} (h:∀ a,C 59 a=Np a):Fg C:=fun a0=>(h _).trans (bu _ LC a0)
noncomputable def Kr:Nat->List A->Option A:=lE Kq 32 Ng
theorem Ey:di Kr:=dQ Ex fun x=>NU Kq aH (Ml fun _=>by kernel_rfl) x
def kd (x:Int×(List (List UInt8))):List A:=[(iA x.1),(A.imm (List.map (cL c8) x.2) false)]
theorem Lf:jd kd:=fun x y h=>by
 simp only[kd,mD,map_inj (zU),map_inj (IH (zU))] at h
 obtain ⟨xa0,xa1⟩:=x
 obtain ⟨ya0,ya1⟩:=y
 simp_all
noncomputable def M0 (args:List A):Option A:=cY kd (fun x=>(E6 x.1 x.2).map fun y=>(A.tup [(A.agg [(iA y.1.Self),(A.imm (List.map ae y.1.Leases) false),(A.imm (List.map af y.1.Calls) false),(A.imm (List.map cB y.1.Order) false)]),(iA y.2)])) args
theorem Mh {C:Nat->List A->Option A} (h:∀ a,C 32 a=Ng a):BA C:=fun a0=>(h _).trans (bu _ Lu a0)
noncomputable def Ks:Nat->List A->Option A:=lE Kr 11 M0
theorem Ez:di Ks:=dQ Ey fun x=>NF Kr aH (xv fun _=>by kernel_rfl) (Mh fun _=>by kernel_rfl) (Dn fun _=>by kernel_rfl) x.1 x.2
def xJ (x:Int×Int):List A:=[(iA x.1),(iA x.2)]
theorem Lh:jd xJ:=fun x y h=>by
 simp only[xJ,mD] at h
 obtain ⟨xa0,xa1⟩:=x
 obtain ⟨ya0,ya1⟩:=y
 simp_all
noncomputable def M3 (args:List A):Option A:=cY xJ (fun x=>(G8 x.1 x.2).map fun y=>(A.tup [(A.agg [(iA y.1.Desks.1.Self),(A.imm (List.map ae y.1.Desks.1.Leases) false),(A.imm (List.map af y.1.Desks.1.Calls) false),(A.imm (List.map cB y.1.Desks.1.Order) false),(iA y.1.Desks.2.Self),(A.imm (List.map ae y.1.Desks.2.Leases) false),(A.imm (List.map af y.1.Desks.2.Calls) false),(A.imm (List.map cB y.1.Desks.2.Order) false),(iA y.1.Synced.1),(iA y.1.Synced.2),(A.imm (List.map ae y.1.Told) false),(A.imm (List.map af y.1.Spoken.1) false),(A.imm (List.map af y.1.Spoken.2) false)]),(iA y.2)])) args
theorem Jz {C:Nat->List A->Option A} (h:∀ a,C 25 a=Nb a):zo C:=fun a0 a1 a2=>(h _).trans (bu _ Lq (a0,a1,a2))
noncomputable def G6:Nat->List A->Option A:=lE Ks 15 M3
theorem vH:di G6:=dQ Ez fun x=>NH Ks aH (Jz fun _=>by kernel_rfl) x.1 x.2
def mm (x:aC×Int×av):List A:=[(A.ip [(iA x.1.Pair.Desks.1.Self),(A.imm (List.map ae x.1.Pair.Desks.1.Leases) false),(A.imm (List.map af x.1.Pair.Desks.1.Calls) false),(A.imm (List.map cB x.1.Pair.Desks.1.Order) false),(iA x.1.Pair.Desks.2.Self),(A.imm (List.map ae x.1.Pair.Desks.2.Leases) false),(A.imm (List.map af x.1.Pair.Desks.2.Calls) false),(A.imm (List.map cB x.1.Pair.Desks.2.Order) false),(iA x.1.Pair.Synced.1),(iA x.1.Pair.Synced.2),(A.imm (List.map ae x.1.Pair.Told) false),(A.imm (List.map af x.1.Pair.Spoken.1) false),(A.imm (List.map af x.1.Pair.Spoken.2) false),(iA x.1.who)]),(iA x.2.1),(A.fn (Fn.func 85) [] [(A.ip [(iA x.2.2.Bar),(iA x.2.2.Program)])])]
theorem Eh:jd mm:=fun x y h=>by
 simp only[mm,mD,A.ip.injEq,A.fn.injEq,map_inj (cU),map_inj (bL),map_inj (iJ)] at h
 obtain ⟨⟨⟨⟨⟨xa0PairDesks0Self,xa0PairDesks0Leases,xa0PairDesks0Calls,xa0PairDesks0Order⟩,⟨xa0PairDesks1Self,xa0PairDesks1Leases,xa0PairDesks1Calls,xa0PairDesks1Order⟩⟩,⟨xa0PairSynced0,xa0PairSynced1⟩,xa0PairTold,⟨xa0PairSpoken0,xa0PairSpoken1⟩⟩,xa0who⟩,xa1,⟨xa2Bar,xa2Program⟩⟩:=x
 obtain ⟨⟨⟨⟨⟨ya0PairDesks0Self,ya0PairDesks0Leases,ya0PairDesks0Calls,ya0PairDesks0Order⟩,⟨ya0PairDesks1Self,ya0PairDesks1Leases,ya0PairDesks1Calls,ya0PairDesks1Order⟩⟩,⟨ya0PairSynced0,ya0PairSynced1⟩,ya0PairTold,⟨ya0PairSpoken0,ya0PairSpoken1⟩⟩,ya0who⟩,ya1,⟨ya2Bar,ya2Program⟩⟩:=y
 simp_all
noncomputable def sj (args:List A):Option A:=cY mm (fun x=>(lH x.1 x.2.1 x.2.2).map fun y=>(bA y)) args
theorem Es (args:List A) (r:A) (h:sj args=some r):iU prog (cx C0).glob 69 args r:=by
 obtain ⟨x,y,rfl,hy,rfl⟩:=jm h
 exact Dg (f:=fun (y:Bool)=>(bA y)) (cx:=cx G6) (fun k args r _ h=>vH k args r h) (by kernel_rfl) (F5 G6 aH  x.1 x.2.1 x.2.2) hy
def nr (x:aC×Int×ak):List A:=[(A.ip [(iA x.1.Pair.Desks.1.Self),(A.imm (List.map ae x.1.Pair.Desks.1.Leases) false),(A.imm (List.map af x.1.Pair.Desks.1.Calls) false),(A.imm (List.map cB x.1.Pair.Desks.1.Order) false),(iA x.1.Pair.Desks.2.Self),(A.imm (List.map ae x.1.Pair.Desks.2.Leases) false),(A.imm (List.map af x.1.Pair.Desks.2.Calls) false),(A.imm (List.map cB x.1.Pair.Desks.2.Order) false),(iA x.1.Pair.Synced.1),(iA x.1.Pair.Synced.2),(A.imm (List.map ae x.1.Pair.Told) false),(A.imm (List.map af x.1.Pair.Spoken.1) false),(A.imm (List.map af x.1.Pair.Spoken.2) false),(iA x.1.who)]),(iA x.2.1),(A.fn (Fn.func 86) [] [(A.ip [(iA x.2.2.No),(iA x.2.2.Holder),(iA x.2.2.Until)])])]
theorem Ei:jd nr:=fun x y h=>by
 simp only[nr,mD,A.ip.injEq,A.fn.injEq,map_inj (cU),map_inj (bL),map_inj (iJ)] at h
 obtain ⟨⟨⟨⟨⟨xa0PairDesks0Self,xa0PairDesks0Leases,xa0PairDesks0Calls,xa0PairDesks0Order⟩,⟨xa0PairDesks1Self,xa0PairDesks1Leases,xa0PairDesks1Calls,xa0PairDesks1Order⟩⟩,⟨xa0PairSynced0,xa0PairSynced1⟩,xa0PairTold,⟨xa0PairSpoken0,xa0PairSpoken1⟩⟩,xa0who⟩,xa1,⟨xa2No,xa2Holder,xa2Until⟩⟩:=x
 obtain ⟨⟨⟨⟨⟨ya0PairDesks0Self,ya0PairDesks0Leases,ya0PairDesks0Calls,ya0PairDesks0Order⟩,⟨ya0PairDesks1Self,ya0PairDesks1Leases,ya0PairDesks1Calls,ya0PairDesks1Order⟩⟩,⟨ya0PairSynced0,ya0PairSynced1⟩,ya0PairTold,⟨ya0PairSpoken0,ya0PairSpoken1⟩⟩,ya0who⟩,ya1,⟨ya2No,ya2Holder,ya2Until⟩⟩:=y
 simp_all
noncomputable def vG (args:List A):Option A:=cY nr (fun x=>(lI x.1 x.2.1 x.2.2).map fun y=>(bA y)) args
theorem Et (args:List A) (r:A) (h:vG args=some r):iU prog (cx C0).glob 69 args r:=by
 obtain ⟨x,y,rfl,hy,rfl⟩:=jm h
 exact Dg (f:=fun (y:Bool)=>(bA y)) (cx:=cx G6) (fun k args r _ h=>vH k args r h) (by kernel_rfl) (F6 G6 aH  x.1 x.2.1 x.2.2) hy
noncomputable def DG (args:List A):Option A:=match sj args with | some r=>some r | none=>vG args
theorem Ji (args:List A) (r:A) (h:DG args=some r):iU prog (cx C0).glob 69 args r:=by
 unfold DG at h
 split at h
 ·rename_i s hs; cases h; exact Es args _ hs
 ·exact Et args r h
theorem Fw (x:aC×Int×av) (y:aC×Int×ak):mm x≠nr y:=fun h=>by simp[mm,nr] at h
theorem Bh (x:aC×Int×av):DG (mm x)=(lH x.1 x.2.1 x.2.2).map fun y=>(bA y):=by
 have h1:=bu (fun x=>(lH x.1 x.2.1 x.2.2).map fun y=>(bA y)) Eh x
 have h2:vG (mm x)=none:=by
  cases h:vG (mm x) with
  | none=>rfl
  | some r=>obtain ⟨z,hz,_⟩:=sn h; exact absurd hz.symm (Fw x z)
 unfold DG
 rw[show sj (mm x)=_ from h1,h2]
 cases (lH x.1 x.2.1 x.2.2).map fun y=>(bA y)<;>rfl
theorem Bi (x:aC×Int×ak):DG (nr x)=(lI x.1 x.2.1 x.2.2).map fun y=>(bA y):=by
 have h1:=bu (fun x=>(lI x.1 x.2.1 x.2.2).map fun y=>(bA y)) Ei x
 have h2:sj (nr x)=none:=by
  cases h:sj (nr x) with
  | none=>rfl
  | some r=>obtain ⟨z,hz,_⟩:=sn h; exact absurd hz (Fw z x)
 unfold DG
 rw[h2]
 exact h1
noncomputable def Kt:Nat->List A->Option A:=lE G6 69 DG
theorem EA:di Kt:=qK vH Ji
def G5 (x:(List ak)×ak):List A:=[(A.imm (List.map ae x.1) false),(A.agg [(iA x.2.No),(iA x.2.Holder),(iA x.2.Until)])]
theorem IJ:jd G5:=fun x y h=>by
 simp only[G5,mD,map_inj (bL)] at h
 obtain ⟨xa0,⟨xa1No,xa1Holder,xa1Until⟩⟩:=x
 obtain ⟨ya0,⟨ya1No,ya1Holder,ya1Until⟩⟩:=y
 simp_all
noncomputable def Jg (args:List A):Option A:=cY G5 (fun x=>(DS x.1 x.2).map fun y=>(iA y)) args
noncomputable def Ku:Nat->List A->Option A:=lE Kt 107 Jg
theorem EB:di Ku:=dQ EA fun x=>KT Kt aH  x.1 x.2
def MO (x:(List ak)×ak):List A:=[(A.imm (List.map ae x.1) false),(A.agg [(iA x.2.No),(iA x.2.Holder),(iA x.2.Until)])]
theorem LI:jd MO:=fun x y h=>by
 simp only[MO,mD,map_inj (bL)] at h
 obtain ⟨xa0,⟨xa1No,xa1Holder,xa1Until⟩⟩:=x
 obtain ⟨ya0,⟨ya1No,ya1Holder,ya1Until⟩⟩:=y
 simp_all
noncomputable def Nu (args:List A):Option A:=cY MO (fun x=>(HB x.1 x.2).map fun y=>(bA y)) args
theorem Ju {C:Nat->List A->Option A} (h:∀ a,C 107 a=Jg a):Bq C:=fun a0 a1=>(h _).trans (bu _ IJ (a0,a1))
noncomputable def Kv:Nat->List A->Option A:=lE Ku 88 Nu
theorem EC:di Kv:=dQ EB fun x=>N7 Ku aH (Ju fun _=>by kernel_rfl) x.1 x.2
def MK (x:ah×ak):List A:=[(A.agg [(iA x.1.Self),(A.imm (List.map ae x.1.Leases) false),(A.imm (List.map af x.1.Calls) false),(A.imm (List.map cB x.1.Order) false)]),(A.agg [(iA x.2.No),(iA x.2.Holder),(iA x.2.Until)])]
theorem LD:jd MK:=fun x y h=>by
 simp only[MK,mD,map_inj (cU),map_inj (bL),map_inj (iJ)] at h
 obtain ⟨⟨xa0Self,xa0Leases,xa0Calls,xa0Order⟩,⟨xa1No,xa1Holder,xa1Until⟩⟩:=x
 obtain ⟨⟨ya0Self,ya0Leases,ya0Calls,ya0Order⟩,⟨ya1No,ya1Holder,ya1Until⟩⟩:=y
 simp_all
noncomputable def Nq (args:List A):Option A:=cY MK (fun x=>(Hx x.1 x.2).map fun y=>(A.tup [(A.agg [(iA y.1.Self),(A.imm (List.map ae y.1.Leases) false),(A.imm (List.map af y.1.Calls) false),(A.imm (List.map cB y.1.Order) false)]),(iA y.2)])) args
theorem Mq {C:Nat->List A->Option A} (h:∀ a,C 88 a=Nu a):Fl C:=fun a0 a1=>(h _).trans (bu _ LI (a0,a1))
noncomputable def Kw:Nat->List A->Option A:=lE Kv 73 Nq
theorem Ai:di Kw:=dQ EC fun x=>N3 Kv aH (xv fun _=>by kernel_rfl) (Dn fun _=>by kernel_rfl) (GX fun _=>by kernel_rfl) (Mq fun _=>by kernel_rfl) x.1 x.2
def JK (x:ar):List A:=[(A.agg [(iA x.Kind),(iA x.N),(A.v (Value.string x.S)),(A.imm (List.map aw x.L) false)])]
theorem IK:jd JK:=fun x y h=>by
 simp only[JK,mD,map_inj (og)] at h
 obtain ⟨xa0Kind,xa0N,xa0S,xa0L⟩:=x
 obtain ⟨ya0Kind,ya0N,ya0S,ya0L⟩:=y
 simp_all
noncomputable def L6 (args:List A):Option A:=cY JK (fun x=>(Kb x).map fun y=>(A.tup [(iA y.1),(bA y.2)])) args
noncomputable def GH (q:Nat) (args:List A):Option A:=cY JK (fun x=>(Fp q x).map fun y=>(A.tup [(iA y.1),(bA y.2)])) args
noncomputable def xM (q:Nat):Nat->List A->Option A:=lE Kw 91 (GH q)
theorem Pb (q:Nat):xQ (xM q) (Fp q):=fun a0=>(by kernel_rfl:_=GH q (JK a0)).trans (bu _ IK a0)
theorem FO:∀ (q:Nat) (args:List A) (r:A) (h:GH q args=some r),iU prog (cx C0).glob 91 args r
 | 0,args,r,h=>by
  obtain ⟨x,y,rfl,hy,rfl⟩:=jm h
  cases hy
 | q+1,args,r,h=>by
  obtain ⟨x,y,rfl,hy,rfl⟩:=jm h
  exact Dg (f:=fun (y:(Int×Bool))=>(A.tup [(iA y.1),(bA y.2)])) (cx:=cx (xM q)) (fun k args r _ h=>qK Ai (FO q) k args r h) (by kernel_rfl) (N8 (xM q) aH  (Fp q) (Pb q) x) hy
theorem L7 (args:List A) (r:A) (h:L6 args=some r):iU prog (cx C0).glob 91 args r:=FO aH args r h
noncomputable def Kx:Nat->List A->Option A:=lE Kw 91 L6
theorem ED:di Kx:=qK Ai L7
def MN (x:ar):List A:=[(A.agg [(iA x.Kind),(iA x.N),(A.v (Value.string x.S)),(A.imm (List.map aw x.L) false)])]
theorem LH:jd MN:=fun x y h=>by
 simp only[MN,mD,map_inj (og)] at h
 obtain ⟨xa0Kind,xa0N,xa0S,xa0L⟩:=x
 obtain ⟨ya0Kind,ya0N,ya0S,ya0L⟩:=y
 simp_all
noncomputable def Nt (args:List A):Option A:=cY MN (fun x=>(HA x).map fun y=>(iA y)) args
theorem Mr {C:Nat->List A->Option A} (h:∀ a,C 91 a=L6 a):Fm C:=fun a0=>(h _).trans (bu _ IK a0)
noncomputable def Ky:Nat->List A->Option A:=lE Kx 76 Nt
theorem EE:di Ky:=dQ ED fun x=>N6 Kx aH (Mr fun _=>by kernel_rfl) x
def MP (x:Int):List A:=[(iA x)]
theorem LJ:jd MP:=fun x y h=>by
 simp only[MP,mD] at h
 exact h
noncomputable def Nv (args:List A):Option A:=cY MP (fun x=>(FX x).map fun y=>(A.v (.int .u64 y))) args
noncomputable def Kz:Nat->List A->Option A:=lE Ky 94 Nv
theorem EF:di Kz:=dQ EE fun x=>N9 Ky aH  x
def DN (x:ar):List A:=[(A.agg [(iA x.Kind),(iA x.N),(A.v (Value.string x.S)),(A.imm (List.map aw x.L) false)])]
theorem LB:jd DN:=fun x y h=>by
 simp only[DN,mD,map_inj (og)] at h
 obtain ⟨xa0Kind,xa0N,xa0S,xa0L⟩:=x
 obtain ⟨ya0Kind,ya0N,ya0S,ya0L⟩:=y
 simp_all
noncomputable def Nn (args:List A):Option A:=cY DN (fun x=>(Hf x).map fun y=>(A.tup [(A.imm (List.map c8 y.1) false),(iA y.2)])) args
theorem Mp {C:Nat->List A->Option A} (h:∀ a,C 76 a=Nt a):Fk C:=fun a0=>(h _).trans (bu _ LH a0)
theorem Ms {C:Nat->List A->Option A} (h:∀ a,C 94 a=Nv a):tx C:=fun a0=>(h _).trans (bu _ LJ a0)
noncomputable def KA:Nat->List A->Option A:=lE Kz 56 Nn
theorem EG:di KA:=dQ EF fun x=>N1 Kz aH (Mp fun _=>by kernel_rfl) (Ms fun _=>by kernel_rfl) x
def MF (x:(List Int)):List A:=[(A.imm (List.map (cI .i64) x) false)]
theorem Lt:jd MF:=fun x y h=>by
 simp only[MF,mD,map_inj (IG .i64)] at h
 exact h
noncomputable def Nf (args:List A):Option A:=cY MF (fun x=>(E9 x).map fun y=>(A.imm (List.map c8 y) false)) args
theorem Mk {C:Nat->List A->Option A} (h:∀ a,C 56 a=Nn a):Ff C:=fun a0=>(h _).trans (bu _ LB a0)
noncomputable def KB:Nat->List A->Option A:=lE KA 29 Nf
theorem EH:di KB:=dQ EG fun x=>NT KA aH (Mk fun _=>by kernel_rfl) x
def x9 (x:ah):List A:=[(A.agg [(iA x.Self),(A.imm (List.map ae x.Leases) false),(A.imm (List.map af x.Calls) false),(A.imm (List.map cB x.Order) false)])]
theorem O6:jd x9:=fun x y h=>by
 simp only[x9,mD,map_inj (cU),map_inj (bL),map_inj (iJ)] at h
 obtain ⟨xa0Self,xa0Leases,xa0Calls,xa0Order⟩:=x
 obtain ⟨ya0Self,ya0Leases,ya0Calls,ya0Order⟩:=y
 simp_all
noncomputable def o9 (args:List A):Option A:=cY x9 (fun x=>(G9 x).map fun y=>(A.tup [(A.imm (List.map (cL c8) y.1) false),(iA y.2)])) args
theorem Mg {C:Nat->List A->Option A} (h:∀ a,C 29 a=Nf a):Bz C:=fun a0=>(h _).trans (bu _ Lt a0)
noncomputable def KC:Nat->List A->Option A:=lE KB 9 o9
theorem EI:di KC:=dQ EH fun x=>T9 KB aH (xv fun _=>by kernel_rfl) (Mg fun _=>by kernel_rfl) x
def DH (x:aE×bj):List A:=[(A.agg [(iA x.1.Desks.1.Self),(A.imm (List.map ae x.1.Desks.1.Leases) false),(A.imm (List.map af x.1.Desks.1.Calls) false),(A.imm (List.map cB x.1.Desks.1.Order) false),(iA x.1.Desks.2.Self),(A.imm (List.map ae x.1.Desks.2.Leases) false),(A.imm (List.map af x.1.Desks.2.Calls) false),(A.imm (List.map cB x.1.Desks.2.Order) false),(iA x.1.Synced.1),(iA x.1.Synced.2),(A.imm (List.map ae x.1.Told) false),(A.imm (List.map af x.1.Spoken.1) false),(A.imm (List.map af x.1.Spoken.2) false)]),(A.agg [(iA x.2.Kind),(iA x.2.Who),(iA x.2.A),(iA x.2.B)])]
theorem Lj:jd DH:=fun x y h=>by
 simp only[DH,mD,map_inj (cU),map_inj (bL),map_inj (iJ)] at h
 obtain ⟨⟨⟨⟨xa0Desks0Self,xa0Desks0Leases,xa0Desks0Calls,xa0Desks0Order⟩,⟨xa0Desks1Self,xa0Desks1Leases,xa0Desks1Calls,xa0Desks1Order⟩⟩,⟨xa0Synced0,xa0Synced1⟩,xa0Told,⟨xa0Spoken0,xa0Spoken1⟩⟩,⟨xa1Kind,xa1Who,xa1A,xa1B⟩⟩:=x
 obtain ⟨⟨⟨⟨ya0Desks0Self,ya0Desks0Leases,ya0Desks0Calls,ya0Desks0Order⟩,⟨ya0Desks1Self,ya0Desks1Leases,ya0Desks1Calls,ya0Desks1Order⟩⟩,⟨ya0Synced0,ya0Synced1⟩,ya0Told,⟨ya0Spoken0,ya0Spoken1⟩⟩,⟨ya1Kind,ya1Who,ya1A,ya1B⟩⟩:=y
 simp_all
noncomputable def M5 (args:List A):Option A:=cY DH (fun x=>(DT x.1 x.2).map fun y=>(A.tup [(A.agg [(iA y.1.Desks.1.Self),(A.imm (List.map ae y.1.Desks.1.Leases) false),(A.imm (List.map af y.1.Desks.1.Calls) false),(A.imm (List.map cB y.1.Desks.1.Order) false),(iA y.1.Desks.2.Self),(A.imm (List.map ae y.1.Desks.2.Leases) false),(A.imm (List.map af y.1.Desks.2.Calls) false),(A.imm (List.map cB y.1.Desks.2.Order) false),(iA y.1.Synced.1),(iA y.1.Synced.2),(A.imm (List.map ae y.1.Told) false),(A.imm (List.map af y.1.Spoken.1) false),(A.imm (List.map af y.1.Spoken.2) false)]),(iA y.2)])) args
theorem Jv {C:Nat->List A->Option A} (h:∀ a,C 11 a=M0 a):Br C:=fun a0 a1=>(h _).trans (bu _ Lf (a0,a1))
theorem Jy {C:Nat->List A->Option A} (h:∀ a,C 24 a=Hn a):Bw C:=fun a0 a1 a2=>(h _).trans (bu _ Lp (a0,a1,a2))
theorem JA {C:Nat->List A->Option A} (h:∀ a,C 26 a=Nc a):Bx C:=fun a0 a1 a2=>(h _).trans (bu _ Lr (a0,a1,a2))
theorem E0 {C:Nat->List A->Option A} (h:∀ a,C 69 a=DG a):oH C:=fun a0 a1 a2=>(h _).trans (Bh (a0,a1,a2))
theorem E1 {C:Nat->List A->Option A} (h:∀ a,C 69 a=DG a):qN C:=fun a0 a1 a2=>(h _).trans (Bi (a0,a1,a2))
theorem Mm {C:Nat->List A->Option A} (h:∀ a,C 73 a=Nq a):Fh C:=fun a0 a1=>(h _).trans (bu _ LD (a0,a1))
theorem ND {C:Nat->List A->Option A} (h:∀ a,C 9 a=o9 a):F0 C:=fun a0=>(h _).trans (bu _ O6 a0)
noncomputable def KD:Nat->List A->Option A:=lE KC 17 M5
theorem EJ:di KD:=dQ EI fun x=>NJ KC aH (Jv fun _=>by kernel_rfl) (xv fun _=>by kernel_rfl) (Jy fun _=>by kernel_rfl) (JA fun _=>by kernel_rfl) (Dp fun _=>by kernel_rfl) (E0 fun _=>by kernel_rfl) (E1 fun _=>by kernel_rfl) (Mm fun _=>by kernel_rfl) (ND fun _=>by kernel_rfl) x.1 x.2
def ME (x:aE×(List bj)):List A:=[(A.agg [(iA x.1.Desks.1.Self),(A.imm (List.map ae x.1.Desks.1.Leases) false),(A.imm (List.map af x.1.Desks.1.Calls) false),(A.imm (List.map cB x.1.Desks.1.Order) false),(iA x.1.Desks.2.Self),(A.imm (List.map ae x.1.Desks.2.Leases) false),(A.imm (List.map af x.1.Desks.2.Calls) false),(A.imm (List.map cB x.1.Desks.2.Order) false),(iA x.1.Synced.1),(iA x.1.Synced.2),(A.imm (List.map ae x.1.Told) false),(A.imm (List.map af x.1.Spoken.1) false),(A.imm (List.map af x.1.Spoken.2) false)]),(A.imm (List.map al x.2) false)]
theorem Ls:jd ME:=fun x y h=>by
 simp only[ME,mD,map_inj (cU),map_inj (tZ),map_inj (bL),map_inj (iJ)] at h
 obtain ⟨⟨⟨⟨xa0Desks0Self,xa0Desks0Leases,xa0Desks0Calls,xa0Desks0Order⟩,⟨xa0Desks1Self,xa0Desks1Leases,xa0Desks1Calls,xa0Desks1Order⟩⟩,⟨xa0Synced0,xa0Synced1⟩,xa0Told,⟨xa0Spoken0,xa0Spoken1⟩⟩,xa1⟩:=x
 obtain ⟨⟨⟨⟨ya0Desks0Self,ya0Desks0Leases,ya0Desks0Calls,ya0Desks0Order⟩,⟨ya0Desks1Self,ya0Desks1Leases,ya0Desks1Calls,ya0Desks1Order⟩⟩,⟨ya0Synced0,ya0Synced1⟩,ya0Told,⟨ya0Spoken0,ya0Spoken1⟩⟩,ya1⟩:=y
 simp_all
noncomputable def Nd (args:List A):Option A:=cY ME (fun x=>(Hu x.1 x.2).map fun y=>(A.tup [(A.agg [(iA y.1.Desks.1.Self),(A.imm (List.map ae y.1.Desks.1.Leases) false),(A.imm (List.map af y.1.Desks.1.Calls) false),(A.imm (List.map cB y.1.Desks.1.Order) false),(iA y.1.Desks.2.Self),(A.imm (List.map ae y.1.Desks.2.Leases) false),(A.imm (List.map af y.1.Desks.2.Calls) false),(A.imm (List.map cB y.1.Desks.2.Order) false),(iA y.1.Synced.1),(iA y.1.Synced.2),(A.imm (List.map ae y.1.Told) false),(A.imm (List.map af y.1.Spoken.1) false),(A.imm (List.map af y.1.Spoken.2) false)]),(bA y.2)])) args
theorem GW {C:Nat->List A->Option A} (h:∀ a,C 17 a=M5 a):tv C:=fun a0 a1=>(h _).trans (bu _ Lj (a0,a1))
noncomputable def KE:Nat->List A->Option A:=lE KD 27 Nd
theorem EK:di KE:=dQ EJ fun x=>NS KD aH (GW fun _=>by kernel_rfl) x.1 x.2
def DJ (x:(List ak)×(List ak)):List A:=[(A.imm (List.map ae x.1) false),(A.imm (List.map ae x.2) false)]
theorem Ll:jd DJ:=fun x y h=>by
 simp only[DJ,mD,map_inj (bL)] at h
 obtain ⟨xa0,xa1⟩:=x
 obtain ⟨ya0,ya1⟩:=y
 simp_all
noncomputable def M7 (args:List A):Option A:=cY DJ (fun x=>(DC x.1 x.2).map fun y=>(bA y)) args
noncomputable def KF:Nat->List A->Option A:=lE KE 19 M7
theorem EL:di KF:=dQ EK fun x=>NL KE aH  x.1 x.2
def MB (x:(List av)×(List av)):List A:=[(A.imm (List.map af x.1) false),(A.imm (List.map af x.2) false)]
theorem Ln:jd MB:=fun x y h=>by
 simp only[MB,mD,map_inj (cU)] at h
 obtain ⟨xa0,xa1⟩:=x
 obtain ⟨ya0,ya1⟩:=y
 simp_all
noncomputable def M9 (args:List A):Option A:=cY MB (fun x=>(E8 x.1 x.2).map fun y=>(bA y)) args
noncomputable def KG:Nat->List A->Option A:=lE KF 21 M9
theorem EM:di KG:=dQ EL fun x=>NN KF aH  x.1 x.2
def kz (x:ah×ah):List A:=[(A.agg [(iA x.1.Self),(A.imm (List.map ae x.1.Leases) false),(A.imm (List.map af x.1.Calls) false),(A.imm (List.map cB x.1.Order) false)]),(A.agg [(iA x.2.Self),(A.imm (List.map ae x.2.Leases) false),(A.imm (List.map af x.2.Calls) false),(A.imm (List.map cB x.2.Order) false)])]
theorem Lg:jd kz:=fun x y h=>by
 simp only[kz,mD,map_inj (cU),map_inj (bL),map_inj (iJ)] at h
 obtain ⟨⟨xa0Self,xa0Leases,xa0Calls,xa0Order⟩,⟨xa1Self,xa1Leases,xa1Calls,xa1Order⟩⟩:=x
 obtain ⟨⟨ya0Self,ya0Leases,ya0Calls,ya0Order⟩,⟨ya1Self,ya1Leases,ya1Calls,ya1Order⟩⟩:=y
 simp_all
noncomputable def M1 (args:List A):Option A:=cY kz (fun x=>(E7 x.1 x.2).map fun y=>(bA y)) args
theorem Dm {C:Nat->List A->Option A} (h:∀ a,C 19 a=M7 a):qL C:=fun a0 a1=>(h _).trans (bu _ Ll (a0,a1))
theorem EZ {C:Nat->List A->Option A} (h:∀ a,C 21 a=M9 a):qj C:=fun a0 a1=>(h _).trans (bu _ Ln (a0,a1))
noncomputable def KH:Nat->List A->Option A:=lE KG 14 M1
theorem EN:di KH:=dQ EM fun x=>NG KG aH (Dm fun _=>by kernel_rfl) (EZ fun _=>by kernel_rfl) x.1 x.2
def x7 (x:Unit):List A:=[]
theorem O5:jd x7:=fun _ _ _=>rfl
noncomputable def o7 (args:List A):Option A:=cY x7 (fun x=>(G7 ).map fun y=>(bA y)) args
theorem Jw {C:Nat->List A->Option A} (h:∀ a,C 14 a=M1 a):zl C:=fun a0 a1=>(h _).trans (bu _ Lg (a0,a1))
theorem Jx {C:Nat->List A->Option A} (h:∀ a,C 15 a=M3 a):Bt C:=fun a0 a1=>(h _).trans (bu _ Lh (a0,a1))
theorem Mf {C:Nat->List A->Option A} (h:∀ a,C 27 a=Nd a):Fe C:=fun a0 a1=>(h _).trans (bu _ Ls (a0,a1))
noncomputable def KI:Nat->List A->Option A:=lE KH 7 o7
theorem EO:di KI:=dQ EN fun x=>T7 KH aH (Jv fun _=>by kernel_rfl) (Jw fun _=>by kernel_rfl) (Jx fun _=>by kernel_rfl) (GW fun _=>by kernel_rfl) (Dm fun _=>by kernel_rfl) (xv fun _=>by kernel_rfl) (EZ fun _=>by kernel_rfl) (Jy fun _=>by kernel_rfl) (Jz fun _=>by kernel_rfl) (JA fun _=>by kernel_rfl) (Mf fun _=>by kernel_rfl) (ND fun _=>by kernel_rfl)
def Mz (x:aE×aE):List A:=[(A.agg [(iA x.1.Desks.1.Self),(A.imm (List.map ae x.1.Desks.1.Leases) false),(A.imm (List.map af x.1.Desks.1.Calls) false),(A.imm (List.map cB x.1.Desks.1.Order) false),(iA x.1.Desks.2.Self),(A.imm (List.map ae x.1.Desks.2.Leases) false),(A.imm (List.map af x.1.Desks.2.Calls) false),(A.imm (List.map cB x.1.Desks.2.Order) false),(iA x.1.Synced.1),(iA x.1.Synced.2),(A.imm (List.map ae x.1.Told) false),(A.imm (List.map af x.1.Spoken.1) false),(A.imm (List.map af x.1.Spoken.2) false)]),(A.agg [(iA x.2.Desks.1.Self),(A.imm (List.map ae x.2.Desks.1.Leases) false),(A.imm (List.map af x.2.Desks.1.Calls) false),(A.imm (List.map cB x.2.Desks.1.Order) false),(iA x.2.Desks.2.Self),(A.imm (List.map ae x.2.Desks.2.Leases) false),(A.imm (List.map af x.2.Desks.2.Calls) false),(A.imm (List.map cB x.2.Desks.2.Order) false),(iA x.2.Synced.1),(iA x.2.Synced.2),(A.imm (List.map ae x.2.Told) false),(A.imm (List.map af x.2.Spoken.1) false),(A.imm (List.map af x.2.Spoken.2) false)])]
theorem Li:jd Mz:=fun x y h=>by
 simp only[Mz,mD,map_inj (cU),map_inj (bL),map_inj (iJ)] at h
 obtain ⟨⟨⟨⟨xa0Desks0Self,xa0Desks0Leases,xa0Desks0Calls,xa0Desks0Order⟩,⟨xa0Desks1Self,xa0Desks1Leases,xa0Desks1Calls,xa0Desks1Order⟩⟩,⟨xa0Synced0,xa0Synced1⟩,xa0Told,⟨xa0Spoken0,xa0Spoken1⟩⟩,⟨⟨⟨xa1Desks0Self,xa1Desks0Leases,xa1Desks0Calls,xa1Desks0Order⟩,⟨xa1Desks1Self,xa1Desks1Leases,xa1Desks1Calls,xa1Desks1Order⟩⟩,⟨xa1Synced0,xa1Synced1⟩,xa1Told,⟨xa1Spoken0,xa1Spoken1⟩⟩⟩:=x
 obtain ⟨⟨⟨⟨ya0Desks0Self,ya0Desks0Leases,ya0Desks0Calls,ya0Desks0Order⟩,⟨ya0Desks1Self,ya0Desks1Leases,ya0Desks1Calls,ya0Desks1Order⟩⟩,⟨ya0Synced0,ya0Synced1⟩,ya0Told,⟨ya0Spoken0,ya0Spoken1⟩⟩,⟨⟨⟨ya1Desks0Self,ya1Desks0Leases,ya1Desks0Calls,ya1Desks0Order⟩,⟨ya1Desks1Self,ya1Desks1Leases,ya1Desks1Calls,ya1Desks1Order⟩⟩,⟨ya1Synced0,ya1Synced1⟩,ya1Told,⟨ya1Spoken0,ya1Spoken1⟩⟩⟩:=y
 simp_all
noncomputable def M4 (args:List A):Option A:=cY Mz (fun x=>(Hs x.1 x.2).map fun y=>(bA y)) args
noncomputable def KJ:Nat->List A->Option A:=lE KI 16 M4
theorem EP:di KJ:=dQ EO fun x=>NI KI aH (Jw fun _=>by kernel_rfl) (Dm fun _=>by kernel_rfl) (EZ fun _=>by kernel_rfl) x.1 x.2
def MC (x:(List ak)×(List ak)):List A:=[(A.imm (List.map ae x.1) false),(A.imm (List.map ae x.2) false)]
theorem Lo:jd MC:=fun x y h=>by
 simp only[MC,mD,map_inj (bL)] at h
 obtain ⟨xa0,xa1⟩:=x
 obtain ⟨ya0,ya1⟩:=y
 simp_all
noncomputable def Na (args:List A):Option A:=cY MC (fun x=>(Ha x.1 x.2).map fun y=>(bA y)) args
noncomputable def KK:Nat->List A->Option A:=lE KJ 22 Na
theorem ES:di KK:=dQ EP fun x=>NO KJ aH (Dm fun _=>by kernel_rfl) x.1 x.2
def MH (x:(List ak)×ak):List A:=[(A.imm (List.map ae x.1) false),(A.agg [(iA x.2.No),(iA x.2.Holder),(iA x.2.Until)])]
theorem Lx:jd MH:=fun x y h=>by
 simp only[MH,mD,map_inj (bL)] at h
 obtain ⟨xa0,⟨xa1No,xa1Holder,xa1Until⟩⟩:=x
 obtain ⟨ya0,⟨ya1No,ya1Holder,ya1Until⟩⟩:=y
 simp_all
noncomputable def Nj (args:List A):Option A:=cY MH (fun x=>(He x.1 x.2).map fun y=>(bA y)) args
noncomputable def KL:Nat->List A->Option A:=lE KK 48 Nj
theorem ET:di KL:=dQ ES fun x=>NX KK aH  x.1 x.2
def MI (x:(List av)×av):List A:=[(A.imm (List.map af x.1) false),(A.agg [(iA x.2.Bar),(iA x.2.Program)])]
theorem Ly:jd MI:=fun x y h=>by
 simp only[MI,mD,map_inj (cU)] at h
 obtain ⟨xa0,⟨xa1Bar,xa1Program⟩⟩:=x
 obtain ⟨ya0,⟨ya1Bar,ya1Program⟩⟩:=y
 simp_all
noncomputable def Nk (args:List A):Option A:=cY MI (fun x=>(Hv x.1 x.2).map fun y=>(bA y)) args
noncomputable def KM:Nat->List A->Option A:=lE KL 49 Nk
theorem EU:di KM:=dQ ET fun x=>NY KL aH  x.1 x.2
def DI (x:aE):List A:=[(A.agg [(iA x.Desks.1.Self),(A.imm (List.map ae x.Desks.1.Leases) false),(A.imm (List.map af x.Desks.1.Calls) false),(A.imm (List.map cB x.Desks.1.Order) false),(iA x.Desks.2.Self),(A.imm (List.map ae x.Desks.2.Leases) false),(A.imm (List.map af x.Desks.2.Calls) false),(A.imm (List.map cB x.Desks.2.Order) false),(iA x.Synced.1),(iA x.Synced.2),(A.imm (List.map ae x.Told) false),(A.imm (List.map af x.Spoken.1) false),(A.imm (List.map af x.Spoken.2) false)])]
theorem Lk:jd DI:=fun x y h=>by
 simp only[DI,mD,map_inj (cU),map_inj (bL),map_inj (iJ)] at h
 obtain ⟨⟨⟨xa0Desks0Self,xa0Desks0Leases,xa0Desks0Calls,xa0Desks0Order⟩,⟨xa0Desks1Self,xa0Desks1Leases,xa0Desks1Calls,xa0Desks1Order⟩⟩,⟨xa0Synced0,xa0Synced1⟩,xa0Told,⟨xa0Spoken0,xa0Spoken1⟩⟩:=x
 obtain ⟨⟨⟨ya0Desks0Self,ya0Desks0Leases,ya0Desks0Calls,ya0Desks0Order⟩,⟨ya0Desks1Self,ya0Desks1Leases,ya0Desks1Calls,ya0Desks1Order⟩⟩,⟨ya0Synced0,ya0Synced1⟩,ya0Told,⟨ya0Spoken0,ya0Spoken1⟩⟩:=y
 simp_all
noncomputable def M6 (args:List A):Option A:=cY DI (fun x=>(Ht x).map fun y=>(bA y)) args
theorem Me {C:Nat->List A->Option A} (h:∀ a,C 22 a=Na a):Fc C:=fun a0 a1=>(h _).trans (bu _ Lo (a0,a1))
theorem Mi {C:Nat->List A->Option A} (h:∀ a,C 48 a=Nj a):BB C:=fun a0 a1=>(h _).trans (bu _ Lx (a0,a1))
theorem Mj {C:Nat->List A->Option A} (h:∀ a,C 49 a=Nk a):zp C:=fun a0 a1=>(h _).trans (bu _ Ly (a0,a1))
noncomputable def KN:Nat->List A->Option A:=lE KM 18 M6
theorem EV:di KN:=dQ EU fun x=>NK KM aH (Me fun _=>by kernel_rfl) (Mi fun _=>by kernel_rfl) (Mj fun _=>by kernel_rfl) x
def x4 (x:Int×Int×(List bj)):List A:=[(iA x.1),(iA x.2.1),(A.imm (List.map al x.2.2) false)]
theorem O4:jd x4:=fun x y h=>by
 simp only[x4,mD,map_inj (tZ)] at h
 obtain ⟨xa0,xa1,xa2⟩:=x
 obtain ⟨ya0,ya1,ya2⟩:=y
 simp_all
noncomputable def o4 (args:List A):Option A:=cY x4 (fun x=>(G4 x.1 x.2.1 x.2.2).map fun y=>(bA y)) args
theorem Mc {C:Nat->List A->Option A} (h:∀ a,C 16 a=M4 a):Bu C:=fun a0 a1=>(h _).trans (bu _ Li (a0,a1))
theorem Md {C:Nat->List A->Option A} (h:∀ a,C 18 a=M6 a):Bv C:=fun a0=>(h _).trans (bu _ Lk a0)
theorem Pa {C:Nat->List A->Option A} (h:∀ a,C 7 a=o7 a):HF C:=fun _=>(h _).trans (bu _ O5 ())
theorem O7 (args:List A) (r:A) (h:o4 args=some r):iU prog (cx C0).glob 4 args r:=by
 obtain ⟨x,y,rfl,hy,rfl⟩:=jm h
 exact Dg (f:=fun (y:Bool)=>(bA y)) (cx:=cx KN) (fun k args r _ h=>EV k args r h) (by kernel_rfl) (T4 KN aH (Jx fun _=>by kernel_rfl) (Mc fun _=>by kernel_rfl) (GW fun _=>by kernel_rfl) (Md fun _=>by kernel_rfl) (Dm fun _=>by kernel_rfl) (xv fun _=>by kernel_rfl) (EZ fun _=>by kernel_rfl) (Pa fun _=>by kernel_rfl) x.1 x.2.1 x.2.2) hy
end Go.Proofs.Ytdmgdjnadbakfaa
