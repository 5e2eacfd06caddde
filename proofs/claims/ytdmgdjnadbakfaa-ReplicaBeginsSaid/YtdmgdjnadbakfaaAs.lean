/-
 What is proved of the functions, put together: by a tool.
-/
import Derived.Test.YtdmgdjnadbakfaaTb5
namespace Go.Proofs.Ytdmgdjnadbakfaa
open Go.Proofs.Try (prog)
set_option linter.unusedVariables false
set_option linter.unusedSimpArgs false
set_option maxHeartbeats 4000000
set_option maxRecDepth 100000
theorem in_S_Value:Inj c_S_Value:=fun x y h=>by
 unfold c_S_Value at h
 simp only[List.cons.injEq,A.v.injEq,Value.int.injEq,Value.bool.injEq,Value.string.injEq,and_true,true_and] at h
 have h3:=ia_S_Value x y (by simp[h])
 obtain ⟨xKind,xN,xS,lx⟩:=x; obtain ⟨yKind,yN,yS,ly⟩:=y
 simp_all
theorem in_S_Lease:Inj c_S_Lease:=fun x y h=>by
 obtain ⟨xNo,xHolder,xUntil⟩:=x; obtain ⟨yNo,yHolder,yUntil⟩:=y
 simp only[c_S_Lease,List.cons.injEq,A.v.injEq,A.imm.injEq,Value.int.injEq,Value.bool.injEq,Value.string.injEq,and_true,true_and] at h
 simp_all
theorem in_S_Call:Inj c_S_Call:=fun x y h=>by
 obtain ⟨xBar,xProgram⟩:=x; obtain ⟨yBar,yProgram⟩:=y
 simp only[c_S_Call,List.cons.injEq,A.v.injEq,A.imm.injEq,Value.int.injEq,Value.bool.injEq,Value.string.injEq,and_true,true_and] at h
 simp_all
theorem in_S_Deed:Inj c_S_Deed:=fun x y h=>by
 obtain ⟨xKind,xWho,xA,xB⟩:=x; obtain ⟨yKind,yWho,yA,yB⟩:=y
 simp only[c_S_Deed,List.cons.injEq,A.v.injEq,A.imm.injEq,Value.int.injEq,Value.bool.injEq,Value.string.injEq,and_true,true_and] at h
 simp_all
noncomputable def C0:Nat->List A->Option A:=fun _ _=>none
def AllOK (C:Nat->List A->Option A):Prop:=∀ (k:Nat) (args:List A) (r:A),C k args=some r->CallOK prog (cx C0).glob k args r
theorem orc0:AllOK C0:=fun k args r h=>(by cases h)
theorem orc_upd {C:Nat->List A->Option A} {k:Nat} {c:List A->Option A} (h:AllOK C) (hc:∀ args r,c args=some r->CallOK prog (cx C0).glob k args r):AllOK (upd C k c):=fun j args r hr=>by
 simp only[upd] at hr
 rw[bcond] at hr
 split at hr
 ·rename_i hj
  rw[Nat.eq_of_beq_eq_true hj]; exact hc args r hr
 ·exact h j args r hr
theorem cnS_ok {C:Nat->List A->Option A} (hC:AllOK C) (N k:Nat) (args:List A) (r:A) (h:cnS C N k args=some r):CallOK prog (cx C0).glob k args r:=by
 unfold cnS at h
 split at h
 ·rename_i x H he
  cases h
  exact callOK_of_ev (cx:=cx C) (fun k args r _ h=>hC k args r h) (by kernel_rfl) he
 ·cases h
theorem cn_ok:∀ m,AllOK (Cn m)
 | 0=>fun k args r h=>(by cases h)
 | m+1=>fun k args r h=>cnS_ok (cn_ok m) 1000 k args r h
def x47 (x:Int×Int×Int):List A:=[(iA x.1),(iA x.2.1),(iA x.2.2)]
theorem ix47:Inj x47:=fun x y h=>by
 simp only[x47,in0] at h
 obtain ⟨xa0,xa1,xa2⟩:=x
 obtain ⟨ya0,ya1,ya2⟩:=y
 simp_all
noncomputable def o47 (args:List A):Option A:=orcOf x47 (fun x=>(G47 x.1 x.2.1 x.2.2).map fun y=>(bA y)) args
theorem ok47 (args:List A) (r:A) (h:o47 args=some r):CallOK prog (cx C0).glob 47 args r:=by
 obtain ⟨x,y,rfl,hy,rfl⟩:=orcOf_map h
 exact ok_J (f:=fun (y:Bool)=>(bA y)) (cx:=cx C0) (fun k args r _ h=>orc0 k args r h) (by kernel_rfl) (T47 C0 fuel0  x.1 x.2.1 x.2.2) hy
noncomputable def C1:Nat->List A->Option A:=upd C0 47 o47
theorem orc_C1:AllOK C1:=orc_upd orc0 ok47
def x25 (x:Int×Int×Int):List A:=[(iA x.1),(iA x.2.1),(iA x.2.2)]
theorem ix25:Inj x25:=fun x y h=>by
 simp only[x25,in0] at h
 obtain ⟨xa0,xa1,xa2⟩:=x
 obtain ⟨ya0,ya1,ya2⟩:=y
 simp_all
noncomputable def o25 (args:List A):Option A:=orcOf x25 (fun x=>(G25 x.1 x.2.1 x.2.2).map fun y=>(A.tup [(A.agg [(iA y.1.Self),(A.imm (List.map c_S_Lease y.1.Leases) false),(A.imm (List.map c_S_Call y.1.Calls) false),(A.imm (List.map cB y.1.Order) false)]),(iA y.2)])) args
theorem r47_C1:Orc47 C1:=fun a0 a1 a2=>(by kernel_rfl:_=o47 (x47 (a0,a1,a2))).trans (orcOf_eq _ ix47 (a0,a1,a2))
theorem ok25 (args:List A) (r:A) (h:o25 args=some r):CallOK prog (cx C0).glob 25 args r:=by
 obtain ⟨x,y,rfl,hy,rfl⟩:=orcOf_map h
 exact ok_J (f:=fun (y:(S_Replica×Int))=>(A.tup [(A.agg [(iA y.1.Self),(A.imm (List.map c_S_Lease y.1.Leases) false),(A.imm (List.map c_S_Call y.1.Calls) false),(A.imm (List.map cB y.1.Order) false)]),(iA y.2)])) (cx:=cx C1) (fun k args r _ h=>orc_C1 k args r h) (by kernel_rfl) (T25 C1 fuel0 (r47_C1) x.1 x.2.1 x.2.2) hy
noncomputable def C2:Nat->List A->Option A:=upd C1 25 o25
theorem orc_C2:AllOK C2:=orc_upd orc_C1 ok25
def x26 (x:S_Replica×Int×Int):List A:=[(A.agg [(iA x.1.Self),(A.imm (List.map c_S_Lease x.1.Leases) false),(A.imm (List.map c_S_Call x.1.Calls) false),(A.imm (List.map cB x.1.Order) false)]),(iA x.2.1),(iA x.2.2)]
theorem ix26:Inj x26:=fun x y h=>by
 simp only[x26,in0,map_inj (in_S_Call),map_inj (in_S_Lease),map_inj (in_cB)] at h
 obtain ⟨⟨xa0Self,xa0Leases,xa0Calls,xa0Order⟩,xa1,xa2⟩:=x
 obtain ⟨⟨ya0Self,ya0Leases,ya0Calls,ya0Order⟩,ya1,ya2⟩:=y
 simp_all
noncomputable def o26 (args:List A):Option A:=orcOf x26 (fun x=>(G26 x.1 x.2.1 x.2.2).map fun y=>(A.tup [(A.agg [(iA y.1.Self),(A.imm (List.map c_S_Lease y.1.Leases) false),(A.imm (List.map c_S_Call y.1.Calls) false),(A.imm (List.map cB y.1.Order) false)]),(iA y.2)])) args
theorem ft26:∀ e∈tb26,Cn 24 26 (x26 e.1)=(fun (y:(S_Replica×Int))=>some (A.tup [(A.agg [(iA y.1.Self),(A.imm (List.map c_S_Lease y.1.Leases) false),(A.imm (List.map c_S_Call y.1.Calls) false),(A.imm (List.map cB y.1.Order) false)]),(iA y.2)])) e.2:=List.forall_mem_cons.2 ⟨f26_0,fun _ h=>absurd h List.not_mem_nil⟩
theorem ok26 (args:List A) (r:A) (h:o26 args=some r):CallOK prog (cx C0).glob 26 args r:=by
 obtain ⟨x,y,rfl,hy,rfl⟩:=orcOf_map h
 exact cn_ok 24 26 _ _ (ft26 (x,y) (tabG_mem hy))
noncomputable def C3:Nat->List A->Option A:=upd C2 26 o26
theorem orc_C3:AllOK C3:=orc_upd orc_C2 ok26
def x74 (x:S_Replica):List A:=[(A.agg [(iA x.Self),(A.imm (List.map c_S_Lease x.Leases) false),(A.imm (List.map c_S_Call x.Calls) false),(A.imm (List.map cB x.Order) false)])]
theorem ix74:Inj x74:=fun x y h=>by
 simp only[x74,in0,map_inj (in_S_Call),map_inj (in_S_Lease),map_inj (in_cB)] at h
 obtain ⟨xa0Self,xa0Leases,xa0Calls,xa0Order⟩:=x
 obtain ⟨ya0Self,ya0Leases,ya0Calls,ya0Order⟩:=y
 simp_all
noncomputable def o74 (args:List A):Option A:=orcOf x74 (fun x=>(G74 x).map fun y=>(iA y)) args
theorem ok74 (args:List A) (r:A) (h:o74 args=some r):CallOK prog (cx C0).glob 74 args r:=by
 obtain ⟨x,y,rfl,hy,rfl⟩:=orcOf_map h
 exact ok_J (f:=fun (y:Int)=>(iA y)) (cx:=cx C3) (fun k args r _ h=>orc_C3 k args r h) (by kernel_rfl) (T74 C3 fuel0  x) hy
noncomputable def C4:Nat->List A->Option A:=upd C3 74 o74
theorem orc_C4:AllOK C4:=orc_upd orc_C3 ok74
def x50 (x:S_Replica×S_Lease):List A:=[(A.agg [(iA x.1.Self),(A.imm (List.map c_S_Lease x.1.Leases) false),(A.imm (List.map c_S_Call x.1.Calls) false),(A.imm (List.map cB x.1.Order) false)]),(A.agg [(iA x.2.No),(iA x.2.Holder),(iA x.2.Until)])]
theorem ix50:Inj x50:=fun x y h=>by
 simp only[x50,in0,map_inj (in_S_Call),map_inj (in_S_Lease),map_inj (in_cB)] at h
 obtain ⟨⟨xa0Self,xa0Leases,xa0Calls,xa0Order⟩,⟨xa1No,xa1Holder,xa1Until⟩⟩:=x
 obtain ⟨⟨ya0Self,ya0Leases,ya0Calls,ya0Order⟩,⟨ya1No,ya1Holder,ya1Until⟩⟩:=y
 simp_all
noncomputable def o50 (args:List A):Option A:=orcOf x50 (fun x=>(G50 x.1 x.2).map fun y=>(bA y)) args
theorem r47_C4:Orc47 C4:=fun a0 a1 a2=>(by kernel_rfl:_=o47 (x47 (a0,a1,a2))).trans (orcOf_eq _ ix47 (a0,a1,a2))
theorem r74_C4:Orc74 C4:=fun a0=>(by kernel_rfl:_=o74 (x74 a0)).trans (orcOf_eq _ ix74 a0)
theorem ok50 (args:List A) (r:A) (h:o50 args=some r):CallOK prog (cx C0).glob 50 args r:=by
 obtain ⟨x,y,rfl,hy,rfl⟩:=orcOf_map h
 exact ok_J (f:=fun (y:Bool)=>(bA y)) (cx:=cx C4) (fun k args r _ h=>orc_C4 k args r h) (by kernel_rfl) (T50 C4 fuel0 (r47_C4) (r74_C4) x.1 x.2) hy
noncomputable def C5:Nat->List A->Option A:=upd C4 50 o50
theorem orc_C5:AllOK C5:=orc_upd orc_C4 ok50
def x75 (x:S_Replica×Int):List A:=[(A.agg [(iA x.1.Self),(A.imm (List.map c_S_Lease x.1.Leases) false),(A.imm (List.map c_S_Call x.1.Calls) false),(A.imm (List.map cB x.1.Order) false)]),(iA x.2)]
theorem ix75:Inj x75:=fun x y h=>by
 simp only[x75,in0,map_inj (in_S_Call),map_inj (in_S_Lease),map_inj (in_cB)] at h
 obtain ⟨⟨xa0Self,xa0Leases,xa0Calls,xa0Order⟩,xa1⟩:=x
 obtain ⟨⟨ya0Self,ya0Leases,ya0Calls,ya0Order⟩,ya1⟩:=y
 simp_all
noncomputable def o75 (args:List A):Option A:=orcOf x75 (fun x=>(G75 x.1 x.2).map fun y=>(bA y)) args
theorem ok75 (args:List A) (r:A) (h:o75 args=some r):CallOK prog (cx C0).glob 75 args r:=by
 obtain ⟨x,y,rfl,hy,rfl⟩:=orcOf_map h
 exact ok_J (f:=fun (y:Bool)=>(bA y)) (cx:=cx C5) (fun k args r _ h=>orc_C5 k args r h) (by kernel_rfl) (T75 C5 fuel0  x.1 x.2) hy
noncomputable def C6:Nat->List A->Option A:=upd C5 75 o75
theorem orc_C6:AllOK C6:=orc_upd orc_C5 ok75
def x51 (x:S_Replica×S_Call):List A:=[(A.agg [(iA x.1.Self),(A.imm (List.map c_S_Lease x.1.Leases) false),(A.imm (List.map c_S_Call x.1.Calls) false),(A.imm (List.map cB x.1.Order) false)]),(A.agg [(iA x.2.Bar),(iA x.2.Program)])]
theorem ix51:Inj x51:=fun x y h=>by
 simp only[x51,in0,map_inj (in_S_Call),map_inj (in_S_Lease),map_inj (in_cB)] at h
 obtain ⟨⟨xa0Self,xa0Leases,xa0Calls,xa0Order⟩,⟨xa1Bar,xa1Program⟩⟩:=x
 obtain ⟨⟨ya0Self,ya0Leases,ya0Calls,ya0Order⟩,⟨ya1Bar,ya1Program⟩⟩:=y
 simp_all
noncomputable def o51 (args:List A):Option A:=orcOf x51 (fun x=>(G51 x.1 x.2).map fun y=>(bA y)) args
theorem r47_C6:Orc47 C6:=fun a0 a1 a2=>(by kernel_rfl:_=o47 (x47 (a0,a1,a2))).trans (orcOf_eq _ ix47 (a0,a1,a2))
theorem r75_C6:Orc75 C6:=fun a0 a1=>(by kernel_rfl:_=o75 (x75 (a0,a1))).trans (orcOf_eq _ ix75 (a0,a1))
theorem ok51 (args:List A) (r:A) (h:o51 args=some r):CallOK prog (cx C0).glob 51 args r:=by
 obtain ⟨x,y,rfl,hy,rfl⟩:=orcOf_map h
 exact ok_J (f:=fun (y:Bool)=>(bA y)) (cx:=cx C6) (fun k args r _ h=>orc_C6 k args r h) (by kernel_rfl) (T51 C6 fuel0 (r47_C6) (r75_C6) x.1 x.2) hy
noncomputable def C7:Nat->List A->Option A:=upd C6 51 o51
theorem orc_C7:AllOK C7:=orc_upd orc_C6 ok51
def x33 (x:S_Replica×S_replica_entry):List A:=[(A.agg [(iA x.1.Self),(A.imm (List.map c_S_Lease x.1.Leases) false),(A.imm (List.map c_S_Call x.1.Calls) false),(A.imm (List.map cB x.1.Order) false)]),(A.agg [(bA x.2.is),(iA x.2.lease.No),(iA x.2.lease.Holder),(iA x.2.lease.Until),(iA x.2.call.Bar),(iA x.2.call.Program)])]
theorem ix33:Inj x33:=fun x y h=>by
 simp only[x33,in0,map_inj (in_S_Call),map_inj (in_S_Lease),map_inj (in_cB)] at h
 obtain ⟨⟨xa0Self,xa0Leases,xa0Calls,xa0Order⟩,⟨xa1is,⟨xa1leaseNo,xa1leaseHolder,xa1leaseUntil⟩,⟨xa1callBar,xa1callProgram⟩⟩⟩:=x
 obtain ⟨⟨ya0Self,ya0Leases,ya0Calls,ya0Order⟩,⟨ya1is,⟨ya1leaseNo,ya1leaseHolder,ya1leaseUntil⟩,⟨ya1callBar,ya1callProgram⟩⟩⟩:=y
 simp_all
noncomputable def o33 (args:List A):Option A:=orcOf x33 (fun x=>(G33 x.1 x.2).map fun y=>(A.agg [(iA y.Self),(A.imm (List.map c_S_Lease y.Leases) false),(A.imm (List.map c_S_Call y.Calls) false),(A.imm (List.map cB y.Order) false)])) args
theorem ok33 (args:List A) (r:A) (h:o33 args=some r):CallOK prog (cx C0).glob 33 args r:=by
 obtain ⟨x,y,rfl,hy,rfl⟩:=orcOf_map h
 exact ok_J (f:=fun (y:S_Replica)=>(A.agg [(iA y.Self),(A.imm (List.map c_S_Lease y.Leases) false),(A.imm (List.map c_S_Call y.Calls) false),(A.imm (List.map cB y.Order) false)])) (cx:=cx C7) (fun k args r _ h=>orc_C7 k args r h) (by kernel_rfl) (T33 C7 fuel0  x.1 x.2) hy
noncomputable def C8:Nat->List A->Option A:=upd C7 33 o33
theorem orc_C8:AllOK C8:=orc_upd orc_C7 ok33
def x20 (x:S_Replica):List A:=[(A.agg [(iA x.Self),(A.imm (List.map c_S_Lease x.Leases) false),(A.imm (List.map c_S_Call x.Calls) false),(A.imm (List.map cB x.Order) false)])]
theorem ix20:Inj x20:=fun x y h=>by
 simp only[x20,in0,map_inj (in_S_Call),map_inj (in_S_Lease),map_inj (in_cB)] at h
 obtain ⟨xa0Self,xa0Leases,xa0Calls,xa0Order⟩:=x
 obtain ⟨ya0Self,ya0Leases,ya0Calls,ya0Order⟩:=y
 simp_all
noncomputable def o20 (args:List A):Option A:=orcOf x20 (fun x=>(G20 x).map fun y=>(iA y)) args
theorem r33_C8:Orc33 C8:=fun a0 a1=>(by kernel_rfl:_=o33 (x33 (a0,a1))).trans (orcOf_eq _ ix33 (a0,a1))
theorem r47_C8:Orc47 C8:=fun a0 a1 a2=>(by kernel_rfl:_=o47 (x47 (a0,a1,a2))).trans (orcOf_eq _ ix47 (a0,a1,a2))
theorem r50_C8:Orc50 C8:=fun a0 a1=>(by kernel_rfl:_=o50 (x50 (a0,a1))).trans (orcOf_eq _ ix50 (a0,a1))
theorem r51_C8:Orc51 C8:=fun a0 a1=>(by kernel_rfl:_=o51 (x51 (a0,a1))).trans (orcOf_eq _ ix51 (a0,a1))
theorem ok20 (args:List A) (r:A) (h:o20 args=some r):CallOK prog (cx C0).glob 20 args r:=by
 obtain ⟨x,y,rfl,hy,rfl⟩:=orcOf_map h
 exact ok_J (f:=fun (y:Int)=>(iA y)) (cx:=cx C8) (fun k args r _ h=>orc_C8 k args r h) (by kernel_rfl) (T20 C8 fuel0 (r33_C8) (r47_C8) (r50_C8) (r51_C8) x) hy
noncomputable def C9:Nat->List A->Option A:=upd C8 20 o20
theorem orc_C9:AllOK C9:=orc_upd orc_C8 ok20
def x24 (x:S_Replica×Int×Int):List A:=[(A.agg [(iA x.1.Self),(A.imm (List.map c_S_Lease x.1.Leases) false),(A.imm (List.map c_S_Call x.1.Calls) false),(A.imm (List.map cB x.1.Order) false)]),(iA x.2.1),(iA x.2.2)]
theorem ix24:Inj x24:=fun x y h=>by
 simp only[x24,in0,map_inj (in_S_Call),map_inj (in_S_Lease),map_inj (in_cB)] at h
 obtain ⟨⟨xa0Self,xa0Leases,xa0Calls,xa0Order⟩,xa1,xa2⟩:=x
 obtain ⟨⟨ya0Self,ya0Leases,ya0Calls,ya0Order⟩,ya1,ya2⟩:=y
 simp_all
noncomputable def o24 (args:List A):Option A:=orcOf x24 (fun x=>(G24 x.1 x.2.1 x.2.2).map fun y=>(A.tup [(A.agg [(iA y.1.Self),(A.imm (List.map c_S_Lease y.1.Leases) false),(A.imm (List.map c_S_Call y.1.Calls) false),(A.imm (List.map cB y.1.Order) false)]),(iA y.2)])) args
theorem r20_C9:Orc20 C9:=fun a0=>(by kernel_rfl:_=o20 (x20 a0)).trans (orcOf_eq _ ix20 a0)
theorem r33_C9:Orc33 C9:=fun a0 a1=>(by kernel_rfl:_=o33 (x33 (a0,a1))).trans (orcOf_eq _ ix33 (a0,a1))
theorem r51_C9:Orc51 C9:=fun a0 a1=>(by kernel_rfl:_=o51 (x51 (a0,a1))).trans (orcOf_eq _ ix51 (a0,a1))
theorem ok24 (args:List A) (r:A) (h:o24 args=some r):CallOK prog (cx C0).glob 24 args r:=by
 obtain ⟨x,y,rfl,hy,rfl⟩:=orcOf_map h
 exact ok_J (f:=fun (y:(S_Replica×Int))=>(A.tup [(A.agg [(iA y.1.Self),(A.imm (List.map c_S_Lease y.1.Leases) false),(A.imm (List.map c_S_Call y.1.Calls) false),(A.imm (List.map cB y.1.Order) false)]),(iA y.2)])) (cx:=cx C9) (fun k args r _ h=>orc_C9 k args r h) (by kernel_rfl) (T24 C9 fuel0 (r20_C9) (r33_C9) (r51_C9) x.1 x.2.1 x.2.2) hy
noncomputable def C10:Nat->List A->Option A:=upd C9 24 o24
theorem orc_C10:AllOK C10:=orc_upd orc_C9 ok24
def x102 (x:Int):List A:=[(A.v (.int .u64 x))]
theorem ix102:Inj x102:=fun x y h=>by
 simp only[x102,in0] at h
 exact h
noncomputable def o102 (args:List A):Option A:=orcOf x102 (fun x=>(G102 x).map fun y=>(iA y)) args
theorem ok102 (args:List A) (r:A) (h:o102 args=some r):CallOK prog (cx C0).glob 102 args r:=by
 obtain ⟨x,y,rfl,hy,rfl⟩:=orcOf_map h
 exact ok_J (f:=fun (y:Int)=>(iA y)) (cx:=cx C10) (fun k args r _ h=>orc_C10 k args r h) (by kernel_rfl) (T102 C10 fuel0  x) hy
noncomputable def C11:Nat->List A->Option A:=upd C10 102 o102
theorem orc_C11:AllOK C11:=orc_upd orc_C10 ok102
def x59 (x:(List UInt8)):List A:=[(A.imm (List.map c8 x) false)]
theorem ix59:Inj x59:=fun x y h=>by
 simp only[x59,in0,map_inj (in_c8)] at h
 exact h
noncomputable def o59 (args:List A):Option A:=orcOf x59 (fun x=>(G59 x).map fun y=>(A.tup [(A.agg [(iA y.1.Kind),(iA y.1.N),(A.v (Value.string y.1.S)),(A.imm (List.map c_S_Value y.1.L) false)]),(iA y.2)])) args
theorem r102_C11:Orc102 C11:=fun a0=>(by kernel_rfl:_=o102 (x102 a0)).trans (orcOf_eq _ ix102 a0)
theorem ok59 (args:List A) (r:A) (h:o59 args=some r):CallOK prog (cx C0).glob 59 args r:=by
 obtain ⟨x,y,rfl,hy,rfl⟩:=orcOf_map h
 exact ok_J (f:=fun (y:(S_Value×Int))=>(A.tup [(A.agg [(iA y.1.Kind),(iA y.1.N),(A.v (Value.string y.1.S)),(A.imm (List.map c_S_Value y.1.L) false)]),(iA y.2)])) (cx:=cx C11) (fun k args r _ h=>orc_C11 k args r h) (by kernel_rfl) (T59 C11 fuel0 (r102_C11) x) hy
noncomputable def C12:Nat->List A->Option A:=upd C11 59 o59
theorem orc_C12:AllOK C12:=orc_upd orc_C11 ok59
def x32 (x:(List UInt8)):List A:=[(A.imm (List.map c8 x) false)]
theorem ix32:Inj x32:=fun x y h=>by
 simp only[x32,in0,map_inj (in_c8)] at h
 exact h
noncomputable def o32 (args:List A):Option A:=orcOf x32 (fun x=>(G32 x).map fun y=>(A.tup [(A.agg [(bA y.1.is),(iA y.1.lease.No),(iA y.1.lease.Holder),(iA y.1.lease.Until),(iA y.1.call.Bar),(iA y.1.call.Program)]),(bA y.2)])) args
theorem r59_C12:Orc59 C12:=fun a0=>(by kernel_rfl:_=o59 (x59 a0)).trans (orcOf_eq _ ix59 a0)
theorem ok32 (args:List A) (r:A) (h:o32 args=some r):CallOK prog (cx C0).glob 32 args r:=by
 obtain ⟨x,y,rfl,hy,rfl⟩:=orcOf_map h
 exact ok_J (f:=fun (y:(S_replica_entry×Bool))=>(A.tup [(A.agg [(bA y.1.is),(iA y.1.lease.No),(iA y.1.lease.Holder),(iA y.1.lease.Until),(iA y.1.call.Bar),(iA y.1.call.Program)]),(bA y.2)])) (cx:=cx C12) (fun k args r _ h=>orc_C12 k args r h) (by kernel_rfl) (T32 C12 fuel0 (r59_C12) x) hy
noncomputable def C13:Nat->List A->Option A:=upd C12 32 o32
theorem orc_C13:AllOK C13:=orc_upd orc_C12 ok32
def x11 (x:Int×(List (List UInt8))):List A:=[(iA x.1),(A.imm (List.map (cL c8) x.2) false)]
theorem ix11:Inj x11:=fun x y h=>by
 simp only[x11,in0,map_inj (in_c8),map_inj (in_cL (in_c8))] at h
 obtain ⟨xa0,xa1⟩:=x
 obtain ⟨ya0,ya1⟩:=y
 simp_all
noncomputable def o11 (args:List A):Option A:=orcOf x11 (fun x=>(G11 x.1 x.2).map fun y=>(A.tup [(A.agg [(iA y.1.Self),(A.imm (List.map c_S_Lease y.1.Leases) false),(A.imm (List.map c_S_Call y.1.Calls) false),(A.imm (List.map cB y.1.Order) false)]),(iA y.2)])) args
theorem r20_C13:Orc20 C13:=fun a0=>(by kernel_rfl:_=o20 (x20 a0)).trans (orcOf_eq _ ix20 a0)
theorem r32_C13:Orc32 C13:=fun a0=>(by kernel_rfl:_=o32 (x32 a0)).trans (orcOf_eq _ ix32 a0)
theorem r33_C13:Orc33 C13:=fun a0 a1=>(by kernel_rfl:_=o33 (x33 (a0,a1))).trans (orcOf_eq _ ix33 (a0,a1))
theorem ok11 (args:List A) (r:A) (h:o11 args=some r):CallOK prog (cx C0).glob 11 args r:=by
 obtain ⟨x,y,rfl,hy,rfl⟩:=orcOf_map h
 exact ok_J (f:=fun (y:(S_Replica×Int))=>(A.tup [(A.agg [(iA y.1.Self),(A.imm (List.map c_S_Lease y.1.Leases) false),(A.imm (List.map c_S_Call y.1.Calls) false),(A.imm (List.map cB y.1.Order) false)]),(iA y.2)])) (cx:=cx C13) (fun k args r _ h=>orc_C13 k args r h) (by kernel_rfl) (T11 C13 fuel0 (r20_C13) (r32_C13) (r33_C13) x.1 x.2) hy
noncomputable def C14:Nat->List A->Option A:=upd C13 11 o11
theorem orc_C14:AllOK C14:=orc_upd orc_C13 ok11
def x15 (x:Int×Int):List A:=[(iA x.1),(iA x.2)]
theorem ix15:Inj x15:=fun x y h=>by
 simp only[x15,in0] at h
 obtain ⟨xa0,xa1⟩:=x
 obtain ⟨ya0,ya1⟩:=y
 simp_all
noncomputable def o15 (args:List A):Option A:=orcOf x15 (fun x=>(G15 x.1 x.2).map fun y=>(A.tup [(A.agg [(iA y.1.Desks.1.Self),(A.imm (List.map c_S_Lease y.1.Desks.1.Leases) false),(A.imm (List.map c_S_Call y.1.Desks.1.Calls) false),(A.imm (List.map cB y.1.Desks.1.Order) false),(iA y.1.Desks.2.Self),(A.imm (List.map c_S_Lease y.1.Desks.2.Leases) false),(A.imm (List.map c_S_Call y.1.Desks.2.Calls) false),(A.imm (List.map cB y.1.Desks.2.Order) false),(iA y.1.Synced.1),(iA y.1.Synced.2),(A.imm (List.map c_S_Lease y.1.Told) false),(A.imm (List.map c_S_Call y.1.Spoken.1) false),(A.imm (List.map c_S_Call y.1.Spoken.2) false)]),(iA y.2)])) args
theorem r25_C14:Orc25 C14:=fun a0 a1 a2=>(by kernel_rfl:_=o25 (x25 (a0,a1,a2))).trans (orcOf_eq _ ix25 (a0,a1,a2))
theorem ok15 (args:List A) (r:A) (h:o15 args=some r):CallOK prog (cx C0).glob 15 args r:=by
 obtain ⟨x,y,rfl,hy,rfl⟩:=orcOf_map h
 exact ok_J (f:=fun (y:(S_Pair×Int))=>(A.tup [(A.agg [(iA y.1.Desks.1.Self),(A.imm (List.map c_S_Lease y.1.Desks.1.Leases) false),(A.imm (List.map c_S_Call y.1.Desks.1.Calls) false),(A.imm (List.map cB y.1.Desks.1.Order) false),(iA y.1.Desks.2.Self),(A.imm (List.map c_S_Lease y.1.Desks.2.Leases) false),(A.imm (List.map c_S_Call y.1.Desks.2.Calls) false),(A.imm (List.map cB y.1.Desks.2.Order) false),(iA y.1.Synced.1),(iA y.1.Synced.2),(A.imm (List.map c_S_Lease y.1.Told) false),(A.imm (List.map c_S_Call y.1.Spoken.1) false),(A.imm (List.map c_S_Call y.1.Spoken.2) false)]),(iA y.2)])) (cx:=cx C14) (fun k args r _ h=>orc_C14 k args r h) (by kernel_rfl) (T15 C14 fuel0 (r25_C14) x.1 x.2) hy
noncomputable def C15:Nat->List A->Option A:=upd C14 15 o15
theorem orc_C15:AllOK C15:=orc_upd orc_C14 ok15
def x17 (x:S_Pair×S_Deed):List A:=[(A.agg [(iA x.1.Desks.1.Self),(A.imm (List.map c_S_Lease x.1.Desks.1.Leases) false),(A.imm (List.map c_S_Call x.1.Desks.1.Calls) false),(A.imm (List.map cB x.1.Desks.1.Order) false),(iA x.1.Desks.2.Self),(A.imm (List.map c_S_Lease x.1.Desks.2.Leases) false),(A.imm (List.map c_S_Call x.1.Desks.2.Calls) false),(A.imm (List.map cB x.1.Desks.2.Order) false),(iA x.1.Synced.1),(iA x.1.Synced.2),(A.imm (List.map c_S_Lease x.1.Told) false),(A.imm (List.map c_S_Call x.1.Spoken.1) false),(A.imm (List.map c_S_Call x.1.Spoken.2) false)]),(A.agg [(iA x.2.Kind),(iA x.2.Who),(iA x.2.A),(iA x.2.B)])]
theorem ix17:Inj x17:=fun x y h=>by
 simp only[x17,in0,map_inj (in_S_Call),map_inj (in_S_Lease),map_inj (in_cB)] at h
 obtain ⟨⟨⟨⟨xa0Desks0Self,xa0Desks0Leases,xa0Desks0Calls,xa0Desks0Order⟩,⟨xa0Desks1Self,xa0Desks1Leases,xa0Desks1Calls,xa0Desks1Order⟩⟩,⟨xa0Synced0,xa0Synced1⟩,xa0Told,⟨xa0Spoken0,xa0Spoken1⟩⟩,⟨xa1Kind,xa1Who,xa1A,xa1B⟩⟩:=x
 obtain ⟨⟨⟨⟨ya0Desks0Self,ya0Desks0Leases,ya0Desks0Calls,ya0Desks0Order⟩,⟨ya0Desks1Self,ya0Desks1Leases,ya0Desks1Calls,ya0Desks1Order⟩⟩,⟨ya0Synced0,ya0Synced1⟩,ya0Told,⟨ya0Spoken0,ya0Spoken1⟩⟩,⟨ya1Kind,ya1Who,ya1A,ya1B⟩⟩:=y
 simp_all
noncomputable def o17 (args:List A):Option A:=orcOf x17 (fun x=>(G17 x.1 x.2).map fun y=>(A.tup [(A.agg [(iA y.1.Desks.1.Self),(A.imm (List.map c_S_Lease y.1.Desks.1.Leases) false),(A.imm (List.map c_S_Call y.1.Desks.1.Calls) false),(A.imm (List.map cB y.1.Desks.1.Order) false),(iA y.1.Desks.2.Self),(A.imm (List.map c_S_Lease y.1.Desks.2.Leases) false),(A.imm (List.map c_S_Call y.1.Desks.2.Calls) false),(A.imm (List.map cB y.1.Desks.2.Order) false),(iA y.1.Synced.1),(iA y.1.Synced.2),(A.imm (List.map c_S_Lease y.1.Told) false),(A.imm (List.map c_S_Call y.1.Spoken.1) false),(A.imm (List.map c_S_Call y.1.Spoken.2) false)]),(iA y.2)])) args
theorem ft17:∀ e∈tb17,Cn 24 17 (x17 e.1)=(fun (y:(S_Pair×Int))=>some (A.tup [(A.agg [(iA y.1.Desks.1.Self),(A.imm (List.map c_S_Lease y.1.Desks.1.Leases) false),(A.imm (List.map c_S_Call y.1.Desks.1.Calls) false),(A.imm (List.map cB y.1.Desks.1.Order) false),(iA y.1.Desks.2.Self),(A.imm (List.map c_S_Lease y.1.Desks.2.Leases) false),(A.imm (List.map c_S_Call y.1.Desks.2.Calls) false),(A.imm (List.map cB y.1.Desks.2.Order) false),(iA y.1.Synced.1),(iA y.1.Synced.2),(A.imm (List.map c_S_Lease y.1.Told) false),(A.imm (List.map c_S_Call y.1.Spoken.1) false),(A.imm (List.map c_S_Call y.1.Spoken.2) false)]),(iA y.2)])) e.2:=List.forall_mem_cons.2 ⟨f17_0,List.forall_mem_cons.2 ⟨f17_1,List.forall_mem_cons.2 ⟨f17_2,List.forall_mem_cons.2 ⟨f17_3,List.forall_mem_cons.2 ⟨f17_4,List.forall_mem_cons.2 ⟨f17_5,List.forall_mem_cons.2 ⟨f17_6,List.forall_mem_cons.2 ⟨f17_7,List.forall_mem_cons.2 ⟨f17_8,List.forall_mem_cons.2 ⟨f17_9,List.forall_mem_cons.2 ⟨f17_10,List.forall_mem_cons.2 ⟨f17_11,fun _ h=>absurd h List.not_mem_nil⟩⟩⟩⟩⟩⟩⟩⟩⟩⟩⟩⟩
theorem ok17 (args:List A) (r:A) (h:o17 args=some r):CallOK prog (cx C0).glob 17 args r:=by
 obtain ⟨x,y,rfl,hy,rfl⟩:=orcOf_map h
 exact cn_ok 24 17 _ _ (ft17 (x,y) (tabG_mem hy))
noncomputable def C16:Nat->List A->Option A:=upd C15 17 o17
theorem orc_C16:AllOK C16:=orc_upd orc_C15 ok17
def x27 (x:S_Pair×(List S_Deed)):List A:=[(A.agg [(iA x.1.Desks.1.Self),(A.imm (List.map c_S_Lease x.1.Desks.1.Leases) false),(A.imm (List.map c_S_Call x.1.Desks.1.Calls) false),(A.imm (List.map cB x.1.Desks.1.Order) false),(iA x.1.Desks.2.Self),(A.imm (List.map c_S_Lease x.1.Desks.2.Leases) false),(A.imm (List.map c_S_Call x.1.Desks.2.Calls) false),(A.imm (List.map cB x.1.Desks.2.Order) false),(iA x.1.Synced.1),(iA x.1.Synced.2),(A.imm (List.map c_S_Lease x.1.Told) false),(A.imm (List.map c_S_Call x.1.Spoken.1) false),(A.imm (List.map c_S_Call x.1.Spoken.2) false)]),(A.imm (List.map c_S_Deed x.2) false)]
theorem ix27:Inj x27:=fun x y h=>by
 simp only[x27,in0,map_inj (in_S_Call),map_inj (in_S_Deed),map_inj (in_S_Lease),map_inj (in_cB)] at h
 obtain ⟨⟨⟨⟨xa0Desks0Self,xa0Desks0Leases,xa0Desks0Calls,xa0Desks0Order⟩,⟨xa0Desks1Self,xa0Desks1Leases,xa0Desks1Calls,xa0Desks1Order⟩⟩,⟨xa0Synced0,xa0Synced1⟩,xa0Told,⟨xa0Spoken0,xa0Spoken1⟩⟩,xa1⟩:=x
 obtain ⟨⟨⟨⟨ya0Desks0Self,ya0Desks0Leases,ya0Desks0Calls,ya0Desks0Order⟩,⟨ya0Desks1Self,ya0Desks1Leases,ya0Desks1Calls,ya0Desks1Order⟩⟩,⟨ya0Synced0,ya0Synced1⟩,ya0Told,⟨ya0Spoken0,ya0Spoken1⟩⟩,ya1⟩:=y
 simp_all
noncomputable def o27 (args:List A):Option A:=orcOf x27 (fun x=>(G27 x.1 x.2).map fun y=>(A.tup [(A.agg [(iA y.1.Desks.1.Self),(A.imm (List.map c_S_Lease y.1.Desks.1.Leases) false),(A.imm (List.map c_S_Call y.1.Desks.1.Calls) false),(A.imm (List.map cB y.1.Desks.1.Order) false),(iA y.1.Desks.2.Self),(A.imm (List.map c_S_Lease y.1.Desks.2.Leases) false),(A.imm (List.map c_S_Call y.1.Desks.2.Calls) false),(A.imm (List.map cB y.1.Desks.2.Order) false),(iA y.1.Synced.1),(iA y.1.Synced.2),(A.imm (List.map c_S_Lease y.1.Told) false),(A.imm (List.map c_S_Call y.1.Spoken.1) false),(A.imm (List.map c_S_Call y.1.Spoken.2) false)]),(bA y.2)])) args
theorem r17_C16:Orc17 C16:=fun a0 a1=>(by kernel_rfl:_=o17 (x17 (a0,a1))).trans (orcOf_eq _ ix17 (a0,a1))
theorem ok27 (args:List A) (r:A) (h:o27 args=some r):CallOK prog (cx C0).glob 27 args r:=by
 obtain ⟨x,y,rfl,hy,rfl⟩:=orcOf_map h
 exact ok_J (f:=fun (y:(S_Pair×Bool))=>(A.tup [(A.agg [(iA y.1.Desks.1.Self),(A.imm (List.map c_S_Lease y.1.Desks.1.Leases) false),(A.imm (List.map c_S_Call y.1.Desks.1.Calls) false),(A.imm (List.map cB y.1.Desks.1.Order) false),(iA y.1.Desks.2.Self),(A.imm (List.map c_S_Lease y.1.Desks.2.Leases) false),(A.imm (List.map c_S_Call y.1.Desks.2.Calls) false),(A.imm (List.map cB y.1.Desks.2.Order) false),(iA y.1.Synced.1),(iA y.1.Synced.2),(A.imm (List.map c_S_Lease y.1.Told) false),(A.imm (List.map c_S_Call y.1.Spoken.1) false),(A.imm (List.map c_S_Call y.1.Spoken.2) false)]),(bA y.2)])) (cx:=cx C16) (fun k args r _ h=>orc_C16 k args r h) (by kernel_rfl) (T27 C16 fuel0 (r17_C16) x.1 x.2) hy
noncomputable def C17:Nat->List A->Option A:=upd C16 27 o27
theorem orc_C17:AllOK C17:=orc_upd orc_C16 ok27
def x19 (x:(List S_Lease)×(List S_Lease)):List A:=[(A.imm (List.map c_S_Lease x.1) false),(A.imm (List.map c_S_Lease x.2) false)]
theorem ix19:Inj x19:=fun x y h=>by
 simp only[x19,in0,map_inj (in_S_Lease)] at h
 obtain ⟨xa0,xa1⟩:=x
 obtain ⟨ya0,ya1⟩:=y
 simp_all
noncomputable def o19 (args:List A):Option A:=orcOf x19 (fun x=>(G19 x.1 x.2).map fun y=>(bA y)) args
theorem ok19 (args:List A) (r:A) (h:o19 args=some r):CallOK prog (cx C0).glob 19 args r:=by
 obtain ⟨x,y,rfl,hy,rfl⟩:=orcOf_map h
 exact ok_J (f:=fun (y:Bool)=>(bA y)) (cx:=cx C17) (fun k args r _ h=>orc_C17 k args r h) (by kernel_rfl) (T19 C17 fuel0  x.1 x.2) hy
noncomputable def C18:Nat->List A->Option A:=upd C17 19 o19
theorem orc_C18:AllOK C18:=orc_upd orc_C17 ok19
def x21 (x:(List S_Call)×(List S_Call)):List A:=[(A.imm (List.map c_S_Call x.1) false),(A.imm (List.map c_S_Call x.2) false)]
theorem ix21:Inj x21:=fun x y h=>by
 simp only[x21,in0,map_inj (in_S_Call)] at h
 obtain ⟨xa0,xa1⟩:=x
 obtain ⟨ya0,ya1⟩:=y
 simp_all
noncomputable def o21 (args:List A):Option A:=orcOf x21 (fun x=>(G21 x.1 x.2).map fun y=>(bA y)) args
theorem ok21 (args:List A) (r:A) (h:o21 args=some r):CallOK prog (cx C0).glob 21 args r:=by
 obtain ⟨x,y,rfl,hy,rfl⟩:=orcOf_map h
 exact ok_J (f:=fun (y:Bool)=>(bA y)) (cx:=cx C18) (fun k args r _ h=>orc_C18 k args r h) (by kernel_rfl) (T21 C18 fuel0  x.1 x.2) hy
noncomputable def C19:Nat->List A->Option A:=upd C18 21 o21
theorem orc_C19:AllOK C19:=orc_upd orc_C18 ok21
def x14 (x:S_Replica×S_Replica):List A:=[(A.agg [(iA x.1.Self),(A.imm (List.map c_S_Lease x.1.Leases) false),(A.imm (List.map c_S_Call x.1.Calls) false),(A.imm (List.map cB x.1.Order) false)]),(A.agg [(iA x.2.Self),(A.imm (List.map c_S_Lease x.2.Leases) false),(A.imm (List.map c_S_Call x.2.Calls) false),(A.imm (List.map cB x.2.Order) false)])]
theorem ix14:Inj x14:=fun x y h=>by
 simp only[x14,in0,map_inj (in_S_Call),map_inj (in_S_Lease),map_inj (in_cB)] at h
 obtain ⟨⟨xa0Self,xa0Leases,xa0Calls,xa0Order⟩,⟨xa1Self,xa1Leases,xa1Calls,xa1Order⟩⟩:=x
 obtain ⟨⟨ya0Self,ya0Leases,ya0Calls,ya0Order⟩,⟨ya1Self,ya1Leases,ya1Calls,ya1Order⟩⟩:=y
 simp_all
noncomputable def o14 (args:List A):Option A:=orcOf x14 (fun x=>(G14 x.1 x.2).map fun y=>(bA y)) args
theorem r19_C19:Orc19 C19:=fun a0 a1=>(by kernel_rfl:_=o19 (x19 (a0,a1))).trans (orcOf_eq _ ix19 (a0,a1))
theorem r21_C19:Orc21 C19:=fun a0 a1=>(by kernel_rfl:_=o21 (x21 (a0,a1))).trans (orcOf_eq _ ix21 (a0,a1))
theorem ok14 (args:List A) (r:A) (h:o14 args=some r):CallOK prog (cx C0).glob 14 args r:=by
 obtain ⟨x,y,rfl,hy,rfl⟩:=orcOf_map h
 exact ok_J (f:=fun (y:Bool)=>(bA y)) (cx:=cx C19) (fun k args r _ h=>orc_C19 k args r h) (by kernel_rfl) (T14 C19 fuel0 (r19_C19) (r21_C19) x.1 x.2) hy
noncomputable def C20:Nat->List A->Option A:=upd C19 14 o14
theorem orc_C20:AllOK C20:=orc_upd orc_C19 ok14
def x91 (x:S_Value):List A:=[(A.agg [(iA x.Kind),(iA x.N),(A.v (Value.string x.S)),(A.imm (List.map c_S_Value x.L) false)])]
theorem ix91:Inj x91:=fun x y h=>by
 simp only[x91,in0,map_inj (in_S_Value)] at h
 obtain ⟨xa0Kind,xa0N,xa0S,xa0L⟩:=x
 obtain ⟨ya0Kind,ya0N,ya0S,ya0L⟩:=y
 simp_all
noncomputable def o91 (args:List A):Option A:=orcOf x91 (fun x=>(G91 x).map fun y=>(A.tup [(iA y.1),(bA y.2)])) args
noncomputable def o91s (q:Nat) (args:List A):Option A:=orcOf x91 (fun x=>(R91 q x).map fun y=>(A.tup [(iA y.1),(bA y.2)])) args
noncomputable def C20s91 (q:Nat):Nat->List A->Option A:=upd C20 91 (o91s q)
theorem s91 (q:Nat):OrcS91 (C20s91 q) (R91 q):=fun a0=>(by kernel_rfl:_=o91s q (x91 a0)).trans (orcOf_eq _ ix91 a0)
theorem okq91:∀ (q:Nat) (args:List A) (r:A) (h:o91s q args=some r),CallOK prog (cx C0).glob 91 args r
 | 0,args,r,h=>by
  obtain ⟨x,y,rfl,hy,rfl⟩:=orcOf_map h
  cases hy
 | q+1,args,r,h=>by
  obtain ⟨x,y,rfl,hy,rfl⟩:=orcOf_map h
  exact ok_J (f:=fun (y:(Int×Bool))=>(A.tup [(iA y.1),(bA y.2)])) (cx:=cx (C20s91 q)) (fun k args r _ h=>orc_upd orc_C20 (okq91 q) k args r h) (by kernel_rfl) (T91 (C20s91 q) fuel0  (R91 q) (s91 q) x) hy
theorem ok91 (args:List A) (r:A) (h:o91 args=some r):CallOK prog (cx C0).glob 91 args r:=okq91 fuel0 args r h
noncomputable def C21:Nat->List A->Option A:=upd C20 91 o91
theorem orc_C21:AllOK C21:=orc_upd orc_C20 ok91
def x76 (x:S_Value):List A:=[(A.agg [(iA x.Kind),(iA x.N),(A.v (Value.string x.S)),(A.imm (List.map c_S_Value x.L) false)])]
theorem ix76:Inj x76:=fun x y h=>by
 simp only[x76,in0,map_inj (in_S_Value)] at h
 obtain ⟨xa0Kind,xa0N,xa0S,xa0L⟩:=x
 obtain ⟨ya0Kind,ya0N,ya0S,ya0L⟩:=y
 simp_all
noncomputable def o76 (args:List A):Option A:=orcOf x76 (fun x=>(G76 x).map fun y=>(iA y)) args
theorem r91_C21:Orc91 C21:=fun a0=>(by kernel_rfl:_=o91 (x91 a0)).trans (orcOf_eq _ ix91 a0)
theorem ok76 (args:List A) (r:A) (h:o76 args=some r):CallOK prog (cx C0).glob 76 args r:=by
 obtain ⟨x,y,rfl,hy,rfl⟩:=orcOf_map h
 exact ok_J (f:=fun (y:Int)=>(iA y)) (cx:=cx C21) (fun k args r _ h=>orc_C21 k args r h) (by kernel_rfl) (T76 C21 fuel0 (r91_C21) x) hy
noncomputable def C22:Nat->List A->Option A:=upd C21 76 o76
theorem orc_C22:AllOK C22:=orc_upd orc_C21 ok76
def x94 (x:Int):List A:=[(iA x)]
theorem ix94:Inj x94:=fun x y h=>by
 simp only[x94,in0] at h
 exact h
noncomputable def o94 (args:List A):Option A:=orcOf x94 (fun x=>(G94 x).map fun y=>(A.v (.int .u64 y))) args
theorem ok94 (args:List A) (r:A) (h:o94 args=some r):CallOK prog (cx C0).glob 94 args r:=by
 obtain ⟨x,y,rfl,hy,rfl⟩:=orcOf_map h
 exact ok_J (f:=fun (y:Int)=>(A.v (.int .u64 y))) (cx:=cx C22) (fun k args r _ h=>orc_C22 k args r h) (by kernel_rfl) (T94 C22 fuel0  x) hy
noncomputable def C23:Nat->List A->Option A:=upd C22 94 o94
theorem orc_C23:AllOK C23:=orc_upd orc_C22 ok94
def x56 (x:S_Value):List A:=[(A.agg [(iA x.Kind),(iA x.N),(A.v (Value.string x.S)),(A.imm (List.map c_S_Value x.L) false)])]
theorem ix56:Inj x56:=fun x y h=>by
 simp only[x56,in0,map_inj (in_S_Value)] at h
 obtain ⟨xa0Kind,xa0N,xa0S,xa0L⟩:=x
 obtain ⟨ya0Kind,ya0N,ya0S,ya0L⟩:=y
 simp_all
noncomputable def o56 (args:List A):Option A:=orcOf x56 (fun x=>(G56 x).map fun y=>(A.tup [(A.imm (List.map c8 y.1) false),(iA y.2)])) args
theorem r76_C23:Orc76 C23:=fun a0=>(by kernel_rfl:_=o76 (x76 a0)).trans (orcOf_eq _ ix76 a0)
theorem r94_C23:Orc94 C23:=fun a0=>(by kernel_rfl:_=o94 (x94 a0)).trans (orcOf_eq _ ix94 a0)
theorem ok56 (args:List A) (r:A) (h:o56 args=some r):CallOK prog (cx C0).glob 56 args r:=by
 obtain ⟨x,y,rfl,hy,rfl⟩:=orcOf_map h
 exact ok_J (f:=fun (y:((List UInt8)×Int))=>(A.tup [(A.imm (List.map c8 y.1) false),(iA y.2)])) (cx:=cx C23) (fun k args r _ h=>orc_C23 k args r h) (by kernel_rfl) (T56 C23 fuel0 (r76_C23) (r94_C23) x) hy
noncomputable def C24:Nat->List A->Option A:=upd C23 56 o56
theorem orc_C24:AllOK C24:=orc_upd orc_C23 ok56
def x29 (x:(List Int)):List A:=[(A.imm (List.map (cI .i64) x) false)]
theorem ix29:Inj x29:=fun x y h=>by
 simp only[x29,in0,map_inj (in_cI .i64)] at h
 exact h
noncomputable def o29 (args:List A):Option A:=orcOf x29 (fun x=>(G29 x).map fun y=>(A.imm (List.map c8 y) false)) args
theorem r56_C24:Orc56 C24:=fun a0=>(by kernel_rfl:_=o56 (x56 a0)).trans (orcOf_eq _ ix56 a0)
theorem ok29 (args:List A) (r:A) (h:o29 args=some r):CallOK prog (cx C0).glob 29 args r:=by
 obtain ⟨x,y,rfl,hy,rfl⟩:=orcOf_map h
 exact ok_J (f:=fun (y:(List UInt8))=>(A.imm (List.map c8 y) false)) (cx:=cx C24) (fun k args r _ h=>orc_C24 k args r h) (by kernel_rfl) (T29 C24 fuel0 (r56_C24) x) hy
noncomputable def C25:Nat->List A->Option A:=upd C24 29 o29
theorem orc_C25:AllOK C25:=orc_upd orc_C24 ok29
def x9 (x:S_Replica):List A:=[(A.agg [(iA x.Self),(A.imm (List.map c_S_Lease x.Leases) false),(A.imm (List.map c_S_Call x.Calls) false),(A.imm (List.map cB x.Order) false)])]
theorem ix9:Inj x9:=fun x y h=>by
 simp only[x9,in0,map_inj (in_S_Call),map_inj (in_S_Lease),map_inj (in_cB)] at h
 obtain ⟨xa0Self,xa0Leases,xa0Calls,xa0Order⟩:=x
 obtain ⟨ya0Self,ya0Leases,ya0Calls,ya0Order⟩:=y
 simp_all
noncomputable def o9 (args:List A):Option A:=orcOf x9 (fun x=>(G9 x).map fun y=>(A.tup [(A.imm (List.map (cL c8) y.1) false),(iA y.2)])) args
theorem r20_C25:Orc20 C25:=fun a0=>(by kernel_rfl:_=o20 (x20 a0)).trans (orcOf_eq _ ix20 a0)
theorem r29_C25:Orc29 C25:=fun a0=>(by kernel_rfl:_=o29 (x29 a0)).trans (orcOf_eq _ ix29 a0)
theorem ok9 (args:List A) (r:A) (h:o9 args=some r):CallOK prog (cx C0).glob 9 args r:=by
 obtain ⟨x,y,rfl,hy,rfl⟩:=orcOf_map h
 exact ok_J (f:=fun (y:((List (List UInt8))×Int))=>(A.tup [(A.imm (List.map (cL c8) y.1) false),(iA y.2)])) (cx:=cx C25) (fun k args r _ h=>orc_C25 k args r h) (by kernel_rfl) (T9 C25 fuel0 (r20_C25) (r29_C25) x) hy
noncomputable def C26:Nat->List A->Option A:=upd C25 9 o9
theorem orc_C26:AllOK C26:=orc_upd orc_C25 ok9
def x7 (x:Unit):List A:=[]
theorem ix7:Inj x7:=fun _ _ _=>rfl
noncomputable def o7 (args:List A):Option A:=orcOf x7 (fun x=>(G7 ).map fun y=>(bA y)) args
theorem r11_C26:Orc11 C26:=fun a0 a1=>(by kernel_rfl:_=o11 (x11 (a0,a1))).trans (orcOf_eq _ ix11 (a0,a1))
theorem r14_C26:Orc14 C26:=fun a0 a1=>(by kernel_rfl:_=o14 (x14 (a0,a1))).trans (orcOf_eq _ ix14 (a0,a1))
theorem r15_C26:Orc15 C26:=fun a0 a1=>(by kernel_rfl:_=o15 (x15 (a0,a1))).trans (orcOf_eq _ ix15 (a0,a1))
theorem r17_C26:Orc17 C26:=fun a0 a1=>(by kernel_rfl:_=o17 (x17 (a0,a1))).trans (orcOf_eq _ ix17 (a0,a1))
theorem r19_C26:Orc19 C26:=fun a0 a1=>(by kernel_rfl:_=o19 (x19 (a0,a1))).trans (orcOf_eq _ ix19 (a0,a1))
theorem r20_C26:Orc20 C26:=fun a0=>(by kernel_rfl:_=o20 (x20 a0)).trans (orcOf_eq _ ix20 a0)
theorem r21_C26:Orc21 C26:=fun a0 a1=>(by kernel_rfl:_=o21 (x21 (a0,a1))).trans (orcOf_eq _ ix21 (a0,a1))
theorem r24_C26:Orc24 C26:=fun a0 a1 a2=>(by kernel_rfl:_=o24 (x24 (a0,a1,a2))).trans (orcOf_eq _ ix24 (a0,a1,a2))
theorem r25_C26:Orc25 C26:=fun a0 a1 a2=>(by kernel_rfl:_=o25 (x25 (a0,a1,a2))).trans (orcOf_eq _ ix25 (a0,a1,a2))
theorem r26_C26:Orc26 C26:=fun a0 a1 a2=>(by kernel_rfl:_=o26 (x26 (a0,a1,a2))).trans (orcOf_eq _ ix26 (a0,a1,a2))
theorem r27_C26:Orc27 C26:=fun a0 a1=>(by kernel_rfl:_=o27 (x27 (a0,a1))).trans (orcOf_eq _ ix27 (a0,a1))
theorem r9_C26:Orc9 C26:=fun a0=>(by kernel_rfl:_=o9 (x9 a0)).trans (orcOf_eq _ ix9 a0)
theorem ok7 (args:List A) (r:A) (h:o7 args=some r):CallOK prog (cx C0).glob 7 args r:=by
 obtain ⟨x,y,rfl,hy,rfl⟩:=orcOf_map h
 exact ok_J (f:=fun (y:Bool)=>(bA y)) (cx:=cx C26) (fun k args r _ h=>orc_C26 k args r h) (by kernel_rfl) (T7 C26 fuel0 (r11_C26) (r14_C26) (r15_C26) (r17_C26) (r19_C26) (r20_C26) (r21_C26) (r24_C26) (r25_C26) (r26_C26) (r27_C26) (r9_C26) ) hy
noncomputable def C27:Nat->List A->Option A:=upd C26 7 o7
theorem orc_C27:AllOK C27:=orc_upd orc_C26 ok7
def x8 (x:S_Replica):List A:=[(A.agg [(iA x.Self),(A.imm (List.map c_S_Lease x.Leases) false),(A.imm (List.map c_S_Call x.Calls) false),(A.imm (List.map cB x.Order) false)])]
theorem ix8:Inj x8:=fun x y h=>by
 simp only[x8,in0,map_inj (in_S_Call),map_inj (in_S_Lease),map_inj (in_cB)] at h
 obtain ⟨xa0Self,xa0Leases,xa0Calls,xa0Order⟩:=x
 obtain ⟨ya0Self,ya0Leases,ya0Calls,ya0Order⟩:=y
 simp_all
noncomputable def o8 (args:List A):Option A:=orcOf x8 (fun x=>(G8 x).map fun y=>(bA y)) args
theorem ok8 (args:List A) (r:A) (h:o8 args=some r):CallOK prog (cx C0).glob 8 args r:=by
 obtain ⟨x,y,rfl,hy,rfl⟩:=orcOf_map h
 exact ok_J (f:=fun (y:Bool)=>(bA y)) (cx:=cx C27) (fun k args r _ h=>orc_C27 k args r h) (by kernel_rfl) (T8 C27 fuel0  x) hy
noncomputable def C28:Nat->List A->Option A:=upd C27 8 o8
theorem orc_C28:AllOK C28:=orc_upd orc_C27 ok8
def x22 (x:(List S_Lease)×(List S_Lease)):List A:=[(A.imm (List.map c_S_Lease x.1) false),(A.imm (List.map c_S_Lease x.2) false)]
theorem ix22:Inj x22:=fun x y h=>by
 simp only[x22,in0,map_inj (in_S_Lease)] at h
 obtain ⟨xa0,xa1⟩:=x
 obtain ⟨ya0,ya1⟩:=y
 simp_all
noncomputable def o22 (args:List A):Option A:=orcOf x22 (fun x=>(G22 x.1 x.2).map fun y=>(bA y)) args
theorem r19_C28:Orc19 C28:=fun a0 a1=>(by kernel_rfl:_=o19 (x19 (a0,a1))).trans (orcOf_eq _ ix19 (a0,a1))
theorem ok22 (args:List A) (r:A) (h:o22 args=some r):CallOK prog (cx C0).glob 22 args r:=by
 obtain ⟨x,y,rfl,hy,rfl⟩:=orcOf_map h
 exact ok_J (f:=fun (y:Bool)=>(bA y)) (cx:=cx C28) (fun k args r _ h=>orc_C28 k args r h) (by kernel_rfl) (T22 C28 fuel0 (r19_C28) x.1 x.2) hy
noncomputable def C29:Nat->List A->Option A:=upd C28 22 o22
theorem orc_C29:AllOK C29:=orc_upd orc_C28 ok22
def x5 (x:S_Replica×Int):List A:=[(A.agg [(iA x.1.Self),(A.imm (List.map c_S_Lease x.1.Leases) false),(A.imm (List.map c_S_Call x.1.Calls) false),(A.imm (List.map cB x.1.Order) false)]),(A.v (.int .u16 x.2))]
theorem ix5:Inj x5:=fun x y h=>by
 simp only[x5,in0,map_inj (in_S_Call),map_inj (in_S_Lease),map_inj (in_cB)] at h
 obtain ⟨⟨xa0Self,xa0Leases,xa0Calls,xa0Order⟩,xa1⟩:=x
 obtain ⟨⟨ya0Self,ya0Leases,ya0Calls,ya0Order⟩,ya1⟩:=y
 simp_all
noncomputable def o5 (args:List A):Option A:=orcOf x5 (fun x=>(G5 x.1 x.2).map fun y=>(bA y)) args
theorem r11_C29:Orc11 C29:=fun a0 a1=>(by kernel_rfl:_=o11 (x11 (a0,a1))).trans (orcOf_eq _ ix11 (a0,a1))
theorem r14_C29:Orc14 C29:=fun a0 a1=>(by kernel_rfl:_=o14 (x14 (a0,a1))).trans (orcOf_eq _ ix14 (a0,a1))
theorem r20_C29:Orc20 C29:=fun a0=>(by kernel_rfl:_=o20 (x20 a0)).trans (orcOf_eq _ ix20 a0)
theorem r21_C29:Orc21 C29:=fun a0 a1=>(by kernel_rfl:_=o21 (x21 (a0,a1))).trans (orcOf_eq _ ix21 (a0,a1))
theorem r22_C29:Orc22 C29:=fun a0 a1=>(by kernel_rfl:_=o22 (x22 (a0,a1))).trans (orcOf_eq _ ix22 (a0,a1))
theorem r7_C29:Orc7 C29:=fun _=>(by kernel_rfl:_=o7 (x7 ())).trans (orcOf_eq _ ix7 ())
theorem r8_C29:Orc8 C29:=fun a0=>(by kernel_rfl:_=o8 (x8 a0)).trans (orcOf_eq _ ix8 a0)
theorem r9_C29:Orc9 C29:=fun a0=>(by kernel_rfl:_=o9 (x9 a0)).trans (orcOf_eq _ ix9 a0)
theorem ok5 (args:List A) (r:A) (h:o5 args=some r):CallOK prog (cx C0).glob 5 args r:=by
 obtain ⟨x,y,rfl,hy,rfl⟩:=orcOf_map h
 exact ok_J (f:=fun (y:Bool)=>(bA y)) (cx:=cx C29) (fun k args r _ h=>orc_C29 k args r h) (by kernel_rfl) (T5 C29 fuel0 (r11_C29) (r14_C29) (r20_C29) (r21_C29) (r22_C29) (r7_C29) (r8_C29) (r9_C29) x.1 x.2) hy
end Go.Proofs.Ytdmgdjnadbakfaa
