/-
 The program's functions as plain functions: by a tool; each follows the interpreter.
-/
import Derived.Test.YtdmgdjnadbakfaaE
import Derived.KernelRfl
namespace Go.Proofs.Ytdmgdjnadbakfaa
open Go.Proofs.Try (prog)
set_option linter.unusedVariables false
set_option linter.unusedSimpArgs false
set_option maxHeartbeats 4000000
set_option maxRecDepth 100000
abbrev bz4:Blk:=Blk.box [(A.imm [] true),(A.imm [] true),(iA 0),(bA false)]
abbrev bz3:Blk:=Blk.box [(A.imm [] true),(iA 0),(iA 0)]
noncomputable abbrev ec (C:Nat->List A->Option A) (n k:Nat):=evCall (cx C) (n+k)
noncomputable abbrev ey (C:Nat->List A->Option A) (n k:Nat):=evCallY (cx C) (n+k)
structure S_Value where
 Kind:Int
 N:Int
 S:ByteArray
 L:(List S_Value)
 deriving Inhabited
mutual
def la_S_Value:S_Value->A
 | .mk _ _ _ l=>.imm (ls_S_Value l) false
def ls_S_Value:List S_Value->List (List A)
 | []=>[]
 | x :: r=>[(iA x.Kind),(iA x.N),(A.v (Value.string x.S)),la_S_Value x] :: ls_S_Value r
end
def c_S_Value (x:S_Value):List A:=[(iA x.Kind),(iA x.N),(A.v (Value.string x.S)),la_S_Value x]
theorem le_S_Value:∀ (l:List S_Value),ls_S_Value l=l.map c_S_Value
 | []=>by rw[ls_S_Value]; rfl
 | x :: r=>by rw[ls_S_Value,le_S_Value r]; rfl
theorem lq_S_Value (x:S_Value):la_S_Value x=.imm (x.L.map c_S_Value) false:=by
 cases x; rw[la_S_Value,le_S_Value]
theorem cq_S_Value (x:S_Value):c_S_Value x=[(iA x.Kind),(iA x.N),(A.v (Value.string x.S)),.imm (x.L.map c_S_Value) false]:=by
 show [(iA x.Kind),(iA x.N),(A.v (Value.string x.S)),la_S_Value x]=_
 rw[lq_S_Value]
theorem ci_S_Value (o:Option S_Value):(o.map fun x=>A.ip (c_S_Value x))=o.map fun x=>A.ip [(iA x.Kind),(iA x.N),(A.v (Value.string x.S)),.imm (x.L.map c_S_Value) false]:=by
 cases o with
 | none=>rfl
 | some x=>exact congrArg (fun z=>some (A.ip z)) (cq_S_Value x)
theorem ce_S_Value:CellF c_S_Value:=fun x=>by rw[cq_S_Value]; rfl
mutual
theorem ua_S_Value (L:Nat):∀ (x:S_Value),A.under L (la_S_Value x)=true
 | .mk _ _ _ l=>by rw[la_S_Value,A.under]; exact us_S_Value L l
theorem us_S_Value (L:Nat):∀ (l:List S_Value),underss L (ls_S_Value l)=true
 | []=>by rw[ls_S_Value]; rfl
 | x :: r=>by rw[ls_S_Value,underss,us_S_Value L r]; simp only[unders,A.under,ua_S_Value L x,Bool.and_true,Bool.and_self]
end
mutual
theorem sa_S_Value (g:Nat->Nat->Nat->A):∀ (x:S_Value),snapW g (la_S_Value x)=la_S_Value x
 | .mk _ _ _ l=>by rw[la_S_Value,snapW,ss_S_Value g l]
theorem ss_S_Value (g:Nat->Nat->Nat->A):∀ (l:List S_Value),snapWss g (ls_S_Value l)=ls_S_Value l
 | []=>by rw[ls_S_Value]; rfl
 | x :: r=>by rw[ls_S_Value,snapWss,ss_S_Value g r]; simp only[snapWs,snapW,sa_S_Value g x]
end
theorem fu_S_Value:FlatU c_S_Value:=fun L x=>by unfold c_S_Value; simp only[unders,A.under,ua_S_Value L x,Bool.and_true,Bool.and_self]
theorem fl_S_Value:FlatS c_S_Value:=fun g x=>by unfold c_S_Value; simp only[snapWs,snapW,sa_S_Value g x]
mutual
theorem ia_S_Value:∀ (x y:S_Value),la_S_Value x=la_S_Value y->x.L=y.L
 | .mk xKind xN xS l,.mk yKind yN yS l'=>fun h=>by
  rw[la_S_Value,la_S_Value,A.imm.injEq] at h
  exact is_S_Value l l' h.1
theorem is_S_Value:∀ (l l':List S_Value),ls_S_Value l=ls_S_Value l'->l=l'
 | [],[]=>fun _=>rfl
 | [],y :: r=>fun h=>by rw[ls_S_Value,ls_S_Value] at h; cases h
 | x :: r,[]=>fun h=>by rw[ls_S_Value,ls_S_Value] at h; cases h
 | x :: r,y :: r'=>fun h=>by
  rw[ls_S_Value,ls_S_Value,List.cons.injEq] at h
  have h2:=is_S_Value r r' h.2
  have h1:=h.1
  simp only[List.cons.injEq,A.v.injEq,Value.int.injEq,Value.bool.injEq,Value.string.injEq,and_true,true_and] at h1
  have h3:=ia_S_Value x y (by simp[h1])
  rw[h2]
  congr 1
  obtain ⟨xKind,xN,xS,lx⟩:=x; obtain ⟨yKind,yN,yS,ly⟩:=y
  simp_all
end
theorem els_lit {T:Type} {f:T->List A} {H:Heap} {l:List T} {rows:List (List A)} {c:Bool} (h:l.map f=rows):ElsOf H (.imm rows c) f l:=by
 rw[<-h]; exact els_imm ..
structure S_Lease where
 No:Int
 Holder:Int
 Until:Int
 deriving DecidableEq,Inhabited
def c_S_Lease (x:S_Lease):List A:=[(iA x.No),(iA x.Holder),(iA x.Until)]
theorem ce_S_Lease:CellF c_S_Lease:=fun _=>rfl
theorem fu_S_Lease:FlatU c_S_Lease:=fun _ _=>by simp only[c_S_Lease,unders,A.under,underss_map,fu_cI,fu_c8,fu_cB,fu_cS,fu_cL,Bool.and_true,Bool.true_and,fu_S_Value]
theorem fl_S_Lease:FlatS c_S_Lease:=fun _ _=>by simp only[c_S_Lease,snapW,snapWs,snapWss_map,fl_cI,fl_c8,fl_cB,fl_cS,fl_cL,fl_S_Value]
structure S_Call where
 Bar:Int
 Program:Int
 deriving DecidableEq,Inhabited
def c_S_Call (x:S_Call):List A:=[(iA x.Bar),(iA x.Program)]
theorem ce_S_Call:CellF c_S_Call:=fun _=>rfl
theorem fu_S_Call:FlatU c_S_Call:=fun _ _=>by simp only[c_S_Call,unders,A.under,underss_map,fu_cI,fu_c8,fu_cB,fu_cS,fu_cL,Bool.and_true,Bool.true_and,fu_S_Value,fu_S_Lease]
theorem fl_S_Call:FlatS c_S_Call:=fun _ _=>by simp only[c_S_Call,snapW,snapWs,snapWss_map,fl_cI,fl_c8,fl_cB,fl_cS,fl_cL,fl_S_Value,fl_S_Lease]
structure S_Replica where
 Self:Int
 Leases:(List S_Lease)
 Calls:(List S_Call)
 Order:(List Bool)
 deriving DecidableEq,Inhabited
def c_S_Replica (x:S_Replica):List A:=[(iA x.Self),(A.imm (List.map c_S_Lease x.Leases) false),(A.imm (List.map c_S_Call x.Calls) false),(A.imm (List.map cB x.Order) false)]
theorem fu_S_Replica:FlatU c_S_Replica:=fun _ _=>by simp only[c_S_Replica,unders,A.under,underss_map,fu_cI,fu_c8,fu_cB,fu_cS,fu_cL,Bool.and_true,Bool.true_and,fu_S_Value,fu_S_Lease,fu_S_Call]
theorem fl_S_Replica:FlatS c_S_Replica:=fun _ _=>by simp only[c_S_Replica,snapW,snapWs,snapWss_map,fl_cI,fl_c8,fl_cB,fl_cS,fl_cL,fl_S_Value,fl_S_Lease,fl_S_Call]
structure S_replica_entry where
 is:Bool
 lease:S_Lease
 call:S_Call
 deriving DecidableEq,Inhabited
def c_S_replica_entry (x:S_replica_entry):List A:=[(bA x.is),(iA x.lease.No),(iA x.lease.Holder),(iA x.lease.Until),(iA x.call.Bar),(iA x.call.Program)]
theorem fu_S_replica_entry:FlatU c_S_replica_entry:=fun _ _=>by simp only[c_S_replica_entry,unders,A.under,underss_map,fu_cI,fu_c8,fu_cB,fu_cS,fu_cL,Bool.and_true,Bool.true_and,fu_S_Value,fu_S_Lease,fu_S_Call,fu_S_Replica]
theorem fl_S_replica_entry:FlatS c_S_replica_entry:=fun _ _=>by simp only[c_S_replica_entry,snapW,snapWs,snapWss_map,fl_cI,fl_c8,fl_cB,fl_cS,fl_cL,fl_S_Value,fl_S_Lease,fl_S_Call,fl_S_Replica]
structure S_codec_reader where
 rest:(List UInt8)
 deriving DecidableEq,Inhabited
def c_S_codec_reader (x:S_codec_reader):List A:=[(A.imm (List.map c8 x.rest) false)]
theorem fu_S_codec_reader:FlatU c_S_codec_reader:=fun _ _=>by simp only[c_S_codec_reader,unders,A.under,underss_map,fu_cI,fu_c8,fu_cB,fu_cS,fu_cL,Bool.and_true,Bool.true_and,fu_S_Value,fu_S_Lease,fu_S_Call,fu_S_Replica,fu_S_replica_entry]
theorem fl_S_codec_reader:FlatS c_S_codec_reader:=fun _ _=>by simp only[c_S_codec_reader,snapW,snapWs,snapWss_map,fl_cI,fl_c8,fl_cB,fl_cS,fl_cL,fl_S_Value,fl_S_Lease,fl_S_Call,fl_S_Replica,fl_S_replica_entry]
def c_A2_struct_S_Replica (x:(S_Replica×S_Replica)):List A:=[(iA x.1.Self),(A.imm (List.map c_S_Lease x.1.Leases) false),(A.imm (List.map c_S_Call x.1.Calls) false),(A.imm (List.map cB x.1.Order) false),(iA x.2.Self),(A.imm (List.map c_S_Lease x.2.Leases) false),(A.imm (List.map c_S_Call x.2.Calls) false),(A.imm (List.map cB x.2.Order) false)]
theorem fu_A2_struct_S_Replica:FlatU c_A2_struct_S_Replica:=fun _ _=>by simp only[c_A2_struct_S_Replica,unders,A.under,underss_map,fu_cI,fu_c8,fu_cB,fu_cS,fu_cL,Bool.and_true,Bool.true_and,fu_S_Value,fu_S_Lease,fu_S_Call,fu_S_Replica,fu_S_replica_entry,fu_S_codec_reader]
theorem fl_A2_struct_S_Replica:FlatS c_A2_struct_S_Replica:=fun _ _=>by simp only[c_A2_struct_S_Replica,snapW,snapWs,snapWss_map,fl_cI,fl_c8,fl_cB,fl_cS,fl_cL,fl_S_Value,fl_S_Lease,fl_S_Call,fl_S_Replica,fl_S_replica_entry,fl_S_codec_reader]
theorem fq_A2_struct_S_Replica (g:Nat->Nat->Nat->A) (x:(S_Replica×S_Replica)):snapWs g (c_A2_struct_S_Replica x)=c_A2_struct_S_Replica x:=fl_A2_struct_S_Replica g x
theorem fuq_A2_struct_S_Replica (L:Nat) (x:(S_Replica×S_Replica)):unders L (c_A2_struct_S_Replica x)=true:=fu_A2_struct_S_Replica L x
def c_A2_int_i64 (x:(Int×Int)):List A:=[(iA x.1),(iA x.2)]
theorem fu_A2_int_i64:FlatU c_A2_int_i64:=fun _ _=>by simp only[c_A2_int_i64,unders,A.under,underss_map,fu_cI,fu_c8,fu_cB,fu_cS,fu_cL,Bool.and_true,Bool.true_and,fu_S_Value,fu_S_Lease,fu_S_Call,fu_S_Replica,fu_S_replica_entry,fu_S_codec_reader,fu_A2_struct_S_Replica]
theorem fl_A2_int_i64:FlatS c_A2_int_i64:=fun _ _=>by simp only[c_A2_int_i64,snapW,snapWs,snapWss_map,fl_cI,fl_c8,fl_cB,fl_cS,fl_cL,fl_S_Value,fl_S_Lease,fl_S_Call,fl_S_Replica,fl_S_replica_entry,fl_S_codec_reader,fl_A2_struct_S_Replica]
theorem fq_A2_int_i64 (g:Nat->Nat->Nat->A) (x:(Int×Int)):snapWs g (c_A2_int_i64 x)=c_A2_int_i64 x:=fl_A2_int_i64 g x
theorem fuq_A2_int_i64 (L:Nat) (x:(Int×Int)):unders L (c_A2_int_i64 x)=true:=fu_A2_int_i64 L x
def c_A2_list_struct_S_Call (x:((List S_Call)×(List S_Call))):List A:=[(A.imm (List.map c_S_Call x.1) false),(A.imm (List.map c_S_Call x.2) false)]
theorem fu_A2_list_struct_S_Call:FlatU c_A2_list_struct_S_Call:=fun _ _=>by simp only[c_A2_list_struct_S_Call,unders,A.under,underss_map,fu_cI,fu_c8,fu_cB,fu_cS,fu_cL,Bool.and_true,Bool.true_and,fu_S_Value,fu_S_Lease,fu_S_Call,fu_S_Replica,fu_S_replica_entry,fu_S_codec_reader,fu_A2_struct_S_Replica,fu_A2_int_i64]
theorem fl_A2_list_struct_S_Call:FlatS c_A2_list_struct_S_Call:=fun _ _=>by simp only[c_A2_list_struct_S_Call,snapW,snapWs,snapWss_map,fl_cI,fl_c8,fl_cB,fl_cS,fl_cL,fl_S_Value,fl_S_Lease,fl_S_Call,fl_S_Replica,fl_S_replica_entry,fl_S_codec_reader,fl_A2_struct_S_Replica,fl_A2_int_i64]
theorem fq_A2_list_struct_S_Call (g:Nat->Nat->Nat->A) (x:((List S_Call)×(List S_Call))):snapWs g (c_A2_list_struct_S_Call x)=c_A2_list_struct_S_Call x:=fl_A2_list_struct_S_Call g x
theorem fuq_A2_list_struct_S_Call (L:Nat) (x:((List S_Call)×(List S_Call))):unders L (c_A2_list_struct_S_Call x)=true:=fu_A2_list_struct_S_Call L x
structure S_Pair where
 Desks:(S_Replica×S_Replica)
 Synced:(Int×Int)
 Told:(List S_Lease)
 Spoken:((List S_Call)×(List S_Call))
 deriving DecidableEq,Inhabited
def c_S_Pair (x:S_Pair):List A:=[(iA x.Desks.1.Self),(A.imm (List.map c_S_Lease x.Desks.1.Leases) false),(A.imm (List.map c_S_Call x.Desks.1.Calls) false),(A.imm (List.map cB x.Desks.1.Order) false),(iA x.Desks.2.Self),(A.imm (List.map c_S_Lease x.Desks.2.Leases) false),(A.imm (List.map c_S_Call x.Desks.2.Calls) false),(A.imm (List.map cB x.Desks.2.Order) false),(iA x.Synced.1),(iA x.Synced.2),(A.imm (List.map c_S_Lease x.Told) false),(A.imm (List.map c_S_Call x.Spoken.1) false),(A.imm (List.map c_S_Call x.Spoken.2) false)]
theorem fu_S_Pair:FlatU c_S_Pair:=fun _ _=>by simp only[c_S_Pair,unders,A.under,underss_map,fu_cI,fu_c8,fu_cB,fu_cS,fu_cL,Bool.and_true,Bool.true_and,fu_S_Value,fu_S_Lease,fu_S_Call,fu_S_Replica,fu_S_replica_entry,fu_S_codec_reader,fu_A2_struct_S_Replica,fu_A2_int_i64,fu_A2_list_struct_S_Call]
theorem fl_S_Pair:FlatS c_S_Pair:=fun _ _=>by simp only[c_S_Pair,snapW,snapWs,snapWss_map,fl_cI,fl_c8,fl_cB,fl_cS,fl_cL,fl_S_Value,fl_S_Lease,fl_S_Call,fl_S_Replica,fl_S_replica_entry,fl_S_codec_reader,fl_A2_struct_S_Replica,fl_A2_int_i64,fl_A2_list_struct_S_Call]
structure S_Deed where
 Kind:Int
 Who:Int
 A:Int
 B:Int
 deriving DecidableEq,Inhabited
def c_S_Deed (x:S_Deed):List A:=[(iA x.Kind),(iA x.Who),(iA x.A),(iA x.B)]
theorem fu_S_Deed:FlatU c_S_Deed:=fun _ _=>by simp only[c_S_Deed,unders,A.under,underss_map,fu_cI,fu_c8,fu_cB,fu_cS,fu_cL,Bool.and_true,Bool.true_and,fu_S_Value,fu_S_Lease,fu_S_Call,fu_S_Replica,fu_S_replica_entry,fu_S_codec_reader,fu_A2_struct_S_Replica,fu_A2_int_i64,fu_A2_list_struct_S_Call,fu_S_Pair]
theorem fl_S_Deed:FlatS c_S_Deed:=fun _ _=>by simp only[c_S_Deed,snapW,snapWs,snapWss_map,fl_cI,fl_c8,fl_cB,fl_cS,fl_cL,fl_S_Value,fl_S_Lease,fl_S_Call,fl_S_Replica,fl_S_replica_entry,fl_S_codec_reader,fl_A2_struct_S_Replica,fl_A2_int_i64,fl_A2_list_struct_S_Call,fl_S_Pair]
def c_A4_bool (x:(Bool×Bool×Bool×Bool)):List A:=[(bA x.1),(bA x.2.1),(bA x.2.2.1),(bA x.2.2.2)]
theorem fu_A4_bool:FlatU c_A4_bool:=fun _ _=>by simp only[c_A4_bool,unders,A.under,underss_map,fu_cI,fu_c8,fu_cB,fu_cS,fu_cL,Bool.and_true,Bool.true_and,fu_S_Value,fu_S_Lease,fu_S_Call,fu_S_Replica,fu_S_replica_entry,fu_S_codec_reader,fu_A2_struct_S_Replica,fu_A2_int_i64,fu_A2_list_struct_S_Call,fu_S_Pair,fu_S_Deed]
theorem fl_A4_bool:FlatS c_A4_bool:=fun _ _=>by simp only[c_A4_bool,snapW,snapWs,snapWss_map,fl_cI,fl_c8,fl_cB,fl_cS,fl_cL,fl_S_Value,fl_S_Lease,fl_S_Call,fl_S_Replica,fl_S_replica_entry,fl_S_codec_reader,fl_A2_struct_S_Replica,fl_A2_int_i64,fl_A2_list_struct_S_Call,fl_S_Pair,fl_S_Deed]
theorem fq_A4_bool (g:Nat->Nat->Nat->A) (x:(Bool×Bool×Bool×Bool)):snapWs g (c_A4_bool x)=c_A4_bool x:=fl_A4_bool g x
theorem fuq_A4_bool (L:Nat) (x:(Bool×Bool×Bool×Bool)):unders L (c_A4_bool x)=true:=fu_A4_bool L x
theorem fq_S_Value (g:Nat->Nat->Nat->A) (x:S_Value):snapWs g (c_S_Value x)=c_S_Value x:=fl_S_Value g x
theorem fuq_S_Value (L:Nat) (x:S_Value):unders L (c_S_Value x)=true:=fu_S_Value L x
theorem fq_S_Lease (g:Nat->Nat->Nat->A) (x:S_Lease):snapWs g (c_S_Lease x)=c_S_Lease x:=fl_S_Lease g x
theorem fuq_S_Lease (L:Nat) (x:S_Lease):unders L (c_S_Lease x)=true:=fu_S_Lease L x
theorem fq_S_Call (g:Nat->Nat->Nat->A) (x:S_Call):snapWs g (c_S_Call x)=c_S_Call x:=fl_S_Call g x
theorem fuq_S_Call (L:Nat) (x:S_Call):unders L (c_S_Call x)=true:=fu_S_Call L x
theorem fq_S_Replica (g:Nat->Nat->Nat->A) (x:S_Replica):snapWs g (c_S_Replica x)=c_S_Replica x:=fl_S_Replica g x
theorem fuq_S_Replica (L:Nat) (x:S_Replica):unders L (c_S_Replica x)=true:=fu_S_Replica L x
theorem fq_S_replica_entry (g:Nat->Nat->Nat->A) (x:S_replica_entry):snapWs g (c_S_replica_entry x)=c_S_replica_entry x:=fl_S_replica_entry g x
theorem fuq_S_replica_entry (L:Nat) (x:S_replica_entry):unders L (c_S_replica_entry x)=true:=fu_S_replica_entry L x
theorem fq_S_codec_reader (g:Nat->Nat->Nat->A) (x:S_codec_reader):snapWs g (c_S_codec_reader x)=c_S_codec_reader x:=fl_S_codec_reader g x
theorem fuq_S_codec_reader (L:Nat) (x:S_codec_reader):unders L (c_S_codec_reader x)=true:=fu_S_codec_reader L x
theorem fq_S_Pair (g:Nat->Nat->Nat->A) (x:S_Pair):snapWs g (c_S_Pair x)=c_S_Pair x:=fl_S_Pair g x
theorem fuq_S_Pair (L:Nat) (x:S_Pair):unders L (c_S_Pair x)=true:=fu_S_Pair L x
theorem fq_S_Deed (g:Nat->Nat->Nat->A) (x:S_Deed):snapWs g (c_S_Deed x)=c_S_Deed x:=fl_S_Deed g x
theorem fuq_S_Deed (L:Nat) (x:S_Deed):unders L (c_S_Deed x)=true:=fu_S_Deed L x
theorem snS:FlatS c_S_Value/\FlatS c_S_Lease/\FlatS c_S_Call/\FlatS c_S_Replica/\FlatS c_S_replica_entry/\FlatS c_S_codec_reader/\FlatS c_A2_struct_S_Replica/\FlatS c_A2_int_i64/\FlatS c_A2_list_struct_S_Call/\FlatS c_S_Pair/\FlatS c_S_Deed/\FlatS c_A4_bool/\(∀ (g:Nat->Nat->Nat->A) (x:S_Value),snapWs g (c_S_Value x)=c_S_Value x)/\(∀ (g:Nat->Nat->Nat->A) (x:S_Lease),snapWs g (c_S_Lease x)=c_S_Lease x)/\(∀ (g:Nat->Nat->Nat->A) (x:S_Call),snapWs g (c_S_Call x)=c_S_Call x)/\(∀ (g:Nat->Nat->Nat->A) (x:S_Replica),snapWs g (c_S_Replica x)=c_S_Replica x)/\(∀ (g:Nat->Nat->Nat->A) (x:S_replica_entry),snapWs g (c_S_replica_entry x)=c_S_replica_entry x)/\(∀ (g:Nat->Nat->Nat->A) (x:S_codec_reader),snapWs g (c_S_codec_reader x)=c_S_codec_reader x)/\(∀ (g:Nat->Nat->Nat->A) (x:(S_Replica×S_Replica)),snapWs g (c_A2_struct_S_Replica x)=c_A2_struct_S_Replica x)/\(∀ (g:Nat->Nat->Nat->A) (x:(Int×Int)),snapWs g (c_A2_int_i64 x)=c_A2_int_i64 x)/\(∀ (g:Nat->Nat->Nat->A) (x:((List S_Call)×(List S_Call))),snapWs g (c_A2_list_struct_S_Call x)=c_A2_list_struct_S_Call x)/\(∀ (g:Nat->Nat->Nat->A) (x:S_Pair),snapWs g (c_S_Pair x)=c_S_Pair x)/\(∀ (g:Nat->Nat->Nat->A) (x:S_Deed),snapWs g (c_S_Deed x)=c_S_Deed x)/\(∀ (g:Nat->Nat->Nat->A) (x:(Bool×Bool×Bool×Bool)),snapWs g (c_A4_bool x)=c_A4_bool x)/\True:=⟨fl_S_Value,fl_S_Lease,fl_S_Call,fl_S_Replica,fl_S_replica_entry,fl_S_codec_reader,fl_A2_struct_S_Replica,fl_A2_int_i64,fl_A2_list_struct_S_Call,fl_S_Pair,fl_S_Deed,fl_A4_bool,fq_S_Value,fq_S_Lease,fq_S_Call,fq_S_Replica,fq_S_replica_entry,fq_S_codec_reader,fq_A2_struct_S_Replica,fq_A2_int_i64,fq_A2_list_struct_S_Call,fq_S_Pair,fq_S_Deed,fq_A4_bool,trivial⟩
theorem snM:(FlatS c_S_Value/\FlatS c_S_Lease/\FlatS c_S_Call/\FlatS c_S_Replica/\FlatS c_S_replica_entry/\FlatS c_S_codec_reader/\FlatS c_A2_struct_S_Replica/\FlatS c_A2_int_i64/\FlatS c_A2_list_struct_S_Call/\FlatS c_S_Pair/\FlatS c_S_Deed/\FlatS c_A4_bool/\(∀ (g:Nat->Nat->Nat->A) (x:S_Value),snapWs g (c_S_Value x)=c_S_Value x)/\(∀ (g:Nat->Nat->Nat->A) (x:S_Lease),snapWs g (c_S_Lease x)=c_S_Lease x)/\(∀ (g:Nat->Nat->Nat->A) (x:S_Call),snapWs g (c_S_Call x)=c_S_Call x)/\(∀ (g:Nat->Nat->Nat->A) (x:S_Replica),snapWs g (c_S_Replica x)=c_S_Replica x)/\(∀ (g:Nat->Nat->Nat->A) (x:S_replica_entry),snapWs g (c_S_replica_entry x)=c_S_replica_entry x)/\(∀ (g:Nat->Nat->Nat->A) (x:S_codec_reader),snapWs g (c_S_codec_reader x)=c_S_codec_reader x)/\(∀ (g:Nat->Nat->Nat->A) (x:(S_Replica×S_Replica)),snapWs g (c_A2_struct_S_Replica x)=c_A2_struct_S_Replica x)/\(∀ (g:Nat->Nat->Nat->A) (x:(Int×Int)),snapWs g (c_A2_int_i64 x)=c_A2_int_i64 x)/\(∀ (g:Nat->Nat->Nat->A) (x:((List S_Call)×(List S_Call))),snapWs g (c_A2_list_struct_S_Call x)=c_A2_list_struct_S_Call x)/\(∀ (g:Nat->Nat->Nat->A) (x:S_Pair),snapWs g (c_S_Pair x)=c_S_Pair x)/\(∀ (g:Nat->Nat->Nat->A) (x:S_Deed),snapWs g (c_S_Deed x)=c_S_Deed x)/\(∀ (g:Nat->Nat->Nat->A) (x:(Bool×Bool×Bool×Bool)),snapWs g (c_A4_bool x)=c_A4_bool x)/\True)/\(∀ {T U:Type} (f:T->U) (a:T) (l:List T),(a :: l).map f=f a :: l.map f)/\(∀ {T U:Type} (f:T->U),[].map f=[]):=⟨snS,fun _ _ _=>rfl,fun _=>rfl⟩
theorem unS:FlatU c_S_Value/\FlatU c_S_Lease/\FlatU c_S_Call/\FlatU c_S_Replica/\FlatU c_S_replica_entry/\FlatU c_S_codec_reader/\FlatU c_A2_struct_S_Replica/\FlatU c_A2_int_i64/\FlatU c_A2_list_struct_S_Call/\FlatU c_S_Pair/\FlatU c_S_Deed/\FlatU c_A4_bool/\(∀ (L:Nat) (x:S_Value),unders L (c_S_Value x)=true)/\(∀ (L:Nat) (x:S_Lease),unders L (c_S_Lease x)=true)/\(∀ (L:Nat) (x:S_Call),unders L (c_S_Call x)=true)/\(∀ (L:Nat) (x:S_Replica),unders L (c_S_Replica x)=true)/\(∀ (L:Nat) (x:S_replica_entry),unders L (c_S_replica_entry x)=true)/\(∀ (L:Nat) (x:S_codec_reader),unders L (c_S_codec_reader x)=true)/\(∀ (L:Nat) (x:(S_Replica×S_Replica)),unders L (c_A2_struct_S_Replica x)=true)/\(∀ (L:Nat) (x:(Int×Int)),unders L (c_A2_int_i64 x)=true)/\(∀ (L:Nat) (x:((List S_Call)×(List S_Call))),unders L (c_A2_list_struct_S_Call x)=true)/\(∀ (L:Nat) (x:S_Pair),unders L (c_S_Pair x)=true)/\(∀ (L:Nat) (x:S_Deed),unders L (c_S_Deed x)=true)/\(∀ (L:Nat) (x:(Bool×Bool×Bool×Bool)),unders L (c_A4_bool x)=true)/\True:=⟨fu_S_Value,fu_S_Lease,fu_S_Call,fu_S_Replica,fu_S_replica_entry,fu_S_codec_reader,fu_A2_struct_S_Replica,fu_A2_int_i64,fu_A2_list_struct_S_Call,fu_S_Pair,fu_S_Deed,fu_A4_bool,fuq_S_Value,fuq_S_Lease,fuq_S_Call,fuq_S_Replica,fuq_S_replica_entry,fuq_S_codec_reader,fuq_A2_struct_S_Replica,fuq_A2_int_i64,fuq_A2_list_struct_S_Call,fuq_S_Pair,fuq_S_Deed,fuq_A4_bool,trivial⟩
def tabG {X Y:Type} [DecidableEq X]:List (X×Y)->X->Option Y
 | [],_=>none
 | e :: t,z=>if e.1=z then some e.2 else tabG t z
theorem tabG_mem {X Y:Type} [DecidableEq X]:∀ {t:List (X×Y)} {z:X} {y:Y},tabG t z=some y->(z,y)∈t
 | [],_,_,h=>by cases h
 | e :: t,z,y,h=>by
  unfold tabG at h
  split at h
  ·rename_i he
   cases h; subst he
   exact List.mem_cons_self ..
  ·exact List.mem_cons_of_mem _ (tabG_mem h)
noncomputable def cnS (C:Nat->List A->Option A) (N:Nat) (k:Nat) (args:List A):Option A:=match evCall (cx C) N k args [] 0 with
 | some (.ret x,H)=>some (snapE H x)
 | _=>none
noncomputable def Cn:Nat->Nat->List A->Option A
 | 0=>fun _ _=>none
 | m+1=>cnS (Cn m) 1000
def F47 (n:Nat) (a0:Int) (a1:Int) (a2:Int):Option Bool :=
 (bif (decide (a1<=a0)) then (some (decide (a0<=a2))) else (some false)).bind fun y2=>some y2
theorem T47 (C:Nat->List A->Option A) (n:Nat) (a0:Int) (a1:Int) (a2:Int):J (fun (o:R) y=>∃ v,o.1=.ret v/\snapE o.2 v=(bA y)) (evCall1 (cx C) (ec C n 8) (ey C n 8) (n+8) 47 [(iA a0),(iA a1),(iA a2)] [] 0) some (F47 n a0 a1 a2) some:=by
 refine .lp (e47 ..) ?_
 unfold F47
 refine .st (aBin_leq ..) ?_
 refine .bg (fun t (y:Bool)=>∃ j3 j4 j5:A,t=[(bA y),j3,j4,j5]) ?_ ?_
 ·refine .biH (fun hk1=>?_) (fun hk1=>?_)
  ·refine .st (aBin_leq ..) ?_
   exact .lg ⟨_,_,_,rfl⟩
  exact .lg ⟨_,_,_,rfl⟩
 rintro _ y2 ⟨j3,j4,j5,rfl⟩
 iterate 4 refine .uc ?_
 exact .lv rfl
def G47 (a0:Int) (a1:Int) (a2:Int):Option Bool:=F47 fuel0 a0 a1 a2
def Orc47 (C:Nat->List A->Option A):Prop:=∀ (a0:Int) (a1:Int) (a2:Int),C 47 [(iA a0),(iA a1),(iA a2)]=(G47 a0 a1 a2).map fun y=>(bA y)
def F25 (n:Nat) (a0:Int) (a1:Int) (a2:Int):Option (S_Replica×Int) :=
 (G47 a0 0 1).bind fun y1=>(bif (!y1) then (some true) else ((G47 a1 0 1).bind fun y3=>some (!y3))).bind fun y4=>(bif y4 then (some true) else ((G47 a2 1 4096).bind fun y9=>some (!y9))).bind fun y10=>bif y10 then (some (((S_Replica.mk 0 ([]) ([]) ([])),1))) else (some (((S_Replica.mk a0 ([(S_Lease.mk 0 a1 a2)]) ([]) ([true])),0)))
theorem T25 (C:Nat->List A->Option A) (n:Nat) (h47:Orc47 C) (a0:Int) (a1:Int) (a2:Int):J (fun (o:R) y=>∃ v,o.1=.ret v/\snapE o.2 v=(A.tup [(A.agg [(iA y.1.Self),(A.imm (List.map c_S_Lease y.1.Leases) false),(A.imm (List.map c_S_Call y.1.Calls) false),(A.imm (List.map cB y.1.Order) false)]),(iA y.2)])) (evCall1 (cx C) (ec C n 8) (ey C n 8) (n+8) 25 [(iA a0),(iA a1),(iA a2)] [] 0) some (F25 n a0 a1 a2) some:=by
 refine .lp (e25 ..) ?_
 unfold F25
 refine .s ((A.ptr 0 0),[Blk.box [(iA 0),(A.imm [] true),(A.imm [] true),(A.imm [] true)]]) ?_
 refine .bd (g:=fun (y:Bool)=>(bA y)) (h47 a0 0 1) fun y1=>?_
 refine .s (bA (!y1)) ?_
 refine .bg (fun t (y:Bool)=>∃ j5 j6 j7:A,t=[(bA y),j5,j6,j7]) ?_ ?_
 ·refine .biH (fun hk2=>?_) (fun hk2=>?_)
  ·exact .lg ⟨_,_,_,rfl⟩
  refine .bd (g:=fun (y:Bool)=>(bA y)) (h47 a1 0 1) fun y3=>?_
  refine .s (bA (!y3)) ?_
  exact .lg ⟨_,_,_,rfl⟩
 rintro _ y4 ⟨j5,j6,j7,rfl⟩
 iterate 4 refine .uc ?_
 refine .bg (fun t (y:Bool)=>∃ j11 j12 j13:A,t=[(bA y),j11,j12,j13]) ?_ ?_
 ·refine .biH (fun hk8=>?_) (fun hk8=>?_)
  ·exact .lg ⟨_,_,_,rfl⟩
  refine .bd (g:=fun (y:Bool)=>(bA y)) (h47 a2 1 4096) fun y9=>?_
  refine .s (bA (!y9)) ?_
  exact .lg ⟨_,_,_,rfl⟩
 rintro _ y10 ⟨j11,j12,j13,rfl⟩
 iterate 4 refine .uc ?_
 refine .biHN (fun hk14=>?_) (fun hk14=>?_)
 ·refine .s (A.agg [(iA 0),(A.imm [] true),(A.imm [] true),(A.imm [] true)]) (.s [Blk.box [(iA 0),(A.imm [] true),(A.imm [] true),(A.imm [] true)]] (.s (A.agg [(iA 0),(A.imm [] true),(A.imm [] true),(A.imm [] true)]) ?_))
  exact .lv (by show snapE _ (A.tup [(A.agg [(iA 0),(A.imm [] true),(A.imm [] true),(A.imm [] true)]),(iA 1)])=_; first | (simp only[sn0,snM,snapE]; done) | (simp only[sn0,snS,snapE]; first | done | rfl))
 refine .s (A.agg [(iA 0),(iA a1),(iA a2)]) (.s (A.imm [[(iA 0),(iA a1),(iA a2)]] true) (.s (A.imm [[(bA true)]] true) (.s (A.agg [(iA a0),(A.imm [[(iA 0),(iA a1),(iA a2)]] true),(A.imm [] true),(A.imm [[(bA true)]] true)]) (.s [Blk.box [(iA a0),(A.imm [[(iA 0),(iA a1),(iA a2)]] true),(A.imm [] true),(A.imm [[(bA true)]] true)]] (.s (A.agg [(iA a0),(A.imm [[(iA 0),(iA a1),(iA a2)]] true),(A.imm [] true),(A.imm [[(bA true)]] true)]) ?_)))))
 exact .lv (by show snapE _ (A.tup [(A.agg [(iA a0),(A.imm [[(iA 0),(iA a1),(iA a2)]] true),(A.imm [] true),(A.imm [[(bA true)]] true)]),(iA 0)])=_; first | (simp only[sn0,snM,snapE]; done) | (simp only[sn0,snS,snapE]; first | done | rfl))
def G25 (a0:Int) (a1:Int) (a2:Int):Option (S_Replica×Int):=F25 fuel0 a0 a1 a2
def Orc25 (C:Nat->List A->Option A):Prop:=∀ (a0:Int) (a1:Int) (a2:Int),C 25 [(iA a0),(iA a1),(iA a2)]=(G25 a0 a1 a2).map fun y=>(A.tup [(A.agg [(iA y.1.Self),(A.imm (List.map c_S_Lease y.1.Leases) false),(A.imm (List.map c_S_Call y.1.Calls) false),(A.imm (List.map cB y.1.Order) false)]),(iA y.2)])
def tb26:List ((S_Replica×Int×Int)×(S_Replica×Int)):=[((⟨0,[⟨0,1,5⟩],[],[true]⟩,0,9),(⟨0,[],[],[]⟩,530))]
def G26 (a0:S_Replica) (a1:Int) (a2:Int):Option (S_Replica×Int):=tabG tb26 (a0,a1,a2)
def Orc26 (C:Nat->List A->Option A):Prop:=∀ (a0:S_Replica) (a1:Int) (a2:Int),C 26 [(A.agg (c_S_Replica a0)),(iA a1),(iA a2)]=(G26 a0 a1 a2).map fun y=>(A.tup [(A.agg [(iA y.1.Self),(A.imm (List.map c_S_Lease y.1.Leases) false),(A.imm (List.map c_S_Call y.1.Calls) false),(A.imm (List.map cB y.1.Order) false)]),(iA y.2)])
def F74 (n:Nat) (a0:S_Replica):Option Int :=
 bif (decide (0<((a0.Leases.length:Int)))) then ((getI a0.Leases (wr .i64 (((a0.Leases.length:Int)) - 1))).bind fun y2=>some y2.Until) else (some 0)
theorem T74 (C:Nat->List A->Option A) (n:Nat) (a0:S_Replica):J (fun (o:R) y=>∃ v,o.1=.ret v/\snapE o.2 v=(iA y)) (evCall1 (cx C) (ec C n 8) (ey C n 8) (n+8) 74 [(A.agg (c_S_Replica a0))] [] 0) some (F74 n a0) some:=by
 refine .lp (e74 ..) ?_
 unfold F74
 refine .s ((A.ptr 0 0),[Blk.box (c_S_Replica a0)]) (.s (A.ptr 0 1) (.s (A.imm (List.map c_S_Lease a0.Leases) false) ?_))
 refine .st (len_imm (e:=59) (h1:=by kernel_rfl) ..) ?_
 refine .st (aBin_gtr ..) ?_
 refine .biHN (fun hk1=>?_) (fun hk1=>?_)
 ·refine .s (A.ptr 0 1) (.s (A.imm (List.map c_S_Lease a0.Leases) false) ?_)
  refine .st (aBin_sub ..) ?_
  refine .bd (g:=fun (y:S_Lease)=>A.ip (c_S_Lease y)) (idx_imm (e:=59) (es:=3) (h1:=by kernel_rfl) (h2:=by kernel_rfl) (h3:=fun _=>rfl) ..) fun y2=>?_
  refine .s (A.ip [(iA y2.Until)]) (.s (iA y2.Until) ?_)
  exact .lv rfl
 exact .lv rfl
def G74 (a0:S_Replica):Option Int:=F74 fuel0 a0
def Orc74 (C:Nat->List A->Option A):Prop:=∀ (a0:S_Replica),C 74 [(A.agg (c_S_Replica a0))]=(G74 a0).map fun y=>(iA y)
def F50 (n:Nat) (a0:S_Replica) (a1:S_Lease):Option Bool :=
 (bif (a1.No==((a0.Leases.length:Int))) then ((G47 a1.Holder 0 1).bind fun y2=>some y2) else (some false)).bind fun y3=>bif y3 then ((G74 a0).bind fun y8=>(some (decide (y8<a1.Until))).bind fun y9=>(bif y9 then (some (decide (a1.Until<=4096))) else (some false)).bind fun y12=>some y12) else ((some false).bind fun y16=>(bif y16 then (some (decide (a1.Until<=4096))) else (some false)).bind fun y19=>some y19)
theorem T50 (C:Nat->List A->Option A) (n:Nat) (h47:Orc47 C) (h74:Orc74 C) (a0:S_Replica) (a1:S_Lease):J (fun (o:R) y=>∃ v,o.1=.ret v/\snapE o.2 v=(bA y)) (evCall1 (cx C) (ec C n 8) (ey C n 8) (n+8) 50 [(A.agg (c_S_Replica a0)),(A.agg (c_S_Lease a1))] [] 0) some (F50 n a0 a1) some:=by
 refine .lp (e50 ..) ?_
 unfold F50
 refine .s ((A.ptr 0 0),[Blk.box (c_S_Replica a0)]) (.s ((A.ptr 1 0),[Blk.box (c_S_Replica a0),Blk.box (c_S_Lease a1)]) (.s (A.ptr 1 0) (.s (iA a1.No) (.s (A.ptr 0 1) (.s (A.imm (List.map c_S_Lease a0.Leases) false) ?_)))))
 refine .st (len_imm (e:=59) (h1:=by kernel_rfl) ..) ?_
 refine .st (aBin_eql ..) ?_
 refine .bg (fun t (y:Bool)=>∃ j4 j5 j6:A,t=[(bA y),j4,j5,j6]) ?_ ?_
 ·refine .biH (fun hk1=>?_) (fun hk1=>?_)
  ·refine .s (A.ptr 1 1) (.s (iA a1.Holder) ?_)
   refine .bd (g:=fun (y:Bool)=>(bA y)) (h47 a1.Holder 0 1) fun y2=>?_
   exact .lg ⟨_,_,_,rfl⟩
  exact .lg ⟨_,_,_,rfl⟩
 rintro _ y3 ⟨j4,j5,j6,rfl⟩
 iterate 4 refine .uc ?_
 refine .gst (fun hc7=>?_) (fun hc7=>?_)
 ·refine .bb ?_
  refine .s (A.ptr 1 2) (.s (iA a1.Until) (.s (A.agg (c_S_Replica a0)) ?_))
  refine .bd (g:=fun (y:Int)=>(iA y)) (by show C 74 [snap _ (A.agg (c_S_Replica a0))]=_; simp only[sn0,snM]; exact h74 a0) fun y8=>?_
  refine .cr ?_
  iterate 4 refine .uc ?_
  refine .bg (fun t (y:Bool)=>∃ j10:A,t=[(bA y),j10]) ?_ ?_
  ·refine .bKT hc7 ?_
   refine .st (aBin_gtr ..) ?_
   exact .lg ⟨_,rfl⟩
  rintro _ y9 ⟨j10,rfl⟩
  iterate 2 refine .uc ?_
  refine .bg (fun t (y:Bool)=>∃ j13 j14 j15:A,t=[(bA y),j13,j14,j15]) ?_ ?_
  ·refine .biH (fun hk11=>?_) (fun hk11=>?_)
   ·refine .s (A.ptr 1 2) (.s (iA a1.Until) ?_)
    refine .st (aBin_leq ..) ?_
    exact .lg ⟨_,_,_,rfl⟩
   exact .lg ⟨_,_,_,rfl⟩
  rintro _ y12 ⟨j13,j14,j15,rfl⟩
  iterate 4 refine .uc ?_
  exact .lv rfl
 refine .bb ?_
 refine .cr ?_
 iterate 4 refine .uc ?_
 refine .bg (fun t (y:Bool)=>∃ j17:A,t=[(bA y),j17]) ?_ ?_
 ·refine .bKF hc7 ?_
  exact .lg ⟨_,rfl⟩
 rintro _ y16 ⟨j17,rfl⟩
 iterate 2 refine .uc ?_
 refine .bg (fun t (y:Bool)=>∃ j20 j21 j22:A,t=[(bA y),j20,j21,j22]) ?_ ?_
 ·refine .biH (fun hk18=>?_) (fun hk18=>?_)
  ·refine .s (A.ptr 1 2) (.s (iA a1.Until) ?_)
   refine .st (aBin_leq ..) ?_
   exact .lg ⟨_,_,_,rfl⟩
  exact .lg ⟨_,_,_,rfl⟩
 rintro _ y19 ⟨j20,j21,j22,rfl⟩
 iterate 4 refine .uc ?_
 exact .lv rfl
def G50 (a0:S_Replica) (a1:S_Lease):Option Bool:=F50 fuel0 a0 a1
def Orc50 (C:Nat->List A->Option A):Prop:=∀ (a0:S_Replica) (a1:S_Lease),C 50 [(A.agg (c_S_Replica a0)),(A.agg (c_S_Lease a1))]=(G50 a0 a1).map fun y=>(bA y)
def F75_89_0 (n:Nat) (v1:(List S_Lease)) (v2:Int) (v3:Int) (v5:S_Replica) (v6:Int):Nat->Int->Option ((Int×Int×Int×Int)⊕(Unit))
 | 0,_=>none
 | m+1,v4=>bif (decide (v4<v3)) then ((getI v1 v4).bind fun y8=>bif (decide (v6<y8.Until)) then (some ((Sum.inl ((v4,y8.No,y8.Holder,y8.Until))))) else (F75_89_0 n v1 v2 v3 v5 v6 m (wr .i64 (v4+1)))) else (some ((Sum.inr (()))))
theorem T75_89_0 (C:Nat->List A->Option A) (n:Nat) (v1:(List S_Lease)) (v2:Int) (v3:Int) (v5:S_Replica) (v6:Int) {ρ γ:Type} {φ:ρ->γ->Prop} {kL:R->Option ρ} {K:((Int×Int×Int×Int)⊕(Unit))->Option γ} (kx kg:Nat->St->Option R) (kr:St->Option R) (kp:A->St->Option R) (x0:∀ (o0:Int) (o1:Int) (o2:Int) (o3:Int) (s0:A) (s1:A) (s7:A) (s8:A),J φ (kr (St.mk [(0,s0),(1,s1),(4,(iA o0)),(7,s7),(8,s8)] [Blk.box (c_S_Replica v5),Blk.box [(iA v6)],Blk.box [(iA o1),(iA o2),(iA o3)]])) kL (K (Sum.inl ((o0,o1,o2,o3)))) some) (x1:∀ (s0:A) (s1:A) (s4:A) (s7:A) (s8:A),J φ (kx 0 (St.mk [(0,s0),(1,s1),(4,s4),(7,s7),(8,s8)] [Blk.box (c_S_Replica v5),Blk.box [(iA v6)]])) kL (K (Sum.inr (()))) some) :
  ∀ (m:Nat) (v4:Int),J φ (loopR (cx C) (ec C n 7) (ey C n 7) (n+7) 89 0 0 2 kx kg kr kp m (St.mk [(0,(A.imm (List.map c_S_Lease v1) false)),(1,(A.fn (Fn.func 90) [] [(A.ptr 1 0)])),(4,(iA v2)),(7,(iA v3)),(8,(iA v4))] [Blk.box (c_S_Replica v5),Blk.box [(iA v6)]])) kL (F75_89_0 n v1 v2 v3 v5 v6 m v4) K:=by
 intro m
 induction m with
 | zero=>intros; exact .nn
 | succ m ih =>
  intro v4
  refine .lp (e89_0 ..) ?_
  unfold F75_89_0
  refine .st (aBin_lss ..) ?_
  refine .biHN (fun hk7=>?_) (fun hk7=>?_)
  ·refine .bd (g:=fun (y:S_Lease)=>A.ip (c_S_Lease y)) (idx_imm (e:=59) (es:=3) (h1:=by kernel_rfl) (h2:=by kernel_rfl) (h3:=fun _=>rfl) ..) fun y8=>?_
   refine .s (A.agg (c_S_Lease y8)) ?_
   refine .dC (by kernel_rfl) (by kernel_rfl) ?_
   refine .cl ((evCall_in lt_90).trans (e90 C (evCall (cx C) (n+6)) (evCallY (cx C) (n+6)) (n+6) _ _ _ _)) ?_
   refine .s ((A.ptr 2 0),[Blk.box (c_S_Replica v5),Blk.box [(iA v6)],Blk.box (c_S_Lease y8)]) (.s (iA v6) (.s (A.ptr 2 2) (.s (iA y8.Until) ?_)))
   refine .st (aBin_lss ..) ?_
   refine .cr ?_
   refine .ok ?_
   refine .biHN (fun hk9=>?_) (fun hk9=>?_)
   ·exact .ex (x0 _ _ _ _ _ _ _ _)
   refine .st (aBin_add ..) ?_
   refine .st (v:=[Blk.box (c_S_Replica v5),Blk.box [(iA v6)]]) ((by kernel_rfl:_=(bif ((((underss 2 (List.map c_S_Lease v5.Leases))&&((underss 2 (List.map c_S_Call v5.Calls))&&((underss 2 (List.map cB v5.Order))&&true))))&&true) then some [Blk.box (c_S_Replica v5),Blk.box [(iA v6)]] else none)).trans (by simp only[un0,unS])) ?_
   refine .cT ((by kernel_rfl:_=(bif underss 2 (List.map c_S_Lease v1) then true else false)).trans (by simp only[un0,unS])) ?_
   exact ih _
  exact .ex (x1 _ _ _ _ _)
def F75 (n:Nat) (a0:S_Replica) (a1:Int):Option Bool :=
 (F75_89_0 n a0.Leases 0 ((a0.Leases.length:Int)) a0 a1 (n+7) 0).bind fun o10=>match o10 with | (Sum.inl ((y11,y12,y13,y14)))=>(bif (decide (0<=a1)) then (some (decide (0<=y11))) else (some false)).bind fun y20=>bif y20 then ((getI a0.Leases y11).bind fun y24=>(some (y24.Holder==a0.Self)).bind fun y25=>some y25) else ((some false).bind fun y27=>some y27) | (Sum.inr _)=>(bif (decide (0<=a1)) then (some false) else (some false)).bind fun y35=>bif y35 then ((getI a0.Leases (-1)).bind fun y39=>(some (y39.Holder==a0.Self)).bind fun y40=>some y40) else ((some false).bind fun y42=>some y42)
theorem T75 (C:Nat->List A->Option A) (n:Nat) (a0:S_Replica) (a1:Int):J (fun (o:R) y=>∃ v,o.1=.ret v/\snapE o.2 v=(bA y)) (evCall1 (cx C) (ec C n 8) (ey C n 8) (n+8) 75 [(A.agg (c_S_Replica a0)),(iA a1)] [] 0) some (F75 n a0 a1) some:=by
 refine .lp (e75 ..) ?_
 unfold F75
 refine .s ((A.ptr 0 0),[Blk.box (c_S_Replica a0)]) (.s ((A.ptr 1 0),[Blk.box (c_S_Replica a0),Blk.box [(iA a1)]]) (.s (A.ptr 0 1) (.s (A.imm (List.map c_S_Lease a0.Leases) false) ?_)))
 refine .cl ((evCall_in lt_89).trans (e89 C (ec C n 7) (ey C n 7) (n+7) _ _ _ _)) ?_
 refine .st (len_imm (e:=59) (h1:=by kernel_rfl) ..) ?_
 refine .as (T75_89_0 C n  a0.Leases 0 ((a0.Leases.length:Int)) a0 a1 _ _ _ _ ?_ ?_ _ 0)
 ·intro y11 y12 y13 y14 j15 j16 j17 j18
  refine .un rfl ?_
  refine .cr ?_
  refine .ok ?_
  refine .s (iA a1) ?_
  refine .st (aBin_geq ..) ?_
  refine .bg (fun t (y:Bool)=>∃ j21 j22:A,t=[(bA y),j21,j22]) ?_ ?_
  ·refine .biH (fun hk19=>?_) (fun hk19=>?_)
   ·refine .st (aBin_geq ..) ?_
    exact .lg ⟨_,_,rfl⟩
   exact .lg ⟨_,_,rfl⟩
  rintro _ y20 ⟨j21,j22,rfl⟩
  iterate 3 refine .uc ?_
  refine .gst (fun hc23=>?_) (fun hc23=>?_)
  ·refine .bb ?_
   refine .s (A.ptr 0 1) (.s (A.imm (List.map c_S_Lease a0.Leases) false) ?_)
   refine .bd (g:=fun (y:S_Lease)=>A.ip (c_S_Lease y)) (idx_imm (e:=59) (es:=3) (h1:=by kernel_rfl) (h2:=by kernel_rfl) (h3:=fun _=>rfl) ..) fun y24=>?_
   refine .s (A.ip [(iA y24.Holder),(iA y24.Until)]) (.s (iA y24.Holder) (.s (A.ptr 0 0) (.s (iA a0.Self) ?_)))
   refine .cr ?_
   iterate 8 refine .uc ?_
   refine .bg (fun t (y:Bool)=>∃ j26:A,t=[(bA y),j26]) ?_ ?_
   ·refine .bKT hc23 ?_
    refine .st (aBin_eql ..) ?_
    exact .lg ⟨_,rfl⟩
   rintro _ y25 ⟨j26,rfl⟩
   iterate 2 refine .uc ?_
   exact .lv rfl
  refine .bb ?_
  refine .cr ?_
  iterate 8 refine .uc ?_
  refine .bg (fun t (y:Bool)=>∃ j28:A,t=[(bA y),j28]) ?_ ?_
  ·refine .bKF hc23 ?_
   exact .lg ⟨_,rfl⟩
  rintro _ y27 ⟨j28,rfl⟩
  iterate 2 refine .uc ?_
  exact .lv rfl
 ·intro j29 j30 j31 j32 j33
  refine .un rfl ?_
  refine .cT (by kernel_rfl) ?_
  refine .cr ?_
  refine .ok ?_
  refine .s (iA a1) ?_
  refine .st (aBin_geq ..) ?_
  refine .bg (fun t (y:Bool)=>∃ j36 j37:A,t=[(bA y),j36,j37]) ?_ ?_
  ·refine .biH (fun hk34=>?_) (fun hk34=>?_)
   ·refine .s (bA false) ?_
    exact .lg ⟨_,_,rfl⟩
   exact .lg ⟨_,_,rfl⟩
  rintro _ y35 ⟨j36,j37,rfl⟩
  iterate 3 refine .uc ?_
  refine .gst (fun hc38=>?_) (fun hc38=>?_)
  ·refine .bb ?_
   refine .s (A.ptr 0 1) (.s (A.imm (List.map c_S_Lease a0.Leases) false) ?_)
   refine .bd (g:=fun (y:S_Lease)=>A.ip (c_S_Lease y)) (idx_imm (e:=59) (es:=3) (h1:=by kernel_rfl) (h2:=by kernel_rfl) (h3:=fun _=>rfl) ..) fun y39=>?_
   refine .s (A.ip [(iA y39.Holder),(iA y39.Until)]) (.s (iA y39.Holder) (.s (A.ptr 0 0) (.s (iA a0.Self) ?_)))
   refine .cr ?_
   iterate 8 refine .uc ?_
   refine .bg (fun t (y:Bool)=>∃ j41:A,t=[(bA y),j41]) ?_ ?_
   ·refine .bKT hc38 ?_
    refine .st (aBin_eql ..) ?_
    exact .lg ⟨_,rfl⟩
   rintro _ y40 ⟨j41,rfl⟩
   iterate 2 refine .uc ?_
   exact .lv rfl
  refine .bb ?_
  refine .cr ?_
  iterate 8 refine .uc ?_
  refine .bg (fun t (y:Bool)=>∃ j43:A,t=[(bA y),j43]) ?_ ?_
  ·refine .bKF hc38 ?_
   exact .lg ⟨_,rfl⟩
  rintro _ y42 ⟨j43,rfl⟩
  iterate 2 refine .uc ?_
  exact .lv rfl
def G75 (a0:S_Replica) (a1:Int):Option Bool:=F75 fuel0 a0 a1
def Orc75 (C:Nat->List A->Option A):Prop:=∀ (a0:S_Replica) (a1:Int),C 75 [(A.agg (c_S_Replica a0)),(iA a1)]=(G75 a0 a1).map fun y=>(bA y)
def F51 (n:Nat) (a0:S_Replica) (a1:S_Call):Option Bool :=
 (G75 a0 a1.Bar).bind fun y1=>bif y1 then (bif (((a0.Calls.length:Int))==0) then (((some true).bind fun y14=>some y14).bind fun y15=>(bif y15 then ((G47 a1.Program 1 8).bind fun y18=>some y18) else (some false)).bind fun y19=>some y19) else ((getI a0.Calls (wr .i64 (((a0.Calls.length:Int)) - 1))).bind fun y4=>((some (decide (y4.Bar<a1.Bar))).bind fun y5=>some y5).bind fun y6=>(bif y6 then ((G47 a1.Program 1 8).bind fun y9=>some y9) else (some false)).bind fun y10=>some y10)) else ((some (())).bind fun y23=>(some false).bind fun y24=>(bif y24 then ((G47 a1.Program 1 8).bind fun y27=>some y27) else (some false)).bind fun y28=>some y28)
theorem T51 (C:Nat->List A->Option A) (n:Nat) (h47:Orc47 C) (h75:Orc75 C) (a0:S_Replica) (a1:S_Call):J (fun (o:R) y=>∃ v,o.1=.ret v/\snapE o.2 v=(bA y)) (evCall1 (cx C) (ec C n 8) (ey C n 8) (n+8) 51 [(A.agg (c_S_Replica a0)),(A.agg [(iA a1.Bar),(iA a1.Program)])] [] 0) some (F51 n a0 a1) some:=by
 refine .lp (e51 ..) ?_
 unfold F51
 refine .s ((A.ptr 0 0),[Blk.box (c_S_Replica a0)]) (.s ((A.ptr 1 0),[Blk.box (c_S_Replica a0),Blk.box [(iA a1.Bar),(iA a1.Program)]]) (.s (A.ptr 0 2) (.s (A.imm (List.map c_S_Call a0.Calls) false) ?_)))
 refine .st (len_imm (e:=62) (h1:=by kernel_rfl) ..) ?_
 refine .s (A.agg (c_S_Replica a0)) (.s (A.ptr 1 0) (.s (iA a1.Bar) ?_))
 refine .bd (g:=fun (y:Bool)=>(bA y)) (by show C 75 [snap _ (A.agg (c_S_Replica a0)),snap _ (iA a1.Bar)]=_; simp only[sn0,snM]; exact h75 a0 a1.Bar) fun y1=>?_
 refine .gst (fun hc2=>?_) (fun hc2=>?_)
 ·refine .bb ?_
  refine .st (aBin_eql ..) ?_
  refine .gsf (fun hc3=>?_) (fun hc3=>?_)
  ·refine .bb ?_
   refine .s (A.ptr 1 0) (.s (iA a1.Bar) (.s (A.ptr 0 2) (.s (A.imm (List.map c_S_Call a0.Calls) false) ?_)))
   refine .st (aBin_sub ..) ?_
   refine .bd (g:=fun (y:S_Call)=>A.ip (c_S_Call y)) (idx_imm (e:=62) (es:=2) (h1:=by kernel_rfl) (h2:=by kernel_rfl) (h3:=fun _=>rfl) ..) fun y4=>?_
   refine .s (A.ip [(iA y4.Bar),(iA y4.Program)]) (.s (iA y4.Bar) ?_)
   refine .cr ?_
   iterate 9 refine .uc ?_
   refine .cr ?_
   iterate 12 refine .uc ?_
   refine .lp (congrArg (fun z=>Option.bind z _) (gIf_knownFF hc3)) ?_
   refine .bb ?_
   refine .st (aBin_gtr ..) ?_
   refine .cr ?_
   refine .uc ?_
   refine .bg (fun t (y:Bool)=>∃ j7:A,t=[(bA y),j7]) ?_ ?_
   ·refine .bKT hc2 ?_
    refine .bg (fun t (y:Bool) =>  t=(bA y)) ?_ ?_
    ·refine .bKF hc3 ?_
     exact .lg rfl
    rintro _ y5 rfl
    exact .lg ⟨_,rfl⟩
   rintro _ y6 ⟨j7,rfl⟩
   iterate 2 refine .uc ?_
   refine .bg (fun t (y:Bool)=>∃ j11 j12 j13:A,t=[(bA y),j11,j12,j13]) ?_ ?_
   ·refine .biH (fun hk8=>?_) (fun hk8=>?_)
    ·refine .s (A.ptr 1 1) (.s (iA a1.Program) ?_)
     refine .bd (g:=fun (y:Bool)=>(bA y)) (h47 a1.Program 1 8) fun y9=>?_
     exact .lg ⟨_,_,_,rfl⟩
    exact .lg ⟨_,_,_,rfl⟩
   rintro _ y10 ⟨j11,j12,j13,rfl⟩
   iterate 4 refine .uc ?_
   exact .lv rfl
  refine .bb ?_
  refine .cr ?_
  iterate 9 refine .uc ?_
  refine .cr ?_
  iterate 12 refine .uc ?_
  refine .lp (congrArg (fun z=>Option.bind z _) (gIf_knownFT hc3)) ?_
  refine .bb ?_
  refine .cr ?_
  refine .uc ?_
  refine .bg (fun t (y:Bool)=>∃ j16:A,t=[(bA y),j16]) ?_ ?_
  ·refine .bKT hc2 ?_
   refine .bg (fun t (y:Bool) =>  t=(bA y)) ?_ ?_
   ·refine .bKT hc3 ?_
    exact .lg rfl
   rintro _ y14 rfl
   exact .lg ⟨_,rfl⟩
  rintro _ y15 ⟨j16,rfl⟩
  iterate 2 refine .uc ?_
  refine .bg (fun t (y:Bool)=>∃ j20 j21 j22:A,t=[(bA y),j20,j21,j22]) ?_ ?_
  ·refine .biH (fun hk17=>?_) (fun hk17=>?_)
   ·refine .s (A.ptr 1 1) (.s (iA a1.Program) ?_)
    refine .bd (g:=fun (y:Bool)=>(bA y)) (h47 a1.Program 1 8) fun y18=>?_
    exact .lg ⟨_,_,_,rfl⟩
   exact .lg ⟨_,_,_,rfl⟩
  rintro _ y19 ⟨j20,j21,j22,rfl⟩
  iterate 4 refine .uc ?_
  exact .lv rfl
 refine .bb ?_
 refine .cr ?_
 iterate 12 refine .uc ?_
 refine .bg (fun t (y:Unit) =>  t=[(A.v undef)]) ?_ ?_
 ·refine .gU ?_
  exact .lg rfl
 rintro _ y23 rfl
 refine .uc ?_
 refine .bg (fun t (y:Bool)=>∃ j25:A,t=[(bA y),j25]) ?_ ?_
 ·refine .bKF hc2 ?_
  exact .lg ⟨_,rfl⟩
 rintro _ y24 ⟨j25,rfl⟩
 iterate 2 refine .uc ?_
 refine .bg (fun t (y:Bool)=>∃ j29 j30 j31:A,t=[(bA y),j29,j30,j31]) ?_ ?_
 ·refine .biH (fun hk26=>?_) (fun hk26=>?_)
  ·refine .s (A.ptr 1 1) (.s (iA a1.Program) ?_)
   refine .bd (g:=fun (y:Bool)=>(bA y)) (h47 a1.Program 1 8) fun y27=>?_
   exact .lg ⟨_,_,_,rfl⟩
  exact .lg ⟨_,_,_,rfl⟩
 rintro _ y28 ⟨j29,j30,j31,rfl⟩
 iterate 4 refine .uc ?_
 exact .lv rfl
def G51 (a0:S_Replica) (a1:S_Call):Option Bool:=F51 fuel0 a0 a1
def Orc51 (C:Nat->List A->Option A):Prop:=∀ (a0:S_Replica) (a1:S_Call),C 51 [(A.agg (c_S_Replica a0)),(A.agg [(iA a1.Bar),(iA a1.Program)])]=(G51 a0 a1).map fun y=>(bA y)
def hk33_1 (a0:S_Replica) (y7:(List S_Call)) (y9:(List Bool)):Blk:=Blk.box [(iA a0.Self),(A.imm (List.map c_S_Lease a0.Leases) false),(A.sl 3 0 y7.length false),(A.sl 4 0 y9.length false)]
def hk33_2 (a0:S_Replica) (y3:(List S_Lease)) (y5:(List Bool)):Blk:=Blk.box [(iA a0.Self),(A.sl 3 0 y3.length false),(A.imm (List.map c_S_Call a0.Calls) false),(A.sl 4 0 y5.length false)]
def F33 (n:Nat) (a0:S_Replica) (a1:S_replica_entry):Option S_Replica :=
 bif a1.is then ((subI a0.Leases 0 ((a0.Leases.length:Int))).bind fun y2=>(appI 24 y2 ([a1.lease])).bind fun y3=>(subI a0.Order 0 ((a0.Order.length:Int))).bind fun y4=>(appI 1 y4 ([a1.is])).bind fun y5=>some ((S_Replica.mk a0.Self y3 a0.Calls y5))) else ((subI a0.Calls 0 ((a0.Calls.length:Int))).bind fun y6=>(appI 16 y6 ([a1.call])).bind fun y7=>(subI a0.Order 0 ((a0.Order.length:Int))).bind fun y8=>(appI 1 y8 ([a1.is])).bind fun y9=>some ((S_Replica.mk a0.Self a0.Leases y7 y9)))
theorem T33 (C:Nat->List A->Option A) (n:Nat) (a0:S_Replica) (a1:S_replica_entry):J (fun (o:R) y=>∃ v,o.1=.ret v/\snapE o.2 v=(A.agg [(iA y.Self),(A.imm (List.map c_S_Lease y.Leases) false),(A.imm (List.map c_S_Call y.Calls) false),(A.imm (List.map cB y.Order) false)])) (evCall1 (cx C) (ec C n 8) (ey C n 8) (n+8) 33 [(A.agg (c_S_Replica a0)),(A.agg (c_S_replica_entry a1))] [] 0) some (F33 n a0 a1) some:=by
 refine .lp (e33 ..) ?_
 unfold F33
 refine .s ((A.ptr 0 0),[Blk.box (c_S_Replica a0)]) (.sq (A.ptr 1 0) (.s ((A.ptr 2 0),[Blk.box (c_S_Replica a0),Blk.box (c_S_replica_entry a1),Blk.box [(iA 0),(A.imm [] true),(A.imm [] true),(A.imm [] true)]]) (.s (A.ptr 1 0) (.s (bA a1.is) ?_))))
 refine .biHN (fun hk1=>?_) (fun hk1=>?_)
 ·refine .s (A.ptr 0 1) (.s (A.imm (List.map c_S_Lease a0.Leases) false) (.s (A.ptr 1 1) (.s (A.agg (c_S_Lease a1.lease)) ?_)))
  refine .cT (by kernel_rfl) ?_
  refine .s (A.imm [[(iA a1.lease.No),(iA a1.lease.Holder),(iA a1.lease.Until)]] true) ?_
  refine .cT (by kernel_rfl) ?_
  refine .cl ((evCall_in lt_60).trans (e60 C (ec C n 7) (ey C n 7) (n+7) _ _ _)) ?_
  refine .st (len_imm (e:=59) (h1:=by kernel_rfl) ..) ?_
  refine .st (len_imm (e:=59) (h1:=by kernel_rfl) ..) ?_
  refine .bd (g:=fun (y:List S_Lease)=>(A.imm (List.map c_S_Lease y) true)) (cut_imm3 (e:=59) (es:=3) (f:=c_S_Lease) (l:=a0.Leases) (a:=0) (b:=(a0.Leases.length:Int)) (by kernel_rfl) (by kernel_rfl) (fun _=>rfl) (.inl ⟨rfl,rfl⟩)) fun y2=>?_
  refine .cr ?_
  refine .ok ?_
  refine .bd (g:=fun (y:List S_Lease)=>((A.sl 3 0 y.length false),[Blk.box (c_S_Replica a0),Blk.box (c_S_replica_entry a1),Blk.box [(iA 0),(A.imm [] true),(A.imm [] true),(A.imm [] true)],Blk.row false 3 (List.map c_S_Lease y)])) (app_imm (e:=59) (es:=3) (by_:=24) (z:=[(iA 0),(iA 0),(iA 0)]) (by kernel_rfl) (by kernel_rfl) (by kernel_rfl) (by kernel_rfl) rfl (by decide) (by decide) (by kernel_rfl) (f:=c_S_Lease) (fun _=>rfl) ce_S_Lease (l:=y2) (l2:=[a1.lease]) (els_imm (f:=c_S_Lease) ([a1.lease]:List S_Lease) _ _)) fun y3=>?_
  refine .s (A.ptr 0 1) (.s [Blk.box [(iA a0.Self),(A.sl 3 0 y3.length false),(A.imm (List.map c_S_Call a0.Calls) false),(A.imm (List.map cB a0.Order) false)],Blk.box (c_S_replica_entry a1),Blk.box [(iA 0),(A.imm [] true),(A.imm [] true),(A.imm [] true)],Blk.row false 3 (List.map c_S_Lease y3)] (.s (A.ptr 0 3) (.s (A.imm (List.map cB a0.Order) false) (.s (A.ptr 1 0) (.s (bA a1.is) ?_)))))
  refine .cT (by kernel_rfl) ?_
  refine .s (A.imm [[(bA a1.is)]] true) ?_
  refine .cT (by kernel_rfl) ?_
  refine .cl ((evCall_in lt_62).trans (e62 C (ec C n 7) (ey C n 7) (n+7) _ _ _)) ?_
  refine .st (len_imm (e:=4) (h1:=by kernel_rfl) ..) ?_
  refine .st (len_imm (e:=4) (h1:=by kernel_rfl) ..) ?_
  refine .bd (g:=fun (y:List Bool)=>(A.imm (List.map cB y) true)) (cut_imm3 (e:=4) (es:=1) (f:=cB) (l:=a0.Order) (a:=0) (b:=(a0.Order.length:Int)) (by kernel_rfl) (by kernel_rfl) (fun _=>rfl) (.inl ⟨rfl,rfl⟩)) fun y4=>?_
  refine .cr ?_
  refine .ok ?_
  refine .bd (g:=fun (y:List Bool)=>((A.sl 4 0 y.length false),[Blk.box [(iA a0.Self),(A.sl 3 0 y3.length false),(A.imm (List.map c_S_Call a0.Calls) false),(A.imm (List.map cB a0.Order) false)],Blk.box (c_S_replica_entry a1),Blk.box [(iA 0),(A.imm [] true),(A.imm [] true),(A.imm [] true)],Blk.row false 3 (List.map c_S_Lease y3),Blk.row false 1 (List.map cB y)])) (app_imm (e:=4) (es:=1) (by_:=1) (z:=[(bA false)]) (by kernel_rfl) (by kernel_rfl) (by kernel_rfl) (by kernel_rfl) rfl (by decide) (by decide) (by kernel_rfl) (f:=cB) (fun _=>rfl) ce_cB (l:=y4) (l2:=[a1.is]) (els_imm (f:=cB) ([a1.is]:List Bool) _ _)) fun y5=>?_
  refine .s (A.ptr 0 3) (.sh (.s (A.agg [(iA a0.Self),(A.sl 3 0 y3.length false),(A.imm (List.map c_S_Call a0.Calls) false),(A.sl 4 0 y5.length false)]) (.s [(hk33_2 a0 y3 y5),Blk.box (c_S_replica_entry a1),(hk33_2 a0 y3 y5),Blk.row false 3 (List.map c_S_Lease y3),Blk.row false 1 (List.map cB y5)] (.s (A.agg [(iA a0.Self),(A.sl 3 0 y3.length false),(A.imm (List.map c_S_Call a0.Calls) false),(A.sl 4 0 y5.length false)]) ?_))))
  exact .lv (by show snapE [(hk33_2 a0 y3 y5),Blk.box (c_S_replica_entry a1),(hk33_2 a0 y3 y5),Blk.row false 3 (List.map c_S_Lease y3),Blk.row false 1 (List.map cB y5)] (A.agg [(iA a0.Self),(A.sl 3 0 y3.length false),(A.imm (List.map c_S_Call a0.Calls) false),(A.sl 4 0 y5.length false)])=_; first | (simp only[sn0,snM,snapE,snapGE_row (H:=[(hk33_2 a0 y3 y5),Blk.box (c_S_replica_entry a1),(hk33_2 a0 y3 y5),Blk.row false 3 (List.map c_S_Lease y3),Blk.row false 1 (List.map cB y5)]) (b:=3) (es:=3) (wr:=false) (l:=y3) fl_S_Lease rfl,snapGE_row (H:=[(hk33_2 a0 y3 y5),Blk.box (c_S_replica_entry a1),(hk33_2 a0 y3 y5),Blk.row false 3 (List.map c_S_Lease y3),Blk.row false 1 (List.map cB y5)]) (b:=4) (es:=1) (wr:=false) (l:=y5) fl_cB rfl]; done) | (simp only[sn0,snS,snapE,snapGE_row (H:=[(hk33_2 a0 y3 y5),Blk.box (c_S_replica_entry a1),(hk33_2 a0 y3 y5),Blk.row false 3 (List.map c_S_Lease y3),Blk.row false 1 (List.map cB y5)]) (b:=3) (es:=3) (wr:=false) (l:=y3) fl_S_Lease rfl,snapGE_row (H:=[(hk33_2 a0 y3 y5),Blk.box (c_S_replica_entry a1),(hk33_2 a0 y3 y5),Blk.row false 3 (List.map c_S_Lease y3),Blk.row false 1 (List.map cB y5)]) (b:=4) (es:=1) (wr:=false) (l:=y5) fl_cB rfl]; first | done | rfl))
 refine .s (A.ptr 0 2) (.s (A.imm (List.map c_S_Call a0.Calls) false) (.s (A.ptr 1 4) (.s (A.agg [(iA a1.call.Bar),(iA a1.call.Program)]) ?_)))
 refine .cT (by kernel_rfl) ?_
 refine .s (A.imm [[(iA a1.call.Bar),(iA a1.call.Program)]] true) ?_
 refine .cT (by kernel_rfl) ?_
 refine .cl ((evCall_in lt_61).trans (e61 C (ec C n 7) (ey C n 7) (n+7) _ _ _)) ?_
 refine .st (len_imm (e:=62) (h1:=by kernel_rfl) ..) ?_
 refine .st (len_imm (e:=62) (h1:=by kernel_rfl) ..) ?_
 refine .bd (g:=fun (y:List S_Call)=>(A.imm (List.map c_S_Call y) true)) (cut_imm3 (e:=62) (es:=2) (f:=c_S_Call) (l:=a0.Calls) (a:=0) (b:=(a0.Calls.length:Int)) (by kernel_rfl) (by kernel_rfl) (fun _=>rfl) (.inl ⟨rfl,rfl⟩)) fun y6=>?_
 refine .cr ?_
 refine .ok ?_
 refine .bd (g:=fun (y:List S_Call)=>((A.sl 3 0 y.length false),[Blk.box (c_S_Replica a0),Blk.box (c_S_replica_entry a1),Blk.box [(iA 0),(A.imm [] true),(A.imm [] true),(A.imm [] true)],Blk.row false 2 (List.map c_S_Call y)])) (app_imm (e:=62) (es:=2) (by_:=16) (z:=[(iA 0),(iA 0)]) (by kernel_rfl) (by kernel_rfl) (by kernel_rfl) (by kernel_rfl) rfl (by decide) (by decide) (by kernel_rfl) (f:=c_S_Call) (fun _=>rfl) ce_S_Call (l:=y6) (l2:=[a1.call]) (els_imm (f:=c_S_Call) ([a1.call]:List S_Call) _ _)) fun y7=>?_
 refine .s (A.ptr 0 2) (.s [Blk.box [(iA a0.Self),(A.imm (List.map c_S_Lease a0.Leases) false),(A.sl 3 0 y7.length false),(A.imm (List.map cB a0.Order) false)],Blk.box (c_S_replica_entry a1),Blk.box [(iA 0),(A.imm [] true),(A.imm [] true),(A.imm [] true)],Blk.row false 2 (List.map c_S_Call y7)] (.s (A.ptr 0 3) (.s (A.imm (List.map cB a0.Order) false) (.s (A.ptr 1 0) (.s (bA a1.is) ?_)))))
 refine .cT (by kernel_rfl) ?_
 refine .s (A.imm [[(bA a1.is)]] true) ?_
 refine .cT (by kernel_rfl) ?_
 refine .cl ((evCall_in lt_62).trans (e62 C (ec C n 7) (ey C n 7) (n+7) _ _ _)) ?_
 refine .st (len_imm (e:=4) (h1:=by kernel_rfl) ..) ?_
 refine .st (len_imm (e:=4) (h1:=by kernel_rfl) ..) ?_
 refine .bd (g:=fun (y:List Bool)=>(A.imm (List.map cB y) true)) (cut_imm3 (e:=4) (es:=1) (f:=cB) (l:=a0.Order) (a:=0) (b:=(a0.Order.length:Int)) (by kernel_rfl) (by kernel_rfl) (fun _=>rfl) (.inl ⟨rfl,rfl⟩)) fun y8=>?_
 refine .cr ?_
 refine .ok ?_
 refine .bd (g:=fun (y:List Bool)=>((A.sl 4 0 y.length false),[Blk.box [(iA a0.Self),(A.imm (List.map c_S_Lease a0.Leases) false),(A.sl 3 0 y7.length false),(A.imm (List.map cB a0.Order) false)],Blk.box (c_S_replica_entry a1),Blk.box [(iA 0),(A.imm [] true),(A.imm [] true),(A.imm [] true)],Blk.row false 2 (List.map c_S_Call y7),Blk.row false 1 (List.map cB y)])) (app_imm (e:=4) (es:=1) (by_:=1) (z:=[(bA false)]) (by kernel_rfl) (by kernel_rfl) (by kernel_rfl) (by kernel_rfl) rfl (by decide) (by decide) (by kernel_rfl) (f:=cB) (fun _=>rfl) ce_cB (l:=y8) (l2:=[a1.is]) (els_imm (f:=cB) ([a1.is]:List Bool) _ _)) fun y9=>?_
 refine .s (A.ptr 0 3) (.sh (.s (A.agg [(iA a0.Self),(A.imm (List.map c_S_Lease a0.Leases) false),(A.sl 3 0 y7.length false),(A.sl 4 0 y9.length false)]) (.s [(hk33_1 a0 y7 y9),Blk.box (c_S_replica_entry a1),(hk33_1 a0 y7 y9),Blk.row false 2 (List.map c_S_Call y7),Blk.row false 1 (List.map cB y9)] (.s (A.agg [(iA a0.Self),(A.imm (List.map c_S_Lease a0.Leases) false),(A.sl 3 0 y7.length false),(A.sl 4 0 y9.length false)]) ?_))))
 exact .lv (by show snapE [(hk33_1 a0 y7 y9),Blk.box (c_S_replica_entry a1),(hk33_1 a0 y7 y9),Blk.row false 2 (List.map c_S_Call y7),Blk.row false 1 (List.map cB y9)] (A.agg [(iA a0.Self),(A.imm (List.map c_S_Lease a0.Leases) false),(A.sl 3 0 y7.length false),(A.sl 4 0 y9.length false)])=_; first | (simp only[sn0,snM,snapE,snapGE_row (H:=[(hk33_1 a0 y7 y9),Blk.box (c_S_replica_entry a1),(hk33_1 a0 y7 y9),Blk.row false 2 (List.map c_S_Call y7),Blk.row false 1 (List.map cB y9)]) (b:=3) (es:=2) (wr:=false) (l:=y7) fl_S_Call rfl,snapGE_row (H:=[(hk33_1 a0 y7 y9),Blk.box (c_S_replica_entry a1),(hk33_1 a0 y7 y9),Blk.row false 2 (List.map c_S_Call y7),Blk.row false 1 (List.map cB y9)]) (b:=4) (es:=1) (wr:=false) (l:=y9) fl_cB rfl]; done) | (simp only[sn0,snS,snapE,snapGE_row (H:=[(hk33_1 a0 y7 y9),Blk.box (c_S_replica_entry a1),(hk33_1 a0 y7 y9),Blk.row false 2 (List.map c_S_Call y7),Blk.row false 1 (List.map cB y9)]) (b:=3) (es:=2) (wr:=false) (l:=y7) fl_S_Call rfl,snapGE_row (H:=[(hk33_1 a0 y7 y9),Blk.box (c_S_replica_entry a1),(hk33_1 a0 y7 y9),Blk.row false 2 (List.map c_S_Call y7),Blk.row false 1 (List.map cB y9)]) (b:=4) (es:=1) (wr:=false) (l:=y9) fl_cB rfl]; first | done | rfl))
def G33 (a0:S_Replica) (a1:S_replica_entry):Option S_Replica:=F33 fuel0 a0 a1
def Orc33 (C:Nat->List A->Option A):Prop:=∀ (a0:S_Replica) (a1:S_replica_entry),C 33 [(A.agg (c_S_Replica a0)),(A.agg (c_S_replica_entry a1))]=(G33 a0 a1).map fun y=>(A.agg [(iA y.Self),(A.imm (List.map c_S_Lease y.Leases) false),(A.imm (List.map c_S_Call y.Calls) false),(A.imm (List.map cB y.Order) false)])
def hk20_1 (v35:Int) (v36:(List S_Lease)) (v37:(List S_Call)) (v38:(List Bool)):Blk:=Blk.box [(iA v35),(A.imm (List.map c_S_Lease v36) false),(A.imm (List.map c_S_Call v37) false),(A.imm (List.map cB v38) false)]
def hk20_2 (y42:Bool) (y87:S_Call):Blk:=Blk.box [(bA y42),(iA 0),(iA 0),(iA 0),(iA y87.Bar),(iA y87.Program)]
def F20_55_0 (n:Nat) (v30:(List Bool)) (v31:Int) (v33:S_Replica) (v34:Int) (v40:S_Replica):Nat->(List S_Lease)->(List S_Call)->Int->Int->(List S_Lease)->(List S_Call)->(List Bool)->Int->Option ((Int×Int×(List S_Lease)×(List S_Call)×(List Bool)×Int×Bool×Int×Int×Int×Int×Int×Bool×Int×Int×Int×Int×Int)⊕((Int×(List S_Lease)×(List S_Call)×(List Bool)×Int×Bool×Int×Int×Int×Int×Int)⊕(Int×(List S_Lease)×(List S_Call)×(List Bool)×Int)))
 | 0,_,_,_,_,_,_,_,_=>none
 | m+1,v28,v29,v32,v35,v36,v37,v38,v39=>bif (decide (v32<v31)) then ((getI v30 v32).bind fun y42=>(bif y42 then (some (decide (0<((v28.length:Int))))) else (some false)).bind fun y44=>bif y44 then ((getI v28 0).bind fun y49=>(subI v28 1 ((v28.length:Int))).bind fun y50=>(bif y42 then ((G50 ((S_Replica.mk v35 v36 v37 v38)) y49).bind fun y52=>some (!y52)) else (some false)).bind fun y53=>(bif y53 then (some true) else ((bif (!y42) then ((G51 ((S_Replica.mk v35 v36 v37 v38)) ((S_Call.mk 0 0))).bind fun y61=>some (!y61)) else (some false)).bind fun y62=>some y62)).bind fun y68=>bif y68 then (some ((Sum.inl ((530,v35,v36,v37,v38,v39,y42,y49.No,y49.Holder,y49.Until,0,0,y42,y49.No,y49.Holder,y49.Until,0,0))))) else ((G33 ((S_Replica.mk v35 v36 v37 v38)) ((S_replica_entry.mk y42 y49 ((S_Call.mk 0 0))))).bind fun y80=>F20_55_0 n v30 v31 v33 v34 v40 m y50 v29 (wr .i64 (v32+1)) y80.Self y80.Leases y80.Calls y80.Order (wr .i64 (v39+1)))) else ((bif (!y42) then (some (decide (0<((v29.length:Int))))) else (some false)).bind fun y82=>bif y82 then ((getI v29 0).bind fun y87=>(subI v29 1 ((v29.length:Int))).bind fun y88=>(bif y42 then ((G50 ((S_Replica.mk v35 v36 v37 v38)) ((S_Lease.mk 0 0 0))).bind fun y90=>some (!y90)) else (some false)).bind fun y91=>(bif y91 then (some true) else ((bif (!y42) then ((G51 ((S_Replica.mk v35 v36 v37 v38)) y87).bind fun y99=>some (!y99)) else (some false)).bind fun y100=>some y100)).bind fun y106=>bif y106 then (some ((Sum.inl ((530,v35,v36,v37,v38,v39,y42,0,0,0,y87.Bar,y87.Program,y42,0,0,0,y87.Bar,y87.Program))))) else ((G33 ((S_Replica.mk v35 v36 v37 v38)) ((S_replica_entry.mk y42 ((S_Lease.mk 0 0 0)) y87))).bind fun y118=>F20_55_0 n v30 v31 v33 v34 v40 m v28 y88 (wr .i64 (v32+1)) y118.Self y118.Leases y118.Calls y118.Order (wr .i64 (v39+1)))) else (some ((Sum.inr ((Sum.inl ((v35,v36,v37,v38,v39,y42,0,0,0,0,0))))))))) else (some ((Sum.inr ((Sum.inr ((v35,v36,v37,v38,v39)))))))
theorem T20_55_0 (C:Nat->List A->Option A) (n:Nat) (h33:Orc33 C) (h47:Orc47 C) (h50:Orc50 C) (h51:Orc51 C) (v30:(List Bool)) (v31:Int) (v33:S_Replica) (v34:Int) (v40:S_Replica) {ρ γ:Type} {φ:ρ->γ->Prop} {kL:R->Option ρ} {K:((Int×Int×(List S_Lease)×(List S_Call)×(List Bool)×Int×Bool×Int×Int×Int×Int×Int×Bool×Int×Int×Int×Int×Int)⊕((Int×(List S_Lease)×(List S_Call)×(List Bool)×Int×Bool×Int×Int×Int×Int×Int)⊕(Int×(List S_Lease)×(List S_Call)×(List Bool)×Int)))->Option γ} (kx kg:Nat->St->Option R) (kr:St->Option R) (kp:A->St->Option R) (x0:∀ (o0:Int) (o1:Int) (o2:(List S_Lease)) (o3:(List S_Call)) (o4:(List Bool)) (o5:Int) (o6:Bool) (o7:Int) (o8:Int) (o9:Int) (o10:Int) (o11:Int) (o12:Bool) (o13:Int) (o14:Int) (o15:Int) (o16:Int) (o17:Int) (s0:A) (s3:A) (s4:A) (s13:A) (s14:A) (s15:A),J φ (kr (St.mk [(0,s0),(3,s3),(4,s4),(13,s13),(14,s14),(15,s15)] [Blk.box (c_S_Replica v33),Blk.box [(iA o0)],Blk.box [(iA o1),(A.imm (List.map c_S_Lease o2) false),(A.imm (List.map c_S_Call o3) false),(A.imm (List.map cB o4) false)],Blk.box [(iA o5)],Blk.box (c_S_Replica v40),Blk.rng (RSt.done Jmp.ret),Blk.box [(bA o6),(iA o7),(iA o8),(iA o9),(iA o10),(iA o11)],Blk.box [(bA o12),(iA o13),(iA o14),(iA o15),(iA o16),(iA o17)]])) kL (K (Sum.inl ((o0,o1,o2,o3,o4,o5,o6,o7,o8,o9,o10,o11,o12,o13,o14,o15,o16,o17)))) some) (x1:∀ (o0:Int) (o1:(List S_Lease)) (o2:(List S_Call)) (o3:(List Bool)) (o4:Int) (o5:Bool) (o6:Int) (o7:Int) (o8:Int) (o9:Int) (o10:Int) (s0:A) (s3:A) (s4:A) (s13:A) (s14:A) (s15:A),J φ (kr (St.mk [(0,s0),(3,s3),(4,s4),(13,s13),(14,s14),(15,s15)] [Blk.box (c_S_Replica v33),Blk.box [(iA v34)],Blk.box [(iA o0),(A.imm (List.map c_S_Lease o1) false),(A.imm (List.map c_S_Call o2) false),(A.imm (List.map cB o3) false)],Blk.box [(iA o4)],Blk.box (c_S_Replica v40),Blk.rng RSt.ready,Blk.box [(bA o5),(iA o6),(iA o7),(iA o8),(iA o9),(iA o10)]])) kL (K (Sum.inr ((Sum.inl ((o0,o1,o2,o3,o4,o5,o6,o7,o8,o9,o10)))))) some) (x2:∀ (o0:Int) (o1:(List S_Lease)) (o2:(List S_Call)) (o3:(List Bool)) (o4:Int) (s0:A) (s3:A) (s4:A) (s13:A) (s14:A) (s15:A),J φ (kx 0 (St.mk [(0,s0),(3,s3),(4,s4),(13,s13),(14,s14),(15,s15)] [Blk.box (c_S_Replica v33),Blk.box [(iA v34)],Blk.box [(iA o0),(A.imm (List.map c_S_Lease o1) false),(A.imm (List.map c_S_Call o2) false),(A.imm (List.map cB o3) false)],Blk.box [(iA o4)],Blk.box (c_S_Replica v40),Blk.rng RSt.ready])) kL (K (Sum.inr ((Sum.inr ((o0,o1,o2,o3,o4)))))) some) :
  ∀ (m:Nat) (v28:(List S_Lease)) (v29:(List S_Call)) (v32:Int) (v35:Int) (v36:(List S_Lease)) (v37:(List S_Call)) (v38:(List Bool)) (v39:Int),J φ (loopR (cx C) (evCallY (cx C) (n+7) (yext 124 (evCall (cx C) (n+8)) 5 (roundR (cx C) (ec C n 8) (ey C n 8) (n+8) 20 0 0 5 [(2,(A.ptr 1 0)),(3,(A.ptr 2 0)),(4,(A.ptr 3 0))]))) (evCallY (cx C) (n+7)) (n+7) 55 0 0 6 kx kg kr kp m (St.mk [(0,(A.yld 5)),(3,(A.imm (List.map c_S_Lease v28) false)),(4,(A.imm (List.map c_S_Call v29) false)),(13,(A.imm (List.map cB v30) false)),(14,(iA v31)),(15,(iA v32))] [Blk.box (c_S_Replica v33),Blk.box [(iA v34)],(hk20_1 v35 v36 v37 v38),Blk.box [(iA v39)],Blk.box (c_S_Replica v40),Blk.rng RSt.ready])) kL (F20_55_0 n v30 v31 v33 v34 v40 m v28 v29 v32 v35 v36 v37 v38 v39) K:=by
 intro m
 induction m with
 | zero=>intros; exact .nn
 | succ m ih =>
  intro v28 v29 v32 v35 v36 v37 v38 v39
  refine .lp (e55_0 ..) ?_
  unfold F20_55_0
  refine .st (aBin_lss ..) ?_
  refine .biHN (fun hk41=>?_) (fun hk41=>?_)
  ·refine .bd (g:=fun (y:Bool)=>A.ip (cB y)) (idx_imm (e:=4) (es:=1) (h1:=by kernel_rfl) (h2:=by kernel_rfl) (h3:=fun _=>rfl) ..) fun y42=>?_
   refine .s (bA y42) (.s (A.agg [(bA y42),(iA 0),(iA 0),(iA 0),(iA 0),(iA 0)]) (.sq (A.ptr 6 0) (.s [Blk.box (c_S_Replica v33),Blk.box [(iA v34)],(hk20_1 v35 v36 v37 v38),Blk.box [(iA v39)],Blk.box (c_S_Replica v40),Blk.rng RSt.ready,Blk.box [(bA y42),(iA 0),(iA 0),(iA 0),(iA 0),(iA 0)]] ?_)))
   refine .bg (fun t (y:Bool)=>∃ j45 j46 j47:A,t=[(bA y),j45,j46,j47]) ?_ ?_
   ·refine .biH (fun hk43=>?_) (fun hk43=>?_)
    ·refine .st (len_imm (e:=59) (h1:=by kernel_rfl) ..) ?_
     refine .st (aBin_gtr ..) ?_
     exact .lg ⟨_,_,_,rfl⟩
    exact .lg ⟨_,_,_,rfl⟩
   rintro _ y44 ⟨j45,j46,j47,rfl⟩
   iterate 4 refine .uc ?_
   refine .biHN (fun hk48=>?_) (fun hk48=>?_)
   ·refine .bd (g:=fun (y:S_Lease)=>A.ip (c_S_Lease y)) (idx_imm (e:=59) (es:=3) (h1:=by kernel_rfl) (h2:=by kernel_rfl) (h3:=fun _=>rfl) ..) fun y49=>?_
    refine .s (A.agg (c_S_Lease y49)) ?_
    refine .bd (g:=fun (y:List S_Lease)=>(A.imm (List.map c_S_Lease y) false)) (cut_imm (e:=59) (es:=3) (f:=c_S_Lease) (l:=v28) (a:=1) (b:=(v28.length:Int)) (by kernel_rfl) (by kernel_rfl) (fun _=>rfl) (.inr ⟨_,rfl⟩) (.inl ⟨rfl,rfl⟩)) fun y50=>?_
    refine .s (A.ptr 6 1) ?_
    refine .cT (by kernel_rfl) ?_
    refine .s [Blk.box (c_S_Replica v33),Blk.box [(iA v34)],(hk20_1 v35 v36 v37 v38),Blk.box [(iA v39)],Blk.box (c_S_Replica v40),Blk.rng RSt.ready,Blk.box ([(bA y42)]++c_S_Lease y49++[(iA 0),(iA 0)])] (.s (A.agg ([(bA y42)]++c_S_Lease y49++[(iA 0),(iA 0)])) ?_)
    refine .dY rfl ?_
    refine .cl (yq.trans (yext_at.trans (e20_r0 C (ec C n 8) (ey C n 8) (n+8) _ _ _ _ _ _ _ _ _))) ?_
    refine .cT (by kernel_rfl) ?_
    refine .lp (rdy_at rfl) ?_
    refine .sq (A.ptr 7 0) (.s [Blk.box (c_S_Replica v33),Blk.box [(iA v34)],(hk20_1 v35 v36 v37 v38),Blk.box [(iA v39)],Blk.box (c_S_Replica v40),Blk.rng RSt.ready,Blk.box ([(bA y42)]++c_S_Lease y49++[(iA 0),(iA 0)]),Blk.box ([(bA y42)]++c_S_Lease y49++[(iA 0),(iA 0)])] ?_)
    refine .lp (rdy_at rfl) ?_
    refine .s (A.ptr 7 0) (.s (bA y42) ?_)
    refine .bg (fun t (y:Bool)=>∃ j54 j55 j56 j57 j58:A,t=[(bA y),j54,j55,j56,j57,j58]) ?_ ?_
    ·refine .biH (fun hk51=>?_) (fun hk51=>?_)
     ·refine .s (A.agg [(iA v35),(A.imm (List.map c_S_Lease v36) false),(A.imm (List.map c_S_Call v37) false),(A.imm (List.map cB v38) false)]) (.s (A.ptr 7 1) (.s (A.agg (c_S_Lease y49)) ?_))
      refine .bd (g:=fun (y:Bool)=>(bA y)) (by show C 50 [snap _ (A.agg [(iA v35),(A.imm (List.map c_S_Lease v36) false),(A.imm (List.map c_S_Call v37) false),(A.imm (List.map cB v38) false)]),snap _ (A.agg (c_S_Lease y49))]=_; simp only[sn0,snM]; exact h50 ((S_Replica.mk v35 v36 v37 v38)) y49) fun y52=>?_
      refine .s (bA (!y52)) ?_
      exact .lg ⟨_,_,_,_,_,rfl⟩
     exact .lg ⟨_,_,_,_,_,rfl⟩
    rintro _ y53 ⟨j54,j55,j56,j57,j58,rfl⟩
    iterate 6 refine .uc ?_
    refine .bg (fun t (y:Bool)=>∃ j69 j70 j71 j72 j73 j74 j75 j76 j77 j78:A,t=[(bA y),j69,j70,j71,j72,j73,j74,j75,j76,j77,j78]) ?_ ?_
    ·refine .biH (fun hk59=>?_) (fun hk59=>?_)
     ·exact .lg ⟨_,_,_,_,_,_,_,_,_,_,rfl⟩
     refine .s (A.ptr 7 0) (.s (bA y42) (.s (bA (!y42)) ?_))
     refine .bg (fun t (y:Bool)=>∃ j63 j64 j65 j66 j67:A,t=[(bA y),j63,j64,j65,j66,j67]) ?_ ?_
     ·refine .biH (fun hk60=>?_) (fun hk60=>?_)
      ·refine .s (A.agg [(iA v35),(A.imm (List.map c_S_Lease v36) false),(A.imm (List.map c_S_Call v37) false),(A.imm (List.map cB v38) false)]) (.s (A.ptr 7 4) (.s (A.agg [(iA 0),(iA 0)]) ?_))
       refine .bd (g:=fun (y:Bool)=>(bA y)) (by show C 51 [snap _ (A.agg [(iA v35),(A.imm (List.map c_S_Lease v36) false),(A.imm (List.map c_S_Call v37) false),(A.imm (List.map cB v38) false)]),snap _ (A.agg [(iA 0),(iA 0)])]=_; simp only[sn0,snM]; exact h51 ((S_Replica.mk v35 v36 v37 v38)) ((S_Call.mk 0 0))) fun y61=>?_
       refine .s (bA (!y61)) ?_
       exact .lg ⟨_,_,_,_,_,rfl⟩
      exact .lg ⟨_,_,_,_,_,rfl⟩
     rintro _ y62 ⟨j63,j64,j65,j66,j67,rfl⟩
     iterate 6 refine .uc ?_
     exact .lg ⟨_,_,_,_,_,_,_,_,_,_,rfl⟩
    rintro _ y68 ⟨j69,j70,j71,j72,j73,j74,j75,j76,j77,j78,rfl⟩
    iterate 11 refine .uc ?_
    refine .biHN (fun hk79=>?_) (fun hk79=>?_)
    ·refine .s [Blk.box (c_S_Replica v33),Blk.box [(iA 530)],(hk20_1 v35 v36 v37 v38),Blk.box [(iA v39)],Blk.box (c_S_Replica v40),Blk.rng RSt.busy,Blk.box ([(bA y42)]++c_S_Lease y49++[(iA 0),(iA 0)]),Blk.box ([(bA y42)]++c_S_Lease y49++[(iA 0),(iA 0)])] ?_
     refine .lp (bsy_at rfl) ?_
     refine .cr ?_
     refine .ok ?_
     refine .s (bA true) ?_
     refine .bTN ?_
     exact .ex (x0 _ _ _ _ _ _ _ _ _ _ _ _ _ _ _ _ _ _ _ _ _ _ _ _)
    refine .s (A.agg [(iA v35),(A.imm (List.map c_S_Lease v36) false),(A.imm (List.map c_S_Call v37) false),(A.imm (List.map cB v38) false)]) (.s (A.agg ([(bA y42)]++c_S_Lease y49++[(iA 0),(iA 0)])) ?_)
    refine .bd (g:=fun (y:S_Replica)=>(A.agg [(iA y.Self),(A.imm (List.map c_S_Lease y.Leases) false),(A.imm (List.map c_S_Call y.Calls) false),(A.imm (List.map cB y.Order) false)])) (by show C 33 [snap _ (A.agg [(iA v35),(A.imm (List.map c_S_Lease v36) false),(A.imm (List.map c_S_Call v37) false),(A.imm (List.map cB v38) false)]),snap _ (A.agg ([(bA y42)]++c_S_Lease y49++[(iA 0),(iA 0)]))]=_; simp only[sn0,snM]; exact h33 ((S_Replica.mk v35 v36 v37 v38)) ((S_replica_entry.mk y42 y49 ((S_Call.mk 0 0))))) fun y80=>?_
    refine .sh (.s (iA v39) ?_)
    refine .st (aBin_add ..) ?_
    refine .s [Blk.box (c_S_Replica v33),Blk.box [(iA v34)],Blk.box (c_S_Replica y80),Blk.box [(iA (wr .i64 (v39+1)))],Blk.box (c_S_Replica v40),Blk.rng RSt.busy,Blk.box ([(bA y42)]++c_S_Lease y49++[(iA 0),(iA 0)]),Blk.box ([(bA y42)]++c_S_Lease y49++[(iA 0),(iA 0)])] ?_
    refine .lp (bsy_at rfl) ?_
    refine .cr ?_
    refine .ok ?_
    refine .s (bA false) ?_
    refine .bFN ?_
    refine .st (aBin_add ..) ?_
    refine .st (v:=[Blk.box (c_S_Replica v33),Blk.box [(iA v34)],Blk.box (c_S_Replica y80),Blk.box [(iA (wr .i64 (v39+1)))],Blk.box (c_S_Replica v40),Blk.rng RSt.ready]) ((by kernel_rfl:_=(bif ((((underss 6 (List.map c_S_Lease v33.Leases))&&((underss 6 (List.map c_S_Call v33.Calls))&&((underss 6 (List.map cB v33.Order))&&true))))&&((((underss 6 (List.map c_S_Lease y80.Leases))&&((underss 6 (List.map c_S_Call y80.Calls))&&((underss 6 (List.map cB y80.Order))&&true))))&&((((underss 6 (List.map c_S_Lease v40.Leases))&&((underss 6 (List.map c_S_Call v40.Calls))&&((underss 6 (List.map cB v40.Order))&&true))))&&true))) then some [Blk.box (c_S_Replica v33),Blk.box [(iA v34)],Blk.box (c_S_Replica y80),Blk.box [(iA (wr .i64 (v39+1)))],Blk.box (c_S_Replica v40),Blk.rng RSt.ready] else none)).trans (by simp only[un0,unS])) ?_
    refine .cT ((by kernel_rfl:_=(bif underss 6 (List.map c_S_Lease y50) then (bif underss 6 (List.map c_S_Call v29) then (bif underss 6 (List.map cB v30) then true else false) else false) else false)).trans (by simp only[un0,unS])) ?_
    exact ih _ _ _ _ _ _ _ _
   refine .s (bA (!y42)) ?_
   refine .bg (fun t (y:Bool)=>∃ j83 j84 j85:A,t=[(bA y),j83,j84,j85]) ?_ ?_
   ·refine .biH (fun hk81=>?_) (fun hk81=>?_)
    ·refine .st (len_imm (e:=62) (h1:=by kernel_rfl) ..) ?_
     refine .st (aBin_gtr ..) ?_
     exact .lg ⟨_,_,_,rfl⟩
    exact .lg ⟨_,_,_,rfl⟩
   rintro _ y82 ⟨j83,j84,j85,rfl⟩
   iterate 4 refine .uc ?_
   refine .biHN (fun hk86=>?_) (fun hk86=>?_)
   ·refine .bd (g:=fun (y:S_Call)=>A.ip (c_S_Call y)) (idx_imm (e:=62) (es:=2) (h1:=by kernel_rfl) (h2:=by kernel_rfl) (h3:=fun _=>rfl) ..) fun y87=>?_
    refine .s (A.agg [(iA y87.Bar),(iA y87.Program)]) ?_
    refine .bd (g:=fun (y:List S_Call)=>(A.imm (List.map c_S_Call y) false)) (cut_imm (e:=62) (es:=2) (f:=c_S_Call) (l:=v29) (a:=1) (b:=(v29.length:Int)) (by kernel_rfl) (by kernel_rfl) (fun _=>rfl) (.inr ⟨_,rfl⟩) (.inl ⟨rfl,rfl⟩)) fun y88=>?_
    refine .s (A.ptr 6 4) ?_
    refine .cT (by kernel_rfl) ?_
    refine .s [Blk.box (c_S_Replica v33),Blk.box [(iA v34)],(hk20_1 v35 v36 v37 v38),Blk.box [(iA v39)],Blk.box (c_S_Replica v40),Blk.rng RSt.ready,(hk20_2 y42 y87)] (.s (A.agg [(bA y42),(iA 0),(iA 0),(iA 0),(iA y87.Bar),(iA y87.Program)]) ?_)
    refine .dY rfl ?_
    refine .cl (yq.trans (yext_at.trans (e20_r0 C (ec C n 8) (ey C n 8) (n+8) _ _ _ _ _ _ _ _ _))) ?_
    refine .cT (by kernel_rfl) ?_
    refine .lp (rdy_at rfl) ?_
    refine .sq (A.ptr 7 0) (.s [Blk.box (c_S_Replica v33),Blk.box [(iA v34)],(hk20_1 v35 v36 v37 v38),Blk.box [(iA v39)],Blk.box (c_S_Replica v40),Blk.rng RSt.ready,(hk20_2 y42 y87),(hk20_2 y42 y87)] ?_)
    refine .lp (rdy_at rfl) ?_
    refine .s (A.ptr 7 0) (.s (bA y42) ?_)
    refine .bg (fun t (y:Bool)=>∃ j92 j93 j94 j95 j96:A,t=[(bA y),j92,j93,j94,j95,j96]) ?_ ?_
    ·refine .biH (fun hk89=>?_) (fun hk89=>?_)
     ·refine .s (A.agg [(iA v35),(A.imm (List.map c_S_Lease v36) false),(A.imm (List.map c_S_Call v37) false),(A.imm (List.map cB v38) false)]) (.s (A.ptr 7 1) (.s (A.agg [(iA 0),(iA 0),(iA 0)]) ?_))
      refine .bd (g:=fun (y:Bool)=>(bA y)) (by show C 50 [snap _ (A.agg [(iA v35),(A.imm (List.map c_S_Lease v36) false),(A.imm (List.map c_S_Call v37) false),(A.imm (List.map cB v38) false)]),snap _ (A.agg [(iA 0),(iA 0),(iA 0)])]=_; simp only[sn0,snM]; exact h50 ((S_Replica.mk v35 v36 v37 v38)) ((S_Lease.mk 0 0 0))) fun y90=>?_
      refine .s (bA (!y90)) ?_
      exact .lg ⟨_,_,_,_,_,rfl⟩
     exact .lg ⟨_,_,_,_,_,rfl⟩
    rintro _ y91 ⟨j92,j93,j94,j95,j96,rfl⟩
    iterate 6 refine .uc ?_
    refine .bg (fun t (y:Bool)=>∃ j107 j108 j109 j110 j111 j112 j113 j114 j115 j116:A,t=[(bA y),j107,j108,j109,j110,j111,j112,j113,j114,j115,j116]) ?_ ?_
    ·refine .biH (fun hk97=>?_) (fun hk97=>?_)
     ·exact .lg ⟨_,_,_,_,_,_,_,_,_,_,rfl⟩
     refine .s (A.ptr 7 0) (.s (bA y42) (.s (bA (!y42)) ?_))
     refine .bg (fun t (y:Bool)=>∃ j101 j102 j103 j104 j105:A,t=[(bA y),j101,j102,j103,j104,j105]) ?_ ?_
     ·refine .biH (fun hk98=>?_) (fun hk98=>?_)
      ·refine .s (A.agg [(iA v35),(A.imm (List.map c_S_Lease v36) false),(A.imm (List.map c_S_Call v37) false),(A.imm (List.map cB v38) false)]) (.s (A.ptr 7 4) (.s (A.agg [(iA y87.Bar),(iA y87.Program)]) ?_))
       refine .bd (g:=fun (y:Bool)=>(bA y)) (by show C 51 [snap _ (A.agg [(iA v35),(A.imm (List.map c_S_Lease v36) false),(A.imm (List.map c_S_Call v37) false),(A.imm (List.map cB v38) false)]),snap _ (A.agg [(iA y87.Bar),(iA y87.Program)])]=_; simp only[sn0,snM]; exact h51 ((S_Replica.mk v35 v36 v37 v38)) y87) fun y99=>?_
       refine .s (bA (!y99)) ?_
       exact .lg ⟨_,_,_,_,_,rfl⟩
      exact .lg ⟨_,_,_,_,_,rfl⟩
     rintro _ y100 ⟨j101,j102,j103,j104,j105,rfl⟩
     iterate 6 refine .uc ?_
     exact .lg ⟨_,_,_,_,_,_,_,_,_,_,rfl⟩
    rintro _ y106 ⟨j107,j108,j109,j110,j111,j112,j113,j114,j115,j116,rfl⟩
    iterate 11 refine .uc ?_
    refine .biHN (fun hk117=>?_) (fun hk117=>?_)
    ·refine .s [Blk.box (c_S_Replica v33),Blk.box [(iA 530)],(hk20_1 v35 v36 v37 v38),Blk.box [(iA v39)],Blk.box (c_S_Replica v40),Blk.rng RSt.busy,(hk20_2 y42 y87),(hk20_2 y42 y87)] ?_
     refine .lp (bsy_at rfl) ?_
     refine .cr ?_
     refine .ok ?_
     refine .s (bA true) ?_
     refine .bTN ?_
     exact .ex (x0 _ _ _ _ _ _ _ _ _ _ _ _ _ _ _ _ _ _ _ _ _ _ _ _)
    refine .s (A.agg [(iA v35),(A.imm (List.map c_S_Lease v36) false),(A.imm (List.map c_S_Call v37) false),(A.imm (List.map cB v38) false)]) (.s (A.agg [(bA y42),(iA 0),(iA 0),(iA 0),(iA y87.Bar),(iA y87.Program)]) ?_)
    refine .bd (g:=fun (y:S_Replica)=>(A.agg [(iA y.Self),(A.imm (List.map c_S_Lease y.Leases) false),(A.imm (List.map c_S_Call y.Calls) false),(A.imm (List.map cB y.Order) false)])) (by show C 33 [snap _ (A.agg [(iA v35),(A.imm (List.map c_S_Lease v36) false),(A.imm (List.map c_S_Call v37) false),(A.imm (List.map cB v38) false)]),snap _ (A.agg [(bA y42),(iA 0),(iA 0),(iA 0),(iA y87.Bar),(iA y87.Program)])]=_; simp only[sn0,snM]; exact h33 ((S_Replica.mk v35 v36 v37 v38)) ((S_replica_entry.mk y42 ((S_Lease.mk 0 0 0)) y87))) fun y118=>?_
    refine .sh (.s (iA v39) ?_)
    refine .st (aBin_add ..) ?_
    refine .s [Blk.box (c_S_Replica v33),Blk.box [(iA v34)],Blk.box (c_S_Replica y118),Blk.box [(iA (wr .i64 (v39+1)))],Blk.box (c_S_Replica v40),Blk.rng RSt.busy,(hk20_2 y42 y87),(hk20_2 y42 y87)] ?_
    refine .lp (bsy_at rfl) ?_
    refine .cr ?_
    refine .ok ?_
    refine .s (bA false) ?_
    refine .bFN ?_
    refine .st (aBin_add ..) ?_
    refine .st (v:=[Blk.box (c_S_Replica v33),Blk.box [(iA v34)],Blk.box (c_S_Replica y118),Blk.box [(iA (wr .i64 (v39+1)))],Blk.box (c_S_Replica v40),Blk.rng RSt.ready]) ((by kernel_rfl:_=(bif ((((underss 6 (List.map c_S_Lease v33.Leases))&&((underss 6 (List.map c_S_Call v33.Calls))&&((underss 6 (List.map cB v33.Order))&&true))))&&((((underss 6 (List.map c_S_Lease y118.Leases))&&((underss 6 (List.map c_S_Call y118.Calls))&&((underss 6 (List.map cB y118.Order))&&true))))&&((((underss 6 (List.map c_S_Lease v40.Leases))&&((underss 6 (List.map c_S_Call v40.Calls))&&((underss 6 (List.map cB v40.Order))&&true))))&&true))) then some [Blk.box (c_S_Replica v33),Blk.box [(iA v34)],Blk.box (c_S_Replica y118),Blk.box [(iA (wr .i64 (v39+1)))],Blk.box (c_S_Replica v40),Blk.rng RSt.ready] else none)).trans (by simp only[un0,unS])) ?_
    refine .cT ((by kernel_rfl:_=(bif underss 6 (List.map c_S_Lease v28) then (bif underss 6 (List.map c_S_Call y88) then (bif underss 6 (List.map cB v30) then true else false) else false) else false)).trans (by simp only[un0,unS])) ?_
    exact ih _ _ _ _ _ _ _ _
   exact .ex (x1 _ _ _ _ _ _ _ _ _ _ _ _ _ _ _ _ _)
  exact .ex (x2 _ _ _ _ _ _ _ _ _ _ _)
def F20 (n:Nat) (a0:S_Replica):Option Int :=
 (G47 a0.Self 0 1).bind fun y1=>(bif (!y1) then (some true) else (some (((a0.Order.length:Int))==0))).bind fun y3=>(bif y3 then (some true) else (some (((a0.Order.length:Int)) != (wr .i64 (((a0.Leases.length:Int))+((a0.Calls.length:Int))))))).bind fun y9=>(bif y9 then (some true) else (some (decide (256<((a0.Leases.length:Int)))))).bind fun y22=>bif y22 then (some 530) else ((F20_55_0 n a0.Order ((a0.Order.length:Int)) a0 0 a0 (n+7) a0.Leases a0.Calls 0 a0.Self ([]) ([]) ([]) 0).bind fun o119=>match o119 with | (Sum.inl ((y120,y121,y122,y123,y124,y125,y126,y127,y128,y129,y130,y131,y132,y133,y134,y135,y136,y137)))=>some y120 | (Sum.inr ((Sum.inl ((y144,y145,y146,y147,y148,y149,y150,y151,y152,y153,y154)))))=>(bif (y148 != ((a0.Order.length:Int))) then (some true) else ((getI a0.Order 0).bind fun y162=>some (!y162))).bind fun y163=>bif y163 then (some 530) else (some 0) | (Sum.inr ((Sum.inr ((y170,y171,y172,y173,y174)))))=>(bif (y174 != ((a0.Order.length:Int))) then (some true) else ((getI a0.Order 0).bind fun y182=>some (!y182))).bind fun y183=>bif y183 then (some 530) else (some 0))
theorem T20 (C:Nat->List A->Option A) (n:Nat) (h33:Orc33 C) (h47:Orc47 C) (h50:Orc50 C) (h51:Orc51 C) (a0:S_Replica):J (fun (o:R) y=>∃ v,o.1=.ret v/\snapE o.2 v=(iA y)) (evCall1 (cx C) (ec C n 8) (ey C n 8) (n+8) 20 [(A.agg (c_S_Replica a0))] [] 0) some (F20 n a0) some:=by
 refine .lp (e20 ..) ?_
 unfold F20
 refine .s ((A.ptr 0 0),[Blk.box (c_S_Replica a0)]) (.s ((A.ptr 1 0),[Blk.box (c_S_Replica a0),Blk.box [(iA 0)]]) (.s (A.ptr 0 0) (.s (iA a0.Self) ?_)))
 refine .bd (g:=fun (y:Bool)=>(bA y)) (h47 a0.Self 0 1) fun y1=>?_
 refine .s (bA (!y1)) ?_
 refine .bg (fun t (y:Bool)=>∃ j4 j5 j6 j7:A,t=[(bA y),j4,j5,j6,j7]) ?_ ?_
 ·refine .biH (fun hk2=>?_) (fun hk2=>?_)
  ·exact .lg ⟨_,_,_,_,rfl⟩
  refine .s (A.ptr 0 3) (.s (A.imm (List.map cB a0.Order) false) ?_)
  refine .st (len_imm (e:=4) (h1:=by kernel_rfl) ..) ?_
  refine .st (aBin_eql ..) ?_
  exact .lg ⟨_,_,_,_,rfl⟩
 rintro _ y3 ⟨j4,j5,j6,j7,rfl⟩
 iterate 5 refine .uc ?_
 refine .bg (fun t (y:Bool)=>∃ j10 j11 j12 j13 j14 j15 j16 j17 j18 j19 j20:A,t=[(bA y),j10,j11,j12,j13,j14,j15,j16,j17,j18,j19,j20]) ?_ ?_
 ·refine .biH (fun hk8=>?_) (fun hk8=>?_)
  ·exact .lg ⟨_,_,_,_,_,_,_,_,_,_,_,rfl⟩
  refine .s (A.ptr 0 3) (.s (A.imm (List.map cB a0.Order) false) ?_)
  refine .st (len_imm (e:=4) (h1:=by kernel_rfl) ..) ?_
  refine .s (A.ptr 0 1) (.s (A.imm (List.map c_S_Lease a0.Leases) false) ?_)
  refine .st (len_imm (e:=59) (h1:=by kernel_rfl) ..) ?_
  refine .s (A.ptr 0 2) (.s (A.imm (List.map c_S_Call a0.Calls) false) ?_)
  refine .st (len_imm (e:=62) (h1:=by kernel_rfl) ..) ?_
  refine .st (aBin_add ..) ?_
  refine .st (aBin_neq ..) ?_
  exact .lg ⟨_,_,_,_,_,_,_,_,_,_,_,rfl⟩
 rintro _ y9 ⟨j10,j11,j12,j13,j14,j15,j16,j17,j18,j19,j20,rfl⟩
 iterate 12 refine .uc ?_
 refine .bg (fun t (y:Bool)=>∃ j23 j24 j25 j26:A,t=[(bA y),j23,j24,j25,j26]) ?_ ?_
 ·refine .biH (fun hk21=>?_) (fun hk21=>?_)
  ·exact .lg ⟨_,_,_,_,rfl⟩
  refine .s (A.ptr 0 1) (.s (A.imm (List.map c_S_Lease a0.Leases) false) ?_)
  refine .st (len_imm (e:=59) (h1:=by kernel_rfl) ..) ?_
  refine .st (aBin_gtr ..) ?_
  exact .lg ⟨_,_,_,_,rfl⟩
 rintro _ y22 ⟨j23,j24,j25,j26,rfl⟩
 iterate 5 refine .uc ?_
 refine .biHN (fun hk27=>?_) (fun hk27=>?_)
 ·refine .s [Blk.box (c_S_Replica a0),Blk.box [(iA 530)]] (.s (iA 530) ?_)
  exact .lv rfl
 refine .s (A.ptr 0 0) (.s (iA a0.Self) (.s (A.agg [(iA a0.Self),(A.imm [] true),(A.imm [] true),(A.imm [] true)]) (.sq (A.ptr 2 0) (.sq (A.ptr 3 0) (.sh (.sh (.s (A.agg (c_S_Replica a0)) ?_)))))))
 refine .cl ((evCall_in lt_28).trans (e28 C (ec C n 7) (ey C n 7) (n+7) _ _ _)) ?_
 refine .s ((A.ptr 4 0),[Blk.box (c_S_Replica a0),Blk.box [(iA 0)],Blk.box [(iA a0.Self),(A.imm [] true),(A.imm [] true),(A.imm [] true)],Blk.box [(iA 0)],Blk.box (c_S_Replica a0)]) ?_
 refine .cr ?_
 refine .ok ?_
 refine .s (55,[(A.ptr 4 0)]) ?_
 refine .cT (by kernel_rfl) ?_
 refine .cl ((evCallY_in lt_55).trans (e55 C (evCallY (cx C) (n+7) (yext 124 (evCall (cx C) (n+8)) 5 (roundR (cx C) (ec C n 8) (ey C n 8) (n+8) 20 0 0 5 [(2,(A.ptr 1 0)),(3,(A.ptr 2 0)),(4,(A.ptr 3 0))]))) (evCallY (cx C) (n+7)) (n+7) _ _ _ _)) ?_
 refine .s (A.ptr 4 1) (.s (A.imm (List.map c_S_Lease a0.Leases) false) (.s (A.ptr 4 2) (.s (A.imm (List.map c_S_Call a0.Calls) false) (.s (A.ptr 4 3) (.s (A.imm (List.map cB a0.Order) false) ?_)))))
 refine .st (len_imm (e:=4) (h1:=by kernel_rfl) ..) ?_
 refine .as (T20_55_0 C n h33 h47 h50 h51 a0.Order ((a0.Order.length:Int)) a0 0 a0 _ _ _ _ ?_ ?_ ?_ _ a0.Leases a0.Calls 0 a0.Self ([]) ([]) ([]) 0)
 ·intro y120 y121 y122 y123 y124 y125 y126 y127 y128 y129 y130 y131 y132 y133 y134 y135 y136 y137 j138 j139 j140 j141 j142 j143
  refine .un rfl ?_
  refine .cr ?_
  refine .ok ?_
  refine .lp (rs_r rfl) ?_
  refine .s (iA y120) ?_
  exact .lv rfl
 ·intro y144 y145 y146 y147 y148 y149 y150 y151 y152 y153 y154 j155 j156 j157 j158 j159 j160
  refine .un rfl ?_
  refine .cr ?_
  refine .ok ?_
  refine .lp (rs_n rfl) ?_
  refine .s (iA y148) (.s (A.ptr 0 3) (.s (A.imm (List.map cB a0.Order) false) ?_))
  refine .st (len_imm (e:=4) (h1:=by kernel_rfl) ..) ?_
  refine .st (aBin_neq ..) ?_
  refine .bg (fun t (y:Bool)=>∃ j164 j165 j166 j167 j168:A,t=[(bA y),j164,j165,j166,j167,j168]) ?_ ?_
  ·refine .biH (fun hk161=>?_) (fun hk161=>?_)
   ·exact .lg ⟨_,_,_,_,_,rfl⟩
   refine .s (A.ptr 0 3) (.s (A.imm (List.map cB a0.Order) false) ?_)
   refine .bd (g:=fun (y:Bool)=>A.ip (cB y)) (idx_imm (e:=4) (es:=1) (h1:=by kernel_rfl) (h2:=by kernel_rfl) (h3:=fun _=>rfl) ..) fun y162=>?_
   refine .s (bA y162) (.s (bA (!y162)) ?_)
   exact .lg ⟨_,_,_,_,_,rfl⟩
  rintro _ y163 ⟨j164,j165,j166,j167,j168,rfl⟩
  iterate 6 refine .uc ?_
  refine .biHN (fun hk169=>?_) (fun hk169=>?_)
  ·refine .s [Blk.box (c_S_Replica a0),Blk.box [(iA 530)],Blk.box [(iA y144),(A.imm (List.map c_S_Lease y145) false),(A.imm (List.map c_S_Call y146) false),(A.imm (List.map cB y147) false)],Blk.box [(iA y148)],Blk.box (c_S_Replica a0),Blk.dead,Blk.box [(bA y149),(iA y150),(iA y151),(iA y152),(iA y153),(iA y154)]] (.s (iA 530) ?_)
   exact .lv rfl
  refine .s [Blk.box (c_S_Replica a0),Blk.box [(iA 0)],Blk.box [(iA y144),(A.imm (List.map c_S_Lease y145) false),(A.imm (List.map c_S_Call y146) false),(A.imm (List.map cB y147) false)],Blk.box [(iA y148)],Blk.box (c_S_Replica a0),Blk.dead,Blk.box [(bA y149),(iA y150),(iA y151),(iA y152),(iA y153),(iA y154)]] (.s (iA 0) ?_)
  exact .lv rfl
 ·intro y170 y171 y172 y173 y174 j175 j176 j177 j178 j179 j180
  refine .un rfl ?_
  refine .cT (by kernel_rfl) ?_
  refine .cr ?_
  refine .ok ?_
  refine .lp (rs_n rfl) ?_
  refine .s (iA y174) (.s (A.ptr 0 3) (.s (A.imm (List.map cB a0.Order) false) ?_))
  refine .st (len_imm (e:=4) (h1:=by kernel_rfl) ..) ?_
  refine .st (aBin_neq ..) ?_
  refine .bg (fun t (y:Bool)=>∃ j184 j185 j186 j187 j188:A,t=[(bA y),j184,j185,j186,j187,j188]) ?_ ?_
  ·refine .biH (fun hk181=>?_) (fun hk181=>?_)
   ·exact .lg ⟨_,_,_,_,_,rfl⟩
   refine .s (A.ptr 0 3) (.s (A.imm (List.map cB a0.Order) false) ?_)
   refine .bd (g:=fun (y:Bool)=>A.ip (cB y)) (idx_imm (e:=4) (es:=1) (h1:=by kernel_rfl) (h2:=by kernel_rfl) (h3:=fun _=>rfl) ..) fun y182=>?_
   refine .s (bA y182) (.s (bA (!y182)) ?_)
   exact .lg ⟨_,_,_,_,_,rfl⟩
  rintro _ y183 ⟨j184,j185,j186,j187,j188,rfl⟩
  iterate 6 refine .uc ?_
  refine .biHN (fun hk189=>?_) (fun hk189=>?_)
  ·refine .s [Blk.box (c_S_Replica a0),Blk.box [(iA 530)],Blk.box [(iA y170),(A.imm (List.map c_S_Lease y171) false),(A.imm (List.map c_S_Call y172) false),(A.imm (List.map cB y173) false)],Blk.box [(iA y174)],Blk.box (c_S_Replica a0),Blk.dead] (.s (iA 530) ?_)
   exact .lv rfl
  refine .s [Blk.box (c_S_Replica a0),Blk.box [(iA 0)],Blk.box [(iA y170),(A.imm (List.map c_S_Lease y171) false),(A.imm (List.map c_S_Call y172) false),(A.imm (List.map cB y173) false)],Blk.box [(iA y174)],Blk.box (c_S_Replica a0),Blk.dead] (.s (iA 0) ?_)
  exact .lv rfl
def G20 (a0:S_Replica):Option Int:=F20 fuel0 a0
def Orc20 (C:Nat->List A->Option A):Prop:=∀ (a0:S_Replica),C 20 [(A.agg (c_S_Replica a0))]=(G20 a0).map fun y=>(iA y)
def F24 (n:Nat) (a0:S_Replica) (a1:Int) (a2:Int):Option (S_Replica×Int) :=
 (G20 a0).bind fun y1=>(bif (y1==0) then ((G51 a0 ((S_Call.mk a1 a2))).bind fun y3=>some y3) else (some false)).bind fun y4=>bif (!y4) then ((some ((0,530))).bind fun y9=>some (((S_Replica.mk y9.1 ([]) ([]) ([])),y9.2))) else ((G33 a0 ((S_replica_entry.mk false ((S_Lease.mk 0 0 0)) ((S_Call.mk a1 a2))))).bind fun y10=>(some ((y10.Self,y10.Leases,y10.Calls,y10.Order,0))).bind fun y11=>some (((S_Replica.mk y11.1 y11.2.1 y11.2.2.1 y11.2.2.2.1),y11.2.2.2.2)))
theorem T24 (C:Nat->List A->Option A) (n:Nat) (h20:Orc20 C) (h33:Orc33 C) (h51:Orc51 C) (a0:S_Replica) (a1:Int) (a2:Int):J (fun (o:R) y=>∃ v,o.1=.ret v/\snapE o.2 v=(A.tup [(A.agg [(iA y.1.Self),(A.imm (List.map c_S_Lease y.1.Leases) false),(A.imm (List.map c_S_Call y.1.Calls) false),(A.imm (List.map cB y.1.Order) false)]),(iA y.2)])) (evCall1 (cx C) (ec C n 8) (ey C n 8) (n+8) 24 [(A.agg (c_S_Replica a0)),(iA a1),(iA a2)] [] 0) some (F24 n a0 a1 a2) some:=by
 refine .lp (e24 ..) ?_
 unfold F24
 refine .s ((A.ptr 0 0),[Blk.box (c_S_Replica a0)]) (.sq (A.ptr 1 0) (.sq (A.ptr 2 0) (.s (A.agg [(iA a1),(iA a2)]) (.sq (A.ptr 3 0) (.s [Blk.box (c_S_Replica a0),Blk.box [(iA 0),(A.imm [] true),(A.imm [] true),(A.imm [] true)],Blk.box [(iA 0)],Blk.box [(iA a1),(iA a2)]] (.s (A.agg (c_S_Replica a0)) ?_))))))
 refine .bd (g:=fun (y:Int)=>(iA y)) (by show C 20 [snap _ (A.agg (c_S_Replica a0))]=_; simp only[sn0,snM]; exact h20 a0) fun y1=>?_
 refine .st (aBin_eql ..) ?_
 refine .bg (fun t (y:Bool)=>∃ j5 j6 j7:A,t=[(bA y),j5,j6,j7]) ?_ ?_
 ·refine .biH (fun hk2=>?_) (fun hk2=>?_)
  ·refine .s (A.agg (c_S_Replica a0)) (.s (A.agg [(iA a1),(iA a2)]) ?_)
   refine .bd (g:=fun (y:Bool)=>(bA y)) (by show C 51 [snap _ (A.agg (c_S_Replica a0)),snap _ (A.agg [(iA a1),(iA a2)])]=_; simp only[sn0,snM]; exact h51 a0 ((S_Call.mk a1 a2))) fun y3=>?_
   exact .lg ⟨_,_,_,rfl⟩
  exact .lg ⟨_,_,_,rfl⟩
 rintro _ y4 ⟨j5,j6,j7,rfl⟩
 iterate 4 refine .uc ?_
 refine .cl ((evCall_in lt_46).trans (e46 C (ec C n 7) (ey C n 7) (n+7) _ _ _ _)) ?_
 refine .s (bA (!y4)) ?_
 refine .biHN (fun hk8=>?_) (fun hk8=>?_)
 ·refine .s (A.ifc 31 (iA 530)) ?_
  refine .pk ?_
  refine .cr ?_
  refine .okP ?_
  refine .s (A.agg [(iA 0),(A.imm [] true),(A.imm [] true),(A.imm [] true)]) ?_
  refine .bg (fun t (y:Int×Int) =>  t=(A.tup [(A.agg [(iA y.1),(A.imm [] true),(A.imm [] true),(A.imm [] true)]),(iA y.2)])) ?_ ?_
  ·refine .cl ((evCall_in lt_53).trans (e53 C (ec C n 7) (ey C n 7) (n+7) _ _ _ _)) ?_
   refine .sq (A.ptr 4 0) (.sq (A.ptr 5 0) ?_)
   refine .cl ((evCall_in lt_37).trans (e37 C (evCall (cx C) (n+6)) (evCallY (cx C) (n+6)) (n+6) _ _ _)) ?_
   refine .s (bA false) ?_
   refine .bFN ?_
   refine .s (A.tup [(iA 530),(bA true)]) (.s (bA true) (.s (iA 530) ?_))
   refine .bTN ?_
   refine .cr ?_
   refine .ok ?_
   refine .s (bA true) ?_
   refine .bTN ?_
   refine .s (A.agg [(iA 0),(A.imm [] true),(A.imm [] true),(A.imm [] true)]) (.s [Blk.box (c_S_Replica a0),Blk.box [(iA 0),(A.imm [] true),(A.imm [] true),(A.imm [] true)],Blk.box [(iA 0)],Blk.box [(iA a1),(iA a2)],Blk.box [(iA 0),(A.imm [] true),(A.imm [] true),(A.imm [] true)],Blk.box [(iA 0),(A.imm [] true),(A.imm [] true),(A.imm [] true)]] (.s (A.agg [(iA 0),(A.imm [] true),(A.imm [] true),(A.imm [] true)]) ?_))
   refine .cr ?_
   refine .lp (by kernel_rfl:_=some (A.tup [(A.agg [(iA 0),(A.imm [] true),(A.imm [] true),(A.imm [] true)]),(iA 530)])) ?_
   exact .lg rfl
  rintro _ y9 rfl
  refine .s (A.agg [(iA y9.1),(A.imm [] true),(A.imm [] true),(A.imm [] true)]) (.s (iA y9.2) (.sh (.s [Blk.box (c_S_Replica a0),Blk.box [(iA y9.1),(A.imm [] true),(A.imm [] true),(A.imm [] true)],Blk.box [(iA y9.2)],Blk.box [(iA a1),(iA a2)]] (.s (A.agg [(iA y9.1),(A.imm [] true),(A.imm [] true),(A.imm [] true)]) (.s (iA y9.2) ?_)))))
  exact .lv (by show snapE _ (A.tup [(A.agg [(iA y9.1),(A.imm [] true),(A.imm [] true),(A.imm [] true)]),(iA y9.2)])=_; first | (simp only[sn0,snM,snapE]; done) | (simp only[sn0,snS,snapE]; first | done | rfl))
 refine .cr ?_
 refine .ok ?_
 refine .s (A.agg (c_S_Replica a0)) (.s (A.agg [(iA a1),(iA a2)]) (.s (A.agg [(bA false),(iA 0),(iA 0),(iA 0),(iA a1),(iA a2)]) ?_))
 refine .bd (g:=fun (y:S_Replica)=>(A.agg [(iA y.Self),(A.imm (List.map c_S_Lease y.Leases) false),(A.imm (List.map c_S_Call y.Calls) false),(A.imm (List.map cB y.Order) false)])) (by show C 33 [snap _ (A.agg (c_S_Replica a0)),snap _ (A.agg [(bA false),(iA 0),(iA 0),(iA 0),(iA a1),(iA a2)])]=_; simp only[sn0,snM]; exact h33 a0 ((S_replica_entry.mk false ((S_Lease.mk 0 0 0)) ((S_Call.mk a1 a2))))) fun y10=>?_
 refine .sh (.s [Blk.box (c_S_Replica a0),Blk.box (c_S_Replica y10),Blk.box [(iA 0)],Blk.box [(iA a1),(iA a2)]] (.s (A.agg (c_S_Replica y10)) ?_))
 refine .bg (fun t (y:Int×(List S_Lease)×(List S_Call)×(List Bool)×Int) =>  t=(A.tup [(A.agg [(iA y.1),(A.imm (List.map c_S_Lease y.2.1) false),(A.imm (List.map c_S_Call y.2.2.1) false),(A.imm (List.map cB y.2.2.2.1) false)]),(iA y.2.2.2.2)])) ?_ ?_
 ·refine .cl ((evCall_in lt_53).trans (e53 C (ec C n 7) (ey C n 7) (n+7) _ _ _ _)) ?_
  refine .sq (A.ptr 4 0) (.sq (A.ptr 5 0) ?_)
  refine .cl ((evCall_in lt_37).trans (e37 C (evCall (cx C) (n+6)) (evCallY (cx C) (n+6)) (n+6) _ _ _)) ?_
  refine .s (bA true) ?_
  refine .bTN ?_
  refine .cr ?_
  refine .ok ?_
  refine .s (bA false) ?_
  refine .bFN ?_
  refine .s (A.agg (c_S_Replica y10)) (.s [Blk.box (c_S_Replica a0),Blk.box (c_S_Replica y10),Blk.box [(iA 0)],Blk.box [(iA a1),(iA a2)],Blk.box (c_S_Replica y10),Blk.box (c_S_Replica y10)] (.s (A.agg (c_S_Replica y10)) ?_))
  refine .cr ?_
  refine .lp ((by kernel_rfl:_=(bif ((((underss 4 (List.map c_S_Lease y10.Leases))&&((underss 4 (List.map c_S_Call y10.Calls))&&((underss 4 (List.map cB y10.Order))&&true))))&&true) then some (A.tup [(A.agg (c_S_Replica y10)),(iA 0)]) else none)).trans (show _=some (A.tup [(A.agg (c_S_Replica y10)),(iA 0)]) from (by simp only[un0,unS]))) ?_
  exact .lg rfl
 rintro _ y11 rfl
 refine .s (A.agg [(iA y11.1),(A.imm (List.map c_S_Lease y11.2.1) false),(A.imm (List.map c_S_Call y11.2.2.1) false),(A.imm (List.map cB y11.2.2.2.1) false)]) (.s (iA y11.2.2.2.2) (.sh (.s [Blk.box (c_S_Replica a0),Blk.box [(iA y11.1),(A.imm (List.map c_S_Lease y11.2.1) false),(A.imm (List.map c_S_Call y11.2.2.1) false),(A.imm (List.map cB y11.2.2.2.1) false)],Blk.box [(iA y11.2.2.2.2)],Blk.box [(iA a1),(iA a2)]] (.s (A.agg [(iA y11.1),(A.imm (List.map c_S_Lease y11.2.1) false),(A.imm (List.map c_S_Call y11.2.2.1) false),(A.imm (List.map cB y11.2.2.2.1) false)]) (.s (iA y11.2.2.2.2) ?_)))))
 exact .lv (by show snapE _ (A.tup [(A.agg [(iA y11.1),(A.imm (List.map c_S_Lease y11.2.1) false),(A.imm (List.map c_S_Call y11.2.2.1) false),(A.imm (List.map cB y11.2.2.2.1) false)]),(iA y11.2.2.2.2)])=_; first | (simp only[sn0,snM,snapE]; done) | (simp only[sn0,snS,snapE]; first | done | rfl))
def G24 (a0:S_Replica) (a1:Int) (a2:Int):Option (S_Replica×Int):=F24 fuel0 a0 a1 a2
def Orc24 (C:Nat->List A->Option A):Prop:=∀ (a0:S_Replica) (a1:Int) (a2:Int),C 24 [(A.agg (c_S_Replica a0)),(iA a1),(iA a2)]=(G24 a0 a1 a2).map fun y=>(A.tup [(A.agg [(iA y.1.Self),(A.imm (List.map c_S_Lease y.1.Leases) false),(A.imm (List.map c_S_Call y.1.Calls) false),(A.imm (List.map cB y.1.Order) false)]),(iA y.2)])
def F102 (n:Nat) (a0:Int):Option Int :=
 some (xorI .i64 (wr .i64 (shrI .u64 a0 1)) (wr .i64 (0 - (wr .i64 (andI .u64 a0 1)))))
theorem T102 (C:Nat->List A->Option A) (n:Nat) (a0:Int):J (fun (o:R) y=>∃ v,o.1=.ret v/\snapE o.2 v=(iA y)) (evCall1 (cx C) (ec C n 8) (ey C n 8) (n+8) 102 [(A.v (.int .u64 a0))] [] 0) some (F102 n a0) some:=by
 refine .lp (e102 ..) ?_
 unfold F102
 refine .st (aBin_shr (hb:=by decide) ..) ?_
 refine .st (v:=(iA (wr .i64 (shrI .u64 a0 1)))) (aConvert_int (hs:=by kernel_rfl) (hd:=by kernel_rfl) ..) ?_
 refine .st (aBin_bits_and ..) ?_
 refine .st (v:=(iA (wr .i64 (andI .u64 a0 1)))) (aConvert_int (hs:=by kernel_rfl) (hd:=by kernel_rfl) ..) ?_
 refine .s (iA (wr .i64 (0 - (wr .i64 (andI .u64 a0 1))))) ?_
 refine .st (aBin_bits_xor ..) ?_
 exact .lv rfl
def G102 (a0:Int):Option Int:=F102 fuel0 a0
def Orc102 (C:Nat->List A->Option A):Prop:=∀ (a0:Int),C 102 [(A.v (.int .u64 a0))]=(G102 a0).map fun y=>(iA y)
def hk82w_1:Blk:=Blk.box [(iA 0),(iA 0),(A.v (Value.string ByteArray.empty)),(A.imm [] true)]
def hk82w_2 (y4:UInt8):Blk:=Blk.box [(iA (wr .i64 ((y4.toNat:Int)))),(iA 0),(A.v (Value.string ByteArray.empty)),(A.imm [] true)]
def HS82 (C:Nat->List A->Option A) (N:Nat) (self:(List UInt8)->Int->Option (Bool×S_Value×(List UInt8))):Prop:=∀ (a2:(List UInt8)) (a3:Int) (X:Heap),J (fun (o:R) (y:(Bool×S_Value×(List UInt8)))=>o=((bif y.1 then Out.ret (A.agg [(iA y.2.1.Kind),(iA y.2.1.N),(A.v (Value.string y.2.1.S)),(A.imm (List.map c_S_Value y.2.1.L) false)]) else Out.pan (A.ifc 31 (iA 10))),[hk82w_1,Blk.box [(iA 0)],Blk.box [(A.imm (List.map c8 y.2.2) false)]]++X)) (evCall (cx C) N 82 [(A.ptr 2 0),(iA a3)] ([hk82w_1,Blk.box [(iA 0)],Blk.box [(A.imm (List.map c8 a2) false)]]++X) 0) some (self a2 a3) some
def F82w_103_0 (self:(List UInt8)->Int->Option (Bool×S_Value×(List UInt8))) (n:Nat) (v9:Int) (v10:Int) (v11:ByteArray):Nat->Int->Int->(List UInt8)->Option (((List UInt8))⊕(Int×(List UInt8)))
 | 0,_,_,_=>none
 | m+1,v6,v7,v8=>bif (!(decide (1<=((v8.length:Int))))) then (some ((Sum.inl v8))) else ((subI v8 0 1).bind fun y13=>(subI v8 1 ((v8.length:Int))).bind fun y14=>(getI y13 0).bind fun y15=>(bif (v7==0) then (some true) else (some (((y15.toNat:Int)) != 0))).bind fun y17=>(bif y17 then ((bif (decide (v7<9)) then (some true) else (some (decide (((y15.toNat:Int))<=1)))).bind fun y22=>some y22) else (some false)).bind fun y25=>bif (!y25) then (some ((Sum.inl y14))) else (bif decide (0<=(wr .i64 (7*v7))) then (bif (decide (((y15.toNat:Int))<128)) then (some ((Sum.inr ((orI .u64 v6 (shlI .u64 (wr .u64 (andI .u8 ((y15.toNat:Int)) 127)) (wr .i64 (7*v7))),y14))))) else (F82w_103_0 self n v9 v10 v11 m (orI .u64 v6 (shlI .u64 (wr .u64 (andI .u8 ((y15.toNat:Int)) 127)) (wr .i64 (7*v7)))) (wr .i64 (v7+1)) y14)) else none))
theorem T82w_103_0 (C:Nat->List A->Option A) (n:Nat) (h102:Orc102 C) (self:(List UInt8)->Int->Option (Bool×S_Value×(List UInt8))) (hS:HS82 C (n+8) self) (v9:Int) (v10:Int) (v11:ByteArray) {ρ γ:Type} {φ:ρ->γ->Prop} {kL:R->Option ρ} {K:(((List UInt8))⊕(Int×(List UInt8)))->Option γ} (kx kg:Nat->St->Option R) (kr:St->Option R) (kp:A->St->Option R) (x0:∀ (o0:(List UInt8)) (s0:A) (s2:A) (s3:A),J φ (kp (A.ifc 31 (iA 10)) (St.mk [(0,s0),(2,s2),(3,s3)] [hk82w_1,Blk.box [(iA 0)],Blk.box [(A.imm (List.map c8 o0) false)],Blk.box [(iA v9),(iA v10),(A.v (Value.string v11)),(A.imm [] true)]])) kL (K (Sum.inl o0)) some) (x1:∀ (o0:Int) (o1:(List UInt8)) (s0:A) (s3:A),J φ (kr (St.mk [(0,s0),(2,(A.v (.int .u64 o0))),(3,s3)] [hk82w_1,Blk.box [(iA 0)],Blk.box [(A.imm (List.map c8 o1) false)],Blk.box [(iA v9),(iA v10),(A.v (Value.string v11)),(A.imm [] true)]])) kL (K (Sum.inr ((o0,o1)))) some) :
  ∀ (m:Nat) (v6:Int) (v7:Int) (v8:(List UInt8)),J φ (loopR (cx C) (ec C n 7) (ey C n 7) (n+7) 103 0 0 4 kx kg kr kp m (St.mk [(0,(A.ptr 2 0)),(2,(A.v (.int .u64 v6))),(3,(iA v7))] [hk82w_1,Blk.box [(iA 0)],Blk.box [(A.imm (List.map c8 v8) false)],Blk.box [(iA v9),(iA v10),(A.v (Value.string v11)),(A.imm [] true)]])) kL (F82w_103_0 self n v9 v10 v11 m v6 v7 v8) K:=by
 intro m
 induction m with
 | zero=>intros; exact .nn
 | succ m ih =>
  intro v6 v7 v8
  refine .lp (e103_0 ..) ?_
  unfold F82w_103_0
  refine .cl ((evCall_in lt_101).trans (e101 C (evCall (cx C) (n+6)) (evCallY (cx C) (n+6)) (n+6) _ _ _ _)) ?_
  refine .s (A.ptr 2 0) (.s (A.ptr 2 0) (.s (A.imm (List.map c8 v8) false) ?_))
  refine .st (len_imm (e:=5) (h1:=by kernel_rfl) ..) ?_
  refine .st (aBin_leq ..) ?_
  refine .cl ((evCall_in lt_83).trans (e83 C (evCall (cx C) (n+5)) (evCallY (cx C) (n+5)) (n+5) _ _ _ _)) ?_
  refine .s (bA (!(decide (1<=((v8.length:Int)))))) ?_
  refine .biHN (fun hk12=>?_) (fun hk12=>?_)
  ·refine .s (A.ifc 31 (iA 10)) ?_
   refine .pk ?_
   refine .cr ?_
   refine .okP ?_
   refine .cr ?_
   refine .okP ?_
   exact .ex (x0 _ _ _ _)
  refine .cr ?_
  refine .ok ?_
  refine .s (A.ptr 2 0) (.s (A.ptr 2 0) (.s (A.imm (List.map c8 v8) false) ?_))
  refine .bd (g:=fun (y:List UInt8)=>(A.imm (List.map c8 y) true)) (cut_imm3 (e:=5) (es:=1) (f:=c8) (l:=v8) (a:=0) (b:=1) (by kernel_rfl) (by kernel_rfl) (fun _=>rfl) (.inl ⟨rfl,rfl⟩)) fun y13=>?_
  refine .s (A.ptr 2 0) (.s (A.ptr 2 0) (.s (A.imm (List.map c8 v8) false) ?_))
  refine .bd (g:=fun (y:List UInt8)=>(A.imm (List.map c8 y) false)) (cut_imm (e:=5) (es:=1) (f:=c8) (l:=v8) (a:=1) (b:=(v8.length:Int)) (by kernel_rfl) (by kernel_rfl) (fun _=>rfl) (.inr ⟨_,rfl⟩) (.inl ⟨rfl,rfl⟩)) fun y14=>?_
  refine .s (A.ptr 2 0) (.s (A.ptr 2 0) (.s [hk82w_1,Blk.box [(iA 0)],Blk.box [(A.imm (List.map c8 y14) false)],Blk.box [(iA v9),(iA v10),(A.v (Value.string v11)),(A.imm [] true)]] ?_))
  refine .cr ?_
  refine .ok ?_
  refine .bd (g:=fun (y:UInt8)=>A.ip (c8 y)) (idx_imm (e:=5) (es:=1) (h1:=by kernel_rfl) (h2:=by kernel_rfl) (h3:=fun _=>rfl) ..) fun y15=>?_
  refine .s (uA ((y15.toNat:Int))) ?_
  refine .st (aBin_eql ..) ?_
  refine .bg (fun t (y:Bool)=>∃ j18 j19:A,t=[(bA y),j18,j19]) ?_ ?_
  ·refine .biH (fun hk16=>?_) (fun hk16=>?_)
   ·exact .lg ⟨_,_,rfl⟩
   refine .st (aBin_neq ..) ?_
   exact .lg ⟨_,_,rfl⟩
  rintro _ y17 ⟨j18,j19,rfl⟩
  iterate 3 refine .uc ?_
  refine .bg (fun t (y:Bool)=>∃ j26 j27 j28 j29 j30 j31:A,t=[(bA y),j26,j27,j28,j29,j30,j31]) ?_ ?_
  ·refine .biH (fun hk20=>?_) (fun hk20=>?_)
   ·refine .st (aBin_lss ..) ?_
    refine .bg (fun t (y:Bool)=>∃ j23 j24:A,t=[(bA y),j23,j24]) ?_ ?_
    ·refine .biH (fun hk21=>?_) (fun hk21=>?_)
     ·exact .lg ⟨_,_,rfl⟩
     refine .st (aBin_leq ..) ?_
     exact .lg ⟨_,_,rfl⟩
    rintro _ y22 ⟨j23,j24,rfl⟩
    iterate 3 refine .uc ?_
    exact .lg ⟨_,_,_,_,_,_,rfl⟩
   exact .lg ⟨_,_,_,_,_,_,rfl⟩
  rintro _ y25 ⟨j26,j27,j28,j29,j30,j31,rfl⟩
  iterate 7 refine .uc ?_
  refine .cl ((evCall_in lt_83).trans (e83 C (evCall (cx C) (n+6)) (evCallY (cx C) (n+6)) (n+6) _ _ _ _)) ?_
  refine .s (bA (!y25)) ?_
  refine .biHN (fun hk32=>?_) (fun hk32=>?_)
  ·refine .s (A.ifc 31 (iA 10)) ?_
   refine .pk ?_
   refine .cr ?_
   refine .okP ?_
   exact .ex (x0 _ _ _ _)
  refine .cr ?_
  refine .ok ?_
  refine .st (aBin_bits_and ..) ?_
  refine .st (v:=(A.v (.int .u64 (wr .u64 (andI .u8 ((y15.toNat:Int)) 127))))) (aConvert_int (hs:=by kernel_rfl) (hd:=by kernel_rfl) ..) ?_
  refine .st (aBin_mul ..) ?_
  refine .gd fun hg=>?_
  refine .st (aBin_shl (hb:=of_decide_eq_true hg) ..) ?_
  refine .st (aBin_bits_or ..) ?_
  refine .st (aBin_lss ..) ?_
  refine .biHN (fun hk33=>?_) (fun hk33=>?_)
  ·exact .ex (x1 _ _ _ _)
  refine .st (aBin_add ..) ?_
  refine .s [hk82w_1,Blk.box [(iA 0)],Blk.box [(A.imm (List.map c8 y14) false)],Blk.box [(iA v9),(iA v10),(A.v (Value.string v11)),(A.imm [] true)]] ?_
  refine .cT (by kernel_rfl) ?_
  exact ih _ _ _
def F82w_103_0a (self:(List UInt8)->Int->Option (Bool×S_Value×(List UInt8))) (n:Nat) (v48:Int) (v49:Int) (v50:ByteArray):Nat->Int->Int->(List UInt8)->Option (((List UInt8))⊕(Int×(List UInt8)))
 | 0,_,_,_=>none
 | m+1,v45,v46,v47=>bif (!(decide (1<=((v47.length:Int))))) then (some ((Sum.inl v47))) else ((subI v47 0 1).bind fun y52=>(subI v47 1 ((v47.length:Int))).bind fun y53=>(getI y52 0).bind fun y54=>(bif (v46==0) then (some true) else (some (((y54.toNat:Int)) != 0))).bind fun y56=>(bif y56 then ((bif (decide (v46<9)) then (some true) else (some (decide (((y54.toNat:Int))<=1)))).bind fun y61=>some y61) else (some false)).bind fun y64=>bif (!y64) then (some ((Sum.inl y53))) else (bif decide (0<=(wr .i64 (7*v46))) then (bif (decide (((y54.toNat:Int))<128)) then (some ((Sum.inr ((orI .u64 v45 (shlI .u64 (wr .u64 (andI .u8 ((y54.toNat:Int)) 127)) (wr .i64 (7*v46))),y53))))) else (F82w_103_0a self n v48 v49 v50 m (orI .u64 v45 (shlI .u64 (wr .u64 (andI .u8 ((y54.toNat:Int)) 127)) (wr .i64 (7*v46)))) (wr .i64 (v46+1)) y53)) else none))
theorem T82w_103_0a (C:Nat->List A->Option A) (n:Nat) (h102:Orc102 C) (self:(List UInt8)->Int->Option (Bool×S_Value×(List UInt8))) (hS:HS82 C (n+8) self) (v48:Int) (v49:Int) (v50:ByteArray) {ρ γ:Type} {φ:ρ->γ->Prop} {kL:R->Option ρ} {K:(((List UInt8))⊕(Int×(List UInt8)))->Option γ} (kx kg:Nat->St->Option R) (kr:St->Option R) (kp:A->St->Option R) (x0:∀ (o0:(List UInt8)) (s0:A) (s2:A) (s3:A),J φ (kp (A.ifc 31 (iA 10)) (St.mk [(0,s0),(2,s2),(3,s3)] [hk82w_1,Blk.box [(iA 0)],Blk.box [(A.imm (List.map c8 o0) false)],Blk.box [(iA v48),(iA v49),(A.v (Value.string v50)),(A.imm [] true)]])) kL (K (Sum.inl o0)) some) (x1:∀ (o0:Int) (o1:(List UInt8)) (s0:A) (s3:A),J φ (kr (St.mk [(0,s0),(2,(A.v (.int .u64 o0))),(3,s3)] [hk82w_1,Blk.box [(iA 0)],Blk.box [(A.imm (List.map c8 o1) false)],Blk.box [(iA v48),(iA v49),(A.v (Value.string v50)),(A.imm [] true)]])) kL (K (Sum.inr ((o0,o1)))) some) :
  ∀ (m:Nat) (v45:Int) (v46:Int) (v47:(List UInt8)),J φ (loopR (cx C) (evCall (cx C) (n+6)) (evCallY (cx C) (n+6)) (n+6) 103 0 0 4 kx kg kr kp m (St.mk [(0,(A.ptr 2 0)),(2,(A.v (.int .u64 v45))),(3,(iA v46))] [hk82w_1,Blk.box [(iA 0)],Blk.box [(A.imm (List.map c8 v47) false)],Blk.box [(iA v48),(iA v49),(A.v (Value.string v50)),(A.imm [] true)]])) kL (F82w_103_0a self n v48 v49 v50 m v45 v46 v47) K:=by
 intro m
 induction m with
 | zero=>intros; exact .nn
 | succ m ih =>
  intro v45 v46 v47
  refine .lp (e103_0 ..) ?_
  unfold F82w_103_0a
  refine .cl ((evCall_in lt_101).trans (e101 C (evCall (cx C) (n+5)) (evCallY (cx C) (n+5)) (n+5) _ _ _ _)) ?_
  refine .s (A.ptr 2 0) (.s (A.ptr 2 0) (.s (A.imm (List.map c8 v47) false) ?_))
  refine .st (len_imm (e:=5) (h1:=by kernel_rfl) ..) ?_
  refine .st (aBin_leq ..) ?_
  refine .cl ((evCall_in lt_83).trans (e83 C (evCall (cx C) (n+4)) (evCallY (cx C) (n+4)) (n+4) _ _ _ _)) ?_
  refine .s (bA (!(decide (1<=((v47.length:Int)))))) ?_
  refine .biHN (fun hk51=>?_) (fun hk51=>?_)
  ·refine .s (A.ifc 31 (iA 10)) ?_
   refine .pk ?_
   refine .cr ?_
   refine .okP ?_
   refine .cr ?_
   refine .okP ?_
   exact .ex (x0 _ _ _ _)
  refine .cr ?_
  refine .ok ?_
  refine .s (A.ptr 2 0) (.s (A.ptr 2 0) (.s (A.imm (List.map c8 v47) false) ?_))
  refine .bd (g:=fun (y:List UInt8)=>(A.imm (List.map c8 y) true)) (cut_imm3 (e:=5) (es:=1) (f:=c8) (l:=v47) (a:=0) (b:=1) (by kernel_rfl) (by kernel_rfl) (fun _=>rfl) (.inl ⟨rfl,rfl⟩)) fun y52=>?_
  refine .s (A.ptr 2 0) (.s (A.ptr 2 0) (.s (A.imm (List.map c8 v47) false) ?_))
  refine .bd (g:=fun (y:List UInt8)=>(A.imm (List.map c8 y) false)) (cut_imm (e:=5) (es:=1) (f:=c8) (l:=v47) (a:=1) (b:=(v47.length:Int)) (by kernel_rfl) (by kernel_rfl) (fun _=>rfl) (.inr ⟨_,rfl⟩) (.inl ⟨rfl,rfl⟩)) fun y53=>?_
  refine .s (A.ptr 2 0) (.s (A.ptr 2 0) (.s [hk82w_1,Blk.box [(iA 0)],Blk.box [(A.imm (List.map c8 y53) false)],Blk.box [(iA v48),(iA v49),(A.v (Value.string v50)),(A.imm [] true)]] ?_))
  refine .cr ?_
  refine .ok ?_
  refine .bd (g:=fun (y:UInt8)=>A.ip (c8 y)) (idx_imm (e:=5) (es:=1) (h1:=by kernel_rfl) (h2:=by kernel_rfl) (h3:=fun _=>rfl) ..) fun y54=>?_
  refine .s (uA ((y54.toNat:Int))) ?_
  refine .st (aBin_eql ..) ?_
  refine .bg (fun t (y:Bool)=>∃ j57 j58:A,t=[(bA y),j57,j58]) ?_ ?_
  ·refine .biH (fun hk55=>?_) (fun hk55=>?_)
   ·exact .lg ⟨_,_,rfl⟩
   refine .st (aBin_neq ..) ?_
   exact .lg ⟨_,_,rfl⟩
  rintro _ y56 ⟨j57,j58,rfl⟩
  iterate 3 refine .uc ?_
  refine .bg (fun t (y:Bool)=>∃ j65 j66 j67 j68 j69 j70:A,t=[(bA y),j65,j66,j67,j68,j69,j70]) ?_ ?_
  ·refine .biH (fun hk59=>?_) (fun hk59=>?_)
   ·refine .st (aBin_lss ..) ?_
    refine .bg (fun t (y:Bool)=>∃ j62 j63:A,t=[(bA y),j62,j63]) ?_ ?_
    ·refine .biH (fun hk60=>?_) (fun hk60=>?_)
     ·exact .lg ⟨_,_,rfl⟩
     refine .st (aBin_leq ..) ?_
     exact .lg ⟨_,_,rfl⟩
    rintro _ y61 ⟨j62,j63,rfl⟩
    iterate 3 refine .uc ?_
    exact .lg ⟨_,_,_,_,_,_,rfl⟩
   exact .lg ⟨_,_,_,_,_,_,rfl⟩
  rintro _ y64 ⟨j65,j66,j67,j68,j69,j70,rfl⟩
  iterate 7 refine .uc ?_
  refine .cl ((evCall_in lt_83).trans (e83 C (evCall (cx C) (n+5)) (evCallY (cx C) (n+5)) (n+5) _ _ _ _)) ?_
  refine .s (bA (!y64)) ?_
  refine .biHN (fun hk71=>?_) (fun hk71=>?_)
  ·refine .s (A.ifc 31 (iA 10)) ?_
   refine .pk ?_
   refine .cr ?_
   refine .okP ?_
   exact .ex (x0 _ _ _ _)
  refine .cr ?_
  refine .ok ?_
  refine .st (aBin_bits_and ..) ?_
  refine .st (v:=(A.v (.int .u64 (wr .u64 (andI .u8 ((y54.toNat:Int)) 127))))) (aConvert_int (hs:=by kernel_rfl) (hd:=by kernel_rfl) ..) ?_
  refine .st (aBin_mul ..) ?_
  refine .gd fun hg=>?_
  refine .st (aBin_shl (hb:=of_decide_eq_true hg) ..) ?_
  refine .st (aBin_bits_or ..) ?_
  refine .st (aBin_lss ..) ?_
  refine .biHN (fun hk72=>?_) (fun hk72=>?_)
  ·exact .ex (x1 _ _ _ _)
  refine .st (aBin_add ..) ?_
  refine .s [hk82w_1,Blk.box [(iA 0)],Blk.box [(A.imm (List.map c8 y53) false)],Blk.box [(iA v48),(iA v49),(A.v (Value.string v50)),(A.imm [] true)]] ?_
  refine .cT (by kernel_rfl) ?_
  exact ih _ _ _
def F82w_103_0b (self:(List UInt8)->Int->Option (Bool×S_Value×(List UInt8))) (n:Nat) (v91:Int) (v92:Int) (v93:ByteArray):Nat->Int->Int->(List UInt8)->Option (((List UInt8))⊕(Int×(List UInt8)))
 | 0,_,_,_=>none
 | m+1,v88,v89,v90=>bif (!(decide (1<=((v90.length:Int))))) then (some ((Sum.inl v90))) else ((subI v90 0 1).bind fun y95=>(subI v90 1 ((v90.length:Int))).bind fun y96=>(getI y95 0).bind fun y97=>(bif (v89==0) then (some true) else (some (((y97.toNat:Int)) != 0))).bind fun y99=>(bif y99 then ((bif (decide (v89<9)) then (some true) else (some (decide (((y97.toNat:Int))<=1)))).bind fun y104=>some y104) else (some false)).bind fun y107=>bif (!y107) then (some ((Sum.inl y96))) else (bif decide (0<=(wr .i64 (7*v89))) then (bif (decide (((y97.toNat:Int))<128)) then (some ((Sum.inr ((orI .u64 v88 (shlI .u64 (wr .u64 (andI .u8 ((y97.toNat:Int)) 127)) (wr .i64 (7*v89))),y96))))) else (F82w_103_0b self n v91 v92 v93 m (orI .u64 v88 (shlI .u64 (wr .u64 (andI .u8 ((y97.toNat:Int)) 127)) (wr .i64 (7*v89)))) (wr .i64 (v89+1)) y96)) else none))
theorem T82w_103_0b (C:Nat->List A->Option A) (n:Nat) (h102:Orc102 C) (self:(List UInt8)->Int->Option (Bool×S_Value×(List UInt8))) (hS:HS82 C (n+8) self) (v91:Int) (v92:Int) (v93:ByteArray) {ρ γ:Type} {φ:ρ->γ->Prop} {kL:R->Option ρ} {K:(((List UInt8))⊕(Int×(List UInt8)))->Option γ} (kx kg:Nat->St->Option R) (kr:St->Option R) (kp:A->St->Option R) (x0:∀ (o0:(List UInt8)) (s0:A) (s2:A) (s3:A),J φ (kp (A.ifc 31 (iA 10)) (St.mk [(0,s0),(2,s2),(3,s3)] [hk82w_1,Blk.box [(iA 0)],Blk.box [(A.imm (List.map c8 o0) false)],Blk.box [(iA v91),(iA v92),(A.v (Value.string v93)),(A.imm [] true)]])) kL (K (Sum.inl o0)) some) (x1:∀ (o0:Int) (o1:(List UInt8)) (s0:A) (s3:A),J φ (kr (St.mk [(0,s0),(2,(A.v (.int .u64 o0))),(3,s3)] [hk82w_1,Blk.box [(iA 0)],Blk.box [(A.imm (List.map c8 o1) false)],Blk.box [(iA v91),(iA v92),(A.v (Value.string v93)),(A.imm [] true)]])) kL (K (Sum.inr ((o0,o1)))) some) :
  ∀ (m:Nat) (v88:Int) (v89:Int) (v90:(List UInt8)),J φ (loopR (cx C) (evCall (cx C) (n+6)) (evCallY (cx C) (n+6)) (n+6) 103 0 0 4 kx kg kr kp m (St.mk [(0,(A.ptr 2 0)),(2,(A.v (.int .u64 v88))),(3,(iA v89))] [hk82w_1,Blk.box [(iA 0)],Blk.box [(A.imm (List.map c8 v90) false)],Blk.box [(iA v91),(iA v92),(A.v (Value.string v93)),(A.imm [] true)]])) kL (F82w_103_0b self n v91 v92 v93 m v88 v89 v90) K:=by
 intro m
 induction m with
 | zero=>intros; exact .nn
 | succ m ih =>
  intro v88 v89 v90
  refine .lp (e103_0 ..) ?_
  unfold F82w_103_0b
  refine .cl ((evCall_in lt_101).trans (e101 C (evCall (cx C) (n+5)) (evCallY (cx C) (n+5)) (n+5) _ _ _ _)) ?_
  refine .s (A.ptr 2 0) (.s (A.ptr 2 0) (.s (A.imm (List.map c8 v90) false) ?_))
  refine .st (len_imm (e:=5) (h1:=by kernel_rfl) ..) ?_
  refine .st (aBin_leq ..) ?_
  refine .cl ((evCall_in lt_83).trans (e83 C (evCall (cx C) (n+4)) (evCallY (cx C) (n+4)) (n+4) _ _ _ _)) ?_
  refine .s (bA (!(decide (1<=((v90.length:Int)))))) ?_
  refine .biHN (fun hk94=>?_) (fun hk94=>?_)
  ·refine .s (A.ifc 31 (iA 10)) ?_
   refine .pk ?_
   refine .cr ?_
   refine .okP ?_
   refine .cr ?_
   refine .okP ?_
   exact .ex (x0 _ _ _ _)
  refine .cr ?_
  refine .ok ?_
  refine .s (A.ptr 2 0) (.s (A.ptr 2 0) (.s (A.imm (List.map c8 v90) false) ?_))
  refine .bd (g:=fun (y:List UInt8)=>(A.imm (List.map c8 y) true)) (cut_imm3 (e:=5) (es:=1) (f:=c8) (l:=v90) (a:=0) (b:=1) (by kernel_rfl) (by kernel_rfl) (fun _=>rfl) (.inl ⟨rfl,rfl⟩)) fun y95=>?_
  refine .s (A.ptr 2 0) (.s (A.ptr 2 0) (.s (A.imm (List.map c8 v90) false) ?_))
  refine .bd (g:=fun (y:List UInt8)=>(A.imm (List.map c8 y) false)) (cut_imm (e:=5) (es:=1) (f:=c8) (l:=v90) (a:=1) (b:=(v90.length:Int)) (by kernel_rfl) (by kernel_rfl) (fun _=>rfl) (.inr ⟨_,rfl⟩) (.inl ⟨rfl,rfl⟩)) fun y96=>?_
  refine .s (A.ptr 2 0) (.s (A.ptr 2 0) (.s [hk82w_1,Blk.box [(iA 0)],Blk.box [(A.imm (List.map c8 y96) false)],Blk.box [(iA v91),(iA v92),(A.v (Value.string v93)),(A.imm [] true)]] ?_))
  refine .cr ?_
  refine .ok ?_
  refine .bd (g:=fun (y:UInt8)=>A.ip (c8 y)) (idx_imm (e:=5) (es:=1) (h1:=by kernel_rfl) (h2:=by kernel_rfl) (h3:=fun _=>rfl) ..) fun y97=>?_
  refine .s (uA ((y97.toNat:Int))) ?_
  refine .st (aBin_eql ..) ?_
  refine .bg (fun t (y:Bool)=>∃ j100 j101:A,t=[(bA y),j100,j101]) ?_ ?_
  ·refine .biH (fun hk98=>?_) (fun hk98=>?_)
   ·exact .lg ⟨_,_,rfl⟩
   refine .st (aBin_neq ..) ?_
   exact .lg ⟨_,_,rfl⟩
  rintro _ y99 ⟨j100,j101,rfl⟩
  iterate 3 refine .uc ?_
  refine .bg (fun t (y:Bool)=>∃ j108 j109 j110 j111 j112 j113:A,t=[(bA y),j108,j109,j110,j111,j112,j113]) ?_ ?_
  ·refine .biH (fun hk102=>?_) (fun hk102=>?_)
   ·refine .st (aBin_lss ..) ?_
    refine .bg (fun t (y:Bool)=>∃ j105 j106:A,t=[(bA y),j105,j106]) ?_ ?_
    ·refine .biH (fun hk103=>?_) (fun hk103=>?_)
     ·exact .lg ⟨_,_,rfl⟩
     refine .st (aBin_leq ..) ?_
     exact .lg ⟨_,_,rfl⟩
    rintro _ y104 ⟨j105,j106,rfl⟩
    iterate 3 refine .uc ?_
    exact .lg ⟨_,_,_,_,_,_,rfl⟩
   exact .lg ⟨_,_,_,_,_,_,rfl⟩
  rintro _ y107 ⟨j108,j109,j110,j111,j112,j113,rfl⟩
  iterate 7 refine .uc ?_
  refine .cl ((evCall_in lt_83).trans (e83 C (evCall (cx C) (n+5)) (evCallY (cx C) (n+5)) (n+5) _ _ _ _)) ?_
  refine .s (bA (!y107)) ?_
  refine .biHN (fun hk114=>?_) (fun hk114=>?_)
  ·refine .s (A.ifc 31 (iA 10)) ?_
   refine .pk ?_
   refine .cr ?_
   refine .okP ?_
   exact .ex (x0 _ _ _ _)
  refine .cr ?_
  refine .ok ?_
  refine .st (aBin_bits_and ..) ?_
  refine .st (v:=(A.v (.int .u64 (wr .u64 (andI .u8 ((y97.toNat:Int)) 127))))) (aConvert_int (hs:=by kernel_rfl) (hd:=by kernel_rfl) ..) ?_
  refine .st (aBin_mul ..) ?_
  refine .gd fun hg=>?_
  refine .st (aBin_shl (hb:=of_decide_eq_true hg) ..) ?_
  refine .st (aBin_bits_or ..) ?_
  refine .st (aBin_lss ..) ?_
  refine .biHN (fun hk115=>?_) (fun hk115=>?_)
  ·exact .ex (x1 _ _ _ _)
  refine .st (aBin_add ..) ?_
  refine .s [hk82w_1,Blk.box [(iA 0)],Blk.box [(A.imm (List.map c8 y96) false)],Blk.box [(iA v91),(iA v92),(A.v (Value.string v93)),(A.imm [] true)]] ?_
  refine .cT (by kernel_rfl) ?_
  exact ih _ _ _
def F82w_82_0 (self:(List UInt8)->Int->Option (Bool×S_Value×(List UInt8))) (n:Nat) (v126:Int) (v127:Int) (v130:Int) (v131:Int) (v132:ByteArray):Nat->Int->(List UInt8)->(List S_Value)->Option (((List UInt8)×(List S_Value))⊕((List UInt8)×(List S_Value)))
 | 0,_,_,_=>none
 | m+1,v128,v129,v133=>bif (decide (v128<v127)) then ((self v129 (wr .i64 (v126+1))).bind fun y135=>bif y135.1 then ((appI 56 v133 ([y135.2.1])).bind fun y136=>F82w_82_0 self n v126 v127 v130 v131 v132 m (wr .i64 (v128+1)) y135.2.2 y136) else (some ((Sum.inl ((y135.2.2,v133)))))) else (some ((Sum.inr ((v129,v133)))))
theorem T82w_82_0 (C:Nat->List A->Option A) (n:Nat) (h102:Orc102 C) (self:(List UInt8)->Int->Option (Bool×S_Value×(List UInt8))) (hS:HS82 C (n+8) self) (v126:Int) (v127:Int) (v130:Int) (v131:Int) (v132:ByteArray) {ρ γ:Type} {φ:ρ->γ->Prop} {kL:R->Option ρ} {K:(((List UInt8)×(List S_Value))⊕((List UInt8)×(List S_Value)))->Option γ} (kx kg:Nat->St->Option R) (kr:St->Option R) (kp:A->St->Option R) (x0:∀ (o0:(List UInt8)) (o1:(List S_Value)) (s0:A) (s1:A) (s4:A) (s36:A) (s37:A),J φ (kp (A.ifc 31 (iA 10)) (St.mk [(0,s0),(1,s1),(4,s4),(36,s36),(37,s37)] [hk82w_1,Blk.box [(iA 0)],Blk.box [(A.imm (List.map c8 o0) false)],Blk.box [(iA v130),(iA v131),(A.v (Value.string v132)),(A.sl 4 0 o1.length false)],Blk.row false 4 (List.map c_S_Value o1)])) kL (K (Sum.inl ((o0,o1)))) some) (x1:∀ (o0:(List UInt8)) (o1:(List S_Value)) (s0:A) (s1:A) (s36:A) (s37:A),J φ (kx 1 (St.mk [(0,s0),(1,s1),(4,(A.ptr 3 0)),(36,s36),(37,s37)] [hk82w_1,Blk.box [(iA 0)],Blk.box [(A.imm (List.map c8 o0) false)],Blk.box [(iA v130),(iA v131),(A.v (Value.string v132)),(A.sl 4 0 o1.length false)],Blk.row false 4 (List.map c_S_Value o1)])) kL (K (Sum.inr ((o0,o1)))) some) :
  ∀ (m:Nat) (v128:Int) (v129:(List UInt8)) (v133:(List S_Value)),J φ (loopR (cx C) (ec C n 8) (ey C n 8) (n+8) 82 0 0 5 kx kg kr kp m (St.mk [(0,(A.ptr 2 0)),(1,(iA v126)),(4,(A.ptr 3 0)),(36,(iA v127)),(37,(iA v128))] [hk82w_1,Blk.box [(iA 0)],Blk.box [(A.imm (List.map c8 v129) false)],Blk.box [(iA v130),(iA v131),(A.v (Value.string v132)),(A.sl 4 0 v133.length false)],Blk.row false 4 (List.map c_S_Value v133)])) kL (F82w_82_0 self n v126 v127 v130 v131 v132 m v128 v129 v133) K:=by
 intro m
 induction m with
 | zero=>intros; exact .nn
 | succ m ih =>
  intro v128 v129 v133
  refine .lp (e82_0 ..) ?_
  unfold F82w_82_0
  refine .st (aBin_lss ..) ?_
  refine .biHN (fun hk134=>?_) (fun hk134=>?_)
  ·refine .s (A.ptr 3 3) (.s (A.sl 4 0 v133.length false) ?_)
   refine .st (aBin_add ..) ?_
   refine .cT (by kernel_rfl) ?_
   refine .bg (fun (t:Out×Heap) (y:(Bool×S_Value×(List UInt8)))=>t=((bif y.1 then Out.ret (A.agg [(iA y.2.1.Kind),(iA y.2.1.N),(A.v (Value.string y.2.1.S)),(A.imm (List.map c_S_Value y.2.1.L) false)]) else Out.pan (A.ifc 31 (iA 10))),[hk82w_1,Blk.box [(iA 0)],Blk.box [(A.imm (List.map c8 y.2.2) false)],Blk.box [(iA v130),(iA v131),(A.v (Value.string v132)),(A.sl 4 0 v133.length false)],Blk.row false 4 (List.map c_S_Value v133)])) (hS v129 (wr .i64 (v126+1)) [Blk.box [(iA v130),(iA v131),(A.v (Value.string v132)),(A.sl 4 0 v133.length false)],Blk.row false 4 (List.map c_S_Value v133)]) ?_
   rintro _ y135 rfl
   refine .ob ?_ ?_
   ·refine .ok ?_
    refine .s (A.imm [[(iA y135.2.1.Kind),(iA y135.2.1.N),(A.v (Value.string y135.2.1.S)),(A.imm (List.map c_S_Value y135.2.1.L) false)]] true) ?_
    refine .bd (g:=fun (y:List S_Value)=>((A.sl 4 0 y.length false),[hk82w_1,Blk.box [(iA 0)],Blk.box [(A.imm (List.map c8 y135.2.2) false)],Blk.box [(iA v130),(iA v131),(A.v (Value.string v132)),(A.sl 4 0 v133.length false)],Blk.row false 4 (List.map c_S_Value y)])) (app_row (e:=98) (es:=4) (by_:=56) (z:=[(iA 0),(iA 0),(A.v (Value.string ByteArray.empty)),(A.imm [] true)]) (by kernel_rfl) (by kernel_rfl) (by kernel_rfl) (by kernel_rfl) rfl (by decide) (by decide) (by kernel_rfl) (f:=c_S_Value) (fun _=>rfl) ce_S_Value (l:=v133) (l2:=[y135.2.1]) (b:=4) rfl (by decide) (els_lit (f:=c_S_Value) (l:=([y135.2.1]:List S_Value)) (by simp only[List.map_cons,List.map_nil,cq_S_Value]))) fun y136=>?_
    refine .s (A.ptr 3 3) (.sh ?_)
    refine .st (aBin_add ..) ?_
    refine .s [hk82w_1,Blk.box [(iA 0)],Blk.box [(A.imm (List.map c8 y135.2.2) false)],Blk.box [(iA v130),(iA v131),(A.v (Value.string v132)),(A.sl 4 0 y136.length false)],Blk.row false 4 (List.map c_S_Value y136)] ?_
    refine .cT (by kernel_rfl) ?_
    exact ih _ _ _
   refine .okP ?_
   exact .ex (x0 _ _ _ _ _ _ _)
  exact .ex (x1 _ _ _ _ _ _)
def F82w (self:(List UInt8)->Int->Option (Bool×S_Value×(List UInt8))) (n:Nat) (a2:(List UInt8)) (a3:Int):Option (Bool×S_Value×(List UInt8)) :=
 bif (!(decide (1<=((a2.length:Int))))) then (some ((false,(default:S_Value),a2))) else ((subI a2 0 1).bind fun y2=>(subI a2 1 ((a2.length:Int))).bind fun y3=>(getI y2 0).bind fun y4=>bif ((wr .i64 ((y4.toNat:Int)))==1) then ((F82w_103_0 self n (wr .i64 ((y4.toNat:Int))) 0 ByteArray.empty (n+7) 0 0 y3).bind fun o34=>match o34 with | (Sum.inl y35)=>some ((false,(default:S_Value),y35)) | (Sum.inr ((y39,y40)))=>(G102 y39).bind fun y43=>some ((true,(S_Value.mk (wr .i64 ((y4.toNat:Int))) y43 ByteArray.empty ([])),y40))) else (bif ((wr .i64 ((y4.toNat:Int)))==2) then ((F82w_103_0a self n (wr .i64 ((y4.toNat:Int))) 0 ByteArray.empty (n+6) 0 0 y3).bind fun o73=>match o73 with | (Sum.inl y74)=>some ((false,(default:S_Value),y74)) | (Sum.inr ((y78,y79)))=>bif (!(decide (y78<=(wr .u64 ((y79.length:Int)))))) then (some ((false,(default:S_Value),y79))) else (bif (!(decide ((wr .i64 (y78))<=((y79.length:Int))))) then (some ((false,(default:S_Value),y79))) else ((subI y79 0 (wr .i64 (y78))).bind fun y84=>(subI y79 (wr .i64 (y78)) ((y79.length:Int))).bind fun y85=>some ((true,(S_Value.mk (wr .i64 ((y4.toNat:Int))) 0 (bstr y84) ([])),y85))))) else (bif ((wr .i64 ((y4.toNat:Int)))==3) then (bif (!(decide (a3<16))) then (some ((false,(default:S_Value),y3))) else ((F82w_103_0b self n (wr .i64 ((y4.toNat:Int))) 0 ByteArray.empty (n+6) 0 0 y3).bind fun o116=>match o116 with | (Sum.inl y117)=>some ((false,(default:S_Value),y117)) | (Sum.inr ((y121,y122)))=>bif (!(decide (y121<=(wr .u64 ((y122.length:Int)))))) then (some ((false,(default:S_Value),y122))) else ((F82w_82_0 self n a3 (wr .i64 (y121)) (wr .i64 ((y4.toNat:Int))) 0 ByteArray.empty (n+8) 0 y122 (([]:List S_Value))).bind fun o137=>match o137 with | (Sum.inl ((y138,y139)))=>some ((false,(default:S_Value),y138)) | (Sum.inr ((y145,y146)))=>some ((true,(S_Value.mk (wr .i64 ((y4.toNat:Int))) 0 ByteArray.empty y146),y145))))) else (some ((false,(default:S_Value),y3))))))
theorem T82w (C:Nat->List A->Option A) (n:Nat) (h102:Orc102 C) (self:(List UInt8)->Int->Option (Bool×S_Value×(List UInt8))) (hS:HS82 C (n+8) self) (a2:(List UInt8)) (a3:Int):J (fun (o:R) (y:(Bool×S_Value×(List UInt8)))=>∃ Z,o=((bif y.1 then Out.ret (A.agg [(iA y.2.1.Kind),(iA y.2.1.N),(A.v (Value.string y.2.1.S)),(A.imm (List.map c_S_Value y.2.1.L) false)]) else Out.pan (A.ifc 31 (iA 10))),[hk82w_1,Blk.box [(iA 0)],Blk.box [(A.imm (List.map c8 y.2.2) false)]]++Z)) (evCall1 (cx C) (ec C n 8) (ey C n 8) (n+8) 82 [(A.ptr 2 0),(iA a3)] [hk82w_1,Blk.box [(iA 0)],Blk.box [(A.imm (List.map c8 a2) false)]] 0) some (F82w self n a2 a3) some:=by
 refine .lp (e82 ..) ?_
 unfold F82w
 refine .s ((A.ptr 3 0),[hk82w_1,Blk.box [(iA 0)],Blk.box [(A.imm (List.map c8 a2) false)],hk82w_1]) ?_
 refine .cl ((evCall_in lt_101).trans (e101 C (ec C n 7) (ey C n 7) (n+7) _ _ _ _)) ?_
 refine .s (A.ptr 2 0) (.s (A.ptr 2 0) (.s (A.imm (List.map c8 a2) false) ?_))
 refine .st (len_imm (e:=5) (h1:=by kernel_rfl) ..) ?_
 refine .st (aBin_leq ..) ?_
 refine .cl ((evCall_in lt_83).trans (e83 C (evCall (cx C) (n+6)) (evCallY (cx C) (n+6)) (n+6) _ _ _ _)) ?_
 refine .s (bA (!(decide (1<=((a2.length:Int)))))) ?_
 refine .biHN (fun hk1=>?_) (fun hk1=>?_)
 ·refine .s (A.ifc 31 (iA 10)) ?_
  refine .pk ?_
  refine .cr ?_
  refine .okP ?_
  refine .cr ?_
  refine .okP ?_
  exact .lf rfl rfl ⟨[hk82w_1],rfl⟩
 refine .cr ?_
 refine .ok ?_
 refine .s (A.ptr 2 0) (.s (A.ptr 2 0) (.s (A.imm (List.map c8 a2) false) ?_))
 refine .bd (g:=fun (y:List UInt8)=>(A.imm (List.map c8 y) true)) (cut_imm3 (e:=5) (es:=1) (f:=c8) (l:=a2) (a:=0) (b:=1) (by kernel_rfl) (by kernel_rfl) (fun _=>rfl) (.inl ⟨rfl,rfl⟩)) fun y2=>?_
 refine .s (A.ptr 2 0) (.s (A.ptr 2 0) (.s (A.imm (List.map c8 a2) false) ?_))
 refine .bd (g:=fun (y:List UInt8)=>(A.imm (List.map c8 y) false)) (cut_imm (e:=5) (es:=1) (f:=c8) (l:=a2) (a:=1) (b:=(a2.length:Int)) (by kernel_rfl) (by kernel_rfl) (fun _=>rfl) (.inr ⟨_,rfl⟩) (.inl ⟨rfl,rfl⟩)) fun y3=>?_
 refine .s (A.ptr 2 0) (.s (A.ptr 2 0) (.s [hk82w_1,Blk.box [(iA 0)],Blk.box [(A.imm (List.map c8 y3) false)],hk82w_1] ?_))
 refine .cr ?_
 refine .ok ?_
 refine .bd (g:=fun (y:UInt8)=>A.ip (c8 y)) (idx_imm (e:=5) (es:=1) (h1:=by kernel_rfl) (h2:=by kernel_rfl) (h3:=fun _=>rfl) ..) fun y4=>?_
 refine .s (uA ((y4.toNat:Int))) ?_
 refine .st (v:=(iA (wr .i64 ((y4.toNat:Int))))) (aConvert_int (hs:=by kernel_rfl) (hd:=by kernel_rfl) ..) ?_
 refine .s (A.ptr 3 0) (.s [hk82w_1,Blk.box [(iA 0)],Blk.box [(A.imm (List.map c8 y3) false)],(hk82w_2 y4)] (.s (A.ptr 3 0) (.s (iA (wr .i64 ((y4.toNat:Int)))) ?_)))
 refine .st (aBin_eql ..) ?_
 refine .biHN (fun hk5=>?_) (fun hk5=>?_)
 ·refine .cl ((evCall_in lt_103).trans (e103 C (ec C n 7) (ey C n 7) (n+7) _ _ _)) ?_
  refine .as (T82w_103_0 C n h102 self hS (wr .i64 ((y4.toNat:Int))) 0 ByteArray.empty _ _ _ _ ?_ ?_ _ 0 0 y3)
  ·intro y35 j36 j37 j38
   refine .un rfl ?_
   refine .cr ?_
   refine .okP ?_
   exact .lf rfl rfl ⟨[(hk82w_2 y4)],rfl⟩
  ·intro y39 y40 j41 j42
   refine .un rfl ?_
   refine .cr ?_
   refine .ok ?_
   refine .bd (g:=fun (y:Int)=>(iA y)) (h102 y39) fun y43=>?_
   refine .s (A.ptr 3 1) (.sh (.s (A.agg [(iA (wr .i64 ((y4.toNat:Int)))),(iA y43),(A.v (Value.string ByteArray.empty)),(A.imm [] true)]) (.s [hk82w_1,Blk.box [(iA 0)],Blk.box [(A.imm (List.map c8 y40) false)],Blk.box [(iA (wr .i64 ((y4.toNat:Int)))),(iA y43),(A.v (Value.string ByteArray.empty)),(A.imm [] true)]] (.s (A.agg [(iA (wr .i64 ((y4.toNat:Int)))),(iA y43),(A.v (Value.string ByteArray.empty)),(A.imm [] false)]) ?_))))
   exact .lf rfl rfl (actC_low (o:=Out.ret (A.agg [(iA (wr .i64 ((y4.toNat:Int)))),(iA y43),(A.v (Value.string ByteArray.empty)),(A.imm [] false)])) (lo:=0) (off:=3) (b:=3) (p:=0) (H2:=[hk82w_1,Blk.box [(iA 0)],Blk.box [(A.imm (List.map c8 y40) false)]]) (X:=[Blk.box [(iA (wr .i64 ((y4.toNat:Int)))),(iA y43),(A.v (Value.string ByteArray.empty)),(A.imm [] true)]]) (Nat.le_of_ble_eq_true rfl))
 refine .st (aBin_eql ..) ?_
 refine .biHN (fun hk44=>?_) (fun hk44=>?_)
 ·refine .cl ((evCall_in lt_104).trans (e104 C (ec C n 7) (ey C n 7) (n+7) _ _ _)) ?_
  refine .cl ((evCall_in lt_103).trans (e103 C (evCall (cx C) (n+6)) (evCallY (cx C) (n+6)) (n+6) _ _ _)) ?_
  refine .as (T82w_103_0a C n h102 self hS (wr .i64 ((y4.toNat:Int))) 0 ByteArray.empty _ _ _ _ ?_ ?_ _ 0 0 y3)
  ·intro y74 j75 j76 j77
   refine .un rfl ?_
   refine .cr ?_
   refine .okP ?_
   refine .cr ?_
   refine .okP ?_
   exact .lf rfl rfl ⟨[(hk82w_2 y4)],rfl⟩
  ·intro y78 y79 j80 j81
   refine .un rfl ?_
   refine .cr ?_
   refine .ok ?_
   refine .s (A.ptr 2 0) (.s (A.ptr 2 0) (.s (A.imm (List.map c8 y79) false) ?_))
   refine .st (len_imm (e:=5) (h1:=by kernel_rfl) ..) ?_
   refine .st (v:=(A.v (.int .u64 (wr .u64 ((y79.length:Int)))))) (aConvert_int (hs:=by kernel_rfl) (hd:=by kernel_rfl) ..) ?_
   refine .st (aBin_leq ..) ?_
   refine .cl ((evCall_in lt_83).trans (e83 C (evCall (cx C) (n+6)) (evCallY (cx C) (n+6)) (n+6) _ _ _ _)) ?_
   refine .s (bA (!(decide (y78<=(wr .u64 ((y79.length:Int))))))) ?_
   refine .biHN (fun hk82=>?_) (fun hk82=>?_)
   ·refine .s (A.ifc 31 (iA 10)) ?_
    refine .pk ?_
    refine .cr ?_
    refine .okP ?_
    refine .cr ?_
    refine .okP ?_
    exact .lf rfl rfl ⟨[(hk82w_2 y4)],rfl⟩
   refine .cr ?_
   refine .ok ?_
   refine .st (v:=(iA (wr .i64 (y78)))) (aConvert_int (hs:=by kernel_rfl) (hd:=by kernel_rfl) ..) ?_
   refine .cr ?_
   refine .ok ?_
   refine .cl ((evCall_in lt_101).trans (e101 C (ec C n 7) (ey C n 7) (n+7) _ _ _ _)) ?_
   refine .s (A.ptr 2 0) (.s (A.ptr 2 0) (.s (A.imm (List.map c8 y79) false) ?_))
   refine .st (len_imm (e:=5) (h1:=by kernel_rfl) ..) ?_
   refine .st (aBin_leq ..) ?_
   refine .cl ((evCall_in lt_83).trans (e83 C (evCall (cx C) (n+6)) (evCallY (cx C) (n+6)) (n+6) _ _ _ _)) ?_
   refine .s (bA (!(decide ((wr .i64 (y78))<=((y79.length:Int)))))) ?_
   refine .biHN (fun hk83=>?_) (fun hk83=>?_)
   ·refine .s (A.ifc 31 (iA 10)) ?_
    refine .pk ?_
    refine .cr ?_
    refine .okP ?_
    refine .cr ?_
    refine .okP ?_
    exact .lf rfl rfl ⟨[(hk82w_2 y4)],rfl⟩
   refine .cr ?_
   refine .ok ?_
   refine .s (A.ptr 2 0) (.s (A.ptr 2 0) (.s (A.imm (List.map c8 y79) false) ?_))
   refine .bd (g:=fun (y:List UInt8)=>(A.imm (List.map c8 y) true)) (cut_imm3 (e:=5) (es:=1) (f:=c8) (l:=y79) (a:=0) (b:=wr .i64 (y78)) (by kernel_rfl) (by kernel_rfl) (fun _=>rfl) (.inl ⟨rfl,rfl⟩)) fun y84=>?_
   refine .s (A.ptr 2 0) (.s (A.ptr 2 0) (.s (A.imm (List.map c8 y79) false) ?_))
   refine .bd (g:=fun (y:List UInt8)=>(A.imm (List.map c8 y) false)) (cut_imm (e:=5) (es:=1) (f:=c8) (l:=y79) (a:=wr .i64 (y78)) (b:=(y79.length:Int)) (by kernel_rfl) (by kernel_rfl) (fun _=>rfl) (.inr ⟨_,rfl⟩) (.inl ⟨rfl,rfl⟩)) fun y85=>?_
   refine .s (A.ptr 2 0) (.s (A.ptr 2 0) (.s [hk82w_1,Blk.box [(iA 0)],Blk.box [(A.imm (List.map c8 y85) false)],(hk82w_2 y4)] ?_))
   refine .cr ?_
   refine .ok ?_
   refine .st (v:=(A.v (Value.string (bstr y84)))) (conv_bs (e:=5) (l:=y84) (by kernel_rfl) (by kernel_rfl) (by kernel_rfl) (by kernel_rfl) (els_imm ..) rfl) ?_
   refine .s (A.ptr 3 2) (.sh (.s (A.agg [(iA (wr .i64 ((y4.toNat:Int)))),(iA 0),(A.v (Value.string (bstr y84))),(A.imm [] true)]) (.s [hk82w_1,Blk.box [(iA 0)],Blk.box [(A.imm (List.map c8 y85) false)],Blk.box [(iA (wr .i64 ((y4.toNat:Int)))),(iA 0),(A.v (Value.string (bstr y84))),(A.imm [] true)]] (.s (A.agg [(iA (wr .i64 ((y4.toNat:Int)))),(iA 0),(A.v (Value.string (bstr y84))),(A.imm [] false)]) ?_))))
   exact .lf rfl rfl (actC_low (o:=Out.ret (A.agg [(iA (wr .i64 ((y4.toNat:Int)))),(iA 0),(A.v (Value.string (bstr y84))),(A.imm [] false)])) (lo:=0) (off:=3) (b:=3) (p:=0) (H2:=[hk82w_1,Blk.box [(iA 0)],Blk.box [(A.imm (List.map c8 y85) false)]]) (X:=[Blk.box [(iA (wr .i64 ((y4.toNat:Int)))),(iA 0),(A.v (Value.string (bstr y84))),(A.imm [] true)]]) (Nat.le_of_ble_eq_true rfl))
 refine .st (aBin_eql ..) ?_
 refine .biHN (fun hk86=>?_) (fun hk86=>?_)
 ·refine .st (aBin_lss ..) ?_
  refine .cl ((evCall_in lt_83).trans (e83 C (ec C n 7) (ey C n 7) (n+7) _ _ _ _)) ?_
  refine .s (bA (!(decide (a3<16)))) ?_
  refine .biHN (fun hk87=>?_) (fun hk87=>?_)
  ·refine .s (A.ifc 31 (iA 10)) ?_
   refine .pk ?_
   refine .cr ?_
   refine .okP ?_
   exact .lf rfl rfl ⟨[(hk82w_2 y4)],rfl⟩
  refine .cr ?_
  refine .ok ?_
  refine .cl ((evCall_in lt_104).trans (e104 C (ec C n 7) (ey C n 7) (n+7) _ _ _)) ?_
  refine .cl ((evCall_in lt_103).trans (e103 C (evCall (cx C) (n+6)) (evCallY (cx C) (n+6)) (n+6) _ _ _)) ?_
  refine .as (T82w_103_0b C n h102 self hS (wr .i64 ((y4.toNat:Int))) 0 ByteArray.empty _ _ _ _ ?_ ?_ _ 0 0 y3)
  ·intro y117 j118 j119 j120
   refine .un rfl ?_
   refine .cr ?_
   refine .okP ?_
   refine .cr ?_
   refine .okP ?_
   exact .lf rfl rfl ⟨[(hk82w_2 y4)],rfl⟩
  ·intro y121 y122 j123 j124
   refine .un rfl ?_
   refine .cr ?_
   refine .ok ?_
   refine .s (A.ptr 2 0) (.s (A.ptr 2 0) (.s (A.imm (List.map c8 y122) false) ?_))
   refine .st (len_imm (e:=5) (h1:=by kernel_rfl) ..) ?_
   refine .st (v:=(A.v (.int .u64 (wr .u64 ((y122.length:Int)))))) (aConvert_int (hs:=by kernel_rfl) (hd:=by kernel_rfl) ..) ?_
   refine .st (aBin_leq ..) ?_
   refine .cl ((evCall_in lt_83).trans (e83 C (evCall (cx C) (n+6)) (evCallY (cx C) (n+6)) (n+6) _ _ _ _)) ?_
   refine .s (bA (!(decide (y121<=(wr .u64 ((y122.length:Int))))))) ?_
   refine .biHN (fun hk125=>?_) (fun hk125=>?_)
   ·refine .s (A.ifc 31 (iA 10)) ?_
    refine .pk ?_
    refine .cr ?_
    refine .okP ?_
    refine .cr ?_
    refine .okP ?_
    exact .lf rfl rfl ⟨[(hk82w_2 y4)],rfl⟩
   refine .cr ?_
   refine .ok ?_
   refine .st (v:=(iA (wr .i64 (y121)))) (aConvert_int (hs:=by kernel_rfl) (hd:=by kernel_rfl) ..) ?_
   refine .cr ?_
   refine .ok ?_
   refine .as (T82w_82_0 C n h102 self hS a3 (wr .i64 (y121)) (wr .i64 ((y4.toNat:Int))) 0 ByteArray.empty _ _ _ _ ?_ ?_ _ 0 y122 (([]:List S_Value)))
   ·intro y138 y139 j140 j141 j142 j143 j144
    refine .un rfl ?_
    exact .lf rfl rfl ⟨[Blk.box [(iA (wr .i64 ((y4.toNat:Int)))),(iA 0),(A.v (Value.string ByteArray.empty)),(A.sl 4 0 y139.length false)],Blk.row false 4 (List.map c_S_Value y139)],rfl⟩
   ·intro y145 y146 j147 j148 j149 j150
    refine .un rfl ?_
    refine .cT (by kernel_rfl) ?_
    refine .s (A.agg [(iA (wr .i64 ((y4.toNat:Int)))),(iA 0),(A.v (Value.string ByteArray.empty)),(A.sl 4 0 y146.length false)]) (.s [hk82w_1,Blk.box [(iA 0)],Blk.box [(A.imm (List.map c8 y145) false)],Blk.box [(iA (wr .i64 ((y4.toNat:Int)))),(iA 0),(A.v (Value.string ByteArray.empty)),(A.sl 4 0 y146.length false)],Blk.row false 4 (List.map c_S_Value y146)] ?_)
    refine .st (v:=(A.agg [(iA (wr .i64 ((y4.toNat:Int)))),(iA 0),(A.v (Value.string ByteArray.empty)),(A.imm (List.map c_S_Value y146) false)])) ((congrArg (fun z=>aLoad prog 98 (A.ptr 3 0) z) (actC_row (H:=[hk82w_1,Blk.box [(iA 0)],Blk.box [(A.imm (List.map c8 y145) false)],Blk.box [(iA (wr .i64 ((y4.toNat:Int)))),(iA 0),(A.v (Value.string ByteArray.empty)),(A.sl 4 0 y146.length false)],Blk.row false 4 (List.map c_S_Value y146)]) (lo:=0) (off:=3) (b:=3) (o:=0) (b':=4) (es:=4) (l:=y146) fl_S_Value rfl rfl rfl (Nat.le_of_ble_eq_true rfl))).trans (by kernel_rfl)) ?_
    exact .lf rfl rfl (actC_low (o:=Out.ret (A.agg [(iA (wr .i64 ((y4.toNat:Int)))),(iA 0),(A.v (Value.string ByteArray.empty)),(A.imm (List.map c_S_Value y146) false)])) (lo:=0) (off:=3) (b:=3) (p:=0) (H2:=[hk82w_1,Blk.box [(iA 0)],Blk.box [(A.imm (List.map c8 y145) false)]]) (X:=[Blk.box [(iA (wr .i64 ((y4.toNat:Int)))),(iA 0),(A.v (Value.string ByteArray.empty)),(A.sl 4 0 y146.length false)],Blk.row false 4 (List.map c_S_Value y146)]) (Nat.le_of_ble_eq_true rfl))
 refine .cl ((evCall_in lt_83).trans (e83 C (ec C n 7) (ey C n 7) (n+7) _ _ _ _)) ?_
 refine .s (bA true) ?_
 refine .bTN ?_
 refine .s (A.ifc 31 (iA 10)) ?_
 refine .pk ?_
 refine .cr ?_
 refine .okP ?_
 exact .lf rfl rfl ⟨[(hk82w_2 y4)],rfl⟩
def W82:Nat->(List UInt8)->Int->Option (Bool×S_Value×(List UInt8))
 | 0=>fun _ _=>none
 | N+1=>fun a2 a3=>bif Nat.ble 8 N then F82w (W82 N) (N - 8) a2 a3 else none
theorem HW82 (C:Nat->List A->Option A) (h102:Orc102 C):∀ N,HS82 C N (W82 N)
 | 0=>fun _ _ X r h=>by cases h
 | N+1=>fun a2 a3 X=>by
  show J _ _ _ (bif Nat.ble 8 N then F82w (W82 N) (N - 8) a2 a3 else none) _
  cases h:Nat.ble 8 N with
  | false=>exact fun r h=>by cases h
  | true =>
   obtain ⟨n,rfl⟩:∃ n,N=n+8:=⟨N - 8,by have:=Nat.le_of_ble_eq_true h; omega⟩
   rw[Nat.add_sub_cancel]
   exact cut_J (m:=3) (by kernel_rfl) (by kernel_rfl) (by decide) rfl (by kernel_rfl) ((by kernel_rfl:_=((((underss 3 (List.map c8 a2))&&true))&&true)).trans (by simp only[un0,unS])) (fun _=>rfl) (fun y=>(by show outUnder 3 (bif y.1 then Out.ret (A.agg [(iA y.2.1.Kind),(iA y.2.1.N),(A.v (Value.string y.2.1.S)),(A.imm (List.map c_S_Value y.2.1.L) false)]) else Out.pan (A.ifc 31 (iA 10)))=true; cases y.1 with | true=>exact((by kernel_rfl:_=((underss 3 (List.map c_S_Value y.2.1.L))&&true)).trans (by simp only[un0,unS])) | false=>rfl)) (fun y=>((by kernel_rfl:_=((((underss 3 (List.map c8 y.2.2))&&true))&&true)).trans (by simp only[un0,unS]))) (T82w C n h102 (W82 (n+8)) (HW82 C h102 (n+8)) a2 a3)
def hk59_1:Blk:=Blk.box [(iA 0),(iA 0),(A.v (Value.string ByteArray.empty)),(A.imm [] true)]
def F59 (n:Nat) (a0:(List UInt8)):Option (S_Value×Int) :=
 (W82 (n+8) a0 0).bind fun y1=>bif y1.1 then (bif (!(((y1.2.2.length:Int))==0)) then (some (((S_Value.mk 0 0 ByteArray.empty ([])),10))) else (some ((y1.2.1,0)))) else (some (((S_Value.mk 0 0 ByteArray.empty ([])),10)))
theorem T59 (C:Nat->List A->Option A) (n:Nat) (h102:Orc102 C) (a0:(List UInt8)):J (fun (o:R) y=>∃ v,o.1=.ret v/\snapE o.2 v=(A.tup [(A.agg [(iA y.1.Kind),(iA y.1.N),(A.v (Value.string y.1.S)),(A.imm (List.map c_S_Value y.1.L) false)]),(iA y.2)])) (evCall1 (cx C) (ec C n 8) (ey C n 8) (n+8) 59 [(A.imm (List.map c8 a0) false)] [] 0) some (F59 n a0) some:=by
 refine .lp (e59 ..) ?_
 unfold F59
 refine .s ((A.ptr 0 0),[hk59_1]) (.s ((A.ptr 1 0),[hk59_1,Blk.box [(iA 0)]]) (.s (A.agg [(A.imm (List.map c8 a0) false)]) (.s ((A.ptr 2 0),[hk59_1,Blk.box [(iA 0)],Blk.box [(A.imm (List.map c8 a0) false)]]) ?_)))
 refine .bg (fun (t:Out×Heap) (y:(Bool×S_Value×(List UInt8)))=>t=((bif y.1 then Out.ret (A.agg [(iA y.2.1.Kind),(iA y.2.1.N),(A.v (Value.string y.2.1.S)),(A.imm (List.map c_S_Value y.2.1.L) false)]) else Out.pan (A.ifc 31 (iA 10))),[hk59_1,Blk.box [(iA 0)],Blk.box [(A.imm (List.map c8 y.2.2) false)]])) (HW82 C h102 (n+8) a0 0 []) ?_
 rintro _ y1 rfl
 refine .ob ?_ ?_
 ·refine .ok ?_
  refine .s [Blk.box [(iA y1.2.1.Kind),(iA y1.2.1.N),(A.v (Value.string y1.2.1.S)),(A.imm (List.map c_S_Value y1.2.1.L) false)],Blk.box [(iA 0)],Blk.box [(A.imm (List.map c8 y1.2.2) false)]] (.s (A.ptr 2 0) (.s (A.ptr 2 0) (.s (A.imm (List.map c8 y1.2.2) false) ?_)))
  refine .st (len_imm (e:=5) (h1:=by kernel_rfl) ..) ?_
  refine .st (aBin_eql ..) ?_
  refine .cl ((evCall_in lt_83).trans (e83 C (ec C n 7) (ey C n 7) (n+7) _ _ _ _)) ?_
  refine .s (bA (!(((y1.2.2.length:Int))==0))) ?_
  refine .biHN (fun hk2=>?_) (fun hk2=>?_)
  ·refine .s (A.ifc 31 (iA 10)) ?_
   refine .pk ?_
   refine .cr ?_
   refine .okP ?_
   refine .s (bA true) ?_
   refine .bTN ?_
   refine .s (A.agg [(iA 0),(iA 0),(A.v (Value.string ByteArray.empty)),(A.imm [] true)]) (.s (iA 10) (.sh (.s [hk59_1,Blk.box [(iA 10)],Blk.box [(A.imm (List.map c8 y1.2.2) false)]] (.s (A.agg [(iA 0),(iA 0),(A.v (Value.string ByteArray.empty)),(A.imm [] true)]) (.s (iA 10) ?_)))))
   exact .lv (by show snapE _ (A.tup [(A.agg [(iA 0),(iA 0),(A.v (Value.string ByteArray.empty)),(A.imm [] true)]),(iA 10)])=_; first | (simp only[sn0,snM,snapE]; done) | (simp only[sn0,snS,snapE]; first | done | rfl))
  refine .cr ?_
  refine .ok ?_
  refine .s (A.agg [(iA y1.2.1.Kind),(iA y1.2.1.N),(A.v (Value.string y1.2.1.S)),(A.imm (List.map c_S_Value y1.2.1.L) false)]) (.sh (.s [Blk.box [(iA y1.2.1.Kind),(iA y1.2.1.N),(A.v (Value.string y1.2.1.S)),(A.imm (List.map c_S_Value y1.2.1.L) false)],Blk.box [(iA 0)],Blk.box [(A.imm (List.map c8 y1.2.2) false)]] (.s (bA false) ?_)))
  refine .bFN ?_
  refine .s (A.agg [(iA y1.2.1.Kind),(iA y1.2.1.N),(A.v (Value.string y1.2.1.S)),(A.imm (List.map c_S_Value y1.2.1.L) false)]) (.s (iA 0) ?_)
  exact .lv (by show snapE _ (A.tup [(A.agg [(iA y1.2.1.Kind),(iA y1.2.1.N),(A.v (Value.string y1.2.1.S)),(A.imm (List.map c_S_Value y1.2.1.L) false)]),(iA 0)])=_; first | (simp only[sn0,snM,snapE]; done) | (simp only[sn0,snS,snapE]; first | done | rfl))
 refine .okP ?_
 refine .s (bA true) ?_
 refine .bTN ?_
 refine .s (A.agg [(iA 0),(iA 0),(A.v (Value.string ByteArray.empty)),(A.imm [] true)]) (.s (iA 10) (.sh (.s [hk59_1,Blk.box [(iA 10)],Blk.box [(A.imm (List.map c8 y1.2.2) false)]] (.s (A.agg [(iA 0),(iA 0),(A.v (Value.string ByteArray.empty)),(A.imm [] true)]) (.s (iA 10) ?_)))))
 exact .lv (by show snapE _ (A.tup [(A.agg [(iA 0),(iA 0),(A.v (Value.string ByteArray.empty)),(A.imm [] true)]),(iA 10)])=_; first | (simp only[sn0,snM,snapE]; done) | (simp only[sn0,snS,snapE]; first | done | rfl))
def G59 (a0:(List UInt8)):Option (S_Value×Int):=F59 fuel0 a0
def Orc59 (C:Nat->List A->Option A):Prop:=∀ (a0:(List UInt8)),C 59 [(A.imm (List.map c8 a0) false)]=(G59 a0).map fun y=>(A.tup [(A.agg [(iA y.1.Kind),(iA y.1.N),(A.v (Value.string y.1.S)),(A.imm (List.map c_S_Value y.1.L) false)]),(iA y.2)])
def hk32_1 (v18:S_Value):Blk:=Blk.box [(iA v18.Kind),(iA v18.N),(A.v (Value.string v18.S)),(A.imm (List.map c_S_Value v18.L) false)]
def hk32_2 (y1:(S_Value×Int)):Blk:=Blk.box [(iA y1.1.Kind),(iA y1.1.N),(A.v (Value.string y1.1.S)),(A.imm (List.map c_S_Value y1.1.L) false)]
def F32_32_0 (n:Nat) (v8:Bool) (v9:(List S_Value)) (v10:Int) (v12:Bool) (v13:Int) (v14:Int) (v15:Int) (v16:Int) (v17:Int) (v18:S_Value):Nat->Int->(List Int)->Option ((Bool×(List Int)×Int×Int×ByteArray×(List S_Value))⊕((List Int)))
 | 0,_,_=>none
 | m+1,v11,v19=>bif (decide (v11<v10)) then ((getI v9 v11).bind fun y21=>bif (y21.Kind != 1) then (some ((Sum.inl ((false,v19,y21.Kind,y21.N,y21.S,y21.L))))) else ((appI 8 v19 ([y21.N])).bind fun y23=>F32_32_0 n v8 v9 v10 v12 v13 v14 v15 v16 v17 v18 m (wr .i64 (v11+1)) y23)) else (some ((Sum.inr v19)))
theorem T32_32_0 (C:Nat->List A->Option A) (n:Nat) (h59:Orc59 C) (v8:Bool) (v9:(List S_Value)) (v10:Int) (v12:Bool) (v13:Int) (v14:Int) (v15:Int) (v16:Int) (v17:Int) (v18:S_Value) {ρ γ:Type} {φ:ρ->γ->Prop} {kL:R->Option ρ} {K:((Bool×(List Int)×Int×Int×ByteArray×(List S_Value))⊕((List Int)))->Option γ} (kx kg:Nat->St->Option R) (kr:St->Option R) (kp:A->St->Option R) (x0:∀ (o0:Bool) (o1:(List Int)) (o2:Int) (o3:Int) (o4:ByteArray) (o5:(List S_Value)) (s6:A) (s23:A) (s24:A) (s25:A),J φ (kr (St.mk [(2,(A.ptr 0 0)),(3,(bA o0)),(6,s6),(23,s23),(24,s24),(25,s25)] [Blk.box [(bA v12),(iA v13),(iA v14),(iA v15),(iA v16),(iA v17)],(hk32_1 v18),Blk.row false 1 (List.map (cI .i64) o1),Blk.box [(iA o2),(iA o3),(A.v (Value.string o4)),(A.imm (List.map c_S_Value o5) false)]])) kL (K (Sum.inl ((o0,o1,o2,o3,o4,o5)))) some) (x1:∀ (o0:(List Int)) (s3:A) (s23:A) (s24:A) (s25:A),J φ (kx 0 (St.mk [(2,(A.ptr 0 0)),(3,s3),(6,(A.sl 2 0 o0.length false)),(23,s23),(24,s24),(25,s25)] [Blk.box [(bA v12),(iA v13),(iA v14),(iA v15),(iA v16),(iA v17)],(hk32_1 v18),Blk.row false 1 (List.map (cI .i64) o0)])) kL (K (Sum.inr o0)) some) :
  ∀ (m:Nat) (v11:Int) (v19:(List Int)),J φ (loopR (cx C) (ec C n 8) (ey C n 8) (n+8) 32 0 0 3 kx kg kr kp m (St.mk [(2,(A.ptr 0 0)),(3,(bA v8)),(6,(A.sl 2 0 v19.length false)),(23,(A.imm (List.map c_S_Value v9) false)),(24,(iA v10)),(25,(iA v11))] [Blk.box [(bA v12),(iA v13),(iA v14),(iA v15),(iA v16),(iA v17)],(hk32_1 v18),Blk.row false 1 (List.map (cI .i64) v19)])) kL (F32_32_0 n v8 v9 v10 v12 v13 v14 v15 v16 v17 v18 m v11 v19) K:=by
 intro m
 induction m with
 | zero=>intros; exact .nn
 | succ m ih =>
  intro v11 v19
  refine .lp (e32_0 ..) ?_
  unfold F32_32_0
  refine .st (aBin_lss ..) ?_
  refine .biHN (fun hk20=>?_) (fun hk20=>?_)
  ·refine .bd (g:=fun (y:S_Value)=>(A.ip [(iA y.Kind),(iA y.N),(A.v (Value.string y.S)),(A.imm (List.map c_S_Value y.L) false)])) ((idx_imm (e:=98) (es:=4) (h1:=by kernel_rfl) (h2:=by kernel_rfl) (h3:=fun _=>rfl) ..).trans (ci_S_Value _)) fun y21=>?_
   refine .s (A.agg [(iA y21.Kind),(iA y21.N),(A.v (Value.string y21.S)),(A.imm (List.map c_S_Value y21.L) false)]) (.sq (A.ptr 3 0) (.s [Blk.box [(bA v12),(iA v13),(iA v14),(iA v15),(iA v16),(iA v17)],(hk32_1 v18),Blk.row false 1 (List.map (cI .i64) v19),Blk.box [(iA y21.Kind),(iA y21.N),(A.v (Value.string y21.S)),(A.imm (List.map c_S_Value y21.L) false)]] (.s (A.ptr 3 0) (.s (iA y21.Kind) ?_))))
   refine .st (aBin_neq ..) ?_
   refine .biHN (fun hk22=>?_) (fun hk22=>?_)
   ·refine .s (A.agg [(bA v12),(iA v13),(iA v14),(iA v15),(iA v16),(iA v17)]) (.s [Blk.box [(bA v12),(iA v13),(iA v14),(iA v15),(iA v16),(iA v17)],(hk32_1 v18),Blk.row false 1 (List.map (cI .i64) v19),Blk.box [(iA y21.Kind),(iA y21.N),(A.v (Value.string y21.S)),(A.imm (List.map c_S_Value y21.L) false)]] ?_)
    exact .ex (x0 _ _ _ _ _ _ _ _ _ _)
   refine .s (A.ptr 3 1) (.s (iA y21.N) (.s (A.imm [[(iA y21.N)]] true) ?_))
   refine .bd (g:=fun (y:List Int)=>((A.sl 2 0 y.length false),[Blk.box [(bA v12),(iA v13),(iA v14),(iA v15),(iA v16),(iA v17)],(hk32_1 v18),Blk.row false 1 (List.map (cI .i64) y),Blk.box [(iA y21.Kind),(iA y21.N),(A.v (Value.string y21.S)),(A.imm (List.map c_S_Value y21.L) false)]])) (app_row (e:=3) (es:=1) (by_:=8) (z:=[(iA 0)]) (by kernel_rfl) (by kernel_rfl) (by kernel_rfl) (by kernel_rfl) rfl (by decide) (by decide) (by kernel_rfl) (f:=(cI .i64)) (fun _=>rfl) (ce_cI _) (l:=v19) (l2:=[y21.N]) (b:=2) rfl (by decide) (els_imm (f:=(cI .i64)) ([y21.N]:List Int) _ _)) fun y23=>?_
   refine .st (aBin_add ..) ?_
   refine .st (v:=[Blk.box [(bA v12),(iA v13),(iA v14),(iA v15),(iA v16),(iA v17)],(hk32_1 v18),Blk.row false 1 (List.map (cI .i64) y23)]) ((by kernel_rfl:_=(bif ((((underss 3 (List.map c_S_Value v18.L))&&true))&&((underss 3 (List.map (cI .i64) y23))&&true)) then some [Blk.box [(bA v12),(iA v13),(iA v14),(iA v15),(iA v16),(iA v17)],(hk32_1 v18),Blk.row false 1 (List.map (cI .i64) y23)] else none)).trans (by simp only[un0,unS])) ?_
   refine .cT ((by kernel_rfl:_=(bif underss 3 (List.map c_S_Value v9) then true else false)).trans (by simp only[un0,unS])) ?_
   exact ih _ _
  exact .ex (x1 _ _ _ _ _)
def F32 (n:Nat) (a0:(List UInt8)):Option (S_replica_entry×Bool) :=
 (G59 a0).bind fun y1=>(bif (y1.2 != 0) then (some true) else (some (y1.1.Kind != 3))).bind fun y3=>bif y3 then (some (((S_replica_entry.mk false ((S_Lease.mk 0 0 0)) ((S_Call.mk 0 0))),false))) else ((F32_32_0 n false y1.1.L ((y1.1.L.length:Int)) false 0 0 0 0 0 y1.1 (n+8) 0 (([]:List Int))).bind fun o24=>match o24 with | (Sum.inl ((y25,y26,y27,y28,y29,y30)))=>some (((S_replica_entry.mk false ((S_Lease.mk 0 0 0)) ((S_Call.mk 0 0))),y25)) | (Sum.inr y35)=>(bif (((y35.length:Int))==4) then ((getI y35 0).bind fun y41=>some (y41==1)) else (some false)).bind fun y42=>bif y42 then ((getI y35 1).bind fun y48=>(getI y35 2).bind fun y49=>(getI y35 3).bind fun y50=>some (((S_replica_entry.mk true ((S_Lease.mk y48 y49 y50)) ((S_Call.mk 0 0))),true))) else ((bif (((y35.length:Int))==3) then ((getI y35 0).bind fun y52=>some (y52==2)) else (some false)).bind fun y53=>bif y53 then ((getI y35 1).bind fun y59=>(getI y35 2).bind fun y60=>some (((S_replica_entry.mk false ((S_Lease.mk 0 0 0)) ((S_Call.mk y59 y60))),true))) else (some (((S_replica_entry.mk false ((S_Lease.mk 0 0 0)) ((S_Call.mk 0 0))),false)))))
theorem T32 (C:Nat->List A->Option A) (n:Nat) (h59:Orc59 C) (a0:(List UInt8)):J (fun (o:R) y=>∃ v,o.1=.ret v/\snapE o.2 v=(A.tup [(A.agg [(bA y.1.is),(iA y.1.lease.No),(iA y.1.lease.Holder),(iA y.1.lease.Until),(iA y.1.call.Bar),(iA y.1.call.Program)]),(bA y.2)])) (evCall1 (cx C) (ec C n 8) (ey C n 8) (n+8) 32 [(A.imm (List.map c8 a0) false)] [] 0) some (F32 n a0) some:=by
 refine .lp (e32 ..) ?_
 unfold F32
 refine .s ((A.ptr 0 0),[Blk.box [(bA false),(iA 0),(iA 0),(iA 0),(iA 0),(iA 0)]]) ?_
 refine .bd (g:=fun (y:(S_Value×Int))=>(A.tup [(A.agg [(iA y.1.Kind),(iA y.1.N),(A.v (Value.string y.1.S)),(A.imm (List.map c_S_Value y.1.L) false)]),(iA y.2)])) (by show C 59 [snap _ (A.imm (List.map c8 a0) false)]=_; simp only[sn0,snM]; exact h59 a0) fun y1=>?_
 refine .s (A.agg [(iA y1.1.Kind),(iA y1.1.N),(A.v (Value.string y1.1.S)),(A.imm (List.map c_S_Value y1.1.L) false)]) (.s (iA y1.2) (.sq (A.ptr 1 0) (.s [Blk.box [(bA false),(iA 0),(iA 0),(iA 0),(iA 0),(iA 0)],(hk32_2 y1)] ?_)))
 refine .st (aBin_neq ..) ?_
 refine .bg (fun t (y:Bool)=>∃ j4 j5 j6:A,t=[(bA y),j4,j5,j6]) ?_ ?_
 ·refine .biH (fun hk2=>?_) (fun hk2=>?_)
  ·exact .lg ⟨_,_,_,rfl⟩
  refine .s (A.ptr 1 0) (.s (iA y1.1.Kind) ?_)
  refine .st (aBin_neq ..) ?_
  exact .lg ⟨_,_,_,rfl⟩
 rintro _ y3 ⟨j4,j5,j6,rfl⟩
 iterate 4 refine .uc ?_
 refine .biHN (fun hk7=>?_) (fun hk7=>?_)
 ·refine .s (A.agg [(bA false),(iA 0),(iA 0),(iA 0),(iA 0),(iA 0)]) (.s [Blk.box [(bA false),(iA 0),(iA 0),(iA 0),(iA 0),(iA 0)],(hk32_2 y1)] (.s (A.agg [(bA false),(iA 0),(iA 0),(iA 0),(iA 0),(iA 0)]) ?_))
  exact .lv rfl
 refine .s (A.ptr 1 3) (.s (A.imm (List.map c_S_Value y1.1.L) false) ?_)
 refine .st (len_imm (e:=98) (h1:=by kernel_rfl) ..) ?_
 refine .as (T32_32_0 C n h59 false y1.1.L ((y1.1.L.length:Int)) false 0 0 0 0 0 y1.1 _ _ _ _ ?_ ?_ _ 0 (([]:List Int)))
 ·intro y25 y26 y27 y28 y29 y30 j31 j32 j33 j34
  refine .un rfl ?_
  refine .s (A.agg [(bA false),(iA 0),(iA 0),(iA 0),(iA 0),(iA 0)]) ?_
  exact .lv rfl
 ·intro y35 j36 j37 j38 j39
  refine .un rfl ?_
  refine .cT (by kernel_rfl) ?_
  refine .st (row_len (e:=3) (by kernel_rfl) rfl rfl) ?_
  refine .st (aBin_eql ..) ?_
  refine .bg (fun t (y:Bool)=>∃ j43 j44 j45 j46:A,t=[(bA y),j43,j44,j45,j46]) ?_ ?_
  ·refine .biH (fun hk40=>?_) (fun hk40=>?_)
   ·refine .bd (g:=fun (y:Int)=>A.ip ((cI .i64) y)) (row_idx (e:=3) (es:=1) (l:=y35) (by kernel_rfl) (by kernel_rfl) rfl) fun y41=>?_
    refine .s (iA y41) ?_
    refine .st (aBin_eql ..) ?_
    exact .lg ⟨_,_,_,_,rfl⟩
   exact .lg ⟨_,_,_,_,rfl⟩
  rintro _ y42 ⟨j43,j44,j45,j46,rfl⟩
  iterate 5 refine .uc ?_
  refine .biHN (fun hk47=>?_) (fun hk47=>?_)
  ·refine .bd (g:=fun (y:Int)=>A.ip ((cI .i64) y)) (row_idx (e:=3) (es:=1) (l:=y35) (by kernel_rfl) (by kernel_rfl) rfl) fun y48=>?_
   refine .s (iA y48) ?_
   refine .bd (g:=fun (y:Int)=>A.ip ((cI .i64) y)) (row_idx (e:=3) (es:=1) (l:=y35) (by kernel_rfl) (by kernel_rfl) rfl) fun y49=>?_
   refine .s (iA y49) ?_
   refine .bd (g:=fun (y:Int)=>A.ip ((cI .i64) y)) (row_idx (e:=3) (es:=1) (l:=y35) (by kernel_rfl) (by kernel_rfl) rfl) fun y50=>?_
   refine .s (iA y50) (.s (A.agg [(iA y48),(iA y49),(iA y50)]) (.s (A.agg [(bA true),(iA y48),(iA y49),(iA y50),(iA 0),(iA 0)]) (.s [Blk.box [(bA true),(iA y48),(iA y49),(iA y50),(iA 0),(iA 0)],(hk32_2 y1),Blk.row false 1 (List.map (cI .i64) y35)] (.s (A.agg [(bA true),(iA y48),(iA y49),(iA y50),(iA 0),(iA 0)]) ?_))))
   exact .lv rfl
  refine .st (row_len (e:=3) (by kernel_rfl) rfl rfl) ?_
  refine .st (aBin_eql ..) ?_
  refine .bg (fun t (y:Bool)=>∃ j54 j55 j56 j57:A,t=[(bA y),j54,j55,j56,j57]) ?_ ?_
  ·refine .biH (fun hk51=>?_) (fun hk51=>?_)
   ·refine .bd (g:=fun (y:Int)=>A.ip ((cI .i64) y)) (row_idx (e:=3) (es:=1) (l:=y35) (by kernel_rfl) (by kernel_rfl) rfl) fun y52=>?_
    refine .s (iA y52) ?_
    refine .st (aBin_eql ..) ?_
    exact .lg ⟨_,_,_,_,rfl⟩
   exact .lg ⟨_,_,_,_,rfl⟩
  rintro _ y53 ⟨j54,j55,j56,j57,rfl⟩
  iterate 5 refine .uc ?_
  refine .biHN (fun hk58=>?_) (fun hk58=>?_)
  ·refine .bd (g:=fun (y:Int)=>A.ip ((cI .i64) y)) (row_idx (e:=3) (es:=1) (l:=y35) (by kernel_rfl) (by kernel_rfl) rfl) fun y59=>?_
   refine .s (iA y59) ?_
   refine .bd (g:=fun (y:Int)=>A.ip ((cI .i64) y)) (row_idx (e:=3) (es:=1) (l:=y35) (by kernel_rfl) (by kernel_rfl) rfl) fun y60=>?_
   refine .s (iA y60) (.s (A.agg [(iA y59),(iA y60)]) (.s (A.agg [(bA false),(iA 0),(iA 0),(iA 0),(iA y59),(iA y60)]) (.s [Blk.box [(bA false),(iA 0),(iA 0),(iA 0),(iA y59),(iA y60)],(hk32_2 y1),Blk.row false 1 (List.map (cI .i64) y35)] (.s (A.agg [(bA false),(iA 0),(iA 0),(iA 0),(iA y59),(iA y60)]) ?_))))
   exact .lv rfl
  refine .s (A.agg [(bA false),(iA 0),(iA 0),(iA 0),(iA 0),(iA 0)]) (.s [Blk.box [(bA false),(iA 0),(iA 0),(iA 0),(iA 0),(iA 0)],(hk32_2 y1),Blk.row false 1 (List.map (cI .i64) y35)] (.s (A.agg [(bA false),(iA 0),(iA 0),(iA 0),(iA 0),(iA 0)]) ?_))
  exact .lv rfl
def G32 (a0:(List UInt8)):Option (S_replica_entry×Bool):=F32 fuel0 a0
def Orc32 (C:Nat->List A->Option A):Prop:=∀ (a0:(List UInt8)),C 32 [(A.imm (List.map c8 a0) false)]=(G32 a0).map fun y=>(A.tup [(A.agg [(bA y.1.is),(iA y.1.lease.No),(iA y.1.lease.Holder),(iA y.1.lease.Until),(iA y.1.call.Bar),(iA y.1.call.Program)]),(bA y.2)])
def F11_11_0 (n:Nat) (v1:Int) (v2:(List (List UInt8))) (v3:Int):Nat->Int->Int->(List S_Lease)->(List S_Call)->(List Bool)->Option ((Int×Int×Bool×Int×Int×Int×Int×Int)⊕(Int×(List S_Lease)×(List S_Call)×(List Bool)))
 | 0,_,_,_,_,_=>none
 | m+1,v4,v5,v6,v7,v8=>bif (decide (v4<v3)) then ((getI v2 v4).bind fun y10=>(G32 y10).bind fun y11=>bif (!y11.2) then (some ((Sum.inl ((530,0,y11.1.is,y11.1.lease.No,y11.1.lease.Holder,y11.1.lease.Until,y11.1.call.Bar,y11.1.call.Program))))) else ((G33 ((S_Replica.mk v5 v6 v7 v8)) y11.1).bind fun y13=>F11_11_0 n v1 v2 v3 m (wr .i64 (v4+1)) y13.Self y13.Leases y13.Calls y13.Order)) else (some ((Sum.inr ((v5,v6,v7,v8)))))
theorem T11_11_0 (C:Nat->List A->Option A) (n:Nat) (h20:Orc20 C) (h32:Orc32 C) (h33:Orc33 C) (v1:Int) (v2:(List (List UInt8))) (v3:Int) {ρ γ:Type} {φ:ρ->γ->Prop} {kL:R->Option ρ} {K:((Int×Int×Bool×Int×Int×Int×Int×Int)⊕(Int×(List S_Lease)×(List S_Call)×(List Bool)))->Option γ} (kx kg:Nat->St->Option R) (kr:St->Option R) (kp:A->St->Option R) (x0:∀ (o0:Int) (o1:Int) (o2:Bool) (o3:Int) (o4:Int) (o5:Int) (o6:Int) (o7:Int) (s12:A) (s13:A) (s14:A),J φ (kr (St.mk [(4,(A.ptr 0 0)),(5,(iA o0)),(12,s12),(13,s13),(14,s14)] [Blk.box [(iA o1),(A.imm [] true),(A.imm [] true),(A.imm [] true)],Blk.box [(bA o2),(iA o3),(iA o4),(iA o5),(iA o6),(iA o7)]])) kL (K (Sum.inl ((o0,o1,o2,o3,o4,o5,o6,o7)))) some) (x1:∀ (o0:Int) (o1:(List S_Lease)) (o2:(List S_Call)) (o3:(List Bool)) (s5:A) (s12:A) (s13:A) (s14:A),J φ (kx 0 (St.mk [(4,(A.ptr 0 0)),(5,s5),(12,s12),(13,s13),(14,s14)] [Blk.box [(iA o0),(A.imm (List.map c_S_Lease o1) false),(A.imm (List.map c_S_Call o2) false),(A.imm (List.map cB o3) false)]])) kL (K (Sum.inr ((o0,o1,o2,o3)))) some) :
  ∀ (m:Nat) (v4:Int) (v5:Int) (v6:(List S_Lease)) (v7:(List S_Call)) (v8:(List Bool)),J φ (loopR (cx C) (ec C n 8) (ey C n 8) (n+8) 11 0 0 1 kx kg kr kp m (St.mk [(4,(A.ptr 0 0)),(5,(iA v1)),(12,(A.imm (List.map (cL c8) v2) false)),(13,(iA v3)),(14,(iA v4))] [Blk.box [(iA v5),(A.imm (List.map c_S_Lease v6) false),(A.imm (List.map c_S_Call v7) false),(A.imm (List.map cB v8) false)]])) kL (F11_11_0 n v1 v2 v3 m v4 v5 v6 v7 v8) K:=by
 intro m
 induction m with
 | zero=>intros; exact .nn
 | succ m ih =>
  intro v4 v5 v6 v7 v8
  refine .lp (e11_0 ..) ?_
  unfold F11_11_0
  refine .st (aBin_lss ..) ?_
  refine .biHN (fun hk9=>?_) (fun hk9=>?_)
  ·refine .bd (g:=fun (y:(List UInt8))=>A.ip ((cL c8) y)) (idx_imm (e:=30) (es:=1) (h1:=by kernel_rfl) (h2:=by kernel_rfl) (h3:=fun _=>rfl) ..) fun y10=>?_
   refine .s (A.imm (List.map c8 y10) false) ?_
   refine .bd (g:=fun (y:(S_replica_entry×Bool))=>(A.tup [(A.agg [(bA y.1.is),(iA y.1.lease.No),(iA y.1.lease.Holder),(iA y.1.lease.Until),(iA y.1.call.Bar),(iA y.1.call.Program)]),(bA y.2)])) (by show C 32 [snap _ (A.imm (List.map c8 y10) false)]=_; simp only[sn0,snM]; exact h32 y10) fun y11=>?_
   refine .s (A.agg (c_S_replica_entry y11.1)) (.s (bA y11.2) (.sq (A.ptr 1 0) (.s [Blk.box [(iA v5),(A.imm (List.map c_S_Lease v6) false),(A.imm (List.map c_S_Call v7) false),(A.imm (List.map cB v8) false)],Blk.box (c_S_replica_entry y11.1)] (.s (bA (!y11.2)) ?_))))
   refine .biHN (fun hk12=>?_) (fun hk12=>?_)
   ·refine .s (A.agg [(iA 0),(A.imm [] true),(A.imm [] true),(A.imm [] true)]) (.s [Blk.box [(iA 0),(A.imm [] true),(A.imm [] true),(A.imm [] true)],Blk.box (c_S_replica_entry y11.1)] ?_)
    exact .ex (x0 _ _ _ _ _ _ _ _ _ _ _)
   refine .s (A.agg [(iA v5),(A.imm (List.map c_S_Lease v6) false),(A.imm (List.map c_S_Call v7) false),(A.imm (List.map cB v8) false)]) (.s (A.agg (c_S_replica_entry y11.1)) ?_)
   refine .bd (g:=fun (y:S_Replica)=>(A.agg [(iA y.Self),(A.imm (List.map c_S_Lease y.Leases) false),(A.imm (List.map c_S_Call y.Calls) false),(A.imm (List.map cB y.Order) false)])) (by show C 33 [snap _ (A.agg [(iA v5),(A.imm (List.map c_S_Lease v6) false),(A.imm (List.map c_S_Call v7) false),(A.imm (List.map cB v8) false)]),snap _ (A.agg (c_S_replica_entry y11.1))]=_; simp only[sn0,snM]; exact h33 ((S_Replica.mk v5 v6 v7 v8)) y11.1) fun y13=>?_
   refine .s [Blk.box (c_S_Replica y13),Blk.box (c_S_replica_entry y11.1)] ?_
   refine .st (aBin_add ..) ?_
   refine .st (v:=[Blk.box (c_S_Replica y13)]) ((by kernel_rfl:_=(bif ((((underss 1 (List.map c_S_Lease y13.Leases))&&((underss 1 (List.map c_S_Call y13.Calls))&&((underss 1 (List.map cB y13.Order))&&true))))&&true) then some [Blk.box (c_S_Replica y13)] else none)).trans (by simp only[un0,unS])) ?_
   refine .cT ((by kernel_rfl:_=(bif underss 1 (List.map (cL c8) v2) then true else false)).trans (by simp only[un0,unS])) ?_
   exact ih _ _ _ _ _
  exact .ex (x1 _ _ _ _ _ _ _ _)
def F11 (n:Nat) (a0:Int) (a1:(List (List UInt8))):Option (S_Replica×Int) :=
 (F11_11_0 n 0 a1 ((a1.length:Int)) (n+8) 0 a0 ([]) ([]) ([])).bind fun o14=>match o14 with | (Sum.inl ((y15,y16,y17,y18,y19,y20,y21,y22)))=>some (((S_Replica.mk y16 ([]) ([]) ([])),y15)) | (Sum.inr ((y26,y27,y28,y29)))=>(G20 ((S_Replica.mk y26 y27 y28 y29))).bind fun y34=>bif (y34 != 0) then (some (((S_Replica.mk 0 ([]) ([]) ([])),y34))) else (some (((S_Replica.mk y26 y27 y28 y29),0)))
theorem T11 (C:Nat->List A->Option A) (n:Nat) (h20:Orc20 C) (h32:Orc32 C) (h33:Orc33 C) (a0:Int) (a1:(List (List UInt8))):J (fun (o:R) y=>∃ v,o.1=.ret v/\snapE o.2 v=(A.tup [(A.agg [(iA y.1.Self),(A.imm (List.map c_S_Lease y.1.Leases) false),(A.imm (List.map c_S_Call y.1.Calls) false),(A.imm (List.map cB y.1.Order) false)]),(iA y.2)])) (evCall1 (cx C) (ec C n 8) (ey C n 8) (n+8) 11 [(iA a0),(A.imm (List.map (cL c8) a1) false)] [] 0) some (F11 n a0 a1) some:=by
 refine .lp (e11 ..) ?_
 unfold F11
 refine .sq (A.ptr 0 0) (.s (A.ptr 0 0) (.s [Blk.box [(iA a0),(A.imm [] true),(A.imm [] true),(A.imm [] true)]] ?_))
 refine .st (len_imm (e:=30) (h1:=by kernel_rfl) ..) ?_
 refine .as (T11_11_0 C n h20 h32 h33 0 a1 ((a1.length:Int)) _ _ _ _ ?_ ?_ _ 0 a0 ([]) ([]) ([]))
 ·intro y15 y16 y17 y18 y19 y20 y21 y22 j23 j24 j25
  refine .un rfl ?_
  refine .s (A.agg [(iA y16),(A.imm [] true),(A.imm [] true),(A.imm [] true)]) ?_
  exact .lv (by show snapE _ (A.tup [(A.agg [(iA y16),(A.imm [] true),(A.imm [] true),(A.imm [] true)]),(iA y15)])=_; first | (simp only[sn0,snM,snapE]; done) | (simp only[sn0,snS,snapE]; first | done | rfl))
 ·intro y26 y27 y28 y29 j30 j31 j32 j33
  refine .un rfl ?_
  refine .cT (by kernel_rfl) ?_
  refine .s (A.agg [(iA y26),(A.imm (List.map c_S_Lease y27) false),(A.imm (List.map c_S_Call y28) false),(A.imm (List.map cB y29) false)]) ?_
  refine .bd (g:=fun (y:Int)=>(iA y)) (by show C 20 [snap _ (A.agg [(iA y26),(A.imm (List.map c_S_Lease y27) false),(A.imm (List.map c_S_Call y28) false),(A.imm (List.map cB y29) false)])]=_; simp only[sn0,snM]; exact h20 ((S_Replica.mk y26 y27 y28 y29))) fun y34=>?_
  refine .st (aBin_neq ..) ?_
  refine .biHN (fun hk35=>?_) (fun hk35=>?_)
  ·refine .s (A.agg [(iA 0),(A.imm [] true),(A.imm [] true),(A.imm [] true)]) (.s [Blk.box [(iA 0),(A.imm [] true),(A.imm [] true),(A.imm [] true)]] (.s (A.agg [(iA 0),(A.imm [] true),(A.imm [] true),(A.imm [] true)]) ?_))
   exact .lv (by show snapE _ (A.tup [(A.agg [(iA 0),(A.imm [] true),(A.imm [] true),(A.imm [] true)]),(iA y34)])=_; first | (simp only[sn0,snM,snapE]; done) | (simp only[sn0,snS,snapE]; first | done | rfl))
  refine .s (A.agg [(iA y26),(A.imm (List.map c_S_Lease y27) false),(A.imm (List.map c_S_Call y28) false),(A.imm (List.map cB y29) false)]) (.s [Blk.box [(iA y26),(A.imm (List.map c_S_Lease y27) false),(A.imm (List.map c_S_Call y28) false),(A.imm (List.map cB y29) false)]] (.s (A.agg [(iA y26),(A.imm (List.map c_S_Lease y27) false),(A.imm (List.map c_S_Call y28) false),(A.imm (List.map cB y29) false)]) ?_))
  exact .lv (by show snapE _ (A.tup [(A.agg [(iA y26),(A.imm (List.map c_S_Lease y27) false),(A.imm (List.map c_S_Call y28) false),(A.imm (List.map cB y29) false)]),(iA 0)])=_; first | (simp only[sn0,snM,snapE]; done) | (simp only[sn0,snS,snapE]; first | done | rfl))
def G11 (a0:Int) (a1:(List (List UInt8))):Option (S_Replica×Int):=F11 fuel0 a0 a1
def Orc11 (C:Nat->List A->Option A):Prop:=∀ (a0:Int) (a1:(List (List UInt8))),C 11 [(iA a0),(A.imm (List.map (cL c8) a1) false)]=(G11 a0 a1).map fun y=>(A.tup [(A.agg [(iA y.1.Self),(A.imm (List.map c_S_Lease y.1.Leases) false),(A.imm (List.map c_S_Call y.1.Calls) false),(A.imm (List.map cB y.1.Order) false)]),(iA y.2)])
def hk15_1:Blk:=Blk.box [(iA 0),(A.imm [] true),(A.imm [] true),(A.imm [] true),(iA 0),(A.imm [] true),(A.imm [] true),(A.imm [] true),(iA 0),(iA 0),(A.imm [] true),(A.imm [] true),(A.imm [] true)]
def F15_15_0 (n:Nat) (v1:Int) (v2:Int) (v15:(List S_Lease)) (v16:(List S_Call)) (v17:(List S_Call)):Nat->Int->Int->Int->(List S_Lease)->(List S_Call)->(List Bool)->Int->(List S_Lease)->(List S_Call)->(List Bool)->Int->Int->Option ((Int×Int×Int×Int×Int)⊕(Int×(List S_Lease)×(List S_Call)×(List Bool)×Int×(List S_Lease)×(List S_Call)×(List Bool)×Int×Int))
 | 0,_,_,_,_,_,_,_,_,_,_,_,_=>none
 | m+1,v3,v4,v5,v6,v7,v8,v9,v10,v11,v12,v13,v14=>bif (decide (v4<2)) then ((G25 v4 v1 v2).bind fun y19=>bif decide (v4=0) then (bif (y19.2 != 0) then (some ((Sum.inl ((y19.2,0,0,0,0))))) else (F15_15_0 n v1 v2 v15 v16 v17 m y19.2 (wr .i64 (v4+1)) y19.1.Self y19.1.Leases y19.1.Calls y19.1.Order v9 v10 v11 v12 1 v14)) else bif decide (v4=1) then (bif (y19.2 != 0) then (some ((Sum.inl ((y19.2,0,0,0,0))))) else (F15_15_0 n v1 v2 v15 v16 v17 m y19.2 (wr .i64 (v4+1)) v5 v6 v7 v8 y19.1.Self y19.1.Leases y19.1.Calls y19.1.Order v13 1)) else none) else (some ((Sum.inr ((v5,v6,v7,v8,v9,v10,v11,v12,v13,v14)))))
theorem T15_15_0 (C:Nat->List A->Option A) (n:Nat) (h25:Orc25 C) (v1:Int) (v2:Int) (v15:(List S_Lease)) (v16:(List S_Call)) (v17:(List S_Call)) {ρ γ:Type} {φ:ρ->γ->Prop} {kL:R->Option ρ} {K:((Int×Int×Int×Int×Int)⊕(Int×(List S_Lease)×(List S_Call)×(List Bool)×Int×(List S_Lease)×(List S_Call)×(List Bool)×Int×Int))->Option γ} (kx kg:Nat->St->Option R) (kr:St->Option R) (kp:A->St->Option R) (x0:∀ (o0:Int) (o1:Int) (o2:Int) (o3:Int) (o4:Int) (s0:A) (s1:A) (s7:A),J φ (kr (St.mk [(0,s0),(1,s1),(4,(A.ptr 0 0)),(5,(iA o0)),(7,s7)] [Blk.box [(iA o1),(A.imm [] true),(A.imm [] true),(A.imm [] true),(iA o2),(A.imm [] true),(A.imm [] true),(A.imm [] true),(iA o3),(iA o4),(A.imm [] true),(A.imm [] true),(A.imm [] true)]])) kL (K (Sum.inl ((o0,o1,o2,o3,o4)))) some) (x1:∀ (o0:Int) (o1:(List S_Lease)) (o2:(List S_Call)) (o3:(List Bool)) (o4:Int) (o5:(List S_Lease)) (o6:(List S_Call)) (o7:(List Bool)) (o8:Int) (o9:Int) (s0:A) (s1:A) (s5:A) (s7:A),J φ (kx 0 (St.mk [(0,s0),(1,s1),(4,(A.ptr 0 0)),(5,s5),(7,s7)] [Blk.box [(iA o0),(A.imm (List.map c_S_Lease o1) false),(A.imm (List.map c_S_Call o2) false),(A.imm (List.map cB o3) false),(iA o4),(A.imm (List.map c_S_Lease o5) false),(A.imm (List.map c_S_Call o6) false),(A.imm (List.map cB o7) false),(iA o8),(iA o9),(A.imm (List.map c_S_Lease v15) true),(A.imm (List.map c_S_Call v16) true),(A.imm (List.map c_S_Call v17) true)]])) kL (K (Sum.inr ((o0,o1,o2,o3,o4,o5,o6,o7,o8,o9)))) some) :
  ∀ (m:Nat) (v3:Int) (v4:Int) (v5:Int) (v6:(List S_Lease)) (v7:(List S_Call)) (v8:(List Bool)) (v9:Int) (v10:(List S_Lease)) (v11:(List S_Call)) (v12:(List Bool)) (v13:Int) (v14:Int),J φ (loopR (cx C) (ec C n 8) (ey C n 8) (n+8) 15 0 0 1 kx kg kr kp m (St.mk [(0,(iA v1)),(1,(iA v2)),(4,(A.ptr 0 0)),(5,(iA v3)),(7,(iA v4))] [Blk.box [(iA v5),(A.imm (List.map c_S_Lease v6) false),(A.imm (List.map c_S_Call v7) false),(A.imm (List.map cB v8) false),(iA v9),(A.imm (List.map c_S_Lease v10) false),(A.imm (List.map c_S_Call v11) false),(A.imm (List.map cB v12) false),(iA v13),(iA v14),(A.imm (List.map c_S_Lease v15) true),(A.imm (List.map c_S_Call v16) true),(A.imm (List.map c_S_Call v17) true)]])) kL (F15_15_0 n v1 v2 v15 v16 v17 m v3 v4 v5 v6 v7 v8 v9 v10 v11 v12 v13 v14) K:=by
 intro m
 induction m with
 | zero=>intros; exact .nn
 | succ m ih =>
  intro v3 v4 v5 v6 v7 v8 v9 v10 v11 v12 v13 v14
  refine .lp (e15_0 ..) ?_
  unfold F15_15_0
  refine .st (aBin_lss ..) ?_
  refine .biHN (fun hk18=>?_) (fun hk18=>?_)
  ·refine .bd (g:=fun (y:(S_Replica×Int))=>(A.tup [(A.agg [(iA y.1.Self),(A.imm (List.map c_S_Lease y.1.Leases) false),(A.imm (List.map c_S_Call y.1.Calls) false),(A.imm (List.map cB y.1.Order) false)]),(iA y.2)])) (h25 v4 v1 v2) fun y19=>?_
   refine .s (A.agg (c_S_Replica y19.1)) (.s (iA y19.2) (.s (A.ptr 0 0) ?_))
   refine .sp (fun hb20=>?_) (fun _=>?_)
   ·refine .st (v:=(A.ptr 0 0)) (by rw[of_decide_eq_true hb20]; kernel_rfl) ?_
    refine .s [Blk.box (c_S_Replica y19.1++[(iA v9),(A.imm (List.map c_S_Lease v10) false),(A.imm (List.map c_S_Call v11) false),(A.imm (List.map cB v12) false),(iA v13),(iA v14),(A.imm (List.map c_S_Lease v15) true),(A.imm (List.map c_S_Call v16) true),(A.imm (List.map c_S_Call v17) true)])] ?_
    refine .st (aBin_neq ..) ?_
    refine .biHN (fun hk21=>?_) (fun hk21=>?_)
    ·refine .s (A.agg [(iA 0),(A.imm [] true),(A.imm [] true),(A.imm [] true),(iA 0),(A.imm [] true),(A.imm [] true),(A.imm [] true),(iA 0),(iA 0),(A.imm [] true),(A.imm [] true),(A.imm [] true)]) (.s [hk15_1] ?_)
     exact .ex (x0 _ _ _ _ _ _ _ _)
    refine .s (A.ptr 0 8) ?_
    refine .st (v:=(A.ptr 0 8)) (by rw[of_decide_eq_true hb20]; kernel_rfl) ?_
    refine .sh ?_
    refine .st (aBin_add ..) ?_
    refine .s [Blk.box (c_S_Replica y19.1++[(iA v9),(A.imm (List.map c_S_Lease v10) false),(A.imm (List.map c_S_Call v11) false),(A.imm (List.map cB v12) false),(iA 1),(iA v14),(A.imm (List.map c_S_Lease v15) true),(A.imm (List.map c_S_Call v16) true),(A.imm (List.map c_S_Call v17) true)])] ?_
    refine .cT (by kernel_rfl) ?_
    exact ih _ _ _ _ _ _ _ _ _ _ _ _
   refine .sp (fun hb22=>?_) (fun _=>?_)
   ·refine .st (v:=(A.ptr 0 4)) (by rw[of_decide_eq_true hb22]; kernel_rfl) ?_
    refine .s [Blk.box ([(iA v5),(A.imm (List.map c_S_Lease v6) false),(A.imm (List.map c_S_Call v7) false),(A.imm (List.map cB v8) false)]++c_S_Replica y19.1++[(iA v13),(iA v14),(A.imm (List.map c_S_Lease v15) true),(A.imm (List.map c_S_Call v16) true),(A.imm (List.map c_S_Call v17) true)])] ?_
    refine .st (aBin_neq ..) ?_
    refine .biHN (fun hk23=>?_) (fun hk23=>?_)
    ·refine .s (A.agg [(iA 0),(A.imm [] true),(A.imm [] true),(A.imm [] true),(iA 0),(A.imm [] true),(A.imm [] true),(A.imm [] true),(iA 0),(iA 0),(A.imm [] true),(A.imm [] true),(A.imm [] true)]) (.s [hk15_1] ?_)
     exact .ex (x0 _ _ _ _ _ _ _ _)
    refine .s (A.ptr 0 8) ?_
    refine .st (v:=(A.ptr 0 9)) (by rw[of_decide_eq_true hb22]; kernel_rfl) ?_
    refine .sh ?_
    refine .st (aBin_add ..) ?_
    refine .s [Blk.box ([(iA v5),(A.imm (List.map c_S_Lease v6) false),(A.imm (List.map c_S_Call v7) false),(A.imm (List.map cB v8) false)]++c_S_Replica y19.1++[(iA v13),(iA 1),(A.imm (List.map c_S_Lease v15) true),(A.imm (List.map c_S_Call v16) true),(A.imm (List.map c_S_Call v17) true)])] ?_
    refine .cT (by kernel_rfl) ?_
    exact ih _ _ _ _ _ _ _ _ _ _ _ _
   exact .nn
  exact .ex (x1 _ _ _ _ _ _ _ _ _ _ _ _ _ _)
def F15 (n:Nat) (a0:Int) (a1:Int):Option (S_Pair×Int) :=
 (F15_15_0 n a0 a1 ([]) ([]) ([]) (n+8) 0 0 0 ([]) ([]) ([]) 0 ([]) ([]) ([]) 0 0).bind fun o24=>match o24 with | (Sum.inl ((y25,y26,y27,y28,y29)))=>some (((S_Pair.mk (((S_Replica.mk y26 ([]) ([]) ([])),(S_Replica.mk y27 ([]) ([]) ([])))) ((y28,y29)) ([]) (([],[]))),y25)) | (Sum.inr ((y33,y34,y35,y36,y37,y38,y39,y40,y41,y42)))=>some (((S_Pair.mk (((S_Replica.mk y33 y34 y35 y36),(S_Replica.mk y37 y38 y39 y40))) ((y41,y42)) ([]) (([],[]))),0))
theorem T15 (C:Nat->List A->Option A) (n:Nat) (h25:Orc25 C) (a0:Int) (a1:Int):J (fun (o:R) y=>∃ v,o.1=.ret v/\snapE o.2 v=(A.tup [(A.agg [(iA y.1.Desks.1.Self),(A.imm (List.map c_S_Lease y.1.Desks.1.Leases) false),(A.imm (List.map c_S_Call y.1.Desks.1.Calls) false),(A.imm (List.map cB y.1.Desks.1.Order) false),(iA y.1.Desks.2.Self),(A.imm (List.map c_S_Lease y.1.Desks.2.Leases) false),(A.imm (List.map c_S_Call y.1.Desks.2.Calls) false),(A.imm (List.map cB y.1.Desks.2.Order) false),(iA y.1.Synced.1),(iA y.1.Synced.2),(A.imm (List.map c_S_Lease y.1.Told) false),(A.imm (List.map c_S_Call y.1.Spoken.1) false),(A.imm (List.map c_S_Call y.1.Spoken.2) false)]),(iA y.2)])) (evCall1 (cx C) (ec C n 8) (ey C n 8) (n+8) 15 [(iA a0),(iA a1)] [] 0) some (F15 n a0 a1) some:=by
 refine .lp (e15 ..) ?_
 unfold F15
 refine .s ((A.ptr 0 0),[hk15_1]) ?_
 refine .as (T15_15_0 C n h25 a0 a1 ([]) ([]) ([]) _ _ _ _ ?_ ?_ _ 0 0 0 ([]) ([]) ([]) 0 ([]) ([]) ([]) 0 0)
 ·intro y25 y26 y27 y28 y29 j30 j31 j32
  refine .un rfl ?_
  refine .s (A.agg [(iA y26),(A.imm [] true),(A.imm [] true),(A.imm [] true),(iA y27),(A.imm [] true),(A.imm [] true),(A.imm [] true),(iA y28),(iA y29),(A.imm [] true),(A.imm [] true),(A.imm [] true)]) ?_
  exact .lv (by show snapE _ (A.tup [(A.agg [(iA y26),(A.imm [] true),(A.imm [] true),(A.imm [] true),(iA y27),(A.imm [] true),(A.imm [] true),(A.imm [] true),(iA y28),(iA y29),(A.imm [] true),(A.imm [] true),(A.imm [] true)]),(iA y25)])=_; first | (simp only[sn0,snM,snapE]; done) | (simp only[sn0,snS,snapE]; first | done | rfl))
 ·intro y33 y34 y35 y36 y37 y38 y39 y40 y41 y42 j43 j44 j45 j46
  refine .un rfl ?_
  refine .cT (by kernel_rfl) ?_
  refine .s (A.agg [(iA y33),(A.imm (List.map c_S_Lease y34) false),(A.imm (List.map c_S_Call y35) false),(A.imm (List.map cB y36) false),(iA y37),(A.imm (List.map c_S_Lease y38) false),(A.imm (List.map c_S_Call y39) false),(A.imm (List.map cB y40) false),(iA y41),(iA y42),(A.imm [] true),(A.imm [] true),(A.imm [] true)]) (.s [Blk.box [(iA y33),(A.imm (List.map c_S_Lease y34) false),(A.imm (List.map c_S_Call y35) false),(A.imm (List.map cB y36) false),(iA y37),(A.imm (List.map c_S_Lease y38) false),(A.imm (List.map c_S_Call y39) false),(A.imm (List.map cB y40) false),(iA y41),(iA y42),(A.imm [] true),(A.imm [] true),(A.imm [] true)]] (.s (A.agg [(iA y33),(A.imm (List.map c_S_Lease y34) false),(A.imm (List.map c_S_Call y35) false),(A.imm (List.map cB y36) false),(iA y37),(A.imm (List.map c_S_Lease y38) false),(A.imm (List.map c_S_Call y39) false),(A.imm (List.map cB y40) false),(iA y41),(iA y42),(A.imm [] true),(A.imm [] true),(A.imm [] true)]) ?_))
  exact .lv (by show snapE _ (A.tup [(A.agg [(iA y33),(A.imm (List.map c_S_Lease y34) false),(A.imm (List.map c_S_Call y35) false),(A.imm (List.map cB y36) false),(iA y37),(A.imm (List.map c_S_Lease y38) false),(A.imm (List.map c_S_Call y39) false),(A.imm (List.map cB y40) false),(iA y41),(iA y42),(A.imm [] true),(A.imm [] true),(A.imm [] true)]),(iA 0)])=_; first | (simp only[sn0,snM,snapE]; done) | (simp only[sn0,snS,snapE]; first | done | rfl))
def G15 (a0:Int) (a1:Int):Option (S_Pair×Int):=F15 fuel0 a0 a1
def Orc15 (C:Nat->List A->Option A):Prop:=∀ (a0:Int) (a1:Int),C 15 [(iA a0),(iA a1)]=(G15 a0 a1).map fun y=>(A.tup [(A.agg [(iA y.1.Desks.1.Self),(A.imm (List.map c_S_Lease y.1.Desks.1.Leases) false),(A.imm (List.map c_S_Call y.1.Desks.1.Calls) false),(A.imm (List.map cB y.1.Desks.1.Order) false),(iA y.1.Desks.2.Self),(A.imm (List.map c_S_Lease y.1.Desks.2.Leases) false),(A.imm (List.map c_S_Call y.1.Desks.2.Calls) false),(A.imm (List.map cB y.1.Desks.2.Order) false),(iA y.1.Synced.1),(iA y.1.Synced.2),(A.imm (List.map c_S_Lease y.1.Told) false),(A.imm (List.map c_S_Call y.1.Spoken.1) false),(A.imm (List.map c_S_Call y.1.Spoken.2) false)]),(iA y.2)])
def tb17:List ((S_Pair×S_Deed)×(S_Pair×Int)):=[((⟨(⟨0,[⟨0,0,10⟩],[],[true]⟩,⟨1,[⟨0,0,10⟩],[],[true]⟩),(1,1),[],([],[])⟩,⟨0,0,0,0⟩),(⟨(⟨0,[],[],[]⟩,⟨0,[],[],[]⟩),(0,0),[],([],[])⟩,530)),
 ((⟨(⟨0,[⟨0,0,10⟩],[],[true]⟩,⟨1,[⟨0,0,10⟩],[],[true]⟩),(1,1),[],([],[])⟩,⟨3,0,3,2⟩),(⟨(⟨0,[⟨0,0,10⟩],[⟨3,2⟩],[true,false]⟩,⟨1,[⟨0,0,10⟩],[],[true]⟩),(1,1),[],([],[])⟩,0)),
 ((⟨(⟨0,[⟨0,0,10⟩],[⟨3,2⟩],[true,false]⟩,⟨1,[⟨0,0,10⟩],[],[true]⟩),(1,1),[],([],[])⟩,⟨3,0,5,1⟩),(⟨(⟨0,[⟨0,0,10⟩],[⟨3,2⟩,⟨5,1⟩],[true,false,false]⟩,⟨1,[⟨0,0,10⟩],[],[true]⟩),(1,1),[],([],[])⟩,0)),
 ((⟨(⟨0,[⟨0,0,10⟩],[⟨3,2⟩,⟨5,1⟩],[true,false,false]⟩,⟨1,[⟨0,0,10⟩],[],[true]⟩),(1,1),[],([],[])⟩,⟨1,0,1,20⟩),(⟨(⟨0,[⟨0,0,10⟩,⟨1,1,20⟩],[⟨3,2⟩,⟨5,1⟩],[true,false,false,true]⟩,⟨1,[⟨0,0,10⟩],[],[true]⟩),(1,1),[],([],[])⟩,0)),
 ((⟨(⟨0,[⟨0,0,10⟩,⟨1,1,20⟩],[⟨3,2⟩,⟨5,1⟩],[true,false,false,true]⟩,⟨1,[⟨0,0,10⟩],[],[true]⟩),(1,1),[],([],[])⟩,⟨4,0,0,0⟩),(⟨(⟨0,[⟨0,0,10⟩,⟨1,1,20⟩],[⟨3,2⟩,⟨5,1⟩],[true,false,false,true]⟩,⟨1,[⟨0,0,10⟩],[],[true]⟩),(4,1),[],([],[])⟩,0)),
 ((⟨(⟨0,[⟨0,0,10⟩,⟨1,1,20⟩],[⟨3,2⟩,⟨5,1⟩],[true,false,false,true]⟩,⟨1,[⟨0,0,10⟩],[],[true]⟩),(4,1),[],([],[])⟩,⟨5,0,1,0⟩),(⟨(⟨0,[⟨0,0,10⟩,⟨1,1,20⟩],[⟨3,2⟩,⟨5,1⟩],[true,false,false,true]⟩,⟨1,[⟨0,0,10⟩],[],[true]⟩),(4,1),[⟨1,1,20⟩],([],[])⟩,0)),
 ((⟨(⟨0,[⟨0,0,10⟩,⟨1,1,20⟩],[⟨3,2⟩,⟨5,1⟩],[true,false,false,true]⟩,⟨1,[⟨0,0,10⟩],[],[true]⟩),(4,1),[⟨1,1,20⟩],([],[])⟩,⟨6,0,1,0⟩),(⟨(⟨0,[⟨0,0,10⟩,⟨1,1,20⟩],[⟨3,2⟩,⟨5,1⟩],[true,false,false,true]⟩,⟨1,[⟨0,0,10⟩],[],[true]⟩),(4,1),[⟨1,1,20⟩],([⟨5,1⟩],[])⟩,0)),
 ((⟨(⟨0,[⟨0,0,10⟩,⟨1,1,20⟩],[⟨3,2⟩,⟨5,1⟩],[true,false,false,true]⟩,⟨1,[⟨0,0,10⟩],[],[true]⟩),(4,1),[⟨1,1,20⟩],([⟨5,1⟩],[])⟩,⟨3,1,12,1⟩),(⟨(⟨0,[],[],[]⟩,⟨0,[],[],[]⟩),(0,0),[],([],[])⟩,530)),
 ((⟨(⟨0,[⟨0,0,10⟩,⟨1,1,20⟩],[⟨3,2⟩,⟨5,1⟩],[true,false,false,true]⟩,⟨1,[⟨0,0,10⟩],[],[true]⟩),(4,1),[⟨1,1,20⟩],([⟨5,1⟩],[])⟩,⟨2,1,0,0⟩),(⟨(⟨0,[⟨0,0,10⟩,⟨1,1,20⟩],[⟨3,2⟩,⟨5,1⟩],[true,false,false,true]⟩,⟨1,[⟨0,0,10⟩,⟨1,1,20⟩],[],[true,true]⟩),(4,1),[⟨1,1,20⟩],([⟨5,1⟩],[])⟩,0)),
 ((⟨(⟨0,[⟨0,0,10⟩,⟨1,1,20⟩],[⟨3,2⟩,⟨5,1⟩],[true,false,false,true]⟩,⟨1,[⟨0,0,10⟩,⟨1,1,20⟩],[],[true,true]⟩),(4,1),[⟨1,1,20⟩],([⟨5,1⟩],[])⟩,⟨3,1,12,4⟩),(⟨(⟨0,[⟨0,0,10⟩,⟨1,1,20⟩],[⟨3,2⟩,⟨5,1⟩],[true,false,false,true]⟩,⟨1,[⟨0,0,10⟩,⟨1,1,20⟩],[⟨12,4⟩],[true,true,false]⟩),(4,1),[⟨1,1,20⟩],([⟨5,1⟩],[])⟩,0)),
 ((⟨(⟨0,[⟨0,0,10⟩,⟨1,1,20⟩],[⟨3,2⟩,⟨5,1⟩],[true,false,false,true]⟩,⟨1,[⟨0,0,10⟩,⟨1,1,20⟩],[⟨12,4⟩],[true,true,false]⟩),(4,1),[⟨1,1,20⟩],([⟨5,1⟩],[])⟩,⟨6,1,0,0⟩),(⟨(⟨0,[],[],[]⟩,⟨0,[],[],[]⟩),(0,0),[],([],[])⟩,530)),
 ((⟨(⟨0,[⟨0,0,10⟩,⟨1,1,20⟩],[⟨3,2⟩,⟨5,1⟩],[true,false,false,true]⟩,⟨1,[⟨0,0,10⟩,⟨1,1,20⟩],[⟨12,4⟩],[true,true,false]⟩),(4,1),[⟨1,1,20⟩],([⟨5,1⟩],[])⟩,⟨7,1,2,0⟩),(⟨(⟨0,[⟨0,0,10⟩,⟨1,1,20⟩],[⟨3,2⟩,⟨5,1⟩],[true,false,false,true]⟩,⟨1,[⟨0,0,10⟩,⟨1,1,20⟩],[],[true,true]⟩),(4,1),[⟨1,1,20⟩],([⟨5,1⟩],[])⟩,0))]
def G17 (a0:S_Pair) (a1:S_Deed):Option (S_Pair×Int):=tabG tb17 (a0,a1)
def Orc17 (C:Nat->List A->Option A):Prop:=∀ (a0:S_Pair) (a1:S_Deed),C 17 [(A.agg (c_S_Pair a0)),(A.agg (c_S_Deed a1))]=(G17 a0 a1).map fun y=>(A.tup [(A.agg [(iA y.1.Desks.1.Self),(A.imm (List.map c_S_Lease y.1.Desks.1.Leases) false),(A.imm (List.map c_S_Call y.1.Desks.1.Calls) false),(A.imm (List.map cB y.1.Desks.1.Order) false),(iA y.1.Desks.2.Self),(A.imm (List.map c_S_Lease y.1.Desks.2.Leases) false),(A.imm (List.map c_S_Call y.1.Desks.2.Calls) false),(A.imm (List.map cB y.1.Desks.2.Order) false),(iA y.1.Synced.1),(iA y.1.Synced.2),(A.imm (List.map c_S_Lease y.1.Told) false),(A.imm (List.map c_S_Call y.1.Spoken.1) false),(A.imm (List.map c_S_Call y.1.Spoken.2) false)]),(iA y.2)])
end Go.Proofs.Ytdmgdjnadbakfaa
