/-
 The program's functions as plain functions: by a tool; each follows the interpreter.
-/
import Derived.Test.YtdmgdjnadbakfaaE
import Derived.KernelRfl
namespace Go.Proofs.Ytdmgdjnadbakfaa
open Go.Proofs.Try (prog)
set_option linter.unusedVariables false
set_option linter.unusedSimpArgs false
set_option maxHeartbeats 4000000
set_option maxRecDepth 100000
abbrev bz4 : Blk := Blk.box [(A.imm [] true), (A.imm [] true), (iA 0), (bA false)]
abbrev bz3 : Blk := Blk.box [(A.imm [] true), (iA 0), (iA 0)]
noncomputable abbrev ec (C : Nat -> List A -> Option A) (n k : Nat) := evCall (cx C) (n+k)
noncomputable abbrev ey (C : Nat -> List A -> Option A) (n k : Nat) := evCallY (cx C) (n+k)
structure S_Value where
 Kind : Int
 N : Int
 S : ByteArray
 L : (List S_Value)
 deriving Inhabited
mutual
def la_S_Value : S_Value -> A
 | .mk _ _ _ l => .imm (ls_S_Value l) false
def ls_S_Value : List S_Value -> List (List A)
 | [] => []
 | x :: r => [(iA x.Kind), (iA x.N), (A.v (Value.string x.S)), la_S_Value x] :: ls_S_Value r
end
def c_S_Value (x : S_Value) : List A := [(iA x.Kind), (iA x.N), (A.v (Value.string x.S)), la_S_Value x]
mutual
theorem ua_S_Value (L : Nat) : ∀ (x : S_Value), A.under L (la_S_Value x) = true
 | .mk _ _ _ l => by rw [la_S_Value, A.under]; exact us_S_Value L l
theorem us_S_Value (L : Nat) : ∀ (l : List S_Value), underss L (ls_S_Value l) = true
 | [] => by rw [ls_S_Value]; rfl
 | x :: r => by rw [ls_S_Value, underss, us_S_Value L r]; simp only [unders, A.under, ua_S_Value L x, Bool.and_true, Bool.and_self]
end
mutual
theorem sa_S_Value (g : Nat -> Nat -> Nat -> A) : ∀ (x : S_Value), snapW g (la_S_Value x) = la_S_Value x
 | .mk _ _ _ l => by rw [la_S_Value, snapW, ss_S_Value g l]
theorem ss_S_Value (g : Nat -> Nat -> Nat -> A) : ∀ (l : List S_Value), snapWss g (ls_S_Value l) = ls_S_Value l
 | [] => by rw [ls_S_Value]; rfl
 | x :: r => by rw [ls_S_Value, snapWss, ss_S_Value g r]; simp only [snapWs, snapW, sa_S_Value g x]
end
theorem fu_S_Value : FlatU c_S_Value := fun L x => by unfold c_S_Value; simp only [unders, A.under, ua_S_Value L x, Bool.and_true, Bool.and_self]
theorem fl_S_Value : FlatS c_S_Value := fun g x => by unfold c_S_Value; simp only [snapWs, snapW, sa_S_Value g x]
structure S_Lease where
 No : Int
 Holder : Int
 Until : Int
 deriving DecidableEq, Inhabited
def c_S_Lease (x : S_Lease) : List A := [(iA x.No), (iA x.Holder), (iA x.Until)]
theorem ce_S_Lease : CellF c_S_Lease := fun _ => rfl
theorem fu_S_Lease : FlatU c_S_Lease := fun _ _ => by simp only [c_S_Lease, unders, A.under, underss_map, fu_cI, fu_c8, fu_cB, fu_cS, fu_cL, Bool.and_true, Bool.true_and, fu_S_Value]
theorem fl_S_Lease : FlatS c_S_Lease := fun _ _ => by simp only [c_S_Lease, snapW, snapWs, snapWss_map, fl_cI, fl_c8, fl_cB, fl_cS, fl_cL, fl_S_Value]
structure S_Call where
 Bar : Int
 Program : Int
 deriving DecidableEq, Inhabited
def c_S_Call (x : S_Call) : List A := [(iA x.Bar), (iA x.Program)]
theorem ce_S_Call : CellF c_S_Call := fun _ => rfl
theorem fu_S_Call : FlatU c_S_Call := fun _ _ => by simp only [c_S_Call, unders, A.under, underss_map, fu_cI, fu_c8, fu_cB, fu_cS, fu_cL, Bool.and_true, Bool.true_and, fu_S_Value, fu_S_Lease]
theorem fl_S_Call : FlatS c_S_Call := fun _ _ => by simp only [c_S_Call, snapW, snapWs, snapWss_map, fl_cI, fl_c8, fl_cB, fl_cS, fl_cL, fl_S_Value, fl_S_Lease]
structure S_Replica where
 Self : Int
 Leases : (List S_Lease)
 Calls : (List S_Call)
 Order : (List Bool)
 deriving DecidableEq, Inhabited
def c_S_Replica (x : S_Replica) : List A := [(iA x.Self), (A.imm (List.map c_S_Lease x.Leases) false), (A.imm (List.map c_S_Call x.Calls) false), (A.imm (List.map cB x.Order) false)]
theorem fu_S_Replica : FlatU c_S_Replica := fun _ _ => by simp only [c_S_Replica, unders, A.under, underss_map, fu_cI, fu_c8, fu_cB, fu_cS, fu_cL, Bool.and_true, Bool.true_and, fu_S_Value, fu_S_Lease, fu_S_Call]
theorem fl_S_Replica : FlatS c_S_Replica := fun _ _ => by simp only [c_S_Replica, snapW, snapWs, snapWss_map, fl_cI, fl_c8, fl_cB, fl_cS, fl_cL, fl_S_Value, fl_S_Lease, fl_S_Call]
structure S_replica_entry where
 is : Bool
 lease : S_Lease
 call : S_Call
 deriving DecidableEq, Inhabited
def c_S_replica_entry (x : S_replica_entry) : List A := [(bA x.is), (iA x.lease.No), (iA x.lease.Holder), (iA x.lease.Until), (iA x.call.Bar), (iA x.call.Program)]
theorem fu_S_replica_entry : FlatU c_S_replica_entry := fun _ _ => by simp only [c_S_replica_entry, unders, A.under, underss_map, fu_cI, fu_c8, fu_cB, fu_cS, fu_cL, Bool.and_true, Bool.true_and, fu_S_Value, fu_S_Lease, fu_S_Call, fu_S_Replica]
theorem fl_S_replica_entry : FlatS c_S_replica_entry := fun _ _ => by simp only [c_S_replica_entry, snapW, snapWs, snapWss_map, fl_cI, fl_c8, fl_cB, fl_cS, fl_cL, fl_S_Value, fl_S_Lease, fl_S_Call, fl_S_Replica]
def c_A2_struct_S_Replica (x : (S_Replica × S_Replica)) : List A := [(iA x.1.Self), (A.imm (List.map c_S_Lease x.1.Leases) false), (A.imm (List.map c_S_Call x.1.Calls) false), (A.imm (List.map cB x.1.Order) false), (iA x.2.Self), (A.imm (List.map c_S_Lease x.2.Leases) false), (A.imm (List.map c_S_Call x.2.Calls) false), (A.imm (List.map cB x.2.Order) false)]
theorem fu_A2_struct_S_Replica : FlatU c_A2_struct_S_Replica := fun _ _ => by simp only [c_A2_struct_S_Replica, unders, A.under, underss_map, fu_cI, fu_c8, fu_cB, fu_cS, fu_cL, Bool.and_true, Bool.true_and, fu_S_Value, fu_S_Lease, fu_S_Call, fu_S_Replica, fu_S_replica_entry]
theorem fl_A2_struct_S_Replica : FlatS c_A2_struct_S_Replica := fun _ _ => by simp only [c_A2_struct_S_Replica, snapW, snapWs, snapWss_map, fl_cI, fl_c8, fl_cB, fl_cS, fl_cL, fl_S_Value, fl_S_Lease, fl_S_Call, fl_S_Replica, fl_S_replica_entry]
theorem fq_A2_struct_S_Replica (g : Nat -> Nat -> Nat -> A) (x : (S_Replica × S_Replica)) : snapWs g (c_A2_struct_S_Replica x) = c_A2_struct_S_Replica x := fl_A2_struct_S_Replica g x
theorem fuq_A2_struct_S_Replica (L : Nat) (x : (S_Replica × S_Replica)) : unders L (c_A2_struct_S_Replica x) = true := fu_A2_struct_S_Replica L x
def c_A2_int_i64 (x : (Int × Int)) : List A := [(iA x.1), (iA x.2)]
theorem fu_A2_int_i64 : FlatU c_A2_int_i64 := fun _ _ => by simp only [c_A2_int_i64, unders, A.under, underss_map, fu_cI, fu_c8, fu_cB, fu_cS, fu_cL, Bool.and_true, Bool.true_and, fu_S_Value, fu_S_Lease, fu_S_Call, fu_S_Replica, fu_S_replica_entry, fu_A2_struct_S_Replica]
theorem fl_A2_int_i64 : FlatS c_A2_int_i64 := fun _ _ => by simp only [c_A2_int_i64, snapW, snapWs, snapWss_map, fl_cI, fl_c8, fl_cB, fl_cS, fl_cL, fl_S_Value, fl_S_Lease, fl_S_Call, fl_S_Replica, fl_S_replica_entry, fl_A2_struct_S_Replica]
theorem fq_A2_int_i64 (g : Nat -> Nat -> Nat -> A) (x : (Int × Int)) : snapWs g (c_A2_int_i64 x) = c_A2_int_i64 x := fl_A2_int_i64 g x
theorem fuq_A2_int_i64 (L : Nat) (x : (Int × Int)) : unders L (c_A2_int_i64 x) = true := fu_A2_int_i64 L x
def c_A2_list_struct_S_Call (x : ((List S_Call) × (List S_Call))) : List A := [(A.imm (List.map c_S_Call x.1) false), (A.imm (List.map c_S_Call x.2) false)]
theorem fu_A2_list_struct_S_Call : FlatU c_A2_list_struct_S_Call := fun _ _ => by simp only [c_A2_list_struct_S_Call, unders, A.under, underss_map, fu_cI, fu_c8, fu_cB, fu_cS, fu_cL, Bool.and_true, Bool.true_and, fu_S_Value, fu_S_Lease, fu_S_Call, fu_S_Replica, fu_S_replica_entry, fu_A2_struct_S_Replica, fu_A2_int_i64]
theorem fl_A2_list_struct_S_Call : FlatS c_A2_list_struct_S_Call := fun _ _ => by simp only [c_A2_list_struct_S_Call, snapW, snapWs, snapWss_map, fl_cI, fl_c8, fl_cB, fl_cS, fl_cL, fl_S_Value, fl_S_Lease, fl_S_Call, fl_S_Replica, fl_S_replica_entry, fl_A2_struct_S_Replica, fl_A2_int_i64]
theorem fq_A2_list_struct_S_Call (g : Nat -> Nat -> Nat -> A) (x : ((List S_Call) × (List S_Call))) : snapWs g (c_A2_list_struct_S_Call x) = c_A2_list_struct_S_Call x := fl_A2_list_struct_S_Call g x
theorem fuq_A2_list_struct_S_Call (L : Nat) (x : ((List S_Call) × (List S_Call))) : unders L (c_A2_list_struct_S_Call x) = true := fu_A2_list_struct_S_Call L x
structure S_Pair where
 Desks : (S_Replica × S_Replica)
 Synced : (Int × Int)
 Told : (List S_Lease)
 Spoken : ((List S_Call) × (List S_Call))
 deriving DecidableEq, Inhabited
def c_S_Pair (x : S_Pair) : List A := [(iA x.Desks.1.Self), (A.imm (List.map c_S_Lease x.Desks.1.Leases) false), (A.imm (List.map c_S_Call x.Desks.1.Calls) false), (A.imm (List.map cB x.Desks.1.Order) false), (iA x.Desks.2.Self), (A.imm (List.map c_S_Lease x.Desks.2.Leases) false), (A.imm (List.map c_S_Call x.Desks.2.Calls) false), (A.imm (List.map cB x.Desks.2.Order) false), (iA x.Synced.1), (iA x.Synced.2), (A.imm (List.map c_S_Lease x.Told) false), (A.imm (List.map c_S_Call x.Spoken.1) false), (A.imm (List.map c_S_Call x.Spoken.2) false)]
theorem fu_S_Pair : FlatU c_S_Pair := fun _ _ => by simp only [c_S_Pair, unders, A.under, underss_map, fu_cI, fu_c8, fu_cB, fu_cS, fu_cL, Bool.and_true, Bool.true_and, fu_S_Value, fu_S_Lease, fu_S_Call, fu_S_Replica, fu_S_replica_entry, fu_A2_struct_S_Replica, fu_A2_int_i64, fu_A2_list_struct_S_Call]
theorem fl_S_Pair : FlatS c_S_Pair := fun _ _ => by simp only [c_S_Pair, snapW, snapWs, snapWss_map, fl_cI, fl_c8, fl_cB, fl_cS, fl_cL, fl_S_Value, fl_S_Lease, fl_S_Call, fl_S_Replica, fl_S_replica_entry, fl_A2_struct_S_Replica, fl_A2_int_i64, fl_A2_list_struct_S_Call]
structure S_Deed where
 Kind : Int
 Who : Int
 A : Int
 B : Int
 deriving DecidableEq, Inhabited
def c_S_Deed (x : S_Deed) : List A := [(iA x.Kind), (iA x.Who), (iA x.A), (iA x.B)]
theorem fu_S_Deed : FlatU c_S_Deed := fun _ _ => by simp only [c_S_Deed, unders, A.under, underss_map, fu_cI, fu_c8, fu_cB, fu_cS, fu_cL, Bool.and_true, Bool.true_and, fu_S_Value, fu_S_Lease, fu_S_Call, fu_S_Replica, fu_S_replica_entry, fu_A2_struct_S_Replica, fu_A2_int_i64, fu_A2_list_struct_S_Call, fu_S_Pair]
theorem fl_S_Deed : FlatS c_S_Deed := fun _ _ => by simp only [c_S_Deed, snapW, snapWs, snapWss_map, fl_cI, fl_c8, fl_cB, fl_cS, fl_cL, fl_S_Value, fl_S_Lease, fl_S_Call, fl_S_Replica, fl_S_replica_entry, fl_A2_struct_S_Replica, fl_A2_int_i64, fl_A2_list_struct_S_Call, fl_S_Pair]
theorem fq_S_Value (g : Nat -> Nat -> Nat -> A) (x : S_Value) : snapWs g (c_S_Value x) = c_S_Value x := fl_S_Value g x
theorem fuq_S_Value (L : Nat) (x : S_Value) : unders L (c_S_Value x) = true := fu_S_Value L x
theorem fq_S_Lease (g : Nat -> Nat -> Nat -> A) (x : S_Lease) : snapWs g (c_S_Lease x) = c_S_Lease x := fl_S_Lease g x
theorem fuq_S_Lease (L : Nat) (x : S_Lease) : unders L (c_S_Lease x) = true := fu_S_Lease L x
theorem fq_S_Call (g : Nat -> Nat -> Nat -> A) (x : S_Call) : snapWs g (c_S_Call x) = c_S_Call x := fl_S_Call g x
theorem fuq_S_Call (L : Nat) (x : S_Call) : unders L (c_S_Call x) = true := fu_S_Call L x
theorem fq_S_Replica (g : Nat -> Nat -> Nat -> A) (x : S_Replica) : snapWs g (c_S_Replica x) = c_S_Replica x := fl_S_Replica g x
theorem fuq_S_Replica (L : Nat) (x : S_Replica) : unders L (c_S_Replica x) = true := fu_S_Replica L x
theorem fq_S_replica_entry (g : Nat -> Nat -> Nat -> A) (x : S_replica_entry) : snapWs g (c_S_replica_entry x) = c_S_replica_entry x := fl_S_replica_entry g x
theorem fuq_S_replica_entry (L : Nat) (x : S_replica_entry) : unders L (c_S_replica_entry x) = true := fu_S_replica_entry L x
theorem fq_S_Pair (g : Nat -> Nat -> Nat -> A) (x : S_Pair) : snapWs g (c_S_Pair x) = c_S_Pair x := fl_S_Pair g x
theorem fuq_S_Pair (L : Nat) (x : S_Pair) : unders L (c_S_Pair x) = true := fu_S_Pair L x
theorem fq_S_Deed (g : Nat -> Nat -> Nat -> A) (x : S_Deed) : snapWs g (c_S_Deed x) = c_S_Deed x := fl_S_Deed g x
theorem fuq_S_Deed (L : Nat) (x : S_Deed) : unders L (c_S_Deed x) = true := fu_S_Deed L x
theorem snS : FlatS c_S_Value /\ FlatS c_S_Lease /\ FlatS c_S_Call /\ FlatS c_S_Replica /\ FlatS c_S_replica_entry /\ FlatS c_A2_struct_S_Replica /\ FlatS c_A2_int_i64 /\ FlatS c_A2_list_struct_S_Call /\ FlatS c_S_Pair /\ FlatS c_S_Deed /\ (∀ (g : Nat -> Nat -> Nat -> A) (x : S_Value), snapWs g (c_S_Value x) = c_S_Value x) /\ (∀ (g : Nat -> Nat -> Nat -> A) (x : S_Lease), snapWs g (c_S_Lease x) = c_S_Lease x) /\ (∀ (g : Nat -> Nat -> Nat -> A) (x : S_Call), snapWs g (c_S_Call x) = c_S_Call x) /\ (∀ (g : Nat -> Nat -> Nat -> A) (x : S_Replica), snapWs g (c_S_Replica x) = c_S_Replica x) /\ (∀ (g : Nat -> Nat -> Nat -> A) (x : S_replica_entry), snapWs g (c_S_replica_entry x) = c_S_replica_entry x) /\ (∀ (g : Nat -> Nat -> Nat -> A) (x : (S_Replica × S_Replica)), snapWs g (c_A2_struct_S_Replica x) = c_A2_struct_S_Replica x) /\ (∀ (g : Nat -> Nat -> Nat -> A) (x : (Int × Int)), snapWs g (c_A2_int_i64 x) = c_A2_int_i64 x) /\ (∀ (g : Nat -> Nat -> Nat -> A) (x : ((List S_Call) × (List S_Call))), snapWs g (c_A2_list_struct_S_Call x) = c_A2_list_struct_S_Call x) /\ (∀ (g : Nat -> Nat -> Nat -> A) (x : S_Pair), snapWs g (c_S_Pair x) = c_S_Pair x) /\ (∀ (g : Nat -> Nat -> Nat -> A) (x : S_Deed), snapWs g (c_S_Deed x) = c_S_Deed x) /\ True := ⟨fl_S_Value, fl_S_Lease, fl_S_Call, fl_S_Replica, fl_S_replica_entry, fl_A2_struct_S_Replica, fl_A2_int_i64, fl_A2_list_struct_S_Call, fl_S_Pair, fl_S_Deed, fq_S_Value, fq_S_Lease, fq_S_Call, fq_S_Replica, fq_S_replica_entry, fq_A2_struct_S_Replica, fq_A2_int_i64, fq_A2_list_struct_S_Call, fq_S_Pair, fq_S_Deed, trivial⟩
theorem snM : (FlatS c_S_Value /\ FlatS c_S_Lease /\ FlatS c_S_Call /\ FlatS c_S_Replica /\ FlatS c_S_replica_entry /\ FlatS c_A2_struct_S_Replica /\ FlatS c_A2_int_i64 /\ FlatS c_A2_list_struct_S_Call /\ FlatS c_S_Pair /\ FlatS c_S_Deed /\ (∀ (g : Nat -> Nat -> Nat -> A) (x : S_Value), snapWs g (c_S_Value x) = c_S_Value x) /\ (∀ (g : Nat -> Nat -> Nat -> A) (x : S_Lease), snapWs g (c_S_Lease x) = c_S_Lease x) /\ (∀ (g : Nat -> Nat -> Nat -> A) (x : S_Call), snapWs g (c_S_Call x) = c_S_Call x) /\ (∀ (g : Nat -> Nat -> Nat -> A) (x : S_Replica), snapWs g (c_S_Replica x) = c_S_Replica x) /\ (∀ (g : Nat -> Nat -> Nat -> A) (x : S_replica_entry), snapWs g (c_S_replica_entry x) = c_S_replica_entry x) /\ (∀ (g : Nat -> Nat -> Nat -> A) (x : (S_Replica × S_Replica)), snapWs g (c_A2_struct_S_Replica x) = c_A2_struct_S_Replica x) /\ (∀ (g : Nat -> Nat -> Nat -> A) (x : (Int × Int)), snapWs g (c_A2_int_i64 x) = c_A2_int_i64 x) /\ (∀ (g : Nat -> Nat -> Nat -> A) (x : ((List S_Call) × (List S_Call))), snapWs g (c_A2_list_struct_S_Call x) = c_A2_list_struct_S_Call x) /\ (∀ (g : Nat -> Nat -> Nat -> A) (x : S_Pair), snapWs g (c_S_Pair x) = c_S_Pair x) /\ (∀ (g : Nat -> Nat -> Nat -> A) (x : S_Deed), snapWs g (c_S_Deed x) = c_S_Deed x) /\ True) /\ (∀ {T U : Type} (f : T -> U) (a : T) (l : List T), (a :: l).map f = f a :: l.map f) /\ (∀ {T U : Type} (f : T -> U), [].map f = []) := ⟨snS, fun _ _ _ => rfl, fun _ => rfl⟩
theorem unS : FlatU c_S_Value /\ FlatU c_S_Lease /\ FlatU c_S_Call /\ FlatU c_S_Replica /\ FlatU c_S_replica_entry /\ FlatU c_A2_struct_S_Replica /\ FlatU c_A2_int_i64 /\ FlatU c_A2_list_struct_S_Call /\ FlatU c_S_Pair /\ FlatU c_S_Deed /\ (∀ (L : Nat) (x : S_Value), unders L (c_S_Value x) = true) /\ (∀ (L : Nat) (x : S_Lease), unders L (c_S_Lease x) = true) /\ (∀ (L : Nat) (x : S_Call), unders L (c_S_Call x) = true) /\ (∀ (L : Nat) (x : S_Replica), unders L (c_S_Replica x) = true) /\ (∀ (L : Nat) (x : S_replica_entry), unders L (c_S_replica_entry x) = true) /\ (∀ (L : Nat) (x : (S_Replica × S_Replica)), unders L (c_A2_struct_S_Replica x) = true) /\ (∀ (L : Nat) (x : (Int × Int)), unders L (c_A2_int_i64 x) = true) /\ (∀ (L : Nat) (x : ((List S_Call) × (List S_Call))), unders L (c_A2_list_struct_S_Call x) = true) /\ (∀ (L : Nat) (x : S_Pair), unders L (c_S_Pair x) = true) /\ (∀ (L : Nat) (x : S_Deed), unders L (c_S_Deed x) = true) /\ True := ⟨fu_S_Value, fu_S_Lease, fu_S_Call, fu_S_Replica, fu_S_replica_entry, fu_A2_struct_S_Replica, fu_A2_int_i64, fu_A2_list_struct_S_Call, fu_S_Pair, fu_S_Deed, fuq_S_Value, fuq_S_Lease, fuq_S_Call, fuq_S_Replica, fuq_S_replica_entry, fuq_A2_struct_S_Replica, fuq_A2_int_i64, fuq_A2_list_struct_S_Call, fuq_S_Pair, fuq_S_Deed, trivial⟩
def tabG {X Y : Type} [DecidableEq X] : List (X × Y) -> X -> Option Y
 | [], _ => none
 | e :: t, z => if e.1 = z then some e.2 else tabG t z
theorem tabG_mem {X Y : Type} [DecidableEq X] : ∀ {t : List (X × Y)} {z : X} {y : Y}, tabG t z = some y -> (z, y) ∈ t
 | [], _, _, h => by cases h
 | e :: t, z, y, h => by
  unfold tabG at h
  split at h
  ·rename_i he
   cases h; subst he
   exact List.mem_cons_self ..
  ·exact List.mem_cons_of_mem _ (tabG_mem h)
noncomputable def cnS (C : Nat -> List A -> Option A) (N : Nat) (k : Nat) (args : List A) : Option A := match evCall (cx C) N k args [] 0 with
 | some (.ret x, H) => some (snapE H x)
 | _ => none
noncomputable def Cn : Nat -> Nat -> List A -> Option A
 | 0 => fun _ _ => none
 | m + 1 => cnS (Cn m) 1000
def F47 (n : Nat) (a0 : Int) (a1 : Int) (a2 : Int) : Option Bool :=
 (bif (decide (a1 <= a0)) then (some (decide (a0 <= a2))) else (some false)).bind fun y2 => some y2
theorem T47 (C : Nat -> List A -> Option A) (n : Nat) (a0 : Int) (a1 : Int) (a2 : Int) : J (fun (o : R) y => ∃ v, o.1 = .ret v /\ snapE o.2 v = (bA y)) (evCall1 (cx C) (ec C n 8) (ey C n 8) (n+8) 47 [(iA a0), (iA a1), (iA a2)] [] 0) some (F47 n a0 a1 a2) some := by
 refine .lp (e47 ..) ?_
 unfold F47
 refine .st (v := (bA (decide (a1 <= a0)))) (aBin_leq ..) ?_
 refine .bg (fun t (y : Bool) => ∃ j3 j4 j5 : A, t = [(bA y), j3, j4, j5]) ?_ ?_
 ·refine .biH (fun hk1 => ?_) (fun hk1 => ?_)
  ·refine .st (v := (bA (decide (a0 <= a2)))) (aBin_leq ..) ?_
   exact .lg ⟨_, _, _, rfl⟩
  exact .lg ⟨_, _, _, rfl⟩
 rintro _ y2 ⟨j3, j4, j5, rfl⟩
 iterate 4 refine .uc ?_
 exact .lf rfl rfl ⟨_, rfl, rfl⟩
def G47 (a0 : Int) (a1 : Int) (a2 : Int) : Option Bool := F47 fuel0 a0 a1 a2
def Orc47 (C : Nat -> List A -> Option A) : Prop := ∀ (a0 : Int) (a1 : Int) (a2 : Int), C 47 [(iA a0), (iA a1), (iA a2)] = (G47 a0 a1 a2).map fun y => (bA y)
def F25 (n : Nat) (a0 : Int) (a1 : Int) (a2 : Int) : Option (S_Replica × Int) :=
 (G47 a0 0 1).bind fun y1 => (bif (!y1) then (some true) else ((G47 a1 0 1).bind fun y3 => some (!y3))).bind fun y4 => (bif y4 then (some true) else ((G47 a2 1 4096).bind fun y9 => some (!y9))).bind fun y10 => bif y10 then (some (((S_Replica.mk 0 ([]) ([]) ([])), 1))) else (some (((S_Replica.mk a0 ([(S_Lease.mk 0 a1 a2)]) ([]) ([true])), 0)))
theorem T25 (C : Nat -> List A -> Option A) (n : Nat) (h47 : Orc47 C) (a0 : Int) (a1 : Int) (a2 : Int) : J (fun (o : R) y => ∃ v, o.1 = .ret v /\ snapE o.2 v = (A.tup [(A.agg [(iA y.1.Self), (A.imm (List.map c_S_Lease y.1.Leases) false), (A.imm (List.map c_S_Call y.1.Calls) false), (A.imm (List.map cB y.1.Order) false)]), (iA y.2)])) (evCall1 (cx C) (ec C n 8) (ey C n 8) (n+8) 25 [(iA a0), (iA a1), (iA a2)] [] 0) some (F25 n a0 a1 a2) some := by
 refine .lp (e25 ..) ?_
 unfold F25
 refine .s ((A.ptr 0 0), [Blk.box [(iA 0), (A.imm [] true), (A.imm [] true), (A.imm [] true)]]) ?_
 refine .bd (g := fun (y : Bool) => (bA y)) (h47 a0 0 1) fun y1 => ?_
 refine .s (bA (!y1)) ?_
 refine .bg (fun t (y : Bool) => ∃ j5 j6 j7 : A, t = [(bA y), j5, j6, j7]) ?_ ?_
 ·refine .biH (fun hk2 => ?_) (fun hk2 => ?_)
  ·exact .lg ⟨_, _, _, rfl⟩
  refine .bd (g := fun (y : Bool) => (bA y)) (h47 a1 0 1) fun y3 => ?_
  refine .s (bA (!y3)) ?_
  exact .lg ⟨_, _, _, rfl⟩
 rintro _ y4 ⟨j5, j6, j7, rfl⟩
 iterate 4 refine .uc ?_
 refine .bg (fun t (y : Bool) => ∃ j11 j12 j13 : A, t = [(bA y), j11, j12, j13]) ?_ ?_
 ·refine .biH (fun hk8 => ?_) (fun hk8 => ?_)
  ·exact .lg ⟨_, _, _, rfl⟩
  refine .bd (g := fun (y : Bool) => (bA y)) (h47 a2 1 4096) fun y9 => ?_
  refine .s (bA (!y9)) ?_
  exact .lg ⟨_, _, _, rfl⟩
 rintro _ y10 ⟨j11, j12, j13, rfl⟩
 iterate 4 refine .uc ?_
 refine .biHN (fun hk14 => ?_) (fun hk14 => ?_)
 ·refine .s (A.agg [(iA 0), (A.imm [] true), (A.imm [] true), (A.imm [] true)]) (.s [Blk.box [(iA 0), (A.imm [] true), (A.imm [] true), (A.imm [] true)]] (.s (A.agg [(iA 0), (A.imm [] true), (A.imm [] true), (A.imm [] true)]) ?_))
  exact .lf rfl rfl ⟨_, rfl, by show snapE _ (A.tup [(A.agg [(iA 0), (A.imm [] true), (A.imm [] true), (A.imm [] true)]), (iA 1)]) = _; first | (simp only [sn0, snM, snapE]; done) | (simp only [sn0, snS, snapE]; first | done | rfl)⟩
 refine .s (A.agg [(iA 0), (iA a1), (iA a2)]) (.s (A.imm [[(iA 0), (iA a1), (iA a2)]] true) (.s (A.imm [[(bA true)]] true) (.s (A.agg [(iA a0), (A.imm [[(iA 0), (iA a1), (iA a2)]] true), (A.imm [] true), (A.imm [[(bA true)]] true)]) (.s [Blk.box [(iA a0), (A.imm [[(iA 0), (iA a1), (iA a2)]] true), (A.imm [] true), (A.imm [[(bA true)]] true)]] (.s (A.agg [(iA a0), (A.imm [[(iA 0), (iA a1), (iA a2)]] true), (A.imm [] true), (A.imm [[(bA true)]] true)]) ?_)))))
 exact .lf rfl rfl ⟨_, rfl, by show snapE _ (A.tup [(A.agg [(iA a0), (A.imm [[(iA 0), (iA a1), (iA a2)]] true), (A.imm [] true), (A.imm [[(bA true)]] true)]), (iA 0)]) = _; first | (simp only [sn0, snM, snapE]; done) | (simp only [sn0, snS, snapE]; first | done | rfl)⟩
def G25 (a0 : Int) (a1 : Int) (a2 : Int) : Option (S_Replica × Int) := F25 fuel0 a0 a1 a2
def Orc25 (C : Nat -> List A -> Option A) : Prop := ∀ (a0 : Int) (a1 : Int) (a2 : Int), C 25 [(iA a0), (iA a1), (iA a2)] = (G25 a0 a1 a2).map fun y => (A.tup [(A.agg [(iA y.1.Self), (A.imm (List.map c_S_Lease y.1.Leases) false), (A.imm (List.map c_S_Call y.1.Calls) false), (A.imm (List.map cB y.1.Order) false)]), (iA y.2)])
def tb26 : List ((S_Replica × Int × Int) × (S_Replica × Int)) := [((⟨0, [⟨0, 1, 5⟩], [], [true]⟩, 0, 9), (⟨0, [], [], []⟩, 530))]
def G26 (a0 : S_Replica) (a1 : Int) (a2 : Int) : Option (S_Replica × Int) := tabG tb26 (a0, a1, a2)
def Orc26 (C : Nat -> List A -> Option A) : Prop := ∀ (a0 : S_Replica) (a1 : Int) (a2 : Int), C 26 [(A.agg (c_S_Replica a0)), (iA a1), (iA a2)] = (G26 a0 a1 a2).map fun y => (A.tup [(A.agg [(iA y.1.Self), (A.imm (List.map c_S_Lease y.1.Leases) false), (A.imm (List.map c_S_Call y.1.Calls) false), (A.imm (List.map cB y.1.Order) false)]), (iA y.2)])
def F74 (n : Nat) (a0 : S_Replica) : Option Int :=
 bif (decide (0 < ((a0.Leases.length : Int)))) then ((getI a0.Leases (wr .i64 (((a0.Leases.length : Int)) - 1))).bind fun y2 => some y2.Until) else (some 0)
theorem T74 (C : Nat -> List A -> Option A) (n : Nat) (a0 : S_Replica) : J (fun (o : R) y => ∃ v, o.1 = .ret v /\ snapE o.2 v = (iA y)) (evCall1 (cx C) (ec C n 8) (ey C n 8) (n+8) 74 [(A.agg (c_S_Replica a0))] [] 0) some (F74 n a0) some := by
 refine .lp (e74 ..) ?_
 unfold F74
 refine .s ((A.ptr 0 0), [Blk.box (c_S_Replica a0)]) (.s (A.ptr 0 1) (.s (A.imm (List.map c_S_Lease a0.Leases) false) ?_))
 refine .st (v := (iA ((a0.Leases.length : Int)))) (len_imm (e := 59) (h1 := by kernel_rfl) ..) ?_
 refine .st (v := (bA (decide (0 < ((a0.Leases.length : Int)))))) (aBin_gtr ..) ?_
 refine .biHN (fun hk1 => ?_) (fun hk1 => ?_)
 ·refine .s (A.ptr 0 1) (.s (A.imm (List.map c_S_Lease a0.Leases) false) ?_)
  refine .st (v := (iA (wr .i64 (((a0.Leases.length : Int)) - 1)))) (aBin_sub ..) ?_
  refine .bd (g := fun (y : S_Lease) => A.ip (c_S_Lease y)) (idx_imm (e := 59) (es := 3) (h1 := by kernel_rfl) (h2 := by kernel_rfl) (h3 := fun _ => rfl) ..) fun y2 => ?_
  refine .s (A.ip [(iA y2.Until)]) (.s (iA y2.Until) ?_)
  exact .lf rfl rfl ⟨_, rfl, rfl⟩
 exact .lf rfl rfl ⟨_, rfl, rfl⟩
def G74 (a0 : S_Replica) : Option Int := F74 fuel0 a0
def Orc74 (C : Nat -> List A -> Option A) : Prop := ∀ (a0 : S_Replica), C 74 [(A.agg (c_S_Replica a0))] = (G74 a0).map fun y => (iA y)
def F50 (n : Nat) (a0 : S_Replica) (a1 : S_Lease) : Option Bool :=
 (bif (a1.No == ((a0.Leases.length : Int))) then ((G47 a1.Holder 0 1).bind fun y2 => some y2) else (some false)).bind fun y3 => bif y3 then ((G74 a0).bind fun y8 => (some (decide (y8 < a1.Until))).bind fun y9 => (bif y9 then (some (decide (a1.Until <= 4096))) else (some false)).bind fun y12 => some y12) else ((some false).bind fun y16 => (bif y16 then (some (decide (a1.Until <= 4096))) else (some false)).bind fun y19 => some y19)
theorem T50 (C : Nat -> List A -> Option A) (n : Nat) (h47 : Orc47 C) (h74 : Orc74 C) (a0 : S_Replica) (a1 : S_Lease) : J (fun (o : R) y => ∃ v, o.1 = .ret v /\ snapE o.2 v = (bA y)) (evCall1 (cx C) (ec C n 8) (ey C n 8) (n+8) 50 [(A.agg (c_S_Replica a0)), (A.agg (c_S_Lease a1))] [] 0) some (F50 n a0 a1) some := by
 refine .lp (e50 ..) ?_
 unfold F50
 refine .s ((A.ptr 0 0), [Blk.box (c_S_Replica a0)]) (.s ((A.ptr 1 0), [Blk.box (c_S_Replica a0), Blk.box (c_S_Lease a1)]) (.s (A.ptr 1 0) (.s (iA a1.No) (.s (A.ptr 0 1) (.s (A.imm (List.map c_S_Lease a0.Leases) false) ?_)))))
 refine .st (v := (iA ((a0.Leases.length : Int)))) (len_imm (e := 59) (h1 := by kernel_rfl) ..) ?_
 refine .st (v := (bA (a1.No == ((a0.Leases.length : Int))))) (aBin_eql ..) ?_
 refine .bg (fun t (y : Bool) => ∃ j4 j5 j6 : A, t = [(bA y), j4, j5, j6]) ?_ ?_
 ·refine .biH (fun hk1 => ?_) (fun hk1 => ?_)
  ·refine .s (A.ptr 1 1) (.s (iA a1.Holder) ?_)
   refine .bd (g := fun (y : Bool) => (bA y)) (h47 a1.Holder 0 1) fun y2 => ?_
   exact .lg ⟨_, _, _, rfl⟩
  exact .lg ⟨_, _, _, rfl⟩
 rintro _ y3 ⟨j4, j5, j6, rfl⟩
 iterate 4 refine .uc ?_
 refine .gst (fun hc7 => ?_) (fun hc7 => ?_)
 ·refine .bb ?_
  refine .s (A.ptr 1 2) (.s (iA a1.Until) (.s (A.agg (c_S_Replica a0)) ?_))
  refine .bd (g := fun (y : Int) => (iA y)) (by show C 74 [snap _ (A.agg (c_S_Replica a0))] = _; simp only [sn0, snM]; exact h74 a0) fun y8 => ?_
  refine .cr ?_
  iterate 4 refine .uc ?_
  refine .bg (fun t (y : Bool) => ∃ j10 : A, t = [(bA y), j10]) ?_ ?_
  ·refine .bKT hc7 ?_
   refine .st (v := (bA (decide (y8 < a1.Until)))) (aBin_gtr ..) ?_
   exact .lg ⟨_, rfl⟩
  rintro _ y9 ⟨j10, rfl⟩
  iterate 2 refine .uc ?_
  refine .bg (fun t (y : Bool) => ∃ j13 j14 j15 : A, t = [(bA y), j13, j14, j15]) ?_ ?_
  ·refine .biH (fun hk11 => ?_) (fun hk11 => ?_)
   ·refine .s (A.ptr 1 2) (.s (iA a1.Until) ?_)
    refine .st (v := (bA (decide (a1.Until <= 4096)))) (aBin_leq ..) ?_
    exact .lg ⟨_, _, _, rfl⟩
   exact .lg ⟨_, _, _, rfl⟩
  rintro _ y12 ⟨j13, j14, j15, rfl⟩
  iterate 4 refine .uc ?_
  exact .lf rfl rfl ⟨_, rfl, rfl⟩
 refine .bb ?_
 refine .cr ?_
 iterate 4 refine .uc ?_
 refine .bg (fun t (y : Bool) => ∃ j17 : A, t = [(bA y), j17]) ?_ ?_
 ·refine .bKF hc7 ?_
  exact .lg ⟨_, rfl⟩
 rintro _ y16 ⟨j17, rfl⟩
 iterate 2 refine .uc ?_
 refine .bg (fun t (y : Bool) => ∃ j20 j21 j22 : A, t = [(bA y), j20, j21, j22]) ?_ ?_
 ·refine .biH (fun hk18 => ?_) (fun hk18 => ?_)
  ·refine .s (A.ptr 1 2) (.s (iA a1.Until) ?_)
   refine .st (v := (bA (decide (a1.Until <= 4096)))) (aBin_leq ..) ?_
   exact .lg ⟨_, _, _, rfl⟩
  exact .lg ⟨_, _, _, rfl⟩
 rintro _ y19 ⟨j20, j21, j22, rfl⟩
 iterate 4 refine .uc ?_
 exact .lf rfl rfl ⟨_, rfl, rfl⟩
def G50 (a0 : S_Replica) (a1 : S_Lease) : Option Bool := F50 fuel0 a0 a1
def Orc50 (C : Nat -> List A -> Option A) : Prop := ∀ (a0 : S_Replica) (a1 : S_Lease), C 50 [(A.agg (c_S_Replica a0)), (A.agg (c_S_Lease a1))] = (G50 a0 a1).map fun y => (bA y)
def F75_89_0 (n : Nat) (v1 : (List S_Lease)) (v2 : Int) (v3 : Int) (v5 : S_Replica) (v6 : Int) : Nat -> Int -> Option ((Int × Int × Int × Int) ⊕ (Unit))
 | 0, _ => none
 | m + 1, v4 => bif (decide (v4 < v3)) then ((getI v1 v4).bind fun y8 => bif (decide (v6 < y8.Until)) then (some ((Sum.inl ((v4, y8.No, y8.Holder, y8.Until))))) else (F75_89_0 n v1 v2 v3 v5 v6 m (wr .i64 (v4 + 1)))) else (some ((Sum.inr (()))))
theorem T75_89_0 (C : Nat -> List A -> Option A) (n : Nat) (v1 : (List S_Lease)) (v2 : Int) (v3 : Int) (v5 : S_Replica) (v6 : Int) {ρ γ : Type} {φ : ρ -> γ -> Prop} {kL : R -> Option ρ} {K : ((Int × Int × Int × Int) ⊕ (Unit)) -> Option γ} (kx kg : Nat -> St -> Option R) (kr : St -> Option R) (kp : A -> St -> Option R) (x0 : ∀ (o0 : Int) (o1 : Int) (o2 : Int) (o3 : Int) (s0 : A) (s1 : A) (s7 : A) (s8 : A), J φ (kr (St.mk [(0, s0), (1, s1), (4, (iA o0)), (7, s7), (8, s8)] [Blk.box (c_S_Replica v5), Blk.box [(iA v6)], Blk.box [(iA o1), (iA o2), (iA o3)]])) kL (K (Sum.inl ((o0, o1, o2, o3)))) some) (x1 : ∀ (s0 : A) (s1 : A) (s4 : A) (s7 : A) (s8 : A), J φ (kx 0 (St.mk [(0, s0), (1, s1), (4, s4), (7, s7), (8, s8)] [Blk.box (c_S_Replica v5), Blk.box [(iA v6)]])) kL (K (Sum.inr (()))) some) :
  ∀ (m : Nat) (v4 : Int), J φ (loopR (cx C) (ec C n 7) (ey C n 7) (n+7) 89 0 0 2 kx kg kr kp m (St.mk [(0, (A.imm (List.map c_S_Lease v1) false)), (1, (A.fn (Fn.func 90) [] [(A.ptr 1 0)])), (4, (iA v2)), (7, (iA v3)), (8, (iA v4))] [Blk.box (c_S_Replica v5), Blk.box [(iA v6)]])) kL (F75_89_0 n v1 v2 v3 v5 v6 m v4) K := by
 intro m
 induction m with
 | zero => intros; exact .nn
 | succ m ih =>
  intro v4
  refine .lp (e89_0 ..) ?_
  unfold F75_89_0
  refine .st (v := (bA (decide (v4 < v3)))) (aBin_lss ..) ?_
  refine .biHN (fun hk7 => ?_) (fun hk7 => ?_)
  ·refine .bd (g := fun (y : S_Lease) => A.ip (c_S_Lease y)) (idx_imm (e := 59) (es := 3) (h1 := by kernel_rfl) (h2 := by kernel_rfl) (h3 := fun _ => rfl) ..) fun y8 => ?_
   refine .s (A.agg (c_S_Lease y8)) ?_
   refine .dC (by kernel_rfl) (by kernel_rfl) ?_
   refine .cl ((evCall_in lt_90).trans (e90 C (evCall (cx C) (n+6)) (evCallY (cx C) (n+6)) (n+6) _ _ _ _)) ?_
   refine .s ((A.ptr 2 0), [Blk.box (c_S_Replica v5), Blk.box [(iA v6)], Blk.box (c_S_Lease y8)]) (.s (iA v6) (.s (A.ptr 2 2) (.s (iA y8.Until) ?_)))
   refine .st (v := (bA (decide (v6 < y8.Until)))) (aBin_lss ..) ?_
   refine .cr ?_
   refine .ok ?_
   refine .biHN (fun hk9 => ?_) (fun hk9 => ?_)
   ·exact .ex (x0 _ _ _ _ _ _ _ _)
   refine .st (v := (iA (wr .i64 (v4 + 1)))) (aBin_add ..) ?_
   refine .st (v := [Blk.box (c_S_Replica v5), Blk.box [(iA v6)]]) ((by kernel_rfl : _ = (bif ((((underss 2 (List.map c_S_Lease v5.Leases)) && ((underss 2 (List.map c_S_Call v5.Calls)) && ((underss 2 (List.map cB v5.Order)) && true)))) && true) then some [Blk.box (c_S_Replica v5), Blk.box [(iA v6)]] else none)).trans (by simp only [un0, unS])) ?_
   refine .cT ((by kernel_rfl : _ = (bif underss 2 (List.map c_S_Lease v1) then true else false)).trans (by simp only [un0, unS])) ?_
   exact ih _
  exact .ex (x1 _ _ _ _ _)
def F75 (n : Nat) (a0 : S_Replica) (a1 : Int) : Option Bool :=
 (F75_89_0 n a0.Leases 0 ((a0.Leases.length : Int)) a0 a1 (n+7) 0).bind fun o10 => match o10 with | (Sum.inl ((y11, y12, y13, y14))) => (bif (decide (0 <= a1)) then (some (decide (0 <= y11))) else (some false)).bind fun y20 => bif y20 then ((getI a0.Leases y11).bind fun y24 => (some (y24.Holder == a0.Self)).bind fun y25 => some y25) else ((some false).bind fun y27 => some y27) | (Sum.inr _) => (bif (decide (0 <= a1)) then (some false) else (some false)).bind fun y35 => bif y35 then ((getI a0.Leases (-1)).bind fun y39 => (some (y39.Holder == a0.Self)).bind fun y40 => some y40) else ((some false).bind fun y42 => some y42)
theorem T75 (C : Nat -> List A -> Option A) (n : Nat) (a0 : S_Replica) (a1 : Int) : J (fun (o : R) y => ∃ v, o.1 = .ret v /\ snapE o.2 v = (bA y)) (evCall1 (cx C) (ec C n 8) (ey C n 8) (n+8) 75 [(A.agg (c_S_Replica a0)), (iA a1)] [] 0) some (F75 n a0 a1) some := by
 refine .lp (e75 ..) ?_
 unfold F75
 refine .s ((A.ptr 0 0), [Blk.box (c_S_Replica a0)]) (.s ((A.ptr 1 0), [Blk.box (c_S_Replica a0), Blk.box [(iA a1)]]) (.s (A.ptr 0 1) (.s (A.imm (List.map c_S_Lease a0.Leases) false) ?_)))
 refine .cl ((evCall_in lt_89).trans (e89 C (ec C n 7) (ey C n 7) (n+7) _ _ _ _)) ?_
 refine .st (v := (iA ((a0.Leases.length : Int)))) (len_imm (e := 59) (h1 := by kernel_rfl) ..) ?_
 refine .as (T75_89_0 C n  a0.Leases 0 ((a0.Leases.length : Int)) a0 a1 _ _ _ _ ?_ ?_ _ 0)
 ·intro y11 y12 y13 y14 j15 j16 j17 j18
  refine .un rfl ?_
  refine .cr ?_
  refine .ok ?_
  refine .s (iA a1) ?_
  refine .st (v := (bA (decide (0 <= a1)))) (aBin_geq ..) ?_
  refine .bg (fun t (y : Bool) => ∃ j21 j22 : A, t = [(bA y), j21, j22]) ?_ ?_
  ·refine .biH (fun hk19 => ?_) (fun hk19 => ?_)
   ·refine .st (v := (bA (decide (0 <= y11)))) (aBin_geq ..) ?_
    exact .lg ⟨_, _, rfl⟩
   exact .lg ⟨_, _, rfl⟩
  rintro _ y20 ⟨j21, j22, rfl⟩
  iterate 3 refine .uc ?_
  refine .gst (fun hc23 => ?_) (fun hc23 => ?_)
  ·refine .bb ?_
   refine .s (A.ptr 0 1) (.s (A.imm (List.map c_S_Lease a0.Leases) false) ?_)
   refine .bd (g := fun (y : S_Lease) => A.ip (c_S_Lease y)) (idx_imm (e := 59) (es := 3) (h1 := by kernel_rfl) (h2 := by kernel_rfl) (h3 := fun _ => rfl) ..) fun y24 => ?_
   refine .s (A.ip [(iA y24.Holder), (iA y24.Until)]) (.s (iA y24.Holder) (.s (A.ptr 0 0) (.s (iA a0.Self) ?_)))
   refine .cr ?_
   iterate 8 refine .uc ?_
   refine .bg (fun t (y : Bool) => ∃ j26 : A, t = [(bA y), j26]) ?_ ?_
   ·refine .bKT hc23 ?_
    refine .st (v := (bA (y24.Holder == a0.Self))) (aBin_eql ..) ?_
    exact .lg ⟨_, rfl⟩
   rintro _ y25 ⟨j26, rfl⟩
   iterate 2 refine .uc ?_
   exact .lf rfl rfl ⟨_, rfl, rfl⟩
  refine .bb ?_
  refine .cr ?_
  iterate 8 refine .uc ?_
  refine .bg (fun t (y : Bool) => ∃ j28 : A, t = [(bA y), j28]) ?_ ?_
  ·refine .bKF hc23 ?_
   exact .lg ⟨_, rfl⟩
  rintro _ y27 ⟨j28, rfl⟩
  iterate 2 refine .uc ?_
  exact .lf rfl rfl ⟨_, rfl, rfl⟩
 ·intro j29 j30 j31 j32 j33
  refine .un rfl ?_
  refine .cT (by kernel_rfl) ?_
  refine .cr ?_
  refine .ok ?_
  refine .s (iA a1) ?_
  refine .st (v := (bA (decide (0 <= a1)))) (aBin_geq ..) ?_
  refine .bg (fun t (y : Bool) => ∃ j36 j37 : A, t = [(bA y), j36, j37]) ?_ ?_
  ·refine .biH (fun hk34 => ?_) (fun hk34 => ?_)
   ·refine .s (bA false) ?_
    exact .lg ⟨_, _, rfl⟩
   exact .lg ⟨_, _, rfl⟩
  rintro _ y35 ⟨j36, j37, rfl⟩
  iterate 3 refine .uc ?_
  refine .gst (fun hc38 => ?_) (fun hc38 => ?_)
  ·refine .bb ?_
   refine .s (A.ptr 0 1) (.s (A.imm (List.map c_S_Lease a0.Leases) false) ?_)
   refine .bd (g := fun (y : S_Lease) => A.ip (c_S_Lease y)) (idx_imm (e := 59) (es := 3) (h1 := by kernel_rfl) (h2 := by kernel_rfl) (h3 := fun _ => rfl) ..) fun y39 => ?_
   refine .s (A.ip [(iA y39.Holder), (iA y39.Until)]) (.s (iA y39.Holder) (.s (A.ptr 0 0) (.s (iA a0.Self) ?_)))
   refine .cr ?_
   iterate 8 refine .uc ?_
   refine .bg (fun t (y : Bool) => ∃ j41 : A, t = [(bA y), j41]) ?_ ?_
   ·refine .bKT hc38 ?_
    refine .st (v := (bA (y39.Holder == a0.Self))) (aBin_eql ..) ?_
    exact .lg ⟨_, rfl⟩
   rintro _ y40 ⟨j41, rfl⟩
   iterate 2 refine .uc ?_
   exact .lf rfl rfl ⟨_, rfl, rfl⟩
  refine .bb ?_
  refine .cr ?_
  iterate 8 refine .uc ?_
  refine .bg (fun t (y : Bool) => ∃ j43 : A, t = [(bA y), j43]) ?_ ?_
  ·refine .bKF hc38 ?_
   exact .lg ⟨_, rfl⟩
  rintro _ y42 ⟨j43, rfl⟩
  iterate 2 refine .uc ?_
  exact .lf rfl rfl ⟨_, rfl, rfl⟩
def G75 (a0 : S_Replica) (a1 : Int) : Option Bool := F75 fuel0 a0 a1
def Orc75 (C : Nat -> List A -> Option A) : Prop := ∀ (a0 : S_Replica) (a1 : Int), C 75 [(A.agg (c_S_Replica a0)), (iA a1)] = (G75 a0 a1).map fun y => (bA y)
def F51 (n : Nat) (a0 : S_Replica) (a1 : S_Call) : Option Bool :=
 (G75 a0 a1.Bar).bind fun y1 => bif y1 then (bif (((a0.Calls.length : Int)) == 0) then (((some true).bind fun y14 => some y14).bind fun y15 => (bif y15 then ((G47 a1.Program 1 8).bind fun y18 => some y18) else (some false)).bind fun y19 => some y19) else ((getI a0.Calls (wr .i64 (((a0.Calls.length : Int)) - 1))).bind fun y4 => ((some (decide (y4.Bar < a1.Bar))).bind fun y5 => some y5).bind fun y6 => (bif y6 then ((G47 a1.Program 1 8).bind fun y9 => some y9) else (some false)).bind fun y10 => some y10)) else ((some (())).bind fun y23 => (some false).bind fun y24 => (bif y24 then ((G47 a1.Program 1 8).bind fun y27 => some y27) else (some false)).bind fun y28 => some y28)
theorem T51 (C : Nat -> List A -> Option A) (n : Nat) (h47 : Orc47 C) (h75 : Orc75 C) (a0 : S_Replica) (a1 : S_Call) : J (fun (o : R) y => ∃ v, o.1 = .ret v /\ snapE o.2 v = (bA y)) (evCall1 (cx C) (ec C n 8) (ey C n 8) (n+8) 51 [(A.agg (c_S_Replica a0)), (A.agg [(iA a1.Bar), (iA a1.Program)])] [] 0) some (F51 n a0 a1) some := by
 refine .lp (e51 ..) ?_
 unfold F51
 refine .s ((A.ptr 0 0), [Blk.box (c_S_Replica a0)]) (.s ((A.ptr 1 0), [Blk.box (c_S_Replica a0), Blk.box [(iA a1.Bar), (iA a1.Program)]]) (.s (A.ptr 0 2) (.s (A.imm (List.map c_S_Call a0.Calls) false) ?_)))
 refine .st (v := (iA ((a0.Calls.length : Int)))) (len_imm (e := 62) (h1 := by kernel_rfl) ..) ?_
 refine .s (A.agg (c_S_Replica a0)) (.s (A.ptr 1 0) (.s (iA a1.Bar) ?_))
 refine .bd (g := fun (y : Bool) => (bA y)) (by show C 75 [snap _ (A.agg (c_S_Replica a0)), snap _ (iA a1.Bar)] = _; simp only [sn0, snM]; exact h75 a0 a1.Bar) fun y1 => ?_
 refine .gst (fun hc2 => ?_) (fun hc2 => ?_)
 ·refine .bb ?_
  refine .st (v := (bA (((a0.Calls.length : Int)) == 0))) (aBin_eql ..) ?_
  refine .gsf (fun hc3 => ?_) (fun hc3 => ?_)
  ·refine .bb ?_
   refine .s (A.ptr 1 0) (.s (iA a1.Bar) (.s (A.ptr 0 2) (.s (A.imm (List.map c_S_Call a0.Calls) false) ?_)))
   refine .st (v := (iA (wr .i64 (((a0.Calls.length : Int)) - 1)))) (aBin_sub ..) ?_
   refine .bd (g := fun (y : S_Call) => A.ip (c_S_Call y)) (idx_imm (e := 62) (es := 2) (h1 := by kernel_rfl) (h2 := by kernel_rfl) (h3 := fun _ => rfl) ..) fun y4 => ?_
   refine .s (A.ip [(iA y4.Bar), (iA y4.Program)]) (.s (iA y4.Bar) ?_)
   refine .cr ?_
   iterate 9 refine .uc ?_
   refine .cr ?_
   iterate 12 refine .uc ?_
   refine .lp (congrArg (fun z => Option.bind z _) (gIf_knownFF hc3)) ?_
   refine .bb ?_
   refine .st (v := (bA (decide (y4.Bar < a1.Bar)))) (aBin_gtr ..) ?_
   refine .cr ?_
   refine .uc ?_
   refine .bg (fun t (y : Bool) => ∃ j7 : A, t = [(bA y), j7]) ?_ ?_
   ·refine .bKT hc2 ?_
    refine .bg (fun t (y : Bool) =>  t = (bA y)) ?_ ?_
    ·refine .bKF hc3 ?_
     exact .lg rfl
    rintro _ y5 rfl
    exact .lg ⟨_, rfl⟩
   rintro _ y6 ⟨j7, rfl⟩
   iterate 2 refine .uc ?_
   refine .bg (fun t (y : Bool) => ∃ j11 j12 j13 : A, t = [(bA y), j11, j12, j13]) ?_ ?_
   ·refine .biH (fun hk8 => ?_) (fun hk8 => ?_)
    ·refine .s (A.ptr 1 1) (.s (iA a1.Program) ?_)
     refine .bd (g := fun (y : Bool) => (bA y)) (h47 a1.Program 1 8) fun y9 => ?_
     exact .lg ⟨_, _, _, rfl⟩
    exact .lg ⟨_, _, _, rfl⟩
   rintro _ y10 ⟨j11, j12, j13, rfl⟩
   iterate 4 refine .uc ?_
   exact .lf rfl rfl ⟨_, rfl, rfl⟩
  refine .bb ?_
  refine .cr ?_
  iterate 9 refine .uc ?_
  refine .cr ?_
  iterate 12 refine .uc ?_
  refine .lp (congrArg (fun z => Option.bind z _) (gIf_knownFT hc3)) ?_
  refine .bb ?_
  refine .cr ?_
  refine .uc ?_
  refine .bg (fun t (y : Bool) => ∃ j16 : A, t = [(bA y), j16]) ?_ ?_
  ·refine .bKT hc2 ?_
   refine .bg (fun t (y : Bool) =>  t = (bA y)) ?_ ?_
   ·refine .bKT hc3 ?_
    exact .lg rfl
   rintro _ y14 rfl
   exact .lg ⟨_, rfl⟩
  rintro _ y15 ⟨j16, rfl⟩
  iterate 2 refine .uc ?_
  refine .bg (fun t (y : Bool) => ∃ j20 j21 j22 : A, t = [(bA y), j20, j21, j22]) ?_ ?_
  ·refine .biH (fun hk17 => ?_) (fun hk17 => ?_)
   ·refine .s (A.ptr 1 1) (.s (iA a1.Program) ?_)
    refine .bd (g := fun (y : Bool) => (bA y)) (h47 a1.Program 1 8) fun y18 => ?_
    exact .lg ⟨_, _, _, rfl⟩
   exact .lg ⟨_, _, _, rfl⟩
  rintro _ y19 ⟨j20, j21, j22, rfl⟩
  iterate 4 refine .uc ?_
  exact .lf rfl rfl ⟨_, rfl, rfl⟩
 refine .bb ?_
 refine .cr ?_
 iterate 12 refine .uc ?_
 refine .bg (fun t (y : Unit) =>  t = [(A.v undef)]) ?_ ?_
 ·refine .gU ?_
  exact .lg rfl
 rintro _ y23 rfl
 refine .uc ?_
 refine .bg (fun t (y : Bool) => ∃ j25 : A, t = [(bA y), j25]) ?_ ?_
 ·refine .bKF hc2 ?_
  exact .lg ⟨_, rfl⟩
 rintro _ y24 ⟨j25, rfl⟩
 iterate 2 refine .uc ?_
 refine .bg (fun t (y : Bool) => ∃ j29 j30 j31 : A, t = [(bA y), j29, j30, j31]) ?_ ?_
 ·refine .biH (fun hk26 => ?_) (fun hk26 => ?_)
  ·refine .s (A.ptr 1 1) (.s (iA a1.Program) ?_)
   refine .bd (g := fun (y : Bool) => (bA y)) (h47 a1.Program 1 8) fun y27 => ?_
   exact .lg ⟨_, _, _, rfl⟩
  exact .lg ⟨_, _, _, rfl⟩
 rintro _ y28 ⟨j29, j30, j31, rfl⟩
 iterate 4 refine .uc ?_
 exact .lf rfl rfl ⟨_, rfl, rfl⟩
def G51 (a0 : S_Replica) (a1 : S_Call) : Option Bool := F51 fuel0 a0 a1
def Orc51 (C : Nat -> List A -> Option A) : Prop := ∀ (a0 : S_Replica) (a1 : S_Call), C 51 [(A.agg (c_S_Replica a0)), (A.agg [(iA a1.Bar), (iA a1.Program)])] = (G51 a0 a1).map fun y => (bA y)
def hk33_1 (a0 : S_Replica) (y7 : (List S_Call)) (y9 : (List Bool)) : Blk := Blk.box [(iA a0.Self), (A.imm (List.map c_S_Lease a0.Leases) false), (A.sl 3 0 y7.length false), (A.sl 4 0 y9.length false)]
def hk33_2 (a0 : S_Replica) (y3 : (List S_Lease)) (y5 : (List Bool)) : Blk := Blk.box [(iA a0.Self), (A.sl 3 0 y3.length false), (A.imm (List.map c_S_Call a0.Calls) false), (A.sl 4 0 y5.length false)]
def F33 (n : Nat) (a0 : S_Replica) (a1 : S_replica_entry) : Option S_Replica :=
 bif a1.is then ((subI a0.Leases 0 ((a0.Leases.length : Int))).bind fun y2 => (appI 24 y2 ([a1.lease])).bind fun y3 => (subI a0.Order 0 ((a0.Order.length : Int))).bind fun y4 => (appI 1 y4 ([a1.is])).bind fun y5 => some ((S_Replica.mk a0.Self y3 a0.Calls y5))) else ((subI a0.Calls 0 ((a0.Calls.length : Int))).bind fun y6 => (appI 16 y6 ([a1.call])).bind fun y7 => (subI a0.Order 0 ((a0.Order.length : Int))).bind fun y8 => (appI 1 y8 ([a1.is])).bind fun y9 => some ((S_Replica.mk a0.Self a0.Leases y7 y9)))
theorem T33 (C : Nat -> List A -> Option A) (n : Nat) (a0 : S_Replica) (a1 : S_replica_entry) : J (fun (o : R) y => ∃ v, o.1 = .ret v /\ snapE o.2 v = (A.agg [(iA y.Self), (A.imm (List.map c_S_Lease y.Leases) false), (A.imm (List.map c_S_Call y.Calls) false), (A.imm (List.map cB y.Order) false)])) (evCall1 (cx C) (ec C n 8) (ey C n 8) (n+8) 33 [(A.agg (c_S_Replica a0)), (A.agg (c_S_replica_entry a1))] [] 0) some (F33 n a0 a1) some := by
 refine .lp (e33 ..) ?_
 unfold F33
 refine .s ((A.ptr 0 0), [Blk.box (c_S_Replica a0)]) (.s ((A.ptr 1 0), [Blk.box (c_S_Replica a0), Blk.box (c_S_replica_entry a1)]) (.s ((A.ptr 2 0), [Blk.box (c_S_Replica a0), Blk.box (c_S_replica_entry a1), Blk.box [(iA 0), (A.imm [] true), (A.imm [] true), (A.imm [] true)]]) (.s (A.ptr 1 0) (.s (bA a1.is) ?_))))
 refine .biHN (fun hk1 => ?_) (fun hk1 => ?_)
 ·refine .s (A.ptr 0 1) (.s (A.imm (List.map c_S_Lease a0.Leases) false) (.s (A.ptr 1 1) (.s (A.agg (c_S_Lease a1.lease)) ?_)))
  refine .cT (by kernel_rfl) ?_
  refine .s (A.imm [[(iA a1.lease.No), (iA a1.lease.Holder), (iA a1.lease.Until)]] true) ?_
  refine .cT (by kernel_rfl) ?_
  refine .cl ((evCall_in lt_60).trans (e60 C (ec C n 7) (ey C n 7) (n+7) _ _ _)) ?_
  refine .st (v := (iA ((a0.Leases.length : Int)))) (len_imm (e := 59) (h1 := by kernel_rfl) ..) ?_
  refine .st (v := (iA ((a0.Leases.length : Int)))) (len_imm (e := 59) (h1 := by kernel_rfl) ..) ?_
  refine .bd (g := fun (y : List S_Lease) => (A.imm (List.map c_S_Lease y) true)) (cut_imm3 (e := 59) (es := 3) (f := c_S_Lease) (l := a0.Leases) (a := 0) (b := (a0.Leases.length : Int)) (by kernel_rfl) (by kernel_rfl) (fun _ => rfl) (.inl ⟨rfl, rfl⟩)) fun y2 => ?_
  refine .cr ?_
  refine .ok ?_
  refine .bd (g := fun (y : List S_Lease) => ((A.sl 3 0 y.length false), [Blk.box (c_S_Replica a0), Blk.box (c_S_replica_entry a1), Blk.box [(iA 0), (A.imm [] true), (A.imm [] true), (A.imm [] true)], Blk.row false 3 (List.map c_S_Lease y)])) (app_imm (e := 59) (es := 3) (by_ := 24) (z := [(iA 0), (iA 0), (iA 0)]) (by kernel_rfl) (by kernel_rfl) (by kernel_rfl) (by kernel_rfl) rfl (by decide) (by decide) (by kernel_rfl) (f := c_S_Lease) (fun _ => rfl) ce_S_Lease (l := y2) (l2 := [a1.lease]) (els_imm (f := c_S_Lease) ([a1.lease] : List S_Lease) _ _)) fun y3 => ?_
  refine .s (A.ptr 0 1) (.s [Blk.box [(iA a0.Self), (A.sl 3 0 y3.length false), (A.imm (List.map c_S_Call a0.Calls) false), (A.imm (List.map cB a0.Order) false)], Blk.box (c_S_replica_entry a1), Blk.box [(iA 0), (A.imm [] true), (A.imm [] true), (A.imm [] true)], Blk.row false 3 (List.map c_S_Lease y3)] (.s (A.ptr 0 3) (.s (A.imm (List.map cB a0.Order) false) (.s (A.ptr 1 0) (.s (bA a1.is) ?_)))))
  refine .cT (by kernel_rfl) ?_
  refine .s (A.imm [[(bA a1.is)]] true) ?_
  refine .cT (by kernel_rfl) ?_
  refine .cl ((evCall_in lt_62).trans (e62 C (ec C n 7) (ey C n 7) (n+7) _ _ _)) ?_
  refine .st (v := (iA ((a0.Order.length : Int)))) (len_imm (e := 4) (h1 := by kernel_rfl) ..) ?_
  refine .st (v := (iA ((a0.Order.length : Int)))) (len_imm (e := 4) (h1 := by kernel_rfl) ..) ?_
  refine .bd (g := fun (y : List Bool) => (A.imm (List.map cB y) true)) (cut_imm3 (e := 4) (es := 1) (f := cB) (l := a0.Order) (a := 0) (b := (a0.Order.length : Int)) (by kernel_rfl) (by kernel_rfl) (fun _ => rfl) (.inl ⟨rfl, rfl⟩)) fun y4 => ?_
  refine .cr ?_
  refine .ok ?_
  refine .bd (g := fun (y : List Bool) => ((A.sl 4 0 y.length false), [Blk.box [(iA a0.Self), (A.sl 3 0 y3.length false), (A.imm (List.map c_S_Call a0.Calls) false), (A.imm (List.map cB a0.Order) false)], Blk.box (c_S_replica_entry a1), Blk.box [(iA 0), (A.imm [] true), (A.imm [] true), (A.imm [] true)], Blk.row false 3 (List.map c_S_Lease y3), Blk.row false 1 (List.map cB y)])) (app_imm (e := 4) (es := 1) (by_ := 1) (z := [(bA false)]) (by kernel_rfl) (by kernel_rfl) (by kernel_rfl) (by kernel_rfl) rfl (by decide) (by decide) (by kernel_rfl) (f := cB) (fun _ => rfl) ce_cB (l := y4) (l2 := [a1.is]) (els_imm (f := cB) ([a1.is] : List Bool) _ _)) fun y5 => ?_
  refine .s (A.ptr 0 3) (.s [(hk33_2 a0 y3 y5), Blk.box (c_S_replica_entry a1), Blk.box [(iA 0), (A.imm [] true), (A.imm [] true), (A.imm [] true)], Blk.row false 3 (List.map c_S_Lease y3), Blk.row false 1 (List.map cB y5)] (.s (A.agg [(iA a0.Self), (A.sl 3 0 y3.length false), (A.imm (List.map c_S_Call a0.Calls) false), (A.sl 4 0 y5.length false)]) (.s [(hk33_2 a0 y3 y5), Blk.box (c_S_replica_entry a1), (hk33_2 a0 y3 y5), Blk.row false 3 (List.map c_S_Lease y3), Blk.row false 1 (List.map cB y5)] (.s (A.agg [(iA a0.Self), (A.sl 3 0 y3.length false), (A.imm (List.map c_S_Call a0.Calls) false), (A.sl 4 0 y5.length false)]) ?_))))
  exact .lf rfl rfl ⟨_, rfl, by show snapE [(hk33_2 a0 y3 y5), Blk.box (c_S_replica_entry a1), (hk33_2 a0 y3 y5), Blk.row false 3 (List.map c_S_Lease y3), Blk.row false 1 (List.map cB y5)] (A.agg [(iA a0.Self), (A.sl 3 0 y3.length false), (A.imm (List.map c_S_Call a0.Calls) false), (A.sl 4 0 y5.length false)]) = _; first | (simp only [sn0, snM, snapE, snapGE_row (H := [(hk33_2 a0 y3 y5), Blk.box (c_S_replica_entry a1), (hk33_2 a0 y3 y5), Blk.row false 3 (List.map c_S_Lease y3), Blk.row false 1 (List.map cB y5)]) (b := 3) (es := 3) (wr := false) (l := y3) fl_S_Lease rfl, snapGE_row (H := [(hk33_2 a0 y3 y5), Blk.box (c_S_replica_entry a1), (hk33_2 a0 y3 y5), Blk.row false 3 (List.map c_S_Lease y3), Blk.row false 1 (List.map cB y5)]) (b := 4) (es := 1) (wr := false) (l := y5) fl_cB rfl]; done) | (simp only [sn0, snS, snapE, snapGE_row (H := [(hk33_2 a0 y3 y5), Blk.box (c_S_replica_entry a1), (hk33_2 a0 y3 y5), Blk.row false 3 (List.map c_S_Lease y3), Blk.row false 1 (List.map cB y5)]) (b := 3) (es := 3) (wr := false) (l := y3) fl_S_Lease rfl, snapGE_row (H := [(hk33_2 a0 y3 y5), Blk.box (c_S_replica_entry a1), (hk33_2 a0 y3 y5), Blk.row false 3 (List.map c_S_Lease y3), Blk.row false 1 (List.map cB y5)]) (b := 4) (es := 1) (wr := false) (l := y5) fl_cB rfl]; first | done | rfl)⟩
 refine .s (A.ptr 0 2) (.s (A.imm (List.map c_S_Call a0.Calls) false) (.s (A.ptr 1 4) (.s (A.agg [(iA a1.call.Bar), (iA a1.call.Program)]) ?_)))
 refine .cT (by kernel_rfl) ?_
 refine .s (A.imm [[(iA a1.call.Bar), (iA a1.call.Program)]] true) ?_
 refine .cT (by kernel_rfl) ?_
 refine .cl ((evCall_in lt_61).trans (e61 C (ec C n 7) (ey C n 7) (n+7) _ _ _)) ?_
 refine .st (v := (iA ((a0.Calls.length : Int)))) (len_imm (e := 62) (h1 := by kernel_rfl) ..) ?_
 refine .st (v := (iA ((a0.Calls.length : Int)))) (len_imm (e := 62) (h1 := by kernel_rfl) ..) ?_
 refine .bd (g := fun (y : List S_Call) => (A.imm (List.map c_S_Call y) true)) (cut_imm3 (e := 62) (es := 2) (f := c_S_Call) (l := a0.Calls) (a := 0) (b := (a0.Calls.length : Int)) (by kernel_rfl) (by kernel_rfl) (fun _ => rfl) (.inl ⟨rfl, rfl⟩)) fun y6 => ?_
 refine .cr ?_
 refine .ok ?_
 refine .bd (g := fun (y : List S_Call) => ((A.sl 3 0 y.length false), [Blk.box (c_S_Replica a0), Blk.box (c_S_replica_entry a1), Blk.box [(iA 0), (A.imm [] true), (A.imm [] true), (A.imm [] true)], Blk.row false 2 (List.map c_S_Call y)])) (app_imm (e := 62) (es := 2) (by_ := 16) (z := [(iA 0), (iA 0)]) (by kernel_rfl) (by kernel_rfl) (by kernel_rfl) (by kernel_rfl) rfl (by decide) (by decide) (by kernel_rfl) (f := c_S_Call) (fun _ => rfl) ce_S_Call (l := y6) (l2 := [a1.call]) (els_imm (f := c_S_Call) ([a1.call] : List S_Call) _ _)) fun y7 => ?_
 refine .s (A.ptr 0 2) (.s [Blk.box [(iA a0.Self), (A.imm (List.map c_S_Lease a0.Leases) false), (A.sl 3 0 y7.length false), (A.imm (List.map cB a0.Order) false)], Blk.box (c_S_replica_entry a1), Blk.box [(iA 0), (A.imm [] true), (A.imm [] true), (A.imm [] true)], Blk.row false 2 (List.map c_S_Call y7)] (.s (A.ptr 0 3) (.s (A.imm (List.map cB a0.Order) false) (.s (A.ptr 1 0) (.s (bA a1.is) ?_)))))
 refine .cT (by kernel_rfl) ?_
 refine .s (A.imm [[(bA a1.is)]] true) ?_
 refine .cT (by kernel_rfl) ?_
 refine .cl ((evCall_in lt_62).trans (e62 C (ec C n 7) (ey C n 7) (n+7) _ _ _)) ?_
 refine .st (v := (iA ((a0.Order.length : Int)))) (len_imm (e := 4) (h1 := by kernel_rfl) ..) ?_
 refine .st (v := (iA ((a0.Order.length : Int)))) (len_imm (e := 4) (h1 := by kernel_rfl) ..) ?_
 refine .bd (g := fun (y : List Bool) => (A.imm (List.map cB y) true)) (cut_imm3 (e := 4) (es := 1) (f := cB) (l := a0.Order) (a := 0) (b := (a0.Order.length : Int)) (by kernel_rfl) (by kernel_rfl) (fun _ => rfl) (.inl ⟨rfl, rfl⟩)) fun y8 => ?_
 refine .cr ?_
 refine .ok ?_
 refine .bd (g := fun (y : List Bool) => ((A.sl 4 0 y.length false), [Blk.box [(iA a0.Self), (A.imm (List.map c_S_Lease a0.Leases) false), (A.sl 3 0 y7.length false), (A.imm (List.map cB a0.Order) false)], Blk.box (c_S_replica_entry a1), Blk.box [(iA 0), (A.imm [] true), (A.imm [] true), (A.imm [] true)], Blk.row false 2 (List.map c_S_Call y7), Blk.row false 1 (List.map cB y)])) (app_imm (e := 4) (es := 1) (by_ := 1) (z := [(bA false)]) (by kernel_rfl) (by kernel_rfl) (by kernel_rfl) (by kernel_rfl) rfl (by decide) (by decide) (by kernel_rfl) (f := cB) (fun _ => rfl) ce_cB (l := y8) (l2 := [a1.is]) (els_imm (f := cB) ([a1.is] : List Bool) _ _)) fun y9 => ?_
 refine .s (A.ptr 0 3) (.s [(hk33_1 a0 y7 y9), Blk.box (c_S_replica_entry a1), Blk.box [(iA 0), (A.imm [] true), (A.imm [] true), (A.imm [] true)], Blk.row false 2 (List.map c_S_Call y7), Blk.row false 1 (List.map cB y9)] (.s (A.agg [(iA a0.Self), (A.imm (List.map c_S_Lease a0.Leases) false), (A.sl 3 0 y7.length false), (A.sl 4 0 y9.length false)]) (.s [(hk33_1 a0 y7 y9), Blk.box (c_S_replica_entry a1), (hk33_1 a0 y7 y9), Blk.row false 2 (List.map c_S_Call y7), Blk.row false 1 (List.map cB y9)] (.s (A.agg [(iA a0.Self), (A.imm (List.map c_S_Lease a0.Leases) false), (A.sl 3 0 y7.length false), (A.sl 4 0 y9.length false)]) ?_))))
 exact .lf rfl rfl ⟨_, rfl, by show snapE [(hk33_1 a0 y7 y9), Blk.box (c_S_replica_entry a1), (hk33_1 a0 y7 y9), Blk.row false 2 (List.map c_S_Call y7), Blk.row false 1 (List.map cB y9)] (A.agg [(iA a0.Self), (A.imm (List.map c_S_Lease a0.Leases) false), (A.sl 3 0 y7.length false), (A.sl 4 0 y9.length false)]) = _; first | (simp only [sn0, snM, snapE, snapGE_row (H := [(hk33_1 a0 y7 y9), Blk.box (c_S_replica_entry a1), (hk33_1 a0 y7 y9), Blk.row false 2 (List.map c_S_Call y7), Blk.row false 1 (List.map cB y9)]) (b := 3) (es := 2) (wr := false) (l := y7) fl_S_Call rfl, snapGE_row (H := [(hk33_1 a0 y7 y9), Blk.box (c_S_replica_entry a1), (hk33_1 a0 y7 y9), Blk.row false 2 (List.map c_S_Call y7), Blk.row false 1 (List.map cB y9)]) (b := 4) (es := 1) (wr := false) (l := y9) fl_cB rfl]; done) | (simp only [sn0, snS, snapE, snapGE_row (H := [(hk33_1 a0 y7 y9), Blk.box (c_S_replica_entry a1), (hk33_1 a0 y7 y9), Blk.row false 2 (List.map c_S_Call y7), Blk.row false 1 (List.map cB y9)]) (b := 3) (es := 2) (wr := false) (l := y7) fl_S_Call rfl, snapGE_row (H := [(hk33_1 a0 y7 y9), Blk.box (c_S_replica_entry a1), (hk33_1 a0 y7 y9), Blk.row false 2 (List.map c_S_Call y7), Blk.row false 1 (List.map cB y9)]) (b := 4) (es := 1) (wr := false) (l := y9) fl_cB rfl]; first | done | rfl)⟩
def G33 (a0 : S_Replica) (a1 : S_replica_entry) : Option S_Replica := F33 fuel0 a0 a1
def Orc33 (C : Nat -> List A -> Option A) : Prop := ∀ (a0 : S_Replica) (a1 : S_replica_entry), C 33 [(A.agg (c_S_Replica a0)), (A.agg (c_S_replica_entry a1))] = (G33 a0 a1).map fun y => (A.agg [(iA y.Self), (A.imm (List.map c_S_Lease y.Leases) false), (A.imm (List.map c_S_Call y.Calls) false), (A.imm (List.map cB y.Order) false)])
def hk20_1 (v35 : Int) (v36 : (List S_Lease)) (v37 : (List S_Call)) (v38 : (List Bool)) : Blk := Blk.box [(iA v35), (A.imm (List.map c_S_Lease v36) false), (A.imm (List.map c_S_Call v37) false), (A.imm (List.map cB v38) false)]
def hk20_2 (y42 : Bool) (y87 : S_Call) : Blk := Blk.box [(bA y42), (iA 0), (iA 0), (iA 0), (iA y87.Bar), (iA y87.Program)]
def F20_55_0 (n : Nat) (v30 : (List Bool)) (v31 : Int) (v33 : S_Replica) (v34 : Int) (v40 : S_Replica) : Nat -> (List S_Lease) -> (List S_Call) -> Int -> Int -> (List S_Lease) -> (List S_Call) -> (List Bool) -> Int -> Option ((Int × Int × (List S_Lease) × (List S_Call) × (List Bool) × Int × Bool × Int × Int × Int × Int × Int × Bool × Int × Int × Int × Int × Int) ⊕ ((Int × (List S_Lease) × (List S_Call) × (List Bool) × Int × Bool × Int × Int × Int × Int × Int) ⊕ (Int × (List S_Lease) × (List S_Call) × (List Bool) × Int)))
 | 0, _, _, _, _, _, _, _, _ => none
 | m + 1, v28, v29, v32, v35, v36, v37, v38, v39 => bif (decide (v32 < v31)) then ((getI v30 v32).bind fun y42 => (bif y42 then (some (decide (0 < ((v28.length : Int))))) else (some false)).bind fun y44 => bif y44 then ((getI v28 0).bind fun y49 => (subI v28 1 ((v28.length : Int))).bind fun y50 => (bif y42 then ((G50 ((S_Replica.mk v35 v36 v37 v38)) y49).bind fun y52 => some (!y52)) else (some false)).bind fun y53 => (bif y53 then (some true) else ((bif (!y42) then ((G51 ((S_Replica.mk v35 v36 v37 v38)) ((S_Call.mk 0 0))).bind fun y61 => some (!y61)) else (some false)).bind fun y62 => some y62)).bind fun y68 => bif y68 then (some ((Sum.inl ((530, v35, v36, v37, v38, v39, y42, y49.No, y49.Holder, y49.Until, 0, 0, y42, y49.No, y49.Holder, y49.Until, 0, 0))))) else ((G33 ((S_Replica.mk v35 v36 v37 v38)) ((S_replica_entry.mk y42 y49 ((S_Call.mk 0 0))))).bind fun y80 => F20_55_0 n v30 v31 v33 v34 v40 m y50 v29 (wr .i64 (v32 + 1)) y80.Self y80.Leases y80.Calls y80.Order (wr .i64 (v39 + 1)))) else ((bif (!y42) then (some (decide (0 < ((v29.length : Int))))) else (some false)).bind fun y82 => bif y82 then ((getI v29 0).bind fun y87 => (subI v29 1 ((v29.length : Int))).bind fun y88 => (bif y42 then ((G50 ((S_Replica.mk v35 v36 v37 v38)) ((S_Lease.mk 0 0 0))).bind fun y90 => some (!y90)) else (some false)).bind fun y91 => (bif y91 then (some true) else ((bif (!y42) then ((G51 ((S_Replica.mk v35 v36 v37 v38)) y87).bind fun y99 => some (!y99)) else (some false)).bind fun y100 => some y100)).bind fun y106 => bif y106 then (some ((Sum.inl ((530, v35, v36, v37, v38, v39, y42, 0, 0, 0, y87.Bar, y87.Program, y42, 0, 0, 0, y87.Bar, y87.Program))))) else ((G33 ((S_Replica.mk v35 v36 v37 v38)) ((S_replica_entry.mk y42 ((S_Lease.mk 0 0 0)) y87))).bind fun y118 => F20_55_0 n v30 v31 v33 v34 v40 m v28 y88 (wr .i64 (v32 + 1)) y118.Self y118.Leases y118.Calls y118.Order (wr .i64 (v39 + 1)))) else (some ((Sum.inr ((Sum.inl ((v35, v36, v37, v38, v39, y42, 0, 0, 0, 0, 0))))))))) else (some ((Sum.inr ((Sum.inr ((v35, v36, v37, v38, v39)))))))
theorem T20_55_0 (C : Nat -> List A -> Option A) (n : Nat) (h33 : Orc33 C) (h47 : Orc47 C) (h50 : Orc50 C) (h51 : Orc51 C) (v30 : (List Bool)) (v31 : Int) (v33 : S_Replica) (v34 : Int) (v40 : S_Replica) {ρ γ : Type} {φ : ρ -> γ -> Prop} {kL : R -> Option ρ} {K : ((Int × Int × (List S_Lease) × (List S_Call) × (List Bool) × Int × Bool × Int × Int × Int × Int × Int × Bool × Int × Int × Int × Int × Int) ⊕ ((Int × (List S_Lease) × (List S_Call) × (List Bool) × Int × Bool × Int × Int × Int × Int × Int) ⊕ (Int × (List S_Lease) × (List S_Call) × (List Bool) × Int))) -> Option γ} (kx kg : Nat -> St -> Option R) (kr : St -> Option R) (kp : A -> St -> Option R) (x0 : ∀ (o0 : Int) (o1 : Int) (o2 : (List S_Lease)) (o3 : (List S_Call)) (o4 : (List Bool)) (o5 : Int) (o6 : Bool) (o7 : Int) (o8 : Int) (o9 : Int) (o10 : Int) (o11 : Int) (o12 : Bool) (o13 : Int) (o14 : Int) (o15 : Int) (o16 : Int) (o17 : Int) (s0 : A) (s3 : A) (s4 : A) (s13 : A) (s14 : A) (s15 : A), J φ (kr (St.mk [(0, s0), (3, s3), (4, s4), (13, s13), (14, s14), (15, s15)] [Blk.box (c_S_Replica v33), Blk.box [(iA o0)], Blk.box [(iA o1), (A.imm (List.map c_S_Lease o2) false), (A.imm (List.map c_S_Call o3) false), (A.imm (List.map cB o4) false)], Blk.box [(iA o5)], Blk.box (c_S_Replica v40), Blk.rng (RSt.done Jmp.ret), Blk.box [(bA o6), (iA o7), (iA o8), (iA o9), (iA o10), (iA o11)], Blk.box [(bA o12), (iA o13), (iA o14), (iA o15), (iA o16), (iA o17)]])) kL (K (Sum.inl ((o0, o1, o2, o3, o4, o5, o6, o7, o8, o9, o10, o11, o12, o13, o14, o15, o16, o17)))) some) (x1 : ∀ (o0 : Int) (o1 : (List S_Lease)) (o2 : (List S_Call)) (o3 : (List Bool)) (o4 : Int) (o5 : Bool) (o6 : Int) (o7 : Int) (o8 : Int) (o9 : Int) (o10 : Int) (s0 : A) (s3 : A) (s4 : A) (s13 : A) (s14 : A) (s15 : A), J φ (kr (St.mk [(0, s0), (3, s3), (4, s4), (13, s13), (14, s14), (15, s15)] [Blk.box (c_S_Replica v33), Blk.box [(iA v34)], Blk.box [(iA o0), (A.imm (List.map c_S_Lease o1) false), (A.imm (List.map c_S_Call o2) false), (A.imm (List.map cB o3) false)], Blk.box [(iA o4)], Blk.box (c_S_Replica v40), Blk.rng RSt.ready, Blk.box [(bA o5), (iA o6), (iA o7), (iA o8), (iA o9), (iA o10)]])) kL (K (Sum.inr ((Sum.inl ((o0, o1, o2, o3, o4, o5, o6, o7, o8, o9, o10)))))) some) (x2 : ∀ (o0 : Int) (o1 : (List S_Lease)) (o2 : (List S_Call)) (o3 : (List Bool)) (o4 : Int) (s0 : A) (s3 : A) (s4 : A) (s13 : A) (s14 : A) (s15 : A), J φ (kx 0 (St.mk [(0, s0), (3, s3), (4, s4), (13, s13), (14, s14), (15, s15)] [Blk.box (c_S_Replica v33), Blk.box [(iA v34)], Blk.box [(iA o0), (A.imm (List.map c_S_Lease o1) false), (A.imm (List.map c_S_Call o2) false), (A.imm (List.map cB o3) false)], Blk.box [(iA o4)], Blk.box (c_S_Replica v40), Blk.rng RSt.ready])) kL (K (Sum.inr ((Sum.inr ((o0, o1, o2, o3, o4)))))) some) :
  ∀ (m : Nat) (v28 : (List S_Lease)) (v29 : (List S_Call)) (v32 : Int) (v35 : Int) (v36 : (List S_Lease)) (v37 : (List S_Call)) (v38 : (List Bool)) (v39 : Int), J φ (loopR (cx C) (evCallY (cx C) (n+7) (yext 124 (evCall (cx C) (n+8)) 5 (roundR (cx C) (ec C n 8) (ey C n 8) (n+8) 20 0 0 5 [(2, (A.ptr 1 0)), (3, (A.ptr 2 0)), (4, (A.ptr 3 0))]))) (evCallY (cx C) (n+7)) (n+7) 55 0 0 6 kx kg kr kp m (St.mk [(0, (A.yld 5)), (3, (A.imm (List.map c_S_Lease v28) false)), (4, (A.imm (List.map c_S_Call v29) false)), (13, (A.imm (List.map cB v30) false)), (14, (iA v31)), (15, (iA v32))] [Blk.box (c_S_Replica v33), Blk.box [(iA v34)], (hk20_1 v35 v36 v37 v38), Blk.box [(iA v39)], Blk.box (c_S_Replica v40), Blk.rng RSt.ready])) kL (F20_55_0 n v30 v31 v33 v34 v40 m v28 v29 v32 v35 v36 v37 v38 v39) K := by
 intro m
 induction m with
 | zero => intros; exact .nn
 | succ m ih =>
  intro v28 v29 v32 v35 v36 v37 v38 v39
  refine .lp (e55_0 ..) ?_
  unfold F20_55_0
  refine .st (v := (bA (decide (v32 < v31)))) (aBin_lss ..) ?_
  refine .biHN (fun hk41 => ?_) (fun hk41 => ?_)
  ·refine .bd (g := fun (y : Bool) => A.ip (cB y)) (idx_imm (e := 4) (es := 1) (h1 := by kernel_rfl) (h2 := by kernel_rfl) (h3 := fun _ => rfl) ..) fun y42 => ?_
   refine .s (bA y42) (.s (A.agg [(bA y42), (iA 0), (iA 0), (iA 0), (iA 0), (iA 0)]) (.s ((A.ptr 6 0), [Blk.box (c_S_Replica v33), Blk.box [(iA v34)], (hk20_1 v35 v36 v37 v38), Blk.box [(iA v39)], Blk.box (c_S_Replica v40), Blk.rng RSt.ready, Blk.box [(bA false), (iA 0), (iA 0), (iA 0), (iA 0), (iA 0)]]) (.s [Blk.box (c_S_Replica v33), Blk.box [(iA v34)], (hk20_1 v35 v36 v37 v38), Blk.box [(iA v39)], Blk.box (c_S_Replica v40), Blk.rng RSt.ready, Blk.box [(bA y42), (iA 0), (iA 0), (iA 0), (iA 0), (iA 0)]] ?_)))
   refine .bg (fun t (y : Bool) => ∃ j45 j46 j47 : A, t = [(bA y), j45, j46, j47]) ?_ ?_
   ·refine .biH (fun hk43 => ?_) (fun hk43 => ?_)
    ·refine .st (v := (iA ((v28.length : Int)))) (len_imm (e := 59) (h1 := by kernel_rfl) ..) ?_
     refine .st (v := (bA (decide (0 < ((v28.length : Int)))))) (aBin_gtr ..) ?_
     exact .lg ⟨_, _, _, rfl⟩
    exact .lg ⟨_, _, _, rfl⟩
   rintro _ y44 ⟨j45, j46, j47, rfl⟩
   iterate 4 refine .uc ?_
   refine .biHN (fun hk48 => ?_) (fun hk48 => ?_)
   ·refine .bd (g := fun (y : S_Lease) => A.ip (c_S_Lease y)) (idx_imm (e := 59) (es := 3) (h1 := by kernel_rfl) (h2 := by kernel_rfl) (h3 := fun _ => rfl) ..) fun y49 => ?_
    refine .s (A.agg (c_S_Lease y49)) ?_
    refine .bd (g := fun (y : List S_Lease) => (A.imm (List.map c_S_Lease y) false)) (cut_imm (e := 59) (es := 3) (f := c_S_Lease) (l := v28) (a := 1) (b := (v28.length : Int)) (by kernel_rfl) (by kernel_rfl) (fun _ => rfl) (.inr ⟨_, rfl⟩) (.inl ⟨rfl, rfl⟩)) fun y50 => ?_
    refine .s (A.ptr 6 1) ?_
    refine .cT (by kernel_rfl) ?_
    refine .s [Blk.box (c_S_Replica v33), Blk.box [(iA v34)], (hk20_1 v35 v36 v37 v38), Blk.box [(iA v39)], Blk.box (c_S_Replica v40), Blk.rng RSt.ready, Blk.box ([(bA y42)] ++ c_S_Lease y49 ++ [(iA 0), (iA 0)])] (.s (A.agg ([(bA y42)] ++ c_S_Lease y49 ++ [(iA 0), (iA 0)])) ?_)
    refine .dY rfl ?_
    refine .cl (yq.trans (yext_at.trans (e20_r0 C (ec C n 8) (ey C n 8) (n+8) _ _ _ _ _ _ _ _ _))) ?_
    refine .cT (by kernel_rfl) ?_
    refine .lp (rdy_at rfl) ?_
    refine .s ((A.ptr 7 0), [Blk.box (c_S_Replica v33), Blk.box [(iA v34)], (hk20_1 v35 v36 v37 v38), Blk.box [(iA v39)], Blk.box (c_S_Replica v40), Blk.rng RSt.ready, Blk.box ([(bA y42)] ++ c_S_Lease y49 ++ [(iA 0), (iA 0)]), Blk.box [(bA false), (iA 0), (iA 0), (iA 0), (iA 0), (iA 0)]]) (.s [Blk.box (c_S_Replica v33), Blk.box [(iA v34)], (hk20_1 v35 v36 v37 v38), Blk.box [(iA v39)], Blk.box (c_S_Replica v40), Blk.rng RSt.ready, Blk.box ([(bA y42)] ++ c_S_Lease y49 ++ [(iA 0), (iA 0)]), Blk.box ([(bA y42)] ++ c_S_Lease y49 ++ [(iA 0), (iA 0)])] ?_)
    refine .lp (rdy_at rfl) ?_
    refine .s (A.ptr 7 0) (.s (bA y42) ?_)
    refine .bg (fun t (y : Bool) => ∃ j54 j55 j56 j57 j58 : A, t = [(bA y), j54, j55, j56, j57, j58]) ?_ ?_
    ·refine .biH (fun hk51 => ?_) (fun hk51 => ?_)
     ·refine .s (A.agg [(iA v35), (A.imm (List.map c_S_Lease v36) false), (A.imm (List.map c_S_Call v37) false), (A.imm (List.map cB v38) false)]) (.s (A.ptr 7 1) (.s (A.agg (c_S_Lease y49)) ?_))
      refine .bd (g := fun (y : Bool) => (bA y)) (by show C 50 [snap _ (A.agg [(iA v35), (A.imm (List.map c_S_Lease v36) false), (A.imm (List.map c_S_Call v37) false), (A.imm (List.map cB v38) false)]), snap _ (A.agg (c_S_Lease y49))] = _; simp only [sn0, snM]; exact h50 ((S_Replica.mk v35 v36 v37 v38)) y49) fun y52 => ?_
      refine .s (bA (!y52)) ?_
      exact .lg ⟨_, _, _, _, _, rfl⟩
     exact .lg ⟨_, _, _, _, _, rfl⟩
    rintro _ y53 ⟨j54, j55, j56, j57, j58, rfl⟩
    iterate 6 refine .uc ?_
    refine .bg (fun t (y : Bool) => ∃ j69 j70 j71 j72 j73 j74 j75 j76 j77 j78 : A, t = [(bA y), j69, j70, j71, j72, j73, j74, j75, j76, j77, j78]) ?_ ?_
    ·refine .biH (fun hk59 => ?_) (fun hk59 => ?_)
     ·exact .lg ⟨_, _, _, _, _, _, _, _, _, _, rfl⟩
     refine .s (A.ptr 7 0) (.s (bA y42) (.s (bA (!y42)) ?_))
     refine .bg (fun t (y : Bool) => ∃ j63 j64 j65 j66 j67 : A, t = [(bA y), j63, j64, j65, j66, j67]) ?_ ?_
     ·refine .biH (fun hk60 => ?_) (fun hk60 => ?_)
      ·refine .s (A.agg [(iA v35), (A.imm (List.map c_S_Lease v36) false), (A.imm (List.map c_S_Call v37) false), (A.imm (List.map cB v38) false)]) (.s (A.ptr 7 4) (.s (A.agg [(iA 0), (iA 0)]) ?_))
       refine .bd (g := fun (y : Bool) => (bA y)) (by show C 51 [snap _ (A.agg [(iA v35), (A.imm (List.map c_S_Lease v36) false), (A.imm (List.map c_S_Call v37) false), (A.imm (List.map cB v38) false)]), snap _ (A.agg [(iA 0), (iA 0)])] = _; simp only [sn0, snM]; exact h51 ((S_Replica.mk v35 v36 v37 v38)) ((S_Call.mk 0 0))) fun y61 => ?_
       refine .s (bA (!y61)) ?_
       exact .lg ⟨_, _, _, _, _, rfl⟩
      exact .lg ⟨_, _, _, _, _, rfl⟩
     rintro _ y62 ⟨j63, j64, j65, j66, j67, rfl⟩
     iterate 6 refine .uc ?_
     exact .lg ⟨_, _, _, _, _, _, _, _, _, _, rfl⟩
    rintro _ y68 ⟨j69, j70, j71, j72, j73, j74, j75, j76, j77, j78, rfl⟩
    iterate 11 refine .uc ?_
    refine .biHN (fun hk79 => ?_) (fun hk79 => ?_)
    ·refine .s [Blk.box (c_S_Replica v33), Blk.box [(iA 530)], (hk20_1 v35 v36 v37 v38), Blk.box [(iA v39)], Blk.box (c_S_Replica v40), Blk.rng RSt.busy, Blk.box ([(bA y42)] ++ c_S_Lease y49 ++ [(iA 0), (iA 0)]), Blk.box ([(bA y42)] ++ c_S_Lease y49 ++ [(iA 0), (iA 0)])] ?_
     refine .lp (bsy_at rfl) ?_
     refine .cr ?_
     refine .ok ?_
     refine .s (bA true) ?_
     refine .bTN ?_
     exact .ex (x0 _ _ _ _ _ _ _ _ _ _ _ _ _ _ _ _ _ _ _ _ _ _ _ _)
    refine .s (A.agg [(iA v35), (A.imm (List.map c_S_Lease v36) false), (A.imm (List.map c_S_Call v37) false), (A.imm (List.map cB v38) false)]) (.s (A.agg ([(bA y42)] ++ c_S_Lease y49 ++ [(iA 0), (iA 0)])) ?_)
    refine .bd (g := fun (y : S_Replica) => (A.agg [(iA y.Self), (A.imm (List.map c_S_Lease y.Leases) false), (A.imm (List.map c_S_Call y.Calls) false), (A.imm (List.map cB y.Order) false)])) (by show C 33 [snap _ (A.agg [(iA v35), (A.imm (List.map c_S_Lease v36) false), (A.imm (List.map c_S_Call v37) false), (A.imm (List.map cB v38) false)]), snap _ (A.agg ([(bA y42)] ++ c_S_Lease y49 ++ [(iA 0), (iA 0)]))] = _; simp only [sn0, snM]; exact h33 ((S_Replica.mk v35 v36 v37 v38)) ((S_replica_entry.mk y42 y49 ((S_Call.mk 0 0))))) fun y80 => ?_
    refine .s [Blk.box (c_S_Replica v33), Blk.box [(iA v34)], Blk.box (c_S_Replica y80), Blk.box [(iA v39)], Blk.box (c_S_Replica v40), Blk.rng RSt.busy, Blk.box ([(bA y42)] ++ c_S_Lease y49 ++ [(iA 0), (iA 0)]), Blk.box ([(bA y42)] ++ c_S_Lease y49 ++ [(iA 0), (iA 0)])] (.s (iA v39) ?_)
    refine .st (v := (iA (wr .i64 (v39 + 1)))) (aBin_add ..) ?_
    refine .s [Blk.box (c_S_Replica v33), Blk.box [(iA v34)], Blk.box (c_S_Replica y80), Blk.box [(iA (wr .i64 (v39 + 1)))], Blk.box (c_S_Replica v40), Blk.rng RSt.busy, Blk.box ([(bA y42)] ++ c_S_Lease y49 ++ [(iA 0), (iA 0)]), Blk.box ([(bA y42)] ++ c_S_Lease y49 ++ [(iA 0), (iA 0)])] ?_
    refine .lp (bsy_at rfl) ?_
    refine .cr ?_
    refine .ok ?_
    refine .s (bA false) ?_
    refine .bFN ?_
    refine .st (v := (iA (wr .i64 (v32 + 1)))) (aBin_add ..) ?_
    refine .st (v := [Blk.box (c_S_Replica v33), Blk.box [(iA v34)], Blk.box (c_S_Replica y80), Blk.box [(iA (wr .i64 (v39 + 1)))], Blk.box (c_S_Replica v40), Blk.rng RSt.ready]) ((by kernel_rfl : _ = (bif ((((underss 6 (List.map c_S_Lease v33.Leases)) && ((underss 6 (List.map c_S_Call v33.Calls)) && ((underss 6 (List.map cB v33.Order)) && true)))) && ((((underss 6 (List.map c_S_Lease y80.Leases)) && ((underss 6 (List.map c_S_Call y80.Calls)) && ((underss 6 (List.map cB y80.Order)) && true)))) && ((((underss 6 (List.map c_S_Lease v40.Leases)) && ((underss 6 (List.map c_S_Call v40.Calls)) && ((underss 6 (List.map cB v40.Order)) && true)))) && true))) then some [Blk.box (c_S_Replica v33), Blk.box [(iA v34)], Blk.box (c_S_Replica y80), Blk.box [(iA (wr .i64 (v39 + 1)))], Blk.box (c_S_Replica v40), Blk.rng RSt.ready] else none)).trans (by simp only [un0, unS])) ?_
    refine .cT ((by kernel_rfl : _ = (bif underss 6 (List.map c_S_Lease y50) then (bif underss 6 (List.map c_S_Call v29) then (bif underss 6 (List.map cB v30) then true else false) else false) else false)).trans (by simp only [un0, unS])) ?_
    exact ih _ _ _ _ _ _ _ _
   refine .s (bA (!y42)) ?_
   refine .bg (fun t (y : Bool) => ∃ j83 j84 j85 : A, t = [(bA y), j83, j84, j85]) ?_ ?_
   ·refine .biH (fun hk81 => ?_) (fun hk81 => ?_)
    ·refine .st (v := (iA ((v29.length : Int)))) (len_imm (e := 62) (h1 := by kernel_rfl) ..) ?_
     refine .st (v := (bA (decide (0 < ((v29.length : Int)))))) (aBin_gtr ..) ?_
     exact .lg ⟨_, _, _, rfl⟩
    exact .lg ⟨_, _, _, rfl⟩
   rintro _ y82 ⟨j83, j84, j85, rfl⟩
   iterate 4 refine .uc ?_
   refine .biHN (fun hk86 => ?_) (fun hk86 => ?_)
   ·refine .bd (g := fun (y : S_Call) => A.ip (c_S_Call y)) (idx_imm (e := 62) (es := 2) (h1 := by kernel_rfl) (h2 := by kernel_rfl) (h3 := fun _ => rfl) ..) fun y87 => ?_
    refine .s (A.agg [(iA y87.Bar), (iA y87.Program)]) ?_
    refine .bd (g := fun (y : List S_Call) => (A.imm (List.map c_S_Call y) false)) (cut_imm (e := 62) (es := 2) (f := c_S_Call) (l := v29) (a := 1) (b := (v29.length : Int)) (by kernel_rfl) (by kernel_rfl) (fun _ => rfl) (.inr ⟨_, rfl⟩) (.inl ⟨rfl, rfl⟩)) fun y88 => ?_
    refine .s (A.ptr 6 4) ?_
    refine .cT (by kernel_rfl) ?_
    refine .s [Blk.box (c_S_Replica v33), Blk.box [(iA v34)], (hk20_1 v35 v36 v37 v38), Blk.box [(iA v39)], Blk.box (c_S_Replica v40), Blk.rng RSt.ready, (hk20_2 y42 y87)] (.s (A.agg [(bA y42), (iA 0), (iA 0), (iA 0), (iA y87.Bar), (iA y87.Program)]) ?_)
    refine .dY rfl ?_
    refine .cl (yq.trans (yext_at.trans (e20_r0 C (ec C n 8) (ey C n 8) (n+8) _ _ _ _ _ _ _ _ _))) ?_
    refine .cT (by kernel_rfl) ?_
    refine .lp (rdy_at rfl) ?_
    refine .s ((A.ptr 7 0), [Blk.box (c_S_Replica v33), Blk.box [(iA v34)], (hk20_1 v35 v36 v37 v38), Blk.box [(iA v39)], Blk.box (c_S_Replica v40), Blk.rng RSt.ready, (hk20_2 y42 y87), Blk.box [(bA false), (iA 0), (iA 0), (iA 0), (iA 0), (iA 0)]]) (.s [Blk.box (c_S_Replica v33), Blk.box [(iA v34)], (hk20_1 v35 v36 v37 v38), Blk.box [(iA v39)], Blk.box (c_S_Replica v40), Blk.rng RSt.ready, (hk20_2 y42 y87), (hk20_2 y42 y87)] ?_)
    refine .lp (rdy_at rfl) ?_
    refine .s (A.ptr 7 0) (.s (bA y42) ?_)
    refine .bg (fun t (y : Bool) => ∃ j92 j93 j94 j95 j96 : A, t = [(bA y), j92, j93, j94, j95, j96]) ?_ ?_
    ·refine .biH (fun hk89 => ?_) (fun hk89 => ?_)
     ·refine .s (A.agg [(iA v35), (A.imm (List.map c_S_Lease v36) false), (A.imm (List.map c_S_Call v37) false), (A.imm (List.map cB v38) false)]) (.s (A.ptr 7 1) (.s (A.agg [(iA 0), (iA 0), (iA 0)]) ?_))
      refine .bd (g := fun (y : Bool) => (bA y)) (by show C 50 [snap _ (A.agg [(iA v35), (A.imm (List.map c_S_Lease v36) false), (A.imm (List.map c_S_Call v37) false), (A.imm (List.map cB v38) false)]), snap _ (A.agg [(iA 0), (iA 0), (iA 0)])] = _; simp only [sn0, snM]; exact h50 ((S_Replica.mk v35 v36 v37 v38)) ((S_Lease.mk 0 0 0))) fun y90 => ?_
      refine .s (bA (!y90)) ?_
      exact .lg ⟨_, _, _, _, _, rfl⟩
     exact .lg ⟨_, _, _, _, _, rfl⟩
    rintro _ y91 ⟨j92, j93, j94, j95, j96, rfl⟩
    iterate 6 refine .uc ?_
    refine .bg (fun t (y : Bool) => ∃ j107 j108 j109 j110 j111 j112 j113 j114 j115 j116 : A, t = [(bA y), j107, j108, j109, j110, j111, j112, j113, j114, j115, j116]) ?_ ?_
    ·refine .biH (fun hk97 => ?_) (fun hk97 => ?_)
     ·exact .lg ⟨_, _, _, _, _, _, _, _, _, _, rfl⟩
     refine .s (A.ptr 7 0) (.s (bA y42) (.s (bA (!y42)) ?_))
     refine .bg (fun t (y : Bool) => ∃ j101 j102 j103 j104 j105 : A, t = [(bA y), j101, j102, j103, j104, j105]) ?_ ?_
     ·refine .biH (fun hk98 => ?_) (fun hk98 => ?_)
      ·refine .s (A.agg [(iA v35), (A.imm (List.map c_S_Lease v36) false), (A.imm (List.map c_S_Call v37) false), (A.imm (List.map cB v38) false)]) (.s (A.ptr 7 4) (.s (A.agg [(iA y87.Bar), (iA y87.Program)]) ?_))
       refine .bd (g := fun (y : Bool) => (bA y)) (by show C 51 [snap _ (A.agg [(iA v35), (A.imm (List.map c_S_Lease v36) false), (A.imm (List.map c_S_Call v37) false), (A.imm (List.map cB v38) false)]), snap _ (A.agg [(iA y87.Bar), (iA y87.Program)])] = _; simp only [sn0, snM]; exact h51 ((S_Replica.mk v35 v36 v37 v38)) y87) fun y99 => ?_
       refine .s (bA (!y99)) ?_
       exact .lg ⟨_, _, _, _, _, rfl⟩
      exact .lg ⟨_, _, _, _, _, rfl⟩
     rintro _ y100 ⟨j101, j102, j103, j104, j105, rfl⟩
     iterate 6 refine .uc ?_
     exact .lg ⟨_, _, _, _, _, _, _, _, _, _, rfl⟩
    rintro _ y106 ⟨j107, j108, j109, j110, j111, j112, j113, j114, j115, j116, rfl⟩
    iterate 11 refine .uc ?_
    refine .biHN (fun hk117 => ?_) (fun hk117 => ?_)
    ·refine .s [Blk.box (c_S_Replica v33), Blk.box [(iA 530)], (hk20_1 v35 v36 v37 v38), Blk.box [(iA v39)], Blk.box (c_S_Replica v40), Blk.rng RSt.busy, (hk20_2 y42 y87), (hk20_2 y42 y87)] ?_
     refine .lp (bsy_at rfl) ?_
     refine .cr ?_
     refine .ok ?_
     refine .s (bA true) ?_
     refine .bTN ?_
     exact .ex (x0 _ _ _ _ _ _ _ _ _ _ _ _ _ _ _ _ _ _ _ _ _ _ _ _)
    refine .s (A.agg [(iA v35), (A.imm (List.map c_S_Lease v36) false), (A.imm (List.map c_S_Call v37) false), (A.imm (List.map cB v38) false)]) (.s (A.agg [(bA y42), (iA 0), (iA 0), (iA 0), (iA y87.Bar), (iA y87.Program)]) ?_)
    refine .bd (g := fun (y : S_Replica) => (A.agg [(iA y.Self), (A.imm (List.map c_S_Lease y.Leases) false), (A.imm (List.map c_S_Call y.Calls) false), (A.imm (List.map cB y.Order) false)])) (by show C 33 [snap _ (A.agg [(iA v35), (A.imm (List.map c_S_Lease v36) false), (A.imm (List.map c_S_Call v37) false), (A.imm (List.map cB v38) false)]), snap _ (A.agg [(bA y42), (iA 0), (iA 0), (iA 0), (iA y87.Bar), (iA y87.Program)])] = _; simp only [sn0, snM]; exact h33 ((S_Replica.mk v35 v36 v37 v38)) ((S_replica_entry.mk y42 ((S_Lease.mk 0 0 0)) y87))) fun y118 => ?_
    refine .s [Blk.box (c_S_Replica v33), Blk.box [(iA v34)], Blk.box (c_S_Replica y118), Blk.box [(iA v39)], Blk.box (c_S_Replica v40), Blk.rng RSt.busy, (hk20_2 y42 y87), (hk20_2 y42 y87)] (.s (iA v39) ?_)
    refine .st (v := (iA (wr .i64 (v39 + 1)))) (aBin_add ..) ?_
    refine .s [Blk.box (c_S_Replica v33), Blk.box [(iA v34)], Blk.box (c_S_Replica y118), Blk.box [(iA (wr .i64 (v39 + 1)))], Blk.box (c_S_Replica v40), Blk.rng RSt.busy, (hk20_2 y42 y87), (hk20_2 y42 y87)] ?_
    refine .lp (bsy_at rfl) ?_
    refine .cr ?_
    refine .ok ?_
    refine .s (bA false) ?_
    refine .bFN ?_
    refine .st (v := (iA (wr .i64 (v32 + 1)))) (aBin_add ..) ?_
    refine .st (v := [Blk.box (c_S_Replica v33), Blk.box [(iA v34)], Blk.box (c_S_Replica y118), Blk.box [(iA (wr .i64 (v39 + 1)))], Blk.box (c_S_Replica v40), Blk.rng RSt.ready]) ((by kernel_rfl : _ = (bif ((((underss 6 (List.map c_S_Lease v33.Leases)) && ((underss 6 (List.map c_S_Call v33.Calls)) && ((underss 6 (List.map cB v33.Order)) && true)))) && ((((underss 6 (List.map c_S_Lease y118.Leases)) && ((underss 6 (List.map c_S_Call y118.Calls)) && ((underss 6 (List.map cB y118.Order)) && true)))) && ((((underss 6 (List.map c_S_Lease v40.Leases)) && ((underss 6 (List.map c_S_Call v40.Calls)) && ((underss 6 (List.map cB v40.Order)) && true)))) && true))) then some [Blk.box (c_S_Replica v33), Blk.box [(iA v34)], Blk.box (c_S_Replica y118), Blk.box [(iA (wr .i64 (v39 + 1)))], Blk.box (c_S_Replica v40), Blk.rng RSt.ready] else none)).trans (by simp only [un0, unS])) ?_
    refine .cT ((by kernel_rfl : _ = (bif underss 6 (List.map c_S_Lease v28) then (bif underss 6 (List.map c_S_Call y88) then (bif underss 6 (List.map cB v30) then true else false) else false) else false)).trans (by simp only [un0, unS])) ?_
    exact ih _ _ _ _ _ _ _ _
   exact .ex (x1 _ _ _ _ _ _ _ _ _ _ _ _ _ _ _ _ _)
  exact .ex (x2 _ _ _ _ _ _ _ _ _ _ _)
def F20 (n : Nat) (a0 : S_Replica) : Option Int :=
 (G47 a0.Self 0 1).bind fun y1 => (bif (!y1) then (some true) else (some (((a0.Order.length : Int)) == 0))).bind fun y3 => (bif y3 then (some true) else (some (((a0.Order.length : Int)) != (wr .i64 (((a0.Leases.length : Int)) + ((a0.Calls.length : Int))))))).bind fun y9 => (bif y9 then (some true) else (some (decide (256 < ((a0.Leases.length : Int)))))).bind fun y22 => bif y22 then (some 530) else ((F20_55_0 n a0.Order ((a0.Order.length : Int)) a0 0 a0 (n+7) a0.Leases a0.Calls 0 a0.Self ([]) ([]) ([]) 0).bind fun o119 => match o119 with | (Sum.inl ((y120, y121, y122, y123, y124, y125, y126, y127, y128, y129, y130, y131, y132, y133, y134, y135, y136, y137))) => some y120 | (Sum.inr ((Sum.inl ((y144, y145, y146, y147, y148, y149, y150, y151, y152, y153, y154))))) => (bif (y148 != ((a0.Order.length : Int))) then (some true) else ((getI a0.Order 0).bind fun y162 => some (!y162))).bind fun y163 => bif y163 then (some 530) else (some 0) | (Sum.inr ((Sum.inr ((y170, y171, y172, y173, y174))))) => (bif (y174 != ((a0.Order.length : Int))) then (some true) else ((getI a0.Order 0).bind fun y182 => some (!y182))).bind fun y183 => bif y183 then (some 530) else (some 0))
theorem T20 (C : Nat -> List A -> Option A) (n : Nat) (h33 : Orc33 C) (h47 : Orc47 C) (h50 : Orc50 C) (h51 : Orc51 C) (a0 : S_Replica) : J (fun (o : R) y => ∃ v, o.1 = .ret v /\ snapE o.2 v = (iA y)) (evCall1 (cx C) (ec C n 8) (ey C n 8) (n+8) 20 [(A.agg (c_S_Replica a0))] [] 0) some (F20 n a0) some := by
 refine .lp (e20 ..) ?_
 unfold F20
 refine .s ((A.ptr 0 0), [Blk.box (c_S_Replica a0)]) (.s ((A.ptr 1 0), [Blk.box (c_S_Replica a0), Blk.box [(iA 0)]]) (.s (A.ptr 0 0) (.s (iA a0.Self) ?_)))
 refine .bd (g := fun (y : Bool) => (bA y)) (h47 a0.Self 0 1) fun y1 => ?_
 refine .s (bA (!y1)) ?_
 refine .bg (fun t (y : Bool) => ∃ j4 j5 j6 j7 : A, t = [(bA y), j4, j5, j6, j7]) ?_ ?_
 ·refine .biH (fun hk2 => ?_) (fun hk2 => ?_)
  ·exact .lg ⟨_, _, _, _, rfl⟩
  refine .s (A.ptr 0 3) (.s (A.imm (List.map cB a0.Order) false) ?_)
  refine .st (v := (iA ((a0.Order.length : Int)))) (len_imm (e := 4) (h1 := by kernel_rfl) ..) ?_
  refine .st (v := (bA (((a0.Order.length : Int)) == 0))) (aBin_eql ..) ?_
  exact .lg ⟨_, _, _, _, rfl⟩
 rintro _ y3 ⟨j4, j5, j6, j7, rfl⟩
 iterate 5 refine .uc ?_
 refine .bg (fun t (y : Bool) => ∃ j10 j11 j12 j13 j14 j15 j16 j17 j18 j19 j20 : A, t = [(bA y), j10, j11, j12, j13, j14, j15, j16, j17, j18, j19, j20]) ?_ ?_
 ·refine .biH (fun hk8 => ?_) (fun hk8 => ?_)
  ·exact .lg ⟨_, _, _, _, _, _, _, _, _, _, _, rfl⟩
  refine .s (A.ptr 0 3) (.s (A.imm (List.map cB a0.Order) false) ?_)
  refine .st (v := (iA ((a0.Order.length : Int)))) (len_imm (e := 4) (h1 := by kernel_rfl) ..) ?_
  refine .s (A.ptr 0 1) (.s (A.imm (List.map c_S_Lease a0.Leases) false) ?_)
  refine .st (v := (iA ((a0.Leases.length : Int)))) (len_imm (e := 59) (h1 := by kernel_rfl) ..) ?_
  refine .s (A.ptr 0 2) (.s (A.imm (List.map c_S_Call a0.Calls) false) ?_)
  refine .st (v := (iA ((a0.Calls.length : Int)))) (len_imm (e := 62) (h1 := by kernel_rfl) ..) ?_
  refine .st (v := (iA (wr .i64 (((a0.Leases.length : Int)) + ((a0.Calls.length : Int)))))) (aBin_add ..) ?_
  refine .st (v := (bA (((a0.Order.length : Int)) != (wr .i64 (((a0.Leases.length : Int)) + ((a0.Calls.length : Int))))))) (aBin_neq ..) ?_
  exact .lg ⟨_, _, _, _, _, _, _, _, _, _, _, rfl⟩
 rintro _ y9 ⟨j10, j11, j12, j13, j14, j15, j16, j17, j18, j19, j20, rfl⟩
 iterate 12 refine .uc ?_
 refine .bg (fun t (y : Bool) => ∃ j23 j24 j25 j26 : A, t = [(bA y), j23, j24, j25, j26]) ?_ ?_
 ·refine .biH (fun hk21 => ?_) (fun hk21 => ?_)
  ·exact .lg ⟨_, _, _, _, rfl⟩
  refine .s (A.ptr 0 1) (.s (A.imm (List.map c_S_Lease a0.Leases) false) ?_)
  refine .st (v := (iA ((a0.Leases.length : Int)))) (len_imm (e := 59) (h1 := by kernel_rfl) ..) ?_
  refine .st (v := (bA (decide (256 < ((a0.Leases.length : Int)))))) (aBin_gtr ..) ?_
  exact .lg ⟨_, _, _, _, rfl⟩
 rintro _ y22 ⟨j23, j24, j25, j26, rfl⟩
 iterate 5 refine .uc ?_
 refine .biHN (fun hk27 => ?_) (fun hk27 => ?_)
 ·refine .s [Blk.box (c_S_Replica a0), Blk.box [(iA 530)]] (.s (iA 530) ?_)
  exact .lf rfl rfl ⟨_, rfl, rfl⟩
 refine .s (A.ptr 0 0) (.s (iA a0.Self) (.s (A.agg [(iA a0.Self), (A.imm [] true), (A.imm [] true), (A.imm [] true)]) (.s ((A.ptr 2 0), [Blk.box (c_S_Replica a0), Blk.box [(iA 0)], Blk.box [(iA 0), (A.imm [] true), (A.imm [] true), (A.imm [] true)]]) (.s ((A.ptr 3 0), [Blk.box (c_S_Replica a0), Blk.box [(iA 0)], Blk.box [(iA 0), (A.imm [] true), (A.imm [] true), (A.imm [] true)], Blk.box [(iA 0)]]) (.s [Blk.box (c_S_Replica a0), Blk.box [(iA 0)], Blk.box [(iA a0.Self), (A.imm [] true), (A.imm [] true), (A.imm [] true)], Blk.box [(iA 0)]] (.s [Blk.box (c_S_Replica a0), Blk.box [(iA 0)], Blk.box [(iA a0.Self), (A.imm [] true), (A.imm [] true), (A.imm [] true)], Blk.box [(iA 0)]] (.s (A.agg (c_S_Replica a0)) ?_)))))))
 refine .cl ((evCall_in lt_28).trans (e28 C (ec C n 7) (ey C n 7) (n+7) _ _ _)) ?_
 refine .s ((A.ptr 4 0), [Blk.box (c_S_Replica a0), Blk.box [(iA 0)], Blk.box [(iA a0.Self), (A.imm [] true), (A.imm [] true), (A.imm [] true)], Blk.box [(iA 0)], Blk.box (c_S_Replica a0)]) ?_
 refine .cr ?_
 refine .ok ?_
 refine .s (55, [(A.ptr 4 0)]) ?_
 refine .cT (by kernel_rfl) ?_
 refine .cl ((evCallY_in lt_55).trans (e55 C (evCallY (cx C) (n+7) (yext 124 (evCall (cx C) (n+8)) 5 (roundR (cx C) (ec C n 8) (ey C n 8) (n+8) 20 0 0 5 [(2, (A.ptr 1 0)), (3, (A.ptr 2 0)), (4, (A.ptr 3 0))]))) (evCallY (cx C) (n+7)) (n+7) _ _ _ _)) ?_
 refine .s (A.ptr 4 1) (.s (A.imm (List.map c_S_Lease a0.Leases) false) (.s (A.ptr 4 2) (.s (A.imm (List.map c_S_Call a0.Calls) false) (.s (A.ptr 4 3) (.s (A.imm (List.map cB a0.Order) false) ?_)))))
 refine .st (v := (iA ((a0.Order.length : Int)))) (len_imm (e := 4) (h1 := by kernel_rfl) ..) ?_
 refine .as (T20_55_0 C n h33 h47 h50 h51 a0.Order ((a0.Order.length : Int)) a0 0 a0 _ _ _ _ ?_ ?_ ?_ _ a0.Leases a0.Calls 0 a0.Self ([]) ([]) ([]) 0)
 ·intro y120 y121 y122 y123 y124 y125 y126 y127 y128 y129 y130 y131 y132 y133 y134 y135 y136 y137 j138 j139 j140 j141 j142 j143
  refine .un rfl ?_
  refine .cr ?_
  refine .ok ?_
  refine .lp (rs_r rfl) ?_
  refine .s (iA y120) ?_
  exact .lf rfl rfl ⟨_, rfl, rfl⟩
 ·intro y144 y145 y146 y147 y148 y149 y150 y151 y152 y153 y154 j155 j156 j157 j158 j159 j160
  refine .un rfl ?_
  refine .cr ?_
  refine .ok ?_
  refine .lp (rs_n rfl) ?_
  refine .s (iA y148) (.s (A.ptr 0 3) (.s (A.imm (List.map cB a0.Order) false) ?_))
  refine .st (v := (iA ((a0.Order.length : Int)))) (len_imm (e := 4) (h1 := by kernel_rfl) ..) ?_
  refine .st (v := (bA (y148 != ((a0.Order.length : Int))))) (aBin_neq ..) ?_
  refine .bg (fun t (y : Bool) => ∃ j164 j165 j166 j167 j168 : A, t = [(bA y), j164, j165, j166, j167, j168]) ?_ ?_
  ·refine .biH (fun hk161 => ?_) (fun hk161 => ?_)
   ·exact .lg ⟨_, _, _, _, _, rfl⟩
   refine .s (A.ptr 0 3) (.s (A.imm (List.map cB a0.Order) false) ?_)
   refine .bd (g := fun (y : Bool) => A.ip (cB y)) (idx_imm (e := 4) (es := 1) (h1 := by kernel_rfl) (h2 := by kernel_rfl) (h3 := fun _ => rfl) ..) fun y162 => ?_
   refine .s (bA y162) (.s (bA (!y162)) ?_)
   exact .lg ⟨_, _, _, _, _, rfl⟩
  rintro _ y163 ⟨j164, j165, j166, j167, j168, rfl⟩
  iterate 6 refine .uc ?_
  refine .biHN (fun hk169 => ?_) (fun hk169 => ?_)
  ·refine .s [Blk.box (c_S_Replica a0), Blk.box [(iA 530)], Blk.box [(iA y144), (A.imm (List.map c_S_Lease y145) false), (A.imm (List.map c_S_Call y146) false), (A.imm (List.map cB y147) false)], Blk.box [(iA y148)], Blk.box (c_S_Replica a0), Blk.dead, Blk.box [(bA y149), (iA y150), (iA y151), (iA y152), (iA y153), (iA y154)]] (.s (iA 530) ?_)
   exact .lf rfl rfl ⟨_, rfl, rfl⟩
  refine .s [Blk.box (c_S_Replica a0), Blk.box [(iA 0)], Blk.box [(iA y144), (A.imm (List.map c_S_Lease y145) false), (A.imm (List.map c_S_Call y146) false), (A.imm (List.map cB y147) false)], Blk.box [(iA y148)], Blk.box (c_S_Replica a0), Blk.dead, Blk.box [(bA y149), (iA y150), (iA y151), (iA y152), (iA y153), (iA y154)]] (.s (iA 0) ?_)
  exact .lf rfl rfl ⟨_, rfl, rfl⟩
 ·intro y170 y171 y172 y173 y174 j175 j176 j177 j178 j179 j180
  refine .un rfl ?_
  refine .cT (by kernel_rfl) ?_
  refine .cr ?_
  refine .ok ?_
  refine .lp (rs_n rfl) ?_
  refine .s (iA y174) (.s (A.ptr 0 3) (.s (A.imm (List.map cB a0.Order) false) ?_))
  refine .st (v := (iA ((a0.Order.length : Int)))) (len_imm (e := 4) (h1 := by kernel_rfl) ..) ?_
  refine .st (v := (bA (y174 != ((a0.Order.length : Int))))) (aBin_neq ..) ?_
  refine .bg (fun t (y : Bool) => ∃ j184 j185 j186 j187 j188 : A, t = [(bA y), j184, j185, j186, j187, j188]) ?_ ?_
  ·refine .biH (fun hk181 => ?_) (fun hk181 => ?_)
   ·exact .lg ⟨_, _, _, _, _, rfl⟩
   refine .s (A.ptr 0 3) (.s (A.imm (List.map cB a0.Order) false) ?_)
   refine .bd (g := fun (y : Bool) => A.ip (cB y)) (idx_imm (e := 4) (es := 1) (h1 := by kernel_rfl) (h2 := by kernel_rfl) (h3 := fun _ => rfl) ..) fun y182 => ?_
   refine .s (bA y182) (.s (bA (!y182)) ?_)
   exact .lg ⟨_, _, _, _, _, rfl⟩
  rintro _ y183 ⟨j184, j185, j186, j187, j188, rfl⟩
  iterate 6 refine .uc ?_
  refine .biHN (fun hk189 => ?_) (fun hk189 => ?_)
  ·refine .s [Blk.box (c_S_Replica a0), Blk.box [(iA 530)], Blk.box [(iA y170), (A.imm (List.map c_S_Lease y171) false), (A.imm (List.map c_S_Call y172) false), (A.imm (List.map cB y173) false)], Blk.box [(iA y174)], Blk.box (c_S_Replica a0), Blk.dead] (.s (iA 530) ?_)
   exact .lf rfl rfl ⟨_, rfl, rfl⟩
  refine .s [Blk.box (c_S_Replica a0), Blk.box [(iA 0)], Blk.box [(iA y170), (A.imm (List.map c_S_Lease y171) false), (A.imm (List.map c_S_Call y172) false), (A.imm (List.map cB y173) false)], Blk.box [(iA y174)], Blk.box (c_S_Replica a0), Blk.dead] (.s (iA 0) ?_)
  exact .lf rfl rfl ⟨_, rfl, rfl⟩
def G20 (a0 : S_Replica) : Option Int := F20 fuel0 a0
def Orc20 (C : Nat -> List A -> Option A) : Prop := ∀ (a0 : S_Replica), C 20 [(A.agg (c_S_Replica a0))] = (G20 a0).map fun y => (iA y)
def F24 (n : Nat) (a0 : S_Replica) (a1 : Int) (a2 : Int) : Option (S_Replica × Int) :=
 (G20 a0).bind fun y1 => (bif (y1 == 0) then ((G51 a0 ((S_Call.mk a1 a2))).bind fun y3 => some y3) else (some false)).bind fun y4 => bif (!y4) then ((some ((0, 530))).bind fun y9 => some (((S_Replica.mk y9.1 ([]) ([]) ([])), y9.2))) else ((G33 a0 ((S_replica_entry.mk false ((S_Lease.mk 0 0 0)) ((S_Call.mk a1 a2))))).bind fun y10 => (some ((y10.Self, y10.Leases, y10.Calls, y10.Order, 0))).bind fun y11 => some (((S_Replica.mk y11.1 y11.2.1 y11.2.2.1 y11.2.2.2.1), y11.2.2.2.2)))
theorem T24 (C : Nat -> List A -> Option A) (n : Nat) (h20 : Orc20 C) (h33 : Orc33 C) (h51 : Orc51 C) (a0 : S_Replica) (a1 : Int) (a2 : Int) : J (fun (o : R) y => ∃ v, o.1 = .ret v /\ snapE o.2 v = (A.tup [(A.agg [(iA y.1.Self), (A.imm (List.map c_S_Lease y.1.Leases) false), (A.imm (List.map c_S_Call y.1.Calls) false), (A.imm (List.map cB y.1.Order) false)]), (iA y.2)])) (evCall1 (cx C) (ec C n 8) (ey C n 8) (n+8) 24 [(A.agg (c_S_Replica a0)), (iA a1), (iA a2)] [] 0) some (F24 n a0 a1 a2) some := by
 refine .lp (e24 ..) ?_
 unfold F24
 refine .s ((A.ptr 0 0), [Blk.box (c_S_Replica a0)]) (.s ((A.ptr 1 0), [Blk.box (c_S_Replica a0), Blk.box [(iA 0), (A.imm [] true), (A.imm [] true), (A.imm [] true)]]) (.s ((A.ptr 2 0), [Blk.box (c_S_Replica a0), Blk.box [(iA 0), (A.imm [] true), (A.imm [] true), (A.imm [] true)], Blk.box [(iA 0)]]) (.s (A.agg [(iA a1), (iA a2)]) (.s ((A.ptr 3 0), [Blk.box (c_S_Replica a0), Blk.box [(iA 0), (A.imm [] true), (A.imm [] true), (A.imm [] true)], Blk.box [(iA 0)], Blk.box [(iA 0), (iA 0)]]) (.s [Blk.box (c_S_Replica a0), Blk.box [(iA 0), (A.imm [] true), (A.imm [] true), (A.imm [] true)], Blk.box [(iA 0)], Blk.box [(iA a1), (iA a2)]] (.s (A.agg (c_S_Replica a0)) ?_))))))
 refine .bd (g := fun (y : Int) => (iA y)) (by show C 20 [snap _ (A.agg (c_S_Replica a0))] = _; simp only [sn0, snM]; exact h20 a0) fun y1 => ?_
 refine .st (v := (bA (y1 == 0))) (aBin_eql ..) ?_
 refine .bg (fun t (y : Bool) => ∃ j5 j6 j7 : A, t = [(bA y), j5, j6, j7]) ?_ ?_
 ·refine .biH (fun hk2 => ?_) (fun hk2 => ?_)
  ·refine .s (A.agg (c_S_Replica a0)) (.s (A.agg [(iA a1), (iA a2)]) ?_)
   refine .bd (g := fun (y : Bool) => (bA y)) (by show C 51 [snap _ (A.agg (c_S_Replica a0)), snap _ (A.agg [(iA a1), (iA a2)])] = _; simp only [sn0, snM]; exact h51 a0 ((S_Call.mk a1 a2))) fun y3 => ?_
   exact .lg ⟨_, _, _, rfl⟩
  exact .lg ⟨_, _, _, rfl⟩
 rintro _ y4 ⟨j5, j6, j7, rfl⟩
 iterate 4 refine .uc ?_
 refine .cl ((evCall_in lt_46).trans (e46 C (ec C n 7) (ey C n 7) (n+7) _ _ _ _)) ?_
 refine .s (bA (!y4)) ?_
 refine .biHN (fun hk8 => ?_) (fun hk8 => ?_)
 ·refine .s (A.ifc 31 (iA 530)) ?_
  refine .pk ?_
  refine .cr ?_
  refine .okP ?_
  refine .s (A.agg [(iA 0), (A.imm [] true), (A.imm [] true), (A.imm [] true)]) ?_
  refine .bg (fun t (y : Int × Int) =>  t = (A.tup [(A.agg [(iA y.1), (A.imm [] true), (A.imm [] true), (A.imm [] true)]), (iA y.2)])) ?_ ?_
  ·refine .cl ((evCall_in lt_53).trans (e53 C (ec C n 7) (ey C n 7) (n+7) _ _ _ _)) ?_
   refine .s ((A.ptr 4 0), [Blk.box (c_S_Replica a0), Blk.box [(iA 0), (A.imm [] true), (A.imm [] true), (A.imm [] true)], Blk.box [(iA 0)], Blk.box [(iA a1), (iA a2)], Blk.box [(iA 0), (A.imm [] true), (A.imm [] true), (A.imm [] true)]]) (.s ((A.ptr 5 0), [Blk.box (c_S_Replica a0), Blk.box [(iA 0), (A.imm [] true), (A.imm [] true), (A.imm [] true)], Blk.box [(iA 0)], Blk.box [(iA a1), (iA a2)], Blk.box [(iA 0), (A.imm [] true), (A.imm [] true), (A.imm [] true)], Blk.box [(iA 0), (A.imm [] true), (A.imm [] true), (A.imm [] true)]]) ?_)
   refine .cl ((evCall_in lt_37).trans (e37 C (evCall (cx C) (n+6)) (evCallY (cx C) (n+6)) (n+6) _ _ _)) ?_
   refine .s (bA false) ?_
   refine .bFN ?_
   refine .s (A.tup [(iA 530), (bA true)]) (.s (bA true) (.s (iA 530) ?_))
   refine .bTN ?_
   refine .cr ?_
   refine .ok ?_
   refine .s (bA true) ?_
   refine .bTN ?_
   refine .s (A.agg [(iA 0), (A.imm [] true), (A.imm [] true), (A.imm [] true)]) (.s [Blk.box (c_S_Replica a0), Blk.box [(iA 0), (A.imm [] true), (A.imm [] true), (A.imm [] true)], Blk.box [(iA 0)], Blk.box [(iA a1), (iA a2)], Blk.box [(iA 0), (A.imm [] true), (A.imm [] true), (A.imm [] true)], Blk.box [(iA 0), (A.imm [] true), (A.imm [] true), (A.imm [] true)]] (.s (A.agg [(iA 0), (A.imm [] true), (A.imm [] true), (A.imm [] true)]) ?_))
   refine .cr ?_
   refine .lp (by kernel_rfl : _ = some (A.tup [(A.agg [(iA 0), (A.imm [] true), (A.imm [] true), (A.imm [] true)]), (iA 530)])) ?_
   exact .lg rfl
  rintro _ y9 rfl
  refine .s (A.agg [(iA y9.1), (A.imm [] true), (A.imm [] true), (A.imm [] true)]) (.s (iA y9.2) (.s [Blk.box (c_S_Replica a0), Blk.box [(iA y9.1), (A.imm [] true), (A.imm [] true), (A.imm [] true)], Blk.box [(iA 0)], Blk.box [(iA a1), (iA a2)]] (.s [Blk.box (c_S_Replica a0), Blk.box [(iA y9.1), (A.imm [] true), (A.imm [] true), (A.imm [] true)], Blk.box [(iA y9.2)], Blk.box [(iA a1), (iA a2)]] (.s (A.agg [(iA y9.1), (A.imm [] true), (A.imm [] true), (A.imm [] true)]) (.s (iA y9.2) ?_)))))
  exact .lf rfl rfl ⟨_, rfl, by show snapE _ (A.tup [(A.agg [(iA y9.1), (A.imm [] true), (A.imm [] true), (A.imm [] true)]), (iA y9.2)]) = _; first | (simp only [sn0, snM, snapE]; done) | (simp only [sn0, snS, snapE]; first | done | rfl)⟩
 refine .cr ?_
 refine .ok ?_
 refine .s (A.agg (c_S_Replica a0)) (.s (A.agg [(iA a1), (iA a2)]) (.s (A.agg [(bA false), (iA 0), (iA 0), (iA 0), (iA a1), (iA a2)]) ?_))
 refine .bd (g := fun (y : S_Replica) => (A.agg [(iA y.Self), (A.imm (List.map c_S_Lease y.Leases) false), (A.imm (List.map c_S_Call y.Calls) false), (A.imm (List.map cB y.Order) false)])) (by show C 33 [snap _ (A.agg (c_S_Replica a0)), snap _ (A.agg [(bA false), (iA 0), (iA 0), (iA 0), (iA a1), (iA a2)])] = _; simp only [sn0, snM]; exact h33 a0 ((S_replica_entry.mk false ((S_Lease.mk 0 0 0)) ((S_Call.mk a1 a2))))) fun y10 => ?_
 refine .s [Blk.box (c_S_Replica a0), Blk.box (c_S_Replica y10), Blk.box [(iA 0)], Blk.box [(iA a1), (iA a2)]] (.s [Blk.box (c_S_Replica a0), Blk.box (c_S_Replica y10), Blk.box [(iA 0)], Blk.box [(iA a1), (iA a2)]] (.s (A.agg (c_S_Replica y10)) ?_))
 refine .bg (fun t (y : Int × (List S_Lease) × (List S_Call) × (List Bool) × Int) =>  t = (A.tup [(A.agg [(iA y.1), (A.imm (List.map c_S_Lease y.2.1) false), (A.imm (List.map c_S_Call y.2.2.1) false), (A.imm (List.map cB y.2.2.2.1) false)]), (iA y.2.2.2.2)])) ?_ ?_
 ·refine .cl ((evCall_in lt_53).trans (e53 C (ec C n 7) (ey C n 7) (n+7) _ _ _ _)) ?_
  refine .s ((A.ptr 4 0), [Blk.box (c_S_Replica a0), Blk.box (c_S_Replica y10), Blk.box [(iA 0)], Blk.box [(iA a1), (iA a2)], Blk.box (c_S_Replica y10)]) (.s ((A.ptr 5 0), [Blk.box (c_S_Replica a0), Blk.box (c_S_Replica y10), Blk.box [(iA 0)], Blk.box [(iA a1), (iA a2)], Blk.box (c_S_Replica y10), Blk.box [(iA 0), (A.imm [] true), (A.imm [] true), (A.imm [] true)]]) ?_)
  refine .cl ((evCall_in lt_37).trans (e37 C (evCall (cx C) (n+6)) (evCallY (cx C) (n+6)) (n+6) _ _ _)) ?_
  refine .s (bA true) ?_
  refine .bTN ?_
  refine .cr ?_
  refine .ok ?_
  refine .s (bA false) ?_
  refine .bFN ?_
  refine .s (A.agg (c_S_Replica y10)) (.s [Blk.box (c_S_Replica a0), Blk.box (c_S_Replica y10), Blk.box [(iA 0)], Blk.box [(iA a1), (iA a2)], Blk.box (c_S_Replica y10), Blk.box (c_S_Replica y10)] (.s (A.agg (c_S_Replica y10)) ?_))
  refine .cr ?_
  refine .lp ((by kernel_rfl : _ = (bif ((((underss 4 (List.map c_S_Lease y10.Leases)) && ((underss 4 (List.map c_S_Call y10.Calls)) && ((underss 4 (List.map cB y10.Order)) && true)))) && true) then some (A.tup [(A.agg (c_S_Replica y10)), (iA 0)]) else none)).trans (show _ = some (A.tup [(A.agg (c_S_Replica y10)), (iA 0)]) from (by simp only [un0, unS]))) ?_
  exact .lg rfl
 rintro _ y11 rfl
 refine .s (A.agg [(iA y11.1), (A.imm (List.map c_S_Lease y11.2.1) false), (A.imm (List.map c_S_Call y11.2.2.1) false), (A.imm (List.map cB y11.2.2.2.1) false)]) (.s (iA y11.2.2.2.2) (.s [Blk.box (c_S_Replica a0), Blk.box [(iA y11.1), (A.imm (List.map c_S_Lease y11.2.1) false), (A.imm (List.map c_S_Call y11.2.2.1) false), (A.imm (List.map cB y11.2.2.2.1) false)], Blk.box [(iA 0)], Blk.box [(iA a1), (iA a2)]] (.s [Blk.box (c_S_Replica a0), Blk.box [(iA y11.1), (A.imm (List.map c_S_Lease y11.2.1) false), (A.imm (List.map c_S_Call y11.2.2.1) false), (A.imm (List.map cB y11.2.2.2.1) false)], Blk.box [(iA y11.2.2.2.2)], Blk.box [(iA a1), (iA a2)]] (.s (A.agg [(iA y11.1), (A.imm (List.map c_S_Lease y11.2.1) false), (A.imm (List.map c_S_Call y11.2.2.1) false), (A.imm (List.map cB y11.2.2.2.1) false)]) (.s (iA y11.2.2.2.2) ?_)))))
 exact .lf rfl rfl ⟨_, rfl, by show snapE _ (A.tup [(A.agg [(iA y11.1), (A.imm (List.map c_S_Lease y11.2.1) false), (A.imm (List.map c_S_Call y11.2.2.1) false), (A.imm (List.map cB y11.2.2.2.1) false)]), (iA y11.2.2.2.2)]) = _; first | (simp only [sn0, snM, snapE]; done) | (simp only [sn0, snS, snapE]; first | done | rfl)⟩
def G24 (a0 : S_Replica) (a1 : Int) (a2 : Int) : Option (S_Replica × Int) := F24 fuel0 a0 a1 a2
def Orc24 (C : Nat -> List A -> Option A) : Prop := ∀ (a0 : S_Replica) (a1 : Int) (a2 : Int), C 24 [(A.agg (c_S_Replica a0)), (iA a1), (iA a2)] = (G24 a0 a1 a2).map fun y => (A.tup [(A.agg [(iA y.1.Self), (A.imm (List.map c_S_Lease y.1.Leases) false), (A.imm (List.map c_S_Call y.1.Calls) false), (A.imm (List.map cB y.1.Order) false)]), (iA y.2)])
def tb11 : List ((Int × (List (List UInt8))) × (S_Replica × Int)) := [((0, []), (⟨0, [], [], []⟩, 530)),
 ((1, [[3, 4, 1, 2, 1, 0, 1, 0, 1, 20], [3, 4, 1, 2, 1, 2, 1, 2, 1, 40], [3, 3, 1, 4, 1, 24, 1, 8]]), (⟨1, [⟨0, 0, 10⟩, ⟨1, 1, 20⟩], [⟨12, 4⟩], [true, true, false]⟩, 0))]
def G11 (a0 : Int) (a1 : (List (List UInt8))) : Option (S_Replica × Int) := tabG tb11 (a0, a1)
def Orc11 (C : Nat -> List A -> Option A) : Prop := ∀ (a0 : Int) (a1 : (List (List UInt8))), C 11 [(iA a0), (A.imm (List.map (cL c8) a1) false)] = (G11 a0 a1).map fun y => (A.tup [(A.agg [(iA y.1.Self), (A.imm (List.map c_S_Lease y.1.Leases) false), (A.imm (List.map c_S_Call y.1.Calls) false), (A.imm (List.map cB y.1.Order) false)]), (iA y.2)])
def hk15_1 : Blk := Blk.box [(iA 0), (A.imm [] true), (A.imm [] true), (A.imm [] true), (iA 0), (A.imm [] true), (A.imm [] true), (A.imm [] true), (iA 0), (iA 0), (A.imm [] true), (A.imm [] true), (A.imm [] true)]
def F15_15_0 (n : Nat) (v1 : Int) (v2 : Int) (v15 : (List S_Lease)) (v16 : (List S_Call)) (v17 : (List S_Call)) : Nat -> Int -> Int -> Int -> (List S_Lease) -> (List S_Call) -> (List Bool) -> Int -> (List S_Lease) -> (List S_Call) -> (List Bool) -> Int -> Int -> Option ((Int × Int × Int × Int × Int) ⊕ (Int × (List S_Lease) × (List S_Call) × (List Bool) × Int × (List S_Lease) × (List S_Call) × (List Bool) × Int × Int))
 | 0, _, _, _, _, _, _, _, _, _, _, _, _ => none
 | m + 1, v3, v4, v5, v6, v7, v8, v9, v10, v11, v12, v13, v14 => bif (decide (v4 < 2)) then ((G25 v4 v1 v2).bind fun y19 => bif decide (v4 = 0) then (bif (y19.2 != 0) then (some ((Sum.inl ((y19.2, 0, 0, 0, 0))))) else (F15_15_0 n v1 v2 v15 v16 v17 m y19.2 (wr .i64 (v4 + 1)) y19.1.Self y19.1.Leases y19.1.Calls y19.1.Order v9 v10 v11 v12 1 v14)) else bif decide (v4 = 1) then (bif (y19.2 != 0) then (some ((Sum.inl ((y19.2, 0, 0, 0, 0))))) else (F15_15_0 n v1 v2 v15 v16 v17 m y19.2 (wr .i64 (v4 + 1)) v5 v6 v7 v8 y19.1.Self y19.1.Leases y19.1.Calls y19.1.Order v13 1)) else none) else (some ((Sum.inr ((v5, v6, v7, v8, v9, v10, v11, v12, v13, v14)))))
theorem T15_15_0 (C : Nat -> List A -> Option A) (n : Nat) (h25 : Orc25 C) (v1 : Int) (v2 : Int) (v15 : (List S_Lease)) (v16 : (List S_Call)) (v17 : (List S_Call)) {ρ γ : Type} {φ : ρ -> γ -> Prop} {kL : R -> Option ρ} {K : ((Int × Int × Int × Int × Int) ⊕ (Int × (List S_Lease) × (List S_Call) × (List Bool) × Int × (List S_Lease) × (List S_Call) × (List Bool) × Int × Int)) -> Option γ} (kx kg : Nat -> St -> Option R) (kr : St -> Option R) (kp : A -> St -> Option R) (x0 : ∀ (o0 : Int) (o1 : Int) (o2 : Int) (o3 : Int) (o4 : Int) (s0 : A) (s1 : A) (s7 : A), J φ (kr (St.mk [(0, s0), (1, s1), (4, (A.ptr 0 0)), (5, (iA o0)), (7, s7)] [Blk.box [(iA o1), (A.imm [] true), (A.imm [] true), (A.imm [] true), (iA o2), (A.imm [] true), (A.imm [] true), (A.imm [] true), (iA o3), (iA o4), (A.imm [] true), (A.imm [] true), (A.imm [] true)]])) kL (K (Sum.inl ((o0, o1, o2, o3, o4)))) some) (x1 : ∀ (o0 : Int) (o1 : (List S_Lease)) (o2 : (List S_Call)) (o3 : (List Bool)) (o4 : Int) (o5 : (List S_Lease)) (o6 : (List S_Call)) (o7 : (List Bool)) (o8 : Int) (o9 : Int) (s0 : A) (s1 : A) (s5 : A) (s7 : A), J φ (kx 0 (St.mk [(0, s0), (1, s1), (4, (A.ptr 0 0)), (5, s5), (7, s7)] [Blk.box [(iA o0), (A.imm (List.map c_S_Lease o1) false), (A.imm (List.map c_S_Call o2) false), (A.imm (List.map cB o3) false), (iA o4), (A.imm (List.map c_S_Lease o5) false), (A.imm (List.map c_S_Call o6) false), (A.imm (List.map cB o7) false), (iA o8), (iA o9), (A.imm (List.map c_S_Lease v15) true), (A.imm (List.map c_S_Call v16) true), (A.imm (List.map c_S_Call v17) true)]])) kL (K (Sum.inr ((o0, o1, o2, o3, o4, o5, o6, o7, o8, o9)))) some) :
  ∀ (m : Nat) (v3 : Int) (v4 : Int) (v5 : Int) (v6 : (List S_Lease)) (v7 : (List S_Call)) (v8 : (List Bool)) (v9 : Int) (v10 : (List S_Lease)) (v11 : (List S_Call)) (v12 : (List Bool)) (v13 : Int) (v14 : Int), J φ (loopR (cx C) (ec C n 8) (ey C n 8) (n+8) 15 0 0 1 kx kg kr kp m (St.mk [(0, (iA v1)), (1, (iA v2)), (4, (A.ptr 0 0)), (5, (iA v3)), (7, (iA v4))] [Blk.box [(iA v5), (A.imm (List.map c_S_Lease v6) false), (A.imm (List.map c_S_Call v7) false), (A.imm (List.map cB v8) false), (iA v9), (A.imm (List.map c_S_Lease v10) false), (A.imm (List.map c_S_Call v11) false), (A.imm (List.map cB v12) false), (iA v13), (iA v14), (A.imm (List.map c_S_Lease v15) true), (A.imm (List.map c_S_Call v16) true), (A.imm (List.map c_S_Call v17) true)]])) kL (F15_15_0 n v1 v2 v15 v16 v17 m v3 v4 v5 v6 v7 v8 v9 v10 v11 v12 v13 v14) K := by
 intro m
 induction m with
 | zero => intros; exact .nn
 | succ m ih =>
  intro v3 v4 v5 v6 v7 v8 v9 v10 v11 v12 v13 v14
  refine .lp (e15_0 ..) ?_
  unfold F15_15_0
  refine .st (v := (bA (decide (v4 < 2)))) (aBin_lss ..) ?_
  refine .biHN (fun hk18 => ?_) (fun hk18 => ?_)
  ·refine .bd (g := fun (y : (S_Replica × Int)) => (A.tup [(A.agg [(iA y.1.Self), (A.imm (List.map c_S_Lease y.1.Leases) false), (A.imm (List.map c_S_Call y.1.Calls) false), (A.imm (List.map cB y.1.Order) false)]), (iA y.2)])) (h25 v4 v1 v2) fun y19 => ?_
   refine .s (A.agg (c_S_Replica y19.1)) (.s (iA y19.2) (.s (A.ptr 0 0) ?_))
   refine .sp (fun hb20 => ?_) (fun _ => ?_)
   ·refine .st (v := (A.ptr 0 0)) (by rw [of_decide_eq_true hb20]; kernel_rfl) ?_
    refine .s [Blk.box (c_S_Replica y19.1 ++ [(iA v9), (A.imm (List.map c_S_Lease v10) false), (A.imm (List.map c_S_Call v11) false), (A.imm (List.map cB v12) false), (iA v13), (iA v14), (A.imm (List.map c_S_Lease v15) true), (A.imm (List.map c_S_Call v16) true), (A.imm (List.map c_S_Call v17) true)])] ?_
    refine .st (v := (bA (y19.2 != 0))) (aBin_neq ..) ?_
    refine .biHN (fun hk21 => ?_) (fun hk21 => ?_)
    ·refine .s (A.agg [(iA 0), (A.imm [] true), (A.imm [] true), (A.imm [] true), (iA 0), (A.imm [] true), (A.imm [] true), (A.imm [] true), (iA 0), (iA 0), (A.imm [] true), (A.imm [] true), (A.imm [] true)]) (.s [hk15_1] ?_)
     exact .ex (x0 _ _ _ _ _ _ _ _)
    refine .s (A.ptr 0 8) ?_
    refine .st (v := (A.ptr 0 8)) (by rw [of_decide_eq_true hb20]; kernel_rfl) ?_
    refine .s [Blk.box (c_S_Replica y19.1 ++ [(iA v9), (A.imm (List.map c_S_Lease v10) false), (A.imm (List.map c_S_Call v11) false), (A.imm (List.map cB v12) false), (iA 1), (iA v14), (A.imm (List.map c_S_Lease v15) true), (A.imm (List.map c_S_Call v16) true), (A.imm (List.map c_S_Call v17) true)])] ?_
    refine .st (v := (iA (wr .i64 (v4 + 1)))) (aBin_add ..) ?_
    refine .s [Blk.box (c_S_Replica y19.1 ++ [(iA v9), (A.imm (List.map c_S_Lease v10) false), (A.imm (List.map c_S_Call v11) false), (A.imm (List.map cB v12) false), (iA 1), (iA v14), (A.imm (List.map c_S_Lease v15) true), (A.imm (List.map c_S_Call v16) true), (A.imm (List.map c_S_Call v17) true)])] ?_
    refine .cT (by kernel_rfl) ?_
    exact ih _ _ _ _ _ _ _ _ _ _ _ _
   refine .sp (fun hb22 => ?_) (fun _ => ?_)
   ·refine .st (v := (A.ptr 0 4)) (by rw [of_decide_eq_true hb22]; kernel_rfl) ?_
    refine .s [Blk.box ([(iA v5), (A.imm (List.map c_S_Lease v6) false), (A.imm (List.map c_S_Call v7) false), (A.imm (List.map cB v8) false)] ++ c_S_Replica y19.1 ++ [(iA v13), (iA v14), (A.imm (List.map c_S_Lease v15) true), (A.imm (List.map c_S_Call v16) true), (A.imm (List.map c_S_Call v17) true)])] ?_
    refine .st (v := (bA (y19.2 != 0))) (aBin_neq ..) ?_
    refine .biHN (fun hk23 => ?_) (fun hk23 => ?_)
    ·refine .s (A.agg [(iA 0), (A.imm [] true), (A.imm [] true), (A.imm [] true), (iA 0), (A.imm [] true), (A.imm [] true), (A.imm [] true), (iA 0), (iA 0), (A.imm [] true), (A.imm [] true), (A.imm [] true)]) (.s [hk15_1] ?_)
     exact .ex (x0 _ _ _ _ _ _ _ _)
    refine .s (A.ptr 0 8) ?_
    refine .st (v := (A.ptr 0 9)) (by rw [of_decide_eq_true hb22]; kernel_rfl) ?_
    refine .s [Blk.box ([(iA v5), (A.imm (List.map c_S_Lease v6) false), (A.imm (List.map c_S_Call v7) false), (A.imm (List.map cB v8) false)] ++ c_S_Replica y19.1 ++ [(iA v13), (iA 1), (A.imm (List.map c_S_Lease v15) true), (A.imm (List.map c_S_Call v16) true), (A.imm (List.map c_S_Call v17) true)])] ?_
    refine .st (v := (iA (wr .i64 (v4 + 1)))) (aBin_add ..) ?_
    refine .s [Blk.box ([(iA v5), (A.imm (List.map c_S_Lease v6) false), (A.imm (List.map c_S_Call v7) false), (A.imm (List.map cB v8) false)] ++ c_S_Replica y19.1 ++ [(iA v13), (iA 1), (A.imm (List.map c_S_Lease v15) true), (A.imm (List.map c_S_Call v16) true), (A.imm (List.map c_S_Call v17) true)])] ?_
    refine .cT (by kernel_rfl) ?_
    exact ih _ _ _ _ _ _ _ _ _ _ _ _
   exact .nn
  exact .ex (x1 _ _ _ _ _ _ _ _ _ _ _ _ _ _)
def F15 (n : Nat) (a0 : Int) (a1 : Int) : Option (S_Pair × Int) :=
 (F15_15_0 n a0 a1 ([]) ([]) ([]) (n+8) 0 0 0 ([]) ([]) ([]) 0 ([]) ([]) ([]) 0 0).bind fun o24 => match o24 with | (Sum.inl ((y25, y26, y27, y28, y29))) => some (((S_Pair.mk (((S_Replica.mk y26 ([]) ([]) ([])), (S_Replica.mk y27 ([]) ([]) ([])))) ((y28, y29)) ([]) (([], []))), y25)) | (Sum.inr ((y33, y34, y35, y36, y37, y38, y39, y40, y41, y42))) => some (((S_Pair.mk (((S_Replica.mk y33 y34 y35 y36), (S_Replica.mk y37 y38 y39 y40))) ((y41, y42)) ([]) (([], []))), 0))
theorem T15 (C : Nat -> List A -> Option A) (n : Nat) (h25 : Orc25 C) (a0 : Int) (a1 : Int) : J (fun (o : R) y => ∃ v, o.1 = .ret v /\ snapE o.2 v = (A.tup [(A.agg [(iA y.1.Desks.1.Self), (A.imm (List.map c_S_Lease y.1.Desks.1.Leases) false), (A.imm (List.map c_S_Call y.1.Desks.1.Calls) false), (A.imm (List.map cB y.1.Desks.1.Order) false), (iA y.1.Desks.2.Self), (A.imm (List.map c_S_Lease y.1.Desks.2.Leases) false), (A.imm (List.map c_S_Call y.1.Desks.2.Calls) false), (A.imm (List.map cB y.1.Desks.2.Order) false), (iA y.1.Synced.1), (iA y.1.Synced.2), (A.imm (List.map c_S_Lease y.1.Told) false), (A.imm (List.map c_S_Call y.1.Spoken.1) false), (A.imm (List.map c_S_Call y.1.Spoken.2) false)]), (iA y.2)])) (evCall1 (cx C) (ec C n 8) (ey C n 8) (n+8) 15 [(iA a0), (iA a1)] [] 0) some (F15 n a0 a1) some := by
 refine .lp (e15 ..) ?_
 unfold F15
 refine .s ((A.ptr 0 0), [hk15_1]) ?_
 refine .as (T15_15_0 C n h25 a0 a1 ([]) ([]) ([]) _ _ _ _ ?_ ?_ _ 0 0 0 ([]) ([]) ([]) 0 ([]) ([]) ([]) 0 0)
 ·intro y25 y26 y27 y28 y29 j30 j31 j32
  refine .un rfl ?_
  refine .s (A.agg [(iA y26), (A.imm [] true), (A.imm [] true), (A.imm [] true), (iA y27), (A.imm [] true), (A.imm [] true), (A.imm [] true), (iA y28), (iA y29), (A.imm [] true), (A.imm [] true), (A.imm [] true)]) ?_
  exact .lf rfl rfl ⟨_, rfl, by show snapE _ (A.tup [(A.agg [(iA y26), (A.imm [] true), (A.imm [] true), (A.imm [] true), (iA y27), (A.imm [] true), (A.imm [] true), (A.imm [] true), (iA y28), (iA y29), (A.imm [] true), (A.imm [] true), (A.imm [] true)]), (iA y25)]) = _; first | (simp only [sn0, snM, snapE]; done) | (simp only [sn0, snS, snapE]; first | done | rfl)⟩
 ·intro y33 y34 y35 y36 y37 y38 y39 y40 y41 y42 j43 j44 j45 j46
  refine .un rfl ?_
  refine .cT (by kernel_rfl) ?_
  refine .s (A.agg [(iA y33), (A.imm (List.map c_S_Lease y34) false), (A.imm (List.map c_S_Call y35) false), (A.imm (List.map cB y36) false), (iA y37), (A.imm (List.map c_S_Lease y38) false), (A.imm (List.map c_S_Call y39) false), (A.imm (List.map cB y40) false), (iA y41), (iA y42), (A.imm [] true), (A.imm [] true), (A.imm [] true)]) (.s [Blk.box [(iA y33), (A.imm (List.map c_S_Lease y34) false), (A.imm (List.map c_S_Call y35) false), (A.imm (List.map cB y36) false), (iA y37), (A.imm (List.map c_S_Lease y38) false), (A.imm (List.map c_S_Call y39) false), (A.imm (List.map cB y40) false), (iA y41), (iA y42), (A.imm [] true), (A.imm [] true), (A.imm [] true)]] (.s (A.agg [(iA y33), (A.imm (List.map c_S_Lease y34) false), (A.imm (List.map c_S_Call y35) false), (A.imm (List.map cB y36) false), (iA y37), (A.imm (List.map c_S_Lease y38) false), (A.imm (List.map c_S_Call y39) false), (A.imm (List.map cB y40) false), (iA y41), (iA y42), (A.imm [] true), (A.imm [] true), (A.imm [] true)]) ?_))
  exact .lf rfl rfl ⟨_, rfl, by show snapE _ (A.tup [(A.agg [(iA y33), (A.imm (List.map c_S_Lease y34) false), (A.imm (List.map c_S_Call y35) false), (A.imm (List.map cB y36) false), (iA y37), (A.imm (List.map c_S_Lease y38) false), (A.imm (List.map c_S_Call y39) false), (A.imm (List.map cB y40) false), (iA y41), (iA y42), (A.imm [] true), (A.imm [] true), (A.imm [] true)]), (iA 0)]) = _; first | (simp only [sn0, snM, snapE]; done) | (simp only [sn0, snS, snapE]; first | done | rfl)⟩
def G15 (a0 : Int) (a1 : Int) : Option (S_Pair × Int) := F15 fuel0 a0 a1
def Orc15 (C : Nat -> List A -> Option A) : Prop := ∀ (a0 : Int) (a1 : Int), C 15 [(iA a0), (iA a1)] = (G15 a0 a1).map fun y => (A.tup [(A.agg [(iA y.1.Desks.1.Self), (A.imm (List.map c_S_Lease y.1.Desks.1.Leases) false), (A.imm (List.map c_S_Call y.1.Desks.1.Calls) false), (A.imm (List.map cB y.1.Desks.1.Order) false), (iA y.1.Desks.2.Self), (A.imm (List.map c_S_Lease y.1.Desks.2.Leases) false), (A.imm (List.map c_S_Call y.1.Desks.2.Calls) false), (A.imm (List.map cB y.1.Desks.2.Order) false), (iA y.1.Synced.1), (iA y.1.Synced.2), (A.imm (List.map c_S_Lease y.1.Told) false), (A.imm (List.map c_S_Call y.1.Spoken.1) false), (A.imm (List.map c_S_Call y.1.Spoken.2) false)]), (iA y.2)])
def tb17 : List ((S_Pair × S_Deed) × (S_Pair × Int)) := [((⟨(⟨0, [⟨0, 0, 10⟩], [], [true]⟩, ⟨1, [⟨0, 0, 10⟩], [], [true]⟩), (1, 1), [], ([], [])⟩, ⟨0, 0, 0, 0⟩), (⟨(⟨0, [], [], []⟩, ⟨0, [], [], []⟩), (0, 0), [], ([], [])⟩, 530)),
 ((⟨(⟨0, [⟨0, 0, 10⟩], [], [true]⟩, ⟨1, [⟨0, 0, 10⟩], [], [true]⟩), (1, 1), [], ([], [])⟩, ⟨3, 0, 3, 2⟩), (⟨(⟨0, [⟨0, 0, 10⟩], [⟨3, 2⟩], [true, false]⟩, ⟨1, [⟨0, 0, 10⟩], [], [true]⟩), (1, 1), [], ([], [])⟩, 0)),
 ((⟨(⟨0, [⟨0, 0, 10⟩], [⟨3, 2⟩], [true, false]⟩, ⟨1, [⟨0, 0, 10⟩], [], [true]⟩), (1, 1), [], ([], [])⟩, ⟨3, 0, 5, 1⟩), (⟨(⟨0, [⟨0, 0, 10⟩], [⟨3, 2⟩, ⟨5, 1⟩], [true, false, false]⟩, ⟨1, [⟨0, 0, 10⟩], [], [true]⟩), (1, 1), [], ([], [])⟩, 0)),
 ((⟨(⟨0, [⟨0, 0, 10⟩], [⟨3, 2⟩, ⟨5, 1⟩], [true, false, false]⟩, ⟨1, [⟨0, 0, 10⟩], [], [true]⟩), (1, 1), [], ([], [])⟩, ⟨1, 0, 1, 20⟩), (⟨(⟨0, [⟨0, 0, 10⟩, ⟨1, 1, 20⟩], [⟨3, 2⟩, ⟨5, 1⟩], [true, false, false, true]⟩, ⟨1, [⟨0, 0, 10⟩], [], [true]⟩), (1, 1), [], ([], [])⟩, 0)),
 ((⟨(⟨0, [⟨0, 0, 10⟩, ⟨1, 1, 20⟩], [⟨3, 2⟩, ⟨5, 1⟩], [true, false, false, true]⟩, ⟨1, [⟨0, 0, 10⟩], [], [true]⟩), (1, 1), [], ([], [])⟩, ⟨4, 0, 0, 0⟩), (⟨(⟨0, [⟨0, 0, 10⟩, ⟨1, 1, 20⟩], [⟨3, 2⟩, ⟨5, 1⟩], [true, false, false, true]⟩, ⟨1, [⟨0, 0, 10⟩], [], [true]⟩), (4, 1), [], ([], [])⟩, 0)),
 ((⟨(⟨0, [⟨0, 0, 10⟩, ⟨1, 1, 20⟩], [⟨3, 2⟩, ⟨5, 1⟩], [true, false, false, true]⟩, ⟨1, [⟨0, 0, 10⟩], [], [true]⟩), (4, 1), [], ([], [])⟩, ⟨5, 0, 1, 0⟩), (⟨(⟨0, [⟨0, 0, 10⟩, ⟨1, 1, 20⟩], [⟨3, 2⟩, ⟨5, 1⟩], [true, false, false, true]⟩, ⟨1, [⟨0, 0, 10⟩], [], [true]⟩), (4, 1), [⟨1, 1, 20⟩], ([], [])⟩, 0)),
 ((⟨(⟨0, [⟨0, 0, 10⟩, ⟨1, 1, 20⟩], [⟨3, 2⟩, ⟨5, 1⟩], [true, false, false, true]⟩, ⟨1, [⟨0, 0, 10⟩], [], [true]⟩), (4, 1), [⟨1, 1, 20⟩], ([], [])⟩, ⟨6, 0, 1, 0⟩), (⟨(⟨0, [⟨0, 0, 10⟩, ⟨1, 1, 20⟩], [⟨3, 2⟩, ⟨5, 1⟩], [true, false, false, true]⟩, ⟨1, [⟨0, 0, 10⟩], [], [true]⟩), (4, 1), [⟨1, 1, 20⟩], ([⟨5, 1⟩], [])⟩, 0)),
 ((⟨(⟨0, [⟨0, 0, 10⟩, ⟨1, 1, 20⟩], [⟨3, 2⟩, ⟨5, 1⟩], [true, false, false, true]⟩, ⟨1, [⟨0, 0, 10⟩], [], [true]⟩), (4, 1), [⟨1, 1, 20⟩], ([⟨5, 1⟩], [])⟩, ⟨3, 1, 12, 1⟩), (⟨(⟨0, [], [], []⟩, ⟨0, [], [], []⟩), (0, 0), [], ([], [])⟩, 530)),
 ((⟨(⟨0, [⟨0, 0, 10⟩, ⟨1, 1, 20⟩], [⟨3, 2⟩, ⟨5, 1⟩], [true, false, false, true]⟩, ⟨1, [⟨0, 0, 10⟩], [], [true]⟩), (4, 1), [⟨1, 1, 20⟩], ([⟨5, 1⟩], [])⟩, ⟨2, 1, 0, 0⟩), (⟨(⟨0, [⟨0, 0, 10⟩, ⟨1, 1, 20⟩], [⟨3, 2⟩, ⟨5, 1⟩], [true, false, false, true]⟩, ⟨1, [⟨0, 0, 10⟩, ⟨1, 1, 20⟩], [], [true, true]⟩), (4, 1), [⟨1, 1, 20⟩], ([⟨5, 1⟩], [])⟩, 0)),
 ((⟨(⟨0, [⟨0, 0, 10⟩, ⟨1, 1, 20⟩], [⟨3, 2⟩, ⟨5, 1⟩], [true, false, false, true]⟩, ⟨1, [⟨0, 0, 10⟩, ⟨1, 1, 20⟩], [], [true, true]⟩), (4, 1), [⟨1, 1, 20⟩], ([⟨5, 1⟩], [])⟩, ⟨3, 1, 12, 4⟩), (⟨(⟨0, [⟨0, 0, 10⟩, ⟨1, 1, 20⟩], [⟨3, 2⟩, ⟨5, 1⟩], [true, false, false, true]⟩, ⟨1, [⟨0, 0, 10⟩, ⟨1, 1, 20⟩], [⟨12, 4⟩], [true, true, false]⟩), (4, 1), [⟨1, 1, 20⟩], ([⟨5, 1⟩], [])⟩, 0)),
 ((⟨(⟨0, [⟨0, 0, 10⟩, ⟨1, 1, 20⟩], [⟨3, 2⟩, ⟨5, 1⟩], [true, false, false, true]⟩, ⟨1, [⟨0, 0, 10⟩, ⟨1, 1, 20⟩], [⟨12, 4⟩], [true, true, false]⟩), (4, 1), [⟨1, 1, 20⟩], ([⟨5, 1⟩], [])⟩, ⟨6, 1, 0, 0⟩), (⟨(⟨0, [], [], []⟩, ⟨0, [], [], []⟩), (0, 0), [], ([], [])⟩, 530)),
 ((⟨(⟨0, [⟨0, 0, 10⟩, ⟨1, 1, 20⟩], [⟨3, 2⟩, ⟨5, 1⟩], [true, false, false, true]⟩, ⟨1, [⟨0, 0, 10⟩, ⟨1, 1, 20⟩], [⟨12, 4⟩], [true, true, false]⟩), (4, 1), [⟨1, 1, 20⟩], ([⟨5, 1⟩], [])⟩, ⟨7, 1, 2, 0⟩), (⟨(⟨0, [⟨0, 0, 10⟩, ⟨1, 1, 20⟩], [⟨3, 2⟩, ⟨5, 1⟩], [true, false, false, true]⟩, ⟨1, [⟨0, 0, 10⟩, ⟨1, 1, 20⟩], [], [true, true]⟩), (4, 1), [⟨1, 1, 20⟩], ([⟨5, 1⟩], [])⟩, 0))]
def G17 (a0 : S_Pair) (a1 : S_Deed) : Option (S_Pair × Int) := tabG tb17 (a0, a1)
def Orc17 (C : Nat -> List A -> Option A) : Prop := ∀ (a0 : S_Pair) (a1 : S_Deed), C 17 [(A.agg (c_S_Pair a0)), (A.agg (c_S_Deed a1))] = (G17 a0 a1).map fun y => (A.tup [(A.agg [(iA y.1.Desks.1.Self), (A.imm (List.map c_S_Lease y.1.Desks.1.Leases) false), (A.imm (List.map c_S_Call y.1.Desks.1.Calls) false), (A.imm (List.map cB y.1.Desks.1.Order) false), (iA y.1.Desks.2.Self), (A.imm (List.map c_S_Lease y.1.Desks.2.Leases) false), (A.imm (List.map c_S_Call y.1.Desks.2.Calls) false), (A.imm (List.map cB y.1.Desks.2.Order) false), (iA y.1.Synced.1), (iA y.1.Synced.2), (A.imm (List.map c_S_Lease y.1.Told) false), (A.imm (List.map c_S_Call y.1.Spoken.1) false), (A.imm (List.map c_S_Call y.1.Spoken.2) false)]), (iA y.2)])
def hk27_1 (v6 : Int) (v7 : (List S_Lease)) (v8 : (List S_Call)) (v9 : (List Bool)) (v10 : Int) (v11 : (List S_Lease)) (v12 : (List S_Call)) (v13 : (List Bool)) (v14 : Int) (v15 : Int) (v16 : (List S_Lease)) (v17 : (List S_Call)) (v18 : (List S_Call)) : Blk := Blk.box [(iA v6), (A.imm (List.map c_S_Lease v7) true), (A.imm (List.map c_S_Call v8) true), (A.imm (List.map cB v9) true), (iA v10), (A.imm (List.map c_S_Lease v11) true), (A.imm (List.map c_S_Call v12) true), (A.imm (List.map cB v13) true), (iA v14), (iA v15), (A.imm (List.map c_S_Lease v16) true), (A.imm (List.map c_S_Call v17) true), (A.imm (List.map c_S_Call v18) true)]
def F27_27_0 (n : Nat) (v1 : Bool) (v2 : (List S_Deed)) (v3 : Int) (v6 : Int) (v7 : (List S_Lease)) (v8 : (List S_Call)) (v9 : (List Bool)) (v10 : Int) (v11 : (List S_Lease)) (v12 : (List S_Call)) (v13 : (List Bool)) (v14 : Int) (v15 : Int) (v16 : (List S_Lease)) (v17 : (List S_Call)) (v18 : (List S_Call)) : Nat -> Int -> S_Pair -> Option ((Bool × Int × (List S_Lease) × (List S_Call) × (List Bool) × Int × (List S_Lease) × (List S_Call) × (List Bool) × Int × Int × (List S_Lease) × (List S_Call) × (List S_Call) × Int × (List S_Lease) × (List S_Call) × (List Bool) × Int × (List S_Lease) × (List S_Call) × (List Bool) × Int × Int × (List S_Lease) × (List S_Call) × (List S_Call) × Int × Int × Int × Int × Int × (List S_Lease) × (List S_Call) × (List Bool) × Int × (List S_Lease) × (List S_Call) × (List Bool) × Int × Int × (List S_Lease) × (List S_Call) × (List S_Call)) ⊕ (Int × (List S_Lease) × (List S_Call) × (List Bool) × Int × (List S_Lease) × (List S_Call) × (List Bool) × Int × Int × (List S_Lease) × (List S_Call) × (List S_Call)))
 | 0, _, _ => none
 | m + 1, v4, v5 => bif (decide (v4 < v3)) then ((getI v2 v4).bind fun y20 => (G17 v5 y20).bind fun y21 => bif (y21.2 != 0) then (some ((Sum.inl ((false, v5.Desks.1.Self, v5.Desks.1.Leases, v5.Desks.1.Calls, v5.Desks.1.Order, v5.Desks.2.Self, v5.Desks.2.Leases, v5.Desks.2.Calls, v5.Desks.2.Order, v5.Synced.1, v5.Synced.2, v5.Told, v5.Spoken.1, v5.Spoken.2, v5.Desks.1.Self, v5.Desks.1.Leases, v5.Desks.1.Calls, v5.Desks.1.Order, v5.Desks.2.Self, v5.Desks.2.Leases, v5.Desks.2.Calls, v5.Desks.2.Order, v5.Synced.1, v5.Synced.2, v5.Told, v5.Spoken.1, v5.Spoken.2, y20.Kind, y20.Who, y20.A, y20.B, y21.1.Desks.1.Self, y21.1.Desks.1.Leases, y21.1.Desks.1.Calls, y21.1.Desks.1.Order, y21.1.Desks.2.Self, y21.1.Desks.2.Leases, y21.1.Desks.2.Calls, y21.1.Desks.2.Order, y21.1.Synced.1, y21.1.Synced.2, y21.1.Told, y21.1.Spoken.1, y21.1.Spoken.2))))) else (F27_27_0 n v1 v2 v3 v6 v7 v8 v9 v10 v11 v12 v13 v14 v15 v16 v17 v18 m (wr .i64 (v4 + 1)) y21.1)) else (some ((Sum.inr ((v5.Desks.1.Self, v5.Desks.1.Leases, v5.Desks.1.Calls, v5.Desks.1.Order, v5.Desks.2.Self, v5.Desks.2.Leases, v5.Desks.2.Calls, v5.Desks.2.Order, v5.Synced.1, v5.Synced.2, v5.Told, v5.Spoken.1, v5.Spoken.2)))))
theorem T27_27_0 (C : Nat -> List A -> Option A) (n : Nat) (h17 : Orc17 C) (v1 : Bool) (v2 : (List S_Deed)) (v3 : Int) (v6 : Int) (v7 : (List S_Lease)) (v8 : (List S_Call)) (v9 : (List Bool)) (v10 : Int) (v11 : (List S_Lease)) (v12 : (List S_Call)) (v13 : (List Bool)) (v14 : Int) (v15 : Int) (v16 : (List S_Lease)) (v17 : (List S_Call)) (v18 : (List S_Call)) {ρ γ : Type} {φ : ρ -> γ -> Prop} {kL : R -> Option ρ} {K : ((Bool × Int × (List S_Lease) × (List S_Call) × (List Bool) × Int × (List S_Lease) × (List S_Call) × (List Bool) × Int × Int × (List S_Lease) × (List S_Call) × (List S_Call) × Int × (List S_Lease) × (List S_Call) × (List Bool) × Int × (List S_Lease) × (List S_Call) × (List Bool) × Int × Int × (List S_Lease) × (List S_Call) × (List S_Call) × Int × Int × Int × Int × Int × (List S_Lease) × (List S_Call) × (List Bool) × Int × (List S_Lease) × (List S_Call) × (List Bool) × Int × Int × (List S_Lease) × (List S_Call) × (List S_Call)) ⊕ (Int × (List S_Lease) × (List S_Call) × (List Bool) × Int × (List S_Lease) × (List S_Call) × (List Bool) × Int × Int × (List S_Lease) × (List S_Call) × (List S_Call))) -> Option γ} (kx kg : Nat -> St -> Option R) (kr : St -> Option R) (kp : A -> St -> Option R) (x0 : ∀ (o0 : Bool) (o1 : Int) (o2 : (List S_Lease)) (o3 : (List S_Call)) (o4 : (List Bool)) (o5 : Int) (o6 : (List S_Lease)) (o7 : (List S_Call)) (o8 : (List Bool)) (o9 : Int) (o10 : Int) (o11 : (List S_Lease)) (o12 : (List S_Call)) (o13 : (List S_Call)) (o14 : Int) (o15 : (List S_Lease)) (o16 : (List S_Call)) (o17 : (List Bool)) (o18 : Int) (o19 : (List S_Lease)) (o20 : (List S_Call)) (o21 : (List Bool)) (o22 : Int) (o23 : Int) (o24 : (List S_Lease)) (o25 : (List S_Call)) (o26 : (List S_Call)) (o27 : Int) (o28 : Int) (o29 : Int) (o30 : Int) (o31 : Int) (o32 : (List S_Lease)) (o33 : (List S_Call)) (o34 : (List Bool)) (o35 : Int) (o36 : (List S_Lease)) (o37 : (List S_Call)) (o38 : (List Bool)) (o39 : Int) (o40 : Int) (o41 : (List S_Lease)) (o42 : (List S_Call)) (o43 : (List S_Call)) (s2 : A) (s10 : A) (s11 : A) (s12 : A), J φ (kr (St.mk [(2, s2), (4, (A.ptr 1 0)), (5, (bA o0)), (10, s10), (11, s11), (12, s12)] [Blk.box [(iA o1), (A.imm (List.map c_S_Lease o2) false), (A.imm (List.map c_S_Call o3) false), (A.imm (List.map cB o4) false), (iA o5), (A.imm (List.map c_S_Lease o6) false), (A.imm (List.map c_S_Call o7) false), (A.imm (List.map cB o8) false), (iA o9), (iA o10), (A.imm (List.map c_S_Lease o11) false), (A.imm (List.map c_S_Call o12) false), (A.imm (List.map c_S_Call o13) false)], Blk.box [(iA o14), (A.imm (List.map c_S_Lease o15) false), (A.imm (List.map c_S_Call o16) false), (A.imm (List.map cB o17) false), (iA o18), (A.imm (List.map c_S_Lease o19) false), (A.imm (List.map c_S_Call o20) false), (A.imm (List.map cB o21) false), (iA o22), (iA o23), (A.imm (List.map c_S_Lease o24) false), (A.imm (List.map c_S_Call o25) false), (A.imm (List.map c_S_Call o26) false)], Blk.box [(iA o27), (iA o28), (iA o29), (iA o30)], Blk.box [(iA o31), (A.imm (List.map c_S_Lease o32) false), (A.imm (List.map c_S_Call o33) false), (A.imm (List.map cB o34) false), (iA o35), (A.imm (List.map c_S_Lease o36) false), (A.imm (List.map c_S_Call o37) false), (A.imm (List.map cB o38) false), (iA o39), (iA o40), (A.imm (List.map c_S_Lease o41) false), (A.imm (List.map c_S_Call o42) false), (A.imm (List.map c_S_Call o43) false)]])) kL (K (Sum.inl ((o0, o1, o2, o3, o4, o5, o6, o7, o8, o9, o10, o11, o12, o13, o14, o15, o16, o17, o18, o19, o20, o21, o22, o23, o24, o25, o26, o27, o28, o29, o30, o31, o32, o33, o34, o35, o36, o37, o38, o39, o40, o41, o42, o43)))) some) (x1 : ∀ (o0 : Int) (o1 : (List S_Lease)) (o2 : (List S_Call)) (o3 : (List Bool)) (o4 : Int) (o5 : (List S_Lease)) (o6 : (List S_Call)) (o7 : (List Bool)) (o8 : Int) (o9 : Int) (o10 : (List S_Lease)) (o11 : (List S_Call)) (o12 : (List S_Call)) (s5 : A) (s10 : A) (s11 : A) (s12 : A), J φ (kx 0 (St.mk [(2, (A.ptr 0 0)), (4, (A.ptr 1 0)), (5, s5), (10, s10), (11, s11), (12, s12)] [Blk.box [(iA o0), (A.imm (List.map c_S_Lease o1) false), (A.imm (List.map c_S_Call o2) false), (A.imm (List.map cB o3) false), (iA o4), (A.imm (List.map c_S_Lease o5) false), (A.imm (List.map c_S_Call o6) false), (A.imm (List.map cB o7) false), (iA o8), (iA o9), (A.imm (List.map c_S_Lease o10) false), (A.imm (List.map c_S_Call o11) false), (A.imm (List.map c_S_Call o12) false)], (hk27_1 v6 v7 v8 v9 v10 v11 v12 v13 v14 v15 v16 v17 v18)])) kL (K (Sum.inr ((o0, o1, o2, o3, o4, o5, o6, o7, o8, o9, o10, o11, o12)))) some) :
  ∀ (m : Nat) (v4 : Int) (v5 : S_Pair), J φ (loopR (cx C) (ec C n 8) (ey C n 8) (n+8) 27 0 0 2 kx kg kr kp m (St.mk [(2, (A.ptr 0 0)), (4, (A.ptr 1 0)), (5, (bA v1)), (10, (A.imm (List.map c_S_Deed v2) false)), (11, (iA v3)), (12, (iA v4))] [Blk.box (c_S_Pair v5), (hk27_1 v6 v7 v8 v9 v10 v11 v12 v13 v14 v15 v16 v17 v18)])) kL (F27_27_0 n v1 v2 v3 v6 v7 v8 v9 v10 v11 v12 v13 v14 v15 v16 v17 v18 m v4 v5) K := by
 intro m
 induction m with
 | zero => intros; exact .nn
 | succ m ih =>
  intro v4 v5
  refine .lp (e27_0 ..) ?_
  unfold F27_27_0
  refine .st (v := (bA (decide (v4 < v3)))) (aBin_lss ..) ?_
  refine .biHN (fun hk19 => ?_) (fun hk19 => ?_)
  ·refine .bd (g := fun (y : S_Deed) => A.ip (c_S_Deed y)) (idx_imm (e := 49) (es := 4) (h1 := by kernel_rfl) (h2 := by kernel_rfl) (h3 := fun _ => rfl) ..) fun y20 => ?_
   refine .s (A.agg (c_S_Deed y20)) (.s ((A.ptr 2 0), [Blk.box (c_S_Pair v5), (hk27_1 v6 v7 v8 v9 v10 v11 v12 v13 v14 v15 v16 v17 v18), Blk.box [(iA 0), (iA 0), (iA 0), (iA 0)]]) (.s [Blk.box (c_S_Pair v5), (hk27_1 v6 v7 v8 v9 v10 v11 v12 v13 v14 v15 v16 v17 v18), Blk.box (c_S_Deed y20)] (.s (A.agg (c_S_Pair v5)) (.s (A.agg (c_S_Deed y20)) ?_))))
   refine .bd (g := fun (y : (S_Pair × Int)) => (A.tup [(A.agg [(iA y.1.Desks.1.Self), (A.imm (List.map c_S_Lease y.1.Desks.1.Leases) false), (A.imm (List.map c_S_Call y.1.Desks.1.Calls) false), (A.imm (List.map cB y.1.Desks.1.Order) false), (iA y.1.Desks.2.Self), (A.imm (List.map c_S_Lease y.1.Desks.2.Leases) false), (A.imm (List.map c_S_Call y.1.Desks.2.Calls) false), (A.imm (List.map cB y.1.Desks.2.Order) false), (iA y.1.Synced.1), (iA y.1.Synced.2), (A.imm (List.map c_S_Lease y.1.Told) false), (A.imm (List.map c_S_Call y.1.Spoken.1) false), (A.imm (List.map c_S_Call y.1.Spoken.2) false)]), (iA y.2)])) (by show C 17 [snap _ (A.agg (c_S_Pair v5)), snap _ (A.agg (c_S_Deed y20))] = _; simp only [sn0, snM]; exact h17 v5 y20) fun y21 => ?_
   refine .s (A.agg (c_S_Pair y21.1)) (.s (iA y21.2) (.s ((A.ptr 3 0), [Blk.box (c_S_Pair v5), (hk27_1 v6 v7 v8 v9 v10 v11 v12 v13 v14 v15 v16 v17 v18), Blk.box (c_S_Deed y20), Blk.box [(iA 0), (A.imm [] true), (A.imm [] true), (A.imm [] true), (iA 0), (A.imm [] true), (A.imm [] true), (A.imm [] true), (iA 0), (iA 0), (A.imm [] true), (A.imm [] true), (A.imm [] true)]]) (.s [Blk.box (c_S_Pair v5), (hk27_1 v6 v7 v8 v9 v10 v11 v12 v13 v14 v15 v16 v17 v18), Blk.box (c_S_Deed y20), Blk.box (c_S_Pair y21.1)] ?_)))
   refine .st (v := (bA (y21.2 != 0))) (aBin_neq ..) ?_
   refine .biHN (fun hk22 => ?_) (fun hk22 => ?_)
   ·refine .s (A.agg (c_S_Pair v5)) (.s [Blk.box (c_S_Pair v5), Blk.box (c_S_Pair v5), Blk.box (c_S_Deed y20), Blk.box (c_S_Pair y21.1)] ?_)
    exact .ex (x0 _ _ _ _ _ _ _ _ _ _ _ _ _ _ _ _ _ _ _ _ _ _ _ _ _ _ _ _ _ _ _ _ _ _ _ _ _ _ _ _ _ _ _ _ _ _ _ _)
   refine .s (A.agg (c_S_Pair y21.1)) (.s [Blk.box (c_S_Pair y21.1), (hk27_1 v6 v7 v8 v9 v10 v11 v12 v13 v14 v15 v16 v17 v18), Blk.box (c_S_Deed y20), Blk.box (c_S_Pair y21.1)] ?_)
   refine .st (v := (iA (wr .i64 (v4 + 1)))) (aBin_add ..) ?_
   refine .st (v := [Blk.box (c_S_Pair y21.1), (hk27_1 v6 v7 v8 v9 v10 v11 v12 v13 v14 v15 v16 v17 v18)]) ((by kernel_rfl : _ = (bif ((((underss 2 (List.map c_S_Lease y21.1.Desks.1.Leases)) && ((underss 2 (List.map c_S_Call y21.1.Desks.1.Calls)) && ((underss 2 (List.map cB y21.1.Desks.1.Order)) && ((underss 2 (List.map c_S_Lease y21.1.Desks.2.Leases)) && ((underss 2 (List.map c_S_Call y21.1.Desks.2.Calls)) && ((underss 2 (List.map cB y21.1.Desks.2.Order)) && ((underss 2 (List.map c_S_Lease y21.1.Told)) && ((underss 2 (List.map c_S_Call y21.1.Spoken.1)) && ((underss 2 (List.map c_S_Call y21.1.Spoken.2)) && true)))))))))) && ((((underss 2 (List.map c_S_Lease v7)) && ((underss 2 (List.map c_S_Call v8)) && ((underss 2 (List.map cB v9)) && ((underss 2 (List.map c_S_Lease v11)) && ((underss 2 (List.map c_S_Call v12)) && ((underss 2 (List.map cB v13)) && ((underss 2 (List.map c_S_Lease v16)) && ((underss 2 (List.map c_S_Call v17)) && ((underss 2 (List.map c_S_Call v18)) && true)))))))))) && true)) then some [Blk.box (c_S_Pair y21.1), (hk27_1 v6 v7 v8 v9 v10 v11 v12 v13 v14 v15 v16 v17 v18)] else none)).trans (by simp only [un0, unS])) ?_
   refine .cT ((by kernel_rfl : _ = (bif underss 2 (List.map c_S_Deed v2) then true else false)).trans (by simp only [un0, unS])) ?_
   exact ih _ _
  exact .ex (x1 _ _ _ _ _ _ _ _ _ _ _ _ _ _ _ _ _)
def F27 (n : Nat) (a0 : S_Pair) (a1 : (List S_Deed)) : Option (S_Pair × Bool) :=
 (F27_27_0 n false a1 ((a1.length : Int)) 0 ([]) ([]) ([]) 0 ([]) ([]) ([]) 0 0 ([]) ([]) ([]) (n+8) 0 a0).bind fun o23 => match o23 with | (Sum.inl ((y24, y25, y26, y27, y28, y29, y30, y31, y32, y33, y34, y35, y36, y37, y38, y39, y40, y41, y42, y43, y44, y45, y46, y47, y48, y49, y50, y51, y52, y53, y54, y55, y56, y57, y58, y59, y60, y61, y62, y63, y64, y65, y66, y67))) => some (((S_Pair.mk (((S_Replica.mk y38 y39 y40 y41), (S_Replica.mk y42 y43 y44 y45))) ((y46, y47)) y48 ((y49, y50))), y24)) | (Sum.inr ((y72, y73, y74, y75, y76, y77, y78, y79, y80, y81, y82, y83, y84))) => some (((S_Pair.mk (((S_Replica.mk y72 y73 y74 y75), (S_Replica.mk y76 y77 y78 y79))) ((y80, y81)) y82 ((y83, y84))), true))
theorem T27 (C : Nat -> List A -> Option A) (n : Nat) (h17 : Orc17 C) (a0 : S_Pair) (a1 : (List S_Deed)) : J (fun (o : R) y => ∃ v, o.1 = .ret v /\ snapE o.2 v = (A.tup [(A.agg [(iA y.1.Desks.1.Self), (A.imm (List.map c_S_Lease y.1.Desks.1.Leases) false), (A.imm (List.map c_S_Call y.1.Desks.1.Calls) false), (A.imm (List.map cB y.1.Desks.1.Order) false), (iA y.1.Desks.2.Self), (A.imm (List.map c_S_Lease y.1.Desks.2.Leases) false), (A.imm (List.map c_S_Call y.1.Desks.2.Calls) false), (A.imm (List.map cB y.1.Desks.2.Order) false), (iA y.1.Synced.1), (iA y.1.Synced.2), (A.imm (List.map c_S_Lease y.1.Told) false), (A.imm (List.map c_S_Call y.1.Spoken.1) false), (A.imm (List.map c_S_Call y.1.Spoken.2) false)]), (bA y.2)])) (evCall1 (cx C) (ec C n 8) (ey C n 8) (n+8) 27 [(A.agg (c_S_Pair a0)), (A.imm (List.map c_S_Deed a1) false)] [] 0) some (F27 n a0 a1) some := by
 refine .lp (e27 ..) ?_
 unfold F27
 refine .s ((A.ptr 0 0), [Blk.box (c_S_Pair a0)]) (.s ((A.ptr 1 0), [Blk.box (c_S_Pair a0), Blk.box [(iA 0), (A.imm [] true), (A.imm [] true), (A.imm [] true), (iA 0), (A.imm [] true), (A.imm [] true), (A.imm [] true), (iA 0), (iA 0), (A.imm [] true), (A.imm [] true), (A.imm [] true)]]) ?_)
 refine .st (v := (iA ((a1.length : Int)))) (len_imm (e := 49) (h1 := by kernel_rfl) ..) ?_
 refine .as (T27_27_0 C n h17 false a1 ((a1.length : Int)) 0 ([]) ([]) ([]) 0 ([]) ([]) ([]) 0 0 ([]) ([]) ([]) _ _ _ _ ?_ ?_ _ 0 a0)
 ·intro y24 y25 y26 y27 y28 y29 y30 y31 y32 y33 y34 y35 y36 y37 y38 y39 y40 y41 y42 y43 y44 y45 y46 y47 y48 y49 y50 y51 y52 y53 y54 y55 y56 y57 y58 y59 y60 y61 y62 y63 y64 y65 y66 y67 j68 j69 j70 j71
  refine .un rfl ?_
  refine .s (A.agg [(iA y38), (A.imm (List.map c_S_Lease y39) false), (A.imm (List.map c_S_Call y40) false), (A.imm (List.map cB y41) false), (iA y42), (A.imm (List.map c_S_Lease y43) false), (A.imm (List.map c_S_Call y44) false), (A.imm (List.map cB y45) false), (iA y46), (iA y47), (A.imm (List.map c_S_Lease y48) false), (A.imm (List.map c_S_Call y49) false), (A.imm (List.map c_S_Call y50) false)]) ?_
  exact .lf rfl rfl ⟨_, rfl, by show snapE _ (A.tup [(A.agg [(iA y38), (A.imm (List.map c_S_Lease y39) false), (A.imm (List.map c_S_Call y40) false), (A.imm (List.map cB y41) false), (iA y42), (A.imm (List.map c_S_Lease y43) false), (A.imm (List.map c_S_Call y44) false), (A.imm (List.map cB y45) false), (iA y46), (iA y47), (A.imm (List.map c_S_Lease y48) false), (A.imm (List.map c_S_Call y49) false), (A.imm (List.map c_S_Call y50) false)]), (bA y24)]) = _; first | (simp only [sn0, snM, snapE]; done) | (simp only [sn0, snS, snapE]; first | done | rfl)⟩
 ·intro y72 y73 y74 y75 y76 y77 y78 y79 y80 y81 y82 y83 y84 j85 j86 j87 j88
  refine .un rfl ?_
  refine .cT (by kernel_rfl) ?_
  refine .s (A.agg [(iA y72), (A.imm (List.map c_S_Lease y73) false), (A.imm (List.map c_S_Call y74) false), (A.imm (List.map cB y75) false), (iA y76), (A.imm (List.map c_S_Lease y77) false), (A.imm (List.map c_S_Call y78) false), (A.imm (List.map cB y79) false), (iA y80), (iA y81), (A.imm (List.map c_S_Lease y82) false), (A.imm (List.map c_S_Call y83) false), (A.imm (List.map c_S_Call y84) false)]) (.s [Blk.box [(iA y72), (A.imm (List.map c_S_Lease y73) false), (A.imm (List.map c_S_Call y74) false), (A.imm (List.map cB y75) false), (iA y76), (A.imm (List.map c_S_Lease y77) false), (A.imm (List.map c_S_Call y78) false), (A.imm (List.map cB y79) false), (iA y80), (iA y81), (A.imm (List.map c_S_Lease y82) false), (A.imm (List.map c_S_Call y83) false), (A.imm (List.map c_S_Call y84) false)], Blk.box [(iA y72), (A.imm (List.map c_S_Lease y73) false), (A.imm (List.map c_S_Call y74) false), (A.imm (List.map cB y75) false), (iA y76), (A.imm (List.map c_S_Lease y77) false), (A.imm (List.map c_S_Call y78) false), (A.imm (List.map cB y79) false), (iA y80), (iA y81), (A.imm (List.map c_S_Lease y82) false), (A.imm (List.map c_S_Call y83) false), (A.imm (List.map c_S_Call y84) false)]] (.s (A.agg [(iA y72), (A.imm (List.map c_S_Lease y73) false), (A.imm (List.map c_S_Call y74) false), (A.imm (List.map cB y75) false), (iA y76), (A.imm (List.map c_S_Lease y77) false), (A.imm (List.map c_S_Call y78) false), (A.imm (List.map cB y79) false), (iA y80), (iA y81), (A.imm (List.map c_S_Lease y82) false), (A.imm (List.map c_S_Call y83) false), (A.imm (List.map c_S_Call y84) false)]) ?_))
  exact .lf rfl rfl ⟨_, rfl, by show snapE _ (A.tup [(A.agg [(iA y72), (A.imm (List.map c_S_Lease y73) false), (A.imm (List.map c_S_Call y74) false), (A.imm (List.map cB y75) false), (iA y76), (A.imm (List.map c_S_Lease y77) false), (A.imm (List.map c_S_Call y78) false), (A.imm (List.map cB y79) false), (iA y80), (iA y81), (A.imm (List.map c_S_Lease y82) false), (A.imm (List.map c_S_Call y83) false), (A.imm (List.map c_S_Call y84) false)]), (bA true)]) = _; first | (simp only [sn0, snM, snapE]; done) | (simp only [sn0, snS, snapE]; first | done | rfl)⟩
def G27 (a0 : S_Pair) (a1 : (List S_Deed)) : Option (S_Pair × Bool) := F27 fuel0 a0 a1
def Orc27 (C : Nat -> List A -> Option A) : Prop := ∀ (a0 : S_Pair) (a1 : (List S_Deed)), C 27 [(A.agg (c_S_Pair a0)), (A.imm (List.map c_S_Deed a1) false)] = (G27 a0 a1).map fun y => (A.tup [(A.agg [(iA y.1.Desks.1.Self), (A.imm (List.map c_S_Lease y.1.Desks.1.Leases) false), (A.imm (List.map c_S_Call y.1.Desks.1.Calls) false), (A.imm (List.map cB y.1.Desks.1.Order) false), (iA y.1.Desks.2.Self), (A.imm (List.map c_S_Lease y.1.Desks.2.Leases) false), (A.imm (List.map c_S_Call y.1.Desks.2.Calls) false), (A.imm (List.map cB y.1.Desks.2.Order) false), (iA y.1.Synced.1), (iA y.1.Synced.2), (A.imm (List.map c_S_Lease y.1.Told) false), (A.imm (List.map c_S_Call y.1.Spoken.1) false), (A.imm (List.map c_S_Call y.1.Spoken.2) false)]), (bA y.2)])
def F19_19_0 (n : Nat) (v2 : (List S_Lease)) (v3 : (List S_Lease)) (v4 : Bool) : Nat -> Int -> Option ((Bool) ⊕ (Unit))
 | 0, _ => none
 | m + 1, v5 => bif (decide (v5 < ((v2.length : Int)))) then ((getI v2 v5).bind fun y7 => (getI v3 v5).bind fun y8 => bif (!((y7.No == y8.No) && ((y7.Holder == y8.Holder) && (y7.Until == y8.Until)))) then (some ((Sum.inl false))) else (F19_19_0 n v2 v3 v4 m (wr .i64 (v5 + 1)))) else (some ((Sum.inr (()))))
theorem T19_19_0 (C : Nat -> List A -> Option A) (n : Nat) (v2 : (List S_Lease)) (v3 : (List S_Lease)) (v4 : Bool) {ρ γ : Type} {φ : ρ -> γ -> Prop} {kL : R -> Option ρ} {K : ((Bool) ⊕ (Unit)) -> Option γ} (kx kg : Nat -> St -> Option R) (kr : St -> Option R) (kp : A -> St -> Option R) (x0 : ∀ (o0 : Bool) (s0 : A) (s1 : A) (s5 : A), J φ (kr (St.mk [(0, s0), (1, s1), (4, (bA o0)), (5, s5)] [])) kL (K (Sum.inl o0)) some) (x1 : ∀ (s0 : A) (s1 : A) (s4 : A) (s5 : A), J φ (kx 0 (St.mk [(0, s0), (1, s1), (4, s4), (5, s5)] [])) kL (K (Sum.inr (()))) some) :
  ∀ (m : Nat) (v5 : Int), J φ (loopR (cx C) (ec C n 8) (ey C n 8) (n+8) 19 0 0 0 kx kg kr kp m (St.mk [(0, (A.imm (List.map c_S_Lease v2) false)), (1, (A.imm (List.map c_S_Lease v3) false)), (4, (bA v4)), (5, (iA v5))] [])) kL (F19_19_0 n v2 v3 v4 m v5) K := by
 intro m
 induction m with
 | zero => intros; exact .nn
 | succ m ih =>
  intro v5
  refine .lp (e19_0 ..) ?_
  unfold F19_19_0
  refine .st (v := (iA ((v2.length : Int)))) (len_imm (e := 59) (h1 := by kernel_rfl) ..) ?_
  refine .st (v := (bA (decide (v5 < ((v2.length : Int)))))) (aBin_lss ..) ?_
  refine .biHN (fun hk6 => ?_) (fun hk6 => ?_)
  ·refine .bd (g := fun (y : S_Lease) => A.ip (c_S_Lease y)) (idx_imm (e := 59) (es := 3) (h1 := by kernel_rfl) (h2 := by kernel_rfl) (h3 := fun _ => rfl) ..) fun y7 => ?_
   refine .s (A.agg (c_S_Lease y7)) ?_
   refine .bd (g := fun (y : S_Lease) => A.ip (c_S_Lease y)) (idx_imm (e := 59) (es := 3) (h1 := by kernel_rfl) (h2 := by kernel_rfl) (h3 := fun _ => rfl) ..) fun y8 => ?_
   refine .s (A.agg (c_S_Lease y8)) (.s (bA (!((y7.No == y8.No) && ((y7.Holder == y8.Holder) && (y7.Until == y8.Until))))) ?_)
   refine .biHN (fun hk9 => ?_) (fun hk9 => ?_)
   ·exact .ex (x0 _ _ _ _)
   refine .st (v := (iA (wr .i64 (v5 + 1)))) (aBin_add ..) ?_
   refine .s [] ?_
   refine .cT (by kernel_rfl) ?_
   exact ih _
  exact .ex (x1 _ _ _ _)
def F19 (n : Nat) (a0 : (List S_Lease)) (a1 : (List S_Lease)) : Option Bool :=
 bif (((a0.length : Int)) != ((a1.length : Int))) then (some false) else ((F19_19_0 n a0 a1 false (n+8) 0).bind fun o10 => match o10 with | (Sum.inl y11) => some y11 | (Sum.inr _) => some true)
theorem T19 (C : Nat -> List A -> Option A) (n : Nat) (a0 : (List S_Lease)) (a1 : (List S_Lease)) : J (fun (o : R) y => ∃ v, o.1 = .ret v /\ snapE o.2 v = (bA y)) (evCall1 (cx C) (ec C n 8) (ey C n 8) (n+8) 19 [(A.imm (List.map c_S_Lease a0) false), (A.imm (List.map c_S_Lease a1) false)] [] 0) some (F19 n a0 a1) some := by
 refine .lp (e19 ..) ?_
 unfold F19
 refine .st (v := (iA ((a0.length : Int)))) (len_imm (e := 59) (h1 := by kernel_rfl) ..) ?_
 refine .st (v := (iA ((a1.length : Int)))) (len_imm (e := 59) (h1 := by kernel_rfl) ..) ?_
 refine .st (v := (bA (((a0.length : Int)) != ((a1.length : Int))))) (aBin_neq ..) ?_
 refine .biHN (fun hk1 => ?_) (fun hk1 => ?_)
 ·exact .lf rfl rfl ⟨_, rfl, rfl⟩
 refine .as (T19_19_0 C n  a0 a1 false _ _ _ _ ?_ ?_ _ 0)
 ·intro y11 j12 j13 j14
  refine .un rfl ?_
  exact .lf rfl rfl ⟨_, rfl, rfl⟩
 ·intro j15 j16 j17 j18
  refine .un rfl ?_
  refine .cT (by kernel_rfl) ?_
  exact .lf rfl rfl ⟨_, rfl, rfl⟩
def G19 (a0 : (List S_Lease)) (a1 : (List S_Lease)) : Option Bool := F19 fuel0 a0 a1
def Orc19 (C : Nat -> List A -> Option A) : Prop := ∀ (a0 : (List S_Lease)) (a1 : (List S_Lease)), C 19 [(A.imm (List.map c_S_Lease a0) false), (A.imm (List.map c_S_Lease a1) false)] = (G19 a0 a1).map fun y => (bA y)
def F21_21_0 (n : Nat) (v2 : (List S_Call)) (v3 : (List S_Call)) (v4 : Bool) : Nat -> Int -> Option ((Bool) ⊕ (Unit))
 | 0, _ => none
 | m + 1, v5 => bif (decide (v5 < ((v2.length : Int)))) then ((getI v2 v5).bind fun y7 => (getI v3 v5).bind fun y8 => bif (!((y7.Bar == y8.Bar) && (y7.Program == y8.Program))) then (some ((Sum.inl false))) else (F21_21_0 n v2 v3 v4 m (wr .i64 (v5 + 1)))) else (some ((Sum.inr (()))))
theorem T21_21_0 (C : Nat -> List A -> Option A) (n : Nat) (v2 : (List S_Call)) (v3 : (List S_Call)) (v4 : Bool) {ρ γ : Type} {φ : ρ -> γ -> Prop} {kL : R -> Option ρ} {K : ((Bool) ⊕ (Unit)) -> Option γ} (kx kg : Nat -> St -> Option R) (kr : St -> Option R) (kp : A -> St -> Option R) (x0 : ∀ (o0 : Bool) (s0 : A) (s1 : A) (s5 : A), J φ (kr (St.mk [(0, s0), (1, s1), (4, (bA o0)), (5, s5)] [])) kL (K (Sum.inl o0)) some) (x1 : ∀ (s0 : A) (s1 : A) (s4 : A) (s5 : A), J φ (kx 0 (St.mk [(0, s0), (1, s1), (4, s4), (5, s5)] [])) kL (K (Sum.inr (()))) some) :
  ∀ (m : Nat) (v5 : Int), J φ (loopR (cx C) (ec C n 8) (ey C n 8) (n+8) 21 0 0 0 kx kg kr kp m (St.mk [(0, (A.imm (List.map c_S_Call v2) false)), (1, (A.imm (List.map c_S_Call v3) false)), (4, (bA v4)), (5, (iA v5))] [])) kL (F21_21_0 n v2 v3 v4 m v5) K := by
 intro m
 induction m with
 | zero => intros; exact .nn
 | succ m ih =>
  intro v5
  refine .lp (e21_0 ..) ?_
  unfold F21_21_0
  refine .st (v := (iA ((v2.length : Int)))) (len_imm (e := 62) (h1 := by kernel_rfl) ..) ?_
  refine .st (v := (bA (decide (v5 < ((v2.length : Int)))))) (aBin_lss ..) ?_
  refine .biHN (fun hk6 => ?_) (fun hk6 => ?_)
  ·refine .bd (g := fun (y : S_Call) => A.ip (c_S_Call y)) (idx_imm (e := 62) (es := 2) (h1 := by kernel_rfl) (h2 := by kernel_rfl) (h3 := fun _ => rfl) ..) fun y7 => ?_
   refine .s (A.agg [(iA y7.Bar), (iA y7.Program)]) ?_
   refine .bd (g := fun (y : S_Call) => A.ip (c_S_Call y)) (idx_imm (e := 62) (es := 2) (h1 := by kernel_rfl) (h2 := by kernel_rfl) (h3 := fun _ => rfl) ..) fun y8 => ?_
   refine .s (A.agg [(iA y8.Bar), (iA y8.Program)]) (.s (bA (!((y7.Bar == y8.Bar) && (y7.Program == y8.Program)))) ?_)
   refine .biHN (fun hk9 => ?_) (fun hk9 => ?_)
   ·exact .ex (x0 _ _ _ _)
   refine .st (v := (iA (wr .i64 (v5 + 1)))) (aBin_add ..) ?_
   refine .s [] ?_
   refine .cT (by kernel_rfl) ?_
   exact ih _
  exact .ex (x1 _ _ _ _)
def F21 (n : Nat) (a0 : (List S_Call)) (a1 : (List S_Call)) : Option Bool :=
 bif (((a0.length : Int)) != ((a1.length : Int))) then (some false) else ((F21_21_0 n a0 a1 false (n+8) 0).bind fun o10 => match o10 with | (Sum.inl y11) => some y11 | (Sum.inr _) => some true)
theorem T21 (C : Nat -> List A -> Option A) (n : Nat) (a0 : (List S_Call)) (a1 : (List S_Call)) : J (fun (o : R) y => ∃ v, o.1 = .ret v /\ snapE o.2 v = (bA y)) (evCall1 (cx C) (ec C n 8) (ey C n 8) (n+8) 21 [(A.imm (List.map c_S_Call a0) false), (A.imm (List.map c_S_Call a1) false)] [] 0) some (F21 n a0 a1) some := by
 refine .lp (e21 ..) ?_
 unfold F21
 refine .st (v := (iA ((a0.length : Int)))) (len_imm (e := 62) (h1 := by kernel_rfl) ..) ?_
 refine .st (v := (iA ((a1.length : Int)))) (len_imm (e := 62) (h1 := by kernel_rfl) ..) ?_
 refine .st (v := (bA (((a0.length : Int)) != ((a1.length : Int))))) (aBin_neq ..) ?_
 refine .biHN (fun hk1 => ?_) (fun hk1 => ?_)
 ·exact .lf rfl rfl ⟨_, rfl, rfl⟩
 refine .as (T21_21_0 C n  a0 a1 false _ _ _ _ ?_ ?_ _ 0)
 ·intro y11 j12 j13 j14
  refine .un rfl ?_
  exact .lf rfl rfl ⟨_, rfl, rfl⟩
 ·intro j15 j16 j17 j18
  refine .un rfl ?_
  refine .cT (by kernel_rfl) ?_
  exact .lf rfl rfl ⟨_, rfl, rfl⟩
def G21 (a0 : (List S_Call)) (a1 : (List S_Call)) : Option Bool := F21 fuel0 a0 a1
def Orc21 (C : Nat -> List A -> Option A) : Prop := ∀ (a0 : (List S_Call)) (a1 : (List S_Call)), C 21 [(A.imm (List.map c_S_Call a0) false), (A.imm (List.map c_S_Call a1) false)] = (G21 a0 a1).map fun y => (bA y)
def F14_14_0 (n : Nat) (v29 : Bool) (v31 : S_Replica) (v32 : S_Replica) : Nat -> Int -> Option ((Bool) ⊕ (Unit))
 | 0, _ => none
 | m + 1, v30 => bif (decide (v30 < ((v31.Order.length : Int)))) then ((getI v31.Order v30).bind fun y34 => (getI v32.Order v30).bind fun y35 => bif (y34 != y35) then (some ((Sum.inl false))) else (F14_14_0 n v29 v31 v32 m (wr .i64 (v30 + 1)))) else (some ((Sum.inr (()))))
theorem T14_14_0 (C : Nat -> List A -> Option A) (n : Nat) (h19 : Orc19 C) (h21 : Orc21 C) (v29 : Bool) (v31 : S_Replica) (v32 : S_Replica) {ρ γ : Type} {φ : ρ -> γ -> Prop} {kL : R -> Option ρ} {K : ((Bool) ⊕ (Unit)) -> Option γ} (kx kg : Nat -> St -> Option R) (kr : St -> Option R) (kp : A -> St -> Option R) (x0 : ∀ (o0 : Bool) (s2 : A) (s3 : A) (s5 : A), J φ (kr (St.mk [(2, s2), (3, s3), (4, (bA o0)), (5, s5)] [Blk.box (c_S_Replica v31), Blk.box (c_S_Replica v32)])) kL (K (Sum.inl o0)) some) (x1 : ∀ (s2 : A) (s3 : A) (s4 : A) (s5 : A), J φ (kx 0 (St.mk [(2, s2), (3, s3), (4, s4), (5, s5)] [Blk.box (c_S_Replica v31), Blk.box (c_S_Replica v32)])) kL (K (Sum.inr (()))) some) :
  ∀ (m : Nat) (v30 : Int), J φ (loopR (cx C) (ec C n 8) (ey C n 8) (n+8) 14 0 0 2 kx kg kr kp m (St.mk [(2, (A.ptr 0 0)), (3, (A.ptr 1 0)), (4, (bA v29)), (5, (iA v30))] [Blk.box (c_S_Replica v31), Blk.box (c_S_Replica v32)])) kL (F14_14_0 n v29 v31 v32 m v30) K := by
 intro m
 induction m with
 | zero => intros; exact .nn
 | succ m ih =>
  intro v30
  refine .lp (e14_0 ..) ?_
  unfold F14_14_0
  refine .s (A.ptr 0 3) (.s (A.imm (List.map cB v31.Order) false) ?_)
  refine .st (v := (iA ((v31.Order.length : Int)))) (len_imm (e := 4) (h1 := by kernel_rfl) ..) ?_
  refine .st (v := (bA (decide (v30 < ((v31.Order.length : Int)))))) (aBin_lss ..) ?_
  refine .biHN (fun hk33 => ?_) (fun hk33 => ?_)
  ·refine .s (A.ptr 0 3) (.s (A.imm (List.map cB v31.Order) false) ?_)
   refine .bd (g := fun (y : Bool) => A.ip (cB y)) (idx_imm (e := 4) (es := 1) (h1 := by kernel_rfl) (h2 := by kernel_rfl) (h3 := fun _ => rfl) ..) fun y34 => ?_
   refine .s (bA y34) (.s (A.ptr 1 3) (.s (A.imm (List.map cB v32.Order) false) ?_))
   refine .bd (g := fun (y : Bool) => A.ip (cB y)) (idx_imm (e := 4) (es := 1) (h1 := by kernel_rfl) (h2 := by kernel_rfl) (h3 := fun _ => rfl) ..) fun y35 => ?_
   refine .s (bA y35) (.s (bA (y34 != y35)) ?_)
   refine .biHN (fun hk36 => ?_) (fun hk36 => ?_)
   ·exact .ex (x0 _ _ _ _)
   refine .st (v := (iA (wr .i64 (v30 + 1)))) (aBin_add ..) ?_
   refine .s [Blk.box (c_S_Replica v31), Blk.box (c_S_Replica v32)] ?_
   refine .cT (by kernel_rfl) ?_
   exact ih _
  exact .ex (x1 _ _ _ _)
def F14 (n : Nat) (a0 : S_Replica) (a1 : S_Replica) : Option Bool :=
 (bif (a0.Self != a1.Self) then (some true) else ((G19 a0.Leases a1.Leases).bind fun y2 => some (!y2))).bind fun y3 => (bif y3 then (some true) else ((G21 a0.Calls a1.Calls).bind fun y11 => some (!y11))).bind fun y12 => (bif y12 then (some true) else (some (((a0.Order.length : Int)) != ((a1.Order.length : Int))))).bind fun y20 => bif y20 then (some false) else ((F14_14_0 n false a0 a1 (n+8) 0).bind fun o37 => match o37 with | (Sum.inl y38) => some y38 | (Sum.inr _) => some true)
theorem T14 (C : Nat -> List A -> Option A) (n : Nat) (h19 : Orc19 C) (h21 : Orc21 C) (a0 : S_Replica) (a1 : S_Replica) : J (fun (o : R) y => ∃ v, o.1 = .ret v /\ snapE o.2 v = (bA y)) (evCall1 (cx C) (ec C n 8) (ey C n 8) (n+8) 14 [(A.agg (c_S_Replica a0)), (A.agg (c_S_Replica a1))] [] 0) some (F14 n a0 a1) some := by
 refine .lp (e14 ..) ?_
 unfold F14
 refine .s ((A.ptr 0 0), [Blk.box (c_S_Replica a0)]) (.s ((A.ptr 1 0), [Blk.box (c_S_Replica a0), Blk.box (c_S_Replica a1)]) (.s (A.ptr 0 0) (.s (iA a0.Self) (.s (A.ptr 1 0) (.s (iA a1.Self) ?_)))))
 refine .st (v := (bA (a0.Self != a1.Self))) (aBin_neq ..) ?_
 refine .bg (fun t (y : Bool) => ∃ j4 j5 j6 j7 j8 j9 : A, t = [(bA y), j4, j5, j6, j7, j8, j9]) ?_ ?_
 ·refine .biH (fun hk1 => ?_) (fun hk1 => ?_)
  ·exact .lg ⟨_, _, _, _, _, _, rfl⟩
  refine .s (A.ptr 0 1) (.s (A.imm (List.map c_S_Lease a0.Leases) false) (.s (A.ptr 1 1) (.s (A.imm (List.map c_S_Lease a1.Leases) false) ?_)))
  refine .bd (g := fun (y : Bool) => (bA y)) (by show C 19 [snap _ (A.imm (List.map c_S_Lease a0.Leases) false), snap _ (A.imm (List.map c_S_Lease a1.Leases) false)] = _; simp only [sn0, snM]; exact h19 a0.Leases a1.Leases) fun y2 => ?_
  refine .s (bA (!y2)) ?_
  exact .lg ⟨_, _, _, _, _, _, rfl⟩
 rintro _ y3 ⟨j4, j5, j6, j7, j8, j9, rfl⟩
 iterate 7 refine .uc ?_
 refine .bg (fun t (y : Bool) => ∃ j13 j14 j15 j16 j17 j18 : A, t = [(bA y), j13, j14, j15, j16, j17, j18]) ?_ ?_
 ·refine .biH (fun hk10 => ?_) (fun hk10 => ?_)
  ·exact .lg ⟨_, _, _, _, _, _, rfl⟩
  refine .s (A.ptr 0 2) (.s (A.imm (List.map c_S_Call a0.Calls) false) (.s (A.ptr 1 2) (.s (A.imm (List.map c_S_Call a1.Calls) false) ?_)))
  refine .bd (g := fun (y : Bool) => (bA y)) (by show C 21 [snap _ (A.imm (List.map c_S_Call a0.Calls) false), snap _ (A.imm (List.map c_S_Call a1.Calls) false)] = _; simp only [sn0, snM]; exact h21 a0.Calls a1.Calls) fun y11 => ?_
  refine .s (bA (!y11)) ?_
  exact .lg ⟨_, _, _, _, _, _, rfl⟩
 rintro _ y12 ⟨j13, j14, j15, j16, j17, j18, rfl⟩
 iterate 7 refine .uc ?_
 refine .bg (fun t (y : Bool) => ∃ j21 j22 j23 j24 j25 j26 j27 : A, t = [(bA y), j21, j22, j23, j24, j25, j26, j27]) ?_ ?_
 ·refine .biH (fun hk19 => ?_) (fun hk19 => ?_)
  ·exact .lg ⟨_, _, _, _, _, _, _, rfl⟩
  refine .s (A.ptr 0 3) (.s (A.imm (List.map cB a0.Order) false) ?_)
  refine .st (v := (iA ((a0.Order.length : Int)))) (len_imm (e := 4) (h1 := by kernel_rfl) ..) ?_
  refine .s (A.ptr 1 3) (.s (A.imm (List.map cB a1.Order) false) ?_)
  refine .st (v := (iA ((a1.Order.length : Int)))) (len_imm (e := 4) (h1 := by kernel_rfl) ..) ?_
  refine .st (v := (bA (((a0.Order.length : Int)) != ((a1.Order.length : Int))))) (aBin_neq ..) ?_
  exact .lg ⟨_, _, _, _, _, _, _, rfl⟩
 rintro _ y20 ⟨j21, j22, j23, j24, j25, j26, j27, rfl⟩
 iterate 8 refine .uc ?_
 refine .biHN (fun hk28 => ?_) (fun hk28 => ?_)
 ·exact .lf rfl rfl ⟨_, rfl, rfl⟩
 refine .as (T14_14_0 C n h19 h21 false a0 a1 _ _ _ _ ?_ ?_ _ 0)
 ·intro y38 j39 j40 j41
  refine .un rfl ?_
  exact .lf rfl rfl ⟨_, rfl, rfl⟩
 ·intro j42 j43 j44 j45
  refine .un rfl ?_
  refine .cT (by kernel_rfl) ?_
  exact .lf rfl rfl ⟨_, rfl, rfl⟩
def G14 (a0 : S_Replica) (a1 : S_Replica) : Option Bool := F14 fuel0 a0 a1
def Orc14 (C : Nat -> List A -> Option A) : Prop := ∀ (a0 : S_Replica) (a1 : S_Replica), C 14 [(A.agg (c_S_Replica a0)), (A.agg (c_S_Replica a1))] = (G14 a0 a1).map fun y => (bA y)
def tb9 : List ((S_Replica) × ((List (List UInt8)) × Int)) := [(⟨1, [⟨0, 0, 10⟩, ⟨1, 1, 20⟩], [⟨12, 4⟩], [true, true, false]⟩, ([[3, 4, 1, 2, 1, 0, 1, 0, 1, 20], [3, 4, 1, 2, 1, 2, 1, 2, 1, 40], [3, 3, 1, 4, 1, 24, 1, 8]], 0))]
def G9 (a0 : S_Replica) : Option ((List (List UInt8)) × Int) := tabG tb9 (a0)
def Orc9 (C : Nat -> List A -> Option A) : Prop := ∀ (a0 : S_Replica), C 9 [(A.agg (c_S_Replica a0))] = (G9 a0).map fun y => (A.tup [(A.imm (List.map (cL c8) y.1) false), (iA y.2)])
def F7 (n : Nat)  : Option Bool :=
 (G25 0 0 10).bind fun y1 => (G25 2 0 5).bind fun y2 => (G25 0 0 0).bind fun y3 => (G25 0 1 5).bind fun y4 => (G26 y4.1 0 9).bind fun y5 => (G24 y1.1 10 1).bind fun y6 => (G11 0 ([])).bind fun y7 => (G15 0 10).bind fun y8 => (G17 y8.1 ((S_Deed.mk 0 0 0 0))).bind fun y9 => (bif (y1.2 != 0) then (some true) else (some (y2.2 != 1))).bind fun y11 => (bif y11 then (some true) else (some (y3.2 != 1))).bind fun y15 => (bif y15 then (some true) else (some (y4.2 != 0))).bind fun y19 => (bif y19 then (some true) else (some (y5.2 != 530))).bind fun y23 => (bif y23 then (some true) else (some (y6.2 != 530))).bind fun y27 => (bif y27 then (some true) else (some (y7.2 != 530))).bind fun y31 => (bif y31 then (some true) else (some (y8.2 != 0))).bind fun y35 => (bif y35 then (some true) else (some (y9.2 != 530))).bind fun y39 => (bif y39 then (some true) else ((G20 y1.1).bind fun y43 => some (y43 != 0))).bind fun y44 => (bif y44 then (some true) else ((G20 ((S_Replica.mk 0 ([]) ([]) ([])))).bind fun y49 => some (y49 != 530))).bind fun y50 => bif y50 then (some false) else ((G27 y8.1 ([(S_Deed.mk 3 0 3 2), (S_Deed.mk 3 0 5 1), (S_Deed.mk 1 0 1 20), (S_Deed.mk 4 0 0 0), (S_Deed.mk 5 0 1 0), (S_Deed.mk 6 0 1 0)])).bind fun y55 => (G17 y55.1 ((S_Deed.mk 3 1 12 1))).bind fun y56 => (G27 y55.1 ([(S_Deed.mk 2 1 0 0), (S_Deed.mk 3 1 12 4)])).bind fun y57 => (G17 y57.1 ((S_Deed.mk 6 1 0 0))).bind fun y58 => (G27 y57.1 ([(S_Deed.mk 7 1 2 0)])).bind fun y59 => (bif (!y55.2) then (some true) else (some (y56.2 != 530))).bind fun y61 => (bif y61 then (some true) else (some (!y57.2))).bind fun y65 => (bif y65 then (some true) else (some (y58.2 != 530))).bind fun y69 => (bif y69 then (some true) else (some (!y59.2))).bind fun y73 => bif y73 then (some false) else ((G19 y55.1.Told ([(S_Lease.mk 1 1 20)])).bind fun y77 => (bif (!y77) then (some true) else ((G21 y55.1.Spoken.1 ([(S_Call.mk 5 1)])).bind fun y79 => some (!y79))).bind fun y80 => bif y80 then ((some true).bind fun y123 => bif y123 then (some false) else ((G9 y57.1.Desks.2).bind fun y127 => (G11 1 y127.1).bind fun y128 => (bif (y127.2 == 0) then (some (y128.2 == 0)) else (some false)).bind fun y130 => (bif y130 then (some (((y127.1.length : Int)) == 3)) else (some false)).bind fun y134 => (bif y134 then ((G14 y128.1 y57.1.Desks.2).bind fun y139 => some y139) else (some false)).bind fun y140 => (bif y140 then ((G14 y59.1.Desks.2 ((S_Replica.mk 1 ([(S_Lease.mk 0 0 10), (S_Lease.mk 1 1 20)]) ([]) ([true, true])))).bind fun y147 => some y147) else (some false)).bind fun y148 => some y148)) else (((G14 y57.1.Desks.2 ((S_Replica.mk 1 ([(S_Lease.mk 0 0 10), (S_Lease.mk 1 1 20)]) ([(S_Call.mk 12 4)]) ([true, true, false])))).bind fun y89 => some (!y89)).bind fun y90 => bif y90 then (some false) else ((G9 y57.1.Desks.2).bind fun y94 => (G11 1 y94.1).bind fun y95 => (bif (y94.2 == 0) then (some (y95.2 == 0)) else (some false)).bind fun y97 => (bif y97 then (some (((y94.1.length : Int)) == 3)) else (some false)).bind fun y101 => (bif y101 then ((G14 y95.1 y57.1.Desks.2).bind fun y106 => some y106) else (some false)).bind fun y107 => (bif y107 then ((G14 y59.1.Desks.2 ((S_Replica.mk 1 ([(S_Lease.mk 0 0 10), (S_Lease.mk 1 1 20)]) ([]) ([true, true])))).bind fun y114 => some y114) else (some false)).bind fun y115 => some y115))))
theorem T7 (C : Nat -> List A -> Option A) (n : Nat) (h11 : Orc11 C) (h14 : Orc14 C) (h15 : Orc15 C) (h17 : Orc17 C) (h19 : Orc19 C) (h20 : Orc20 C) (h21 : Orc21 C) (h24 : Orc24 C) (h25 : Orc25 C) (h26 : Orc26 C) (h27 : Orc27 C) (h9 : Orc9 C) : J (fun (o : R) y => ∃ v, o.1 = .ret v /\ snapE o.2 v = (bA y)) (evCall1 (cx C) (ec C n 8) (ey C n 8) (n+8) 7 [] [] 0) some (F7 n ) some := by
 refine .lp (e7 ..) ?_
 unfold F7
 refine .bd (g := fun (y : (S_Replica × Int)) => (A.tup [(A.agg [(iA y.1.Self), (A.imm (List.map c_S_Lease y.1.Leases) false), (A.imm (List.map c_S_Call y.1.Calls) false), (A.imm (List.map cB y.1.Order) false)]), (iA y.2)])) (h25 0 0 10) fun y1 => ?_
 refine .s (A.agg (c_S_Replica y1.1)) (.s (iA y1.2) (.s ((A.ptr 0 0), [Blk.box [(iA 0), (A.imm [] true), (A.imm [] true), (A.imm [] true)]]) (.s [Blk.box (c_S_Replica y1.1)] ?_)))
 refine .bd (g := fun (y : (S_Replica × Int)) => (A.tup [(A.agg [(iA y.1.Self), (A.imm (List.map c_S_Lease y.1.Leases) false), (A.imm (List.map c_S_Call y.1.Calls) false), (A.imm (List.map cB y.1.Order) false)]), (iA y.2)])) (h25 2 0 5) fun y2 => ?_
 refine .s (A.agg (c_S_Replica y2.1)) (.s (iA y2.2) (.s ((A.ptr 1 0), [Blk.box (c_S_Replica y1.1), Blk.box [(iA 0), (A.imm [] true), (A.imm [] true), (A.imm [] true)]]) (.s [Blk.box (c_S_Replica y1.1), Blk.box (c_S_Replica y2.1)] ?_)))
 refine .bd (g := fun (y : (S_Replica × Int)) => (A.tup [(A.agg [(iA y.1.Self), (A.imm (List.map c_S_Lease y.1.Leases) false), (A.imm (List.map c_S_Call y.1.Calls) false), (A.imm (List.map cB y.1.Order) false)]), (iA y.2)])) (h25 0 0 0) fun y3 => ?_
 refine .s (A.agg (c_S_Replica y3.1)) (.s (iA y3.2) (.s ((A.ptr 2 0), [Blk.box (c_S_Replica y1.1), Blk.box (c_S_Replica y2.1), Blk.box [(iA 0), (A.imm [] true), (A.imm [] true), (A.imm [] true)]]) (.s [Blk.box (c_S_Replica y1.1), Blk.box (c_S_Replica y2.1), Blk.box (c_S_Replica y3.1)] ?_)))
 refine .bd (g := fun (y : (S_Replica × Int)) => (A.tup [(A.agg [(iA y.1.Self), (A.imm (List.map c_S_Lease y.1.Leases) false), (A.imm (List.map c_S_Call y.1.Calls) false), (A.imm (List.map cB y.1.Order) false)]), (iA y.2)])) (h25 0 1 5) fun y4 => ?_
 refine .s (A.agg (c_S_Replica y4.1)) (.s (iA y4.2) (.s ((A.ptr 3 0), [Blk.box (c_S_Replica y1.1), Blk.box (c_S_Replica y2.1), Blk.box (c_S_Replica y3.1), Blk.box [(iA 0), (A.imm [] true), (A.imm [] true), (A.imm [] true)]]) (.s [Blk.box (c_S_Replica y1.1), Blk.box (c_S_Replica y2.1), Blk.box (c_S_Replica y3.1), Blk.box (c_S_Replica y4.1)] (.s (A.agg (c_S_Replica y4.1)) ?_))))
 refine .bd (g := fun (y : (S_Replica × Int)) => (A.tup [(A.agg [(iA y.1.Self), (A.imm (List.map c_S_Lease y.1.Leases) false), (A.imm (List.map c_S_Call y.1.Calls) false), (A.imm (List.map cB y.1.Order) false)]), (iA y.2)])) (by show C 26 [snap _ (A.agg (c_S_Replica y4.1)), snap _ (iA 0), snap _ (iA 9)] = _; simp only [sn0, snM]; exact h26 y4.1 0 9) fun y5 => ?_
 refine .s (A.agg (c_S_Replica y5.1)) (.s (iA y5.2) (.s ((A.ptr 4 0), [Blk.box (c_S_Replica y1.1), Blk.box (c_S_Replica y2.1), Blk.box (c_S_Replica y3.1), Blk.box (c_S_Replica y4.1), Blk.box [(iA 0), (A.imm [] true), (A.imm [] true), (A.imm [] true)]]) (.s [Blk.box (c_S_Replica y1.1), Blk.box (c_S_Replica y2.1), Blk.box (c_S_Replica y3.1), Blk.box (c_S_Replica y4.1), Blk.box (c_S_Replica y5.1)] (.s (A.agg (c_S_Replica y1.1)) ?_))))
 refine .bd (g := fun (y : (S_Replica × Int)) => (A.tup [(A.agg [(iA y.1.Self), (A.imm (List.map c_S_Lease y.1.Leases) false), (A.imm (List.map c_S_Call y.1.Calls) false), (A.imm (List.map cB y.1.Order) false)]), (iA y.2)])) (by show C 24 [snap _ (A.agg (c_S_Replica y1.1)), snap _ (iA 10), snap _ (iA 1)] = _; simp only [sn0, snM]; exact h24 y1.1 10 1) fun y6 => ?_
 refine .s (A.agg (c_S_Replica y6.1)) (.s (iA y6.2) (.s ((A.ptr 5 0), [Blk.box (c_S_Replica y1.1), Blk.box (c_S_Replica y2.1), Blk.box (c_S_Replica y3.1), Blk.box (c_S_Replica y4.1), Blk.box (c_S_Replica y5.1), Blk.box [(iA 0), (A.imm [] true), (A.imm [] true), (A.imm [] true)]]) (.s [Blk.box (c_S_Replica y1.1), Blk.box (c_S_Replica y2.1), Blk.box (c_S_Replica y3.1), Blk.box (c_S_Replica y4.1), Blk.box (c_S_Replica y5.1), Blk.box (c_S_Replica y6.1)] ?_)))
 refine .bd (g := fun (y : (S_Replica × Int)) => (A.tup [(A.agg [(iA y.1.Self), (A.imm (List.map c_S_Lease y.1.Leases) false), (A.imm (List.map c_S_Call y.1.Calls) false), (A.imm (List.map cB y.1.Order) false)]), (iA y.2)])) (by show C 11 [snap _ (iA 0), snap _ (A.imm [] true)] = _; simp only [sn0, snM]; exact h11 0 ([])) fun y7 => ?_
 refine .s (A.agg (c_S_Replica y7.1)) (.s (iA y7.2) (.s ((A.ptr 6 0), [Blk.box (c_S_Replica y1.1), Blk.box (c_S_Replica y2.1), Blk.box (c_S_Replica y3.1), Blk.box (c_S_Replica y4.1), Blk.box (c_S_Replica y5.1), Blk.box (c_S_Replica y6.1), Blk.box [(iA 0), (A.imm [] true), (A.imm [] true), (A.imm [] true)]]) (.s [Blk.box (c_S_Replica y1.1), Blk.box (c_S_Replica y2.1), Blk.box (c_S_Replica y3.1), Blk.box (c_S_Replica y4.1), Blk.box (c_S_Replica y5.1), Blk.box (c_S_Replica y6.1), Blk.box (c_S_Replica y7.1)] ?_)))
 refine .bd (g := fun (y : (S_Pair × Int)) => (A.tup [(A.agg [(iA y.1.Desks.1.Self), (A.imm (List.map c_S_Lease y.1.Desks.1.Leases) false), (A.imm (List.map c_S_Call y.1.Desks.1.Calls) false), (A.imm (List.map cB y.1.Desks.1.Order) false), (iA y.1.Desks.2.Self), (A.imm (List.map c_S_Lease y.1.Desks.2.Leases) false), (A.imm (List.map c_S_Call y.1.Desks.2.Calls) false), (A.imm (List.map cB y.1.Desks.2.Order) false), (iA y.1.Synced.1), (iA y.1.Synced.2), (A.imm (List.map c_S_Lease y.1.Told) false), (A.imm (List.map c_S_Call y.1.Spoken.1) false), (A.imm (List.map c_S_Call y.1.Spoken.2) false)]), (iA y.2)])) (h15 0 10) fun y8 => ?_
 refine .s (A.agg (c_S_Pair y8.1)) (.s (iA y8.2) (.s ((A.ptr 7 0), [Blk.box (c_S_Replica y1.1), Blk.box (c_S_Replica y2.1), Blk.box (c_S_Replica y3.1), Blk.box (c_S_Replica y4.1), Blk.box (c_S_Replica y5.1), Blk.box (c_S_Replica y6.1), Blk.box (c_S_Replica y7.1), hk15_1]) (.s [Blk.box (c_S_Replica y1.1), Blk.box (c_S_Replica y2.1), Blk.box (c_S_Replica y3.1), Blk.box (c_S_Replica y4.1), Blk.box (c_S_Replica y5.1), Blk.box (c_S_Replica y6.1), Blk.box (c_S_Replica y7.1), Blk.box (c_S_Pair y8.1)] (.s (A.agg (c_S_Pair y8.1)) (.s (A.agg [(iA 0), (iA 0), (iA 0), (iA 0)]) ?_)))))
 refine .bd (g := fun (y : (S_Pair × Int)) => (A.tup [(A.agg [(iA y.1.Desks.1.Self), (A.imm (List.map c_S_Lease y.1.Desks.1.Leases) false), (A.imm (List.map c_S_Call y.1.Desks.1.Calls) false), (A.imm (List.map cB y.1.Desks.1.Order) false), (iA y.1.Desks.2.Self), (A.imm (List.map c_S_Lease y.1.Desks.2.Leases) false), (A.imm (List.map c_S_Call y.1.Desks.2.Calls) false), (A.imm (List.map cB y.1.Desks.2.Order) false), (iA y.1.Synced.1), (iA y.1.Synced.2), (A.imm (List.map c_S_Lease y.1.Told) false), (A.imm (List.map c_S_Call y.1.Spoken.1) false), (A.imm (List.map c_S_Call y.1.Spoken.2) false)]), (iA y.2)])) (by show C 17 [snap _ (A.agg (c_S_Pair y8.1)), snap _ (A.agg [(iA 0), (iA 0), (iA 0), (iA 0)])] = _; simp only [sn0, snM]; exact h17 y8.1 ((S_Deed.mk 0 0 0 0))) fun y9 => ?_
 refine .s (A.agg (c_S_Pair y9.1)) (.s (iA y9.2) (.s ((A.ptr 8 0), [Blk.box (c_S_Replica y1.1), Blk.box (c_S_Replica y2.1), Blk.box (c_S_Replica y3.1), Blk.box (c_S_Replica y4.1), Blk.box (c_S_Replica y5.1), Blk.box (c_S_Replica y6.1), Blk.box (c_S_Replica y7.1), Blk.box (c_S_Pair y8.1), hk15_1]) (.s [Blk.box (c_S_Replica y1.1), Blk.box (c_S_Replica y2.1), Blk.box (c_S_Replica y3.1), Blk.box (c_S_Replica y4.1), Blk.box (c_S_Replica y5.1), Blk.box (c_S_Replica y6.1), Blk.box (c_S_Replica y7.1), Blk.box (c_S_Pair y8.1), Blk.box (c_S_Pair y9.1)] ?_)))
 refine .st (v := (bA (y1.2 != 0))) (aBin_neq ..) ?_
 refine .bg (fun t (y : Bool) => ∃ j12 j13 : A, t = [(bA y), j12, j13]) ?_ ?_
 ·refine .biH (fun hk10 => ?_) (fun hk10 => ?_)
  ·exact .lg ⟨_, _, rfl⟩
  refine .st (v := (bA (y2.2 != 1))) (aBin_neq ..) ?_
  exact .lg ⟨_, _, rfl⟩
 rintro _ y11 ⟨j12, j13, rfl⟩
 iterate 3 refine .uc ?_
 refine .bg (fun t (y : Bool) => ∃ j16 j17 : A, t = [(bA y), j16, j17]) ?_ ?_
 ·refine .biH (fun hk14 => ?_) (fun hk14 => ?_)
  ·exact .lg ⟨_, _, rfl⟩
  refine .st (v := (bA (y3.2 != 1))) (aBin_neq ..) ?_
  exact .lg ⟨_, _, rfl⟩
 rintro _ y15 ⟨j16, j17, rfl⟩
 iterate 3 refine .uc ?_
 refine .bg (fun t (y : Bool) => ∃ j20 j21 : A, t = [(bA y), j20, j21]) ?_ ?_
 ·refine .biH (fun hk18 => ?_) (fun hk18 => ?_)
  ·exact .lg ⟨_, _, rfl⟩
  refine .st (v := (bA (y4.2 != 0))) (aBin_neq ..) ?_
  exact .lg ⟨_, _, rfl⟩
 rintro _ y19 ⟨j20, j21, rfl⟩
 iterate 3 refine .uc ?_
 refine .bg (fun t (y : Bool) => ∃ j24 j25 : A, t = [(bA y), j24, j25]) ?_ ?_
 ·refine .biH (fun hk22 => ?_) (fun hk22 => ?_)
  ·exact .lg ⟨_, _, rfl⟩
  refine .st (v := (bA (y5.2 != 530))) (aBin_neq ..) ?_
  exact .lg ⟨_, _, rfl⟩
 rintro _ y23 ⟨j24, j25, rfl⟩
 iterate 3 refine .uc ?_
 refine .bg (fun t (y : Bool) => ∃ j28 j29 : A, t = [(bA y), j28, j29]) ?_ ?_
 ·refine .biH (fun hk26 => ?_) (fun hk26 => ?_)
  ·exact .lg ⟨_, _, rfl⟩
  refine .st (v := (bA (y6.2 != 530))) (aBin_neq ..) ?_
  exact .lg ⟨_, _, rfl⟩
 rintro _ y27 ⟨j28, j29, rfl⟩
 iterate 3 refine .uc ?_
 refine .bg (fun t (y : Bool) => ∃ j32 j33 : A, t = [(bA y), j32, j33]) ?_ ?_
 ·refine .biH (fun hk30 => ?_) (fun hk30 => ?_)
  ·exact .lg ⟨_, _, rfl⟩
  refine .st (v := (bA (y7.2 != 530))) (aBin_neq ..) ?_
  exact .lg ⟨_, _, rfl⟩
 rintro _ y31 ⟨j32, j33, rfl⟩
 iterate 3 refine .uc ?_
 refine .bg (fun t (y : Bool) => ∃ j36 j37 : A, t = [(bA y), j36, j37]) ?_ ?_
 ·refine .biH (fun hk34 => ?_) (fun hk34 => ?_)
  ·exact .lg ⟨_, _, rfl⟩
  refine .st (v := (bA (y8.2 != 0))) (aBin_neq ..) ?_
  exact .lg ⟨_, _, rfl⟩
 rintro _ y35 ⟨j36, j37, rfl⟩
 iterate 3 refine .uc ?_
 refine .bg (fun t (y : Bool) => ∃ j40 j41 : A, t = [(bA y), j40, j41]) ?_ ?_
 ·refine .biH (fun hk38 => ?_) (fun hk38 => ?_)
  ·exact .lg ⟨_, _, rfl⟩
  refine .st (v := (bA (y9.2 != 530))) (aBin_neq ..) ?_
  exact .lg ⟨_, _, rfl⟩
 rintro _ y39 ⟨j40, j41, rfl⟩
 iterate 3 refine .uc ?_
 refine .bg (fun t (y : Bool) => ∃ j45 j46 j47 : A, t = [(bA y), j45, j46, j47]) ?_ ?_
 ·refine .biH (fun hk42 => ?_) (fun hk42 => ?_)
  ·exact .lg ⟨_, _, _, rfl⟩
  refine .s (A.agg (c_S_Replica y1.1)) ?_
  refine .bd (g := fun (y : Int) => (iA y)) (by show C 20 [snap _ (A.agg (c_S_Replica y1.1))] = _; simp only [sn0, snM]; exact h20 y1.1) fun y43 => ?_
  refine .st (v := (bA (y43 != 0))) (aBin_neq ..) ?_
  exact .lg ⟨_, _, _, rfl⟩
 rintro _ y44 ⟨j45, j46, j47, rfl⟩
 iterate 4 refine .uc ?_
 refine .bg (fun t (y : Bool) => ∃ j51 j52 j53 : A, t = [(bA y), j51, j52, j53]) ?_ ?_
 ·refine .biH (fun hk48 => ?_) (fun hk48 => ?_)
  ·exact .lg ⟨_, _, _, rfl⟩
  refine .s (A.agg [(iA 0), (A.imm [] true), (A.imm [] true), (A.imm [] true)]) ?_
  refine .bd (g := fun (y : Int) => (iA y)) (by show C 20 [snap _ (A.agg [(iA 0), (A.imm [] true), (A.imm [] true), (A.imm [] true)])] = _; simp only [sn0, snM]; exact h20 ((S_Replica.mk 0 ([]) ([]) ([])))) fun y49 => ?_
  refine .st (v := (bA (y49 != 530))) (aBin_neq ..) ?_
  exact .lg ⟨_, _, _, rfl⟩
 rintro _ y50 ⟨j51, j52, j53, rfl⟩
 iterate 4 refine .uc ?_
 refine .biHN (fun hk54 => ?_) (fun hk54 => ?_)
 ·exact .lf rfl rfl ⟨_, rfl, rfl⟩
 refine .s (A.agg (c_S_Pair y8.1)) (.s (A.agg [(iA 3), (iA 0), (iA 3), (iA 2)]) (.s (A.agg [(iA 3), (iA 0), (iA 5), (iA 1)]) (.s (A.agg [(iA 1), (iA 0), (iA 1), (iA 20)]) (.s (A.agg [(iA 4), (iA 0), (iA 0), (iA 0)]) (.s (A.agg [(iA 5), (iA 0), (iA 1), (iA 0)]) (.s (A.agg [(iA 6), (iA 0), (iA 1), (iA 0)]) (.s (A.imm [[(iA 3), (iA 0), (iA 3), (iA 2)], [(iA 3), (iA 0), (iA 5), (iA 1)], [(iA 1), (iA 0), (iA 1), (iA 20)], [(iA 4), (iA 0), (iA 0), (iA 0)], [(iA 5), (iA 0), (iA 1), (iA 0)], [(iA 6), (iA 0), (iA 1), (iA 0)]] true) ?_)))))))
 refine .bd (g := fun (y : (S_Pair × Bool)) => (A.tup [(A.agg [(iA y.1.Desks.1.Self), (A.imm (List.map c_S_Lease y.1.Desks.1.Leases) false), (A.imm (List.map c_S_Call y.1.Desks.1.Calls) false), (A.imm (List.map cB y.1.Desks.1.Order) false), (iA y.1.Desks.2.Self), (A.imm (List.map c_S_Lease y.1.Desks.2.Leases) false), (A.imm (List.map c_S_Call y.1.Desks.2.Calls) false), (A.imm (List.map cB y.1.Desks.2.Order) false), (iA y.1.Synced.1), (iA y.1.Synced.2), (A.imm (List.map c_S_Lease y.1.Told) false), (A.imm (List.map c_S_Call y.1.Spoken.1) false), (A.imm (List.map c_S_Call y.1.Spoken.2) false)]), (bA y.2)])) (by show C 27 [snap _ (A.agg (c_S_Pair y8.1)), snap _ (A.imm [[(iA 3), (iA 0), (iA 3), (iA 2)], [(iA 3), (iA 0), (iA 5), (iA 1)], [(iA 1), (iA 0), (iA 1), (iA 20)], [(iA 4), (iA 0), (iA 0), (iA 0)], [(iA 5), (iA 0), (iA 1), (iA 0)], [(iA 6), (iA 0), (iA 1), (iA 0)]] true)] = _; simp only [sn0, snM]; exact h27 y8.1 ([(S_Deed.mk 3 0 3 2), (S_Deed.mk 3 0 5 1), (S_Deed.mk 1 0 1 20), (S_Deed.mk 4 0 0 0), (S_Deed.mk 5 0 1 0), (S_Deed.mk 6 0 1 0)])) fun y55 => ?_
 refine .s (A.agg (c_S_Pair y55.1)) (.s (bA y55.2) (.s ((A.ptr 9 0), [Blk.box (c_S_Replica y1.1), Blk.box (c_S_Replica y2.1), Blk.box (c_S_Replica y3.1), Blk.box (c_S_Replica y4.1), Blk.box (c_S_Replica y5.1), Blk.box (c_S_Replica y6.1), Blk.box (c_S_Replica y7.1), Blk.box (c_S_Pair y8.1), Blk.box (c_S_Pair y9.1), hk15_1]) (.s [Blk.box (c_S_Replica y1.1), Blk.box (c_S_Replica y2.1), Blk.box (c_S_Replica y3.1), Blk.box (c_S_Replica y4.1), Blk.box (c_S_Replica y5.1), Blk.box (c_S_Replica y6.1), Blk.box (c_S_Replica y7.1), Blk.box (c_S_Pair y8.1), Blk.box (c_S_Pair y9.1), Blk.box (c_S_Pair y55.1)] (.s (A.agg (c_S_Pair y55.1)) (.s (A.agg [(iA 3), (iA 1), (iA 12), (iA 1)]) ?_)))))
 refine .bd (g := fun (y : (S_Pair × Int)) => (A.tup [(A.agg [(iA y.1.Desks.1.Self), (A.imm (List.map c_S_Lease y.1.Desks.1.Leases) false), (A.imm (List.map c_S_Call y.1.Desks.1.Calls) false), (A.imm (List.map cB y.1.Desks.1.Order) false), (iA y.1.Desks.2.Self), (A.imm (List.map c_S_Lease y.1.Desks.2.Leases) false), (A.imm (List.map c_S_Call y.1.Desks.2.Calls) false), (A.imm (List.map cB y.1.Desks.2.Order) false), (iA y.1.Synced.1), (iA y.1.Synced.2), (A.imm (List.map c_S_Lease y.1.Told) false), (A.imm (List.map c_S_Call y.1.Spoken.1) false), (A.imm (List.map c_S_Call y.1.Spoken.2) false)]), (iA y.2)])) (by show C 17 [snap _ (A.agg (c_S_Pair y55.1)), snap _ (A.agg [(iA 3), (iA 1), (iA 12), (iA 1)])] = _; simp only [sn0, snM]; exact h17 y55.1 ((S_Deed.mk 3 1 12 1))) fun y56 => ?_
 refine .s (A.agg (c_S_Pair y56.1)) (.s (iA y56.2) (.s ((A.ptr 10 0), [Blk.box (c_S_Replica y1.1), Blk.box (c_S_Replica y2.1), Blk.box (c_S_Replica y3.1), Blk.box (c_S_Replica y4.1), Blk.box (c_S_Replica y5.1), Blk.box (c_S_Replica y6.1), Blk.box (c_S_Replica y7.1), Blk.box (c_S_Pair y8.1), Blk.box (c_S_Pair y9.1), Blk.box (c_S_Pair y55.1), hk15_1]) (.s [Blk.box (c_S_Replica y1.1), Blk.box (c_S_Replica y2.1), Blk.box (c_S_Replica y3.1), Blk.box (c_S_Replica y4.1), Blk.box (c_S_Replica y5.1), Blk.box (c_S_Replica y6.1), Blk.box (c_S_Replica y7.1), Blk.box (c_S_Pair y8.1), Blk.box (c_S_Pair y9.1), Blk.box (c_S_Pair y55.1), Blk.box (c_S_Pair y56.1)] (.s (A.agg (c_S_Pair y55.1)) (.s (A.agg [(iA 2), (iA 1), (iA 0), (iA 0)]) (.s (A.agg [(iA 3), (iA 1), (iA 12), (iA 4)]) (.s (A.imm [[(iA 2), (iA 1), (iA 0), (iA 0)], [(iA 3), (iA 1), (iA 12), (iA 4)]] true) ?_)))))))
 refine .bd (g := fun (y : (S_Pair × Bool)) => (A.tup [(A.agg [(iA y.1.Desks.1.Self), (A.imm (List.map c_S_Lease y.1.Desks.1.Leases) false), (A.imm (List.map c_S_Call y.1.Desks.1.Calls) false), (A.imm (List.map cB y.1.Desks.1.Order) false), (iA y.1.Desks.2.Self), (A.imm (List.map c_S_Lease y.1.Desks.2.Leases) false), (A.imm (List.map c_S_Call y.1.Desks.2.Calls) false), (A.imm (List.map cB y.1.Desks.2.Order) false), (iA y.1.Synced.1), (iA y.1.Synced.2), (A.imm (List.map c_S_Lease y.1.Told) false), (A.imm (List.map c_S_Call y.1.Spoken.1) false), (A.imm (List.map c_S_Call y.1.Spoken.2) false)]), (bA y.2)])) (by show C 27 [snap _ (A.agg (c_S_Pair y55.1)), snap _ (A.imm [[(iA 2), (iA 1), (iA 0), (iA 0)], [(iA 3), (iA 1), (iA 12), (iA 4)]] true)] = _; simp only [sn0, snM]; exact h27 y55.1 ([(S_Deed.mk 2 1 0 0), (S_Deed.mk 3 1 12 4)])) fun y57 => ?_
 refine .s (A.agg (c_S_Pair y57.1)) (.s (bA y57.2) (.s ((A.ptr 11 0), [Blk.box (c_S_Replica y1.1), Blk.box (c_S_Replica y2.1), Blk.box (c_S_Replica y3.1), Blk.box (c_S_Replica y4.1), Blk.box (c_S_Replica y5.1), Blk.box (c_S_Replica y6.1), Blk.box (c_S_Replica y7.1), Blk.box (c_S_Pair y8.1), Blk.box (c_S_Pair y9.1), Blk.box (c_S_Pair y55.1), Blk.box (c_S_Pair y56.1), hk15_1]) (.s [Blk.box (c_S_Replica y1.1), Blk.box (c_S_Replica y2.1), Blk.box (c_S_Replica y3.1), Blk.box (c_S_Replica y4.1), Blk.box (c_S_Replica y5.1), Blk.box (c_S_Replica y6.1), Blk.box (c_S_Replica y7.1), Blk.box (c_S_Pair y8.1), Blk.box (c_S_Pair y9.1), Blk.box (c_S_Pair y55.1), Blk.box (c_S_Pair y56.1), Blk.box (c_S_Pair y57.1)] (.s (A.agg (c_S_Pair y57.1)) (.s (A.agg [(iA 6), (iA 1), (iA 0), (iA 0)]) ?_)))))
 refine .bd (g := fun (y : (S_Pair × Int)) => (A.tup [(A.agg [(iA y.1.Desks.1.Self), (A.imm (List.map c_S_Lease y.1.Desks.1.Leases) false), (A.imm (List.map c_S_Call y.1.Desks.1.Calls) false), (A.imm (List.map cB y.1.Desks.1.Order) false), (iA y.1.Desks.2.Self), (A.imm (List.map c_S_Lease y.1.Desks.2.Leases) false), (A.imm (List.map c_S_Call y.1.Desks.2.Calls) false), (A.imm (List.map cB y.1.Desks.2.Order) false), (iA y.1.Synced.1), (iA y.1.Synced.2), (A.imm (List.map c_S_Lease y.1.Told) false), (A.imm (List.map c_S_Call y.1.Spoken.1) false), (A.imm (List.map c_S_Call y.1.Spoken.2) false)]), (iA y.2)])) (by show C 17 [snap _ (A.agg (c_S_Pair y57.1)), snap _ (A.agg [(iA 6), (iA 1), (iA 0), (iA 0)])] = _; simp only [sn0, snM]; exact h17 y57.1 ((S_Deed.mk 6 1 0 0))) fun y58 => ?_
 refine .s (A.agg (c_S_Pair y58.1)) (.s (iA y58.2) (.s ((A.ptr 12 0), [Blk.box (c_S_Replica y1.1), Blk.box (c_S_Replica y2.1), Blk.box (c_S_Replica y3.1), Blk.box (c_S_Replica y4.1), Blk.box (c_S_Replica y5.1), Blk.box (c_S_Replica y6.1), Blk.box (c_S_Replica y7.1), Blk.box (c_S_Pair y8.1), Blk.box (c_S_Pair y9.1), Blk.box (c_S_Pair y55.1), Blk.box (c_S_Pair y56.1), Blk.box (c_S_Pair y57.1), hk15_1]) (.s [Blk.box (c_S_Replica y1.1), Blk.box (c_S_Replica y2.1), Blk.box (c_S_Replica y3.1), Blk.box (c_S_Replica y4.1), Blk.box (c_S_Replica y5.1), Blk.box (c_S_Replica y6.1), Blk.box (c_S_Replica y7.1), Blk.box (c_S_Pair y8.1), Blk.box (c_S_Pair y9.1), Blk.box (c_S_Pair y55.1), Blk.box (c_S_Pair y56.1), Blk.box (c_S_Pair y57.1), Blk.box (c_S_Pair y58.1)] (.s (A.agg (c_S_Pair y57.1)) (.s (A.agg [(iA 7), (iA 1), (iA 2), (iA 0)]) (.s (A.imm [[(iA 7), (iA 1), (iA 2), (iA 0)]] true) ?_))))))
 refine .bd (g := fun (y : (S_Pair × Bool)) => (A.tup [(A.agg [(iA y.1.Desks.1.Self), (A.imm (List.map c_S_Lease y.1.Desks.1.Leases) false), (A.imm (List.map c_S_Call y.1.Desks.1.Calls) false), (A.imm (List.map cB y.1.Desks.1.Order) false), (iA y.1.Desks.2.Self), (A.imm (List.map c_S_Lease y.1.Desks.2.Leases) false), (A.imm (List.map c_S_Call y.1.Desks.2.Calls) false), (A.imm (List.map cB y.1.Desks.2.Order) false), (iA y.1.Synced.1), (iA y.1.Synced.2), (A.imm (List.map c_S_Lease y.1.Told) false), (A.imm (List.map c_S_Call y.1.Spoken.1) false), (A.imm (List.map c_S_Call y.1.Spoken.2) false)]), (bA y.2)])) (by show C 27 [snap _ (A.agg (c_S_Pair y57.1)), snap _ (A.imm [[(iA 7), (iA 1), (iA 2), (iA 0)]] true)] = _; simp only [sn0, snM]; exact h27 y57.1 ([(S_Deed.mk 7 1 2 0)])) fun y59 => ?_
 refine .s (A.agg (c_S_Pair y59.1)) (.s (bA y59.2) (.s ((A.ptr 13 0), [Blk.box (c_S_Replica y1.1), Blk.box (c_S_Replica y2.1), Blk.box (c_S_Replica y3.1), Blk.box (c_S_Replica y4.1), Blk.box (c_S_Replica y5.1), Blk.box (c_S_Replica y6.1), Blk.box (c_S_Replica y7.1), Blk.box (c_S_Pair y8.1), Blk.box (c_S_Pair y9.1), Blk.box (c_S_Pair y55.1), Blk.box (c_S_Pair y56.1), Blk.box (c_S_Pair y57.1), Blk.box (c_S_Pair y58.1), hk15_1]) (.s [Blk.box (c_S_Replica y1.1), Blk.box (c_S_Replica y2.1), Blk.box (c_S_Replica y3.1), Blk.box (c_S_Replica y4.1), Blk.box (c_S_Replica y5.1), Blk.box (c_S_Replica y6.1), Blk.box (c_S_Replica y7.1), Blk.box (c_S_Pair y8.1), Blk.box (c_S_Pair y9.1), Blk.box (c_S_Pair y55.1), Blk.box (c_S_Pair y56.1), Blk.box (c_S_Pair y57.1), Blk.box (c_S_Pair y58.1), Blk.box (c_S_Pair y59.1)] (.s (bA (!y55.2)) ?_))))
 refine .bg (fun t (y : Bool) => ∃ j62 j63 : A, t = [(bA y), j62, j63]) ?_ ?_
 ·refine .biH (fun hk60 => ?_) (fun hk60 => ?_)
  ·exact .lg ⟨_, _, rfl⟩
  refine .st (v := (bA (y56.2 != 530))) (aBin_neq ..) ?_
  exact .lg ⟨_, _, rfl⟩
 rintro _ y61 ⟨j62, j63, rfl⟩
 iterate 3 refine .uc ?_
 refine .bg (fun t (y : Bool) => ∃ j66 j67 : A, t = [(bA y), j66, j67]) ?_ ?_
 ·refine .biH (fun hk64 => ?_) (fun hk64 => ?_)
  ·exact .lg ⟨_, _, rfl⟩
  refine .s (bA (!y57.2)) ?_
  exact .lg ⟨_, _, rfl⟩
 rintro _ y65 ⟨j66, j67, rfl⟩
 iterate 3 refine .uc ?_
 refine .bg (fun t (y : Bool) => ∃ j70 j71 : A, t = [(bA y), j70, j71]) ?_ ?_
 ·refine .biH (fun hk68 => ?_) (fun hk68 => ?_)
  ·exact .lg ⟨_, _, rfl⟩
  refine .st (v := (bA (y58.2 != 530))) (aBin_neq ..) ?_
  exact .lg ⟨_, _, rfl⟩
 rintro _ y69 ⟨j70, j71, rfl⟩
 iterate 3 refine .uc ?_
 refine .bg (fun t (y : Bool) => ∃ j74 j75 : A, t = [(bA y), j74, j75]) ?_ ?_
 ·refine .biH (fun hk72 => ?_) (fun hk72 => ?_)
  ·exact .lg ⟨_, _, rfl⟩
  refine .s (bA (!y59.2)) ?_
  exact .lg ⟨_, _, rfl⟩
 rintro _ y73 ⟨j74, j75, rfl⟩
 iterate 3 refine .uc ?_
 refine .biHN (fun hk76 => ?_) (fun hk76 => ?_)
 ·exact .lf rfl rfl ⟨_, rfl, rfl⟩
 refine .s (A.agg [(iA 0), (iA 0), (iA 10)]) (.s (A.agg [(iA 1), (iA 1), (iA 20)]) (.s (A.imm [[(iA 0), (iA 0), (iA 10)], [(iA 1), (iA 1), (iA 20)]] true) (.s (A.ptr 9 10) (.s (A.imm (List.map c_S_Lease y55.1.Told) false) (.s (A.imm [[(iA 1), (iA 1), (iA 20)]] true) ?_)))))
 refine .bd (g := fun (y : Bool) => (bA y)) (by show C 19 [snap _ (A.imm (List.map c_S_Lease y55.1.Told) false), snap _ (A.imm [[(iA 1), (iA 1), (iA 20)]] true)] = _; simp only [sn0, snM]; exact h19 y55.1.Told ([(S_Lease.mk 1 1 20)])) fun y77 => ?_
 refine .s (bA (!y77)) ?_
 refine .bg (fun t (y : Bool) => ∃ j81 j82 j83 j84 j85 j86 j87 : A, t = [(bA y), j81, j82, j83, j84, j85, j86, j87]) ?_ ?_
 ·refine .biH (fun hk78 => ?_) (fun hk78 => ?_)
  ·exact .lg ⟨_, _, _, _, _, _, _, rfl⟩
  refine .s (A.ptr 9 11) (.s (A.ptr 9 11) (.s (A.imm (List.map c_S_Call y55.1.Spoken.1) false) (.s (A.agg [(iA 5), (iA 1)]) (.s (A.imm [[(iA 5), (iA 1)]] true) ?_))))
  refine .bd (g := fun (y : Bool) => (bA y)) (by show C 21 [snap _ (A.imm (List.map c_S_Call y55.1.Spoken.1) false), snap _ (A.imm [[(iA 5), (iA 1)]] true)] = _; simp only [sn0, snM]; exact h21 y55.1.Spoken.1 ([(S_Call.mk 5 1)])) fun y79 => ?_
  refine .s (bA (!y79)) ?_
  exact .lg ⟨_, _, _, _, _, _, _, rfl⟩
 rintro _ y80 ⟨j81, j82, j83, j84, j85, j86, j87, rfl⟩
 iterate 8 refine .uc ?_
 refine .gsf (fun hc88 => ?_) (fun hc88 => ?_)
 ·refine .bb ?_
  refine .s (A.ptr 11 0) (.s (A.ptr 11 4) (.s (A.agg (c_S_Replica y57.1.Desks.2)) (.s (A.agg [(iA 12), (iA 4)]) (.s (A.imm [[(iA 12), (iA 4)]] true) (.s (A.imm [[(bA true)], [(bA true)], [(bA false)]] true) (.s (A.agg [(iA 1), (A.imm [[(iA 0), (iA 0), (iA 10)], [(iA 1), (iA 1), (iA 20)]] true), (A.imm [[(iA 12), (iA 4)]] true), (A.imm [[(bA true)], [(bA true)], [(bA false)]] true)]) ?_))))))
  refine .cr ?_
  iterate 8 refine .uc ?_
  refine .bg (fun t (y : Bool) => ∃ j91 j92 : A, t = [(bA y), j91, j92]) ?_ ?_
  ·refine .bKF hc88 ?_
   refine .bd (g := fun (y : Bool) => (bA y)) (by show C 14 [snap _ (A.agg (c_S_Replica y57.1.Desks.2)), snap _ (A.agg [(iA 1), (A.imm [[(iA 0), (iA 0), (iA 10)], [(iA 1), (iA 1), (iA 20)]] true), (A.imm [[(iA 12), (iA 4)]] true), (A.imm [[(bA true)], [(bA true)], [(bA false)]] true)])] = _; simp only [sn0, snM]; exact h14 y57.1.Desks.2 ((S_Replica.mk 1 ([(S_Lease.mk 0 0 10), (S_Lease.mk 1 1 20)]) ([(S_Call.mk 12 4)]) ([true, true, false])))) fun y89 => ?_
   refine .s (bA (!y89)) ?_
   exact .lg ⟨_, _, rfl⟩
  rintro _ y90 ⟨j91, j92, rfl⟩
  iterate 3 refine .uc ?_
  refine .biHN (fun hk93 => ?_) (fun hk93 => ?_)
  ·exact .lf rfl rfl ⟨_, rfl, rfl⟩
  refine .s (A.ptr 11 0) (.s (A.ptr 11 4) (.s (A.agg (c_S_Replica y57.1.Desks.2)) ?_))
  refine .bd (g := fun (y : ((List (List UInt8)) × Int)) => (A.tup [(A.imm (List.map (cL c8) y.1) false), (iA y.2)])) (by show C 9 [snap _ (A.agg (c_S_Replica y57.1.Desks.2))] = _; simp only [sn0, snM]; exact h9 y57.1.Desks.2) fun y94 => ?_
  refine .s (A.imm (List.map (cL c8) y94.1) false) (.s (iA y94.2) ?_)
  refine .bd (g := fun (y : (S_Replica × Int)) => (A.tup [(A.agg [(iA y.1.Self), (A.imm (List.map c_S_Lease y.1.Leases) false), (A.imm (List.map c_S_Call y.1.Calls) false), (A.imm (List.map cB y.1.Order) false)]), (iA y.2)])) (by show C 11 [snap _ (iA 1), snap _ (A.imm (List.map (cL c8) y94.1) false)] = _; simp only [sn0, snM]; exact h11 1 y94.1) fun y95 => ?_
  refine .s (A.agg (c_S_Replica y95.1)) (.s (iA y95.2) (.s ((A.ptr 14 0), [Blk.box (c_S_Replica y1.1), Blk.box (c_S_Replica y2.1), Blk.box (c_S_Replica y3.1), Blk.box (c_S_Replica y4.1), Blk.box (c_S_Replica y5.1), Blk.box (c_S_Replica y6.1), Blk.box (c_S_Replica y7.1), Blk.box (c_S_Pair y8.1), Blk.box (c_S_Pair y9.1), Blk.box (c_S_Pair y55.1), Blk.box (c_S_Pair y56.1), Blk.box (c_S_Pair y57.1), Blk.box (c_S_Pair y58.1), Blk.box (c_S_Pair y59.1), Blk.box [(iA 0), (A.imm [] true), (A.imm [] true), (A.imm [] true)]]) (.s [Blk.box (c_S_Replica y1.1), Blk.box (c_S_Replica y2.1), Blk.box (c_S_Replica y3.1), Blk.box (c_S_Replica y4.1), Blk.box (c_S_Replica y5.1), Blk.box (c_S_Replica y6.1), Blk.box (c_S_Replica y7.1), Blk.box (c_S_Pair y8.1), Blk.box (c_S_Pair y9.1), Blk.box (c_S_Pair y55.1), Blk.box (c_S_Pair y56.1), Blk.box (c_S_Pair y57.1), Blk.box (c_S_Pair y58.1), Blk.box (c_S_Pair y59.1), Blk.box (c_S_Replica y95.1)] ?_)))
  refine .st (v := (bA (y94.2 == 0))) (aBin_eql ..) ?_
  refine .bg (fun t (y : Bool) => ∃ j98 j99 : A, t = [(bA y), j98, j99]) ?_ ?_
  ·refine .biH (fun hk96 => ?_) (fun hk96 => ?_)
   ·refine .st (v := (bA (y95.2 == 0))) (aBin_eql ..) ?_
    exact .lg ⟨_, _, rfl⟩
   exact .lg ⟨_, _, rfl⟩
  rintro _ y97 ⟨j98, j99, rfl⟩
  iterate 3 refine .uc ?_
  refine .bg (fun t (y : Bool) => ∃ j102 j103 j104 : A, t = [(bA y), j102, j103, j104]) ?_ ?_
  ·refine .biH (fun hk100 => ?_) (fun hk100 => ?_)
   ·refine .st (v := (iA ((y94.1.length : Int)))) (len_imm (e := 30) (h1 := by kernel_rfl) ..) ?_
    refine .st (v := (bA (((y94.1.length : Int)) == 3))) (aBin_eql ..) ?_
    exact .lg ⟨_, _, _, rfl⟩
   exact .lg ⟨_, _, _, rfl⟩
  rintro _ y101 ⟨j102, j103, j104, rfl⟩
  iterate 4 refine .uc ?_
  refine .bg (fun t (y : Bool) => ∃ j108 j109 j110 j111 j112 : A, t = [(bA y), j108, j109, j110, j111, j112]) ?_ ?_
  ·refine .biH (fun hk105 => ?_) (fun hk105 => ?_)
   ·refine .s (A.agg (c_S_Replica y95.1)) (.s (A.ptr 11 0) (.s (A.ptr 11 4) (.s (A.agg (c_S_Replica y57.1.Desks.2)) ?_)))
    refine .bd (g := fun (y : Bool) => (bA y)) (by show C 14 [snap _ (A.agg (c_S_Replica y95.1)), snap _ (A.agg (c_S_Replica y57.1.Desks.2))] = _; simp only [sn0, snM]; exact h14 y95.1 y57.1.Desks.2) fun y106 => ?_
    exact .lg ⟨_, _, _, _, _, rfl⟩
   exact .lg ⟨_, _, _, _, _, rfl⟩
  rintro _ y107 ⟨j108, j109, j110, j111, j112, rfl⟩
  iterate 6 refine .uc ?_
  refine .bg (fun t (y : Bool) => ∃ j116 j117 j118 j119 j120 j121 j122 : A, t = [(bA y), j116, j117, j118, j119, j120, j121, j122]) ?_ ?_
  ·refine .biH (fun hk113 => ?_) (fun hk113 => ?_)
   ·refine .s (A.ptr 13 0) (.s (A.ptr 13 4) (.s (A.agg (c_S_Replica y59.1.Desks.2)) (.s (A.imm [[(bA true)], [(bA true)]] true) (.s (A.agg [(iA 1), (A.imm [[(iA 0), (iA 0), (iA 10)], [(iA 1), (iA 1), (iA 20)]] true), (A.imm [] true), (A.imm [[(bA true)], [(bA true)]] true)]) ?_))))
    refine .bd (g := fun (y : Bool) => (bA y)) (by show C 14 [snap _ (A.agg (c_S_Replica y59.1.Desks.2)), snap _ (A.agg [(iA 1), (A.imm [[(iA 0), (iA 0), (iA 10)], [(iA 1), (iA 1), (iA 20)]] true), (A.imm [] true), (A.imm [[(bA true)], [(bA true)]] true)])] = _; simp only [sn0, snM]; exact h14 y59.1.Desks.2 ((S_Replica.mk 1 ([(S_Lease.mk 0 0 10), (S_Lease.mk 1 1 20)]) ([]) ([true, true])))) fun y114 => ?_
    exact .lg ⟨_, _, _, _, _, _, _, rfl⟩
   exact .lg ⟨_, _, _, _, _, _, _, rfl⟩
  rintro _ y115 ⟨j116, j117, j118, j119, j120, j121, j122, rfl⟩
  iterate 8 refine .uc ?_
  exact .lf rfl rfl ⟨_, rfl, rfl⟩
 refine .bb ?_
 refine .cr ?_
 iterate 8 refine .uc ?_
 refine .bg (fun t (y : Bool) => ∃ j124 j125 : A, t = [(bA y), j124, j125]) ?_ ?_
 ·refine .bKT hc88 ?_
  exact .lg ⟨_, _, rfl⟩
 rintro _ y123 ⟨j124, j125, rfl⟩
 iterate 3 refine .uc ?_
 refine .biHN (fun hk126 => ?_) (fun hk126 => ?_)
 ·exact .lf rfl rfl ⟨_, rfl, rfl⟩
 refine .s (A.ptr 11 0) (.s (A.ptr 11 4) (.s (A.agg (c_S_Replica y57.1.Desks.2)) ?_))
 refine .bd (g := fun (y : ((List (List UInt8)) × Int)) => (A.tup [(A.imm (List.map (cL c8) y.1) false), (iA y.2)])) (by show C 9 [snap _ (A.agg (c_S_Replica y57.1.Desks.2))] = _; simp only [sn0, snM]; exact h9 y57.1.Desks.2) fun y127 => ?_
 refine .s (A.imm (List.map (cL c8) y127.1) false) (.s (iA y127.2) ?_)
 refine .bd (g := fun (y : (S_Replica × Int)) => (A.tup [(A.agg [(iA y.1.Self), (A.imm (List.map c_S_Lease y.1.Leases) false), (A.imm (List.map c_S_Call y.1.Calls) false), (A.imm (List.map cB y.1.Order) false)]), (iA y.2)])) (by show C 11 [snap _ (iA 1), snap _ (A.imm (List.map (cL c8) y127.1) false)] = _; simp only [sn0, snM]; exact h11 1 y127.1) fun y128 => ?_
 refine .s (A.agg (c_S_Replica y128.1)) (.s (iA y128.2) (.s ((A.ptr 14 0), [Blk.box (c_S_Replica y1.1), Blk.box (c_S_Replica y2.1), Blk.box (c_S_Replica y3.1), Blk.box (c_S_Replica y4.1), Blk.box (c_S_Replica y5.1), Blk.box (c_S_Replica y6.1), Blk.box (c_S_Replica y7.1), Blk.box (c_S_Pair y8.1), Blk.box (c_S_Pair y9.1), Blk.box (c_S_Pair y55.1), Blk.box (c_S_Pair y56.1), Blk.box (c_S_Pair y57.1), Blk.box (c_S_Pair y58.1), Blk.box (c_S_Pair y59.1), Blk.box [(iA 0), (A.imm [] true), (A.imm [] true), (A.imm [] true)]]) (.s [Blk.box (c_S_Replica y1.1), Blk.box (c_S_Replica y2.1), Blk.box (c_S_Replica y3.1), Blk.box (c_S_Replica y4.1), Blk.box (c_S_Replica y5.1), Blk.box (c_S_Replica y6.1), Blk.box (c_S_Replica y7.1), Blk.box (c_S_Pair y8.1), Blk.box (c_S_Pair y9.1), Blk.box (c_S_Pair y55.1), Blk.box (c_S_Pair y56.1), Blk.box (c_S_Pair y57.1), Blk.box (c_S_Pair y58.1), Blk.box (c_S_Pair y59.1), Blk.box (c_S_Replica y128.1)] ?_)))
 refine .st (v := (bA (y127.2 == 0))) (aBin_eql ..) ?_
 refine .bg (fun t (y : Bool) => ∃ j131 j132 : A, t = [(bA y), j131, j132]) ?_ ?_
 ·refine .biH (fun hk129 => ?_) (fun hk129 => ?_)
  ·refine .st (v := (bA (y128.2 == 0))) (aBin_eql ..) ?_
   exact .lg ⟨_, _, rfl⟩
  exact .lg ⟨_, _, rfl⟩
 rintro _ y130 ⟨j131, j132, rfl⟩
 iterate 3 refine .uc ?_
 refine .bg (fun t (y : Bool) => ∃ j135 j136 j137 : A, t = [(bA y), j135, j136, j137]) ?_ ?_
 ·refine .biH (fun hk133 => ?_) (fun hk133 => ?_)
  ·refine .st (v := (iA ((y127.1.length : Int)))) (len_imm (e := 30) (h1 := by kernel_rfl) ..) ?_
   refine .st (v := (bA (((y127.1.length : Int)) == 3))) (aBin_eql ..) ?_
   exact .lg ⟨_, _, _, rfl⟩
  exact .lg ⟨_, _, _, rfl⟩
 rintro _ y134 ⟨j135, j136, j137, rfl⟩
 iterate 4 refine .uc ?_
 refine .bg (fun t (y : Bool) => ∃ j141 j142 j143 j144 j145 : A, t = [(bA y), j141, j142, j143, j144, j145]) ?_ ?_
 ·refine .biH (fun hk138 => ?_) (fun hk138 => ?_)
  ·refine .s (A.agg (c_S_Replica y128.1)) (.s (A.ptr 11 0) (.s (A.ptr 11 4) (.s (A.agg (c_S_Replica y57.1.Desks.2)) ?_)))
   refine .bd (g := fun (y : Bool) => (bA y)) (by show C 14 [snap _ (A.agg (c_S_Replica y128.1)), snap _ (A.agg (c_S_Replica y57.1.Desks.2))] = _; simp only [sn0, snM]; exact h14 y128.1 y57.1.Desks.2) fun y139 => ?_
   exact .lg ⟨_, _, _, _, _, rfl⟩
  exact .lg ⟨_, _, _, _, _, rfl⟩
 rintro _ y140 ⟨j141, j142, j143, j144, j145, rfl⟩
 iterate 6 refine .uc ?_
 refine .bg (fun t (y : Bool) => ∃ j149 j150 j151 j152 j153 j154 j155 : A, t = [(bA y), j149, j150, j151, j152, j153, j154, j155]) ?_ ?_
 ·refine .biH (fun hk146 => ?_) (fun hk146 => ?_)
  ·refine .s (A.ptr 13 0) (.s (A.ptr 13 4) (.s (A.agg (c_S_Replica y59.1.Desks.2)) (.s (A.imm [[(bA true)], [(bA true)]] true) (.s (A.agg [(iA 1), (A.imm [[(iA 0), (iA 0), (iA 10)], [(iA 1), (iA 1), (iA 20)]] true), (A.imm [] true), (A.imm [[(bA true)], [(bA true)]] true)]) ?_))))
   refine .bd (g := fun (y : Bool) => (bA y)) (by show C 14 [snap _ (A.agg (c_S_Replica y59.1.Desks.2)), snap _ (A.agg [(iA 1), (A.imm [[(iA 0), (iA 0), (iA 10)], [(iA 1), (iA 1), (iA 20)]] true), (A.imm [] true), (A.imm [[(bA true)], [(bA true)]] true)])] = _; simp only [sn0, snM]; exact h14 y59.1.Desks.2 ((S_Replica.mk 1 ([(S_Lease.mk 0 0 10), (S_Lease.mk 1 1 20)]) ([]) ([true, true])))) fun y147 => ?_
   exact .lg ⟨_, _, _, _, _, _, _, rfl⟩
  exact .lg ⟨_, _, _, _, _, _, _, rfl⟩
 rintro _ y148 ⟨j149, j150, j151, j152, j153, j154, j155, rfl⟩
 iterate 8 refine .uc ?_
 exact .lf rfl rfl ⟨_, rfl, rfl⟩
def G7  : Option Bool := F7 fuel0
def Orc7 (C : Nat -> List A -> Option A) : Prop := ∀ (_ : Unit), C 7 [] = (G7 ).map fun y => (bA y)
def F8 (n : Nat) (a0 : S_Replica) : Option Bool :=
 (bif (decide (((a0.Leases.length : Int)) <= 300)) then (some (decide (((a0.Calls.length : Int)) <= 60))) else (some false)).bind fun y2 => (bif y2 then (some (decide (((a0.Order.length : Int)) <= 360))) else (some false)).bind fun y8 => some y8
theorem T8 (C : Nat -> List A -> Option A) (n : Nat) (a0 : S_Replica) : J (fun (o : R) y => ∃ v, o.1 = .ret v /\ snapE o.2 v = (bA y)) (evCall1 (cx C) (ec C n 8) (ey C n 8) (n+8) 8 [(A.agg (c_S_Replica a0))] [] 0) some (F8 n a0) some := by
 refine .lp (e8 ..) ?_
 unfold F8
 refine .s ((A.ptr 0 0), [Blk.box (c_S_Replica a0)]) (.s (A.ptr 0 1) (.s (A.imm (List.map c_S_Lease a0.Leases) false) ?_))
 refine .st (v := (iA ((a0.Leases.length : Int)))) (len_imm (e := 59) (h1 := by kernel_rfl) ..) ?_
 refine .st (v := (bA (decide (((a0.Leases.length : Int)) <= 300)))) (aBin_leq ..) ?_
 refine .bg (fun t (y : Bool) => ∃ j3 j4 j5 j6 : A, t = [(bA y), j3, j4, j5, j6]) ?_ ?_
 ·refine .biH (fun hk1 => ?_) (fun hk1 => ?_)
  ·refine .s (A.ptr 0 2) (.s (A.imm (List.map c_S_Call a0.Calls) false) ?_)
   refine .st (v := (iA ((a0.Calls.length : Int)))) (len_imm (e := 62) (h1 := by kernel_rfl) ..) ?_
   refine .st (v := (bA (decide (((a0.Calls.length : Int)) <= 60)))) (aBin_leq ..) ?_
   exact .lg ⟨_, _, _, _, rfl⟩
  exact .lg ⟨_, _, _, _, rfl⟩
 rintro _ y2 ⟨j3, j4, j5, j6, rfl⟩
 iterate 5 refine .uc ?_
 refine .bg (fun t (y : Bool) => ∃ j9 j10 j11 j12 : A, t = [(bA y), j9, j10, j11, j12]) ?_ ?_
 ·refine .biH (fun hk7 => ?_) (fun hk7 => ?_)
  ·refine .s (A.ptr 0 3) (.s (A.imm (List.map cB a0.Order) false) ?_)
   refine .st (v := (iA ((a0.Order.length : Int)))) (len_imm (e := 4) (h1 := by kernel_rfl) ..) ?_
   refine .st (v := (bA (decide (((a0.Order.length : Int)) <= 360)))) (aBin_leq ..) ?_
   exact .lg ⟨_, _, _, _, rfl⟩
  exact .lg ⟨_, _, _, _, rfl⟩
 rintro _ y8 ⟨j9, j10, j11, j12, rfl⟩
 iterate 5 refine .uc ?_
 exact .lf rfl rfl ⟨_, rfl, rfl⟩
def G8 (a0 : S_Replica) : Option Bool := F8 fuel0 a0
def Orc8 (C : Nat -> List A -> Option A) : Prop := ∀ (a0 : S_Replica), C 8 [(A.agg (c_S_Replica a0))] = (G8 a0).map fun y => (bA y)
end Go.Proofs.Ytdmgdjnadbakfaa
