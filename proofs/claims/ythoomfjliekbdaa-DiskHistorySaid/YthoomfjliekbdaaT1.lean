/-
 The program's functions as plain functions: by a tool; each follows the interpreter.
-/
import Derived.Test.YthoomfjliekbdaaE
import Derived.KernelRfl
namespace Go.Proofs.Ythoomfjliekbdaa
open Go.Proofs.Try (prog)
set_option linter.unusedVariables false
set_option linter.unusedSimpArgs false
set_option maxHeartbeats 4000000
set_option maxRecDepth 100000
abbrev bz4 : Blk := Blk.box [(A.imm [] true), (A.imm [] true), (iA 0), (bA false)]
abbrev bz3 : Blk := Blk.box [(A.imm [] true), (iA 0), (iA 0)]
noncomputable abbrev ec (C : Nat -> List A -> Option A) (n k : Nat) := evCall (cx C) (n+k)
noncomputable abbrev ey (C : Nat -> List A -> Option A) (n k : Nat) := evCallY (cx C) (n+k)
structure S_kinespherelaw04_Act where
 Sync : Bool
 At : Int
 Byte : Int
 deriving DecidableEq, Inhabited
def c_S_kinespherelaw04_Act (x : S_kinespherelaw04_Act) : List A := [(bA x.Sync), (uA x.At), (uA x.Byte)]
theorem ce_S_kinespherelaw04_Act : CellF c_S_kinespherelaw04_Act := fun _ => rfl
theorem fu_S_kinespherelaw04_Act : FlatU c_S_kinespherelaw04_Act := fun _ _ => by simp only [c_S_kinespherelaw04_Act, unders, A.under, underss_map, fu_cI, fu_c8, fu_cB, fu_cS, fu_cL, Bool.and_true, Bool.true_and]
theorem fl_S_kinespherelaw04_Act : FlatS c_S_kinespherelaw04_Act := fun _ _ => by simp only [c_S_kinespherelaw04_Act, snapW, snapWs, snapWss_map, fl_cI, fl_c8, fl_cB, fl_cS, fl_cL]
structure S_Write where
 At : Int
 Data : (List UInt8)
 deriving DecidableEq, Inhabited
def c_S_Write (x : S_Write) : List A := [(iA x.At), (A.imm (List.map c8 x.Data) false)]
theorem ce_S_Write : CellF c_S_Write := fun _ => rfl
theorem fu_S_Write : FlatU c_S_Write := fun _ _ => by simp only [c_S_Write, unders, A.under, underss_map, fu_cI, fu_c8, fu_cB, fu_cS, fu_cL, Bool.and_true, Bool.true_and, fu_S_kinespherelaw04_Act]
theorem fl_S_Write : FlatS c_S_Write := fun _ _ => by simp only [c_S_Write, snapW, snapWs, snapWss_map, fl_cI, fl_c8, fl_cB, fl_cS, fl_cL, fl_S_kinespherelaw04_Act]
structure S_Disk where
 Sectors : (List (List UInt8))
 Pending : (List S_Write)
 Left : Int
 Stopped : Bool
 deriving DecidableEq, Inhabited
def c_S_Disk (x : S_Disk) : List A := [(A.imm (List.map (cL c8) x.Sectors) false), (A.imm (List.map c_S_Write x.Pending) false), (iA x.Left), (bA x.Stopped)]
theorem fu_S_Disk : FlatU c_S_Disk := fun _ _ => by simp only [c_S_Disk, unders, A.under, underss_map, fu_cI, fu_c8, fu_cB, fu_cS, fu_cL, Bool.and_true, Bool.true_and, fu_S_kinespherelaw04_Act, fu_S_Write]
theorem fl_S_Disk : FlatS c_S_Disk := fun _ _ => by simp only [c_S_Disk, snapW, snapWs, snapWss_map, fl_cI, fl_c8, fl_cB, fl_cS, fl_cL, fl_S_kinespherelaw04_Act, fl_S_Write]
def c_A4_int_u8 (x : (Int × Int × Int × Int)) : List A := [(uA x.1), (uA x.2.1), (uA x.2.2.1), (uA x.2.2.2)]
theorem fu_A4_int_u8 : FlatU c_A4_int_u8 := fun _ _ => by simp only [c_A4_int_u8, unders, A.under, underss_map, fu_cI, fu_c8, fu_cB, fu_cS, fu_cL, Bool.and_true, Bool.true_and, fu_S_kinespherelaw04_Act, fu_S_Write, fu_S_Disk]
theorem fl_A4_int_u8 : FlatS c_A4_int_u8 := fun _ _ => by simp only [c_A4_int_u8, snapW, snapWs, snapWss_map, fl_cI, fl_c8, fl_cB, fl_cS, fl_cL, fl_S_kinespherelaw04_Act, fl_S_Write, fl_S_Disk]
theorem fq_A4_int_u8 (g : Nat -> Nat -> Nat -> A) (x : (Int × Int × Int × Int)) : snapWs g (c_A4_int_u8 x) = c_A4_int_u8 x := fl_A4_int_u8 g x
theorem fuq_A4_int_u8 (L : Nat) (x : (Int × Int × Int × Int)) : unders L (c_A4_int_u8 x) = true := fu_A4_int_u8 L x
theorem fq_S_kinespherelaw04_Act (g : Nat -> Nat -> Nat -> A) (x : S_kinespherelaw04_Act) : snapWs g (c_S_kinespherelaw04_Act x) = c_S_kinespherelaw04_Act x := fl_S_kinespherelaw04_Act g x
theorem fuq_S_kinespherelaw04_Act (L : Nat) (x : S_kinespherelaw04_Act) : unders L (c_S_kinespherelaw04_Act x) = true := fu_S_kinespherelaw04_Act L x
theorem fq_S_Write (g : Nat -> Nat -> Nat -> A) (x : S_Write) : snapWs g (c_S_Write x) = c_S_Write x := fl_S_Write g x
theorem fuq_S_Write (L : Nat) (x : S_Write) : unders L (c_S_Write x) = true := fu_S_Write L x
theorem fq_S_Disk (g : Nat -> Nat -> Nat -> A) (x : S_Disk) : snapWs g (c_S_Disk x) = c_S_Disk x := fl_S_Disk g x
theorem fuq_S_Disk (L : Nat) (x : S_Disk) : unders L (c_S_Disk x) = true := fu_S_Disk L x
theorem snS : FlatS c_S_kinespherelaw04_Act /\ FlatS c_S_Write /\ FlatS c_S_Disk /\ FlatS c_A4_int_u8 /\ (∀ (g : Nat -> Nat -> Nat -> A) (x : S_kinespherelaw04_Act), snapWs g (c_S_kinespherelaw04_Act x) = c_S_kinespherelaw04_Act x) /\ (∀ (g : Nat -> Nat -> Nat -> A) (x : S_Write), snapWs g (c_S_Write x) = c_S_Write x) /\ (∀ (g : Nat -> Nat -> Nat -> A) (x : S_Disk), snapWs g (c_S_Disk x) = c_S_Disk x) /\ (∀ (g : Nat -> Nat -> Nat -> A) (x : (Int × Int × Int × Int)), snapWs g (c_A4_int_u8 x) = c_A4_int_u8 x) /\ True := ⟨fl_S_kinespherelaw04_Act, fl_S_Write, fl_S_Disk, fl_A4_int_u8, fq_S_kinespherelaw04_Act, fq_S_Write, fq_S_Disk, fq_A4_int_u8, trivial⟩
theorem snM : (FlatS c_S_kinespherelaw04_Act /\ FlatS c_S_Write /\ FlatS c_S_Disk /\ FlatS c_A4_int_u8 /\ (∀ (g : Nat -> Nat -> Nat -> A) (x : S_kinespherelaw04_Act), snapWs g (c_S_kinespherelaw04_Act x) = c_S_kinespherelaw04_Act x) /\ (∀ (g : Nat -> Nat -> Nat -> A) (x : S_Write), snapWs g (c_S_Write x) = c_S_Write x) /\ (∀ (g : Nat -> Nat -> Nat -> A) (x : S_Disk), snapWs g (c_S_Disk x) = c_S_Disk x) /\ (∀ (g : Nat -> Nat -> Nat -> A) (x : (Int × Int × Int × Int)), snapWs g (c_A4_int_u8 x) = c_A4_int_u8 x) /\ True) /\ (∀ {T U : Type} (f : T -> U) (a : T) (l : List T), (a :: l).map f = f a :: l.map f) /\ (∀ {T U : Type} (f : T -> U), [].map f = []) := ⟨snS, fun _ _ _ => rfl, fun _ => rfl⟩
theorem unS : FlatU c_S_kinespherelaw04_Act /\ FlatU c_S_Write /\ FlatU c_S_Disk /\ FlatU c_A4_int_u8 /\ (∀ (L : Nat) (x : S_kinespherelaw04_Act), unders L (c_S_kinespherelaw04_Act x) = true) /\ (∀ (L : Nat) (x : S_Write), unders L (c_S_Write x) = true) /\ (∀ (L : Nat) (x : S_Disk), unders L (c_S_Disk x) = true) /\ (∀ (L : Nat) (x : (Int × Int × Int × Int)), unders L (c_A4_int_u8 x) = true) /\ True := ⟨fu_S_kinespherelaw04_Act, fu_S_Write, fu_S_Disk, fu_A4_int_u8, fuq_S_kinespherelaw04_Act, fuq_S_Write, fuq_S_Disk, fuq_A4_int_u8, trivial⟩
def F48 (n : Nat) (a0 : Int) (a1 : Int) : Option (Int × Int) :=
 some ((wr .u64 ((wr .u64 ((wr .u64 ((shrI .u64 a0 32) * (shrI .u64 a1 32))) + (shrI .u64 (wr .u64 ((wr .u64 ((shrI .u64 a0 32) * (andI .u64 a1 4294967295))) + (shrI .u64 (wr .u64 ((andI .u64 a0 4294967295) * (andI .u64 a1 4294967295))) 32))) 32))) + (shrI .u64 (wr .u64 ((andI .u64 (wr .u64 ((wr .u64 ((shrI .u64 a0 32) * (andI .u64 a1 4294967295))) + (shrI .u64 (wr .u64 ((andI .u64 a0 4294967295) * (andI .u64 a1 4294967295))) 32))) 4294967295) + (wr .u64 ((andI .u64 a0 4294967295) * (shrI .u64 a1 32))))) 32)), wr .u64 (a0 * a1)))
theorem T48 (C : Nat -> List A -> Option A) (n : Nat) (a0 : Int) (a1 : Int) : J (fun (o : R) y => ∃ v, o.1 = .ret v /\ snapE o.2 v = (A.tup [(A.v (.int .u64 y.1)), (A.v (.int .u64 y.2))])) (evCall1 (cx C) (ec C n 8) (ey C n 8) (n+8) 48 [(A.v (.int .u64 a0)), (A.v (.int .u64 a1))] [] 0) some (F48 n a0 a1) some := by
 refine .lp (e48 ..) ?_
 unfold F48
 refine .st (v := (A.v (.int .u64 (andI .u64 a0 4294967295)))) (aBin_bits_and ..) ?_
 refine .st (v := (A.v (.int .u64 (shrI .u64 a0 32)))) (aBin_shr (hb := by decide) ..) ?_
 refine .st (v := (A.v (.int .u64 (andI .u64 a1 4294967295)))) (aBin_bits_and ..) ?_
 refine .st (v := (A.v (.int .u64 (shrI .u64 a1 32)))) (aBin_shr (hb := by decide) ..) ?_
 refine .st (v := (A.v (.int .u64 (wr .u64 ((andI .u64 a0 4294967295) * (andI .u64 a1 4294967295)))))) (aBin_mul ..) ?_
 refine .st (v := (A.v (.int .u64 (wr .u64 ((shrI .u64 a0 32) * (andI .u64 a1 4294967295)))))) (aBin_mul ..) ?_
 refine .st (v := (A.v (.int .u64 (shrI .u64 (wr .u64 ((andI .u64 a0 4294967295) * (andI .u64 a1 4294967295))) 32)))) (aBin_shr (hb := by decide) ..) ?_
 refine .st (v := (A.v (.int .u64 (wr .u64 ((wr .u64 ((shrI .u64 a0 32) * (andI .u64 a1 4294967295))) + (shrI .u64 (wr .u64 ((andI .u64 a0 4294967295) * (andI .u64 a1 4294967295))) 32)))))) (aBin_add ..) ?_
 refine .st (v := (A.v (.int .u64 (andI .u64 (wr .u64 ((wr .u64 ((shrI .u64 a0 32) * (andI .u64 a1 4294967295))) + (shrI .u64 (wr .u64 ((andI .u64 a0 4294967295) * (andI .u64 a1 4294967295))) 32))) 4294967295)))) (aBin_bits_and ..) ?_
 refine .st (v := (A.v (.int .u64 (shrI .u64 (wr .u64 ((wr .u64 ((shrI .u64 a0 32) * (andI .u64 a1 4294967295))) + (shrI .u64 (wr .u64 ((andI .u64 a0 4294967295) * (andI .u64 a1 4294967295))) 32))) 32)))) (aBin_shr (hb := by decide) ..) ?_
 refine .st (v := (A.v (.int .u64 (wr .u64 ((andI .u64 a0 4294967295) * (shrI .u64 a1 32)))))) (aBin_mul ..) ?_
 refine .st (v := (A.v (.int .u64 (wr .u64 ((andI .u64 (wr .u64 ((wr .u64 ((shrI .u64 a0 32) * (andI .u64 a1 4294967295))) + (shrI .u64 (wr .u64 ((andI .u64 a0 4294967295) * (andI .u64 a1 4294967295))) 32))) 4294967295) + (wr .u64 ((andI .u64 a0 4294967295) * (shrI .u64 a1 32)))))))) (aBin_add ..) ?_
 refine .st (v := (A.v (.int .u64 (wr .u64 ((shrI .u64 a0 32) * (shrI .u64 a1 32)))))) (aBin_mul ..) ?_
 refine .st (v := (A.v (.int .u64 (wr .u64 ((wr .u64 ((shrI .u64 a0 32) * (shrI .u64 a1 32))) + (shrI .u64 (wr .u64 ((wr .u64 ((shrI .u64 a0 32) * (andI .u64 a1 4294967295))) + (shrI .u64 (wr .u64 ((andI .u64 a0 4294967295) * (andI .u64 a1 4294967295))) 32))) 32)))))) (aBin_add ..) ?_
 refine .st (v := (A.v (.int .u64 (shrI .u64 (wr .u64 ((andI .u64 (wr .u64 ((wr .u64 ((shrI .u64 a0 32) * (andI .u64 a1 4294967295))) + (shrI .u64 (wr .u64 ((andI .u64 a0 4294967295) * (andI .u64 a1 4294967295))) 32))) 4294967295) + (wr .u64 ((andI .u64 a0 4294967295) * (shrI .u64 a1 32))))) 32)))) (aBin_shr (hb := by decide) ..) ?_
 refine .st (v := (A.v (.int .u64 (wr .u64 ((wr .u64 ((wr .u64 ((shrI .u64 a0 32) * (shrI .u64 a1 32))) + (shrI .u64 (wr .u64 ((wr .u64 ((shrI .u64 a0 32) * (andI .u64 a1 4294967295))) + (shrI .u64 (wr .u64 ((andI .u64 a0 4294967295) * (andI .u64 a1 4294967295))) 32))) 32))) + (shrI .u64 (wr .u64 ((andI .u64 (wr .u64 ((wr .u64 ((shrI .u64 a0 32) * (andI .u64 a1 4294967295))) + (shrI .u64 (wr .u64 ((andI .u64 a0 4294967295) * (andI .u64 a1 4294967295))) 32))) 4294967295) + (wr .u64 ((andI .u64 a0 4294967295) * (shrI .u64 a1 32))))) 32)))))) (aBin_add ..) ?_
 refine .st (v := (A.v (.int .u64 (wr .u64 (a0 * a1))))) (aBin_mul ..) ?_
 exact .lf rfl rfl ⟨_, rfl, rfl⟩
def G48 (a0 : Int) (a1 : Int) : Option (Int × Int) := F48 fuel0 a0 a1
def Orc48 (C : Nat -> List A -> Option A) : Prop := ∀ (a0 : Int) (a1 : Int), C 48 [(A.v (.int .u64 a0)), (A.v (.int .u64 a1))] = (G48 a0 a1).map fun y => (A.tup [(A.v (.int .u64 y.1)), (A.v (.int .u64 y.2))])
def F42 (n : Nat) (a0 : Int) (a1 : Int) : Option (Int × Int) :=
 (G48 a0 a1).bind fun y1 => some ((y1.1, y1.2))
theorem T42 (C : Nat -> List A -> Option A) (n : Nat) (h48 : Orc48 C) (a0 : Int) (a1 : Int) : J (fun (o : R) y => ∃ v, o.1 = .ret v /\ snapE o.2 v = (A.tup [(A.v (.int .u64 y.1)), (A.v (.int .u64 y.2))])) (evCall1 (cx C) (ec C n 8) (ey C n 8) (n+8) 42 [(A.v (.int .u64 a0)), (A.v (.int .u64 a1))] [] 0) some (F42 n a0 a1) some := by
 refine .lp (e42 ..) ?_
 unfold F42
 refine .bd (g := fun (y : (Int × Int)) => (A.tup [(A.v (.int .u64 y.1)), (A.v (.int .u64 y.2))])) (h48 a0 a1) fun y1 => ?_
 refine .s (A.v (.int .u64 y1.1)) (.s (A.v (.int .u64 y1.2)) ?_)
 exact .lf rfl rfl ⟨_, rfl, rfl⟩
def G42 (a0 : Int) (a1 : Int) : Option (Int × Int) := F42 fuel0 a0 a1
def Orc42 (C : Nat -> List A -> Option A) : Prop := ∀ (a0 : Int) (a1 : Int), C 42 [(A.v (.int .u64 a0)), (A.v (.int .u64 a1))] = (G42 a0 a1).map fun y => (A.tup [(A.v (.int .u64 y.1)), (A.v (.int .u64 y.2))])
def F29_29_0 (n : Nat) (v9 : (List (List UInt8))) (v10 : Nat) : Nat -> Int -> (List (List UInt8)) -> Option (Nat × (List (List UInt8)))
 | 0, _, _ => none
 | m + 1, v11, v12 => bif (decide (v11 < ((v10 : Int)))) then ((subN v10 v11 (((v10 : Nat) : Int))).bind fun k14 => (subN v10 0 v11).bind fun k15 => F29_29_0 n v9 v10 m (wr .i64 (v11 + (((min ((List.take k15.2 (List.drop k15.1 v12))).length k14.2 : Nat) : Int)))) ((copyI v12 k14.1 k14.2 ((List.take k15.2 (List.drop k15.1 v12)))))) else (some ((v10, v12)))
theorem T29_29_0 (C : Nat -> List A -> Option A) (n : Nat) (h42 : Orc42 C) (v9 : (List (List UInt8))) (v10 : Nat) {ρ γ : Type} {φ : ρ -> γ -> Prop} {kL : R -> Option ρ} {K : (Nat × (List (List UInt8))) -> Option γ} (kx kg : Nat -> St -> Option R) (kr : St -> Option R) (kp : A -> St -> Option R) (x0 : ∀ (o0 : Nat) (o1 : (List (List UInt8))) (s4 : A) (s8 : A), J φ (kx 0 (St.mk [(4, s4), (7, (A.sl 0 0 o0 false)), (8, s8)] [Blk.row true 1 (List.map (cL c8) o1)])) kL (K (o0, o1)) some) :
  ∀ (m : Nat) (v11 : Int) (v12 : (List (List UInt8))), J φ (loopR (cx C) (ec C n 8) (ey C n 8) (n+8) 29 0 0 1 kx kg kr kp m (St.mk [(4, (A.imm (List.map (cL c8) v9) true)), (7, (A.sl 0 0 v10 false)), (8, (iA v11))] [Blk.row true 1 (List.map (cL c8) v12)])) kL (F29_29_0 n v9 v10 m v11 v12) K := by
 intro m
 induction m with
 | zero => intros; exact .nn
 | succ m ih =>
  intro v11 v12
  refine .lp (e29_0 ..) ?_
  unfold F29_29_0
  refine .st (v := (iA ((v10 : Int)))) (row_len (e := 35) (by kernel_rfl) rfl rfl) ?_
  refine .st (v := (bA (decide (v11 < ((v10 : Int)))))) (aBin_lss ..) ?_
  refine .biHN (fun hk13 => ?_) (fun hk13 => ?_)
  ·refine .bd (g := fun (y : Nat × Nat) => (A.sl 0 y.1 y.2 false)) (wrow_cut0 (e := 35) (es := 1) (p := v11) (q := ((v10 : Nat) : Int)) (by kernel_rfl) (by kernel_rfl) rfl (.inr ⟨_, rfl⟩) (.inl ⟨rfl, rfl⟩)) fun k14 => ?_
   refine .bd (g := fun (y : Nat × Nat) => (A.sl 0 y.1 y.2 false)) (wrow_cut0 (e := 35) (es := 1) (p := 0) (q := v11) (by kernel_rfl) (by kernel_rfl) rfl (.inl ⟨rfl, rfl⟩) (.inr ⟨_, rfl⟩)) fun k15 => ?_
   refine .st (v := ((iA (((min ((List.take k15.2 (List.drop k15.1 v12))).length k14.2 : Nat) : Int))), [Blk.row true 1 (List.map (cL c8) ((copyI v12 k14.1 k14.2 ((List.take k15.2 (List.drop k15.1 v12))))))])) (wrow_copy (e := 35) (es := 1) (f := (cL c8)) (l := v12) (l2 := (List.take k15.2 (List.drop k15.1 v12))) (by kernel_rfl) (by kernel_rfl) (by decide) (fun _ => rfl) ce_cL (by decide) rfl (els_sub _ rfl)) ?_
   refine .st (v := (iA (wr .i64 (v11 + (((min ((List.take k15.2 (List.drop k15.1 v12))).length k14.2 : Nat) : Int)))))) (aBin_add ..) ?_
   refine .s [Blk.row true 1 (List.map (cL c8) ((copyI v12 k14.1 k14.2 ((List.take k15.2 (List.drop k15.1 v12))))))] ?_
   refine .cT (by kernel_rfl) ?_
   exact ih _ _
  exact .ex (x0 _ _ _ _)
def F29 (n : Nat) (a0 : (List (List UInt8))) (a1 : Int) : Option (List (List UInt8)) :=
 bif (decide (a1 < 0)) then (none) else ((G42 (wr .u64 ((a0.length : Int))) (wr .u64 (a1))).bind fun y2 => (bif (decide (0 < y2.1)) then (some true) else (some (decide (9223372036854775807 < y2.2)))).bind fun y4 => bif y4 then (none) else ((mkI 24 (wr .i64 (y2.2)) ([])).bind fun y8 => (F29_29_0 n ([]) y8.length (n+8) (((min a0.length y8.length : Nat) : Int)) ((copyI y8 0 y8.length a0))).bind fun o16 => match o16 with | (y17, y18) => some ((List.take y17 (List.drop 0 y18)))))
theorem T29 (C : Nat -> List A -> Option A) (n : Nat) (h42 : Orc42 C) (a0 : (List (List UInt8))) (a1 : Int) : J (fun (o : R) y => ∃ v, o.1 = .ret v /\ snapE o.2 v = (A.imm (List.map (cL c8) y) false)) (evCall1 (cx C) (ec C n 8) (ey C n 8) (n+8) 29 [(A.imm (List.map (cL c8) a0) false), (iA a1)] [] 0) some (F29 n a0 a1) some := by
 refine .lp (e29 ..) ?_
 unfold F29
 refine .st (v := (bA (decide (a1 < 0)))) (aBin_lss ..) ?_
 refine .biHN (fun hk1 => ?_) (fun hk1 => ?_)
 ·refine .s (A.ifc 9 (A.v (Value.string ((ByteArray.mk #[99, 97, 110, 110, 111, 116, 32, 98, 101, 32, 110, 101, 103, 97, 116, 105, 118, 101]))))) ?_
  exact .nn
 refine .st (v := (iA ((a0.length : Int)))) (len_imm (e := 35) (h1 := by kernel_rfl) ..) ?_
 refine .st (v := (A.v (.int .u64 (wr .u64 ((a0.length : Int)))))) (aConvert_int (hs := by kernel_rfl) (hd := by kernel_rfl) ..) ?_
 refine .st (v := (A.v (.int .u64 (wr .u64 (a1))))) (aConvert_int (hs := by kernel_rfl) (hd := by kernel_rfl) ..) ?_
 refine .bd (g := fun (y : (Int × Int)) => (A.tup [(A.v (.int .u64 y.1)), (A.v (.int .u64 y.2))])) (h42 (wr .u64 ((a0.length : Int))) (wr .u64 (a1))) fun y2 => ?_
 refine .s (A.v (.int .u64 y2.1)) (.s (A.v (.int .u64 y2.2)) ?_)
 refine .st (v := (bA (decide (0 < y2.1)))) (aBin_gtr ..) ?_
 refine .bg (fun t (y : Bool) => ∃ j5 j6 : A, t = [(bA y), j5, j6]) ?_ ?_
 ·refine .biH (fun hk3 => ?_) (fun hk3 => ?_)
  ·exact .lg ⟨_, _, rfl⟩
  refine .st (v := (bA (decide (9223372036854775807 < y2.2)))) (aBin_gtr ..) ?_
  exact .lg ⟨_, _, rfl⟩
 rintro _ y4 ⟨j5, j6, rfl⟩
 iterate 3 refine .uc ?_
 refine .biHN (fun hk7 => ?_) (fun hk7 => ?_)
 ·refine .s (A.ifc 9 (A.v (Value.string ((ByteArray.mk #[116, 104, 101, 32, 114, 101, 115, 117, 108, 116, 32, 111, 102, 32, 40, 108, 101, 110, 40, 120, 41, 32, 42, 32, 99, 111, 117, 110, 116, 41, 32, 111, 118, 101, 114, 102, 108, 111, 119, 115]))))) ?_
  exact .nn
 refine .st (v := (iA (wr .i64 (y2.2)))) (aConvert_int (hs := by kernel_rfl) (hd := by kernel_rfl) ..) ?_
 refine .bd (g := fun (y : List (List UInt8)) => ((A.sl 0 0 y.length false), [Blk.row true 1 (List.map (cL c8) y)])) (wrow_make (e := 35) (es := 1) (f := (cL c8)) (z := []) (z' := [(A.imm [] true)]) (by kernel_rfl) (by kernel_rfl) (by kernel_rfl) (by kernel_rfl) rfl (by decide) (fun _ => rfl)) fun y8 => ?_
 refine .st (v := ((iA (((min a0.length y8.length : Nat) : Int))), [Blk.row true 1 (List.map (cL c8) ((copyI y8 0 y8.length a0)))])) (wrow_copy (e := 35) (es := 1) (f := (cL c8)) (l := y8) (l2 := a0) (by kernel_rfl) (by kernel_rfl) (by decide) (fun _ => rfl) ce_cL (by decide) rfl (els_imm ..)) ?_
 refine .as (T29_29_0 C n h42 ([]) y8.length _ _ _ _ ?_ _ (((min a0.length y8.length : Nat) : Int)) ((copyI y8 0 y8.length a0)))
 ·intro y17 y18 j19 j20
  refine .un rfl ?_
  refine .cT (by kernel_rfl) ?_
  exact .lf rfl rfl ⟨_, rfl, by show snapE [Blk.row true 1 (List.map (cL c8) y18)] (A.sl 0 0 y17 false) = _; first | (simp only [sn0, snM, snapE, snapGE_sub (H := [Blk.row true 1 (List.map (cL c8) y18)]) (b := 0) (es := 1) (wr := true) (l := y18) (fl_cL fl_c8) rfl]; done) | (simp only [sn0, snS, snapE, snapGE_sub (H := [Blk.row true 1 (List.map (cL c8) y18)]) (b := 0) (es := 1) (wr := true) (l := y18) (fl_cL fl_c8) rfl]; first | done | rfl)⟩
def G29 (a0 : (List (List UInt8))) (a1 : Int) : Option (List (List UInt8)) := F29 fuel0 a0 a1
def Orc29 (C : Nat -> List A -> Option A) : Prop := ∀ (a0 : (List (List UInt8))) (a1 : Int), C 29 [(A.imm (List.map (cL c8) a0) false), (iA a1)] = (G29 a0 a1).map fun y => (A.imm (List.map (cL c8) y) false)
def F12 (n : Nat) (a0 : Int) : Option (S_Disk × Int) :=
 (bif (decide (a0 < 1)) then (some true) else (some (decide (4096 < a0)))).bind fun y2 => bif y2 then (some (((S_Disk.mk ([]) ([]) 0 false), 1))) else ((mkI 1 128 ((0 : UInt8))).bind fun y6 => (G29 ([y6]) a0).bind fun y7 => some (((S_Disk.mk y7 ([]) (-1) false), 0)))
theorem T12 (C : Nat -> List A -> Option A) (n : Nat) (h29 : Orc29 C) (a0 : Int) : J (fun (o : R) y => ∃ v, o.1 = .ret v /\ snapE o.2 v = (A.tup [(A.agg [(A.imm (List.map (cL c8) y.1.Sectors) false), (A.imm (List.map c_S_Write y.1.Pending) false), (iA y.1.Left), (bA y.1.Stopped)]), (iA y.2)])) (evCall1 (cx C) (ec C n 8) (ey C n 8) (n+8) 12 [(iA a0)] [] 0) some (F12 n a0) some := by
 refine .lp (e12 ..) ?_
 unfold F12
 refine .s ((A.ptr 0 0), [bz4]) ?_
 refine .st (v := (bA (decide (a0 < 1)))) (aBin_lss ..) ?_
 refine .bg (fun t (y : Bool) => ∃ j3 j4 : A, t = [(bA y), j3, j4]) ?_ ?_
 ·refine .biH (fun hk1 => ?_) (fun hk1 => ?_)
  ·exact .lg ⟨_, _, rfl⟩
  refine .st (v := (bA (decide (4096 < a0)))) (aBin_gtr ..) ?_
  exact .lg ⟨_, _, rfl⟩
 rintro _ y2 ⟨j3, j4, rfl⟩
 iterate 3 refine .uc ?_
 refine .biHN (fun hk5 => ?_) (fun hk5 => ?_)
 ·refine .s (A.agg [(A.imm [] true), (A.imm [] true), (iA 0), (bA false)]) (.s [bz4] (.s (A.agg [(A.imm [] true), (A.imm [] true), (iA 0), (bA false)]) ?_))
  exact .lf rfl rfl ⟨_, rfl, by show snapE _ (A.tup [(A.agg [(A.imm [] true), (A.imm [] true), (iA 0), (bA false)]), (iA 1)]) = _; first | (simp only [sn0, snM, snapE]; done) | (simp only [sn0, snS, snapE]; first | done | rfl)⟩
 refine .bd (g := fun (y : List UInt8) => ((A.sl 1 0 y.length false), [bz4, Blk.row true 1 (List.map c8 y)])) (wrow_make (e := 5) (es := 1) (f := c8) (z := (0 : UInt8)) (z' := [(uA 0)]) (by kernel_rfl) (by kernel_rfl) (by kernel_rfl) (by kernel_rfl) rfl (by decide) (fun _ => rfl)) fun y6 => ?_
 refine .st (v := ((A.imm (List.map c8 y6) false), [bz4, Blk.dead])) (kill_all (es := 1) (l := y6) fl_c8 rfl (by decide)) ?_
 refine .s (A.imm [[(A.imm (List.map c8 y6) false)]] true) ?_
 refine .bd (g := fun (y : (List (List UInt8))) => (A.imm (List.map (cL c8) y) false)) (by show C 29 [snap _ (A.imm [[(A.imm (List.map c8 y6) false)]] true), snap _ (iA a0)] = _; simp only [sn0, snM]; exact h29 ([y6]) a0) fun y7 => ?_
 refine .s (A.agg [(A.imm (List.map (cL c8) y7) false), (A.imm [] true), (iA (-1)), (bA false)]) (.s [Blk.box [(A.imm (List.map (cL c8) y7) false), (A.imm [] true), (iA (-1)), (bA false)], Blk.dead] (.s (A.agg [(A.imm (List.map (cL c8) y7) false), (A.imm [] true), (iA (-1)), (bA false)]) ?_))
 exact .lf rfl rfl ⟨_, rfl, by show snapE _ (A.tup [(A.agg [(A.imm (List.map (cL c8) y7) false), (A.imm [] true), (iA (-1)), (bA false)]), (iA 0)]) = _; first | (simp only [sn0, snM, snapE]; done) | (simp only [sn0, snS, snapE]; first | done | rfl)⟩
def G12 (a0 : Int) : Option (S_Disk × Int) := F12 fuel0 a0
def Orc12 (C : Nat -> List A -> Option A) : Prop := ∀ (a0 : Int), C 12 [(iA a0)] = (G12 a0).map fun y => (A.tup [(A.agg [(A.imm (List.map (cL c8) y.1.Sectors) false), (A.imm (List.map c_S_Write y.1.Pending) false), (iA y.1.Left), (bA y.1.Stopped)]), (iA y.2)])
def F31 (n : Nat) (a0 : (List UInt8)) : Option Bool :=
 some (((a0.length : Int)) == 128)
theorem T31 (C : Nat -> List A -> Option A) (n : Nat) (a0 : (List UInt8)) : J (fun (o : R) y => ∃ v, o.1 = .ret v /\ snapE o.2 v = (bA y)) (evCall1 (cx C) (ec C n 8) (ey C n 8) (n+8) 31 [(A.imm (List.map c8 a0) false)] [] 0) some (F31 n a0) some := by
 refine .lp (e31 ..) ?_
 unfold F31
 refine .st (v := (iA ((a0.length : Int)))) (len_imm (e := 5) (h1 := by kernel_rfl) ..) ?_
 refine .st (v := (bA (((a0.length : Int)) == 128))) (aBin_eql ..) ?_
 exact .lf rfl rfl ⟨_, rfl, rfl⟩
def G31 (a0 : (List UInt8)) : Option Bool := F31 fuel0 a0
def Orc31 (C : Nat -> List A -> Option A) : Prop := ∀ (a0 : (List UInt8)), C 31 [(A.imm (List.map c8 a0) false)] = (G31 a0).map fun y => (bA y)
def F34 (n : Nat) (a0 : (List UInt8)) : Option Bool :=
 (G31 a0).bind fun y1 => some (!y1)
theorem T34 (C : Nat -> List A -> Option A) (n : Nat) (h31 : Orc31 C) (a0 : (List UInt8)) : J (fun (o : R) y => ∃ v, o.1 = .ret v /\ snapE o.2 v = (bA y)) (evCall1 (cx C) (ec C n 8) (ey C n 8) (n+8) 34 [(A.imm (List.map c8 a0) false)] [] 0) some (F34 n a0) some := by
 refine .lp (e34 ..) ?_
 unfold F34
 refine .bd (g := fun (y : Bool) => (bA y)) (by show C 31 [snap _ (A.imm (List.map c8 a0) false)] = _; simp only [sn0, snM]; exact h31 a0) fun y1 => ?_
 refine .s (bA (!y1)) ?_
 exact .lf rfl rfl ⟨_, rfl, rfl⟩
def G34 (a0 : (List UInt8)) : Option Bool := F34 fuel0 a0
def Orc34 (C : Nat -> List A -> Option A) : Prop := ∀ (a0 : (List UInt8)), C 34 [(A.imm (List.map c8 a0) false)] = (G34 a0).map fun y => (bA y)
def F44_34_44_0 (n : Nat) (v1 : (List (List UInt8))) (v2 : Int) (v3 : Int) : Nat -> Int -> Option ((Int) ⊕ (Unit))
 | 0, _ => none
 | m + 1, v4 => bif (decide (v4 < v3)) then ((getI v1 v4).bind fun y6 => (G34 y6).bind fun y7 => bif y7 then (some ((Sum.inl v4))) else (F44_34_44_0 n v1 v2 v3 m (wr .i64 (v4 + 1)))) else (some ((Sum.inr (()))))
theorem T44_34_44_0 (C : Nat -> List A -> Option A) (n : Nat) (h34 : Orc34 C) (v1 : (List (List UInt8))) (v2 : Int) (v3 : Int) {ρ γ : Type} {φ : ρ -> γ -> Prop} {kL : R -> Option ρ} {K : ((Int) ⊕ (Unit)) -> Option γ} (kx kg : Nat -> St -> Option R) (kr : St -> Option R) (kp : A -> St -> Option R) (x0 : ∀ (o0 : Int) (s0 : A) (s1 : A) (s7 : A) (s8 : A), J φ (kr (St.mk [(0, s0), (1, s1), (4, (iA o0)), (7, s7), (8, s8)] [])) kL (K (Sum.inl o0)) some) (x1 : ∀ (s0 : A) (s1 : A) (s4 : A) (s7 : A) (s8 : A), J φ (kx 0 (St.mk [(0, s0), (1, s1), (4, s4), (7, s7), (8, s8)] [])) kL (K (Sum.inr (()))) some) :
  ∀ (m : Nat) (v4 : Int), J φ (loopR (cx C) (ec C n 8) (ey C n 8) (n+8) 44 0 0 0 kx kg kr kp m (St.mk [(0, (A.imm (List.map (cL c8) v1) false)), (1, (A.fn (Fn.func 34) [] [])), (4, (iA v2)), (7, (iA v3)), (8, (iA v4))] [])) kL (F44_34_44_0 n v1 v2 v3 m v4) K := by
 intro m
 induction m with
 | zero => intros; exact .nn
 | succ m ih =>
  intro v4
  refine .lp (e44_0 ..) ?_
  unfold F44_34_44_0
  refine .st (v := (bA (decide (v4 < v3)))) (aBin_lss ..) ?_
  refine .biHN (fun hk5 => ?_) (fun hk5 => ?_)
  ·refine .bd (g := fun (y : (List UInt8)) => A.ip ((cL c8) y)) (idx_imm (e := 35) (es := 1) (h1 := by kernel_rfl) (h2 := by kernel_rfl) (h3 := fun _ => rfl) ..) fun y6 => ?_
   refine .s (A.imm (List.map c8 y6) false) ?_
   refine .dO (by kernel_rfl) (by kernel_rfl) ?_
   refine .bd (g := fun (y : Bool) => (bA y)) (by simp only [List.nil_append, List.cons_append, List.append_nil, sn0, snM]; exact h34 y6) fun y7 => ?_
   refine .biHN (fun hk8 => ?_) (fun hk8 => ?_)
   ·exact .ex (x0 _ _ _ _ _)
   refine .st (v := (iA (wr .i64 (v4 + 1)))) (aBin_add ..) ?_
   refine .s [] ?_
   refine .cT (by kernel_rfl) ?_
   exact ih _
  exact .ex (x1 _ _ _ _ _)
def F44_34 (n : Nat) (a0 : (List (List UInt8))) : Option Int :=
 (F44_34_44_0 n a0 0 ((a0.length : Int)) (n+8) 0).bind fun o9 => match o9 with | (Sum.inl y10) => some y10 | (Sum.inr _) => some (-1)
theorem T44_34 (C : Nat -> List A -> Option A) (n : Nat) (h34 : Orc34 C) (a0 : (List (List UInt8))) : J (fun (o : R) y => ∃ v, o.1 = .ret v /\ snapE o.2 v = (iA y)) (evCall1 (cx C) (ec C n 8) (ey C n 8) (n+8) 44 [(A.imm (List.map (cL c8) a0) false), (A.fn (Fn.func 34) [] [])] [] 0) some (F44_34 n a0) some := by
 refine .lp (e44 ..) ?_
 unfold F44_34
 refine .st (v := (iA ((a0.length : Int)))) (len_imm (e := 35) (h1 := by kernel_rfl) ..) ?_
 refine .as (T44_34_44_0 C n h34 a0 0 ((a0.length : Int)) _ _ _ _ ?_ ?_ _ 0)
 ·intro y10 j11 j12 j13 j14
  refine .un rfl ?_
  exact .lf rfl rfl ⟨_, rfl, rfl⟩
 ·intro j15 j16 j17 j18 j19
  refine .un rfl ?_
  refine .cT (by kernel_rfl) ?_
  exact .lf rfl rfl ⟨_, rfl, rfl⟩
def G44_34 (a0 : (List (List UInt8))) : Option Int := F44_34 fuel0 a0
def Orc44_34 (C : Nat -> List A -> Option A) : Prop := ∀ (a0 : (List (List UInt8))), C 44 [(A.imm (List.map (cL c8) a0) false), (A.fn (Fn.func 34) [] [])] = (G44_34 a0).map fun y => (iA y)
def F33_34 (n : Nat) (a0 : (List (List UInt8))) : Option Bool :=
 (G44_34 a0).bind fun y1 => some (decide (0 <= y1))
theorem T33_34 (C : Nat -> List A -> Option A) (n : Nat) (h44_34 : Orc44_34 C) (a0 : (List (List UInt8))) : J (fun (o : R) y => ∃ v, o.1 = .ret v /\ snapE o.2 v = (bA y)) (evCall1 (cx C) (ec C n 8) (ey C n 8) (n+8) 33 [(A.imm (List.map (cL c8) a0) false), (A.fn (Fn.func 34) [] [])] [] 0) some (F33_34 n a0) some := by
 refine .lp (e33 ..) ?_
 unfold F33_34
 refine .bd (g := fun (y : Int) => (iA y)) (by show C 44 [snap _ (A.imm (List.map (cL c8) a0) false), snap [] (A.fn (Fn.func 34) [] [])] = _; simp only [sn0, snM]; exact h44_34 a0) fun y1 => ?_
 refine .st (v := (bA (decide (0 <= y1)))) (aBin_geq ..) ?_
 exact .lf rfl rfl ⟨_, rfl, rfl⟩
def G33_34 (a0 : (List (List UInt8))) : Option Bool := F33_34 fuel0 a0
def Orc33_34 (C : Nat -> List A -> Option A) : Prop := ∀ (a0 : (List (List UInt8))), C 33 [(A.imm (List.map (cL c8) a0) false), (A.fn (Fn.func 34) [] [])] = (G33_34 a0).map fun y => (bA y)
def F15_43_0 (n : Nat) (v26 : (List S_Write)) (v27 : Int) (v28 : Int) (v30 : S_Disk) (v31 : Int) : Nat -> Int -> Option ((Int × Int × (List UInt8)) ⊕ (Unit))
 | 0, _ => none
 | m + 1, v29 => bif (decide (v29 < v28)) then ((getI v26 v29).bind fun y33 => (bif (decide (y33.At < 0)) then (some true) else (some (decide (v31 <= y33.At)))).bind fun y35 => (bif y35 then (some true) else ((G31 y33.Data).bind fun y41 => some (!y41))).bind fun y42 => bif y42 then (some ((Sum.inl ((v29, y33.At, y33.Data))))) else (F15_43_0 n v26 v27 v28 v30 v31 m (wr .i64 (v29 + 1)))) else (some ((Sum.inr (()))))
theorem T15_43_0 (C : Nat -> List A -> Option A) (n : Nat) (h31 : Orc31 C) (h33_34 : Orc33_34 C) (v26 : (List S_Write)) (v27 : Int) (v28 : Int) (v30 : S_Disk) (v31 : Int) {ρ γ : Type} {φ : ρ -> γ -> Prop} {kL : R -> Option ρ} {K : ((Int × Int × (List UInt8)) ⊕ (Unit)) -> Option γ} (kx kg : Nat -> St -> Option R) (kr : St -> Option R) (kp : A -> St -> Option R) (x0 : ∀ (o0 : Int) (o1 : Int) (o2 : (List UInt8)) (s0 : A) (s1 : A) (s7 : A) (s8 : A), J φ (kr (St.mk [(0, s0), (1, s1), (4, (iA o0)), (7, s7), (8, s8)] [Blk.box (c_S_Disk v30), Blk.box [(iA v31)], Blk.box [(iA o1), (A.imm (List.map c8 o2) false)]])) kL (K (Sum.inl ((o0, o1, o2)))) some) (x1 : ∀ (s0 : A) (s1 : A) (s4 : A) (s7 : A) (s8 : A), J φ (kx 0 (St.mk [(0, s0), (1, s1), (4, s4), (7, s7), (8, s8)] [Blk.box (c_S_Disk v30), Blk.box [(iA v31)]])) kL (K (Sum.inr (()))) some) :
  ∀ (m : Nat) (v29 : Int), J φ (loopR (cx C) (evCall (cx C) (n+6)) (evCallY (cx C) (n+6)) (n+6) 43 0 0 2 kx kg kr kp m (St.mk [(0, (A.imm (List.map c_S_Write v26) false)), (1, (A.fn (Fn.func 30) [] [(A.ptr 1 0)])), (4, (iA v27)), (7, (iA v28)), (8, (iA v29))] [Blk.box (c_S_Disk v30), Blk.box [(iA v31)]])) kL (F15_43_0 n v26 v27 v28 v30 v31 m v29) K := by
 intro m
 induction m with
 | zero => intros; exact .nn
 | succ m ih =>
  intro v29
  refine .lp (e43_0 ..) ?_
  unfold F15_43_0
  refine .st (v := (bA (decide (v29 < v28)))) (aBin_lss ..) ?_
  refine .biHN (fun hk32 => ?_) (fun hk32 => ?_)
  ·refine .bd (g := fun (y : S_Write) => A.ip (c_S_Write y)) (idx_imm (e := 54) (es := 2) (h1 := by kernel_rfl) (h2 := by kernel_rfl) (h3 := fun _ => rfl) ..) fun y33 => ?_
   refine .s (A.agg [(iA y33.At), (A.imm (List.map c8 y33.Data) false)]) ?_
   refine .dC (by kernel_rfl) (by kernel_rfl) ?_
   refine .cl ((evCall_in lt_30).trans (e30 C (evCall (cx C) (n+5)) (evCallY (cx C) (n+5)) (n+5) _ _ _ _)) ?_
   refine .s ((A.ptr 2 0), [Blk.box (c_S_Disk v30), Blk.box [(iA v31)], Blk.box [(iA y33.At), (A.imm (List.map c8 y33.Data) false)]]) (.s (A.ptr 2 0) (.s (iA y33.At) ?_))
   refine .st (v := (bA (decide (y33.At < 0)))) (aBin_lss ..) ?_
   refine .bg (fun t (y : Bool) => ∃ j36 j37 j38 j39 : A, t = [(bA y), j36, j37, j38, j39]) ?_ ?_
   ·refine .biH (fun hk34 => ?_) (fun hk34 => ?_)
    ·exact .lg ⟨_, _, _, _, rfl⟩
    refine .s (A.ptr 2 0) (.s (iA y33.At) (.s (iA v31) ?_))
    refine .st (v := (bA (decide (v31 <= y33.At)))) (aBin_geq ..) ?_
    exact .lg ⟨_, _, _, _, rfl⟩
   rintro _ y35 ⟨j36, j37, j38, j39, rfl⟩
   iterate 5 refine .uc ?_
   refine .bg (fun t (y : Bool) => ∃ j43 j44 j45 j46 : A, t = [(bA y), j43, j44, j45, j46]) ?_ ?_
   ·refine .biH (fun hk40 => ?_) (fun hk40 => ?_)
    ·exact .lg ⟨_, _, _, _, rfl⟩
    refine .s (A.ptr 2 1) (.s (A.imm (List.map c8 y33.Data) false) ?_)
    refine .bd (g := fun (y : Bool) => (bA y)) (by show C 31 [snap _ (A.imm (List.map c8 y33.Data) false)] = _; simp only [sn0, snM]; exact h31 y33.Data) fun y41 => ?_
    refine .s (bA (!y41)) ?_
    exact .lg ⟨_, _, _, _, rfl⟩
   rintro _ y42 ⟨j43, j44, j45, j46, rfl⟩
   iterate 5 refine .uc ?_
   refine .cr ?_
   refine .ok ?_
   refine .biHN (fun hk47 => ?_) (fun hk47 => ?_)
   ·exact .ex (x0 _ _ _ _ _ _ _)
   refine .st (v := (iA (wr .i64 (v29 + 1)))) (aBin_add ..) ?_
   refine .st (v := [Blk.box (c_S_Disk v30), Blk.box [(iA v31)]]) ((by kernel_rfl : _ = (bif ((((underss 2 (List.map (cL c8) v30.Sectors)) && ((underss 2 (List.map c_S_Write v30.Pending)) && true))) && true) then some [Blk.box (c_S_Disk v30), Blk.box [(iA v31)]] else none)).trans (by simp only [un0, unS])) ?_
   refine .cT ((by kernel_rfl : _ = (bif underss 2 (List.map c_S_Write v26) then true else false)).trans (by simp only [un0, unS])) ?_
   exact ih _
  exact .ex (x1 _ _ _ _ _)
def F15 (n : Nat) (a0 : S_Disk) : Option Int :=
 (bif (decide (((a0.Sectors.length : Int)) < 1)) then (some true) else (some (decide (4096 < ((a0.Sectors.length : Int)))))).bind fun y2 => (bif y2 then (some true) else (some (decide (4096 < ((a0.Pending.length : Int)))))).bind fun y6 => (bif y6 then (some true) else (some (decide (a0.Left < (-1))))).bind fun y12 => (bif y12 then (some true) else (some (decide (65536 < a0.Left)))).bind fun y17 => bif y17 then ((some (())).bind fun y69 => (some (())).bind fun y70 => (some true).bind fun y71 => bif y71 then (some 40) else ((G33_34 a0.Sectors).bind fun y73 => bif y73 then (some 40) else (some 0))) else ((some a0.Pending).bind fun y24 => (some (())).bind fun y25 => (F15_43_0 n y24 0 ((y24.length : Int)) a0 ((a0.Sectors.length : Int)) (n+6) 0).bind fun o48 => match o48 with | (Sum.inl ((y49, y50, y51))) => (some (decide (0 <= y49))).bind fun y56 => bif y56 then (some 40) else ((G33_34 a0.Sectors).bind fun y58 => bif y58 then (some 40) else (some 0)) | (Sum.inr _) => (some false).bind fun y65 => bif y65 then (some 40) else ((G33_34 a0.Sectors).bind fun y67 => bif y67 then (some 40) else (some 0)))
theorem T15 (C : Nat -> List A -> Option A) (n : Nat) (h31 : Orc31 C) (h33_34 : Orc33_34 C) (a0 : S_Disk) : J (fun (o : R) y => ∃ v, o.1 = .ret v /\ snapE o.2 v = (iA y)) (evCall1 (cx C) (ec C n 8) (ey C n 8) (n+8) 15 [(A.agg (c_S_Disk a0))] [] 0) some (F15 n a0) some := by
 refine .lp (e15 ..) ?_
 unfold F15
 refine .s ((A.ptr 0 0), [Blk.box (c_S_Disk a0)]) (.s (A.ptr 0 0) (.s (A.imm (List.map (cL c8) a0.Sectors) false) ?_))
 refine .st (v := (iA ((a0.Sectors.length : Int)))) (len_imm (e := 35) (h1 := by kernel_rfl) ..) ?_
 refine .s ((A.ptr 1 0), [Blk.box (c_S_Disk a0), Blk.box [(iA 0)]]) (.s [Blk.box (c_S_Disk a0), Blk.box [(iA ((a0.Sectors.length : Int)))]] (.s (iA ((a0.Sectors.length : Int))) ?_))
 refine .st (v := (bA (decide (((a0.Sectors.length : Int)) < 1)))) (aBin_lss ..) ?_
 refine .bg (fun t (y : Bool) => ∃ j3 j4 : A, t = [(bA y), j3, j4]) ?_ ?_
 ·refine .biH (fun hk1 => ?_) (fun hk1 => ?_)
  ·exact .lg ⟨_, _, rfl⟩
  refine .s (iA ((a0.Sectors.length : Int))) ?_
  refine .st (v := (bA (decide (4096 < ((a0.Sectors.length : Int)))))) (aBin_gtr ..) ?_
  exact .lg ⟨_, _, rfl⟩
 rintro _ y2 ⟨j3, j4, rfl⟩
 iterate 3 refine .uc ?_
 refine .bg (fun t (y : Bool) => ∃ j7 j8 j9 j10 : A, t = [(bA y), j7, j8, j9, j10]) ?_ ?_
 ·refine .biH (fun hk5 => ?_) (fun hk5 => ?_)
  ·exact .lg ⟨_, _, _, _, rfl⟩
  refine .s (A.ptr 0 1) (.s (A.imm (List.map c_S_Write a0.Pending) false) ?_)
  refine .st (v := (iA ((a0.Pending.length : Int)))) (len_imm (e := 54) (h1 := by kernel_rfl) ..) ?_
  refine .st (v := (bA (decide (4096 < ((a0.Pending.length : Int)))))) (aBin_gtr ..) ?_
  exact .lg ⟨_, _, _, _, rfl⟩
 rintro _ y6 ⟨j7, j8, j9, j10, rfl⟩
 iterate 5 refine .uc ?_
 refine .bg (fun t (y : Bool) => ∃ j13 j14 j15 : A, t = [(bA y), j13, j14, j15]) ?_ ?_
 ·refine .biH (fun hk11 => ?_) (fun hk11 => ?_)
  ·exact .lg ⟨_, _, _, rfl⟩
  refine .s (A.ptr 0 2) (.s (iA a0.Left) ?_)
  refine .st (v := (bA (decide (a0.Left < (-1))))) (aBin_lss ..) ?_
  exact .lg ⟨_, _, _, rfl⟩
 rintro _ y12 ⟨j13, j14, j15, rfl⟩
 iterate 4 refine .uc ?_
 refine .bg (fun t (y : Bool) => ∃ j18 j19 j20 : A, t = [(bA y), j18, j19, j20]) ?_ ?_
 ·refine .biH (fun hk16 => ?_) (fun hk16 => ?_)
  ·exact .lg ⟨_, _, _, rfl⟩
  refine .s (A.ptr 0 2) (.s (iA a0.Left) ?_)
  refine .st (v := (bA (decide (65536 < a0.Left)))) (aBin_gtr ..) ?_
  exact .lg ⟨_, _, _, rfl⟩
 rintro _ y17 ⟨j18, j19, j20, rfl⟩
 iterate 4 refine .uc ?_
 refine .gsf (fun hc23 => ?_) (fun hc23 => ?_)
 ·refine .bb ?_
  refine .s (A.ptr 0 1) ?_
  refine .cr ?_
  refine .bg (fun t (y : (List S_Write)) =>  t = (A.imm (List.map c_S_Write y) false)) ?_ ?_
  ·refine .lp (gIf_knownFF hc23) ?_
   refine .s (A.imm (List.map c_S_Write a0.Pending) false) ?_
   exact .lg rfl
  rintro _ y24 rfl
  refine .bg (fun t (y : Unit) =>  t = (A.fn (Fn.func 30) [] [(A.ptr 1 0)])) ?_ ?_
  ·refine .lp (gIf_knownFF hc23) ?_
   exact .lg rfl
  rintro _ y25 rfl
  refine .lp (gIf_knownFF hc23) ?_
  refine .cl ((evCall_in lt_32).trans (e32 C (ec C n 7) (ey C n 7) (n+7) _ _ _ _)) ?_
  refine .cl ((evCall_in lt_43).trans (e43 C (evCall (cx C) (n+6)) (evCallY (cx C) (n+6)) (n+6) _ _ _ _)) ?_
  refine .st (v := (iA ((y24.length : Int)))) (len_imm (e := 54) (h1 := by kernel_rfl) ..) ?_
  refine .as (T15_43_0 C n h31 h33_34 y24 0 ((y24.length : Int)) a0 ((a0.Sectors.length : Int)) _ _ _ _ ?_ ?_ _ 0)
  ·intro y49 y50 y51 j52 j53 j54 j55
   refine .un rfl ?_
   refine .cr ?_
   refine .ok ?_
   refine .st (v := (bA (decide (0 <= y49)))) (aBin_geq ..) ?_
   refine .cr ?_
   refine .ok ?_
   refine .bg (fun t (y : Bool) =>  t = (bA y)) ?_ ?_
   ·refine .bKF hc23 ?_
    exact .lg rfl
   rintro _ y56 rfl
   refine .biHN (fun hk57 => ?_) (fun hk57 => ?_)
   ·exact .lf rfl rfl ⟨_, rfl, rfl⟩
   refine .s (A.ptr 0 0) (.s (A.imm (List.map (cL c8) a0.Sectors) false) ?_)
   refine .bd (g := fun (y : Bool) => (bA y)) (by show C 33 [snap _ (A.imm (List.map (cL c8) a0.Sectors) false), snap [Blk.box (c_S_Disk a0), Blk.box [(iA ((a0.Sectors.length : Int)))], Blk.box [(iA y50), (A.imm (List.map c8 y51) false)]] (A.fn (Fn.func 34) [] [])] = _; simp only [sn0, snM]; exact h33_34 a0.Sectors) fun y58 => ?_
   refine .biHN (fun hk59 => ?_) (fun hk59 => ?_)
   ·exact .lf rfl rfl ⟨_, rfl, rfl⟩
   exact .lf rfl rfl ⟨_, rfl, rfl⟩
  ·intro j60 j61 j62 j63 j64
   refine .un rfl ?_
   refine .cT (by kernel_rfl) ?_
   refine .cr ?_
   refine .ok ?_
   refine .s (bA false) ?_
   refine .cr ?_
   refine .ok ?_
   refine .bg (fun t (y : Bool) =>  t = (bA y)) ?_ ?_
   ·refine .bKF hc23 ?_
    exact .lg rfl
   rintro _ y65 rfl
   refine .biHN (fun hk66 => ?_) (fun hk66 => ?_)
   ·exact .lf rfl rfl ⟨_, rfl, rfl⟩
   refine .s (A.ptr 0 0) (.s (A.imm (List.map (cL c8) a0.Sectors) false) ?_)
   refine .bd (g := fun (y : Bool) => (bA y)) (by show C 33 [snap _ (A.imm (List.map (cL c8) a0.Sectors) false), snap [Blk.box (c_S_Disk a0), Blk.box [(iA ((a0.Sectors.length : Int)))]] (A.fn (Fn.func 34) [] [])] = _; simp only [sn0, snM]; exact h33_34 a0.Sectors) fun y67 => ?_
   refine .biHN (fun hk68 => ?_) (fun hk68 => ?_)
   ·exact .lf rfl rfl ⟨_, rfl, rfl⟩
   exact .lf rfl rfl ⟨_, rfl, rfl⟩
 refine .bb ?_
 refine .cr ?_
 refine .bg (fun t (y : Unit) =>  t = (A.v undef)) ?_ ?_
 ·refine .lp (gIf_knownFT hc23) ?_
  exact .lg rfl
 rintro _ y69 rfl
 refine .bg (fun t (y : Unit) =>  t = (A.v undef)) ?_ ?_
 ·refine .lp (gIf_knownFT hc23) ?_
  exact .lg rfl
 rintro _ y70 rfl
 refine .lp (gIf_knownFT hc23) ?_
 refine .bg (fun t (y : Bool) =>  t = (bA y)) ?_ ?_
 ·refine .bKT hc23 ?_
  exact .lg rfl
 rintro _ y71 rfl
 refine .biHN (fun hk72 => ?_) (fun hk72 => ?_)
 ·exact .lf rfl rfl ⟨_, rfl, rfl⟩
 refine .s (A.ptr 0 0) (.s (A.imm (List.map (cL c8) a0.Sectors) false) ?_)
 refine .bd (g := fun (y : Bool) => (bA y)) (by show C 33 [snap _ (A.imm (List.map (cL c8) a0.Sectors) false), snap [Blk.box (c_S_Disk a0), Blk.box [(iA ((a0.Sectors.length : Int)))]] (A.fn (Fn.func 34) [] [])] = _; simp only [sn0, snM]; exact h33_34 a0.Sectors) fun y73 => ?_
 refine .biHN (fun hk74 => ?_) (fun hk74 => ?_)
 ·exact .lf rfl rfl ⟨_, rfl, rfl⟩
 exact .lf rfl rfl ⟨_, rfl, rfl⟩
def G15 (a0 : S_Disk) : Option Int := F15 fuel0 a0
def Orc15 (C : Nat -> List A -> Option A) : Prop := ∀ (a0 : S_Disk), C 15 [(A.agg (c_S_Disk a0))] = (G15 a0).map fun y => (iA y)
def F35 (n : Nat) (a0 : S_Disk) : Option Bool :=
 (G15 a0).bind fun y1 => (bif (y1 == 0) then (some (!a0.Stopped)) else (some false)).bind fun y3 => some y3
theorem T35 (C : Nat -> List A -> Option A) (n : Nat) (h15 : Orc15 C) (a0 : S_Disk) : J (fun (o : R) y => ∃ v, o.1 = .ret v /\ snapE o.2 v = (bA y)) (evCall1 (cx C) (ec C n 8) (ey C n 8) (n+8) 35 [(A.agg (c_S_Disk a0))] [] 0) some (F35 n a0) some := by
 refine .lp (e35 ..) ?_
 unfold F35
 refine .s ((A.ptr 0 0), [Blk.box (c_S_Disk a0)]) (.s (A.agg (c_S_Disk a0)) ?_)
 refine .bd (g := fun (y : Int) => (iA y)) (by show C 15 [snap _ (A.agg (c_S_Disk a0))] = _; simp only [sn0, snM]; exact h15 a0) fun y1 => ?_
 refine .st (v := (bA (y1 == 0))) (aBin_eql ..) ?_
 refine .bg (fun t (y : Bool) => ∃ j4 j5 j6 : A, t = [(bA y), j4, j5, j6]) ?_ ?_
 ·refine .biH (fun hk2 => ?_) (fun hk2 => ?_)
  ·refine .s (A.ptr 0 3) (.s (bA a0.Stopped) (.s (bA (!a0.Stopped)) ?_))
   exact .lg ⟨_, _, _, rfl⟩
  exact .lg ⟨_, _, _, rfl⟩
 rintro _ y3 ⟨j4, j5, j6, rfl⟩
 iterate 4 refine .uc ?_
 exact .lf rfl rfl ⟨_, rfl, rfl⟩
def G35 (a0 : S_Disk) : Option Bool := F35 fuel0 a0
def Orc35 (C : Nat -> List A -> Option A) : Prop := ∀ (a0 : S_Disk), C 35 [(A.agg (c_S_Disk a0))] = (G35 a0).map fun y => (bA y)
def F36 (n : Nat) (a0 : S_Disk) (a1 : Int) : Option Bool :=
 (bif (decide (0 <= a1)) then (some (decide (a1 < ((a0.Sectors.length : Int))))) else (some false)).bind fun y2 => some y2
theorem T36 (C : Nat -> List A -> Option A) (n : Nat) (a0 : S_Disk) (a1 : Int) : J (fun (o : R) y => ∃ v, o.1 = .ret v /\ snapE o.2 v = (bA y)) (evCall1 (cx C) (ec C n 8) (ey C n 8) (n+8) 36 [(A.agg (c_S_Disk a0)), (iA a1)] [] 0) some (F36 n a0 a1) some := by
 refine .lp (e36 ..) ?_
 unfold F36
 refine .s ((A.ptr 0 0), [Blk.box (c_S_Disk a0)]) ?_
 refine .st (v := (bA (decide (0 <= a1)))) (aBin_geq ..) ?_
 refine .bg (fun t (y : Bool) => ∃ j3 j4 j5 j6 j7 : A, t = [(bA y), j3, j4, j5, j6, j7]) ?_ ?_
 ·refine .biH (fun hk1 => ?_) (fun hk1 => ?_)
  ·refine .s (A.ptr 0 0) (.s (A.imm (List.map (cL c8) a0.Sectors) false) ?_)
   refine .st (v := (iA ((a0.Sectors.length : Int)))) (len_imm (e := 35) (h1 := by kernel_rfl) ..) ?_
   refine .st (v := (bA (decide (a1 < ((a0.Sectors.length : Int)))))) (aBin_lss ..) ?_
   exact .lg ⟨_, _, _, _, _, rfl⟩
  exact .lg ⟨_, _, _, _, _, rfl⟩
 rintro _ y2 ⟨j3, j4, j5, j6, j7, rfl⟩
 iterate 6 refine .uc ?_
 exact .lf rfl rfl ⟨_, rfl, rfl⟩
def G36 (a0 : S_Disk) (a1 : Int) : Option Bool := F36 fuel0 a0 a1
def Orc36 (C : Nat -> List A -> Option A) : Prop := ∀ (a0 : S_Disk) (a1 : Int), C 36 [(A.agg (c_S_Disk a0)), (iA a1)] = (G36 a0 a1).map fun y => (bA y)
def F38 (n : Nat) (a0 : (List S_Write)) : Option (List S_Write) :=
 (appI 32 ([]) a0).bind fun y1 => some y1
theorem T38 (C : Nat -> List A -> Option A) (n : Nat) (a0 : (List S_Write)) : J (fun (o : R) y => ∃ v, o.1 = .ret v /\ snapE o.2 v = (A.imm (List.map c_S_Write y) false)) (evCall1 (cx C) (ec C n 8) (ey C n 8) (n+8) 38 [(A.imm (List.map c_S_Write a0) false)] [] 0) some (F38 n a0) some := by
 refine .lp (e38 ..) ?_
 unfold F38
 refine .st (v := (A.nq (List.map c_S_Write a0))) (nq_imm (e := 54) (by kernel_rfl)) ?_
 refine .nq (f := c_S_Write) (l := a0) (fun hn => by rw [hn]; kernel_rfl) ?_
 refine .s (A.imm [] true) ?_
 refine .bd (g := fun (y : List S_Write) => ((A.sl 0 0 y.length false), [Blk.row false 2 (List.map c_S_Write y)])) (app_imm (e := 54) (es := 2) (by_ := 32) (z := [(iA 0), (A.imm [] true)]) (by kernel_rfl) (by kernel_rfl) (by kernel_rfl) (by kernel_rfl) rfl (by decide) (by decide) (by kernel_rfl) (f := c_S_Write) (fun _ => rfl) ce_S_Write (l := []) (l2 := a0) (els_imm ..)) fun y1 => ?_
 exact .lf rfl rfl ⟨_, rfl, by show snapE [Blk.row false 2 (List.map c_S_Write y1)] (A.sl 0 0 y1.length false) = _; first | (simp only [sn0, snM, snapE, snapGE_row (H := [Blk.row false 2 (List.map c_S_Write y1)]) (b := 0) (es := 2) (wr := false) (l := y1) fl_S_Write rfl]; done) | (simp only [sn0, snS, snapE, snapGE_row (H := [Blk.row false 2 (List.map c_S_Write y1)]) (b := 0) (es := 2) (wr := false) (l := y1) fl_S_Write rfl]; first | done | rfl)⟩
def G38 (a0 : (List S_Write)) : Option (List S_Write) := F38 fuel0 a0
def Orc38 (C : Nat -> List A -> Option A) : Prop := ∀ (a0 : (List S_Write)), C 38 [(A.imm (List.map c_S_Write a0) false)] = (G38 a0).map fun y => (A.imm (List.map c_S_Write y) false)
def hk19_1 (a0 : S_Disk) (y15 : (List S_Write)) : Blk := Blk.box [(A.imm (List.map (cL c8) a0.Sectors) false), (A.sl 3 0 y15.length false), (iA a0.Left), (bA a0.Stopped)]
def F19 (n : Nat) (a0 : S_Disk) (a1 : Int) (a2 : (List UInt8)) : Option (S_Disk × Int) :=
 (G35 a0).bind fun y1 => (bif (!y1) then (some true) else ((G36 a0 a1).bind fun y3 => some (!y3))).bind fun y4 => bif y4 then (some (((S_Disk.mk ([]) ([]) 0 false), 40))) else (bif (decide (128 < ((a2.length : Int)))) then (some (((S_Disk.mk ([]) ([]) 0 false), 1))) else (bif (((a0.Pending.length : Int)) == 4096) then (some (((S_Disk.mk ([]) ([]) 0 false), 2))) else ((mkI 1 128 ((0 : UInt8))).bind fun y12 => (G38 a0.Pending).bind fun y13 => (subI y13 0 ((y13.length : Int))).bind fun y14 => (appI 32 y14 ([(S_Write.mk a1 ((List.take y12.length (List.drop 0 ((copyI y12 0 y12.length a2))))))])).bind fun y15 => some (((S_Disk.mk a0.Sectors y15 a0.Left a0.Stopped), 0)))))
theorem T19 (C : Nat -> List A -> Option A) (n : Nat) (h35 : Orc35 C) (h36 : Orc36 C) (h38 : Orc38 C) (a0 : S_Disk) (a1 : Int) (a2 : (List UInt8)) : J (fun (o : R) y => ∃ v, o.1 = .ret v /\ snapE o.2 v = (A.tup [(A.agg [(A.imm (List.map (cL c8) y.1.Sectors) false), (A.imm (List.map c_S_Write y.1.Pending) false), (iA y.1.Left), (bA y.1.Stopped)]), (iA y.2)])) (evCall1 (cx C) (ec C n 8) (ey C n 8) (n+8) 19 [(A.agg (c_S_Disk a0)), (iA a1), (A.imm (List.map c8 a2) false)] [] 0) some (F19 n a0 a1 a2) some := by
 refine .lp (e19 ..) ?_
 unfold F19
 refine .s ((A.ptr 0 0), [Blk.box (c_S_Disk a0)]) (.s ((A.ptr 1 0), [Blk.box (c_S_Disk a0), bz4]) (.s (A.agg (c_S_Disk a0)) ?_))
 refine .bd (g := fun (y : Bool) => (bA y)) (by show C 35 [snap _ (A.agg (c_S_Disk a0))] = _; simp only [sn0, snM]; exact h35 a0) fun y1 => ?_
 refine .s (bA (!y1)) ?_
 refine .bg (fun t (y : Bool) => ∃ j5 j6 j7 j8 : A, t = [(bA y), j5, j6, j7, j8]) ?_ ?_
 ·refine .biH (fun hk2 => ?_) (fun hk2 => ?_)
  ·exact .lg ⟨_, _, _, _, rfl⟩
  refine .s (A.agg (c_S_Disk a0)) ?_
  refine .bd (g := fun (y : Bool) => (bA y)) (by show C 36 [snap _ (A.agg (c_S_Disk a0)), snap _ (iA a1)] = _; simp only [sn0, snM]; exact h36 a0 a1) fun y3 => ?_
  refine .s (bA (!y3)) ?_
  exact .lg ⟨_, _, _, _, rfl⟩
 rintro _ y4 ⟨j5, j6, j7, j8, rfl⟩
 iterate 5 refine .uc ?_
 refine .biHN (fun hk9 => ?_) (fun hk9 => ?_)
 ·refine .s (A.agg [(A.imm [] true), (A.imm [] true), (iA 0), (bA false)]) (.s [Blk.box (c_S_Disk a0), bz4] (.s (A.agg [(A.imm [] true), (A.imm [] true), (iA 0), (bA false)]) ?_))
  exact .lf rfl rfl ⟨_, rfl, by show snapE _ (A.tup [(A.agg [(A.imm [] true), (A.imm [] true), (iA 0), (bA false)]), (iA 40)]) = _; first | (simp only [sn0, snM, snapE]; done) | (simp only [sn0, snS, snapE]; first | done | rfl)⟩
 refine .st (v := (iA ((a2.length : Int)))) (len_imm (e := 5) (h1 := by kernel_rfl) ..) ?_
 refine .st (v := (bA (decide (128 < ((a2.length : Int)))))) (aBin_gtr ..) ?_
 refine .biHN (fun hk10 => ?_) (fun hk10 => ?_)
 ·refine .s (A.agg [(A.imm [] true), (A.imm [] true), (iA 0), (bA false)]) (.s [Blk.box (c_S_Disk a0), bz4] (.s (A.agg [(A.imm [] true), (A.imm [] true), (iA 0), (bA false)]) ?_))
  exact .lf rfl rfl ⟨_, rfl, by show snapE _ (A.tup [(A.agg [(A.imm [] true), (A.imm [] true), (iA 0), (bA false)]), (iA 1)]) = _; first | (simp only [sn0, snM, snapE]; done) | (simp only [sn0, snS, snapE]; first | done | rfl)⟩
 refine .s (A.ptr 0 1) (.s (A.imm (List.map c_S_Write a0.Pending) false) ?_)
 refine .st (v := (iA ((a0.Pending.length : Int)))) (len_imm (e := 54) (h1 := by kernel_rfl) ..) ?_
 refine .st (v := (bA (((a0.Pending.length : Int)) == 4096))) (aBin_eql ..) ?_
 refine .biHN (fun hk11 => ?_) (fun hk11 => ?_)
 ·refine .s (A.agg [(A.imm [] true), (A.imm [] true), (iA 0), (bA false)]) (.s [Blk.box (c_S_Disk a0), bz4] (.s (A.agg [(A.imm [] true), (A.imm [] true), (iA 0), (bA false)]) ?_))
  exact .lf rfl rfl ⟨_, rfl, by show snapE _ (A.tup [(A.agg [(A.imm [] true), (A.imm [] true), (iA 0), (bA false)]), (iA 2)]) = _; first | (simp only [sn0, snM, snapE]; done) | (simp only [sn0, snS, snapE]; first | done | rfl)⟩
 refine .bd (g := fun (y : List UInt8) => ((A.sl 2 0 y.length false), [Blk.box (c_S_Disk a0), bz4, Blk.row true 1 (List.map c8 y)])) (wrow_make (e := 5) (es := 1) (f := c8) (z := (0 : UInt8)) (z' := [(uA 0)]) (by kernel_rfl) (by kernel_rfl) (by kernel_rfl) (by kernel_rfl) rfl (by decide) (fun _ => rfl)) fun y12 => ?_
 refine .st (v := ((iA (((min a2.length y12.length : Nat) : Int))), [Blk.box (c_S_Disk a0), bz4, Blk.row true 1 (List.map c8 ((copyI y12 0 y12.length a2)))])) (wrow_copy (e := 5) (es := 1) (f := c8) (l := y12) (l2 := a2) (by kernel_rfl) (by kernel_rfl) (by decide) (fun _ => rfl) ce_c8 (by decide) rfl (els_imm ..)) ?_
 refine .st (v := ((A.imm (List.map c8 ((List.take y12.length (List.drop 0 ((copyI y12 0 y12.length a2)))))) false), [Blk.box (c_S_Disk a0), bz4, Blk.dead])) (kill_row (es := 1) (l := (copyI y12 0 y12.length a2)) fl_c8 rfl (by decide)) ?_
 refine .s (A.ptr 0 1) (.s (A.imm (List.map c_S_Write a0.Pending) false) ?_)
 refine .bd (g := fun (y : (List S_Write)) => (A.imm (List.map c_S_Write y) false)) (by show C 38 [snap _ (A.imm (List.map c_S_Write a0.Pending) false)] = _; simp only [sn0, snM]; exact h38 a0.Pending) fun y13 => ?_
 refine .cl ((evCall_in lt_37).trans (e37 C (ec C n 7) (ey C n 7) (n+7) _ _ _)) ?_
 refine .st (v := (iA ((y13.length : Int)))) (len_imm (e := 54) (h1 := by kernel_rfl) ..) ?_
 refine .st (v := (iA ((y13.length : Int)))) (len_imm (e := 54) (h1 := by kernel_rfl) ..) ?_
 refine .bd (g := fun (y : List S_Write) => (A.imm (List.map c_S_Write y) true)) (cut_imm3 (e := 54) (es := 2) (f := c_S_Write) (l := y13) (a := 0) (b := (y13.length : Int)) (by kernel_rfl) (by kernel_rfl) (fun _ => rfl) (.inl ⟨rfl, rfl⟩)) fun y14 => ?_
 refine .cr ?_
 refine .ok ?_
 refine .s (A.agg [(iA a1), (A.imm (List.map c8 ((List.take y12.length (List.drop 0 ((copyI y12 0 y12.length a2)))))) false)]) (.s (A.imm [[(iA a1), (A.imm (List.map c8 ((List.take y12.length (List.drop 0 ((copyI y12 0 y12.length a2)))))) false)]] true) ?_)
 refine .bd (g := fun (y : List S_Write) => ((A.sl 3 0 y.length false), [Blk.box (c_S_Disk a0), bz4, Blk.dead, Blk.row false 2 (List.map c_S_Write y)])) (app_imm (e := 54) (es := 2) (by_ := 32) (z := [(iA 0), (A.imm [] true)]) (by kernel_rfl) (by kernel_rfl) (by kernel_rfl) (by kernel_rfl) rfl (by decide) (by decide) (by kernel_rfl) (f := c_S_Write) (fun _ => rfl) ce_S_Write (l := y14) (l2 := [(S_Write.mk a1 ((List.take y12.length (List.drop 0 ((copyI y12 0 y12.length a2))))))]) (els_imm (f := c_S_Write) ([(S_Write.mk a1 ((List.take y12.length (List.drop 0 ((copyI y12 0 y12.length a2))))))] : List S_Write) _ _)) fun y15 => ?_
 refine .s (A.ptr 0 1) (.s [(hk19_1 a0 y15), bz4, Blk.dead, Blk.row false 2 (List.map c_S_Write y15)] (.s (A.agg [(A.imm (List.map (cL c8) a0.Sectors) false), (A.sl 3 0 y15.length false), (iA a0.Left), (bA a0.Stopped)]) (.s [(hk19_1 a0 y15), (hk19_1 a0 y15), Blk.dead, Blk.row false 2 (List.map c_S_Write y15)] (.s (A.agg [(A.imm (List.map (cL c8) a0.Sectors) false), (A.sl 3 0 y15.length false), (iA a0.Left), (bA a0.Stopped)]) ?_))))
 exact .lf rfl rfl ⟨_, rfl, by show snapE [(hk19_1 a0 y15), (hk19_1 a0 y15), Blk.dead, Blk.row false 2 (List.map c_S_Write y15)] (A.tup [(A.agg [(A.imm (List.map (cL c8) a0.Sectors) false), (A.sl 3 0 y15.length false), (iA a0.Left), (bA a0.Stopped)]), (iA 0)]) = _; first | (simp only [sn0, snM, snapE, snapGE_row (H := [(hk19_1 a0 y15), (hk19_1 a0 y15), Blk.dead, Blk.row false 2 (List.map c_S_Write y15)]) (b := 3) (es := 2) (wr := false) (l := y15) fl_S_Write rfl]; done) | (simp only [sn0, snS, snapE, snapGE_row (H := [(hk19_1 a0 y15), (hk19_1 a0 y15), Blk.dead, Blk.row false 2 (List.map c_S_Write y15)]) (b := 3) (es := 2) (wr := false) (l := y15) fl_S_Write rfl]; first | done | rfl)⟩
def G19 (a0 : S_Disk) (a1 : Int) (a2 : (List UInt8)) : Option (S_Disk × Int) := F19 fuel0 a0 a1 a2
def Orc19 (C : Nat -> List A -> Option A) : Prop := ∀ (a0 : S_Disk) (a1 : Int) (a2 : (List UInt8)), C 19 [(A.agg (c_S_Disk a0)), (iA a1), (A.imm (List.map c8 a2) false)] = (G19 a0 a1 a2).map fun y => (A.tup [(A.agg [(A.imm (List.map (cL c8) y.1.Sectors) false), (A.imm (List.map c_S_Write y.1.Pending) false), (iA y.1.Left), (bA y.1.Stopped)]), (iA y.2)])
def F21_45_0 (n : Nat) (v11 : S_Disk) (v12 : Int) (v13 : (List UInt8)) (v14 : Int) (v15 : (List S_Write)) : Nat -> Int -> Option (((List UInt8) × Int × Int × (List UInt8)) ⊕ (Unit))
 | 0, _ => none
 | m + 1, v10 => bif (decide (0 <= v10)) then ((getI v15 v10).bind fun y17 => bif (y17.At == v12) then (some ((Sum.inl ((y17.Data, 0, y17.At, y17.Data))))) else (F21_45_0 n v11 v12 v13 v14 v15 m (wr .i64 (v10 - 1)))) else (some ((Sum.inr (()))))
theorem T21_45_0 (C : Nat -> List A -> Option A) (n : Nat) (h35 : Orc35 C) (h36 : Orc36 C) (v11 : S_Disk) (v12 : Int) (v13 : (List UInt8)) (v14 : Int) (v15 : (List S_Write)) {ρ γ : Type} {φ : ρ -> γ -> Prop} {kL : R -> Option ρ} {K : (((List UInt8) × Int × Int × (List UInt8)) ⊕ (Unit)) -> Option γ} (kx kg : Nat -> St -> Option R) (kr : St -> Option R) (kp : A -> St -> Option R) (x0 : ∀ (o0 : (List UInt8)) (o1 : Int) (o2 : Int) (o3 : (List UInt8)) (s0 : A) (s1 : A) (s3 : A), J φ (kr (St.mk [(0, s0), (1, s1), (3, s3)] [Blk.box (c_S_Disk v11), Blk.box [(iA v12)], Blk.box [(A.imm (List.map c8 o0) false)], Blk.box [(iA o1)], Blk.box [(A.imm (List.map c_S_Write v15) false)], Blk.rng (RSt.done Jmp.ret), Blk.box [(iA o2), (A.imm (List.map c8 o3) false)]])) kL (K (Sum.inl ((o0, o1, o2, o3)))) some) (x1 : ∀ (s0 : A) (s1 : A) (s3 : A), J φ (kx 0 (St.mk [(0, s0), (1, s1), (3, s3)] [Blk.box (c_S_Disk v11), Blk.box [(iA v12)], Blk.box [(A.imm (List.map c8 v13) true)], Blk.box [(iA v14)], Blk.box [(A.imm (List.map c_S_Write v15) false)], Blk.rng RSt.ready])) kL (K (Sum.inr (()))) some) :
  ∀ (m : Nat) (v10 : Int), J φ (loopR (cx C) (evCallY (cx C) (n+7) (yext 65 (evCall (cx C) (n+8)) 5 (roundR (cx C) (ec C n 8) (ey C n 8) (n+8) 21 0 0 5 [(3, (A.ptr 1 0)), (4, (A.ptr 2 0)), (5, (A.ptr 3 0))]))) (evCallY (cx C) (n+7)) (n+7) 45 0 0 6 kx kg kr kp m (St.mk [(0, (A.yld 5)), (1, (A.ptr 4 0)), (3, (iA v10))] [Blk.box (c_S_Disk v11), Blk.box [(iA v12)], Blk.box [(A.imm (List.map c8 v13) true)], Blk.box [(iA v14)], Blk.box [(A.imm (List.map c_S_Write v15) false)], Blk.rng RSt.ready])) kL (F21_45_0 n v11 v12 v13 v14 v15 m v10) K := by
 intro m
 induction m with
 | zero => intros; exact .nn
 | succ m ih =>
  intro v10
  refine .lp (e45_0 ..) ?_
  unfold F21_45_0
  refine .st (v := (bA (decide (0 <= v10)))) (aBin_geq ..) ?_
  refine .biHN (fun hk16 => ?_) (fun hk16 => ?_)
  ·refine .s (A.imm (List.map c_S_Write v15) false) ?_
   refine .bd (g := fun (y : S_Write) => A.ip (c_S_Write y)) (idx_imm (e := 54) (es := 2) (h1 := by kernel_rfl) (h2 := by kernel_rfl) (h3 := fun _ => rfl) ..) fun y17 => ?_
   refine .s (A.agg [(iA y17.At), (A.imm (List.map c8 y17.Data) false)]) ?_
   refine .dY rfl ?_
   refine .cl (yq.trans (yext_at.trans (e21_r0 C (ec C n 8) (ey C n 8) (n+8) _ _ _ _ _ _ _ _ _))) ?_
   refine .cT (by kernel_rfl) ?_
   refine .lp (rdy_at rfl) ?_
   refine .s ((A.ptr 6 0), [Blk.box (c_S_Disk v11), Blk.box [(iA v12)], Blk.box [(A.imm (List.map c8 v13) true)], Blk.box [(iA v14)], Blk.box [(A.imm (List.map c_S_Write v15) false)], Blk.rng RSt.ready, Blk.box [(iA 0), (A.imm [] true)]]) (.s [Blk.box (c_S_Disk v11), Blk.box [(iA v12)], Blk.box [(A.imm (List.map c8 v13) true)], Blk.box [(iA v14)], Blk.box [(A.imm (List.map c_S_Write v15) false)], Blk.rng RSt.ready, Blk.box [(iA y17.At), (A.imm (List.map c8 y17.Data) false)]] ?_)
   refine .lp (rdy_at rfl) ?_
   refine .s (A.ptr 6 0) (.s (iA y17.At) (.s (iA v12) ?_))
   refine .st (v := (bA (y17.At == v12))) (aBin_eql ..) ?_
   refine .biHN (fun hk18 => ?_) (fun hk18 => ?_)
   ·refine .s (A.ptr 6 1) (.s (A.imm (List.map c8 y17.Data) false) (.s [Blk.box (c_S_Disk v11), Blk.box [(iA v12)], Blk.box [(A.imm (List.map c8 y17.Data) false)], Blk.box [(iA v14)], Blk.box [(A.imm (List.map c_S_Write v15) false)], Blk.rng RSt.busy, Blk.box [(iA y17.At), (A.imm (List.map c8 y17.Data) false)]] (.s [Blk.box (c_S_Disk v11), Blk.box [(iA v12)], Blk.box [(A.imm (List.map c8 y17.Data) false)], Blk.box [(iA 0)], Blk.box [(A.imm (List.map c_S_Write v15) false)], Blk.rng RSt.busy, Blk.box [(iA y17.At), (A.imm (List.map c8 y17.Data) false)]] ?_)))
    refine .lp (bsy_at rfl) ?_
    refine .cr ?_
    refine .ok ?_
    refine .s (bA true) ?_
    refine .bTN ?_
    exact .ex (x0 _ _ _ _ _ _ _)
   refine .lp (bsy_at rfl) ?_
   refine .cr ?_
   refine .ok ?_
   refine .s (bA false) ?_
   refine .bFN ?_
   refine .st (v := (iA (wr .i64 (v10 - 1)))) (aBin_sub ..) ?_
   refine .st (v := [Blk.box (c_S_Disk v11), Blk.box [(iA v12)], Blk.box [(A.imm (List.map c8 v13) true)], Blk.box [(iA v14)], Blk.box [(A.imm (List.map c_S_Write v15) false)], Blk.rng RSt.ready]) ((by kernel_rfl : _ = (bif ((((underss 6 (List.map (cL c8) v11.Sectors)) && ((underss 6 (List.map c_S_Write v11.Pending)) && true))) && ((((underss 6 (List.map c8 v13)) && true)) && ((((underss 6 (List.map c_S_Write v15)) && true)) && true))) then some [Blk.box (c_S_Disk v11), Blk.box [(iA v12)], Blk.box [(A.imm (List.map c8 v13) true)], Blk.box [(iA v14)], Blk.box [(A.imm (List.map c_S_Write v15) false)], Blk.rng RSt.ready] else none)).trans (by simp only [un0, unS])) ?_
   refine .cT (by kernel_rfl) ?_
   exact ih _
  exact .ex (x1 _ _ _)
def F21 (n : Nat) (a0 : S_Disk) (a1 : Int) : Option ((List UInt8) × Int) :=
 (G35 a0).bind fun y1 => (bif (!y1) then (some true) else ((G36 a0 a1).bind fun y3 => some (!y3))).bind fun y4 => bif y4 then (some (([], 40))) else ((F21_45_0 n a0 a1 ([]) 0 a0.Pending (n+7) (wr .i64 (((a0.Pending.length : Int)) - 1))).bind fun o19 => match o19 with | (Sum.inl ((y20, y21, y22, y23))) => some ((y20, y21)) | (Sum.inr _) => (getI a0.Sectors a1).bind fun y30 => some ((y30, 0)))
theorem T21 (C : Nat -> List A -> Option A) (n : Nat) (h35 : Orc35 C) (h36 : Orc36 C) (a0 : S_Disk) (a1 : Int) : J (fun (o : R) y => ∃ v, o.1 = .ret v /\ snapE o.2 v = (A.tup [(A.imm (List.map c8 y.1) false), (iA y.2)])) (evCall1 (cx C) (ec C n 8) (ey C n 8) (n+8) 21 [(A.agg (c_S_Disk a0)), (iA a1)] [] 0) some (F21 n a0 a1) some := by
 refine .lp (e21 ..) ?_
 unfold F21
 refine .s ((A.ptr 0 0), [Blk.box (c_S_Disk a0)]) (.s ((A.ptr 1 0), [Blk.box (c_S_Disk a0), Blk.box [(iA a1)]]) (.s ((A.ptr 2 0), [Blk.box (c_S_Disk a0), Blk.box [(iA a1)], Blk.box [(A.imm [] true)]]) (.s ((A.ptr 3 0), [Blk.box (c_S_Disk a0), Blk.box [(iA a1)], Blk.box [(A.imm [] true)], Blk.box [(iA 0)]]) (.s (A.agg (c_S_Disk a0)) ?_))))
 refine .bd (g := fun (y : Bool) => (bA y)) (by show C 35 [snap _ (A.agg (c_S_Disk a0))] = _; simp only [sn0, snM]; exact h35 a0) fun y1 => ?_
 refine .s (bA (!y1)) ?_
 refine .bg (fun t (y : Bool) => ∃ j5 j6 j7 j8 : A, t = [(bA y), j5, j6, j7, j8]) ?_ ?_
 ·refine .biH (fun hk2 => ?_) (fun hk2 => ?_)
  ·exact .lg ⟨_, _, _, _, rfl⟩
  refine .s (A.agg (c_S_Disk a0)) (.s (iA a1) ?_)
  refine .bd (g := fun (y : Bool) => (bA y)) (by show C 36 [snap _ (A.agg (c_S_Disk a0)), snap _ (iA a1)] = _; simp only [sn0, snM]; exact h36 a0 a1) fun y3 => ?_
  refine .s (bA (!y3)) ?_
  exact .lg ⟨_, _, _, _, rfl⟩
 rintro _ y4 ⟨j5, j6, j7, j8, rfl⟩
 iterate 5 refine .uc ?_
 refine .biHN (fun hk9 => ?_) (fun hk9 => ?_)
 ·refine .s [Blk.box (c_S_Disk a0), Blk.box [(iA a1)], Blk.box [(A.imm [] true)], Blk.box [(iA 0)]] (.s [Blk.box (c_S_Disk a0), Blk.box [(iA a1)], Blk.box [(A.imm [] true)], Blk.box [(iA 40)]] (.s (A.imm [] true) (.s (iA 40) ?_)))
  exact .lf rfl rfl ⟨_, rfl, by show snapE _ (A.tup [(A.imm [] true), (iA 40)]) = _; first | (simp only [sn0, snM, snapE]; done) | (simp only [sn0, snS, snapE]; first | done | rfl)⟩
 refine .s (A.ptr 0 1) (.s (A.imm (List.map c_S_Write a0.Pending) false) ?_)
 refine .cl ((evCall_in lt_39).trans (e39 C (ec C n 7) (ey C n 7) (n+7) _ _ _)) ?_
 refine .s ((A.ptr 4 0), [Blk.box (c_S_Disk a0), Blk.box [(iA a1)], Blk.box [(A.imm [] true)], Blk.box [(iA 0)], Blk.box [(A.imm (List.map c_S_Write a0.Pending) false)]]) ?_
 refine .cr ?_
 refine .ok ?_
 refine .s (45, [(A.ptr 4 0)]) ?_
 refine .cT (by kernel_rfl) ?_
 refine .cl ((evCallY_in lt_45).trans (e45 C (evCallY (cx C) (n+7) (yext 65 (evCall (cx C) (n+8)) 5 (roundR (cx C) (ec C n 8) (ey C n 8) (n+8) 21 0 0 5 [(3, (A.ptr 1 0)), (4, (A.ptr 2 0)), (5, (A.ptr 3 0))]))) (evCallY (cx C) (n+7)) (n+7) _ _ _ _)) ?_
 refine .s (A.imm (List.map c_S_Write a0.Pending) false) ?_
 refine .st (v := (iA ((a0.Pending.length : Int)))) (len_imm (e := 54) (h1 := by kernel_rfl) ..) ?_
 refine .st (v := (iA (wr .i64 (((a0.Pending.length : Int)) - 1)))) (aBin_sub ..) ?_
 refine .as (T21_45_0 C n h35 h36 a0 a1 ([]) 0 a0.Pending _ _ _ _ ?_ ?_ _ (wr .i64 (((a0.Pending.length : Int)) - 1)))
 ·intro y20 y21 y22 y23 j24 j25 j26
  refine .un rfl ?_
  refine .cr ?_
  refine .ok ?_
  refine .lp (rs_r rfl) ?_
  refine .s (A.imm (List.map c8 y20) false) (.s (iA y21) ?_)
  exact .lf rfl rfl ⟨_, rfl, by show snapE _ (A.tup [(A.imm (List.map c8 y20) false), (iA y21)]) = _; first | (simp only [sn0, snM, snapE]; done) | (simp only [sn0, snS, snapE]; first | done | rfl)⟩
 ·intro j27 j28 j29
  refine .un rfl ?_
  refine .cT (by kernel_rfl) ?_
  refine .cr ?_
  refine .ok ?_
  refine .lp (rs_n rfl) ?_
  refine .s (A.ptr 0 0) (.s (A.imm (List.map (cL c8) a0.Sectors) false) (.s (iA a1) ?_))
  refine .bd (g := fun (y : (List UInt8)) => A.ip ((cL c8) y)) (idx_imm (e := 35) (es := 1) (h1 := by kernel_rfl) (h2 := by kernel_rfl) (h3 := fun _ => rfl) ..) fun y30 => ?_
  refine .s (A.imm (List.map c8 y30) false) (.s [Blk.box (c_S_Disk a0), Blk.box [(iA a1)], Blk.box [(A.imm (List.map c8 y30) false)], Blk.box [(iA 0)], Blk.box [(A.imm (List.map c_S_Write a0.Pending) false)], Blk.dead] (.s [Blk.box (c_S_Disk a0), Blk.box [(iA a1)], Blk.box [(A.imm (List.map c8 y30) false)], Blk.box [(iA 0)], Blk.box [(A.imm (List.map c_S_Write a0.Pending) false)], Blk.dead] (.s (A.imm (List.map c8 y30) false) (.s (iA 0) ?_))))
  exact .lf rfl rfl ⟨_, rfl, by show snapE _ (A.tup [(A.imm (List.map c8 y30) false), (iA 0)]) = _; first | (simp only [sn0, snM, snapE]; done) | (simp only [sn0, snS, snapE]; first | done | rfl)⟩
def G21 (a0 : S_Disk) (a1 : Int) : Option ((List UInt8) × Int) := F21 fuel0 a0 a1
def Orc21 (C : Nat -> List A -> Option A) : Prop := ∀ (a0 : S_Disk) (a1 : Int), C 21 [(A.agg (c_S_Disk a0)), (iA a1)] = (G21 a0 a1).map fun y => (A.tup [(A.imm (List.map c8 y.1) false), (iA y.2)])
def F25 (n : Nat) (a0 : S_Disk) (a1 : Int) : Option (S_Disk × Int) :=
 (G35 a0).bind fun y1 => bif (!y1) then (some (((S_Disk.mk ([]) ([]) 0 false), 40))) else ((bif (decide (a1 < 0)) then (some true) else (some (decide (65536 < a1)))).bind fun y4 => bif y4 then (some (((S_Disk.mk ([]) ([]) 0 false), 1))) else (some (((S_Disk.mk a0.Sectors a0.Pending a1 a0.Stopped), 0))))
theorem T25 (C : Nat -> List A -> Option A) (n : Nat) (h35 : Orc35 C) (a0 : S_Disk) (a1 : Int) : J (fun (o : R) y => ∃ v, o.1 = .ret v /\ snapE o.2 v = (A.tup [(A.agg [(A.imm (List.map (cL c8) y.1.Sectors) false), (A.imm (List.map c_S_Write y.1.Pending) false), (iA y.1.Left), (bA y.1.Stopped)]), (iA y.2)])) (evCall1 (cx C) (ec C n 8) (ey C n 8) (n+8) 25 [(A.agg (c_S_Disk a0)), (iA a1)] [] 0) some (F25 n a0 a1) some := by
 refine .lp (e25 ..) ?_
 unfold F25
 refine .s ((A.ptr 0 0), [Blk.box (c_S_Disk a0)]) (.s ((A.ptr 1 0), [Blk.box (c_S_Disk a0), bz4]) (.s (A.agg (c_S_Disk a0)) ?_))
 refine .bd (g := fun (y : Bool) => (bA y)) (by show C 35 [snap _ (A.agg (c_S_Disk a0))] = _; simp only [sn0, snM]; exact h35 a0) fun y1 => ?_
 refine .s (bA (!y1)) ?_
 refine .biHN (fun hk2 => ?_) (fun hk2 => ?_)
 ·refine .s (A.agg [(A.imm [] true), (A.imm [] true), (iA 0), (bA false)]) (.s [Blk.box (c_S_Disk a0), bz4] (.s (A.agg [(A.imm [] true), (A.imm [] true), (iA 0), (bA false)]) ?_))
  exact .lf rfl rfl ⟨_, rfl, by show snapE _ (A.tup [(A.agg [(A.imm [] true), (A.imm [] true), (iA 0), (bA false)]), (iA 40)]) = _; first | (simp only [sn0, snM, snapE]; done) | (simp only [sn0, snS, snapE]; first | done | rfl)⟩
 refine .st (v := (bA (decide (a1 < 0)))) (aBin_lss ..) ?_
 refine .bg (fun t (y : Bool) => ∃ j5 j6 : A, t = [(bA y), j5, j6]) ?_ ?_
 ·refine .biH (fun hk3 => ?_) (fun hk3 => ?_)
  ·exact .lg ⟨_, _, rfl⟩
  refine .st (v := (bA (decide (65536 < a1)))) (aBin_gtr ..) ?_
  exact .lg ⟨_, _, rfl⟩
 rintro _ y4 ⟨j5, j6, rfl⟩
 iterate 3 refine .uc ?_
 refine .biHN (fun hk7 => ?_) (fun hk7 => ?_)
 ·refine .s (A.agg [(A.imm [] true), (A.imm [] true), (iA 0), (bA false)]) (.s [Blk.box (c_S_Disk a0), bz4] (.s (A.agg [(A.imm [] true), (A.imm [] true), (iA 0), (bA false)]) ?_))
  exact .lf rfl rfl ⟨_, rfl, by show snapE _ (A.tup [(A.agg [(A.imm [] true), (A.imm [] true), (iA 0), (bA false)]), (iA 1)]) = _; first | (simp only [sn0, snM, snapE]; done) | (simp only [sn0, snS, snapE]; first | done | rfl)⟩
 refine .s (A.ptr 0 2) (.s [Blk.box [(A.imm (List.map (cL c8) a0.Sectors) false), (A.imm (List.map c_S_Write a0.Pending) false), (iA a1), (bA a0.Stopped)], bz4] (.s (A.agg [(A.imm (List.map (cL c8) a0.Sectors) false), (A.imm (List.map c_S_Write a0.Pending) false), (iA a1), (bA a0.Stopped)]) (.s [Blk.box [(A.imm (List.map (cL c8) a0.Sectors) false), (A.imm (List.map c_S_Write a0.Pending) false), (iA a1), (bA a0.Stopped)], Blk.box [(A.imm (List.map (cL c8) a0.Sectors) false), (A.imm (List.map c_S_Write a0.Pending) false), (iA a1), (bA a0.Stopped)]] (.s (A.agg [(A.imm (List.map (cL c8) a0.Sectors) false), (A.imm (List.map c_S_Write a0.Pending) false), (iA a1), (bA a0.Stopped)]) ?_))))
 exact .lf rfl rfl ⟨_, rfl, by show snapE _ (A.tup [(A.agg [(A.imm (List.map (cL c8) a0.Sectors) false), (A.imm (List.map c_S_Write a0.Pending) false), (iA a1), (bA a0.Stopped)]), (iA 0)]) = _; first | (simp only [sn0, snM, snapE]; done) | (simp only [sn0, snS, snapE]; first | done | rfl)⟩
def G25 (a0 : S_Disk) (a1 : Int) : Option (S_Disk × Int) := F25 fuel0 a0 a1
def Orc25 (C : Nat -> List A -> Option A) : Prop := ∀ (a0 : S_Disk) (a1 : Int), C 25 [(A.agg (c_S_Disk a0)), (iA a1)] = (G25 a0 a1).map fun y => (A.tup [(A.agg [(A.imm (List.map (cL c8) y.1.Sectors) false), (A.imm (List.map c_S_Write y.1.Pending) false), (iA y.1.Left), (bA y.1.Stopped)]), (iA y.2)])
def F27 (n : Nat) (a0 : Int) : Option (List UInt8) :=
 (mkI 1 128 ((0 : UInt8))).bind fun y1 => (idxN y1.length 0).bind fun k2 => bif (decide (0 <= a0) && decide (a0 < 256)) then ((modI y1 k2 (fun (y : UInt8) => (UInt8.ofNat (Int.toNat a0)))).bind fun y3 => (idxN y1.length 64).bind fun k4 => bif (decide (0 <= a0) && decide (a0 < 256)) then ((modI y3 k4 (fun (y : UInt8) => (UInt8.ofNat (Int.toNat a0)))).bind fun y5 => some ((List.take y1.length (List.drop 0 y5)))) else none) else none
theorem T27 (C : Nat -> List A -> Option A) (n : Nat) (a0 : Int) : J (fun (o : R) y => ∃ v, o.1 = .ret v /\ snapE o.2 v = (A.imm (List.map c8 y) false)) (evCall1 (cx C) (ec C n 8) (ey C n 8) (n+8) 27 [(uA a0)] [] 0) some (F27 n a0) some := by
 refine .lp (e27 ..) ?_
 unfold F27
 refine .bd (g := fun (y : List UInt8) => ((A.sl 0 0 y.length false), [Blk.row true 1 (List.map c8 y)])) (wrow_make (e := 5) (es := 1) (f := c8) (z := (0 : UInt8)) (z' := [(uA 0)]) (by kernel_rfl) (by kernel_rfl) (by kernel_rfl) (by kernel_rfl) rfl (by decide) (fun _ => rfl)) fun y1 => ?_
 refine .bd (g := fun (y : Nat) => A.ep 0 y 0) (wrow_idx0 (e := 5) (es := 1) (l := y1) (by kernel_rfl) (by kernel_rfl) rfl) fun k2 => ?_
 refine .gd fun hg => ?_
 refine .bd (g := fun (y : List UInt8) => [Blk.row true 1 (List.map c8 y)]) ((congrArg (fun z => aStore _ _ _ (A.v (.int .u8 z)) _ _) (u8_back hg).symm).trans ((wrow_store (es := 1) (n := 1) (l := y1) (xs := [(uA (((UInt8.ofNat (Int.toNat a0)).toNat : Int)))]) (u := fun (y : UInt8) => (UInt8.ofNat (Int.toNat a0))) (by kernel_rfl) (by kernel_rfl) (by decide) rfl (fun _ => rfl) (by decide) (by decide) rfl (fun _ => rfl)))) fun y3 => ?_
 refine .bd (g := fun (y : Nat) => A.ep 0 y 0) (wrow_idx0 (e := 5) (es := 1) (l := y3) (by kernel_rfl) (by kernel_rfl) rfl) fun k4 => ?_
 refine .gd fun hg => ?_
 refine .bd (g := fun (y : List UInt8) => [Blk.row true 1 (List.map c8 y)]) ((congrArg (fun z => aStore _ _ _ (A.v (.int .u8 z)) _ _) (u8_back hg).symm).trans ((wrow_store (es := 1) (n := 1) (l := y3) (xs := [(uA (((UInt8.ofNat (Int.toNat a0)).toNat : Int)))]) (u := fun (y : UInt8) => (UInt8.ofNat (Int.toNat a0))) (by kernel_rfl) (by kernel_rfl) (by decide) rfl (fun _ => rfl) (by decide) (by decide) rfl (fun _ => rfl)))) fun y5 => ?_
 exact .lf rfl rfl ⟨_, rfl, by show snapE [Blk.row true 1 (List.map c8 y5)] (A.sl 0 0 y1.length false) = _; first | (simp only [sn0, snM, snapE, snapGE_sub (H := [Blk.row true 1 (List.map c8 y5)]) (b := 0) (es := 1) (wr := true) (l := y5) fl_c8 rfl]; done) | (simp only [sn0, snS, snapE, snapGE_sub (H := [Blk.row true 1 (List.map c8 y5)]) (b := 0) (es := 1) (wr := true) (l := y5) fl_c8 rfl]; first | done | rfl)⟩
def G27 (a0 : Int) : Option (List UInt8) := F27 fuel0 a0
def Orc27 (C : Nat -> List A -> Option A) : Prop := ∀ (a0 : Int), C 27 [(uA a0)] = (G27 a0).map fun y => (A.imm (List.map c8 y) false)
def F40_40_0 (n : Nat) (v2 : (List (List UInt8))) (v3 : Nat) (v4 : (List S_Write)) (v5 : Int) : Nat -> Int -> (List (List UInt8)) -> Option (Nat × (List (List UInt8)))
 | 0, _, _ => none
 | m + 1, v6, v7 => bif (decide (v6 < v5)) then ((getI v4 v6).bind fun y9 => (idxN v3 y9.At).bind fun k10 => (modI v7 k10 (fun (y : (List UInt8)) => y9.Data)).bind fun y11 => F40_40_0 n v2 v3 v4 v5 m (wr .i64 (v6 + 1)) y11) else (some ((v3, v7)))
theorem T40_40_0 (C : Nat -> List A -> Option A) (n : Nat) (v2 : (List (List UInt8))) (v3 : Nat) (v4 : (List S_Write)) (v5 : Int) {ρ γ : Type} {φ : ρ -> γ -> Prop} {kL : R -> Option ρ} {K : (Nat × (List (List UInt8))) -> Option γ} (kx kg : Nat -> St -> Option R) (kr : St -> Option R) (kp : A -> St -> Option R) (x0 : ∀ (o0 : Nat) (o1 : (List (List UInt8))) (s4 : A) (s10 : A) (s11 : A) (s12 : A), J φ (kx 0 (St.mk [(4, s4), (5, (A.sl 0 0 o0 false)), (10, s10), (11, s11), (12, s12)] [Blk.row true 1 (List.map (cL c8) o1)])) kL (K (o0, o1)) some) :
  ∀ (m : Nat) (v6 : Int) (v7 : (List (List UInt8))), J φ (loopR (cx C) (ec C n 8) (ey C n 8) (n+8) 40 0 0 1 kx kg kr kp m (St.mk [(4, (A.imm (List.map (cL c8) v2) true)), (5, (A.sl 0 0 v3 false)), (10, (A.imm (List.map c_S_Write v4) false)), (11, (iA v5)), (12, (iA v6))] [Blk.row true 1 (List.map (cL c8) v7)])) kL (F40_40_0 n v2 v3 v4 v5 m v6 v7) K := by
 intro m
 induction m with
 | zero => intros; exact .nn
 | succ m ih =>
  intro v6 v7
  refine .lp (e40_0 ..) ?_
  unfold F40_40_0
  refine .st (v := (bA (decide (v6 < v5)))) (aBin_lss ..) ?_
  refine .biHN (fun hk8 => ?_) (fun hk8 => ?_)
  ·refine .bd (g := fun (y : S_Write) => A.ip (c_S_Write y)) (idx_imm (e := 54) (es := 2) (h1 := by kernel_rfl) (h2 := by kernel_rfl) (h3 := fun _ => rfl) ..) fun y9 => ?_
   refine .s (A.agg [(iA y9.At), (A.imm (List.map c8 y9.Data) false)]) (.s ((A.ptr 1 0), [Blk.row true 1 (List.map (cL c8) v7), Blk.box [(iA 0), (A.imm [] true)]]) (.s [Blk.row true 1 (List.map (cL c8) v7), Blk.box [(iA y9.At), (A.imm (List.map c8 y9.Data) false)]] (.s (A.ptr 1 0) (.s (iA y9.At) (.s (A.ptr 1 1) (.s (A.imm (List.map c8 y9.Data) false) ?_))))))
   refine .bd (g := fun (y : Nat) => A.ep 0 y 0) (wrow_idx0 (e := 35) (es := 1) (l := v7) (by kernel_rfl) (by kernel_rfl) rfl) fun k10 => ?_
   refine .bd (g := fun (y : List (List UInt8)) => [Blk.row true 1 (List.map (cL c8) y), Blk.box [(iA y9.At), (A.imm (List.map c8 y9.Data) false)]]) ((wrow_store (es := 1) (n := 1) (l := v7) (xs := [(A.imm (List.map c8 y9.Data) false)]) (u := fun (y : (List UInt8)) => y9.Data) (by kernel_rfl) (by kernel_rfl) (by decide) rfl (fun _ => rfl) (by decide) (by decide) rfl (fun _ => rfl))) fun y11 => ?_
   refine .st (v := (iA (wr .i64 (v6 + 1)))) (aBin_add ..) ?_
   refine .st (v := [Blk.row true 1 (List.map (cL c8) y11)]) ((by kernel_rfl : _ = (bif ((underss 1 (List.map (cL c8) y11)) && true) then some [Blk.row true 1 (List.map (cL c8) y11)] else none)).trans (by simp only [un0, unS])) ?_
   refine .cT ((by kernel_rfl : _ = (bif underss 1 (List.map (cL c8) v2) then (bif underss 1 (List.map c_S_Write v4) then true else false) else false)).trans (by simp only [un0, unS])) ?_
   exact ih _ _
  exact .ex (x0 _ _ _ _ _ _)
def F40 (n : Nat) (a0 : (List (List UInt8))) (a1 : (List S_Write)) : Option (List (List UInt8)) :=
 (appI 24 ([]) a0).bind fun y1 => (F40_40_0 n ([]) y1.length a1 ((a1.length : Int)) (n+8) 0 y1).bind fun o12 => match o12 with | (y13, y14) => some ((List.take y13 (List.drop 0 y14)))
theorem T40 (C : Nat -> List A -> Option A) (n : Nat) (a0 : (List (List UInt8))) (a1 : (List S_Write)) : J (fun (o : R) y => ∃ v, o.1 = .ret v /\ snapE o.2 v = (A.imm (List.map (cL c8) y) false)) (evCall1 (cx C) (ec C n 8) (ey C n 8) (n+8) 40 [(A.imm (List.map (cL c8) a0) false), (A.imm (List.map c_S_Write a1) false)] [] 0) some (F40 n a0 a1) some := by
 refine .lp (e40 ..) ?_
 unfold F40
 refine .cl ((evCall_in lt_46).trans (e46 C (ec C n 7) (ey C n 7) (n+7) _ _ _)) ?_
 refine .st (v := (A.nq (List.map (cL c8) a0))) (nq_imm (e := 35) (by kernel_rfl)) ?_
 refine .nq (f := (cL c8)) (l := a0) (fun hn => by rw [hn]; kernel_rfl) ?_
 refine .s (A.imm [] true) ?_
 refine .bd (g := fun (y : List (List UInt8)) => ((A.sl 0 0 y.length false), [Blk.row true 1 (List.map (cL c8) y)])) (wrow_app (e := 35) (es := 1) (by_ := 24) (z := [(A.imm [] true)]) (by kernel_rfl) (by kernel_rfl) (by kernel_rfl) (by kernel_rfl) rfl (by decide) (by decide) (by kernel_rfl) (f := (cL c8)) (fun _ => rfl) ce_cL (l2 := a0) (els_imm ..)) fun y1 => ?_
 refine .cr ?_
 refine .ok ?_
 refine .st (v := (iA ((a1.length : Int)))) (len_imm (e := 54) (h1 := by kernel_rfl) ..) ?_
 refine .as (T40_40_0 C n  ([]) y1.length a1 ((a1.length : Int)) _ _ _ _ ?_ _ 0 y1)
 ·intro y13 y14 j15 j16 j17 j18
  refine .un rfl ?_
  refine .cT (by kernel_rfl) ?_
  exact .lf rfl rfl ⟨_, rfl, by show snapE [Blk.row true 1 (List.map (cL c8) y14)] (A.sl 0 0 y13 false) = _; first | (simp only [sn0, snM, snapE, snapGE_sub (H := [Blk.row true 1 (List.map (cL c8) y14)]) (b := 0) (es := 1) (wr := true) (l := y14) (fl_cL fl_c8) rfl]; done) | (simp only [sn0, snS, snapE, snapGE_sub (H := [Blk.row true 1 (List.map (cL c8) y14)]) (b := 0) (es := 1) (wr := true) (l := y14) (fl_cL fl_c8) rfl]; first | done | rfl)⟩
def G40 (a0 : (List (List UInt8))) (a1 : (List S_Write)) : Option (List (List UInt8)) := F40 fuel0 a0 a1
def Orc40 (C : Nat -> List A -> Option A) : Prop := ∀ (a0 : (List (List UInt8))) (a1 : (List S_Write)), C 40 [(A.imm (List.map (cL c8) a0) false), (A.imm (List.map c_S_Write a1) false)] = (G40 a0 a1).map fun y => (A.imm (List.map (cL c8) y) false)
def hk23_1 (v18 : (List (List UInt8))) (v19 : (List S_Write)) (v20 : Int) (v21 : Bool) : Blk := Blk.box [(A.imm (List.map (cL c8) v18) true), (A.imm (List.map c_S_Write v19) true), (iA v20), (bA v21)]
def F23_40_0 (n : Nat) (v12 : (List (List UInt8))) (v13 : Nat) (v14 : (List S_Write)) (v15 : Int) (v17 : S_Disk) (v18 : (List (List UInt8))) (v19 : (List S_Write)) (v20 : Int) (v21 : Bool) : Nat -> Int -> (List (List UInt8)) -> Option (Nat × (List (List UInt8)))
 | 0, _, _ => none
 | m + 1, v16, v22 => bif (decide (v16 < v15)) then ((getI v14 v16).bind fun y24 => (idxN v13 y24.At).bind fun k25 => (modI v22 k25 (fun (y : (List UInt8)) => y24.Data)).bind fun y26 => F23_40_0 n v12 v13 v14 v15 v17 v18 v19 v20 v21 m (wr .i64 (v16 + 1)) y26) else (some ((v13, v22)))
theorem T23_40_0 (C : Nat -> List A -> Option A) (n : Nat) (h35 : Orc35 C) (h40 : Orc40 C) (v12 : (List (List UInt8))) (v13 : Nat) (v14 : (List S_Write)) (v15 : Int) (v17 : S_Disk) (v18 : (List (List UInt8))) (v19 : (List S_Write)) (v20 : Int) (v21 : Bool) {ρ γ : Type} {φ : ρ -> γ -> Prop} {kL : R -> Option ρ} {K : (Nat × (List (List UInt8))) -> Option γ} (kx kg : Nat -> St -> Option R) (kr : St -> Option R) (kp : A -> St -> Option R) (x0 : ∀ (o0 : Nat) (o1 : (List (List UInt8))) (s4 : A) (s10 : A) (s11 : A) (s12 : A), J φ (kx 0 (St.mk [(4, s4), (5, (A.sl 2 0 o0 false)), (10, s10), (11, s11), (12, s12)] [Blk.box (c_S_Disk v17), (hk23_1 v18 v19 v20 v21), Blk.row true 1 (List.map (cL c8) o1)])) kL (K (o0, o1)) some) :
  ∀ (m : Nat) (v16 : Int) (v22 : (List (List UInt8))), J φ (loopR (cx C) (ec C n 7) (ey C n 7) (n+7) 40 0 0 3 kx kg kr kp m (St.mk [(4, (A.imm (List.map (cL c8) v12) true)), (5, (A.sl 2 0 v13 false)), (10, (A.imm (List.map c_S_Write v14) true)), (11, (iA v15)), (12, (iA v16))] [Blk.box (c_S_Disk v17), (hk23_1 v18 v19 v20 v21), Blk.row true 1 (List.map (cL c8) v22)])) kL (F23_40_0 n v12 v13 v14 v15 v17 v18 v19 v20 v21 m v16 v22) K := by
 intro m
 induction m with
 | zero => intros; exact .nn
 | succ m ih =>
  intro v16 v22
  refine .lp (e40_0 ..) ?_
  unfold F23_40_0
  refine .st (v := (bA (decide (v16 < v15)))) (aBin_lss ..) ?_
  refine .biHN (fun hk23 => ?_) (fun hk23 => ?_)
  ·refine .bd (g := fun (y : S_Write) => A.ip (c_S_Write y)) (idx_imm (e := 54) (es := 2) (h1 := by kernel_rfl) (h2 := by kernel_rfl) (h3 := fun _ => rfl) ..) fun y24 => ?_
   refine .s (A.agg [(iA y24.At), (A.imm (List.map c8 y24.Data) false)]) (.s ((A.ptr 3 0), [Blk.box (c_S_Disk v17), (hk23_1 v18 v19 v20 v21), Blk.row true 1 (List.map (cL c8) v22), Blk.box [(iA 0), (A.imm [] true)]]) (.s [Blk.box (c_S_Disk v17), (hk23_1 v18 v19 v20 v21), Blk.row true 1 (List.map (cL c8) v22), Blk.box [(iA y24.At), (A.imm (List.map c8 y24.Data) false)]] (.s (A.ptr 3 0) (.s (iA y24.At) (.s (A.ptr 3 1) (.s (A.imm (List.map c8 y24.Data) false) ?_))))))
   refine .bd (g := fun (y : Nat) => A.ep 2 y 0) (wrow_idx0 (e := 35) (es := 1) (l := v22) (by kernel_rfl) (by kernel_rfl) rfl) fun k25 => ?_
   refine .bd (g := fun (y : List (List UInt8)) => [Blk.box (c_S_Disk v17), (hk23_1 v18 v19 v20 v21), Blk.row true 1 (List.map (cL c8) y), Blk.box [(iA y24.At), (A.imm (List.map c8 y24.Data) false)]]) ((wrow_store (es := 1) (n := 1) (l := v22) (xs := [(A.imm (List.map c8 y24.Data) false)]) (u := fun (y : (List UInt8)) => y24.Data) (by kernel_rfl) (by kernel_rfl) (by decide) rfl (fun _ => rfl) (by decide) (by decide) rfl (fun _ => rfl))) fun y26 => ?_
   refine .st (v := (iA (wr .i64 (v16 + 1)))) (aBin_add ..) ?_
   refine .st (v := [Blk.box (c_S_Disk v17), (hk23_1 v18 v19 v20 v21), Blk.row true 1 (List.map (cL c8) y26)]) ((by kernel_rfl : _ = (bif ((((underss 3 (List.map (cL c8) v17.Sectors)) && ((underss 3 (List.map c_S_Write v17.Pending)) && true))) && ((((underss 3 (List.map (cL c8) v18)) && ((underss 3 (List.map c_S_Write v19)) && true))) && ((underss 3 (List.map (cL c8) y26)) && true))) then some [Blk.box (c_S_Disk v17), (hk23_1 v18 v19 v20 v21), Blk.row true 1 (List.map (cL c8) y26)] else none)).trans (by simp only [un0, unS])) ?_
   refine .cT ((by kernel_rfl : _ = (bif underss 3 (List.map (cL c8) v12) then (bif underss 3 (List.map c_S_Write v14) then true else false) else false)).trans (by simp only [un0, unS])) ?_
   exact ih _ _
  exact .ex (x0 _ _ _ _ _ _)
def F23 (n : Nat) (a0 : S_Disk) : Option (S_Disk × Int) :=
 (G35 a0).bind fun y1 => bif (!y1) then (some (((S_Disk.mk ([]) ([]) 0 false), 40))) else ((bif (decide (0 <= a0.Left)) then (some (decide (a0.Left < ((a0.Pending.length : Int))))) else (some false)).bind fun y4 => bif y4 then ((subI a0.Pending 0 a0.Left).bind fun y10 => (appI 24 ([]) a0.Sectors).bind fun y11 => (F23_40_0 n ([]) y11.length y10 ((y10.length : Int)) a0 ([]) ([]) 0 false (n+7) 0 y11).bind fun o27 => match o27 with | (y28, y29) => (getI a0.Pending a0.Left).bind fun y34 => (idxN y28 y34.At).bind fun k35 => (y29[k35]?).bind fun y36 => (appI 1 ([]) y36).bind fun y37 => (subN y37.length 0 64).bind fun k38 => (idxN y28 y34.At).bind fun k39 => (modI y29 k39 (fun (y : (List UInt8)) => (List.take y37.length (List.drop 0 ((copyI y37 k38.1 k38.2 y34.Data)))))).bind fun y40 => some (((S_Disk.mk ((List.take y28 (List.drop 0 y40))) ([]) 0 true), 40))) else ((G40 a0.Sectors a0.Pending).bind fun y41 => bif (decide (0 <= a0.Left)) then (some (((S_Disk.mk y41 ([]) (wr .i64 (a0.Left - ((a0.Pending.length : Int)))) false), 0))) else (some (((S_Disk.mk y41 ([]) a0.Left false), 0)))))
theorem T23 (C : Nat -> List A -> Option A) (n : Nat) (h35 : Orc35 C) (h40 : Orc40 C) (a0 : S_Disk) : J (fun (o : R) y => ∃ v, o.1 = .ret v /\ snapE o.2 v = (A.tup [(A.agg [(A.imm (List.map (cL c8) y.1.Sectors) false), (A.imm (List.map c_S_Write y.1.Pending) false), (iA y.1.Left), (bA y.1.Stopped)]), (iA y.2)])) (evCall1 (cx C) (ec C n 8) (ey C n 8) (n+8) 23 [(A.agg (c_S_Disk a0))] [] 0) some (F23 n a0) some := by
 refine .lp (e23 ..) ?_
 unfold F23
 refine .s ((A.ptr 0 0), [Blk.box (c_S_Disk a0)]) (.s ((A.ptr 1 0), [Blk.box (c_S_Disk a0), bz4]) (.s (A.agg (c_S_Disk a0)) ?_))
 refine .bd (g := fun (y : Bool) => (bA y)) (by show C 35 [snap _ (A.agg (c_S_Disk a0))] = _; simp only [sn0, snM]; exact h35 a0) fun y1 => ?_
 refine .s (bA (!y1)) ?_
 refine .biHN (fun hk2 => ?_) (fun hk2 => ?_)
 ·refine .s (A.agg [(A.imm [] true), (A.imm [] true), (iA 0), (bA false)]) (.s [Blk.box (c_S_Disk a0), bz4] (.s (A.agg [(A.imm [] true), (A.imm [] true), (iA 0), (bA false)]) ?_))
  exact .lf rfl rfl ⟨_, rfl, by show snapE _ (A.tup [(A.agg [(A.imm [] true), (A.imm [] true), (iA 0), (bA false)]), (iA 40)]) = _; first | (simp only [sn0, snM, snapE]; done) | (simp only [sn0, snS, snapE]; first | done | rfl)⟩
 refine .s (A.ptr 0 1) (.s (A.imm (List.map c_S_Write a0.Pending) false) ?_)
 refine .st (v := (iA ((a0.Pending.length : Int)))) (len_imm (e := 54) (h1 := by kernel_rfl) ..) ?_
 refine .s (A.ptr 0 2) (.s (iA a0.Left) ?_)
 refine .st (v := (bA (decide (0 <= a0.Left)))) (aBin_geq ..) ?_
 refine .bg (fun t (y : Bool) => ∃ j5 j6 j7 j8 : A, t = [(bA y), j5, j6, j7, j8]) ?_ ?_
 ·refine .biH (fun hk3 => ?_) (fun hk3 => ?_)
  ·refine .s (A.ptr 0 2) (.s (iA a0.Left) ?_)
   refine .st (v := (bA (decide (a0.Left < ((a0.Pending.length : Int)))))) (aBin_lss ..) ?_
   exact .lg ⟨_, _, _, _, rfl⟩
  exact .lg ⟨_, _, _, _, rfl⟩
 rintro _ y4 ⟨j5, j6, j7, j8, rfl⟩
 iterate 5 refine .uc ?_
 refine .biHN (fun hk9 => ?_) (fun hk9 => ?_)
 ·refine .s (A.ptr 0 1) (.s (A.imm (List.map c_S_Write a0.Pending) false) (.s (A.ptr 0 2) (.s (iA a0.Left) (.s (A.ptr 0 2) (.s (iA a0.Left) ?_)))))
  refine .bd (g := fun (y : List S_Write) => (A.imm (List.map c_S_Write y) true)) (cut_imm3 (e := 54) (es := 2) (f := c_S_Write) (l := a0.Pending) (a := 0) (b := a0.Left) (by kernel_rfl) (by kernel_rfl) (fun _ => rfl) (.inl ⟨rfl, rfl⟩)) fun y10 => ?_
  refine .s (A.ptr 0 0) (.s (A.imm (List.map (cL c8) a0.Sectors) false) ?_)
  refine .cl ((evCall_in lt_40).trans (e40 C (ec C n 7) (ey C n 7) (n+7) _ _ _ _)) ?_
  refine .cl ((evCall_in lt_46).trans (e46 C (evCall (cx C) (n+6)) (evCallY (cx C) (n+6)) (n+6) _ _ _)) ?_
  refine .st (v := (A.nq (List.map (cL c8) a0.Sectors))) (nq_imm (e := 35) (by kernel_rfl)) ?_
  refine .nq (f := (cL c8)) (l := a0.Sectors) (fun hn => by rw [hn]; kernel_rfl) ?_
  refine .s (A.imm [] true) ?_
  refine .bd (g := fun (y : List (List UInt8)) => ((A.sl 2 0 y.length false), [Blk.box (c_S_Disk a0), bz4, Blk.row true 1 (List.map (cL c8) y)])) (wrow_app (e := 35) (es := 1) (by_ := 24) (z := [(A.imm [] true)]) (by kernel_rfl) (by kernel_rfl) (by kernel_rfl) (by kernel_rfl) rfl (by decide) (by decide) (by kernel_rfl) (f := (cL c8)) (fun _ => rfl) ce_cL (l2 := a0.Sectors) (els_imm ..)) fun y11 => ?_
  refine .cr ?_
  refine .ok ?_
  refine .st (v := (iA ((y10.length : Int)))) (len_imm (e := 54) (h1 := by kernel_rfl) ..) ?_
  refine .as (T23_40_0 C n h35 h40 ([]) y11.length y10 ((y10.length : Int)) a0 ([]) ([]) 0 false _ _ _ _ ?_ _ 0 y11)
  ·intro y28 y29 j30 j31 j32 j33
   refine .un rfl ?_
   refine .cT (by kernel_rfl) ?_
   refine .cr ?_
   refine .ok ?_
   refine .s (A.agg [(A.sl 2 0 y28 false), (A.imm [] true), (iA 0), (bA true)]) (.s [Blk.box (c_S_Disk a0), Blk.box [(A.sl 2 0 y28 false), (A.imm [] true), (iA 0), (bA true)], Blk.row true 1 (List.map (cL c8) y29)] (.s (A.ptr 0 1) (.s (A.imm (List.map c_S_Write a0.Pending) false) (.s (A.ptr 0 2) (.s (iA a0.Left) ?_)))))
   refine .bd (g := fun (y : S_Write) => A.ip (c_S_Write y)) (idx_imm (e := 54) (es := 2) (h1 := by kernel_rfl) (h2 := by kernel_rfl) (h3 := fun _ => rfl) ..) fun y34 => ?_
   refine .s (A.agg [(iA y34.At), (A.imm (List.map c8 y34.Data) false)]) (.s ((A.ptr 3 0), [Blk.box (c_S_Disk a0), Blk.box [(A.sl 2 0 y28 false), (A.imm [] true), (iA 0), (bA true)], Blk.row true 1 (List.map (cL c8) y29), Blk.box [(iA 0), (A.imm [] true)]]) (.s [Blk.box (c_S_Disk a0), Blk.box [(A.sl 2 0 y28 false), (A.imm [] true), (iA 0), (bA true)], Blk.row true 1 (List.map (cL c8) y29), Blk.box [(iA y34.At), (A.imm (List.map c8 y34.Data) false)]] (.s (A.ptr 1 0) (.s (A.sl 2 0 y28 false) (.s (A.ptr 3 0) (.s (iA y34.At) ?_))))))
   refine .bd (g := fun (y : Nat) => A.ep 2 y 0) (wrow_idx0 (e := 35) (es := 1) (l := y29) (by kernel_rfl) (by kernel_rfl) rfl) fun k35 => ?_
   refine .bd (g := fun (y : (List UInt8)) => (A.imm (List.map c8 y) false)) (wrow_load (es := 1) (n := 1) (l := y29) (by kernel_rfl) (by decide) (fun _ => rfl) (by decide) rfl (fun _ => by kernel_rfl)) fun y36 => ?_
   refine .cl ((evCall_in lt_41).trans (e41 C (ec C n 7) (ey C n 7) (n+7) _ _ _)) ?_
   refine .st (v := (A.nq (List.map c8 y36))) (nq_imm (e := 5) (by kernel_rfl)) ?_
   refine .nq (f := c8) (l := y36) (fun hn => by rw [hn]; kernel_rfl) ?_
   refine .s (A.imm [] true) ?_
   refine .bd (g := fun (y : List UInt8) => ((A.sl 4 0 y.length false), [Blk.box (c_S_Disk a0), Blk.box [(A.sl 2 0 y28 false), (A.imm [] true), (iA 0), (bA true)], Blk.row true 1 (List.map (cL c8) y29), Blk.box [(iA y34.At), (A.imm (List.map c8 y34.Data) false)], Blk.row true 1 (List.map c8 y)])) (wrow_app (e := 5) (es := 1) (by_ := 1) (z := [(uA 0)]) (by kernel_rfl) (by kernel_rfl) (by kernel_rfl) (by kernel_rfl) rfl (by decide) (by decide) (by kernel_rfl) (f := c8) (fun _ => rfl) ce_c8 (l2 := y36) (els_imm ..)) fun y37 => ?_
   refine .cr ?_
   refine .ok ?_
   refine .bd (g := fun (y : Nat × Nat) => (A.sl 4 y.1 y.2 false)) (wrow_cut0 (e := 5) (es := 1) (p := 0) (q := 64) (by kernel_rfl) (by kernel_rfl) rfl (.inl ⟨rfl, rfl⟩) (.inr ⟨_, rfl⟩)) fun k38 => ?_
   refine .s (A.ptr 3 1) (.s (A.imm (List.map c8 y34.Data) false) ?_)
   refine .st (v := ((iA (((min y34.Data.length k38.2 : Nat) : Int))), [Blk.box (c_S_Disk a0), Blk.box [(A.sl 2 0 y28 false), (A.imm [] true), (iA 0), (bA true)], Blk.row true 1 (List.map (cL c8) y29), Blk.box [(iA y34.At), (A.imm (List.map c8 y34.Data) false)], Blk.row true 1 (List.map c8 ((copyI y37 k38.1 k38.2 y34.Data)))])) (wrow_copy (e := 5) (es := 1) (f := c8) (l := y37) (l2 := y34.Data) (by kernel_rfl) (by kernel_rfl) (by decide) (fun _ => rfl) ce_c8 (by decide) rfl (els_imm ..)) ?_
   refine .st (v := ((A.imm (List.map c8 ((List.take y37.length (List.drop 0 ((copyI y37 k38.1 k38.2 y34.Data)))))) false), [Blk.box (c_S_Disk a0), Blk.box [(A.sl 2 0 y28 false), (A.imm [] true), (iA 0), (bA true)], Blk.row true 1 (List.map (cL c8) y29), Blk.box [(iA y34.At), (A.imm (List.map c8 y34.Data) false)], Blk.dead])) (kill_row (es := 1) (l := (copyI y37 k38.1 k38.2 y34.Data)) fl_c8 rfl (by decide)) ?_
   refine .s (A.ptr 1 0) (.s (A.sl 2 0 y28 false) (.s (A.ptr 3 0) (.s (iA y34.At) ?_)))
   refine .bd (g := fun (y : Nat) => A.ep 2 y 0) (wrow_idx0 (e := 35) (es := 1) (l := y29) (by kernel_rfl) (by kernel_rfl) rfl) fun k39 => ?_
   refine .bd (g := fun (y : List (List UInt8)) => [Blk.box (c_S_Disk a0), Blk.box [(A.sl 2 0 y28 false), (A.imm [] true), (iA 0), (bA true)], Blk.row true 1 (List.map (cL c8) y), Blk.box [(iA y34.At), (A.imm (List.map c8 y34.Data) false)], Blk.dead]) ((wrow_store (es := 1) (n := 1) (l := y29) (xs := [(A.imm (List.map c8 ((List.take y37.length (List.drop 0 ((copyI y37 k38.1 k38.2 y34.Data)))))) false)]) (u := fun (y : (List UInt8)) => (List.take y37.length (List.drop 0 ((copyI y37 k38.1 k38.2 y34.Data))))) (by kernel_rfl) (by kernel_rfl) (by decide) rfl (fun _ => rfl) (by decide) (by decide) rfl (fun _ => rfl))) fun y40 => ?_
   refine .s (A.agg [(A.sl 2 0 y28 false), (A.imm [] true), (iA 0), (bA true)]) (.s [Blk.box (c_S_Disk a0), Blk.box [(A.sl 2 0 y28 false), (A.imm [] true), (iA 0), (bA true)], Blk.row true 1 (List.map (cL c8) y40), Blk.box [(iA y34.At), (A.imm (List.map c8 y34.Data) false)], Blk.dead] (.s (A.agg [(A.sl 2 0 y28 false), (A.imm [] true), (iA 0), (bA true)]) ?_))
   exact .lf rfl rfl ⟨_, rfl, by show snapE [Blk.box (c_S_Disk a0), Blk.box [(A.sl 2 0 y28 false), (A.imm [] true), (iA 0), (bA true)], Blk.row true 1 (List.map (cL c8) y40), Blk.box [(iA y34.At), (A.imm (List.map c8 y34.Data) false)], Blk.dead] (A.tup [(A.agg [(A.sl 2 0 y28 false), (A.imm [] true), (iA 0), (bA true)]), (iA 40)]) = _; first | (simp only [sn0, snM, snapE, snapGE_sub (H := [Blk.box (c_S_Disk a0), Blk.box [(A.sl 2 0 y28 false), (A.imm [] true), (iA 0), (bA true)], Blk.row true 1 (List.map (cL c8) y40), Blk.box [(iA y34.At), (A.imm (List.map c8 y34.Data) false)], Blk.dead]) (b := 2) (es := 1) (wr := true) (l := y40) (fl_cL fl_c8) rfl]; done) | (simp only [sn0, snS, snapE, snapGE_sub (H := [Blk.box (c_S_Disk a0), Blk.box [(A.sl 2 0 y28 false), (A.imm [] true), (iA 0), (bA true)], Blk.row true 1 (List.map (cL c8) y40), Blk.box [(iA y34.At), (A.imm (List.map c8 y34.Data) false)], Blk.dead]) (b := 2) (es := 1) (wr := true) (l := y40) (fl_cL fl_c8) rfl]; first | done | rfl)⟩
 refine .s (A.ptr 0 0) (.s (A.imm (List.map (cL c8) a0.Sectors) false) (.s (A.ptr 0 1) (.s (A.imm (List.map c_S_Write a0.Pending) false) ?_)))
 refine .bd (g := fun (y : (List (List UInt8))) => (A.imm (List.map (cL c8) y) false)) (by show C 40 [snap _ (A.imm (List.map (cL c8) a0.Sectors) false), snap _ (A.imm (List.map c_S_Write a0.Pending) false)] = _; simp only [sn0, snM]; exact h40 a0.Sectors a0.Pending) fun y41 => ?_
 refine .s (A.ptr 0 2) (.s (iA a0.Left) (.s (A.agg [(A.imm (List.map (cL c8) y41) false), (A.imm [] true), (iA a0.Left), (bA false)]) (.s [Blk.box (c_S_Disk a0), Blk.box [(A.imm (List.map (cL c8) y41) false), (A.imm [] true), (iA a0.Left), (bA false)]] (.s (A.ptr 1 2) (.s (iA a0.Left) ?_)))))
 refine .st (v := (bA (decide (0 <= a0.Left)))) (aBin_geq ..) ?_
 refine .biHN (fun hk42 => ?_) (fun hk42 => ?_)
 ·refine .s (A.ptr 1 2) (.s (iA a0.Left) ?_)
  refine .st (v := (iA (wr .i64 (a0.Left - ((a0.Pending.length : Int)))))) (aBin_sub ..) ?_
  refine .s (A.ptr 1 2) (.s [Blk.box (c_S_Disk a0), Blk.box [(A.imm (List.map (cL c8) y41) false), (A.imm [] true), (iA (wr .i64 (a0.Left - ((a0.Pending.length : Int))))), (bA false)]] (.s (A.agg [(A.imm (List.map (cL c8) y41) false), (A.imm [] true), (iA (wr .i64 (a0.Left - ((a0.Pending.length : Int))))), (bA false)]) (.s [Blk.box (c_S_Disk a0), Blk.box [(A.imm (List.map (cL c8) y41) false), (A.imm [] true), (iA (wr .i64 (a0.Left - ((a0.Pending.length : Int))))), (bA false)]] (.s (A.agg [(A.imm (List.map (cL c8) y41) false), (A.imm [] true), (iA (wr .i64 (a0.Left - ((a0.Pending.length : Int))))), (bA false)]) ?_))))
  exact .lf rfl rfl ⟨_, rfl, by show snapE _ (A.tup [(A.agg [(A.imm (List.map (cL c8) y41) false), (A.imm [] true), (iA (wr .i64 (a0.Left - ((a0.Pending.length : Int))))), (bA false)]), (iA 0)]) = _; first | (simp only [sn0, snM, snapE]; done) | (simp only [sn0, snS, snapE]; first | done | rfl)⟩
 refine .s (A.agg [(A.imm (List.map (cL c8) y41) false), (A.imm [] true), (iA a0.Left), (bA false)]) (.s [Blk.box (c_S_Disk a0), Blk.box [(A.imm (List.map (cL c8) y41) false), (A.imm [] true), (iA a0.Left), (bA false)]] (.s (A.agg [(A.imm (List.map (cL c8) y41) false), (A.imm [] true), (iA a0.Left), (bA false)]) ?_))
 exact .lf rfl rfl ⟨_, rfl, by show snapE _ (A.tup [(A.agg [(A.imm (List.map (cL c8) y41) false), (A.imm [] true), (iA a0.Left), (bA false)]), (iA 0)]) = _; first | (simp only [sn0, snM, snapE]; done) | (simp only [sn0, snS, snapE]; first | done | rfl)⟩
def G23 (a0 : S_Disk) : Option (S_Disk × Int) := F23 fuel0 a0
def Orc23 (C : Nat -> List A -> Option A) : Prop := ∀ (a0 : S_Disk), C 23 [(A.agg (c_S_Disk a0))] = (G23 a0).map fun y => (A.tup [(A.agg [(A.imm (List.map (cL c8) y.1.Sectors) false), (A.imm (List.map c_S_Write y.1.Pending) false), (iA y.1.Left), (bA y.1.Stopped)]), (iA y.2)])
def F17 (n : Nat) (a0 : S_Disk) : Option S_Disk :=
 some ((S_Disk.mk a0.Sectors ([]) (-1) false))
theorem T17 (C : Nat -> List A -> Option A) (n : Nat) (a0 : S_Disk) : J (fun (o : R) y => ∃ v, o.1 = .ret v /\ snapE o.2 v = (A.agg [(A.imm (List.map (cL c8) y.Sectors) false), (A.imm (List.map c_S_Write y.Pending) false), (iA y.Left), (bA y.Stopped)])) (evCall1 (cx C) (ec C n 8) (ey C n 8) (n+8) 17 [(A.agg (c_S_Disk a0))] [] 0) some (F17 n a0) some := by
 refine .lp (e17 ..) ?_
 unfold F17
 refine .s ((A.ptr 0 0), [Blk.box (c_S_Disk a0)]) (.s ((A.ptr 1 0), [Blk.box (c_S_Disk a0), bz4]) (.s (A.ptr 0 0) (.s (A.imm (List.map (cL c8) a0.Sectors) false) (.s (A.agg [(A.imm (List.map (cL c8) a0.Sectors) false), (A.imm [] true), (iA (-1)), (bA false)]) (.s [Blk.box (c_S_Disk a0), Blk.box [(A.imm (List.map (cL c8) a0.Sectors) false), (A.imm [] true), (iA (-1)), (bA false)]] (.s (A.agg [(A.imm (List.map (cL c8) a0.Sectors) false), (A.imm [] true), (iA (-1)), (bA false)]) ?_))))))
 exact .lf rfl rfl ⟨_, rfl, by show snapE _ (A.agg [(A.imm (List.map (cL c8) a0.Sectors) false), (A.imm [] true), (iA (-1)), (bA false)]) = _; first | (simp only [sn0, snM, snapE]; done) | (simp only [sn0, snS, snapE]; first | done | rfl)⟩
def G17 (a0 : S_Disk) : Option S_Disk := F17 fuel0 a0
def Orc17 (C : Nat -> List A -> Option A) : Prop := ∀ (a0 : S_Disk), C 17 [(A.agg (c_S_Disk a0))] = (G17 a0).map fun y => (A.agg [(A.imm (List.map (cL c8) y.Sectors) false), (A.imm (List.map c_S_Write y.Pending) false), (iA y.Left), (bA y.Stopped)])
def F10 (n : Nat)  : Option Bool :=
 (G12 0).bind fun y1 => (G12 2).bind fun y2 => (G19 y2.1 1 ([(7 : UInt8)])).bind fun y3 => (G21 y3.1 1).bind fun y4 => (G21 y2.1 2).bind fun y5 => (mkI 1 129 ((0 : UInt8))).bind fun y6 => (G19 y2.1 0 y6).bind fun y7 => (G25 y3.1 1).bind fun y8 => (G27 8).bind fun y9 => (G19 y8.1 0 y9).bind fun y10 => (G23 y10.1).bind fun y11 => (bif (y1.2 != 1) then (some true) else (some (y2.2 != 0))).bind fun y13 => (bif y13 then (some true) else (some (y3.2 != 0))).bind fun y17 => (bif y17 then (some true) else (some (y4.2 != 0))).bind fun y21 => (bif y21 then (some true) else (some (y5.2 != 40))).bind fun y25 => (bif y25 then (some true) else (some (y7.2 != 1))).bind fun y29 => (bif y29 then (some true) else (some (y8.2 != 0))).bind fun y33 => (bif y33 then (some true) else (some (y10.2 != 0))).bind fun y37 => (bif y37 then (some true) else (some (y11.2 != 40))).bind fun y41 => (bif y41 then (some true) else (some (!y11.1.Stopped))).bind fun y45 => bif y45 then (some false) else ((G17 y11.1).bind fun y50 => (G21 y50 1).bind fun y51 => (G21 y50 0).bind fun y52 => (G17 y3.1).bind fun y53 => (G21 y53 1).bind fun y54 => (bif (y51.2 == 0) then (some (y52.2 == 0)) else (some false)).bind fun y56 => (bif y56 then (some (y54.2 == 0)) else (some false)).bind fun y60 => (bif y60 then (some (((y4.1.length : Int)) == 128)) else (some false)).bind fun y64 => (bif y64 then ((getI y4.1 0).bind fun y69 => some (((y69.toNat : Int)) == 7)) else (some false)).bind fun y70 => (bif y70 then (some (((y51.1.length : Int)) == 128)) else (some false)).bind fun y76 => (bif y76 then ((getI y51.1 0).bind fun y81 => some (((y81.toNat : Int)) == 7)) else (some false)).bind fun y82 => (bif y82 then (some (((y52.1.length : Int)) == 128)) else (some false)).bind fun y88 => (bif y88 then ((getI y52.1 0).bind fun y93 => some (((y93.toNat : Int)) == 8)) else (some false)).bind fun y94 => (bif y94 then ((getI y52.1 64).bind fun y100 => some (((y100.toNat : Int)) == 0)) else (some false)).bind fun y101 => (bif y101 then (some (((y54.1.length : Int)) == 128)) else (some false)).bind fun y107 => (bif y107 then ((getI y54.1 0).bind fun y112 => some (((y112.toNat : Int)) == 0)) else (some false)).bind fun y113 => (bif y113 then ((G15 ((S_Disk.mk ([]) ([]) 0 false))).bind fun y119 => some (y119 == 40)) else (some false)).bind fun y120 => (bif y120 then ((G17 ((S_Disk.mk ([]) ([]) 0 false))).bind fun y125 => some (y125.Left == (-1))) else (some false)).bind fun y126 => some y126)
theorem T10 (C : Nat -> List A -> Option A) (n : Nat) (h12 : Orc12 C) (h15 : Orc15 C) (h17 : Orc17 C) (h19 : Orc19 C) (h21 : Orc21 C) (h23 : Orc23 C) (h25 : Orc25 C) (h27 : Orc27 C) : J (fun (o : R) y => ∃ v, o.1 = .ret v /\ snapE o.2 v = (bA y)) (evCall1 (cx C) (ec C n 8) (ey C n 8) (n+8) 10 [] [] 0) some (F10 n ) some := by
 refine .lp (e10 ..) ?_
 unfold F10
 refine .bd (g := fun (y : (S_Disk × Int)) => (A.tup [(A.agg [(A.imm (List.map (cL c8) y.1.Sectors) false), (A.imm (List.map c_S_Write y.1.Pending) false), (iA y.1.Left), (bA y.1.Stopped)]), (iA y.2)])) (h12 0) fun y1 => ?_
 refine .s (A.agg (c_S_Disk y1.1)) (.s (iA y1.2) (.s ((A.ptr 0 0), [bz4]) (.s [Blk.box (c_S_Disk y1.1)] ?_)))
 refine .bd (g := fun (y : (S_Disk × Int)) => (A.tup [(A.agg [(A.imm (List.map (cL c8) y.1.Sectors) false), (A.imm (List.map c_S_Write y.1.Pending) false), (iA y.1.Left), (bA y.1.Stopped)]), (iA y.2)])) (h12 2) fun y2 => ?_
 refine .s (A.agg (c_S_Disk y2.1)) (.s (iA y2.2) (.s ((A.ptr 1 0), [Blk.box (c_S_Disk y1.1), bz4]) (.s [Blk.box (c_S_Disk y1.1), Blk.box (c_S_Disk y2.1)] (.s (A.agg (c_S_Disk y2.1)) (.s (A.imm [[(uA 7)]] true) ?_)))))
 refine .bd (g := fun (y : (S_Disk × Int)) => (A.tup [(A.agg [(A.imm (List.map (cL c8) y.1.Sectors) false), (A.imm (List.map c_S_Write y.1.Pending) false), (iA y.1.Left), (bA y.1.Stopped)]), (iA y.2)])) (by show C 19 [snap _ (A.agg (c_S_Disk y2.1)), snap _ (iA 1), snap _ (A.imm [[(uA 7)]] true)] = _; simp only [sn0, snM]; exact h19 y2.1 1 ([(7 : UInt8)])) fun y3 => ?_
 refine .s (A.agg (c_S_Disk y3.1)) (.s (iA y3.2) (.s ((A.ptr 2 0), [Blk.box (c_S_Disk y1.1), Blk.box (c_S_Disk y2.1), bz4]) (.s [Blk.box (c_S_Disk y1.1), Blk.box (c_S_Disk y2.1), Blk.box (c_S_Disk y3.1)] (.s (A.agg (c_S_Disk y3.1)) ?_))))
 refine .bd (g := fun (y : ((List UInt8) × Int)) => (A.tup [(A.imm (List.map c8 y.1) false), (iA y.2)])) (by show C 21 [snap _ (A.agg (c_S_Disk y3.1)), snap _ (iA 1)] = _; simp only [sn0, snM]; exact h21 y3.1 1) fun y4 => ?_
 refine .s (A.imm (List.map c8 y4.1) false) (.s (iA y4.2) (.s (A.agg (c_S_Disk y2.1)) ?_))
 refine .bd (g := fun (y : ((List UInt8) × Int)) => (A.tup [(A.imm (List.map c8 y.1) false), (iA y.2)])) (by show C 21 [snap _ (A.agg (c_S_Disk y2.1)), snap _ (iA 2)] = _; simp only [sn0, snM]; exact h21 y2.1 2) fun y5 => ?_
 refine .s (A.imm (List.map c8 y5.1) false) (.s (iA y5.2) (.s ((A.ptr 3 0), [Blk.box (c_S_Disk y1.1), Blk.box (c_S_Disk y2.1), Blk.box (c_S_Disk y3.1), bz4]) (.s (A.agg (c_S_Disk y2.1)) ?_)))
 refine .cT (by kernel_rfl) ?_
 refine .bd (g := fun (y : List UInt8) => ((A.imm (List.map c8 y) false), [Blk.box (c_S_Disk y1.1), Blk.box (c_S_Disk y2.1), Blk.box (c_S_Disk y3.1), bz4])) (wrow_makeI (e := 5) (es := 1) (f := c8) (z := (0 : UInt8)) (z' := [(uA 0)]) (by kernel_rfl) (by kernel_rfl) (by kernel_rfl) (by kernel_rfl) rfl (by decide) (fun _ => rfl)) fun y6 => ?_
 refine .bd (g := fun (y : (S_Disk × Int)) => (A.tup [(A.agg [(A.imm (List.map (cL c8) y.1.Sectors) false), (A.imm (List.map c_S_Write y.1.Pending) false), (iA y.1.Left), (bA y.1.Stopped)]), (iA y.2)])) (by show C 19 [snap _ (A.agg (c_S_Disk y2.1)), snap _ (iA 0), snap _ (A.imm (List.map c8 y6) false)] = _; simp only [sn0, snM]; exact h19 y2.1 0 y6) fun y7 => ?_
 refine .s (A.agg (c_S_Disk y7.1)) (.s (iA y7.2) (.s [Blk.box (c_S_Disk y1.1), Blk.box (c_S_Disk y2.1), Blk.box (c_S_Disk y3.1), Blk.box (c_S_Disk y7.1)] (.s (A.agg (c_S_Disk y3.1)) ?_)))
 refine .bd (g := fun (y : (S_Disk × Int)) => (A.tup [(A.agg [(A.imm (List.map (cL c8) y.1.Sectors) false), (A.imm (List.map c_S_Write y.1.Pending) false), (iA y.1.Left), (bA y.1.Stopped)]), (iA y.2)])) (by show C 25 [snap _ (A.agg (c_S_Disk y3.1)), snap _ (iA 1)] = _; simp only [sn0, snM]; exact h25 y3.1 1) fun y8 => ?_
 refine .s (A.agg (c_S_Disk y8.1)) (.s (iA y8.2) (.s ((A.ptr 4 0), [Blk.box (c_S_Disk y1.1), Blk.box (c_S_Disk y2.1), Blk.box (c_S_Disk y3.1), Blk.box (c_S_Disk y7.1), bz4]) (.s [Blk.box (c_S_Disk y1.1), Blk.box (c_S_Disk y2.1), Blk.box (c_S_Disk y3.1), Blk.box (c_S_Disk y7.1), Blk.box (c_S_Disk y8.1)] (.s (A.agg (c_S_Disk y8.1)) ?_))))
 refine .bd (g := fun (y : (List UInt8)) => (A.imm (List.map c8 y) false)) (h27 8) fun y9 => ?_
 refine .bd (g := fun (y : (S_Disk × Int)) => (A.tup [(A.agg [(A.imm (List.map (cL c8) y.1.Sectors) false), (A.imm (List.map c_S_Write y.1.Pending) false), (iA y.1.Left), (bA y.1.Stopped)]), (iA y.2)])) (by show C 19 [snap _ (A.agg (c_S_Disk y8.1)), snap _ (iA 0), snap _ (A.imm (List.map c8 y9) false)] = _; simp only [sn0, snM]; exact h19 y8.1 0 y9) fun y10 => ?_
 refine .s (A.agg (c_S_Disk y10.1)) (.s (iA y10.2) (.s [Blk.box (c_S_Disk y1.1), Blk.box (c_S_Disk y2.1), Blk.box (c_S_Disk y3.1), Blk.box (c_S_Disk y7.1), Blk.box (c_S_Disk y10.1)] (.s (A.agg (c_S_Disk y10.1)) ?_)))
 refine .bd (g := fun (y : (S_Disk × Int)) => (A.tup [(A.agg [(A.imm (List.map (cL c8) y.1.Sectors) false), (A.imm (List.map c_S_Write y.1.Pending) false), (iA y.1.Left), (bA y.1.Stopped)]), (iA y.2)])) (by show C 23 [snap _ (A.agg (c_S_Disk y10.1))] = _; simp only [sn0, snM]; exact h23 y10.1) fun y11 => ?_
 refine .s (A.agg (c_S_Disk y11.1)) (.s (iA y11.2) (.s ((A.ptr 5 0), [Blk.box (c_S_Disk y1.1), Blk.box (c_S_Disk y2.1), Blk.box (c_S_Disk y3.1), Blk.box (c_S_Disk y7.1), Blk.box (c_S_Disk y10.1), bz4]) (.s [Blk.box (c_S_Disk y1.1), Blk.box (c_S_Disk y2.1), Blk.box (c_S_Disk y3.1), Blk.box (c_S_Disk y7.1), Blk.box (c_S_Disk y10.1), Blk.box (c_S_Disk y11.1)] ?_)))
 refine .st (v := (bA (y1.2 != 1))) (aBin_neq ..) ?_
 refine .bg (fun t (y : Bool) => ∃ j14 j15 : A, t = [(bA y), j14, j15]) ?_ ?_
 ·refine .biH (fun hk12 => ?_) (fun hk12 => ?_)
  ·exact .lg ⟨_, _, rfl⟩
  refine .st (v := (bA (y2.2 != 0))) (aBin_neq ..) ?_
  exact .lg ⟨_, _, rfl⟩
 rintro _ y13 ⟨j14, j15, rfl⟩
 iterate 3 refine .uc ?_
 refine .bg (fun t (y : Bool) => ∃ j18 j19 : A, t = [(bA y), j18, j19]) ?_ ?_
 ·refine .biH (fun hk16 => ?_) (fun hk16 => ?_)
  ·exact .lg ⟨_, _, rfl⟩
  refine .st (v := (bA (y3.2 != 0))) (aBin_neq ..) ?_
  exact .lg ⟨_, _, rfl⟩
 rintro _ y17 ⟨j18, j19, rfl⟩
 iterate 3 refine .uc ?_
 refine .bg (fun t (y : Bool) => ∃ j22 j23 : A, t = [(bA y), j22, j23]) ?_ ?_
 ·refine .biH (fun hk20 => ?_) (fun hk20 => ?_)
  ·exact .lg ⟨_, _, rfl⟩
  refine .st (v := (bA (y4.2 != 0))) (aBin_neq ..) ?_
  exact .lg ⟨_, _, rfl⟩
 rintro _ y21 ⟨j22, j23, rfl⟩
 iterate 3 refine .uc ?_
 refine .bg (fun t (y : Bool) => ∃ j26 j27 : A, t = [(bA y), j26, j27]) ?_ ?_
 ·refine .biH (fun hk24 => ?_) (fun hk24 => ?_)
  ·exact .lg ⟨_, _, rfl⟩
  refine .st (v := (bA (y5.2 != 40))) (aBin_neq ..) ?_
  exact .lg ⟨_, _, rfl⟩
 rintro _ y25 ⟨j26, j27, rfl⟩
 iterate 3 refine .uc ?_
 refine .bg (fun t (y : Bool) => ∃ j30 j31 : A, t = [(bA y), j30, j31]) ?_ ?_
 ·refine .biH (fun hk28 => ?_) (fun hk28 => ?_)
  ·exact .lg ⟨_, _, rfl⟩
  refine .st (v := (bA (y7.2 != 1))) (aBin_neq ..) ?_
  exact .lg ⟨_, _, rfl⟩
 rintro _ y29 ⟨j30, j31, rfl⟩
 iterate 3 refine .uc ?_
 refine .bg (fun t (y : Bool) => ∃ j34 j35 : A, t = [(bA y), j34, j35]) ?_ ?_
 ·refine .biH (fun hk32 => ?_) (fun hk32 => ?_)
  ·exact .lg ⟨_, _, rfl⟩
  refine .st (v := (bA (y8.2 != 0))) (aBin_neq ..) ?_
  exact .lg ⟨_, _, rfl⟩
 rintro _ y33 ⟨j34, j35, rfl⟩
 iterate 3 refine .uc ?_
 refine .bg (fun t (y : Bool) => ∃ j38 j39 : A, t = [(bA y), j38, j39]) ?_ ?_
 ·refine .biH (fun hk36 => ?_) (fun hk36 => ?_)
  ·exact .lg ⟨_, _, rfl⟩
  refine .st (v := (bA (y10.2 != 0))) (aBin_neq ..) ?_
  exact .lg ⟨_, _, rfl⟩
 rintro _ y37 ⟨j38, j39, rfl⟩
 iterate 3 refine .uc ?_
 refine .bg (fun t (y : Bool) => ∃ j42 j43 : A, t = [(bA y), j42, j43]) ?_ ?_
 ·refine .biH (fun hk40 => ?_) (fun hk40 => ?_)
  ·exact .lg ⟨_, _, rfl⟩
  refine .st (v := (bA (y11.2 != 40))) (aBin_neq ..) ?_
  exact .lg ⟨_, _, rfl⟩
 rintro _ y41 ⟨j42, j43, rfl⟩
 iterate 3 refine .uc ?_
 refine .bg (fun t (y : Bool) => ∃ j46 j47 j48 : A, t = [(bA y), j46, j47, j48]) ?_ ?_
 ·refine .biH (fun hk44 => ?_) (fun hk44 => ?_)
  ·exact .lg ⟨_, _, _, rfl⟩
  refine .s (A.ptr 5 3) (.s (bA y11.1.Stopped) (.s (bA (!y11.1.Stopped)) ?_))
  exact .lg ⟨_, _, _, rfl⟩
 rintro _ y45 ⟨j46, j47, j48, rfl⟩
 iterate 4 refine .uc ?_
 refine .biHN (fun hk49 => ?_) (fun hk49 => ?_)
 ·exact .lf rfl rfl ⟨_, rfl, rfl⟩
 refine .s (A.agg (c_S_Disk y11.1)) ?_
 refine .bd (g := fun (y : S_Disk) => (A.agg [(A.imm (List.map (cL c8) y.Sectors) false), (A.imm (List.map c_S_Write y.Pending) false), (iA y.Left), (bA y.Stopped)])) (by show C 17 [snap _ (A.agg (c_S_Disk y11.1))] = _; simp only [sn0, snM]; exact h17 y11.1) fun y50 => ?_
 refine .s [Blk.box (c_S_Disk y1.1), Blk.box (c_S_Disk y2.1), Blk.box (c_S_Disk y3.1), Blk.box (c_S_Disk y7.1), Blk.box (c_S_Disk y10.1), Blk.box (c_S_Disk y50)] (.s (A.agg (c_S_Disk y50)) ?_)
 refine .bd (g := fun (y : ((List UInt8) × Int)) => (A.tup [(A.imm (List.map c8 y.1) false), (iA y.2)])) (by show C 21 [snap _ (A.agg (c_S_Disk y50)), snap _ (iA 1)] = _; simp only [sn0, snM]; exact h21 y50 1) fun y51 => ?_
 refine .s (A.imm (List.map c8 y51.1) false) (.s (iA y51.2) (.s (A.agg (c_S_Disk y50)) ?_))
 refine .bd (g := fun (y : ((List UInt8) × Int)) => (A.tup [(A.imm (List.map c8 y.1) false), (iA y.2)])) (by show C 21 [snap _ (A.agg (c_S_Disk y50)), snap _ (iA 0)] = _; simp only [sn0, snM]; exact h21 y50 0) fun y52 => ?_
 refine .s (A.imm (List.map c8 y52.1) false) (.s (iA y52.2) (.s (A.agg (c_S_Disk y3.1)) ?_))
 refine .bd (g := fun (y : S_Disk) => (A.agg [(A.imm (List.map (cL c8) y.Sectors) false), (A.imm (List.map c_S_Write y.Pending) false), (iA y.Left), (bA y.Stopped)])) (by show C 17 [snap _ (A.agg (c_S_Disk y3.1))] = _; simp only [sn0, snM]; exact h17 y3.1) fun y53 => ?_
 refine .bd (g := fun (y : ((List UInt8) × Int)) => (A.tup [(A.imm (List.map c8 y.1) false), (iA y.2)])) (by show C 21 [snap _ (A.agg (c_S_Disk y53)), snap _ (iA 1)] = _; simp only [sn0, snM]; exact h21 y53 1) fun y54 => ?_
 refine .s (A.imm (List.map c8 y54.1) false) (.s (iA y54.2) ?_)
 refine .st (v := (bA (y51.2 == 0))) (aBin_eql ..) ?_
 refine .bg (fun t (y : Bool) => ∃ j57 j58 : A, t = [(bA y), j57, j58]) ?_ ?_
 ·refine .biH (fun hk55 => ?_) (fun hk55 => ?_)
  ·refine .st (v := (bA (y52.2 == 0))) (aBin_eql ..) ?_
   exact .lg ⟨_, _, rfl⟩
  exact .lg ⟨_, _, rfl⟩
 rintro _ y56 ⟨j57, j58, rfl⟩
 iterate 3 refine .uc ?_
 refine .bg (fun t (y : Bool) => ∃ j61 j62 : A, t = [(bA y), j61, j62]) ?_ ?_
 ·refine .biH (fun hk59 => ?_) (fun hk59 => ?_)
  ·refine .st (v := (bA (y54.2 == 0))) (aBin_eql ..) ?_
   exact .lg ⟨_, _, rfl⟩
  exact .lg ⟨_, _, rfl⟩
 rintro _ y60 ⟨j61, j62, rfl⟩
 iterate 3 refine .uc ?_
 refine .bg (fun t (y : Bool) => ∃ j65 j66 j67 : A, t = [(bA y), j65, j66, j67]) ?_ ?_
 ·refine .biH (fun hk63 => ?_) (fun hk63 => ?_)
  ·refine .st (v := (iA ((y4.1.length : Int)))) (len_imm (e := 5) (h1 := by kernel_rfl) ..) ?_
   refine .st (v := (bA (((y4.1.length : Int)) == 128))) (aBin_eql ..) ?_
   exact .lg ⟨_, _, _, rfl⟩
  exact .lg ⟨_, _, _, rfl⟩
 rintro _ y64 ⟨j65, j66, j67, rfl⟩
 iterate 4 refine .uc ?_
 refine .bg (fun t (y : Bool) => ∃ j71 j72 j73 j74 : A, t = [(bA y), j71, j72, j73, j74]) ?_ ?_
 ·refine .biH (fun hk68 => ?_) (fun hk68 => ?_)
  ·refine .bd (g := fun (y : UInt8) => A.ip (c8 y)) (idx_imm (e := 5) (es := 1) (h1 := by kernel_rfl) (h2 := by kernel_rfl) (h3 := fun _ => rfl) ..) fun y69 => ?_
   refine .s (uA ((y69.toNat : Int))) ?_
   refine .st (v := (bA (((y69.toNat : Int)) == 7))) (aBin_eql ..) ?_
   exact .lg ⟨_, _, _, _, rfl⟩
  exact .lg ⟨_, _, _, _, rfl⟩
 rintro _ y70 ⟨j71, j72, j73, j74, rfl⟩
 iterate 5 refine .uc ?_
 refine .bg (fun t (y : Bool) => ∃ j77 j78 j79 : A, t = [(bA y), j77, j78, j79]) ?_ ?_
 ·refine .biH (fun hk75 => ?_) (fun hk75 => ?_)
  ·refine .st (v := (iA ((y51.1.length : Int)))) (len_imm (e := 5) (h1 := by kernel_rfl) ..) ?_
   refine .st (v := (bA (((y51.1.length : Int)) == 128))) (aBin_eql ..) ?_
   exact .lg ⟨_, _, _, rfl⟩
  exact .lg ⟨_, _, _, rfl⟩
 rintro _ y76 ⟨j77, j78, j79, rfl⟩
 iterate 4 refine .uc ?_
 refine .bg (fun t (y : Bool) => ∃ j83 j84 j85 j86 : A, t = [(bA y), j83, j84, j85, j86]) ?_ ?_
 ·refine .biH (fun hk80 => ?_) (fun hk80 => ?_)
  ·refine .bd (g := fun (y : UInt8) => A.ip (c8 y)) (idx_imm (e := 5) (es := 1) (h1 := by kernel_rfl) (h2 := by kernel_rfl) (h3 := fun _ => rfl) ..) fun y81 => ?_
   refine .s (uA ((y81.toNat : Int))) ?_
   refine .st (v := (bA (((y81.toNat : Int)) == 7))) (aBin_eql ..) ?_
   exact .lg ⟨_, _, _, _, rfl⟩
  exact .lg ⟨_, _, _, _, rfl⟩
 rintro _ y82 ⟨j83, j84, j85, j86, rfl⟩
 iterate 5 refine .uc ?_
 refine .bg (fun t (y : Bool) => ∃ j89 j90 j91 : A, t = [(bA y), j89, j90, j91]) ?_ ?_
 ·refine .biH (fun hk87 => ?_) (fun hk87 => ?_)
  ·refine .st (v := (iA ((y52.1.length : Int)))) (len_imm (e := 5) (h1 := by kernel_rfl) ..) ?_
   refine .st (v := (bA (((y52.1.length : Int)) == 128))) (aBin_eql ..) ?_
   exact .lg ⟨_, _, _, rfl⟩
  exact .lg ⟨_, _, _, rfl⟩
 rintro _ y88 ⟨j89, j90, j91, rfl⟩
 iterate 4 refine .uc ?_
 refine .bg (fun t (y : Bool) => ∃ j95 j96 j97 j98 : A, t = [(bA y), j95, j96, j97, j98]) ?_ ?_
 ·refine .biH (fun hk92 => ?_) (fun hk92 => ?_)
  ·refine .bd (g := fun (y : UInt8) => A.ip (c8 y)) (idx_imm (e := 5) (es := 1) (h1 := by kernel_rfl) (h2 := by kernel_rfl) (h3 := fun _ => rfl) ..) fun y93 => ?_
   refine .s (uA ((y93.toNat : Int))) ?_
   refine .st (v := (bA (((y93.toNat : Int)) == 8))) (aBin_eql ..) ?_
   exact .lg ⟨_, _, _, _, rfl⟩
  exact .lg ⟨_, _, _, _, rfl⟩
 rintro _ y94 ⟨j95, j96, j97, j98, rfl⟩
 iterate 5 refine .uc ?_
 refine .bg (fun t (y : Bool) => ∃ j102 j103 j104 j105 : A, t = [(bA y), j102, j103, j104, j105]) ?_ ?_
 ·refine .biH (fun hk99 => ?_) (fun hk99 => ?_)
  ·refine .bd (g := fun (y : UInt8) => A.ip (c8 y)) (idx_imm (e := 5) (es := 1) (h1 := by kernel_rfl) (h2 := by kernel_rfl) (h3 := fun _ => rfl) ..) fun y100 => ?_
   refine .s (uA ((y100.toNat : Int))) ?_
   refine .st (v := (bA (((y100.toNat : Int)) == 0))) (aBin_eql ..) ?_
   exact .lg ⟨_, _, _, _, rfl⟩
  exact .lg ⟨_, _, _, _, rfl⟩
 rintro _ y101 ⟨j102, j103, j104, j105, rfl⟩
 iterate 5 refine .uc ?_
 refine .bg (fun t (y : Bool) => ∃ j108 j109 j110 : A, t = [(bA y), j108, j109, j110]) ?_ ?_
 ·refine .biH (fun hk106 => ?_) (fun hk106 => ?_)
  ·refine .st (v := (iA ((y54.1.length : Int)))) (len_imm (e := 5) (h1 := by kernel_rfl) ..) ?_
   refine .st (v := (bA (((y54.1.length : Int)) == 128))) (aBin_eql ..) ?_
   exact .lg ⟨_, _, _, rfl⟩
  exact .lg ⟨_, _, _, rfl⟩
 rintro _ y107 ⟨j108, j109, j110, rfl⟩
 iterate 4 refine .uc ?_
 refine .bg (fun t (y : Bool) => ∃ j114 j115 j116 j117 : A, t = [(bA y), j114, j115, j116, j117]) ?_ ?_
 ·refine .biH (fun hk111 => ?_) (fun hk111 => ?_)
  ·refine .bd (g := fun (y : UInt8) => A.ip (c8 y)) (idx_imm (e := 5) (es := 1) (h1 := by kernel_rfl) (h2 := by kernel_rfl) (h3 := fun _ => rfl) ..) fun y112 => ?_
   refine .s (uA ((y112.toNat : Int))) ?_
   refine .st (v := (bA (((y112.toNat : Int)) == 0))) (aBin_eql ..) ?_
   exact .lg ⟨_, _, _, _, rfl⟩
  exact .lg ⟨_, _, _, _, rfl⟩
 rintro _ y113 ⟨j114, j115, j116, j117, rfl⟩
 iterate 5 refine .uc ?_
 refine .bg (fun t (y : Bool) => ∃ j121 j122 j123 : A, t = [(bA y), j121, j122, j123]) ?_ ?_
 ·refine .biH (fun hk118 => ?_) (fun hk118 => ?_)
  ·refine .s (A.agg [(A.imm [] true), (A.imm [] true), (iA 0), (bA false)]) ?_
   refine .bd (g := fun (y : Int) => (iA y)) (by show C 15 [snap _ (A.agg [(A.imm [] true), (A.imm [] true), (iA 0), (bA false)])] = _; simp only [sn0, snM]; exact h15 ((S_Disk.mk ([]) ([]) 0 false))) fun y119 => ?_
   refine .st (v := (bA (y119 == 40))) (aBin_eql ..) ?_
   exact .lg ⟨_, _, _, rfl⟩
  exact .lg ⟨_, _, _, rfl⟩
 rintro _ y120 ⟨j121, j122, j123, rfl⟩
 iterate 4 refine .uc ?_
 refine .bg (fun t (y : Bool) => ∃ j127 j128 j129 j130 : A, t = [(bA y), j127, j128, j129, j130]) ?_ ?_
 ·refine .biH (fun hk124 => ?_) (fun hk124 => ?_)
  ·refine .s (A.agg [(A.imm [] true), (A.imm [] true), (iA 0), (bA false)]) ?_
   refine .bd (g := fun (y : S_Disk) => (A.agg [(A.imm (List.map (cL c8) y.Sectors) false), (A.imm (List.map c_S_Write y.Pending) false), (iA y.Left), (bA y.Stopped)])) (by show C 17 [snap _ (A.agg [(A.imm [] true), (A.imm [] true), (iA 0), (bA false)])] = _; simp only [sn0, snM]; exact h17 ((S_Disk.mk ([]) ([]) 0 false))) fun y125 => ?_
   refine .s (iA y125.Left) ?_
   refine .st (v := (bA (y125.Left == (-1)))) (aBin_eql ..) ?_
   exact .lg ⟨_, _, _, _, rfl⟩
  exact .lg ⟨_, _, _, _, rfl⟩
 rintro _ y126 ⟨j127, j128, j129, j130, rfl⟩
 iterate 5 refine .uc ?_
 exact .lf rfl rfl ⟨_, rfl, rfl⟩
def G10  : Option Bool := F10 fuel0
def Orc10 (C : Nat -> List A -> Option A) : Prop := ∀ (_ : Unit), C 10 [] = (G10 ).map fun y => (bA y)
def F28_28_0 (n : Nat) (v1 : Bool) (v3 : S_Disk) (v4 : Int) (v5 : Int) (v6 : Int) (v7 : Int) (v8 : Int) (v9 : Int) (v10 : Int) (v11 : Int) : Nat -> Int -> Option ((Bool) ⊕ (Unit))
 | 0, _ => none
 | m + 1, v2 => bif (decide (v2 < 4)) then ((G21 v3 v2).bind fun y13 => (bif (y13.2 != 0) then (some true) else (some (((y13.1.length : Int)) != 128))).bind fun y15 => (bif y15 then (some true) else ((getI y13.1 0).bind fun y20 => bif decide (v2 = 0) then (some (((y20.toNat : Int)) != v4)) else bif decide (v2 = 1) then (some (((y20.toNat : Int)) != v5)) else bif decide (v2 = 2) then (some (((y20.toNat : Int)) != v6)) else bif decide (v2 = 3) then (some (((y20.toNat : Int)) != v7)) else none)).bind fun y25 => bif y25 then ((some true).bind fun y107 => (bif y107 then (some true) else ((getI y13.1 1).bind fun y110 => some (((y110.toNat : Int)) != 0))).bind fun y111 => (bif y111 then (some true) else ((getI y13.1 127).bind fun y117 => some (((y117.toNat : Int)) != 0))).bind fun y118 => bif y118 then (some ((Sum.inl false))) else (F28_28_0 n v1 v3 v4 v5 v6 v7 v8 v9 v10 v11 m (wr .i64 (v2 + 1)))) else ((getI y13.1 64).bind fun y34 => bif decide (v2 = 0) then ((some (((y34.toNat : Int)) != v8)).bind fun y36 => (bif y36 then (some true) else ((getI y13.1 1).bind fun y39 => some (((y39.toNat : Int)) != 0))).bind fun y40 => (bif y40 then (some true) else ((getI y13.1 127).bind fun y46 => some (((y46.toNat : Int)) != 0))).bind fun y47 => bif y47 then (some ((Sum.inl false))) else (F28_28_0 n v1 v3 v4 v5 v6 v7 v8 v9 v10 v11 m (wr .i64 (v2 + 1)))) else bif decide (v2 = 1) then ((some (((y34.toNat : Int)) != v9)).bind fun y54 => (bif y54 then (some true) else ((getI y13.1 1).bind fun y57 => some (((y57.toNat : Int)) != 0))).bind fun y58 => (bif y58 then (some true) else ((getI y13.1 127).bind fun y64 => some (((y64.toNat : Int)) != 0))).bind fun y65 => bif y65 then (some ((Sum.inl false))) else (F28_28_0 n v1 v3 v4 v5 v6 v7 v8 v9 v10 v11 m (wr .i64 (v2 + 1)))) else bif decide (v2 = 2) then ((some (((y34.toNat : Int)) != v10)).bind fun y72 => (bif y72 then (some true) else ((getI y13.1 1).bind fun y75 => some (((y75.toNat : Int)) != 0))).bind fun y76 => (bif y76 then (some true) else ((getI y13.1 127).bind fun y82 => some (((y82.toNat : Int)) != 0))).bind fun y83 => bif y83 then (some ((Sum.inl false))) else (F28_28_0 n v1 v3 v4 v5 v6 v7 v8 v9 v10 v11 m (wr .i64 (v2 + 1)))) else bif decide (v2 = 3) then ((some (((y34.toNat : Int)) != v11)).bind fun y90 => (bif y90 then (some true) else ((getI y13.1 1).bind fun y93 => some (((y93.toNat : Int)) != 0))).bind fun y94 => (bif y94 then (some true) else ((getI y13.1 127).bind fun y100 => some (((y100.toNat : Int)) != 0))).bind fun y101 => bif y101 then (some ((Sum.inl false))) else (F28_28_0 n v1 v3 v4 v5 v6 v7 v8 v9 v10 v11 m (wr .i64 (v2 + 1)))) else none)) else (some ((Sum.inr (()))))
theorem T28_28_0 (C : Nat -> List A -> Option A) (n : Nat) (h21 : Orc21 C) (v1 : Bool) (v3 : S_Disk) (v4 : Int) (v5 : Int) (v6 : Int) (v7 : Int) (v8 : Int) (v9 : Int) (v10 : Int) (v11 : Int) {ρ γ : Type} {φ : ρ -> γ -> Prop} {kL : R -> Option ρ} {K : ((Bool) ⊕ (Unit)) -> Option γ} (kx kg : Nat -> St -> Option R) (kr : St -> Option R) (kp : A -> St -> Option R) (x0 : ∀ (o0 : Bool) (s3 : A) (s4 : A) (s5 : A) (s7 : A), J φ (kr (St.mk [(3, s3), (4, s4), (5, s5), (6, (bA o0)), (7, s7)] [Blk.box (c_S_Disk v3), Blk.row true 1 [[(uA v4)], [(uA v5)], [(uA v6)], [(uA v7)]], Blk.row true 1 [[(uA v8)], [(uA v9)], [(uA v10)], [(uA v11)]]])) kL (K (Sum.inl o0)) some) (x1 : ∀ (s3 : A) (s4 : A) (s5 : A) (s6 : A) (s7 : A), J φ (kx 0 (St.mk [(3, s3), (4, s4), (5, s5), (6, s6), (7, s7)] [Blk.box (c_S_Disk v3), Blk.row true 1 [[(uA v4)], [(uA v5)], [(uA v6)], [(uA v7)]], Blk.row true 1 [[(uA v8)], [(uA v9)], [(uA v10)], [(uA v11)]]])) kL (K (Sum.inr (()))) some) :
  ∀ (m : Nat) (v2 : Int), J φ (loopR (cx C) (ec C n 8) (ey C n 8) (n+8) 28 0 0 3 kx kg kr kp m (St.mk [(3, (A.ptr 0 0)), (4, (A.ep 1 0 0)), (5, (A.ep 2 0 0)), (6, (bA v1)), (7, (iA v2))] [Blk.box (c_S_Disk v3), Blk.row true 1 [[(uA v4)], [(uA v5)], [(uA v6)], [(uA v7)]], Blk.row true 1 [[(uA v8)], [(uA v9)], [(uA v10)], [(uA v11)]]])) kL (F28_28_0 n v1 v3 v4 v5 v6 v7 v8 v9 v10 v11 m v2) K := by
 intro m
 induction m with
 | zero => intros; exact .nn
 | succ m ih =>
  intro v2
  refine .lp (e28_0 ..) ?_
  unfold F28_28_0
  refine .st (v := (bA (decide (v2 < 4)))) (aBin_lss ..) ?_
  refine .biHN (fun hk12 => ?_) (fun hk12 => ?_)
  ·refine .s (A.agg (c_S_Disk v3)) ?_
   refine .bd (g := fun (y : ((List UInt8) × Int)) => (A.tup [(A.imm (List.map c8 y.1) false), (iA y.2)])) (by show C 21 [snap _ (A.agg (c_S_Disk v3)), snap _ (iA v2)] = _; simp only [sn0, snM]; exact h21 v3 v2) fun y13 => ?_
   refine .s (A.imm (List.map c8 y13.1) false) (.s (iA y13.2) ?_)
   refine .st (v := (bA (y13.2 != 0))) (aBin_neq ..) ?_
   refine .bg (fun t (y : Bool) => ∃ j16 j17 j18 : A, t = [(bA y), j16, j17, j18]) ?_ ?_
   ·refine .biH (fun hk14 => ?_) (fun hk14 => ?_)
    ·exact .lg ⟨_, _, _, rfl⟩
    refine .st (v := (iA ((y13.1.length : Int)))) (len_imm (e := 5) (h1 := by kernel_rfl) ..) ?_
    refine .st (v := (bA (((y13.1.length : Int)) != 128))) (aBin_neq ..) ?_
    exact .lg ⟨_, _, _, rfl⟩
   rintro _ y15 ⟨j16, j17, j18, rfl⟩
   iterate 4 refine .uc ?_
   refine .bg (fun t (y : Bool) => ∃ j26 j27 j28 j29 j30 j31 j32 : A, t = [(bA y), j26, j27, j28, j29, j30, j31, j32]) ?_ ?_
   ·refine .biH (fun hk19 => ?_) (fun hk19 => ?_)
    ·exact .lg ⟨_, _, _, _, _, _, _, rfl⟩
    refine .bd (g := fun (y : UInt8) => A.ip (c8 y)) (idx_imm (e := 5) (es := 1) (h1 := by kernel_rfl) (h2 := by kernel_rfl) (h3 := fun _ => rfl) ..) fun y20 => ?_
    refine .s (uA ((y20.toNat : Int))) ?_
    refine .sp (fun hb21 => ?_) (fun _ => ?_)
    ·refine .st (v := (A.ep 1 0 0)) (by rw [of_decide_eq_true hb21]; kernel_rfl) ?_
     refine .s (uA v4) ?_
     refine .st (v := (bA (((y20.toNat : Int)) != v4))) (aBin_neq ..) ?_
     exact .lg ⟨_, _, _, _, _, _, _, rfl⟩
    refine .sp (fun hb22 => ?_) (fun _ => ?_)
    ·refine .st (v := (A.ep 1 1 0)) (by rw [of_decide_eq_true hb22]; kernel_rfl) ?_
     refine .s (uA v5) ?_
     refine .st (v := (bA (((y20.toNat : Int)) != v5))) (aBin_neq ..) ?_
     exact .lg ⟨_, _, _, _, _, _, _, rfl⟩
    refine .sp (fun hb23 => ?_) (fun _ => ?_)
    ·refine .st (v := (A.ep 1 2 0)) (by rw [of_decide_eq_true hb23]; kernel_rfl) ?_
     refine .s (uA v6) ?_
     refine .st (v := (bA (((y20.toNat : Int)) != v6))) (aBin_neq ..) ?_
     exact .lg ⟨_, _, _, _, _, _, _, rfl⟩
    refine .sp (fun hb24 => ?_) (fun _ => ?_)
    ·refine .st (v := (A.ep 1 3 0)) (by rw [of_decide_eq_true hb24]; kernel_rfl) ?_
     refine .s (uA v7) ?_
     refine .st (v := (bA (((y20.toNat : Int)) != v7))) (aBin_neq ..) ?_
     exact .lg ⟨_, _, _, _, _, _, _, rfl⟩
    exact .nn
   rintro _ y25 ⟨j26, j27, j28, j29, j30, j31, j32, rfl⟩
   iterate 8 refine .uc ?_
   refine .gsf (fun hc33 => ?_) (fun hc33 => ?_)
   ·refine .bb ?_
    refine .bd (g := fun (y : UInt8) => A.ip (c8 y)) (idx_imm (e := 5) (es := 1) (h1 := by kernel_rfl) (h2 := by kernel_rfl) (h3 := fun _ => rfl) ..) fun y34 => ?_
    refine .s (uA ((y34.toNat : Int))) ?_
    refine .sp (fun hb35 => ?_) (fun _ => ?_)
    ·refine .st (v := (A.ep 2 0 0)) (by rw [of_decide_eq_true hb35]; kernel_rfl) ?_
     refine .s (uA v8) ?_
     refine .cr ?_
     iterate 6 refine .uc ?_
     refine .bg (fun t (y : Bool) => ∃ j37 : A, t = [(bA y), j37]) ?_ ?_
     ·refine .bKF hc33 ?_
      refine .st (v := (bA (((y34.toNat : Int)) != v8))) (aBin_neq ..) ?_
      exact .lg ⟨_, rfl⟩
     rintro _ y36 ⟨j37, rfl⟩
     iterate 2 refine .uc ?_
     refine .bg (fun t (y : Bool) => ∃ j41 j42 j43 j44 : A, t = [(bA y), j41, j42, j43, j44]) ?_ ?_
     ·refine .biH (fun hk38 => ?_) (fun hk38 => ?_)
      ·exact .lg ⟨_, _, _, _, rfl⟩
      refine .bd (g := fun (y : UInt8) => A.ip (c8 y)) (idx_imm (e := 5) (es := 1) (h1 := by kernel_rfl) (h2 := by kernel_rfl) (h3 := fun _ => rfl) ..) fun y39 => ?_
      refine .s (uA ((y39.toNat : Int))) ?_
      refine .st (v := (bA (((y39.toNat : Int)) != 0))) (aBin_neq ..) ?_
      exact .lg ⟨_, _, _, _, rfl⟩
     rintro _ y40 ⟨j41, j42, j43, j44, rfl⟩
     iterate 5 refine .uc ?_
     refine .bg (fun t (y : Bool) => ∃ j48 j49 j50 j51 : A, t = [(bA y), j48, j49, j50, j51]) ?_ ?_
     ·refine .biH (fun hk45 => ?_) (fun hk45 => ?_)
      ·exact .lg ⟨_, _, _, _, rfl⟩
      refine .bd (g := fun (y : UInt8) => A.ip (c8 y)) (idx_imm (e := 5) (es := 1) (h1 := by kernel_rfl) (h2 := by kernel_rfl) (h3 := fun _ => rfl) ..) fun y46 => ?_
      refine .s (uA ((y46.toNat : Int))) ?_
      refine .st (v := (bA (((y46.toNat : Int)) != 0))) (aBin_neq ..) ?_
      exact .lg ⟨_, _, _, _, rfl⟩
     rintro _ y47 ⟨j48, j49, j50, j51, rfl⟩
     iterate 5 refine .uc ?_
     refine .biHN (fun hk52 => ?_) (fun hk52 => ?_)
     ·exact .ex (x0 _ _ _ _ _)
     refine .st (v := (iA (wr .i64 (v2 + 1)))) (aBin_add ..) ?_
     refine .s [Blk.box (c_S_Disk v3), Blk.row true 1 [[(uA v4)], [(uA v5)], [(uA v6)], [(uA v7)]], Blk.row true 1 [[(uA v8)], [(uA v9)], [(uA v10)], [(uA v11)]]] ?_
     refine .cT (by kernel_rfl) ?_
     exact ih _
    refine .sp (fun hb53 => ?_) (fun _ => ?_)
    ·refine .st (v := (A.ep 2 1 0)) (by rw [of_decide_eq_true hb53]; kernel_rfl) ?_
     refine .s (uA v9) ?_
     refine .cr ?_
     iterate 6 refine .uc ?_
     refine .bg (fun t (y : Bool) => ∃ j55 : A, t = [(bA y), j55]) ?_ ?_
     ·refine .bKF hc33 ?_
      refine .st (v := (bA (((y34.toNat : Int)) != v9))) (aBin_neq ..) ?_
      exact .lg ⟨_, rfl⟩
     rintro _ y54 ⟨j55, rfl⟩
     iterate 2 refine .uc ?_
     refine .bg (fun t (y : Bool) => ∃ j59 j60 j61 j62 : A, t = [(bA y), j59, j60, j61, j62]) ?_ ?_
     ·refine .biH (fun hk56 => ?_) (fun hk56 => ?_)
      ·exact .lg ⟨_, _, _, _, rfl⟩
      refine .bd (g := fun (y : UInt8) => A.ip (c8 y)) (idx_imm (e := 5) (es := 1) (h1 := by kernel_rfl) (h2 := by kernel_rfl) (h3 := fun _ => rfl) ..) fun y57 => ?_
      refine .s (uA ((y57.toNat : Int))) ?_
      refine .st (v := (bA (((y57.toNat : Int)) != 0))) (aBin_neq ..) ?_
      exact .lg ⟨_, _, _, _, rfl⟩
     rintro _ y58 ⟨j59, j60, j61, j62, rfl⟩
     iterate 5 refine .uc ?_
     refine .bg (fun t (y : Bool) => ∃ j66 j67 j68 j69 : A, t = [(bA y), j66, j67, j68, j69]) ?_ ?_
     ·refine .biH (fun hk63 => ?_) (fun hk63 => ?_)
      ·exact .lg ⟨_, _, _, _, rfl⟩
      refine .bd (g := fun (y : UInt8) => A.ip (c8 y)) (idx_imm (e := 5) (es := 1) (h1 := by kernel_rfl) (h2 := by kernel_rfl) (h3 := fun _ => rfl) ..) fun y64 => ?_
      refine .s (uA ((y64.toNat : Int))) ?_
      refine .st (v := (bA (((y64.toNat : Int)) != 0))) (aBin_neq ..) ?_
      exact .lg ⟨_, _, _, _, rfl⟩
     rintro _ y65 ⟨j66, j67, j68, j69, rfl⟩
     iterate 5 refine .uc ?_
     refine .biHN (fun hk70 => ?_) (fun hk70 => ?_)
     ·exact .ex (x0 _ _ _ _ _)
     refine .st (v := (iA (wr .i64 (v2 + 1)))) (aBin_add ..) ?_
     refine .s [Blk.box (c_S_Disk v3), Blk.row true 1 [[(uA v4)], [(uA v5)], [(uA v6)], [(uA v7)]], Blk.row true 1 [[(uA v8)], [(uA v9)], [(uA v10)], [(uA v11)]]] ?_
     refine .cT (by kernel_rfl) ?_
     exact ih _
    refine .sp (fun hb71 => ?_) (fun _ => ?_)
    ·refine .st (v := (A.ep 2 2 0)) (by rw [of_decide_eq_true hb71]; kernel_rfl) ?_
     refine .s (uA v10) ?_
     refine .cr ?_
     iterate 6 refine .uc ?_
     refine .bg (fun t (y : Bool) => ∃ j73 : A, t = [(bA y), j73]) ?_ ?_
     ·refine .bKF hc33 ?_
      refine .st (v := (bA (((y34.toNat : Int)) != v10))) (aBin_neq ..) ?_
      exact .lg ⟨_, rfl⟩
     rintro _ y72 ⟨j73, rfl⟩
     iterate 2 refine .uc ?_
     refine .bg (fun t (y : Bool) => ∃ j77 j78 j79 j80 : A, t = [(bA y), j77, j78, j79, j80]) ?_ ?_
     ·refine .biH (fun hk74 => ?_) (fun hk74 => ?_)
      ·exact .lg ⟨_, _, _, _, rfl⟩
      refine .bd (g := fun (y : UInt8) => A.ip (c8 y)) (idx_imm (e := 5) (es := 1) (h1 := by kernel_rfl) (h2 := by kernel_rfl) (h3 := fun _ => rfl) ..) fun y75 => ?_
      refine .s (uA ((y75.toNat : Int))) ?_
      refine .st (v := (bA (((y75.toNat : Int)) != 0))) (aBin_neq ..) ?_
      exact .lg ⟨_, _, _, _, rfl⟩
     rintro _ y76 ⟨j77, j78, j79, j80, rfl⟩
     iterate 5 refine .uc ?_
     refine .bg (fun t (y : Bool) => ∃ j84 j85 j86 j87 : A, t = [(bA y), j84, j85, j86, j87]) ?_ ?_
     ·refine .biH (fun hk81 => ?_) (fun hk81 => ?_)
      ·exact .lg ⟨_, _, _, _, rfl⟩
      refine .bd (g := fun (y : UInt8) => A.ip (c8 y)) (idx_imm (e := 5) (es := 1) (h1 := by kernel_rfl) (h2 := by kernel_rfl) (h3 := fun _ => rfl) ..) fun y82 => ?_
      refine .s (uA ((y82.toNat : Int))) ?_
      refine .st (v := (bA (((y82.toNat : Int)) != 0))) (aBin_neq ..) ?_
      exact .lg ⟨_, _, _, _, rfl⟩
     rintro _ y83 ⟨j84, j85, j86, j87, rfl⟩
     iterate 5 refine .uc ?_
     refine .biHN (fun hk88 => ?_) (fun hk88 => ?_)
     ·exact .ex (x0 _ _ _ _ _)
     refine .st (v := (iA (wr .i64 (v2 + 1)))) (aBin_add ..) ?_
     refine .s [Blk.box (c_S_Disk v3), Blk.row true 1 [[(uA v4)], [(uA v5)], [(uA v6)], [(uA v7)]], Blk.row true 1 [[(uA v8)], [(uA v9)], [(uA v10)], [(uA v11)]]] ?_
     refine .cT (by kernel_rfl) ?_
     exact ih _
    refine .sp (fun hb89 => ?_) (fun _ => ?_)
    ·refine .st (v := (A.ep 2 3 0)) (by rw [of_decide_eq_true hb89]; kernel_rfl) ?_
     refine .s (uA v11) ?_
     refine .cr ?_
     iterate 6 refine .uc ?_
     refine .bg (fun t (y : Bool) => ∃ j91 : A, t = [(bA y), j91]) ?_ ?_
     ·refine .bKF hc33 ?_
      refine .st (v := (bA (((y34.toNat : Int)) != v11))) (aBin_neq ..) ?_
      exact .lg ⟨_, rfl⟩
     rintro _ y90 ⟨j91, rfl⟩
     iterate 2 refine .uc ?_
     refine .bg (fun t (y : Bool) => ∃ j95 j96 j97 j98 : A, t = [(bA y), j95, j96, j97, j98]) ?_ ?_
     ·refine .biH (fun hk92 => ?_) (fun hk92 => ?_)
      ·exact .lg ⟨_, _, _, _, rfl⟩
      refine .bd (g := fun (y : UInt8) => A.ip (c8 y)) (idx_imm (e := 5) (es := 1) (h1 := by kernel_rfl) (h2 := by kernel_rfl) (h3 := fun _ => rfl) ..) fun y93 => ?_
      refine .s (uA ((y93.toNat : Int))) ?_
      refine .st (v := (bA (((y93.toNat : Int)) != 0))) (aBin_neq ..) ?_
      exact .lg ⟨_, _, _, _, rfl⟩
     rintro _ y94 ⟨j95, j96, j97, j98, rfl⟩
     iterate 5 refine .uc ?_
     refine .bg (fun t (y : Bool) => ∃ j102 j103 j104 j105 : A, t = [(bA y), j102, j103, j104, j105]) ?_ ?_
     ·refine .biH (fun hk99 => ?_) (fun hk99 => ?_)
      ·exact .lg ⟨_, _, _, _, rfl⟩
      refine .bd (g := fun (y : UInt8) => A.ip (c8 y)) (idx_imm (e := 5) (es := 1) (h1 := by kernel_rfl) (h2 := by kernel_rfl) (h3 := fun _ => rfl) ..) fun y100 => ?_
      refine .s (uA ((y100.toNat : Int))) ?_
      refine .st (v := (bA (((y100.toNat : Int)) != 0))) (aBin_neq ..) ?_
      exact .lg ⟨_, _, _, _, rfl⟩
     rintro _ y101 ⟨j102, j103, j104, j105, rfl⟩
     iterate 5 refine .uc ?_
     refine .biHN (fun hk106 => ?_) (fun hk106 => ?_)
     ·exact .ex (x0 _ _ _ _ _)
     refine .st (v := (iA (wr .i64 (v2 + 1)))) (aBin_add ..) ?_
     refine .s [Blk.box (c_S_Disk v3), Blk.row true 1 [[(uA v4)], [(uA v5)], [(uA v6)], [(uA v7)]], Blk.row true 1 [[(uA v8)], [(uA v9)], [(uA v10)], [(uA v11)]]] ?_
     refine .cT (by kernel_rfl) ?_
     exact ih _
    exact .nn
   refine .bb ?_
   refine .cr ?_
   iterate 6 refine .uc ?_
   refine .bg (fun t (y : Bool) => ∃ j108 : A, t = [(bA y), j108]) ?_ ?_
   ·refine .bKT hc33 ?_
    exact .lg ⟨_, rfl⟩
   rintro _ y107 ⟨j108, rfl⟩
   iterate 2 refine .uc ?_
   refine .bg (fun t (y : Bool) => ∃ j112 j113 j114 j115 : A, t = [(bA y), j112, j113, j114, j115]) ?_ ?_
   ·refine .biH (fun hk109 => ?_) (fun hk109 => ?_)
    ·exact .lg ⟨_, _, _, _, rfl⟩
    refine .bd (g := fun (y : UInt8) => A.ip (c8 y)) (idx_imm (e := 5) (es := 1) (h1 := by kernel_rfl) (h2 := by kernel_rfl) (h3 := fun _ => rfl) ..) fun y110 => ?_
    refine .s (uA ((y110.toNat : Int))) ?_
    refine .st (v := (bA (((y110.toNat : Int)) != 0))) (aBin_neq ..) ?_
    exact .lg ⟨_, _, _, _, rfl⟩
   rintro _ y111 ⟨j112, j113, j114, j115, rfl⟩
   iterate 5 refine .uc ?_
   refine .bg (fun t (y : Bool) => ∃ j119 j120 j121 j122 : A, t = [(bA y), j119, j120, j121, j122]) ?_ ?_
   ·refine .biH (fun hk116 => ?_) (fun hk116 => ?_)
    ·exact .lg ⟨_, _, _, _, rfl⟩
    refine .bd (g := fun (y : UInt8) => A.ip (c8 y)) (idx_imm (e := 5) (es := 1) (h1 := by kernel_rfl) (h2 := by kernel_rfl) (h3 := fun _ => rfl) ..) fun y117 => ?_
    refine .s (uA ((y117.toNat : Int))) ?_
    refine .st (v := (bA (((y117.toNat : Int)) != 0))) (aBin_neq ..) ?_
    exact .lg ⟨_, _, _, _, rfl⟩
   rintro _ y118 ⟨j119, j120, j121, j122, rfl⟩
   iterate 5 refine .uc ?_
   refine .biHN (fun hk123 => ?_) (fun hk123 => ?_)
   ·exact .ex (x0 _ _ _ _ _)
   refine .st (v := (iA (wr .i64 (v2 + 1)))) (aBin_add ..) ?_
   refine .s [Blk.box (c_S_Disk v3), Blk.row true 1 [[(uA v4)], [(uA v5)], [(uA v6)], [(uA v7)]], Blk.row true 1 [[(uA v8)], [(uA v9)], [(uA v10)], [(uA v11)]]] ?_
   refine .cT (by kernel_rfl) ?_
   exact ih _
  exact .ex (x1 _ _ _ _ _)
def F28 (n : Nat) (a0 : S_Disk) (a1 : (Int × Int × Int × Int)) (a2 : (Int × Int × Int × Int)) : Option Bool :=
 (F28_28_0 n false a0 a1.1 a1.2.1 a1.2.2.1 a1.2.2.2 a2.1 a2.2.1 a2.2.2.1 a2.2.2.2 (n+8) 0).bind fun o124 => match o124 with | (Sum.inl y125) => some y125 | (Sum.inr _) => some true
theorem T28 (C : Nat -> List A -> Option A) (n : Nat) (h21 : Orc21 C) (a0 : S_Disk) (a1 : (Int × Int × Int × Int)) (a2 : (Int × Int × Int × Int)) : J (fun (o : R) y => ∃ v, o.1 = .ret v /\ snapE o.2 v = (bA y)) (evCall1 (cx C) (ec C n 8) (ey C n 8) (n+8) 28 [(A.agg (c_S_Disk a0)), (A.agg [(uA a1.1), (uA a1.2.1), (uA a1.2.2.1), (uA a1.2.2.2)]), (A.agg [(uA a2.1), (uA a2.2.1), (uA a2.2.2.1), (uA a2.2.2.2)])] [] 0) some (F28 n a0 a1 a2) some := by
 refine .lp (e28 ..) ?_
 unfold F28
 refine .s ((A.ptr 0 0), [Blk.box (c_S_Disk a0)]) (.s ((A.ep 1 0 0), [Blk.box (c_S_Disk a0), Blk.row true 1 [[(uA a1.1)], [(uA a1.2.1)], [(uA a1.2.2.1)], [(uA a1.2.2.2)]]]) (.s ((A.ep 2 0 0), [Blk.box (c_S_Disk a0), Blk.row true 1 [[(uA a1.1)], [(uA a1.2.1)], [(uA a1.2.2.1)], [(uA a1.2.2.2)]], Blk.row true 1 [[(uA a2.1)], [(uA a2.2.1)], [(uA a2.2.2.1)], [(uA a2.2.2.2)]]]) ?_))
 refine .as (T28_28_0 C n h21 false a0 a1.1 a1.2.1 a1.2.2.1 a1.2.2.2 a2.1 a2.2.1 a2.2.2.1 a2.2.2.2 _ _ _ _ ?_ ?_ _ 0)
 ·intro y125 j126 j127 j128 j129
  refine .un rfl ?_
  exact .lf rfl rfl ⟨_, rfl, rfl⟩
 ·intro j130 j131 j132 j133 j134
  refine .un rfl ?_
  refine .cT (by kernel_rfl) ?_
  exact .lf rfl rfl ⟨_, rfl, rfl⟩
def G28 (a0 : S_Disk) (a1 : (Int × Int × Int × Int)) (a2 : (Int × Int × Int × Int)) : Option Bool := F28 fuel0 a0 a1 a2
def Orc28 (C : Nat -> List A -> Option A) : Prop := ∀ (a0 : S_Disk) (a1 : (Int × Int × Int × Int)) (a2 : (Int × Int × Int × Int)), C 28 [(A.agg (c_S_Disk a0)), (A.agg [(uA a1.1), (uA a1.2.1), (uA a1.2.2.1), (uA a1.2.2.2)]), (A.agg [(uA a2.1), (uA a2.2.1), (uA a2.2.2.1), (uA a2.2.2.2)])] = (G28 a0 a1 a2).map fun y => (bA y)
end Go.Proofs.Ythoomfjliekbdaa
