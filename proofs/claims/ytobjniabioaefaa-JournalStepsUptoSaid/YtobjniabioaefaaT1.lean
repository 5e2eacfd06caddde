/-
 The program's functions as plain functions: by a tool; each follows the interpreter.
-/
import Derived.Test.YtobjniabioaefaaE
import Derived.KernelRfl
namespace Go.Proofs.Ytobjniabioaefaa
open Go.Proofs.Try (prog)
set_option linter.unusedVariables false
set_option linter.unusedSimpArgs false
set_option maxHeartbeats 4000000
set_option maxRecDepth 100000
abbrev bz4 : Blk := Blk.box [(A.imm [] true), (A.imm [] true), (iA 0), (bA false)]
abbrev bz3 : Blk := Blk.box [(A.imm [] true), (iA 0), (iA 0)]
noncomputable abbrev ec (C : Nat -> List A -> Option A) (n k : Nat) := evCall (cx C) (n+k)
noncomputable abbrev ey (C : Nat -> List A -> Option A) (n k : Nat) := evCallY (cx C) (n+k)
structure S_Write where
 At : Int
 Data : (List UInt8)
 deriving DecidableEq, Inhabited
def c_S_Write (x : S_Write) : List A := [(iA x.At), (A.imm (List.map c8 x.Data) false)]
theorem ce_S_Write : CellF c_S_Write := fun _ => rfl
theorem fu_S_Write : FlatU c_S_Write := fun _ _ => by simp only [c_S_Write, unders, A.under, underss_map, fu_cI, fu_c8, fu_cB, fu_cS, fu_cL, Bool.and_true, Bool.true_and]
theorem fl_S_Write : FlatS c_S_Write := fun _ _ => by simp only [c_S_Write, snapW, snapWs, snapWss_map, fl_cI, fl_c8, fl_cB, fl_cS, fl_cL]
structure S_Disk where
 Sectors : (List (List UInt8))
 Pending : (List S_Write)
 Left : Int
 Stopped : Bool
 deriving DecidableEq, Inhabited
def c_S_Disk (x : S_Disk) : List A := [(A.imm (List.map (cL c8) x.Sectors) false), (A.imm (List.map c_S_Write x.Pending) false), (iA x.Left), (bA x.Stopped)]
theorem fu_S_Disk : FlatU c_S_Disk := fun _ _ => by simp only [c_S_Disk, unders, A.under, underss_map, fu_cI, fu_c8, fu_cB, fu_cS, fu_cL, Bool.and_true, Bool.true_and, fu_S_Write]
theorem fl_S_Disk : FlatS c_S_Disk := fun _ _ => by simp only [c_S_Disk, snapW, snapWs, snapWss_map, fl_cI, fl_c8, fl_cB, fl_cS, fl_cL, fl_S_Write]
structure S_Journal where
 Records : (List (List UInt8))
 Many : Int
 Synced : Int
 deriving DecidableEq, Inhabited
def c_S_Journal (x : S_Journal) : List A := [(A.imm (List.map (cL c8) x.Records) false), (iA x.Many), (iA x.Synced)]
theorem fu_S_Journal : FlatU c_S_Journal := fun _ _ => by simp only [c_S_Journal, unders, A.under, underss_map, fu_cI, fu_c8, fu_cB, fu_cS, fu_cL, Bool.and_true, Bool.true_and, fu_S_Write, fu_S_Disk]
theorem fl_S_Journal : FlatS c_S_Journal := fun _ _ => by simp only [c_S_Journal, snapW, snapWs, snapWss_map, fl_cI, fl_c8, fl_cB, fl_cS, fl_cL, fl_S_Write, fl_S_Disk]
theorem fq_S_Write (g : Nat -> Nat -> Nat -> A) (x : S_Write) : snapWs g (c_S_Write x) = c_S_Write x := fl_S_Write g x
theorem fuq_S_Write (L : Nat) (x : S_Write) : unders L (c_S_Write x) = true := fu_S_Write L x
theorem fq_S_Disk (g : Nat -> Nat -> Nat -> A) (x : S_Disk) : snapWs g (c_S_Disk x) = c_S_Disk x := fl_S_Disk g x
theorem fuq_S_Disk (L : Nat) (x : S_Disk) : unders L (c_S_Disk x) = true := fu_S_Disk L x
theorem fq_S_Journal (g : Nat -> Nat -> Nat -> A) (x : S_Journal) : snapWs g (c_S_Journal x) = c_S_Journal x := fl_S_Journal g x
theorem fuq_S_Journal (L : Nat) (x : S_Journal) : unders L (c_S_Journal x) = true := fu_S_Journal L x
theorem snS : FlatS c_S_Write /\ FlatS c_S_Disk /\ FlatS c_S_Journal /\ (∀ (g : Nat -> Nat -> Nat -> A) (x : S_Write), snapWs g (c_S_Write x) = c_S_Write x) /\ (∀ (g : Nat -> Nat -> Nat -> A) (x : S_Disk), snapWs g (c_S_Disk x) = c_S_Disk x) /\ (∀ (g : Nat -> Nat -> Nat -> A) (x : S_Journal), snapWs g (c_S_Journal x) = c_S_Journal x) /\ True := ⟨fl_S_Write, fl_S_Disk, fl_S_Journal, fq_S_Write, fq_S_Disk, fq_S_Journal, trivial⟩
theorem snM : (FlatS c_S_Write /\ FlatS c_S_Disk /\ FlatS c_S_Journal /\ (∀ (g : Nat -> Nat -> Nat -> A) (x : S_Write), snapWs g (c_S_Write x) = c_S_Write x) /\ (∀ (g : Nat -> Nat -> Nat -> A) (x : S_Disk), snapWs g (c_S_Disk x) = c_S_Disk x) /\ (∀ (g : Nat -> Nat -> Nat -> A) (x : S_Journal), snapWs g (c_S_Journal x) = c_S_Journal x) /\ True) /\ (∀ {T U : Type} (f : T -> U) (a : T) (l : List T), (a :: l).map f = f a :: l.map f) /\ (∀ {T U : Type} (f : T -> U), [].map f = []) := ⟨snS, fun _ _ _ => rfl, fun _ => rfl⟩
theorem unS : FlatU c_S_Write /\ FlatU c_S_Disk /\ FlatU c_S_Journal /\ (∀ (L : Nat) (x : S_Write), unders L (c_S_Write x) = true) /\ (∀ (L : Nat) (x : S_Disk), unders L (c_S_Disk x) = true) /\ (∀ (L : Nat) (x : S_Journal), unders L (c_S_Journal x) = true) /\ True := ⟨fu_S_Write, fu_S_Disk, fu_S_Journal, fuq_S_Write, fuq_S_Disk, fuq_S_Journal, trivial⟩
def F74 (n : Nat) (a0 : Int) (a1 : Int) : Option (Int × Int) :=
 some ((wr .u64 ((wr .u64 ((wr .u64 ((shrI .u64 a0 32) * (shrI .u64 a1 32))) + (shrI .u64 (wr .u64 ((wr .u64 ((shrI .u64 a0 32) * (andI .u64 a1 4294967295))) + (shrI .u64 (wr .u64 ((andI .u64 a0 4294967295) * (andI .u64 a1 4294967295))) 32))) 32))) + (shrI .u64 (wr .u64 ((andI .u64 (wr .u64 ((wr .u64 ((shrI .u64 a0 32) * (andI .u64 a1 4294967295))) + (shrI .u64 (wr .u64 ((andI .u64 a0 4294967295) * (andI .u64 a1 4294967295))) 32))) 4294967295) + (wr .u64 ((andI .u64 a0 4294967295) * (shrI .u64 a1 32))))) 32)), wr .u64 (a0 * a1)))
theorem T74 (C : Nat -> List A -> Option A) (n : Nat) (a0 : Int) (a1 : Int) : J (fun (o : R) y => ∃ v, o.1 = .ret v /\ snapE o.2 v = (A.tup [(A.v (.int .u64 y.1)), (A.v (.int .u64 y.2))])) (evCall1 (cx C) (ec C n 8) (ey C n 8) (n+8) 74 [(A.v (.int .u64 a0)), (A.v (.int .u64 a1))] [] 0) some (F74 n a0 a1) some := by
 refine .lp (e74 ..) ?_
 unfold F74
 refine .st (v := (A.v (.int .u64 (andI .u64 a0 4294967295)))) (aBin_bits_and ..) ?_
 refine .st (v := (A.v (.int .u64 (shrI .u64 a0 32)))) (aBin_shr (hb := by decide) ..) ?_
 refine .st (v := (A.v (.int .u64 (andI .u64 a1 4294967295)))) (aBin_bits_and ..) ?_
 refine .st (v := (A.v (.int .u64 (shrI .u64 a1 32)))) (aBin_shr (hb := by decide) ..) ?_
 refine .st (v := (A.v (.int .u64 (wr .u64 ((andI .u64 a0 4294967295) * (andI .u64 a1 4294967295)))))) (aBin_mul ..) ?_
 refine .st (v := (A.v (.int .u64 (wr .u64 ((shrI .u64 a0 32) * (andI .u64 a1 4294967295)))))) (aBin_mul ..) ?_
 refine .st (v := (A.v (.int .u64 (shrI .u64 (wr .u64 ((andI .u64 a0 4294967295) * (andI .u64 a1 4294967295))) 32)))) (aBin_shr (hb := by decide) ..) ?_
 refine .st (v := (A.v (.int .u64 (wr .u64 ((wr .u64 ((shrI .u64 a0 32) * (andI .u64 a1 4294967295))) + (shrI .u64 (wr .u64 ((andI .u64 a0 4294967295) * (andI .u64 a1 4294967295))) 32)))))) (aBin_add ..) ?_
 refine .st (v := (A.v (.int .u64 (andI .u64 (wr .u64 ((wr .u64 ((shrI .u64 a0 32) * (andI .u64 a1 4294967295))) + (shrI .u64 (wr .u64 ((andI .u64 a0 4294967295) * (andI .u64 a1 4294967295))) 32))) 4294967295)))) (aBin_bits_and ..) ?_
 refine .st (v := (A.v (.int .u64 (shrI .u64 (wr .u64 ((wr .u64 ((shrI .u64 a0 32) * (andI .u64 a1 4294967295))) + (shrI .u64 (wr .u64 ((andI .u64 a0 4294967295) * (andI .u64 a1 4294967295))) 32))) 32)))) (aBin_shr (hb := by decide) ..) ?_
 refine .st (v := (A.v (.int .u64 (wr .u64 ((andI .u64 a0 4294967295) * (shrI .u64 a1 32)))))) (aBin_mul ..) ?_
 refine .st (v := (A.v (.int .u64 (wr .u64 ((andI .u64 (wr .u64 ((wr .u64 ((shrI .u64 a0 32) * (andI .u64 a1 4294967295))) + (shrI .u64 (wr .u64 ((andI .u64 a0 4294967295) * (andI .u64 a1 4294967295))) 32))) 4294967295) + (wr .u64 ((andI .u64 a0 4294967295) * (shrI .u64 a1 32)))))))) (aBin_add ..) ?_
 refine .st (v := (A.v (.int .u64 (wr .u64 ((shrI .u64 a0 32) * (shrI .u64 a1 32)))))) (aBin_mul ..) ?_
 refine .st (v := (A.v (.int .u64 (wr .u64 ((wr .u64 ((shrI .u64 a0 32) * (shrI .u64 a1 32))) + (shrI .u64 (wr .u64 ((wr .u64 ((shrI .u64 a0 32) * (andI .u64 a1 4294967295))) + (shrI .u64 (wr .u64 ((andI .u64 a0 4294967295) * (andI .u64 a1 4294967295))) 32))) 32)))))) (aBin_add ..) ?_
 refine .st (v := (A.v (.int .u64 (shrI .u64 (wr .u64 ((andI .u64 (wr .u64 ((wr .u64 ((shrI .u64 a0 32) * (andI .u64 a1 4294967295))) + (shrI .u64 (wr .u64 ((andI .u64 a0 4294967295) * (andI .u64 a1 4294967295))) 32))) 4294967295) + (wr .u64 ((andI .u64 a0 4294967295) * (shrI .u64 a1 32))))) 32)))) (aBin_shr (hb := by decide) ..) ?_
 refine .st (v := (A.v (.int .u64 (wr .u64 ((wr .u64 ((wr .u64 ((shrI .u64 a0 32) * (shrI .u64 a1 32))) + (shrI .u64 (wr .u64 ((wr .u64 ((shrI .u64 a0 32) * (andI .u64 a1 4294967295))) + (shrI .u64 (wr .u64 ((andI .u64 a0 4294967295) * (andI .u64 a1 4294967295))) 32))) 32))) + (shrI .u64 (wr .u64 ((andI .u64 (wr .u64 ((wr .u64 ((shrI .u64 a0 32) * (andI .u64 a1 4294967295))) + (shrI .u64 (wr .u64 ((andI .u64 a0 4294967295) * (andI .u64 a1 4294967295))) 32))) 4294967295) + (wr .u64 ((andI .u64 a0 4294967295) * (shrI .u64 a1 32))))) 32)))))) (aBin_add ..) ?_
 refine .st (v := (A.v (.int .u64 (wr .u64 (a0 * a1))))) (aBin_mul ..) ?_
 exact .lf rfl rfl ⟨_, rfl, rfl⟩
def G74 (a0 : Int) (a1 : Int) : Option (Int × Int) := F74 fuel0 a0 a1
def Orc74 (C : Nat -> List A -> Option A) : Prop := ∀ (a0 : Int) (a1 : Int), C 74 [(A.v (.int .u64 a0)), (A.v (.int .u64 a1))] = (G74 a0 a1).map fun y => (A.tup [(A.v (.int .u64 y.1)), (A.v (.int .u64 y.2))])
def F68 (n : Nat) (a0 : Int) (a1 : Int) : Option (Int × Int) :=
 (G74 a0 a1).bind fun y1 => some ((y1.1, y1.2))
theorem T68 (C : Nat -> List A -> Option A) (n : Nat) (h74 : Orc74 C) (a0 : Int) (a1 : Int) : J (fun (o : R) y => ∃ v, o.1 = .ret v /\ snapE o.2 v = (A.tup [(A.v (.int .u64 y.1)), (A.v (.int .u64 y.2))])) (evCall1 (cx C) (ec C n 8) (ey C n 8) (n+8) 68 [(A.v (.int .u64 a0)), (A.v (.int .u64 a1))] [] 0) some (F68 n a0 a1) some := by
 refine .lp (e68 ..) ?_
 unfold F68
 refine .bd (g := fun (y : (Int × Int)) => (A.tup [(A.v (.int .u64 y.1)), (A.v (.int .u64 y.2))])) (h74 a0 a1) fun y1 => ?_
 refine .s (A.v (.int .u64 y1.1)) (.s (A.v (.int .u64 y1.2)) ?_)
 exact .lf rfl rfl ⟨_, rfl, rfl⟩
def G68 (a0 : Int) (a1 : Int) : Option (Int × Int) := F68 fuel0 a0 a1
def Orc68 (C : Nat -> List A -> Option A) : Prop := ∀ (a0 : Int) (a1 : Int), C 68 [(A.v (.int .u64 a0)), (A.v (.int .u64 a1))] = (G68 a0 a1).map fun y => (A.tup [(A.v (.int .u64 y.1)), (A.v (.int .u64 y.2))])
def F49_49_0 (n : Nat) (v9 : (List (List UInt8))) (v10 : Nat) : Nat -> Int -> (List (List UInt8)) -> Option (Nat × (List (List UInt8)))
 | 0, _, _ => none
 | m + 1, v11, v12 => bif (decide (v11 < ((v10 : Int)))) then ((subN v10 v11 (((v10 : Nat) : Int))).bind fun k14 => (subN v10 0 v11).bind fun k15 => F49_49_0 n v9 v10 m (wr .i64 (v11 + (((min ((List.take k15.2 (List.drop k15.1 v12))).length k14.2 : Nat) : Int)))) ((copyI v12 k14.1 k14.2 ((List.take k15.2 (List.drop k15.1 v12)))))) else (some ((v10, v12)))
theorem T49_49_0 (C : Nat -> List A -> Option A) (n : Nat) (h68 : Orc68 C) (v9 : (List (List UInt8))) (v10 : Nat) {ρ γ : Type} {φ : ρ -> γ -> Prop} {kL : R -> Option ρ} {K : (Nat × (List (List UInt8))) -> Option γ} (kx kg : Nat -> St -> Option R) (kr : St -> Option R) (kp : A -> St -> Option R) (x0 : ∀ (o0 : Nat) (o1 : (List (List UInt8))) (s4 : A) (s8 : A), J φ (kx 0 (St.mk [(4, s4), (7, (A.sl 0 0 o0 false)), (8, s8)] [Blk.row true 1 (List.map (cL c8) o1)])) kL (K (o0, o1)) some) :
  ∀ (m : Nat) (v11 : Int) (v12 : (List (List UInt8))), J φ (loopR (cx C) (ec C n 8) (ey C n 8) (n+8) 49 0 0 1 kx kg kr kp m (St.mk [(4, (A.imm (List.map (cL c8) v9) true)), (7, (A.sl 0 0 v10 false)), (8, (iA v11))] [Blk.row true 1 (List.map (cL c8) v12)])) kL (F49_49_0 n v9 v10 m v11 v12) K := by
 intro m
 induction m with
 | zero => intros; exact .nn
 | succ m ih =>
  intro v11 v12
  refine .lp (e49_0 ..) ?_
  unfold F49_49_0
  refine .st (v := (iA ((v10 : Int)))) (row_len (e := 35) (by kernel_rfl) rfl rfl) ?_
  refine .st (v := (bA (decide (v11 < ((v10 : Int)))))) (aBin_lss ..) ?_
  refine .biHN (fun hk13 => ?_) (fun hk13 => ?_)
  ·refine .bd (g := fun (y : Nat × Nat) => (A.sl 0 y.1 y.2 false)) (wrow_cut0 (e := 35) (es := 1) (p := v11) (q := ((v10 : Nat) : Int)) (by kernel_rfl) (by kernel_rfl) rfl (.inr ⟨_, rfl⟩) (.inl ⟨rfl, rfl⟩)) fun k14 => ?_
   refine .bd (g := fun (y : Nat × Nat) => (A.sl 0 y.1 y.2 false)) (wrow_cut0 (e := 35) (es := 1) (p := 0) (q := v11) (by kernel_rfl) (by kernel_rfl) rfl (.inl ⟨rfl, rfl⟩) (.inr ⟨_, rfl⟩)) fun k15 => ?_
   refine .st (v := ((iA (((min ((List.take k15.2 (List.drop k15.1 v12))).length k14.2 : Nat) : Int))), [Blk.row true 1 (List.map (cL c8) ((copyI v12 k14.1 k14.2 ((List.take k15.2 (List.drop k15.1 v12))))))])) (wrow_copy (e := 35) (es := 1) (f := (cL c8)) (l := v12) (l2 := (List.take k15.2 (List.drop k15.1 v12))) (by kernel_rfl) (by kernel_rfl) (by decide) (fun _ => rfl) ce_cL (by decide) rfl (els_sub _ rfl)) ?_
   refine .st (v := (iA (wr .i64 (v11 + (((min ((List.take k15.2 (List.drop k15.1 v12))).length k14.2 : Nat) : Int)))))) (aBin_add ..) ?_
   refine .s [Blk.row true 1 (List.map (cL c8) ((copyI v12 k14.1 k14.2 ((List.take k15.2 (List.drop k15.1 v12))))))] ?_
   refine .cT (by kernel_rfl) ?_
   exact ih _ _
  exact .ex (x0 _ _ _ _)
def F49 (n : Nat) (a0 : (List (List UInt8))) (a1 : Int) : Option (List (List UInt8)) :=
 bif (decide (a1 < 0)) then (none) else ((G68 (wr .u64 ((a0.length : Int))) (wr .u64 (a1))).bind fun y2 => (bif (decide (0 < y2.1)) then (some true) else (some (decide (9223372036854775807 < y2.2)))).bind fun y4 => bif y4 then (none) else ((mkI 24 (wr .i64 (y2.2)) ([])).bind fun y8 => (F49_49_0 n ([]) y8.length (n+8) (((min a0.length y8.length : Nat) : Int)) ((copyI y8 0 y8.length a0))).bind fun o16 => match o16 with | (y17, y18) => some ((List.take y17 (List.drop 0 y18)))))
theorem T49 (C : Nat -> List A -> Option A) (n : Nat) (h68 : Orc68 C) (a0 : (List (List UInt8))) (a1 : Int) : J (fun (o : R) y => ∃ v, o.1 = .ret v /\ snapE o.2 v = (A.imm (List.map (cL c8) y) false)) (evCall1 (cx C) (ec C n 8) (ey C n 8) (n+8) 49 [(A.imm (List.map (cL c8) a0) false), (iA a1)] [] 0) some (F49 n a0 a1) some := by
 refine .lp (e49 ..) ?_
 unfold F49
 refine .st (v := (bA (decide (a1 < 0)))) (aBin_lss ..) ?_
 refine .biHN (fun hk1 => ?_) (fun hk1 => ?_)
 ·refine .s (A.ifc 9 (A.v (Value.string ((ByteArray.mk #[99, 97, 110, 110, 111, 116, 32, 98, 101, 32, 110, 101, 103, 97, 116, 105, 118, 101]))))) ?_
  exact .nn
 refine .st (v := (iA ((a0.length : Int)))) (len_imm (e := 35) (h1 := by kernel_rfl) ..) ?_
 refine .st (v := (A.v (.int .u64 (wr .u64 ((a0.length : Int)))))) (aConvert_int (hs := by kernel_rfl) (hd := by kernel_rfl) ..) ?_
 refine .st (v := (A.v (.int .u64 (wr .u64 (a1))))) (aConvert_int (hs := by kernel_rfl) (hd := by kernel_rfl) ..) ?_
 refine .bd (g := fun (y : (Int × Int)) => (A.tup [(A.v (.int .u64 y.1)), (A.v (.int .u64 y.2))])) (h68 (wr .u64 ((a0.length : Int))) (wr .u64 (a1))) fun y2 => ?_
 refine .s (A.v (.int .u64 y2.1)) (.s (A.v (.int .u64 y2.2)) ?_)
 refine .st (v := (bA (decide (0 < y2.1)))) (aBin_gtr ..) ?_
 refine .bg (fun t (y : Bool) => ∃ j5 j6 : A, t = [(bA y), j5, j6]) ?_ ?_
 ·refine .biH (fun hk3 => ?_) (fun hk3 => ?_)
  ·exact .lg ⟨_, _, rfl⟩
  refine .st (v := (bA (decide (9223372036854775807 < y2.2)))) (aBin_gtr ..) ?_
  exact .lg ⟨_, _, rfl⟩
 rintro _ y4 ⟨j5, j6, rfl⟩
 iterate 3 refine .uc ?_
 refine .biHN (fun hk7 => ?_) (fun hk7 => ?_)
 ·refine .s (A.ifc 9 (A.v (Value.string ((ByteArray.mk #[116, 104, 101, 32, 114, 101, 115, 117, 108, 116, 32, 111, 102, 32, 40, 108, 101, 110, 40, 120, 41, 32, 42, 32, 99, 111, 117, 110, 116, 41, 32, 111, 118, 101, 114, 102, 108, 111, 119, 115]))))) ?_
  exact .nn
 refine .st (v := (iA (wr .i64 (y2.2)))) (aConvert_int (hs := by kernel_rfl) (hd := by kernel_rfl) ..) ?_
 refine .bd (g := fun (y : List (List UInt8)) => ((A.sl 0 0 y.length false), [Blk.row true 1 (List.map (cL c8) y)])) (wrow_make (e := 35) (es := 1) (f := (cL c8)) (z := []) (z' := [(A.imm [] true)]) (by kernel_rfl) (by kernel_rfl) (by kernel_rfl) (by kernel_rfl) rfl (by decide) (fun _ => rfl)) fun y8 => ?_
 refine .st (v := ((iA (((min a0.length y8.length : Nat) : Int))), [Blk.row true 1 (List.map (cL c8) ((copyI y8 0 y8.length a0)))])) (wrow_copy (e := 35) (es := 1) (f := (cL c8)) (l := y8) (l2 := a0) (by kernel_rfl) (by kernel_rfl) (by decide) (fun _ => rfl) ce_cL (by decide) rfl (els_imm ..)) ?_
 refine .as (T49_49_0 C n h68 ([]) y8.length _ _ _ _ ?_ _ (((min a0.length y8.length : Nat) : Int)) ((copyI y8 0 y8.length a0)))
 ·intro y17 y18 j19 j20
  refine .un rfl ?_
  refine .cT (by kernel_rfl) ?_
  exact .lf rfl rfl ⟨_, rfl, by show snapE [Blk.row true 1 (List.map (cL c8) y18)] (A.sl 0 0 y17 false) = _; first | (simp only [sn0, snM, snapE, snapGE_sub (H := [Blk.row true 1 (List.map (cL c8) y18)]) (b := 0) (es := 1) (wr := true) (l := y18) (fl_cL fl_c8) rfl]; done) | (simp only [sn0, snS, snapE, snapGE_sub (H := [Blk.row true 1 (List.map (cL c8) y18)]) (b := 0) (es := 1) (wr := true) (l := y18) (fl_cL fl_c8) rfl]; first | done | rfl)⟩
def G49 (a0 : (List (List UInt8))) (a1 : Int) : Option (List (List UInt8)) := F49 fuel0 a0 a1
def Orc49 (C : Nat -> List A -> Option A) : Prop := ∀ (a0 : (List (List UInt8))) (a1 : Int), C 49 [(A.imm (List.map (cL c8) a0) false), (iA a1)] = (G49 a0 a1).map fun y => (A.imm (List.map (cL c8) y) false)
def F25 (n : Nat) (a0 : Int) : Option (S_Disk × Int) :=
 (bif (decide (a0 < 1)) then (some true) else (some (decide (4096 < a0)))).bind fun y2 => bif y2 then (some (((S_Disk.mk ([]) ([]) 0 false), 1))) else ((mkI 1 128 ((0 : UInt8))).bind fun y6 => (G49 ([y6]) a0).bind fun y7 => some (((S_Disk.mk y7 ([]) (-1) false), 0)))
theorem T25 (C : Nat -> List A -> Option A) (n : Nat) (h49 : Orc49 C) (a0 : Int) : J (fun (o : R) y => ∃ v, o.1 = .ret v /\ snapE o.2 v = (A.tup [(A.agg [(A.imm (List.map (cL c8) y.1.Sectors) false), (A.imm (List.map c_S_Write y.1.Pending) false), (iA y.1.Left), (bA y.1.Stopped)]), (iA y.2)])) (evCall1 (cx C) (ec C n 8) (ey C n 8) (n+8) 25 [(iA a0)] [] 0) some (F25 n a0) some := by
 refine .lp (e25 ..) ?_
 unfold F25
 refine .s ((A.ptr 0 0), [bz4]) ?_
 refine .st (v := (bA (decide (a0 < 1)))) (aBin_lss ..) ?_
 refine .bg (fun t (y : Bool) => ∃ j3 j4 : A, t = [(bA y), j3, j4]) ?_ ?_
 ·refine .biH (fun hk1 => ?_) (fun hk1 => ?_)
  ·exact .lg ⟨_, _, rfl⟩
  refine .st (v := (bA (decide (4096 < a0)))) (aBin_gtr ..) ?_
  exact .lg ⟨_, _, rfl⟩
 rintro _ y2 ⟨j3, j4, rfl⟩
 iterate 3 refine .uc ?_
 refine .biHN (fun hk5 => ?_) (fun hk5 => ?_)
 ·refine .s (A.agg [(A.imm [] true), (A.imm [] true), (iA 0), (bA false)]) (.s [bz4] (.s (A.agg [(A.imm [] true), (A.imm [] true), (iA 0), (bA false)]) ?_))
  exact .lf rfl rfl ⟨_, rfl, by show snapE _ (A.tup [(A.agg [(A.imm [] true), (A.imm [] true), (iA 0), (bA false)]), (iA 1)]) = _; first | (simp only [sn0, snM, snapE]; done) | (simp only [sn0, snS, snapE]; first | done | rfl)⟩
 refine .bd (g := fun (y : List UInt8) => ((A.sl 1 0 y.length false), [bz4, Blk.row true 1 (List.map c8 y)])) (wrow_make (e := 5) (es := 1) (f := c8) (z := (0 : UInt8)) (z' := [(uA 0)]) (by kernel_rfl) (by kernel_rfl) (by kernel_rfl) (by kernel_rfl) rfl (by decide) (fun _ => rfl)) fun y6 => ?_
 refine .st (v := ((A.imm (List.map c8 y6) false), [bz4, Blk.dead])) (kill_all (es := 1) (l := y6) fl_c8 rfl (by decide)) ?_
 refine .s (A.imm [[(A.imm (List.map c8 y6) false)]] true) ?_
 refine .bd (g := fun (y : (List (List UInt8))) => (A.imm (List.map (cL c8) y) false)) (by show C 49 [snap _ (A.imm [[(A.imm (List.map c8 y6) false)]] true), snap _ (iA a0)] = _; simp only [sn0, snM]; exact h49 ([y6]) a0) fun y7 => ?_
 refine .s (A.agg [(A.imm (List.map (cL c8) y7) false), (A.imm [] true), (iA (-1)), (bA false)]) (.s [Blk.box [(A.imm (List.map (cL c8) y7) false), (A.imm [] true), (iA (-1)), (bA false)], Blk.dead] (.s (A.agg [(A.imm (List.map (cL c8) y7) false), (A.imm [] true), (iA (-1)), (bA false)]) ?_))
 exact .lf rfl rfl ⟨_, rfl, by show snapE _ (A.tup [(A.agg [(A.imm (List.map (cL c8) y7) false), (A.imm [] true), (iA (-1)), (bA false)]), (iA 0)]) = _; first | (simp only [sn0, snM, snapE]; done) | (simp only [sn0, snS, snapE]; first | done | rfl)⟩
def G25 (a0 : Int) : Option (S_Disk × Int) := F25 fuel0 a0
def Orc25 (C : Nat -> List A -> Option A) : Prop := ∀ (a0 : Int), C 25 [(iA a0)] = (G25 a0).map fun y => (A.tup [(A.agg [(A.imm (List.map (cL c8) y.1.Sectors) false), (A.imm (List.map c_S_Write y.1.Pending) false), (iA y.1.Left), (bA y.1.Stopped)]), (iA y.2)])
def F56 (n : Nat) (a0 : (List UInt8)) : Option Bool :=
 some (((a0.length : Int)) == 128)
theorem T56 (C : Nat -> List A -> Option A) (n : Nat) (a0 : (List UInt8)) : J (fun (o : R) y => ∃ v, o.1 = .ret v /\ snapE o.2 v = (bA y)) (evCall1 (cx C) (ec C n 8) (ey C n 8) (n+8) 56 [(A.imm (List.map c8 a0) false)] [] 0) some (F56 n a0) some := by
 refine .lp (e56 ..) ?_
 unfold F56
 refine .st (v := (iA ((a0.length : Int)))) (len_imm (e := 5) (h1 := by kernel_rfl) ..) ?_
 refine .st (v := (bA (((a0.length : Int)) == 128))) (aBin_eql ..) ?_
 exact .lf rfl rfl ⟨_, rfl, rfl⟩
def G56 (a0 : (List UInt8)) : Option Bool := F56 fuel0 a0
def Orc56 (C : Nat -> List A -> Option A) : Prop := ∀ (a0 : (List UInt8)), C 56 [(A.imm (List.map c8 a0) false)] = (G56 a0).map fun y => (bA y)
def F59 (n : Nat) (a0 : (List UInt8)) : Option Bool :=
 (G56 a0).bind fun y1 => some (!y1)
theorem T59 (C : Nat -> List A -> Option A) (n : Nat) (h56 : Orc56 C) (a0 : (List UInt8)) : J (fun (o : R) y => ∃ v, o.1 = .ret v /\ snapE o.2 v = (bA y)) (evCall1 (cx C) (ec C n 8) (ey C n 8) (n+8) 59 [(A.imm (List.map c8 a0) false)] [] 0) some (F59 n a0) some := by
 refine .lp (e59 ..) ?_
 unfold F59
 refine .bd (g := fun (y : Bool) => (bA y)) (by show C 56 [snap _ (A.imm (List.map c8 a0) false)] = _; simp only [sn0, snM]; exact h56 a0) fun y1 => ?_
 refine .s (bA (!y1)) ?_
 exact .lf rfl rfl ⟨_, rfl, rfl⟩
def G59 (a0 : (List UInt8)) : Option Bool := F59 fuel0 a0
def Orc59 (C : Nat -> List A -> Option A) : Prop := ∀ (a0 : (List UInt8)), C 59 [(A.imm (List.map c8 a0) false)] = (G59 a0).map fun y => (bA y)
def F71_59_71_0 (n : Nat) (v1 : (List (List UInt8))) (v2 : Int) (v3 : Int) : Nat -> Int -> Option ((Int) ⊕ (Unit))
 | 0, _ => none
 | m + 1, v4 => bif (decide (v4 < v3)) then ((getI v1 v4).bind fun y6 => (G59 y6).bind fun y7 => bif y7 then (some ((Sum.inl v4))) else (F71_59_71_0 n v1 v2 v3 m (wr .i64 (v4 + 1)))) else (some ((Sum.inr (()))))
theorem T71_59_71_0 (C : Nat -> List A -> Option A) (n : Nat) (h59 : Orc59 C) (v1 : (List (List UInt8))) (v2 : Int) (v3 : Int) {ρ γ : Type} {φ : ρ -> γ -> Prop} {kL : R -> Option ρ} {K : ((Int) ⊕ (Unit)) -> Option γ} (kx kg : Nat -> St -> Option R) (kr : St -> Option R) (kp : A -> St -> Option R) (x0 : ∀ (o0 : Int) (s0 : A) (s1 : A) (s7 : A) (s8 : A), J φ (kr (St.mk [(0, s0), (1, s1), (4, (iA o0)), (7, s7), (8, s8)] [])) kL (K (Sum.inl o0)) some) (x1 : ∀ (s0 : A) (s1 : A) (s4 : A) (s7 : A) (s8 : A), J φ (kx 0 (St.mk [(0, s0), (1, s1), (4, s4), (7, s7), (8, s8)] [])) kL (K (Sum.inr (()))) some) :
  ∀ (m : Nat) (v4 : Int), J φ (loopR (cx C) (ec C n 8) (ey C n 8) (n+8) 71 0 0 0 kx kg kr kp m (St.mk [(0, (A.imm (List.map (cL c8) v1) false)), (1, (A.fn (Fn.func 59) [] [])), (4, (iA v2)), (7, (iA v3)), (8, (iA v4))] [])) kL (F71_59_71_0 n v1 v2 v3 m v4) K := by
 intro m
 induction m with
 | zero => intros; exact .nn
 | succ m ih =>
  intro v4
  refine .lp (e71_0 ..) ?_
  unfold F71_59_71_0
  refine .st (v := (bA (decide (v4 < v3)))) (aBin_lss ..) ?_
  refine .biHN (fun hk5 => ?_) (fun hk5 => ?_)
  ·refine .bd (g := fun (y : (List UInt8)) => A.ip ((cL c8) y)) (idx_imm (e := 35) (es := 1) (h1 := by kernel_rfl) (h2 := by kernel_rfl) (h3 := fun _ => rfl) ..) fun y6 => ?_
   refine .s (A.imm (List.map c8 y6) false) ?_
   refine .dO (by kernel_rfl) (by kernel_rfl) ?_
   refine .bd (g := fun (y : Bool) => (bA y)) (by simp only [List.nil_append, List.cons_append, List.append_nil, sn0, snM]; exact h59 y6) fun y7 => ?_
   refine .biHN (fun hk8 => ?_) (fun hk8 => ?_)
   ·exact .ex (x0 _ _ _ _ _)
   refine .st (v := (iA (wr .i64 (v4 + 1)))) (aBin_add ..) ?_
   refine .s [] ?_
   refine .cT (by kernel_rfl) ?_
   exact ih _
  exact .ex (x1 _ _ _ _ _)
def F71_59 (n : Nat) (a0 : (List (List UInt8))) : Option Int :=
 (F71_59_71_0 n a0 0 ((a0.length : Int)) (n+8) 0).bind fun o9 => match o9 with | (Sum.inl y10) => some y10 | (Sum.inr _) => some (-1)
theorem T71_59 (C : Nat -> List A -> Option A) (n : Nat) (h59 : Orc59 C) (a0 : (List (List UInt8))) : J (fun (o : R) y => ∃ v, o.1 = .ret v /\ snapE o.2 v = (iA y)) (evCall1 (cx C) (ec C n 8) (ey C n 8) (n+8) 71 [(A.imm (List.map (cL c8) a0) false), (A.fn (Fn.func 59) [] [])] [] 0) some (F71_59 n a0) some := by
 refine .lp (e71 ..) ?_
 unfold F71_59
 refine .st (v := (iA ((a0.length : Int)))) (len_imm (e := 35) (h1 := by kernel_rfl) ..) ?_
 refine .as (T71_59_71_0 C n h59 a0 0 ((a0.length : Int)) _ _ _ _ ?_ ?_ _ 0)
 ·intro y10 j11 j12 j13 j14
  refine .un rfl ?_
  exact .lf rfl rfl ⟨_, rfl, rfl⟩
 ·intro j15 j16 j17 j18 j19
  refine .un rfl ?_
  refine .cT (by kernel_rfl) ?_
  exact .lf rfl rfl ⟨_, rfl, rfl⟩
def G71_59 (a0 : (List (List UInt8))) : Option Int := F71_59 fuel0 a0
def Orc71_59 (C : Nat -> List A -> Option A) : Prop := ∀ (a0 : (List (List UInt8))), C 71 [(A.imm (List.map (cL c8) a0) false), (A.fn (Fn.func 59) [] [])] = (G71_59 a0).map fun y => (iA y)
def F58_59 (n : Nat) (a0 : (List (List UInt8))) : Option Bool :=
 (G71_59 a0).bind fun y1 => some (decide (0 <= y1))
theorem T58_59 (C : Nat -> List A -> Option A) (n : Nat) (h71_59 : Orc71_59 C) (a0 : (List (List UInt8))) : J (fun (o : R) y => ∃ v, o.1 = .ret v /\ snapE o.2 v = (bA y)) (evCall1 (cx C) (ec C n 8) (ey C n 8) (n+8) 58 [(A.imm (List.map (cL c8) a0) false), (A.fn (Fn.func 59) [] [])] [] 0) some (F58_59 n a0) some := by
 refine .lp (e58 ..) ?_
 unfold F58_59
 refine .bd (g := fun (y : Int) => (iA y)) (by show C 71 [snap _ (A.imm (List.map (cL c8) a0) false), snap [] (A.fn (Fn.func 59) [] [])] = _; simp only [sn0, snM]; exact h71_59 a0) fun y1 => ?_
 refine .st (v := (bA (decide (0 <= y1)))) (aBin_geq ..) ?_
 exact .lf rfl rfl ⟨_, rfl, rfl⟩
def G58_59 (a0 : (List (List UInt8))) : Option Bool := F58_59 fuel0 a0
def Orc58_59 (C : Nat -> List A -> Option A) : Prop := ∀ (a0 : (List (List UInt8))), C 58 [(A.imm (List.map (cL c8) a0) false), (A.fn (Fn.func 59) [] [])] = (G58_59 a0).map fun y => (bA y)
def F31_70_0 (n : Nat) (v26 : (List S_Write)) (v27 : Int) (v28 : Int) (v30 : S_Disk) (v31 : Int) : Nat -> Int -> Option ((Int × Int × (List UInt8)) ⊕ (Unit))
 | 0, _ => none
 | m + 1, v29 => bif (decide (v29 < v28)) then ((getI v26 v29).bind fun y33 => (bif (decide (y33.At < 0)) then (some true) else (some (decide (v31 <= y33.At)))).bind fun y35 => (bif y35 then (some true) else ((G56 y33.Data).bind fun y41 => some (!y41))).bind fun y42 => bif y42 then (some ((Sum.inl ((v29, y33.At, y33.Data))))) else (F31_70_0 n v26 v27 v28 v30 v31 m (wr .i64 (v29 + 1)))) else (some ((Sum.inr (()))))
theorem T31_70_0 (C : Nat -> List A -> Option A) (n : Nat) (h56 : Orc56 C) (h58_59 : Orc58_59 C) (v26 : (List S_Write)) (v27 : Int) (v28 : Int) (v30 : S_Disk) (v31 : Int) {ρ γ : Type} {φ : ρ -> γ -> Prop} {kL : R -> Option ρ} {K : ((Int × Int × (List UInt8)) ⊕ (Unit)) -> Option γ} (kx kg : Nat -> St -> Option R) (kr : St -> Option R) (kp : A -> St -> Option R) (x0 : ∀ (o0 : Int) (o1 : Int) (o2 : (List UInt8)) (s0 : A) (s1 : A) (s7 : A) (s8 : A), J φ (kr (St.mk [(0, s0), (1, s1), (4, (iA o0)), (7, s7), (8, s8)] [Blk.box (c_S_Disk v30), Blk.box [(iA v31)], Blk.box [(iA o1), (A.imm (List.map c8 o2) false)]])) kL (K (Sum.inl ((o0, o1, o2)))) some) (x1 : ∀ (s0 : A) (s1 : A) (s4 : A) (s7 : A) (s8 : A), J φ (kx 0 (St.mk [(0, s0), (1, s1), (4, s4), (7, s7), (8, s8)] [Blk.box (c_S_Disk v30), Blk.box [(iA v31)]])) kL (K (Sum.inr (()))) some) :
  ∀ (m : Nat) (v29 : Int), J φ (loopR (cx C) (evCall (cx C) (n+6)) (evCallY (cx C) (n+6)) (n+6) 70 0 0 2 kx kg kr kp m (St.mk [(0, (A.imm (List.map c_S_Write v26) false)), (1, (A.fn (Fn.func 55) [] [(A.ptr 1 0)])), (4, (iA v27)), (7, (iA v28)), (8, (iA v29))] [Blk.box (c_S_Disk v30), Blk.box [(iA v31)]])) kL (F31_70_0 n v26 v27 v28 v30 v31 m v29) K := by
 intro m
 induction m with
 | zero => intros; exact .nn
 | succ m ih =>
  intro v29
  refine .lp (e70_0 ..) ?_
  unfold F31_70_0
  refine .st (v := (bA (decide (v29 < v28)))) (aBin_lss ..) ?_
  refine .biHN (fun hk32 => ?_) (fun hk32 => ?_)
  ·refine .bd (g := fun (y : S_Write) => A.ip (c_S_Write y)) (idx_imm (e := 76) (es := 2) (h1 := by kernel_rfl) (h2 := by kernel_rfl) (h3 := fun _ => rfl) ..) fun y33 => ?_
   refine .s (A.agg [(iA y33.At), (A.imm (List.map c8 y33.Data) false)]) ?_
   refine .dC (by kernel_rfl) (by kernel_rfl) ?_
   refine .cl ((evCall_in lt_55).trans (e55 C (evCall (cx C) (n+5)) (evCallY (cx C) (n+5)) (n+5) _ _ _ _)) ?_
   refine .s ((A.ptr 2 0), [Blk.box (c_S_Disk v30), Blk.box [(iA v31)], Blk.box [(iA y33.At), (A.imm (List.map c8 y33.Data) false)]]) (.s (A.ptr 2 0) (.s (iA y33.At) ?_))
   refine .st (v := (bA (decide (y33.At < 0)))) (aBin_lss ..) ?_
   refine .bg (fun t (y : Bool) => ∃ j36 j37 j38 j39 : A, t = [(bA y), j36, j37, j38, j39]) ?_ ?_
   ·refine .biH (fun hk34 => ?_) (fun hk34 => ?_)
    ·exact .lg ⟨_, _, _, _, rfl⟩
    refine .s (A.ptr 2 0) (.s (iA y33.At) (.s (iA v31) ?_))
    refine .st (v := (bA (decide (v31 <= y33.At)))) (aBin_geq ..) ?_
    exact .lg ⟨_, _, _, _, rfl⟩
   rintro _ y35 ⟨j36, j37, j38, j39, rfl⟩
   iterate 5 refine .uc ?_
   refine .bg (fun t (y : Bool) => ∃ j43 j44 j45 j46 : A, t = [(bA y), j43, j44, j45, j46]) ?_ ?_
   ·refine .biH (fun hk40 => ?_) (fun hk40 => ?_)
    ·exact .lg ⟨_, _, _, _, rfl⟩
    refine .s (A.ptr 2 1) (.s (A.imm (List.map c8 y33.Data) false) ?_)
    refine .bd (g := fun (y : Bool) => (bA y)) (by show C 56 [snap _ (A.imm (List.map c8 y33.Data) false)] = _; simp only [sn0, snM]; exact h56 y33.Data) fun y41 => ?_
    refine .s (bA (!y41)) ?_
    exact .lg ⟨_, _, _, _, rfl⟩
   rintro _ y42 ⟨j43, j44, j45, j46, rfl⟩
   iterate 5 refine .uc ?_
   refine .cr ?_
   refine .ok ?_
   refine .biHN (fun hk47 => ?_) (fun hk47 => ?_)
   ·exact .ex (x0 _ _ _ _ _ _ _)
   refine .st (v := (iA (wr .i64 (v29 + 1)))) (aBin_add ..) ?_
   refine .st (v := [Blk.box (c_S_Disk v30), Blk.box [(iA v31)]]) ((by kernel_rfl : _ = (bif ((((underss 2 (List.map (cL c8) v30.Sectors)) && ((underss 2 (List.map c_S_Write v30.Pending)) && true))) && true) then some [Blk.box (c_S_Disk v30), Blk.box [(iA v31)]] else none)).trans (by simp only [un0, unS])) ?_
   refine .cT ((by kernel_rfl : _ = (bif underss 2 (List.map c_S_Write v26) then true else false)).trans (by simp only [un0, unS])) ?_
   exact ih _
  exact .ex (x1 _ _ _ _ _)
def F31 (n : Nat) (a0 : S_Disk) : Option Int :=
 (bif (decide (((a0.Sectors.length : Int)) < 1)) then (some true) else (some (decide (4096 < ((a0.Sectors.length : Int)))))).bind fun y2 => (bif y2 then (some true) else (some (decide (4096 < ((a0.Pending.length : Int)))))).bind fun y6 => (bif y6 then (some true) else (some (decide (a0.Left < (-1))))).bind fun y12 => (bif y12 then (some true) else (some (decide (65536 < a0.Left)))).bind fun y17 => bif y17 then ((some (())).bind fun y69 => (some (())).bind fun y70 => (some true).bind fun y71 => bif y71 then (some 40) else ((G58_59 a0.Sectors).bind fun y73 => bif y73 then (some 40) else (some 0))) else ((some a0.Pending).bind fun y24 => (some (())).bind fun y25 => (F31_70_0 n y24 0 ((y24.length : Int)) a0 ((a0.Sectors.length : Int)) (n+6) 0).bind fun o48 => match o48 with | (Sum.inl ((y49, y50, y51))) => (some (decide (0 <= y49))).bind fun y56 => bif y56 then (some 40) else ((G58_59 a0.Sectors).bind fun y58 => bif y58 then (some 40) else (some 0)) | (Sum.inr _) => (some false).bind fun y65 => bif y65 then (some 40) else ((G58_59 a0.Sectors).bind fun y67 => bif y67 then (some 40) else (some 0)))
theorem T31 (C : Nat -> List A -> Option A) (n : Nat) (h56 : Orc56 C) (h58_59 : Orc58_59 C) (a0 : S_Disk) : J (fun (o : R) y => ∃ v, o.1 = .ret v /\ snapE o.2 v = (iA y)) (evCall1 (cx C) (ec C n 8) (ey C n 8) (n+8) 31 [(A.agg (c_S_Disk a0))] [] 0) some (F31 n a0) some := by
 refine .lp (e31 ..) ?_
 unfold F31
 refine .s ((A.ptr 0 0), [Blk.box (c_S_Disk a0)]) (.s (A.ptr 0 0) (.s (A.imm (List.map (cL c8) a0.Sectors) false) ?_))
 refine .st (v := (iA ((a0.Sectors.length : Int)))) (len_imm (e := 35) (h1 := by kernel_rfl) ..) ?_
 refine .s ((A.ptr 1 0), [Blk.box (c_S_Disk a0), Blk.box [(iA 0)]]) (.s [Blk.box (c_S_Disk a0), Blk.box [(iA ((a0.Sectors.length : Int)))]] (.s (iA ((a0.Sectors.length : Int))) ?_))
 refine .st (v := (bA (decide (((a0.Sectors.length : Int)) < 1)))) (aBin_lss ..) ?_
 refine .bg (fun t (y : Bool) => ∃ j3 j4 : A, t = [(bA y), j3, j4]) ?_ ?_
 ·refine .biH (fun hk1 => ?_) (fun hk1 => ?_)
  ·exact .lg ⟨_, _, rfl⟩
  refine .s (iA ((a0.Sectors.length : Int))) ?_
  refine .st (v := (bA (decide (4096 < ((a0.Sectors.length : Int)))))) (aBin_gtr ..) ?_
  exact .lg ⟨_, _, rfl⟩
 rintro _ y2 ⟨j3, j4, rfl⟩
 iterate 3 refine .uc ?_
 refine .bg (fun t (y : Bool) => ∃ j7 j8 j9 j10 : A, t = [(bA y), j7, j8, j9, j10]) ?_ ?_
 ·refine .biH (fun hk5 => ?_) (fun hk5 => ?_)
  ·exact .lg ⟨_, _, _, _, rfl⟩
  refine .s (A.ptr 0 1) (.s (A.imm (List.map c_S_Write a0.Pending) false) ?_)
  refine .st (v := (iA ((a0.Pending.length : Int)))) (len_imm (e := 76) (h1 := by kernel_rfl) ..) ?_
  refine .st (v := (bA (decide (4096 < ((a0.Pending.length : Int)))))) (aBin_gtr ..) ?_
  exact .lg ⟨_, _, _, _, rfl⟩
 rintro _ y6 ⟨j7, j8, j9, j10, rfl⟩
 iterate 5 refine .uc ?_
 refine .bg (fun t (y : Bool) => ∃ j13 j14 j15 : A, t = [(bA y), j13, j14, j15]) ?_ ?_
 ·refine .biH (fun hk11 => ?_) (fun hk11 => ?_)
  ·exact .lg ⟨_, _, _, rfl⟩
  refine .s (A.ptr 0 2) (.s (iA a0.Left) ?_)
  refine .st (v := (bA (decide (a0.Left < (-1))))) (aBin_lss ..) ?_
  exact .lg ⟨_, _, _, rfl⟩
 rintro _ y12 ⟨j13, j14, j15, rfl⟩
 iterate 4 refine .uc ?_
 refine .bg (fun t (y : Bool) => ∃ j18 j19 j20 : A, t = [(bA y), j18, j19, j20]) ?_ ?_
 ·refine .biH (fun hk16 => ?_) (fun hk16 => ?_)
  ·exact .lg ⟨_, _, _, rfl⟩
  refine .s (A.ptr 0 2) (.s (iA a0.Left) ?_)
  refine .st (v := (bA (decide (65536 < a0.Left)))) (aBin_gtr ..) ?_
  exact .lg ⟨_, _, _, rfl⟩
 rintro _ y17 ⟨j18, j19, j20, rfl⟩
 iterate 4 refine .uc ?_
 refine .gsf (fun hc23 => ?_) (fun hc23 => ?_)
 ·refine .bb ?_
  refine .s (A.ptr 0 1) ?_
  refine .cr ?_
  refine .bg (fun t (y : (List S_Write)) =>  t = (A.imm (List.map c_S_Write y) false)) ?_ ?_
  ·refine .lp (gIf_knownFF hc23) ?_
   refine .s (A.imm (List.map c_S_Write a0.Pending) false) ?_
   exact .lg rfl
  rintro _ y24 rfl
  refine .bg (fun t (y : Unit) =>  t = (A.fn (Fn.func 55) [] [(A.ptr 1 0)])) ?_ ?_
  ·refine .lp (gIf_knownFF hc23) ?_
   exact .lg rfl
  rintro _ y25 rfl
  refine .lp (gIf_knownFF hc23) ?_
  refine .cl ((evCall_in lt_57).trans (e57 C (ec C n 7) (ey C n 7) (n+7) _ _ _ _)) ?_
  refine .cl ((evCall_in lt_70).trans (e70 C (evCall (cx C) (n+6)) (evCallY (cx C) (n+6)) (n+6) _ _ _ _)) ?_
  refine .st (v := (iA ((y24.length : Int)))) (len_imm (e := 76) (h1 := by kernel_rfl) ..) ?_
  refine .as (T31_70_0 C n h56 h58_59 y24 0 ((y24.length : Int)) a0 ((a0.Sectors.length : Int)) _ _ _ _ ?_ ?_ _ 0)
  ·intro y49 y50 y51 j52 j53 j54 j55
   refine .un rfl ?_
   refine .cr ?_
   refine .ok ?_
   refine .st (v := (bA (decide (0 <= y49)))) (aBin_geq ..) ?_
   refine .cr ?_
   refine .ok ?_
   refine .bg (fun t (y : Bool) =>  t = (bA y)) ?_ ?_
   ·refine .bKF hc23 ?_
    exact .lg rfl
   rintro _ y56 rfl
   refine .biHN (fun hk57 => ?_) (fun hk57 => ?_)
   ·exact .lf rfl rfl ⟨_, rfl, rfl⟩
   refine .s (A.ptr 0 0) (.s (A.imm (List.map (cL c8) a0.Sectors) false) ?_)
   refine .bd (g := fun (y : Bool) => (bA y)) (by show C 58 [snap _ (A.imm (List.map (cL c8) a0.Sectors) false), snap [Blk.box (c_S_Disk a0), Blk.box [(iA ((a0.Sectors.length : Int)))], Blk.box [(iA y50), (A.imm (List.map c8 y51) false)]] (A.fn (Fn.func 59) [] [])] = _; simp only [sn0, snM]; exact h58_59 a0.Sectors) fun y58 => ?_
   refine .biHN (fun hk59 => ?_) (fun hk59 => ?_)
   ·exact .lf rfl rfl ⟨_, rfl, rfl⟩
   exact .lf rfl rfl ⟨_, rfl, rfl⟩
  ·intro j60 j61 j62 j63 j64
   refine .un rfl ?_
   refine .cT (by kernel_rfl) ?_
   refine .cr ?_
   refine .ok ?_
   refine .s (bA false) ?_
   refine .cr ?_
   refine .ok ?_
   refine .bg (fun t (y : Bool) =>  t = (bA y)) ?_ ?_
   ·refine .bKF hc23 ?_
    exact .lg rfl
   rintro _ y65 rfl
   refine .biHN (fun hk66 => ?_) (fun hk66 => ?_)
   ·exact .lf rfl rfl ⟨_, rfl, rfl⟩
   refine .s (A.ptr 0 0) (.s (A.imm (List.map (cL c8) a0.Sectors) false) ?_)
   refine .bd (g := fun (y : Bool) => (bA y)) (by show C 58 [snap _ (A.imm (List.map (cL c8) a0.Sectors) false), snap [Blk.box (c_S_Disk a0), Blk.box [(iA ((a0.Sectors.length : Int)))]] (A.fn (Fn.func 59) [] [])] = _; simp only [sn0, snM]; exact h58_59 a0.Sectors) fun y67 => ?_
   refine .biHN (fun hk68 => ?_) (fun hk68 => ?_)
   ·exact .lf rfl rfl ⟨_, rfl, rfl⟩
   exact .lf rfl rfl ⟨_, rfl, rfl⟩
 refine .bb ?_
 refine .cr ?_
 refine .bg (fun t (y : Unit) =>  t = (A.v undef)) ?_ ?_
 ·refine .lp (gIf_knownFT hc23) ?_
  exact .lg rfl
 rintro _ y69 rfl
 refine .bg (fun t (y : Unit) =>  t = (A.v undef)) ?_ ?_
 ·refine .lp (gIf_knownFT hc23) ?_
  exact .lg rfl
 rintro _ y70 rfl
 refine .lp (gIf_knownFT hc23) ?_
 refine .bg (fun t (y : Bool) =>  t = (bA y)) ?_ ?_
 ·refine .bKT hc23 ?_
  exact .lg rfl
 rintro _ y71 rfl
 refine .biHN (fun hk72 => ?_) (fun hk72 => ?_)
 ·exact .lf rfl rfl ⟨_, rfl, rfl⟩
 refine .s (A.ptr 0 0) (.s (A.imm (List.map (cL c8) a0.Sectors) false) ?_)
 refine .bd (g := fun (y : Bool) => (bA y)) (by show C 58 [snap _ (A.imm (List.map (cL c8) a0.Sectors) false), snap [Blk.box (c_S_Disk a0), Blk.box [(iA ((a0.Sectors.length : Int)))]] (A.fn (Fn.func 59) [] [])] = _; simp only [sn0, snM]; exact h58_59 a0.Sectors) fun y73 => ?_
 refine .biHN (fun hk74 => ?_) (fun hk74 => ?_)
 ·exact .lf rfl rfl ⟨_, rfl, rfl⟩
 exact .lf rfl rfl ⟨_, rfl, rfl⟩
def G31 (a0 : S_Disk) : Option Int := F31 fuel0 a0
def Orc31 (C : Nat -> List A -> Option A) : Prop := ∀ (a0 : S_Disk), C 31 [(A.agg (c_S_Disk a0))] = (G31 a0).map fun y => (iA y)
def F41_41_0 (n : Nat) (v2 : (List UInt8)) (v3 : Int) : Nat -> Int -> Int -> Option (Int)
 | 0, _, _ => none
 | m + 1, v1, v4 => bif (decide (v4 < v3)) then ((getI v2 v4).bind fun y6 => F41_41_0 n v2 v3 m (orI .u64 (shlI .u64 v1 8) (wr .u64 ((y6.toNat : Int)))) (wr .i64 (v4 + 1))) else (some v1)
theorem T41_41_0 (C : Nat -> List A -> Option A) (n : Nat) (v2 : (List UInt8)) (v3 : Int) {ρ γ : Type} {φ : ρ -> γ -> Prop} {kL : R -> Option ρ} {K : (Int) -> Option γ} (kx kg : Nat -> St -> Option R) (kr : St -> Option R) (kp : A -> St -> Option R) (x0 : ∀ (o0 : Int) (s5 : A) (s6 : A) (s7 : A), J φ (kx 0 (St.mk [(2, (A.v (.int .u64 o0))), (5, s5), (6, s6), (7, s7)] [])) kL (K o0) some) :
  ∀ (m : Nat) (v1 : Int) (v4 : Int), J φ (loopR (cx C) (ec C n 8) (ey C n 8) (n+8) 41 0 0 0 kx kg kr kp m (St.mk [(2, (A.v (.int .u64 v1))), (5, (A.imm (List.map c8 v2) false)), (6, (iA v3)), (7, (iA v4))] [])) kL (F41_41_0 n v2 v3 m v1 v4) K := by
 intro m
 induction m with
 | zero => intros; exact .nn
 | succ m ih =>
  intro v1 v4
  refine .lp (e41_0 ..) ?_
  unfold F41_41_0
  refine .st (v := (bA (decide (v4 < v3)))) (aBin_lss ..) ?_
  refine .biHN (fun hk5 => ?_) (fun hk5 => ?_)
  ·refine .bd (g := fun (y : UInt8) => A.ip (c8 y)) (idx_imm (e := 5) (es := 1) (h1 := by kernel_rfl) (h2 := by kernel_rfl) (h3 := fun _ => rfl) ..) fun y6 => ?_
   refine .s (uA ((y6.toNat : Int))) ?_
   refine .st (v := (A.v (.int .u64 (shlI .u64 v1 8)))) (aBin_shl (hb := by decide) ..) ?_
   refine .st (v := (A.v (.int .u64 (wr .u64 ((y6.toNat : Int)))))) (aConvert_int (hs := by kernel_rfl) (hd := by kernel_rfl) ..) ?_
   refine .st (v := (A.v (.int .u64 (orI .u64 (shlI .u64 v1 8) (wr .u64 ((y6.toNat : Int))))))) (aBin_bits_or ..) ?_
   refine .st (v := (iA (wr .i64 (v4 + 1)))) (aBin_add ..) ?_
   refine .s [] ?_
   refine .cT (by kernel_rfl) ?_
   exact ih _ _
  exact .ex (x0 _ _ _ _)
def F41 (n : Nat) (a0 : (List UInt8)) : Option Int :=
 (F41_41_0 n a0 ((a0.length : Int)) (n+8) 0 0).bind fun o7 => match o7 with | y8 => some y8
theorem T41 (C : Nat -> List A -> Option A) (n : Nat) (a0 : (List UInt8)) : J (fun (o : R) y => ∃ v, o.1 = .ret v /\ snapE o.2 v = (A.v (.int .u64 y))) (evCall1 (cx C) (ec C n 8) (ey C n 8) (n+8) 41 [(A.imm (List.map c8 a0) false)] [] 0) some (F41 n a0) some := by
 refine .lp (e41 ..) ?_
 unfold F41
 refine .st (v := (iA ((a0.length : Int)))) (len_imm (e := 5) (h1 := by kernel_rfl) ..) ?_
 refine .as (T41_41_0 C n  a0 ((a0.length : Int)) _ _ _ _ ?_ _ 0 0)
 ·intro y8 j9 j10 j11
  refine .un rfl ?_
  refine .cT (by kernel_rfl) ?_
  exact .lf rfl rfl ⟨_, rfl, rfl⟩
def G41 (a0 : (List UInt8)) : Option Int := F41 fuel0 a0
def Orc41 (C : Nat -> List A -> Option A) : Prop := ∀ (a0 : (List UInt8)), C 41 [(A.imm (List.map c8 a0) false)] = (G41 a0).map fun y => (A.v (.int .u64 y))
def F44_64_0 (n : Nat) (v1 : Int) (v2 : Int) : Nat -> Int -> (List UInt8) -> Option ((List UInt8))
 | 0, _, _ => none
 | m + 1, v3, v4 => bif (decide (v3 < v2)) then (bif decide (0 <= (wr .i64 (8 * v3))) then ((idxN 4 (wr .i64 (3 - v3))).bind fun k6 => bif (decide (0 <= (wr .u8 (shrI .u64 v1 (wr .i64 (8 * v3))))) && decide ((wr .u8 (shrI .u64 v1 (wr .i64 (8 * v3)))) < 256)) then ((modI v4 k6 (fun (y : UInt8) => (UInt8.ofNat (Int.toNat (wr .u8 (shrI .u64 v1 (wr .i64 (8 * v3)))))))).bind fun y7 => F44_64_0 n v1 v2 m (wr .i64 (v3 + 1)) y7) else none) else none) else (some v4)
theorem T44_64_0 (C : Nat -> List A -> Option A) (n : Nat) (v1 : Int) (v2 : Int) {ρ γ : Type} {φ : ρ -> γ -> Prop} {kL : R -> Option ρ} {K : ((List UInt8)) -> Option γ} (kx kg : Nat -> St -> Option R) (kr : St -> Option R) (kp : A -> St -> Option R) (x0 : ∀ (o0 : (List UInt8)) (s0 : A) (s1 : A) (s6 : A) (s7 : A), J φ (kx 0 (St.mk [(0, s0), (1, s1), (6, s6), (7, s7)] [Blk.row true 1 (List.map c8 o0)])) kL (K o0) some) :
  ∀ (m : Nat) (v3 : Int) (v4 : (List UInt8)), J φ (loopR (cx C) (ec C n 7) (ey C n 7) (n+7) 64 0 0 1 kx kg kr kp m (St.mk [(0, (A.sl 0 0 4 false)), (1, (A.v (.int .u64 v1))), (6, (iA v2)), (7, (iA v3))] [Blk.row true 1 (List.map c8 v4)])) kL (F44_64_0 n v1 v2 m v3 v4) K := by
 intro m
 induction m with
 | zero => intros; exact .nn
 | succ m ih =>
  intro v3 v4
  refine .lp (e64_0 ..) ?_
  unfold F44_64_0
  refine .st (v := (bA (decide (v3 < v2)))) (aBin_lss ..) ?_
  refine .biHN (fun hk5 => ?_) (fun hk5 => ?_)
  ·refine .s (iA 4) (.s (iA 3) ?_)
   refine .st (v := (iA (wr .i64 (3 - v3)))) (aBin_sub ..) ?_
   refine .st (v := (iA (wr .i64 (8 * v3)))) (aBin_mul ..) ?_
   refine .gd fun hg => ?_
   refine .st (v := (A.v (.int .u64 (shrI .u64 v1 (wr .i64 (8 * v3)))))) (aBin_shr (hb := of_decide_eq_true hg) ..) ?_
   refine .st (v := (uA (wr .u8 (shrI .u64 v1 (wr .i64 (8 * v3)))))) (aConvert_int (hs := by kernel_rfl) (hd := by kernel_rfl) ..) ?_
   refine .bd (g := fun (y : Nat) => A.ep 0 y 0) (wrow_idx0 (e := 5) (es := 1) (l := v4) (by kernel_rfl) (by kernel_rfl) rfl) fun k6 => ?_
   refine .gd fun hg => ?_
   refine .bd (g := fun (y : List UInt8) => [Blk.row true 1 (List.map c8 y)]) ((congrArg (fun z => aStore _ _ _ (A.v (.int .u8 z)) _ _) (u8_back hg).symm).trans ((wrow_store (es := 1) (n := 1) (l := v4) (xs := [(uA (((UInt8.ofNat (Int.toNat (wr .u8 (shrI .u64 v1 (wr .i64 (8 * v3)))))).toNat : Int)))]) (u := fun (y : UInt8) => (UInt8.ofNat (Int.toNat (wr .u8 (shrI .u64 v1 (wr .i64 (8 * v3))))))) (by kernel_rfl) (by kernel_rfl) (by decide) rfl (fun _ => rfl) (by decide) (by decide) rfl (fun _ => rfl)))) fun y7 => ?_
   refine .st (v := (iA (wr .i64 (v3 + 1)))) (aBin_add ..) ?_
   refine .s [Blk.row true 1 (List.map c8 y7)] ?_
   refine .cT (by kernel_rfl) ?_
   exact ih _ _
  exact .ex (x0 _ _ _ _ _)
def F44_64_0a (n : Nat) (v14 : Int) (v15 : Int) : Nat -> Int -> (List UInt8) -> Option ((List UInt8))
 | 0, _, _ => none
 | m + 1, v16, v17 => bif (decide (v16 < v15)) then (bif decide (0 <= (wr .i64 (8 * v16))) then ((idxN 2 (wr .i64 (1 - v16))).bind fun k19 => bif (decide (0 <= (wr .u8 (shrI .u64 v14 (wr .i64 (8 * v16))))) && decide ((wr .u8 (shrI .u64 v14 (wr .i64 (8 * v16)))) < 256)) then ((modI v17 (8 + k19) (fun (y : UInt8) => (UInt8.ofNat (Int.toNat (wr .u8 (shrI .u64 v14 (wr .i64 (8 * v16)))))))).bind fun y20 => F44_64_0a n v14 v15 m (wr .i64 (v16 + 1)) y20) else none) else none) else (some v17)
theorem T44_64_0a (C : Nat -> List A -> Option A) (n : Nat) (v14 : Int) (v15 : Int) {ρ γ : Type} {φ : ρ -> γ -> Prop} {kL : R -> Option ρ} {K : ((List UInt8)) -> Option γ} (kx kg : Nat -> St -> Option R) (kr : St -> Option R) (kp : A -> St -> Option R) (x0 : ∀ (o0 : (List UInt8)) (s0 : A) (s1 : A) (s6 : A) (s7 : A), J φ (kx 0 (St.mk [(0, s0), (1, s1), (6, s6), (7, s7)] [Blk.row true 1 (List.map c8 o0)])) kL (K o0) some) :
  ∀ (m : Nat) (v16 : Int) (v17 : (List UInt8)), J φ (loopR (cx C) (ec C n 7) (ey C n 7) (n+7) 64 0 0 1 kx kg kr kp m (St.mk [(0, (A.sl 0 8 2 false)), (1, (A.v (.int .u64 v14))), (6, (iA v15)), (7, (iA v16))] [Blk.row true 1 (List.map c8 v17)])) kL (F44_64_0a n v14 v15 m v16 v17) K := by
 intro m
 induction m with
 | zero => intros; exact .nn
 | succ m ih =>
  intro v16 v17
  refine .lp (e64_0 ..) ?_
  unfold F44_64_0a
  refine .st (v := (bA (decide (v16 < v15)))) (aBin_lss ..) ?_
  refine .biHN (fun hk18 => ?_) (fun hk18 => ?_)
  ·refine .s (iA 2) (.s (iA 1) ?_)
   refine .st (v := (iA (wr .i64 (1 - v16)))) (aBin_sub ..) ?_
   refine .st (v := (iA (wr .i64 (8 * v16)))) (aBin_mul ..) ?_
   refine .gd fun hg => ?_
   refine .st (v := (A.v (.int .u64 (shrI .u64 v14 (wr .i64 (8 * v16)))))) (aBin_shr (hb := of_decide_eq_true hg) ..) ?_
   refine .st (v := (uA (wr .u8 (shrI .u64 v14 (wr .i64 (8 * v16)))))) (aConvert_int (hs := by kernel_rfl) (hd := by kernel_rfl) ..) ?_
   refine .bd (g := fun (y : Nat) => A.ep 0 (8 + y) 0) (wrow_idx (e := 5) (es := 1) (l := v17) (by kernel_rfl) (by kernel_rfl) rfl) fun k19 => ?_
   refine .gd fun hg => ?_
   refine .bd (g := fun (y : List UInt8) => [Blk.row true 1 (List.map c8 y)]) ((congrArg (fun z => aStore _ _ _ (A.v (.int .u8 z)) _ _) (u8_back hg).symm).trans ((wrow_store (es := 1) (n := 1) (l := v17) (xs := [(uA (((UInt8.ofNat (Int.toNat (wr .u8 (shrI .u64 v14 (wr .i64 (8 * v16)))))).toNat : Int)))]) (u := fun (y : UInt8) => (UInt8.ofNat (Int.toNat (wr .u8 (shrI .u64 v14 (wr .i64 (8 * v16))))))) (by kernel_rfl) (by kernel_rfl) (by decide) rfl (fun _ => rfl) (by decide) (by decide) rfl (fun _ => rfl)))) fun y20 => ?_
   refine .st (v := (iA (wr .i64 (v16 + 1)))) (aBin_add ..) ?_
   refine .s [Blk.row true 1 (List.map c8 y20)] ?_
   refine .cT (by kernel_rfl) ?_
   exact ih _ _
  exact .ex (x0 _ _ _ _ _)
def F44_64_0b (n : Nat) (v29 : Int) (v30 : Int) : Nat -> Int -> (List UInt8) -> Option ((List UInt8))
 | 0, _, _ => none
 | m + 1, v31, v32 => bif (decide (v31 < v30)) then (bif decide (0 <= (wr .i64 (8 * v31))) then ((idxN 4 (wr .i64 (3 - v31))).bind fun k34 => bif (decide (0 <= (wr .u8 (shrI .u64 v29 (wr .i64 (8 * v31))))) && decide ((wr .u8 (shrI .u64 v29 (wr .i64 (8 * v31)))) < 256)) then ((modI v32 (124 + k34) (fun (y : UInt8) => (UInt8.ofNat (Int.toNat (wr .u8 (shrI .u64 v29 (wr .i64 (8 * v31)))))))).bind fun y35 => F44_64_0b n v29 v30 m (wr .i64 (v31 + 1)) y35) else none) else none) else (some v32)
theorem T44_64_0b (C : Nat -> List A -> Option A) (n : Nat) (v29 : Int) (v30 : Int) {ρ γ : Type} {φ : ρ -> γ -> Prop} {kL : R -> Option ρ} {K : ((List UInt8)) -> Option γ} (kx kg : Nat -> St -> Option R) (kr : St -> Option R) (kp : A -> St -> Option R) (x0 : ∀ (o0 : (List UInt8)) (s0 : A) (s1 : A) (s6 : A) (s7 : A), J φ (kx 0 (St.mk [(0, s0), (1, s1), (6, s6), (7, s7)] [Blk.row true 1 (List.map c8 o0)])) kL (K o0) some) :
  ∀ (m : Nat) (v31 : Int) (v32 : (List UInt8)), J φ (loopR (cx C) (ec C n 7) (ey C n 7) (n+7) 64 0 0 1 kx kg kr kp m (St.mk [(0, (A.sl 0 124 4 true)), (1, (A.v (.int .u64 v29))), (6, (iA v30)), (7, (iA v31))] [Blk.row true 1 (List.map c8 v32)])) kL (F44_64_0b n v29 v30 m v31 v32) K := by
 intro m
 induction m with
 | zero => intros; exact .nn
 | succ m ih =>
  intro v31 v32
  refine .lp (e64_0 ..) ?_
  unfold F44_64_0b
  refine .st (v := (bA (decide (v31 < v30)))) (aBin_lss ..) ?_
  refine .biHN (fun hk33 => ?_) (fun hk33 => ?_)
  ·refine .s (iA 4) (.s (iA 3) ?_)
   refine .st (v := (iA (wr .i64 (3 - v31)))) (aBin_sub ..) ?_
   refine .st (v := (iA (wr .i64 (8 * v31)))) (aBin_mul ..) ?_
   refine .gd fun hg => ?_
   refine .st (v := (A.v (.int .u64 (shrI .u64 v29 (wr .i64 (8 * v31)))))) (aBin_shr (hb := of_decide_eq_true hg) ..) ?_
   refine .st (v := (uA (wr .u8 (shrI .u64 v29 (wr .i64 (8 * v31)))))) (aConvert_int (hs := by kernel_rfl) (hd := by kernel_rfl) ..) ?_
   refine .bd (g := fun (y : Nat) => A.ep 0 (124 + y) 0) (wrow_idx (e := 5) (es := 1) (l := v32) (by kernel_rfl) (by kernel_rfl) rfl) fun k34 => ?_
   refine .gd fun hg => ?_
   refine .bd (g := fun (y : List UInt8) => [Blk.row true 1 (List.map c8 y)]) ((congrArg (fun z => aStore _ _ _ (A.v (.int .u8 z)) _ _) (u8_back hg).symm).trans ((wrow_store (es := 1) (n := 1) (l := v32) (xs := [(uA (((UInt8.ofNat (Int.toNat (wr .u8 (shrI .u64 v29 (wr .i64 (8 * v31)))))).toNat : Int)))]) (u := fun (y : UInt8) => (UInt8.ofNat (Int.toNat (wr .u8 (shrI .u64 v29 (wr .i64 (8 * v31))))))) (by kernel_rfl) (by kernel_rfl) (by decide) rfl (fun _ => rfl) (by decide) (by decide) rfl (fun _ => rfl)))) fun y35 => ?_
   refine .st (v := (iA (wr .i64 (v31 + 1)))) (aBin_add ..) ?_
   refine .s [Blk.row true 1 (List.map c8 y35)] ?_
   refine .cT (by kernel_rfl) ?_
   exact ih _ _
  exact .ex (x0 _ _ _ _ _)
def F44_65_1 (n : Nat) (v50 : Int) (v52 : Int) (v53 : Int) (v55 : (List UInt8)) : Nat -> Int -> Int -> Option (Int)
 | 0, _, _ => none
 | m + 1, v51, v54 => bif (decide (v54 < 8)) then (F44_65_1 n v50 v52 v53 v55 m (xorI .u32 (shrI .u32 v51 1) (wr .u32 (3988292384 * (andI .u32 v51 1)))) (wr .i64 (v54 + 1))) else (some v51)
theorem T44_65_1 (C : Nat -> List A -> Option A) (n : Nat) (v50 : Int) (v52 : Int) (v53 : Int) (v55 : (List UInt8)) {ρ γ : Type} {φ : ρ -> γ -> Prop} {kL : R -> Option ρ} {K : (Int) -> Option γ} (kx kg : Nat -> St -> Option R) (kr : St -> Option R) (kp : A -> St -> Option R) (x0 : ∀ (o0 : Int) (s16 : A), J φ (kx 2 (St.mk [(2, (A.v (.int .u32 v50))), (3, (A.v (.int .u32 o0))), (6, (A.sl 0 8 116 false)), (7, (iA v52)), (8, (iA v53)), (16, s16)] [Blk.row true 1 (List.map c8 v55)])) kL (K o0) some) :
  ∀ (m : Nat) (v51 : Int) (v54 : Int), J φ (loopR (cx C) (ec C n 7) (ey C n 7) (n+7) 65 1 1 1 kx kg kr kp m (St.mk [(2, (A.v (.int .u32 v50))), (3, (A.v (.int .u32 v51))), (6, (A.sl 0 8 116 false)), (7, (iA v52)), (8, (iA v53)), (16, (iA v54))] [Blk.row true 1 (List.map c8 v55)])) kL (F44_65_1 n v50 v52 v53 v55 m v51 v54) K := by
 intro m
 induction m with
 | zero => intros; exact .nn
 | succ m ih =>
  intro v51 v54
  refine .lp (e65_1 ..) ?_
  unfold F44_65_1
  refine .st (v := (bA (decide (v54 < 8)))) (aBin_lss ..) ?_
  refine .biHN (fun hk56 => ?_) (fun hk56 => ?_)
  ·refine .st (v := (A.v (.int .u32 (shrI .u32 v51 1)))) (aBin_shr (hb := by decide) ..) ?_
   refine .st (v := (A.v (.int .u32 (andI .u32 v51 1)))) (aBin_bits_and ..) ?_
   refine .st (v := (A.v (.int .u32 (wr .u32 (3988292384 * (andI .u32 v51 1)))))) (aBin_mul ..) ?_
   refine .st (v := (A.v (.int .u32 (xorI .u32 (shrI .u32 v51 1) (wr .u32 (3988292384 * (andI .u32 v51 1))))))) (aBin_bits_xor ..) ?_
   refine .st (v := (iA (wr .i64 (v54 + 1)))) (aBin_add ..) ?_
   refine .s [Blk.row true 1 (List.map c8 v55)] ?_
   refine .cT (by kernel_rfl) ?_
   exact ih _ _
  exact .ex (x0 _ _)
def F44_65_0 (n : Nat) (v42 : Int) (v44 : Int) (v46 : (List UInt8)) : Nat -> Int -> Int -> Option (Int)
 | 0, _, _ => none
 | m + 1, v43, v45 => bif (decide (v45 < v44)) then ((idxN 116 v45).bind fun k48 => (v46[(8 + k48)]?).bind fun y49 => (F44_65_1 n v42 v44 v45 v46 (n+7) (xorI .u32 v43 (wr .u32 ((y49.toNat : Int)))) 0).bind fun o57 => match o57 with | y58 => F44_65_0 n v42 v44 v46 m y58 (wr .i64 (v45 + 1))) else (some v43)
theorem T44_65_0 (C : Nat -> List A -> Option A) (n : Nat) (v42 : Int) (v44 : Int) (v46 : (List UInt8)) {ρ γ : Type} {φ : ρ -> γ -> Prop} {kL : R -> Option ρ} {K : (Int) -> Option γ} (kx kg : Nat -> St -> Option R) (kr : St -> Option R) (kp : A -> St -> Option R) (x0 : ∀ (o0 : Int) (s2 : A) (s6 : A) (s7 : A) (s8 : A), J φ (kx 0 (St.mk [(2, s2), (3, (A.v (.int .u32 o0))), (6, s6), (7, s7), (8, s8)] [Blk.row true 1 (List.map c8 v46)])) kL (K o0) some) :
  ∀ (m : Nat) (v43 : Int) (v45 : Int), J φ (loopR (cx C) (ec C n 7) (ey C n 7) (n+7) 65 1 0 1 kx kg kr kp m (St.mk [(2, (A.v (.int .u32 v42))), (3, (A.v (.int .u32 v43))), (6, (A.sl 0 8 116 false)), (7, (iA v44)), (8, (iA v45))] [Blk.row true 1 (List.map c8 v46)])) kL (F44_65_0 n v42 v44 v46 m v43 v45) K := by
 intro m
 induction m with
 | zero => intros; exact .nn
 | succ m ih =>
  intro v43 v45
  refine .lp (e65_0 ..) ?_
  unfold F44_65_0
  refine .st (v := (bA (decide (v45 < v44)))) (aBin_lss ..) ?_
  refine .biHN (fun hk47 => ?_) (fun hk47 => ?_)
  ·refine .bd (g := fun (y : Nat) => A.ep 0 (8 + y) 0) (wrow_idx (e := 5) (es := 1) (l := v46) (by kernel_rfl) (by kernel_rfl) rfl) fun k48 => ?_
   refine .bd (g := fun (y : UInt8) => (uA ((y.toNat : Int)))) (wrow_load (es := 1) (n := 1) (l := v46) (by kernel_rfl) (by decide) (fun _ => rfl) (by decide) rfl (fun _ => by kernel_rfl)) fun y49 => ?_
   refine .st (v := (A.v (.int .u32 (wr .u32 ((y49.toNat : Int)))))) (aConvert_int (hs := by kernel_rfl) (hd := by kernel_rfl) ..) ?_
   refine .st (v := (A.v (.int .u32 (xorI .u32 v43 (wr .u32 ((y49.toNat : Int))))))) (aBin_bits_xor ..) ?_
   refine .as (T44_65_1 C n  v42 v44 v45 v46 _ _ _ _ ?_ _ (xorI .u32 v43 (wr .u32 ((y49.toNat : Int)))) 0)
   ·intro y58 j59
    refine .un rfl ?_
    refine .cT (by kernel_rfl) ?_
    refine .st (v := (iA (wr .i64 (v45 + 1)))) (aBin_add ..) ?_
    refine .s [Blk.row true 1 (List.map c8 v46)] ?_
    refine .cT (by kernel_rfl) ?_
    exact ih _ _
  exact .ex (x0 _ _ _ _ _)
def F44_64_0c (n : Nat) (v67 : Int) (v68 : Int) : Nat -> Int -> (List UInt8) -> Option ((List UInt8))
 | 0, _, _ => none
 | m + 1, v69, v70 => bif (decide (v69 < v68)) then (bif decide (0 <= (wr .i64 (8 * v69))) then ((idxN 4 (wr .i64 (3 - v69))).bind fun k72 => bif (decide (0 <= (wr .u8 (shrI .u64 v67 (wr .i64 (8 * v69))))) && decide ((wr .u8 (shrI .u64 v67 (wr .i64 (8 * v69)))) < 256)) then ((modI v70 (4 + k72) (fun (y : UInt8) => (UInt8.ofNat (Int.toNat (wr .u8 (shrI .u64 v67 (wr .i64 (8 * v69)))))))).bind fun y73 => F44_64_0c n v67 v68 m (wr .i64 (v69 + 1)) y73) else none) else none) else (some v70)
theorem T44_64_0c (C : Nat -> List A -> Option A) (n : Nat) (v67 : Int) (v68 : Int) {ρ γ : Type} {φ : ρ -> γ -> Prop} {kL : R -> Option ρ} {K : ((List UInt8)) -> Option γ} (kx kg : Nat -> St -> Option R) (kr : St -> Option R) (kp : A -> St -> Option R) (x0 : ∀ (o0 : (List UInt8)) (s0 : A) (s1 : A) (s6 : A) (s7 : A), J φ (kx 0 (St.mk [(0, s0), (1, s1), (6, s6), (7, s7)] [Blk.row true 1 (List.map c8 o0)])) kL (K o0) some) :
  ∀ (m : Nat) (v69 : Int) (v70 : (List UInt8)), J φ (loopR (cx C) (ec C n 7) (ey C n 7) (n+7) 64 0 0 1 kx kg kr kp m (St.mk [(0, (A.sl 0 4 4 false)), (1, (A.v (.int .u64 v67))), (6, (iA v68)), (7, (iA v69))] [Blk.row true 1 (List.map c8 v70)])) kL (F44_64_0c n v67 v68 m v69 v70) K := by
 intro m
 induction m with
 | zero => intros; exact .nn
 | succ m ih =>
  intro v69 v70
  refine .lp (e64_0 ..) ?_
  unfold F44_64_0c
  refine .st (v := (bA (decide (v69 < v68)))) (aBin_lss ..) ?_
  refine .biHN (fun hk71 => ?_) (fun hk71 => ?_)
  ·refine .s (iA 4) (.s (iA 3) ?_)
   refine .st (v := (iA (wr .i64 (3 - v69)))) (aBin_sub ..) ?_
   refine .st (v := (iA (wr .i64 (8 * v69)))) (aBin_mul ..) ?_
   refine .gd fun hg => ?_
   refine .st (v := (A.v (.int .u64 (shrI .u64 v67 (wr .i64 (8 * v69)))))) (aBin_shr (hb := of_decide_eq_true hg) ..) ?_
   refine .st (v := (uA (wr .u8 (shrI .u64 v67 (wr .i64 (8 * v69)))))) (aConvert_int (hs := by kernel_rfl) (hd := by kernel_rfl) ..) ?_
   refine .bd (g := fun (y : Nat) => A.ep 0 (4 + y) 0) (wrow_idx (e := 5) (es := 1) (l := v70) (by kernel_rfl) (by kernel_rfl) rfl) fun k72 => ?_
   refine .gd fun hg => ?_
   refine .bd (g := fun (y : List UInt8) => [Blk.row true 1 (List.map c8 y)]) ((congrArg (fun z => aStore _ _ _ (A.v (.int .u8 z)) _ _) (u8_back hg).symm).trans ((wrow_store (es := 1) (n := 1) (l := v70) (xs := [(uA (((UInt8.ofNat (Int.toNat (wr .u8 (shrI .u64 v67 (wr .i64 (8 * v69)))))).toNat : Int)))]) (u := fun (y : UInt8) => (UInt8.ofNat (Int.toNat (wr .u8 (shrI .u64 v67 (wr .i64 (8 * v69))))))) (by kernel_rfl) (by kernel_rfl) (by decide) rfl (fun _ => rfl) (by decide) (by decide) rfl (fun _ => rfl)))) fun y73 => ?_
   refine .st (v := (iA (wr .i64 (v69 + 1)))) (aBin_add ..) ?_
   refine .s [Blk.row true 1 (List.map c8 y73)] ?_
   refine .cT (by kernel_rfl) ?_
   exact ih _ _
  exact .ex (x0 _ _ _ _ _)
def F44 (n : Nat) (a0 : Int) (a1 : Int) (a2 : Int) (a3 : (List UInt8)) : Option (List UInt8) :=
 bif decide (128 <= ((List.replicate 128 (0 : UInt8))).length) then ((F44_64_0 n a0 4 (n+7) 0 ((List.replicate 128 (0 : UInt8)))).bind fun o8 => match o8 with | y9 => bif decide (128 <= y9.length) then ((F44_64_0a n (wr .u64 (a1)) 2 (n+7) 0 y9).bind fun o21 => match o21 with | y22 => bif (decide (0 <= 10) && decide (10 < 128) && decide (10 < (y22.length : Int))) then (bif (decide (0 <= a2) && decide (a2 < 256)) then ((modI y22 (Int.toNat 10) (fun (y : UInt8) => (UInt8.ofNat (Int.toNat a2)))).bind fun y27 => bif (decide (0 <= 11) && decide (11 < 128) && decide (11 < (y27.length : Int))) then (bif (decide (0 <= (wr .u8 ((a3.length : Int)))) && decide ((wr .u8 ((a3.length : Int))) < 256)) then ((modI y27 (Int.toNat 11) (fun (y : UInt8) => (UInt8.ofNat (Int.toNat (wr .u8 ((a3.length : Int))))))).bind fun y28 => bif decide (128 <= y28.length) then (bif decide (128 <= ((copyI y28 12 116 a3)).length) then ((F44_64_0b n a0 4 (n+7) 0 ((copyI y28 12 116 a3))).bind fun o36 => match o36 with | y37 => bif decide (128 <= y37.length) then (bif decide (128 <= y37.length) then (((F44_65_0 n 0 116 y37 (n+7) 4294967295 0).bind fun o60 => match o60 with | y61 => some (xorI .u32 4294967295 y61)).bind fun y66 => (F44_64_0c n (wr .u64 (y66)) 4 (n+7) 0 y37).bind fun o74 => match o74 with | y75 => bif decide (128 <= y75.length) then (some ((List.take 128 (List.drop 0 y75)))) else none) else none) else none) else none) else none) else none) else none) else none) else none) else none) else none
theorem T44 (C : Nat -> List A -> Option A) (n : Nat) (a0 : Int) (a1 : Int) (a2 : Int) (a3 : (List UInt8)) : J (fun (o : R) y => ∃ v, o.1 = .ret v /\ snapE o.2 v = (A.imm (List.map c8 y) false)) (evCall1 (cx C) (ec C n 8) (ey C n 8) (n+8) 44 [(A.v (.int .u64 a0)), (iA a1), (uA a2), (A.imm (List.map c8 a3) false)] [] 0) some (F44 n a0 a1 a2 a3) some := by
 refine .lp (e44 ..) ?_
 unfold F44
 refine .s ((A.ep 0 0 0), [Blk.row true 1 (List.map c8 ((List.replicate 128 (0 : UInt8))))]) ?_
 refine .gd fun hg => ?_
 refine .st (v := (A.sl 0 0 4 false)) (arr_cut (k1 := .i64) (k2 := .i64) (e := 5) (es := 1) (l := (List.replicate 128 (0 : UInt8))) (len := 128) (p := 0) (q := 4) _ _ (by kernel_rfl) (by kernel_rfl) rfl rfl rfl rfl hg) ?_
 refine .cl ((evCall_in lt_64).trans (e64 C (ec C n 7) (ey C n 7) (n+7) _ _ _ _)) ?_
 refine .s (iA 4) ?_
 refine .as (T44_64_0 C n  a0 4 _ _ _ _ ?_ _ 0 ((List.replicate 128 (0 : UInt8))))
 ·intro y9 j10 j11 j12 j13
  refine .un rfl ?_
  refine .cT (by kernel_rfl) ?_
  refine .cr ?_
  refine .ok ?_
  refine .gd fun hg => ?_
  refine .st (v := (A.sl 0 8 2 false)) (arr_cut (k1 := .i64) (k2 := .i64) (e := 5) (es := 1) (l := y9) (len := 128) (p := 8) (q := 10) _ _ (by kernel_rfl) (by kernel_rfl) rfl rfl rfl rfl hg) ?_
  refine .st (v := (A.v (.int .u64 (wr .u64 (a1))))) (aConvert_int (hs := by kernel_rfl) (hd := by kernel_rfl) ..) ?_
  refine .cl ((evCall_in lt_64).trans (e64 C (ec C n 7) (ey C n 7) (n+7) _ _ _ _)) ?_
  refine .s (iA 2) ?_
  refine .as (T44_64_0a C n  (wr .u64 (a1)) 2 _ _ _ _ ?_ _ 0 y9)
  ·intro y22 j23 j24 j25 j26
   refine .un rfl ?_
   refine .cT (by kernel_rfl) ?_
   refine .cr ?_
   refine .ok ?_
   refine .st (v := (iA ((a3.length : Int)))) (len_imm (e := 5) (h1 := by kernel_rfl) ..) ?_
   refine .st (v := (uA (wr .u8 ((a3.length : Int))))) (aConvert_int (hs := by kernel_rfl) (hd := by kernel_rfl) ..) ?_
   refine .gd fun hg => ?_
   refine .st (v := (A.ep 0 ((Int.toNat 10)) 0)) (arr_idx (e := 5) (es := 1) (l := y22) (len := 128) (by kernel_rfl) (by kernel_rfl) rfl hg) ?_
   refine .gd fun hg => ?_
   refine .bd (g := fun (y : List UInt8) => [Blk.row true 1 (List.map c8 y)]) ((congrArg (fun z => aStore _ _ _ (A.v (.int .u8 z)) _ _) (u8_back hg).symm).trans ((wrow_store (es := 1) (n := 1) (l := y22) (xs := [(uA (((UInt8.ofNat (Int.toNat a2)).toNat : Int)))]) (u := fun (y : UInt8) => (UInt8.ofNat (Int.toNat a2))) (by kernel_rfl) (by kernel_rfl) (by decide) rfl (fun _ => rfl) (by decide) (by decide) rfl (fun _ => rfl)))) fun y27 => ?_
   refine .gd fun hg => ?_
   refine .st (v := (A.ep 0 ((Int.toNat 11)) 0)) (arr_idx (e := 5) (es := 1) (l := y27) (len := 128) (by kernel_rfl) (by kernel_rfl) rfl hg) ?_
   refine .gd fun hg => ?_
   refine .bd (g := fun (y : List UInt8) => [Blk.row true 1 (List.map c8 y)]) ((congrArg (fun z => aStore _ _ _ (A.v (.int .u8 z)) _ _) (u8_back hg).symm).trans ((wrow_store (es := 1) (n := 1) (l := y27) (xs := [(uA (((UInt8.ofNat (Int.toNat (wr .u8 ((a3.length : Int))))).toNat : Int)))]) (u := fun (y : UInt8) => (UInt8.ofNat (Int.toNat (wr .u8 ((a3.length : Int)))))) (by kernel_rfl) (by kernel_rfl) (by decide) rfl (fun _ => rfl) (by decide) (by decide) rfl (fun _ => rfl)))) fun y28 => ?_
   refine .gd fun hg => ?_
   refine .st (v := (A.sl 0 12 116 true)) (arr_cut (k1 := .i64) (k2 := .i64) (e := 5) (es := 1) (l := y28) (len := 128) (p := 12) (q := 128) _ _ (by kernel_rfl) (by kernel_rfl) rfl rfl rfl rfl hg) ?_
   refine .st (v := ((iA (((min a3.length 116 : Nat) : Int))), [Blk.row true 1 (List.map c8 ((copyI y28 12 116 a3)))])) (wrow_copy (e := 5) (es := 1) (f := c8) (l := y28) (l2 := a3) (by kernel_rfl) (by kernel_rfl) (by decide) (fun _ => rfl) ce_c8 (by decide) rfl (els_imm ..)) ?_
   refine .gd fun hg => ?_
   refine .st (v := (A.sl 0 124 4 true)) (arr_cut (k1 := .i64) (k2 := .i64) (e := 5) (es := 1) (l := (copyI y28 12 116 a3)) (len := 128) (p := 124) (q := 128) _ _ (by kernel_rfl) (by kernel_rfl) rfl rfl rfl rfl hg) ?_
   refine .cl ((evCall_in lt_64).trans (e64 C (ec C n 7) (ey C n 7) (n+7) _ _ _ _)) ?_
   refine .s (iA 4) ?_
   refine .as (T44_64_0b C n  a0 4 _ _ _ _ ?_ _ 0 ((copyI y28 12 116 a3)))
   ·intro y37 j38 j39 j40 j41
    refine .un rfl ?_
    refine .cT (by kernel_rfl) ?_
    refine .cr ?_
    refine .ok ?_
    refine .gd fun hg => ?_
    refine .st (v := (A.sl 0 4 4 false)) (arr_cut (k1 := .i64) (k2 := .i64) (e := 5) (es := 1) (l := y37) (len := 128) (p := 4) (q := 8) _ _ (by kernel_rfl) (by kernel_rfl) rfl rfl rfl rfl hg) ?_
    refine .gd fun hg => ?_
    refine .st (v := (A.sl 0 8 116 false)) (arr_cut (k1 := .i64) (k2 := .i64) (e := 5) (es := 1) (l := y37) (len := 128) (p := 8) (q := 124) _ _ (by kernel_rfl) (by kernel_rfl) rfl rfl rfl rfl hg) ?_
    refine .bg (fun t (y : Int) =>  t = (A.v (.int .u32 y))) ?_ ?_
    ·refine .cl ((evCall_in lt_65).trans (e65 C (ec C n 7) (ey C n 7) (n+7) _ _ _)) ?_
     refine .s (iA 116) ?_
     refine .as (T44_65_0 C n  0 116 y37 _ _ _ _ ?_ _ 4294967295 0)
     ·intro y61 j62 j63 j64 j65
      refine .un rfl ?_
      refine .cT (by kernel_rfl) ?_
      refine .s (A.v (.int .u32 (xorI .u32 4294967295 y61))) ?_
      refine .cr ?_
      exact .lg rfl
    rintro _ y66 rfl
    refine .st (v := (A.v (.int .u64 (wr .u64 (y66))))) (aConvert_int (hs := by kernel_rfl) (hd := by kernel_rfl) ..) ?_
    refine .cl ((evCall_in lt_64).trans (e64 C (ec C n 7) (ey C n 7) (n+7) _ _ _ _)) ?_
    refine .s (iA 4) ?_
    refine .as (T44_64_0c C n  (wr .u64 (y66)) 4 _ _ _ _ ?_ _ 0 y37)
    ·intro y75 j76 j77 j78 j79
     refine .un rfl ?_
     refine .cT (by kernel_rfl) ?_
     refine .cr ?_
     refine .ok ?_
     refine .gd fun hg => ?_
     refine .st (v := (A.sl 0 0 128 true)) (arr_cut (k1 := .i64) (k2 := .i64) (e := 5) (es := 1) (l := y75) (len := 128) (p := 0) (q := 128) _ _ (by kernel_rfl) (by kernel_rfl) rfl rfl rfl rfl hg) ?_
     exact .lf rfl rfl ⟨_, rfl, by show snapE [Blk.row true 1 (List.map c8 y75)] (A.sl 0 0 128 true) = _; first | (simp only [sn0, snM, snapE, snapGE_sub (H := [Blk.row true 1 (List.map c8 y75)]) (b := 0) (es := 1) (wr := true) (l := y75) fl_c8 rfl]; done) | (simp only [sn0, snS, snapE, snapGE_sub (H := [Blk.row true 1 (List.map c8 y75)]) (b := 0) (es := 1) (wr := true) (l := y75) fl_c8 rfl]; first | done | rfl)⟩
def G44 (a0 : Int) (a1 : Int) (a2 : Int) (a3 : (List UInt8)) : Option (List UInt8) := F44 fuel0 a0 a1 a2 a3
def Orc44 (C : Nat -> List A -> Option A) : Prop := ∀ (a0 : Int) (a1 : Int) (a2 : Int) (a3 : (List UInt8)), C 44 [(A.v (.int .u64 a0)), (iA a1), (uA a2), (A.imm (List.map c8 a3) false)] = (G44 a0 a1 a2 a3).map fun y => (A.imm (List.map c8 y) false)
def F43 (n : Nat) (a0 : (List UInt8)) (a1 : (List UInt8)) : Option Bool :=
 some (strEq (bstr a0) (bstr a1))
theorem T43 (C : Nat -> List A -> Option A) (n : Nat) (a0 : (List UInt8)) (a1 : (List UInt8)) : J (fun (o : R) y => ∃ v, o.1 = .ret v /\ snapE o.2 v = (bA y)) (evCall1 (cx C) (ec C n 8) (ey C n 8) (n+8) 43 [(A.imm (List.map c8 a0) false), (A.imm (List.map c8 a1) false)] [] 0) some (F43 n a0 a1) some := by
 refine .lp (e43 ..) ?_
 unfold F43
 refine .st (v := (A.v (Value.string (bstr a0)))) (conv_bs (e := 5) (l := a0) (by kernel_rfl) (by kernel_rfl) (by kernel_rfl) (by kernel_rfl) (els_imm ..) rfl) ?_
 refine .st (v := (A.v (Value.string (bstr a1)))) (conv_bs (e := 5) (l := a1) (by kernel_rfl) (by kernel_rfl) (by kernel_rfl) (by kernel_rfl) (els_imm ..) rfl) ?_
 refine .st (v := (bA (strEq (bstr a0) (bstr a1)))) (aBin_eql_s ..) ?_
 exact .lf rfl rfl ⟨_, rfl, rfl⟩
def G43 (a0 : (List UInt8)) (a1 : (List UInt8)) : Option Bool := F43 fuel0 a0 a1
def Orc43 (C : Nat -> List A -> Option A) : Prop := ∀ (a0 : (List UInt8)) (a1 : (List UInt8)), C 43 [(A.imm (List.map c8 a0) false), (A.imm (List.map c8 a1) false)] = (G43 a0 a1).map fun y => (bA y)
def F61 (n : Nat) (a0 : (List UInt8)) (a1 : Int) : Option Bool :=
 (getI a0 11).bind fun y1 => (bif (decide (112 < (wr .i64 ((y1.toNat : Int))))) then (some true) else ((getI a0 10).bind fun y3 => some (decide (3 < ((y3.toNat : Int)))))).bind fun y4 => (bif y4 then (some true) else ((getI a0 10).bind fun y10 => (bif ((andI .u8 ((y10.toNat : Int)) 2) == 0) then (some (decide ((wr .i64 ((y1.toNat : Int))) < 112))) else (some false)).bind fun y12 => some y12)).bind fun y15 => (bif y15 then (some true) else ((getI a0 10).bind fun y26 => (bif ((andI .u8 ((y26.toNat : Int)) 1) == 0) then (some ((wr .i64 ((y1.toNat : Int))) == 0)) else (some false)).bind fun y28 => some y28)).bind fun y31 => bif y31 then (some false) else ((subI a0 0 4).bind fun y42 => (G41 y42).bind fun y43 => bif (decide (0 < y43)) then ((getI a0 10).bind fun y45 => (subI a0 12 (wr .i64 (12 + (wr .i64 ((y1.toNat : Int)))))).bind fun y46 => (G44 y43 a1 ((y45.toNat : Int)) y46).bind fun y47 => ((G43 a0 y47).bind fun y48 => some y48).bind fun y49 => some y49) else ((some false).bind fun y51 => some y51))
theorem T61 (C : Nat -> List A -> Option A) (n : Nat) (h41 : Orc41 C) (h43 : Orc43 C) (h44 : Orc44 C) (a0 : (List UInt8)) (a1 : Int) : J (fun (o : R) y => ∃ v, o.1 = .ret v /\ snapE o.2 v = (bA y)) (evCall1 (cx C) (ec C n 8) (ey C n 8) (n+8) 61 [(A.imm (List.map c8 a0) false), (iA a1)] [] 0) some (F61 n a0 a1) some := by
 refine .lp (e61 ..) ?_
 unfold F61
 refine .bd (g := fun (y : UInt8) => A.ip (c8 y)) (idx_imm (e := 5) (es := 1) (h1 := by kernel_rfl) (h2 := by kernel_rfl) (h3 := fun _ => rfl) ..) fun y1 => ?_
 refine .s (uA ((y1.toNat : Int))) ?_
 refine .st (v := (iA (wr .i64 ((y1.toNat : Int))))) (aConvert_int (hs := by kernel_rfl) (hd := by kernel_rfl) ..) ?_
 refine .st (v := (bA (decide (112 < (wr .i64 ((y1.toNat : Int))))))) (aBin_gtr ..) ?_
 refine .bg (fun t (y : Bool) => ∃ j5 j6 j7 j8 : A, t = [(bA y), j5, j6, j7, j8]) ?_ ?_
 ·refine .biH (fun hk2 => ?_) (fun hk2 => ?_)
  ·exact .lg ⟨_, _, _, _, rfl⟩
  refine .bd (g := fun (y : UInt8) => A.ip (c8 y)) (idx_imm (e := 5) (es := 1) (h1 := by kernel_rfl) (h2 := by kernel_rfl) (h3 := fun _ => rfl) ..) fun y3 => ?_
  refine .s (uA ((y3.toNat : Int))) ?_
  refine .st (v := (bA (decide (3 < ((y3.toNat : Int)))))) (aBin_gtr ..) ?_
  exact .lg ⟨_, _, _, _, rfl⟩
 rintro _ y4 ⟨j5, j6, j7, j8, rfl⟩
 iterate 5 refine .uc ?_
 refine .bg (fun t (y : Bool) => ∃ j16 j17 j18 j19 j20 j21 j22 j23 j24 : A, t = [(bA y), j16, j17, j18, j19, j20, j21, j22, j23, j24]) ?_ ?_
 ·refine .biH (fun hk9 => ?_) (fun hk9 => ?_)
  ·exact .lg ⟨_, _, _, _, _, _, _, _, _, rfl⟩
  refine .bd (g := fun (y : UInt8) => A.ip (c8 y)) (idx_imm (e := 5) (es := 1) (h1 := by kernel_rfl) (h2 := by kernel_rfl) (h3 := fun _ => rfl) ..) fun y10 => ?_
  refine .s (uA ((y10.toNat : Int))) ?_
  refine .st (v := (uA (andI .u8 ((y10.toNat : Int)) 2))) (aBin_bits_and ..) ?_
  refine .st (v := (bA ((andI .u8 ((y10.toNat : Int)) 2) == 0))) (aBin_eql ..) ?_
  refine .bg (fun t (y : Bool) => ∃ j13 j14 : A, t = [(bA y), j13, j14]) ?_ ?_
  ·refine .biH (fun hk11 => ?_) (fun hk11 => ?_)
   ·refine .st (v := (bA (decide ((wr .i64 ((y1.toNat : Int))) < 112)))) (aBin_lss ..) ?_
    exact .lg ⟨_, _, rfl⟩
   exact .lg ⟨_, _, rfl⟩
  rintro _ y12 ⟨j13, j14, rfl⟩
  iterate 3 refine .uc ?_
  exact .lg ⟨_, _, _, _, _, _, _, _, _, rfl⟩
 rintro _ y15 ⟨j16, j17, j18, j19, j20, j21, j22, j23, j24, rfl⟩
 iterate 10 refine .uc ?_
 refine .bg (fun t (y : Bool) => ∃ j32 j33 j34 j35 j36 j37 j38 j39 j40 : A, t = [(bA y), j32, j33, j34, j35, j36, j37, j38, j39, j40]) ?_ ?_
 ·refine .biH (fun hk25 => ?_) (fun hk25 => ?_)
  ·exact .lg ⟨_, _, _, _, _, _, _, _, _, rfl⟩
  refine .bd (g := fun (y : UInt8) => A.ip (c8 y)) (idx_imm (e := 5) (es := 1) (h1 := by kernel_rfl) (h2 := by kernel_rfl) (h3 := fun _ => rfl) ..) fun y26 => ?_
  refine .s (uA ((y26.toNat : Int))) ?_
  refine .st (v := (uA (andI .u8 ((y26.toNat : Int)) 1))) (aBin_bits_and ..) ?_
  refine .st (v := (bA ((andI .u8 ((y26.toNat : Int)) 1) == 0))) (aBin_eql ..) ?_
  refine .bg (fun t (y : Bool) => ∃ j29 j30 : A, t = [(bA y), j29, j30]) ?_ ?_
  ·refine .biH (fun hk27 => ?_) (fun hk27 => ?_)
   ·refine .st (v := (bA ((wr .i64 ((y1.toNat : Int))) == 0))) (aBin_eql ..) ?_
    exact .lg ⟨_, _, rfl⟩
   exact .lg ⟨_, _, rfl⟩
  rintro _ y28 ⟨j29, j30, rfl⟩
  iterate 3 refine .uc ?_
  exact .lg ⟨_, _, _, _, _, _, _, _, _, rfl⟩
 rintro _ y31 ⟨j32, j33, j34, j35, j36, j37, j38, j39, j40, rfl⟩
 iterate 10 refine .uc ?_
 refine .biHN (fun hk41 => ?_) (fun hk41 => ?_)
 ·exact .lf rfl rfl ⟨_, rfl, rfl⟩
 refine .bd (g := fun (y : List UInt8) => (A.imm (List.map c8 y) false)) (cut_imm (e := 5) (es := 1) (f := c8) (l := a0) (a := 0) (b := 4) (by kernel_rfl) (by kernel_rfl) (fun _ => rfl) (.inl ⟨rfl, rfl⟩) (.inr ⟨_, rfl⟩)) fun y42 => ?_
 refine .bd (g := fun (y : Int) => (A.v (.int .u64 y))) (by show C 41 [snap _ (A.imm (List.map c8 y42) false)] = _; simp only [sn0, snM]; exact h41 y42) fun y43 => ?_
 refine .st (v := (bA (decide (0 < y43)))) (aBin_gtr ..) ?_
 refine .gst (fun hc44 => ?_) (fun hc44 => ?_)
 ·refine .bb ?_
  refine .bd (g := fun (y : UInt8) => A.ip (c8 y)) (idx_imm (e := 5) (es := 1) (h1 := by kernel_rfl) (h2 := by kernel_rfl) (h3 := fun _ => rfl) ..) fun y45 => ?_
  refine .s (uA ((y45.toNat : Int))) ?_
  refine .st (v := (iA (wr .i64 (12 + (wr .i64 ((y1.toNat : Int))))))) (aBin_add ..) ?_
  refine .bd (g := fun (y : List UInt8) => (A.imm (List.map c8 y) false)) (cut_imm (e := 5) (es := 1) (f := c8) (l := a0) (a := 12) (b := wr .i64 (12 + (wr .i64 ((y1.toNat : Int))))) (by kernel_rfl) (by kernel_rfl) (fun _ => rfl) (.inr ⟨_, rfl⟩) (.inr ⟨_, rfl⟩)) fun y46 => ?_
  refine .bd (g := fun (y : (List UInt8)) => (A.imm (List.map c8 y) false)) (by show C 44 [snap _ (A.v (.int .u64 y43)), snap _ (iA a1), snap _ (uA ((y45.toNat : Int))), snap _ (A.imm (List.map c8 y46) false)] = _; simp only [sn0, snM]; exact h44 y43 a1 ((y45.toNat : Int)) y46) fun y47 => ?_
  refine .cr ?_
  iterate 11 refine .uc ?_
  refine .bg (fun t (y : Bool) => ∃ j50 : A, t = [(bA y), j50]) ?_ ?_
  ·refine .bKT hc44 ?_
   refine .bd (g := fun (y : Bool) => (bA y)) (by show C 43 [snap _ (A.imm (List.map c8 a0) false), snap _ (A.imm (List.map c8 y47) false)] = _; simp only [sn0, snM]; exact h43 a0 y47) fun y48 => ?_
   exact .lg ⟨_, rfl⟩
  rintro _ y49 ⟨j50, rfl⟩
  iterate 2 refine .uc ?_
  exact .lf rfl rfl ⟨_, rfl, rfl⟩
 refine .bb ?_
 refine .cr ?_
 iterate 11 refine .uc ?_
 refine .bg (fun t (y : Bool) => ∃ j52 : A, t = [(bA y), j52]) ?_ ?_
 ·refine .bKF hc44 ?_
  exact .lg ⟨_, rfl⟩
 rintro _ y51 ⟨j52, rfl⟩
 iterate 2 refine .uc ?_
 exact .lf rfl rfl ⟨_, rfl, rfl⟩
def G61 (a0 : (List UInt8)) (a1 : Int) : Option Bool := F61 fuel0 a0 a1
def Orc61 (C : Nat -> List A -> Option A) : Prop := ∀ (a0 : (List UInt8)) (a1 : Int), C 61 [(A.imm (List.map c8 a0) false), (iA a1)] = (G61 a0 a1).map fun y => (bA y)
def F12_60_1 (n : Nat) (v12 : Int) (v13 : Int) (v15 : S_Disk) (v16 : Int) (v17 : Int) (v18 : (List (List UInt8))) (v19 : (List (List UInt8))) : Nat -> Int -> (List UInt8) -> Option (((List UInt8)) ⊕ ((Int × Int × (List (List UInt8)) × (List UInt8)) ⊕ ((List UInt8))))
 | 0, _, _ => none
 | m + 1, v14, v20 => bif (decide (v14 < ((v18.length : Int)))) then ((getI v18 v14).bind fun y22 => (G61 y22 v14).bind fun y23 => (bif (!y23) then (some true) else ((getI y22 10).bind fun y25 => some (((andI .u8 ((y25.toNat : Int)) 1) != 0) != (v14 == v12)))).bind fun y26 => (bif y26 then (some true) else ((subI y22 0 4).bind fun y37 => (G41 y37).bind fun y38 => (getI v18 v12).bind fun y39 => (subI y39 0 4).bind fun y40 => (G41 y40).bind fun y41 => some (y38 != y41))).bind fun y42 => bif y42 then ((some true).bind fun y67 => bif y67 then (some ((Sum.inl v20))) else ((getI y22 11).bind fun y70 => (subI y22 12 (wr .i64 (12 + (wr .i64 ((y70.toNat : Int)))))).bind fun y71 => (appI 1 v20 y71).bind fun y72 => (getI y22 10).bind fun y73 => bif ((andI .u8 ((y73.toNat : Int)) 2) != 0) then ((subI y22 0 4).bind fun y75 => (G41 y75).bind fun y76 => (appI 24 v19 ([y72])).bind fun y77 => some ((Sum.inr ((Sum.inl ((wr .i64 (v14 + 1), y76, y77, y72))))))) else (F12_60_1 n v12 v13 v15 v16 v17 v18 v19 m (wr .i64 (v14 + 1)) y72))) else ((subI y22 0 4).bind fun y54 => (G41 y54).bind fun y55 => (some (decide (y55 < v13))).bind fun y56 => bif y56 then (some ((Sum.inl v20))) else ((getI y22 11).bind fun y59 => (subI y22 12 (wr .i64 (12 + (wr .i64 ((y59.toNat : Int)))))).bind fun y60 => (appI 1 v20 y60).bind fun y61 => (getI y22 10).bind fun y62 => bif ((andI .u8 ((y62.toNat : Int)) 2) != 0) then ((subI y22 0 4).bind fun y64 => (G41 y64).bind fun y65 => (appI 24 v19 ([y61])).bind fun y66 => some ((Sum.inr ((Sum.inl ((wr .i64 (v14 + 1), y65, y66, y61))))))) else (F12_60_1 n v12 v13 v15 v16 v17 v18 v19 m (wr .i64 (v14 + 1)) y61)))) else (some ((Sum.inr ((Sum.inr v20)))))
theorem T12_60_1 (C : Nat -> List A -> Option A) (n : Nat) (h31 : Orc31 C) (h41 : Orc41 C) (h61 : Orc61 C) (v12 : Int) (v13 : Int) (v15 : S_Disk) (v16 : Int) (v17 : Int) (v18 : (List (List UInt8))) (v19 : (List (List UInt8))) {ρ γ : Type} {φ : ρ -> γ -> Prop} {kL : R -> Option ρ} {K : (((List UInt8)) ⊕ ((Int × Int × (List (List UInt8)) × (List UInt8)) ⊕ ((List UInt8)))) -> Option γ} (kx kg : Nat -> St -> Option R) (kr : St -> Option R) (kp : A -> St -> Option R) (x0 : ∀ (o0 : (List UInt8)) (s5 : A) (s6 : A), J φ (kr (St.mk [(0, (A.yld 4)), (1, (A.ptr 2 0)), (3, (iA v12)), (4, (A.v (.int .u64 v13))), (5, s5), (6, s6)] [Blk.box (c_S_Disk v15), Blk.box [(A.sl 3 0 v19.length false), (iA v16), (iA v17)], Blk.box [(A.imm (List.map (cL c8) v18) false)], Blk.row false 1 (List.map (cL c8) v19), Blk.rng RSt.ready, Blk.row false 1 (List.map c8 o0)])) kL (K (Sum.inl o0)) some) (x1 : ∀ (o0 : Int) (o1 : Int) (o2 : (List (List UInt8))) (o3 : (List UInt8)) (s5 : A) (s6 : A), J φ (kx 1 (St.mk [(0, (A.yld 4)), (1, (A.ptr 2 0)), (3, (iA o0)), (4, (A.v (.int .u64 o1))), (5, s5), (6, s6)] [Blk.box (c_S_Disk v15), Blk.box [(A.sl 3 0 o2.length false), (iA v16), (iA v17)], Blk.box [(A.imm (List.map (cL c8) v18) false)], Blk.row false 1 (List.map (cL c8) o2), Blk.rng RSt.ready, Blk.row false 1 (List.map c8 o3)])) kL (K (Sum.inr ((Sum.inl ((o0, o1, o2, o3)))))) some) (x2 : ∀ (o0 : (List UInt8)) (s5 : A) (s6 : A), J φ (kx 2 (St.mk [(0, (A.yld 4)), (1, (A.ptr 2 0)), (3, (iA v12)), (4, (A.v (.int .u64 v13))), (5, s5), (6, s6)] [Blk.box (c_S_Disk v15), Blk.box [(A.sl 3 0 v19.length false), (iA v16), (iA v17)], Blk.box [(A.imm (List.map (cL c8) v18) false)], Blk.row false 1 (List.map (cL c8) v19), Blk.rng RSt.ready, Blk.row false 1 (List.map c8 o0)])) kL (K (Sum.inr ((Sum.inr o0)))) some) :
  ∀ (m : Nat) (v14 : Int) (v20 : (List UInt8)), J φ (loopR (cx C) (evCallY (cx C) (n+7) (yext 91 (evCall (cx C) (n+8)) 4 (roundR (cx C) (ec C n 8) (ey C n 8) (n+8) 12 0 0 4 [(2, (A.ptr 1 0))]))) (evCallY (cx C) (n+7)) (n+7) 60 0 1 6 kx kg kr kp m (St.mk [(0, (A.yld 4)), (1, (A.ptr 2 0)), (3, (iA v12)), (4, (A.v (.int .u64 v13))), (5, (A.sl 5 0 v20.length false)), (6, (iA v14))] [Blk.box (c_S_Disk v15), Blk.box [(A.sl 3 0 v19.length false), (iA v16), (iA v17)], Blk.box [(A.imm (List.map (cL c8) v18) false)], Blk.row false 1 (List.map (cL c8) v19), Blk.rng RSt.ready, Blk.row false 1 (List.map c8 v20)])) kL (F12_60_1 n v12 v13 v15 v16 v17 v18 v19 m v14 v20) K := by
 intro m
 induction m with
 | zero => intros; exact .nn
 | succ m ih =>
  intro v14 v20
  refine .lp (e60_1 ..) ?_
  unfold F12_60_1
  refine .s (A.imm (List.map (cL c8) v18) false) ?_
  refine .st (v := (iA ((v18.length : Int)))) (len_imm (e := 35) (h1 := by kernel_rfl) ..) ?_
  refine .st (v := (bA (decide (v14 < ((v18.length : Int)))))) (aBin_lss ..) ?_
  refine .biHN (fun hk21 => ?_) (fun hk21 => ?_)
  ·refine .s (A.imm (List.map (cL c8) v18) false) ?_
   refine .bd (g := fun (y : (List UInt8)) => A.ip ((cL c8) y)) (idx_imm (e := 35) (es := 1) (h1 := by kernel_rfl) (h2 := by kernel_rfl) (h3 := fun _ => rfl) ..) fun y22 => ?_
   refine .s (A.imm (List.map c8 y22) false) ?_
   refine .bd (g := fun (y : Bool) => (bA y)) (by show C 61 [snap _ (A.imm (List.map c8 y22) false), snap _ (iA v14)] = _; simp only [sn0, snM, snapG_row (H := [Blk.box (c_S_Disk v15), Blk.box [(A.sl 3 0 v19.length false), (iA v16), (iA v17)], Blk.box [(A.imm (List.map (cL c8) v18) false)], Blk.row false 1 (List.map (cL c8) v19), Blk.rng RSt.ready, Blk.row false 1 (List.map c8 v20)]) (b := 3) (es := 1) (l := v19) (fl_cL fl_c8) rfl, snapG_row (H := [Blk.box (c_S_Disk v15), Blk.box [(A.sl 3 0 v19.length false), (iA v16), (iA v17)], Blk.box [(A.imm (List.map (cL c8) v18) false)], Blk.row false 1 (List.map (cL c8) v19), Blk.rng RSt.ready, Blk.row false 1 (List.map c8 v20)]) (b := 5) (es := 1) (l := v20) fl_c8 rfl]; exact h61 y22 v14) fun y23 => ?_
   refine .s (bA (!y23)) ?_
   refine .bg (fun t (y : Bool) => ∃ j27 j28 j29 j30 j31 j32 j33 j34 j35 : A, t = [(bA y), j27, j28, j29, j30, j31, j32, j33, j34, j35]) ?_ ?_
   ·refine .biH (fun hk24 => ?_) (fun hk24 => ?_)
    ·exact .lg ⟨_, _, _, _, _, _, _, _, _, rfl⟩
    refine .bd (g := fun (y : UInt8) => A.ip (c8 y)) (idx_imm (e := 5) (es := 1) (h1 := by kernel_rfl) (h2 := by kernel_rfl) (h3 := fun _ => rfl) ..) fun y25 => ?_
    refine .s (uA ((y25.toNat : Int))) ?_
    refine .st (v := (uA (andI .u8 ((y25.toNat : Int)) 1))) (aBin_bits_and ..) ?_
    refine .st (v := (bA ((andI .u8 ((y25.toNat : Int)) 1) != 0))) (aBin_neq ..) ?_
    refine .st (v := (bA (v14 == v12))) (aBin_eql ..) ?_
    refine .s (bA (((andI .u8 ((y25.toNat : Int)) 1) != 0) != (v14 == v12))) ?_
    exact .lg ⟨_, _, _, _, _, _, _, _, _, rfl⟩
   rintro _ y26 ⟨j27, j28, j29, j30, j31, j32, j33, j34, j35, rfl⟩
   iterate 10 refine .uc ?_
   refine .bg (fun t (y : Bool) => ∃ j43 j44 j45 j46 j47 j48 j49 j50 j51 j52 : A, t = [(bA y), j43, j44, j45, j46, j47, j48, j49, j50, j51, j52]) ?_ ?_
   ·refine .biH (fun hk36 => ?_) (fun hk36 => ?_)
    ·exact .lg ⟨_, _, _, _, _, _, _, _, _, _, rfl⟩
    refine .bd (g := fun (y : List UInt8) => (A.imm (List.map c8 y) false)) (cut_imm (e := 5) (es := 1) (f := c8) (l := y22) (a := 0) (b := 4) (by kernel_rfl) (by kernel_rfl) (fun _ => rfl) (.inl ⟨rfl, rfl⟩) (.inr ⟨_, rfl⟩)) fun y37 => ?_
    refine .bd (g := fun (y : Int) => (A.v (.int .u64 y))) (by show C 41 [snap _ (A.imm (List.map c8 y37) false)] = _; simp only [sn0, snM, snapG_row (H := [Blk.box (c_S_Disk v15), Blk.box [(A.sl 3 0 v19.length false), (iA v16), (iA v17)], Blk.box [(A.imm (List.map (cL c8) v18) false)], Blk.row false 1 (List.map (cL c8) v19), Blk.rng RSt.ready, Blk.row false 1 (List.map c8 v20)]) (b := 3) (es := 1) (l := v19) (fl_cL fl_c8) rfl, snapG_row (H := [Blk.box (c_S_Disk v15), Blk.box [(A.sl 3 0 v19.length false), (iA v16), (iA v17)], Blk.box [(A.imm (List.map (cL c8) v18) false)], Blk.row false 1 (List.map (cL c8) v19), Blk.rng RSt.ready, Blk.row false 1 (List.map c8 v20)]) (b := 5) (es := 1) (l := v20) fl_c8 rfl]; exact h41 y37) fun y38 => ?_
    refine .s (A.imm (List.map (cL c8) v18) false) ?_
    refine .bd (g := fun (y : (List UInt8)) => A.ip ((cL c8) y)) (idx_imm (e := 35) (es := 1) (h1 := by kernel_rfl) (h2 := by kernel_rfl) (h3 := fun _ => rfl) ..) fun y39 => ?_
    refine .s (A.imm (List.map c8 y39) false) ?_
    refine .bd (g := fun (y : List UInt8) => (A.imm (List.map c8 y) false)) (cut_imm (e := 5) (es := 1) (f := c8) (l := y39) (a := 0) (b := 4) (by kernel_rfl) (by kernel_rfl) (fun _ => rfl) (.inl ⟨rfl, rfl⟩) (.inr ⟨_, rfl⟩)) fun y40 => ?_
    refine .bd (g := fun (y : Int) => (A.v (.int .u64 y))) (by show C 41 [snap _ (A.imm (List.map c8 y40) false)] = _; simp only [sn0, snM, snapG_row (H := [Blk.box (c_S_Disk v15), Blk.box [(A.sl 3 0 v19.length false), (iA v16), (iA v17)], Blk.box [(A.imm (List.map (cL c8) v18) false)], Blk.row false 1 (List.map (cL c8) v19), Blk.rng RSt.ready, Blk.row false 1 (List.map c8 v20)]) (b := 3) (es := 1) (l := v19) (fl_cL fl_c8) rfl, snapG_row (H := [Blk.box (c_S_Disk v15), Blk.box [(A.sl 3 0 v19.length false), (iA v16), (iA v17)], Blk.box [(A.imm (List.map (cL c8) v18) false)], Blk.row false 1 (List.map (cL c8) v19), Blk.rng RSt.ready, Blk.row false 1 (List.map c8 v20)]) (b := 5) (es := 1) (l := v20) fl_c8 rfl]; exact h41 y40) fun y41 => ?_
    refine .st (v := (bA (y38 != y41))) (aBin_neq ..) ?_
    exact .lg ⟨_, _, _, _, _, _, _, _, _, _, rfl⟩
   rintro _ y42 ⟨j43, j44, j45, j46, j47, j48, j49, j50, j51, j52, rfl⟩
   iterate 11 refine .uc ?_
   refine .gsf (fun hc53 => ?_) (fun hc53 => ?_)
   ·refine .bb ?_
    refine .bd (g := fun (y : List UInt8) => (A.imm (List.map c8 y) false)) (cut_imm (e := 5) (es := 1) (f := c8) (l := y22) (a := 0) (b := 4) (by kernel_rfl) (by kernel_rfl) (fun _ => rfl) (.inl ⟨rfl, rfl⟩) (.inr ⟨_, rfl⟩)) fun y54 => ?_
    refine .bd (g := fun (y : Int) => (A.v (.int .u64 y))) (by show C 41 [snap _ (A.imm (List.map c8 y54) false)] = _; simp only [sn0, snM, snapG_row (H := [Blk.box (c_S_Disk v15), Blk.box [(A.sl 3 0 v19.length false), (iA v16), (iA v17)], Blk.box [(A.imm (List.map (cL c8) v18) false)], Blk.row false 1 (List.map (cL c8) v19), Blk.rng RSt.ready, Blk.row false 1 (List.map c8 v20)]) (b := 3) (es := 1) (l := v19) (fl_cL fl_c8) rfl, snapG_row (H := [Blk.box (c_S_Disk v15), Blk.box [(A.sl 3 0 v19.length false), (iA v16), (iA v17)], Blk.box [(A.imm (List.map (cL c8) v18) false)], Blk.row false 1 (List.map (cL c8) v19), Blk.rng RSt.ready, Blk.row false 1 (List.map c8 v20)]) (b := 5) (es := 1) (l := v20) fl_c8 rfl]; exact h41 y54) fun y55 => ?_
    refine .cr ?_
    iterate 4 refine .uc ?_
    refine .bg (fun t (y : Bool) => ∃ j57 : A, t = [(bA y), j57]) ?_ ?_
    ·refine .bKF hc53 ?_
     refine .st (v := (bA (decide (y55 < v13)))) (aBin_lss ..) ?_
     exact .lg ⟨_, rfl⟩
    rintro _ y56 ⟨j57, rfl⟩
    iterate 2 refine .uc ?_
    refine .biHN (fun hk58 => ?_) (fun hk58 => ?_)
    ·exact .ex (x0 _ _ _)
    refine .bd (g := fun (y : UInt8) => A.ip (c8 y)) (idx_imm (e := 5) (es := 1) (h1 := by kernel_rfl) (h2 := by kernel_rfl) (h3 := fun _ => rfl) ..) fun y59 => ?_
    refine .s (uA ((y59.toNat : Int))) ?_
    refine .st (v := (iA (wr .i64 ((y59.toNat : Int))))) (aConvert_int (hs := by kernel_rfl) (hd := by kernel_rfl) ..) ?_
    refine .st (v := (iA (wr .i64 (12 + (wr .i64 ((y59.toNat : Int))))))) (aBin_add ..) ?_
    refine .bd (g := fun (y : List UInt8) => (A.imm (List.map c8 y) false)) (cut_imm (e := 5) (es := 1) (f := c8) (l := y22) (a := 12) (b := wr .i64 (12 + (wr .i64 ((y59.toNat : Int))))) (by kernel_rfl) (by kernel_rfl) (fun _ => rfl) (.inr ⟨_, rfl⟩) (.inr ⟨_, rfl⟩)) fun y60 => ?_
    refine .bd (g := fun (y : List UInt8) => ((A.sl 5 0 y.length false), [Blk.box (c_S_Disk v15), Blk.box [(A.sl 3 0 v19.length false), (iA v16), (iA v17)], Blk.box [(A.imm (List.map (cL c8) v18) false)], Blk.row false 1 (List.map (cL c8) v19), Blk.rng RSt.ready, Blk.row false 1 (List.map c8 y)])) (app_row (e := 5) (es := 1) (by_ := 1) (z := [(uA 0)]) (by kernel_rfl) (by kernel_rfl) (by kernel_rfl) (by kernel_rfl) rfl (by decide) (by decide) (by kernel_rfl) (f := c8) (fun _ => rfl) ce_c8 (l := v20) (l2 := y60) (b := 5) rfl (by decide) (els_imm ..)) fun y61 => ?_
    refine .bd (g := fun (y : UInt8) => A.ip (c8 y)) (idx_imm (e := 5) (es := 1) (h1 := by kernel_rfl) (h2 := by kernel_rfl) (h3 := fun _ => rfl) ..) fun y62 => ?_
    refine .s (uA ((y62.toNat : Int))) ?_
    refine .st (v := (uA (andI .u8 ((y62.toNat : Int)) 2))) (aBin_bits_and ..) ?_
    refine .st (v := (bA ((andI .u8 ((y62.toNat : Int)) 2) != 0))) (aBin_neq ..) ?_
    refine .biHN (fun hk63 => ?_) (fun hk63 => ?_)
    ·refine .st (v := (iA (wr .i64 (v14 + 1)))) (aBin_add ..) ?_
     refine .bd (g := fun (y : List UInt8) => (A.imm (List.map c8 y) false)) (cut_imm (e := 5) (es := 1) (f := c8) (l := y22) (a := 0) (b := 4) (by kernel_rfl) (by kernel_rfl) (fun _ => rfl) (.inl ⟨rfl, rfl⟩) (.inr ⟨_, rfl⟩)) fun y64 => ?_
     refine .bd (g := fun (y : Int) => (A.v (.int .u64 y))) (by show C 41 [snap _ (A.imm (List.map c8 y64) false)] = _; simp only [sn0, snM, snapG_row (H := [Blk.box (c_S_Disk v15), Blk.box [(A.sl 3 0 v19.length false), (iA v16), (iA v17)], Blk.box [(A.imm (List.map (cL c8) v18) false)], Blk.row false 1 (List.map (cL c8) v19), Blk.rng RSt.ready, Blk.row false 1 (List.map c8 y61)]) (b := 3) (es := 1) (l := v19) (fl_cL fl_c8) rfl, snapG_row (H := [Blk.box (c_S_Disk v15), Blk.box [(A.sl 3 0 v19.length false), (iA v16), (iA v17)], Blk.box [(A.imm (List.map (cL c8) v18) false)], Blk.row false 1 (List.map (cL c8) v19), Blk.rng RSt.ready, Blk.row false 1 (List.map c8 y61)]) (b := 5) (es := 1) (l := y61) fl_c8 rfl]; exact h41 y64) fun y65 => ?_
     refine .dY rfl ?_
     refine .cl (yq.trans (yext_at.trans (e12_r0 C (ec C n 8) (ey C n 8) (n+8) _ _ _ _ _ _ _))) ?_
     refine .cT (by kernel_rfl) ?_
     refine .lp (rdy_at rfl) ?_
     refine .lp (rdy_at rfl) ?_
     refine .s (A.ptr 1 0) (.s (A.sl 3 0 v19.length false) ?_)
     refine .st (v := (A.imm [[(A.imm (List.map c8 y61) false)]] true)) (by show aBuildSlice prog 22 1 [(0, frzA [Blk.box (c_S_Disk v15), Blk.box [(A.sl 3 0 v19.length false), (iA v16), (iA v17)], Blk.box [(A.imm (List.map (cL c8) v18) false)], Blk.row false 1 (List.map (cL c8) v19), Blk.rng RSt.busy, Blk.row false 1 (List.map c8 y61)] (A.sl 5 0 y61.length false))] = _; simp only [frzA, frz1, sn0, snM, snapG_row (H := [Blk.box (c_S_Disk v15), Blk.box [(A.sl 3 0 v19.length false), (iA v16), (iA v17)], Blk.box [(A.imm (List.map (cL c8) v18) false)], Blk.row false 1 (List.map (cL c8) v19), Blk.rng RSt.busy, Blk.row false 1 (List.map c8 y61)]) (b := 3) (es := 1) (l := v19) (fl_cL fl_c8) rfl, snapG_row (H := [Blk.box (c_S_Disk v15), Blk.box [(A.sl 3 0 v19.length false), (iA v16), (iA v17)], Blk.box [(A.imm (List.map (cL c8) v18) false)], Blk.row false 1 (List.map (cL c8) v19), Blk.rng RSt.busy, Blk.row false 1 (List.map c8 y61)]) (b := 5) (es := 1) (l := y61) fl_c8 rfl]; kernel_rfl) ?_
     refine .bd (g := fun (y : List (List UInt8)) => ((A.sl 3 0 y.length false), [Blk.box (c_S_Disk v15), Blk.box [(A.sl 3 0 v19.length false), (iA v16), (iA v17)], Blk.box [(A.imm (List.map (cL c8) v18) false)], Blk.row false 1 (List.map (cL c8) y), Blk.rng RSt.busy, Blk.row false 1 (List.map c8 y61)])) (app_row (e := 35) (es := 1) (by_ := 24) (z := [(A.imm [] true)]) (by kernel_rfl) (by kernel_rfl) (by kernel_rfl) (by kernel_rfl) rfl (by decide) (by decide) (by kernel_rfl) (f := (cL c8)) (fun _ => rfl) ce_cL (l := v19) (l2 := [y61]) (b := 3) rfl (by decide) (els_imm (f := (cL c8)) ([y61] : List (List UInt8)) _ _)) fun y66 => ?_
     refine .s (A.ptr 1 0) (.s [Blk.box (c_S_Disk v15), Blk.box [(A.sl 3 0 y66.length false), (iA v16), (iA v17)], Blk.box [(A.imm (List.map (cL c8) v18) false)], Blk.row false 1 (List.map (cL c8) y66), Blk.rng RSt.busy, Blk.row false 1 (List.map c8 y61)] ?_)
     refine .lp (bsy_at rfl) ?_
     refine .cr ?_
     refine .ok ?_
     refine .s (bA false) ?_
     refine .bFN ?_
     exact .ex (x1 _ _ _ _ _ _)
    refine .st (v := (iA (wr .i64 (v14 + 1)))) (aBin_add ..) ?_
    refine .s [Blk.box (c_S_Disk v15), Blk.box [(A.sl 3 0 v19.length false), (iA v16), (iA v17)], Blk.box [(A.imm (List.map (cL c8) v18) false)], Blk.row false 1 (List.map (cL c8) v19), Blk.rng RSt.ready, Blk.row false 1 (List.map c8 y61)] ?_
    refine .cT (by kernel_rfl) ?_
    exact ih _ _
   refine .bb ?_
   refine .cr ?_
   iterate 4 refine .uc ?_
   refine .bg (fun t (y : Bool) => ∃ j68 : A, t = [(bA y), j68]) ?_ ?_
   ·refine .bKT hc53 ?_
    exact .lg ⟨_, rfl⟩
   rintro _ y67 ⟨j68, rfl⟩
   iterate 2 refine .uc ?_
   refine .biHN (fun hk69 => ?_) (fun hk69 => ?_)
   ·exact .ex (x0 _ _ _)
   refine .bd (g := fun (y : UInt8) => A.ip (c8 y)) (idx_imm (e := 5) (es := 1) (h1 := by kernel_rfl) (h2 := by kernel_rfl) (h3 := fun _ => rfl) ..) fun y70 => ?_
   refine .s (uA ((y70.toNat : Int))) ?_
   refine .st (v := (iA (wr .i64 ((y70.toNat : Int))))) (aConvert_int (hs := by kernel_rfl) (hd := by kernel_rfl) ..) ?_
   refine .st (v := (iA (wr .i64 (12 + (wr .i64 ((y70.toNat : Int))))))) (aBin_add ..) ?_
   refine .bd (g := fun (y : List UInt8) => (A.imm (List.map c8 y) false)) (cut_imm (e := 5) (es := 1) (f := c8) (l := y22) (a := 12) (b := wr .i64 (12 + (wr .i64 ((y70.toNat : Int))))) (by kernel_rfl) (by kernel_rfl) (fun _ => rfl) (.inr ⟨_, rfl⟩) (.inr ⟨_, rfl⟩)) fun y71 => ?_
   refine .bd (g := fun (y : List UInt8) => ((A.sl 5 0 y.length false), [Blk.box (c_S_Disk v15), Blk.box [(A.sl 3 0 v19.length false), (iA v16), (iA v17)], Blk.box [(A.imm (List.map (cL c8) v18) false)], Blk.row false 1 (List.map (cL c8) v19), Blk.rng RSt.ready, Blk.row false 1 (List.map c8 y)])) (app_row (e := 5) (es := 1) (by_ := 1) (z := [(uA 0)]) (by kernel_rfl) (by kernel_rfl) (by kernel_rfl) (by kernel_rfl) rfl (by decide) (by decide) (by kernel_rfl) (f := c8) (fun _ => rfl) ce_c8 (l := v20) (l2 := y71) (b := 5) rfl (by decide) (els_imm ..)) fun y72 => ?_
   refine .bd (g := fun (y : UInt8) => A.ip (c8 y)) (idx_imm (e := 5) (es := 1) (h1 := by kernel_rfl) (h2 := by kernel_rfl) (h3 := fun _ => rfl) ..) fun y73 => ?_
   refine .s (uA ((y73.toNat : Int))) ?_
   refine .st (v := (uA (andI .u8 ((y73.toNat : Int)) 2))) (aBin_bits_and ..) ?_
   refine .st (v := (bA ((andI .u8 ((y73.toNat : Int)) 2) != 0))) (aBin_neq ..) ?_
   refine .biHN (fun hk74 => ?_) (fun hk74 => ?_)
   ·refine .st (v := (iA (wr .i64 (v14 + 1)))) (aBin_add ..) ?_
    refine .bd (g := fun (y : List UInt8) => (A.imm (List.map c8 y) false)) (cut_imm (e := 5) (es := 1) (f := c8) (l := y22) (a := 0) (b := 4) (by kernel_rfl) (by kernel_rfl) (fun _ => rfl) (.inl ⟨rfl, rfl⟩) (.inr ⟨_, rfl⟩)) fun y75 => ?_
    refine .bd (g := fun (y : Int) => (A.v (.int .u64 y))) (by show C 41 [snap _ (A.imm (List.map c8 y75) false)] = _; simp only [sn0, snM, snapG_row (H := [Blk.box (c_S_Disk v15), Blk.box [(A.sl 3 0 v19.length false), (iA v16), (iA v17)], Blk.box [(A.imm (List.map (cL c8) v18) false)], Blk.row false 1 (List.map (cL c8) v19), Blk.rng RSt.ready, Blk.row false 1 (List.map c8 y72)]) (b := 3) (es := 1) (l := v19) (fl_cL fl_c8) rfl, snapG_row (H := [Blk.box (c_S_Disk v15), Blk.box [(A.sl 3 0 v19.length false), (iA v16), (iA v17)], Blk.box [(A.imm (List.map (cL c8) v18) false)], Blk.row false 1 (List.map (cL c8) v19), Blk.rng RSt.ready, Blk.row false 1 (List.map c8 y72)]) (b := 5) (es := 1) (l := y72) fl_c8 rfl]; exact h41 y75) fun y76 => ?_
    refine .dY rfl ?_
    refine .cl (yq.trans (yext_at.trans (e12_r0 C (ec C n 8) (ey C n 8) (n+8) _ _ _ _ _ _ _))) ?_
    refine .cT (by kernel_rfl) ?_
    refine .lp (rdy_at rfl) ?_
    refine .lp (rdy_at rfl) ?_
    refine .s (A.ptr 1 0) (.s (A.sl 3 0 v19.length false) ?_)
    refine .st (v := (A.imm [[(A.imm (List.map c8 y72) false)]] true)) (by show aBuildSlice prog 22 1 [(0, frzA [Blk.box (c_S_Disk v15), Blk.box [(A.sl 3 0 v19.length false), (iA v16), (iA v17)], Blk.box [(A.imm (List.map (cL c8) v18) false)], Blk.row false 1 (List.map (cL c8) v19), Blk.rng RSt.busy, Blk.row false 1 (List.map c8 y72)] (A.sl 5 0 y72.length false))] = _; simp only [frzA, frz1, sn0, snM, snapG_row (H := [Blk.box (c_S_Disk v15), Blk.box [(A.sl 3 0 v19.length false), (iA v16), (iA v17)], Blk.box [(A.imm (List.map (cL c8) v18) false)], Blk.row false 1 (List.map (cL c8) v19), Blk.rng RSt.busy, Blk.row false 1 (List.map c8 y72)]) (b := 3) (es := 1) (l := v19) (fl_cL fl_c8) rfl, snapG_row (H := [Blk.box (c_S_Disk v15), Blk.box [(A.sl 3 0 v19.length false), (iA v16), (iA v17)], Blk.box [(A.imm (List.map (cL c8) v18) false)], Blk.row false 1 (List.map (cL c8) v19), Blk.rng RSt.busy, Blk.row false 1 (List.map c8 y72)]) (b := 5) (es := 1) (l := y72) fl_c8 rfl]; kernel_rfl) ?_
    refine .bd (g := fun (y : List (List UInt8)) => ((A.sl 3 0 y.length false), [Blk.box (c_S_Disk v15), Blk.box [(A.sl 3 0 v19.length false), (iA v16), (iA v17)], Blk.box [(A.imm (List.map (cL c8) v18) false)], Blk.row false 1 (List.map (cL c8) y), Blk.rng RSt.busy, Blk.row false 1 (List.map c8 y72)])) (app_row (e := 35) (es := 1) (by_ := 24) (z := [(A.imm [] true)]) (by kernel_rfl) (by kernel_rfl) (by kernel_rfl) (by kernel_rfl) rfl (by decide) (by decide) (by kernel_rfl) (f := (cL c8)) (fun _ => rfl) ce_cL (l := v19) (l2 := [y72]) (b := 3) rfl (by decide) (els_imm (f := (cL c8)) ([y72] : List (List UInt8)) _ _)) fun y77 => ?_
    refine .s (A.ptr 1 0) (.s [Blk.box (c_S_Disk v15), Blk.box [(A.sl 3 0 y77.length false), (iA v16), (iA v17)], Blk.box [(A.imm (List.map (cL c8) v18) false)], Blk.row false 1 (List.map (cL c8) y77), Blk.rng RSt.busy, Blk.row false 1 (List.map c8 y72)] ?_)
    refine .lp (bsy_at rfl) ?_
    refine .cr ?_
    refine .ok ?_
    refine .s (bA false) ?_
    refine .bFN ?_
    exact .ex (x1 _ _ _ _ _ _)
   refine .st (v := (iA (wr .i64 (v14 + 1)))) (aBin_add ..) ?_
   refine .s [Blk.box (c_S_Disk v15), Blk.box [(A.sl 3 0 v19.length false), (iA v16), (iA v17)], Blk.box [(A.imm (List.map (cL c8) v18) false)], Blk.row false 1 (List.map (cL c8) v19), Blk.rng RSt.ready, Blk.row false 1 (List.map c8 y72)] ?_
   refine .cT (by kernel_rfl) ?_
   exact ih _ _
  exact .ex (x2 _ _ _)
def F12_60_0 (n : Nat) (v7 : S_Disk) (v8 : Int) (v9 : Int) (v10 : (List (List UInt8))) : Nat -> Int -> Int -> (List (List UInt8)) -> Option ((List (List UInt8)) × (List UInt8))
 | 0, _, _, _ => none
 | m + 1, v5, v6, v11 => (F12_60_1 n v5 v6 v7 v8 v9 v10 v11 (n+7) v5 (([] : List UInt8))).bind fun o78 => match o78 with | (Sum.inl y79) => some ((v11, y79)) | (Sum.inr ((Sum.inl ((y82, y83, y84, y85))))) => F12_60_0 n v7 v8 v9 v10 m y82 y83 y84 | (Sum.inr ((Sum.inr y88))) => some ((v11, y88))
theorem T12_60_0 (C : Nat -> List A -> Option A) (n : Nat) (h31 : Orc31 C) (h41 : Orc41 C) (h61 : Orc61 C) (v7 : S_Disk) (v8 : Int) (v9 : Int) (v10 : (List (List UInt8))) {ρ γ : Type} {φ : ρ -> γ -> Prop} {kL : R -> Option ρ} {K : ((List (List UInt8)) × (List UInt8)) -> Option γ} (kx kg : Nat -> St -> Option R) (kr : St -> Option R) (kp : A -> St -> Option R) (x0 : ∀ (o0 : (List (List UInt8))) (o1 : (List UInt8)) (s0 : A) (s1 : A) (s3 : A) (s4 : A), J φ (kr (St.mk [(0, s0), (1, s1), (3, s3), (4, s4)] [Blk.box (c_S_Disk v7), Blk.box [(A.sl 3 0 o0.length false), (iA v8), (iA v9)], Blk.box [(A.imm (List.map (cL c8) v10) false)], Blk.row false 1 (List.map (cL c8) o0), Blk.rng RSt.ready, Blk.row false 1 (List.map c8 o1)])) kL (K (o0, o1)) some) :
  ∀ (m : Nat) (v5 : Int) (v6 : Int) (v11 : (List (List UInt8))), J φ (loopR (cx C) (evCallY (cx C) (n+7) (yext 91 (evCall (cx C) (n+8)) 4 (roundR (cx C) (ec C n 8) (ey C n 8) (n+8) 12 0 0 4 [(2, (A.ptr 1 0))]))) (evCallY (cx C) (n+7)) (n+7) 60 0 0 5 kx kg kr kp m (St.mk [(0, (A.yld 4)), (1, (A.ptr 2 0)), (3, (iA v5)), (4, (A.v (.int .u64 v6)))] [Blk.box (c_S_Disk v7), Blk.box [(A.sl 3 0 v11.length false), (iA v8), (iA v9)], Blk.box [(A.imm (List.map (cL c8) v10) false)], Blk.row false 1 (List.map (cL c8) v11), Blk.rng RSt.ready])) kL (F12_60_0 n v7 v8 v9 v10 m v5 v6 v11) K := by
 intro m
 induction m with
 | zero => intros; exact .nn
 | succ m ih =>
  intro v5 v6 v11
  refine .lp (e60_0 ..) ?_
  unfold F12_60_0
  refine .as (T12_60_1 C n h31 h41 h61 v5 v6 v7 v8 v9 v10 v11 _ _ _ _ ?_ ?_ ?_ _ v5 (([] : List UInt8)))
  ·intro y79 j80 j81
   refine .un rfl ?_
   exact .ex (x0 _ _ _ _ _ _)
  ·intro y82 y83 y84 y85 j86 j87
   refine .un rfl ?_
   refine .cF (by kernel_rfl) ?_
   refine .cT (by kernel_rfl) ?_
   refine .st (v := [Blk.box (c_S_Disk v7), Blk.box [(A.sl 3 0 y84.length false), (iA v8), (iA v9)], Blk.box [(A.imm (List.map (cL c8) v10) false)], Blk.row false 1 (List.map (cL c8) y84), Blk.rng RSt.ready]) ((by kernel_rfl : _ = (bif ((((underss 5 (List.map (cL c8) v7.Sectors)) && ((underss 5 (List.map c_S_Write v7.Pending)) && true))) && ((((underss 5 (List.map (cL c8) v10)) && true)) && ((underss 5 (List.map (cL c8) y84)) && true))) then some [Blk.box (c_S_Disk v7), Blk.box [(A.sl 3 0 y84.length false), (iA v8), (iA v9)], Blk.box [(A.imm (List.map (cL c8) v10) false)], Blk.row false 1 (List.map (cL c8) y84), Blk.rng RSt.ready] else none)).trans (by simp only [un0, unS])) ?_
   refine .cT (by kernel_rfl) ?_
   exact ih _ _ _
  ·intro y88 j89 j90
   refine .un rfl ?_
   refine .cT (by kernel_rfl) ?_
   exact .ex (x0 _ _ _ _ _ _)
def F12 (n : Nat) (a0 : S_Disk) : Option (S_Journal × Int) :=
 (G31 a0).bind fun y1 => bif (y1 != 0) then (some (((S_Journal.mk ([]) 0 0), y1))) else (bif a0.Stopped then (some (((S_Journal.mk ([]) 0 0), 40))) else (bif (decide (0 < ((a0.Pending.length : Int)))) then (some (((S_Journal.mk ([]) 0 0), 1))) else ((F12_60_0 n a0 ((a0.Sectors.length : Int)) 0 a0.Sectors (n+7) 0 0 (([] : List (List UInt8)))).bind fun o91 => match o91 with | (y92, y93) => some (((S_Journal.mk y92 ((a0.Sectors.length : Int)) ((y92.length : Int))), 0)))))
theorem T12 (C : Nat -> List A -> Option A) (n : Nat) (h31 : Orc31 C) (h41 : Orc41 C) (h61 : Orc61 C) (a0 : S_Disk) : J (fun (o : R) y => ∃ v, o.1 = .ret v /\ snapE o.2 v = (A.tup [(A.agg [(A.imm (List.map (cL c8) y.1.Records) false), (iA y.1.Many), (iA y.1.Synced)]), (iA y.2)])) (evCall1 (cx C) (ec C n 8) (ey C n 8) (n+8) 12 [(A.agg (c_S_Disk a0))] [] 0) some (F12 n a0) some := by
 refine .lp (e12 ..) ?_
 unfold F12
 refine .s ((A.ptr 0 0), [Blk.box (c_S_Disk a0)]) (.s ((A.ptr 1 0), [Blk.box (c_S_Disk a0), bz3]) (.s (A.agg (c_S_Disk a0)) ?_))
 refine .bd (g := fun (y : Int) => (iA y)) (by show C 31 [snap _ (A.agg (c_S_Disk a0))] = _; simp only [sn0, snM]; exact h31 a0) fun y1 => ?_
 refine .st (v := (bA (y1 != 0))) (aBin_neq ..) ?_
 refine .biHN (fun hk2 => ?_) (fun hk2 => ?_)
 ·refine .s (A.agg [(A.imm [] true), (iA 0), (iA 0)]) (.s [Blk.box (c_S_Disk a0), bz3] (.s (A.agg [(A.imm [] true), (iA 0), (iA 0)]) ?_))
  exact .lf rfl rfl ⟨_, rfl, by show snapE _ (A.tup [(A.agg [(A.imm [] true), (iA 0), (iA 0)]), (iA y1)]) = _; first | (simp only [sn0, snM, snapE]; done) | (simp only [sn0, snS, snapE]; first | done | rfl)⟩
 refine .s (A.ptr 0 3) (.s (bA a0.Stopped) ?_)
 refine .biHN (fun hk3 => ?_) (fun hk3 => ?_)
 ·refine .s (A.agg [(A.imm [] true), (iA 0), (iA 0)]) (.s [Blk.box (c_S_Disk a0), bz3] (.s (A.agg [(A.imm [] true), (iA 0), (iA 0)]) ?_))
  exact .lf rfl rfl ⟨_, rfl, by show snapE _ (A.tup [(A.agg [(A.imm [] true), (iA 0), (iA 0)]), (iA 40)]) = _; first | (simp only [sn0, snM, snapE]; done) | (simp only [sn0, snS, snapE]; first | done | rfl)⟩
 refine .s (A.ptr 0 1) (.s (A.imm (List.map c_S_Write a0.Pending) false) ?_)
 refine .st (v := (iA ((a0.Pending.length : Int)))) (len_imm (e := 76) (h1 := by kernel_rfl) ..) ?_
 refine .st (v := (bA (decide (0 < ((a0.Pending.length : Int)))))) (aBin_gtr ..) ?_
 refine .biHN (fun hk4 => ?_) (fun hk4 => ?_)
 ·refine .s (A.agg [(A.imm [] true), (iA 0), (iA 0)]) (.s [Blk.box (c_S_Disk a0), bz3] (.s (A.agg [(A.imm [] true), (iA 0), (iA 0)]) ?_))
  exact .lf rfl rfl ⟨_, rfl, by show snapE _ (A.tup [(A.agg [(A.imm [] true), (iA 0), (iA 0)]), (iA 1)]) = _; first | (simp only [sn0, snM, snapE]; done) | (simp only [sn0, snS, snapE]; first | done | rfl)⟩
 refine .s (A.ptr 0 0) (.s (A.imm (List.map (cL c8) a0.Sectors) false) ?_)
 refine .st (v := (iA ((a0.Sectors.length : Int)))) (len_imm (e := 35) (h1 := by kernel_rfl) ..) ?_
 refine .s (A.ptr 1 1) (.s [Blk.box (c_S_Disk a0), Blk.box [(A.imm [] true), (iA ((a0.Sectors.length : Int))), (iA 0)]] (.s (A.ptr 0 0) (.s (A.imm (List.map (cL c8) a0.Sectors) false) ?_)))
 refine .cl ((evCall_in lt_32).trans (e32 C (ec C n 7) (ey C n 7) (n+7) _ _ _)) ?_
 refine .s ((A.ptr 2 0), [Blk.box (c_S_Disk a0), Blk.box [(A.imm [] true), (iA ((a0.Sectors.length : Int))), (iA 0)], Blk.box [(A.imm (List.map (cL c8) a0.Sectors) false)]]) ?_
 refine .cr ?_
 refine .ok ?_
 refine .s (60, [(A.ptr 2 0)]) ?_
 refine .cT (by kernel_rfl) ?_
 refine .cl ((evCallY_in lt_60).trans (e60 C (evCallY (cx C) (n+7) (yext 91 (evCall (cx C) (n+8)) 4 (roundR (cx C) (ec C n 8) (ey C n 8) (n+8) 12 0 0 4 [(2, (A.ptr 1 0))]))) (evCallY (cx C) (n+7)) (n+7) _ _ _ _)) ?_
 refine .as (T12_60_0 C n h31 h41 h61 a0 ((a0.Sectors.length : Int)) 0 a0.Sectors _ _ _ _ ?_ _ 0 0 (([] : List (List UInt8))))
 ·intro y92 y93 j94 j95 j96 j97
  refine .un rfl ?_
  refine .cr ?_
  refine .ok ?_
  refine .lp (rs_n rfl) ?_
  refine .s (A.ptr 1 0) (.s (A.sl 3 0 y92.length false) ?_)
  refine .st (v := (iA ((y92.length : Int)))) (row_len (e := 35) (by kernel_rfl) rfl rfl) ?_
  refine .s (A.ptr 1 2) (.s [Blk.box (c_S_Disk a0), Blk.box [(A.sl 3 0 y92.length false), (iA ((a0.Sectors.length : Int))), (iA ((y92.length : Int)))], Blk.box [(A.imm (List.map (cL c8) a0.Sectors) false)], Blk.row false 1 (List.map (cL c8) y92), Blk.dead, Blk.row false 1 (List.map c8 y93)] (.s (A.agg [(A.sl 3 0 y92.length false), (iA ((a0.Sectors.length : Int))), (iA ((y92.length : Int)))]) (.s [Blk.box (c_S_Disk a0), Blk.box [(A.sl 3 0 y92.length false), (iA ((a0.Sectors.length : Int))), (iA ((y92.length : Int)))], Blk.box [(A.imm (List.map (cL c8) a0.Sectors) false)], Blk.row false 1 (List.map (cL c8) y92), Blk.dead, Blk.row false 1 (List.map c8 y93)] (.s (A.agg [(A.sl 3 0 y92.length false), (iA ((a0.Sectors.length : Int))), (iA ((y92.length : Int)))]) ?_))))
  exact .lf rfl rfl ⟨_, rfl, by show snapE [Blk.box (c_S_Disk a0), Blk.box [(A.sl 3 0 y92.length false), (iA ((a0.Sectors.length : Int))), (iA ((y92.length : Int)))], Blk.box [(A.imm (List.map (cL c8) a0.Sectors) false)], Blk.row false 1 (List.map (cL c8) y92), Blk.dead, Blk.row false 1 (List.map c8 y93)] (A.tup [(A.agg [(A.sl 3 0 y92.length false), (iA ((a0.Sectors.length : Int))), (iA ((y92.length : Int)))]), (iA 0)]) = _; first | (simp only [sn0, snM, snapE, snapGE_row (H := [Blk.box (c_S_Disk a0), Blk.box [(A.sl 3 0 y92.length false), (iA ((a0.Sectors.length : Int))), (iA ((y92.length : Int)))], Blk.box [(A.imm (List.map (cL c8) a0.Sectors) false)], Blk.row false 1 (List.map (cL c8) y92), Blk.dead, Blk.row false 1 (List.map c8 y93)]) (b := 3) (es := 1) (wr := false) (l := y92) (fl_cL fl_c8) rfl]; done) | (simp only [sn0, snS, snapE, snapGE_row (H := [Blk.box (c_S_Disk a0), Blk.box [(A.sl 3 0 y92.length false), (iA ((a0.Sectors.length : Int))), (iA ((y92.length : Int)))], Blk.box [(A.imm (List.map (cL c8) a0.Sectors) false)], Blk.row false 1 (List.map (cL c8) y92), Blk.dead, Blk.row false 1 (List.map c8 y93)]) (b := 3) (es := 1) (wr := false) (l := y92) (fl_cL fl_c8) rfl]; first | done | rfl)⟩
def G12 (a0 : S_Disk) : Option (S_Journal × Int) := F12 fuel0 a0
def Orc12 (C : Nat -> List A -> Option A) : Prop := ∀ (a0 : S_Disk), C 12 [(A.agg (c_S_Disk a0))] = (G12 a0).map fun y => (A.tup [(A.agg [(A.imm (List.map (cL c8) y.1.Records) false), (iA y.1.Many), (iA y.1.Synced)]), (iA y.2)])
def F35 (n : Nat) (a0 : (List UInt8)) : Option Int :=
 some ((if 1 < wr .i64 (Int.tdiv (wr .i64 ((wr .i64 (((a0.length : Int)) + 112)) - 1)) 112) then wr .i64 (Int.tdiv (wr .i64 ((wr .i64 (((a0.length : Int)) + 112)) - 1)) 112) else 1))
theorem T35 (C : Nat -> List A -> Option A) (n : Nat) (a0 : (List UInt8)) : J (fun (o : R) y => ∃ v, o.1 = .ret v /\ snapE o.2 v = (iA y)) (evCall1 (cx C) (ec C n 8) (ey C n 8) (n+8) 35 [(A.imm (List.map c8 a0) false)] [] 0) some (F35 n a0) some := by
 refine .lp (e35 ..) ?_
 unfold F35
 refine .st (v := (iA ((a0.length : Int)))) (len_imm (e := 5) (h1 := by kernel_rfl) ..) ?_
 refine .st (v := (iA (wr .i64 (((a0.length : Int)) + 112)))) (aBin_add ..) ?_
 refine .st (v := (iA (wr .i64 ((wr .i64 (((a0.length : Int)) + 112)) - 1)))) (aBin_sub ..) ?_
 refine .st (v := (iA (wr .i64 (Int.tdiv (wr .i64 ((wr .i64 (((a0.length : Int)) + 112)) - 1)) 112)))) (aBin_quo (hb := by decide) ..) ?_
 refine .s (iA ((if 1 < wr .i64 (Int.tdiv (wr .i64 ((wr .i64 (((a0.length : Int)) + 112)) - 1)) 112) then wr .i64 (Int.tdiv (wr .i64 ((wr .i64 (((a0.length : Int)) + 112)) - 1)) 112) else 1))) ?_
 exact .lf rfl rfl ⟨_, rfl, rfl⟩
def G35 (a0 : (List UInt8)) : Option Int := F35 fuel0 a0
def Orc35 (C : Nat -> List A -> Option A) : Prop := ∀ (a0 : (List UInt8)), C 35 [(A.imm (List.map c8 a0) false)] = (G35 a0).map fun y => (iA y)
def F36_36_0 (n : Nat) (v2 : (List (List UInt8))) (v3 : Int) : Nat -> Int -> Int -> Option (Int)
 | 0, _, _ => none
 | m + 1, v1, v4 => bif (decide (v4 < v3)) then ((getI v2 v4).bind fun y6 => (G35 y6).bind fun y7 => F36_36_0 n v2 v3 m (wr .i64 (v1 + y7)) (wr .i64 (v4 + 1))) else (some v1)
theorem T36_36_0 (C : Nat -> List A -> Option A) (n : Nat) (h35 : Orc35 C) (v2 : (List (List UInt8))) (v3 : Int) {ρ γ : Type} {φ : ρ -> γ -> Prop} {kL : R -> Option ρ} {K : (Int) -> Option γ} (kx kg : Nat -> St -> Option R) (kr : St -> Option R) (kp : A -> St -> Option R) (x0 : ∀ (o0 : Int) (s5 : A) (s6 : A) (s7 : A), J φ (kx 0 (St.mk [(2, (iA o0)), (5, s5), (6, s6), (7, s7)] [])) kL (K o0) some) :
  ∀ (m : Nat) (v1 : Int) (v4 : Int), J φ (loopR (cx C) (ec C n 8) (ey C n 8) (n+8) 36 0 0 0 kx kg kr kp m (St.mk [(2, (iA v1)), (5, (A.imm (List.map (cL c8) v2) false)), (6, (iA v3)), (7, (iA v4))] [])) kL (F36_36_0 n v2 v3 m v1 v4) K := by
 intro m
 induction m with
 | zero => intros; exact .nn
 | succ m ih =>
  intro v1 v4
  refine .lp (e36_0 ..) ?_
  unfold F36_36_0
  refine .st (v := (bA (decide (v4 < v3)))) (aBin_lss ..) ?_
  refine .biHN (fun hk5 => ?_) (fun hk5 => ?_)
  ·refine .bd (g := fun (y : (List UInt8)) => A.ip ((cL c8) y)) (idx_imm (e := 35) (es := 1) (h1 := by kernel_rfl) (h2 := by kernel_rfl) (h3 := fun _ => rfl) ..) fun y6 => ?_
   refine .s (A.imm (List.map c8 y6) false) ?_
   refine .bd (g := fun (y : Int) => (iA y)) (by show C 35 [snap _ (A.imm (List.map c8 y6) false)] = _; simp only [sn0, snM]; exact h35 y6) fun y7 => ?_
   refine .st (v := (iA (wr .i64 (v1 + y7)))) (aBin_add ..) ?_
   refine .st (v := (iA (wr .i64 (v4 + 1)))) (aBin_add ..) ?_
   refine .s [] ?_
   refine .cT (by kernel_rfl) ?_
   exact ih _ _
  exact .ex (x0 _ _ _ _)
def F36 (n : Nat) (a0 : (List (List UInt8))) : Option Int :=
 (F36_36_0 n a0 ((a0.length : Int)) (n+8) 0 0).bind fun o8 => match o8 with | y9 => some y9
theorem T36 (C : Nat -> List A -> Option A) (n : Nat) (h35 : Orc35 C) (a0 : (List (List UInt8))) : J (fun (o : R) y => ∃ v, o.1 = .ret v /\ snapE o.2 v = (iA y)) (evCall1 (cx C) (ec C n 8) (ey C n 8) (n+8) 36 [(A.imm (List.map (cL c8) a0) false)] [] 0) some (F36 n a0) some := by
 refine .lp (e36 ..) ?_
 unfold F36
 refine .st (v := (iA ((a0.length : Int)))) (len_imm (e := 35) (h1 := by kernel_rfl) ..) ?_
 refine .as (T36_36_0 C n h35 a0 ((a0.length : Int)) _ _ _ _ ?_ _ 0 0)
 ·intro y9 j10 j11 j12
  refine .un rfl ?_
  refine .cT (by kernel_rfl) ?_
  exact .lf rfl rfl ⟨_, rfl, rfl⟩
def G36 (a0 : (List (List UInt8))) : Option Int := F36 fuel0 a0
def Orc36 (C : Nat -> List A -> Option A) : Prop := ∀ (a0 : (List (List UInt8))), C 36 [(A.imm (List.map (cL c8) a0) false)] = (G36 a0).map fun y => (iA y)
def F17 (n : Nat) (a0 : S_Journal) : Option Int :=
 (bif (decide (a0.Many < 1)) then (some true) else (some (decide (4096 < a0.Many)))).bind fun y2 => (bif y2 then (some true) else (some (decide (a0.Synced < 0)))).bind fun y7 => (bif y7 then (some true) else (some (decide (((a0.Records.length : Int)) < a0.Synced)))).bind fun y12 => bif y12 then ((some true).bind fun y24 => bif y24 then (some 1) else (some 0)) else ((G36 a0.Records).bind fun y20 => (some (decide (a0.Many < y20))).bind fun y21 => bif y21 then (some 1) else (some 0))
theorem T17 (C : Nat -> List A -> Option A) (n : Nat) (h36 : Orc36 C) (a0 : S_Journal) : J (fun (o : R) y => ∃ v, o.1 = .ret v /\ snapE o.2 v = (iA y)) (evCall1 (cx C) (ec C n 8) (ey C n 8) (n+8) 17 [(A.agg (c_S_Journal a0))] [] 0) some (F17 n a0) some := by
 refine .lp (e17 ..) ?_
 unfold F17
 refine .s ((A.ptr 0 0), [Blk.box (c_S_Journal a0)]) (.s (A.ptr 0 1) (.s (iA a0.Many) ?_))
 refine .st (v := (bA (decide (a0.Many < 1)))) (aBin_lss ..) ?_
 refine .bg (fun t (y : Bool) => ∃ j3 j4 j5 : A, t = [(bA y), j3, j4, j5]) ?_ ?_
 ·refine .biH (fun hk1 => ?_) (fun hk1 => ?_)
  ·exact .lg ⟨_, _, _, rfl⟩
  refine .s (A.ptr 0 1) (.s (iA a0.Many) ?_)
  refine .st (v := (bA (decide (4096 < a0.Many)))) (aBin_gtr ..) ?_
  exact .lg ⟨_, _, _, rfl⟩
 rintro _ y2 ⟨j3, j4, j5, rfl⟩
 iterate 4 refine .uc ?_
 refine .bg (fun t (y : Bool) => ∃ j8 j9 j10 : A, t = [(bA y), j8, j9, j10]) ?_ ?_
 ·refine .biH (fun hk6 => ?_) (fun hk6 => ?_)
  ·exact .lg ⟨_, _, _, rfl⟩
  refine .s (A.ptr 0 2) (.s (iA a0.Synced) ?_)
  refine .st (v := (bA (decide (a0.Synced < 0)))) (aBin_lss ..) ?_
  exact .lg ⟨_, _, _, rfl⟩
 rintro _ y7 ⟨j8, j9, j10, rfl⟩
 iterate 4 refine .uc ?_
 refine .bg (fun t (y : Bool) => ∃ j13 j14 j15 j16 j17 j18 : A, t = [(bA y), j13, j14, j15, j16, j17, j18]) ?_ ?_
 ·refine .biH (fun hk11 => ?_) (fun hk11 => ?_)
  ·exact .lg ⟨_, _, _, _, _, _, rfl⟩
  refine .s (A.ptr 0 2) (.s (iA a0.Synced) (.s (A.ptr 0 0) (.s (A.imm (List.map (cL c8) a0.Records) false) ?_)))
  refine .st (v := (iA ((a0.Records.length : Int)))) (len_imm (e := 35) (h1 := by kernel_rfl) ..) ?_
  refine .st (v := (bA (decide (((a0.Records.length : Int)) < a0.Synced)))) (aBin_gtr ..) ?_
  exact .lg ⟨_, _, _, _, _, _, rfl⟩
 rintro _ y12 ⟨j13, j14, j15, j16, j17, j18, rfl⟩
 iterate 7 refine .uc ?_
 refine .gsf (fun hc19 => ?_) (fun hc19 => ?_)
 ·refine .bb ?_
  refine .s (A.ptr 0 0) (.s (A.imm (List.map (cL c8) a0.Records) false) ?_)
  refine .bd (g := fun (y : Int) => (iA y)) (by show C 36 [snap _ (A.imm (List.map (cL c8) a0.Records) false)] = _; simp only [sn0, snM]; exact h36 a0.Records) fun y20 => ?_
  refine .s (A.ptr 0 1) (.s (iA a0.Many) ?_)
  refine .cr ?_
  iterate 5 refine .uc ?_
  refine .bg (fun t (y : Bool) => ∃ j22 : A, t = [(bA y), j22]) ?_ ?_
  ·refine .bKF hc19 ?_
   refine .st (v := (bA (decide (a0.Many < y20)))) (aBin_gtr ..) ?_
   exact .lg ⟨_, rfl⟩
  rintro _ y21 ⟨j22, rfl⟩
  iterate 2 refine .uc ?_
  refine .biHN (fun hk23 => ?_) (fun hk23 => ?_)
  ·exact .lf rfl rfl ⟨_, rfl, rfl⟩
  exact .lf rfl rfl ⟨_, rfl, rfl⟩
 refine .bb ?_
 refine .cr ?_
 iterate 5 refine .uc ?_
 refine .bg (fun t (y : Bool) => ∃ j25 : A, t = [(bA y), j25]) ?_ ?_
 ·refine .bKT hc19 ?_
  exact .lg ⟨_, rfl⟩
 rintro _ y24 ⟨j25, rfl⟩
 iterate 2 refine .uc ?_
 refine .biHN (fun hk26 => ?_) (fun hk26 => ?_)
 ·exact .lf rfl rfl ⟨_, rfl, rfl⟩
 exact .lf rfl rfl ⟨_, rfl, rfl⟩
def G17 (a0 : S_Journal) : Option Int := F17 fuel0 a0
def Orc17 (C : Nat -> List A -> Option A) : Prop := ∀ (a0 : S_Journal), C 17 [(A.agg (c_S_Journal a0))] = (G17 a0).map fun y => (iA y)
def F38 (n : Nat) (a0 : (List UInt8)) : Option (List UInt8) :=
 (appI 1 ([]) a0).bind fun y1 => some y1
theorem T38 (C : Nat -> List A -> Option A) (n : Nat) (a0 : (List UInt8)) : J (fun (o : R) y => ∃ v, o.1 = .ret v /\ snapE o.2 v = (A.imm (List.map c8 y) false)) (evCall1 (cx C) (ec C n 8) (ey C n 8) (n+8) 38 [(A.imm (List.map c8 a0) false)] [] 0) some (F38 n a0) some := by
 refine .lp (e38 ..) ?_
 unfold F38
 refine .st (v := (A.nq (List.map c8 a0))) (nq_imm (e := 5) (by kernel_rfl)) ?_
 refine .nq (f := c8) (l := a0) (fun hn => by rw [hn]; kernel_rfl) ?_
 refine .s (A.imm [] true) ?_
 refine .bd (g := fun (y : List UInt8) => ((A.sl 0 0 y.length false), [Blk.row true 1 (List.map c8 y)])) (wrow_app (e := 5) (es := 1) (by_ := 1) (z := [(uA 0)]) (by kernel_rfl) (by kernel_rfl) (by kernel_rfl) (by kernel_rfl) rfl (by decide) (by decide) (by kernel_rfl) (f := c8) (fun _ => rfl) ce_c8 (l2 := a0) (els_imm ..)) fun y1 => ?_
 exact .lf rfl rfl ⟨_, rfl, by show snapE [Blk.row true 1 (List.map c8 y1)] (A.sl 0 0 y1.length false) = _; first | (simp only [sn0, snM, snapE, snapGE_row (H := [Blk.row true 1 (List.map c8 y1)]) (b := 0) (es := 1) (wr := true) (l := y1) fl_c8 rfl]; done) | (simp only [sn0, snS, snapE, snapGE_row (H := [Blk.row true 1 (List.map c8 y1)]) (b := 0) (es := 1) (wr := true) (l := y1) fl_c8 rfl]; first | done | rfl)⟩
def G38 (a0 : (List UInt8)) : Option (List UInt8) := F38 fuel0 a0
def Orc38 (C : Nat -> List A -> Option A) : Prop := ∀ (a0 : (List UInt8)), C 38 [(A.imm (List.map c8 a0) false)] = (G38 a0).map fun y => (A.imm (List.map c8 y) false)
def F15 (n : Nat) (a0 : S_Journal) (a1 : (List UInt8)) : Option (S_Journal × Int) :=
 (G17 a0).bind fun y1 => bif (y1 != 0) then (some (((S_Journal.mk ([]) 0 0), y1))) else ((G35 a1).bind fun y3 => (G36 a0.Records).bind fun y4 => bif (decide ((wr .i64 (a0.Many - y4)) < y3)) then (some (((S_Journal.mk ([]) 0 0), 2))) else ((subI a0.Records 0 ((a0.Records.length : Int))).bind fun y6 => (G38 a1).bind fun y7 => (appI 24 y6 ([y7])).bind fun y8 => some (((S_Journal.mk y8 a0.Many a0.Synced), 0))))
theorem T15 (C : Nat -> List A -> Option A) (n : Nat) (h17 : Orc17 C) (h35 : Orc35 C) (h36 : Orc36 C) (h38 : Orc38 C) (a0 : S_Journal) (a1 : (List UInt8)) : J (fun (o : R) y => ∃ v, o.1 = .ret v /\ snapE o.2 v = (A.tup [(A.agg [(A.imm (List.map (cL c8) y.1.Records) false), (iA y.1.Many), (iA y.1.Synced)]), (iA y.2)])) (evCall1 (cxz C) (evCall (cxz C) (n+8)) (evCallY (cxz C) (n+8)) (n+8) 15 [(A.agg (c_S_Journal a0)), (A.imm (List.map c8 a1) false)] [] 0) some (F15 n a0 a1) some := by
 refine .lp (e15z ..) ?_
 unfold F15
 refine .s ((A.ptr 0 0), [Blk.box (c_S_Journal a0)]) (.s ((A.ptr 1 0), [Blk.box (c_S_Journal a0), bz3]) (.s (A.agg (c_S_Journal a0)) ?_))
 refine .bd (g := fun (y : Int) => (iA y)) (by show C 17 [snap _ (A.agg (c_S_Journal a0))] = _; simp only [sn0, snM]; exact h17 a0) fun y1 => ?_
 refine .st (v := (bA (y1 != 0))) (aBin_neq ..) ?_
 refine .biHN (fun hk2 => ?_) (fun hk2 => ?_)
 ·refine .s (A.agg [(A.imm [] true), (iA 0), (iA 0)]) (.s [Blk.box (c_S_Journal a0), bz3] (.s (A.agg [(A.imm [] true), (iA 0), (iA 0)]) ?_))
  exact .lf rfl rfl ⟨_, rfl, by show snapE _ (A.tup [(A.agg [(A.imm [] true), (iA 0), (iA 0)]), (iA y1)]) = _; first | (simp only [sn0, snM, snapE]; done) | (simp only [sn0, snS, snapE]; first | done | rfl)⟩
 refine .bd (g := fun (y : Int) => (iA y)) (by show C 35 [snap _ (A.imm (List.map c8 a1) false)] = _; simp only [sn0, snM]; exact h35 a1) fun y3 => ?_
 refine .s (A.ptr 0 1) (.s (iA a0.Many) (.s (A.ptr 0 0) (.s (A.imm (List.map (cL c8) a0.Records) false) ?_)))
 refine .bd (g := fun (y : Int) => (iA y)) (by show C 36 [snap _ (A.imm (List.map (cL c8) a0.Records) false)] = _; simp only [sn0, snM]; exact h36 a0.Records) fun y4 => ?_
 refine .st (v := (iA (wr .i64 (a0.Many - y4)))) (aBin_sub ..) ?_
 refine .st (v := (bA (decide ((wr .i64 (a0.Many - y4)) < y3)))) (aBin_gtr ..) ?_
 refine .biHN (fun hk5 => ?_) (fun hk5 => ?_)
 ·refine .s (A.agg [(A.imm [] true), (iA 0), (iA 0)]) (.s [Blk.box (c_S_Journal a0), bz3] (.s (A.agg [(A.imm [] true), (iA 0), (iA 0)]) ?_))
  exact .lf rfl rfl ⟨_, rfl, by show snapE _ (A.tup [(A.agg [(A.imm [] true), (iA 0), (iA 0)]), (iA 2)]) = _; first | (simp only [sn0, snM, snapE]; done) | (simp only [sn0, snS, snapE]; first | done | rfl)⟩
 refine .s (A.ptr 0 0) (.s (A.imm (List.map (cL c8) a0.Records) false) ?_)
 refine .cl ((evCall_in lt_37).trans (e37z C (evCall (cxz C) (n+7)) (evCallY (cxz C) (n+7)) (n+7) _ _ _)) ?_
 refine .st (v := (iA ((a0.Records.length : Int)))) (len_imm (e := 35) (h1 := by kernel_rfl) ..) ?_
 refine .st (v := (iA ((a0.Records.length : Int)))) (len_imm (e := 35) (h1 := by kernel_rfl) ..) ?_
 refine .bd (g := fun (y : List (List UInt8)) => (A.imm (List.map (cL c8) y) true)) (cut_imm3 (e := 35) (es := 1) (f := (cL c8)) (l := a0.Records) (a := 0) (b := (a0.Records.length : Int)) (by kernel_rfl) (by kernel_rfl) (fun _ => rfl) (.inl ⟨rfl, rfl⟩)) fun y6 => ?_
 refine .cr ?_
 refine .ok ?_
 refine .bd (g := fun (y : (List UInt8)) => (A.imm (List.map c8 y) false)) (by show C 38 [snap _ (A.imm (List.map c8 a1) false)] = _; simp only [sn0, snM]; exact h38 a1) fun y7 => ?_
 refine .s (A.imm [[(A.imm (List.map c8 y7) false)]] true) ?_
 refine .bd (g := fun (y : List (List UInt8)) => ((A.sl 2 0 y.length false), [Blk.box (c_S_Journal a0), bz3, Blk.row false 1 (List.map (cL c8) y)])) (app_imm (e := 35) (es := 1) (by_ := 24) (z := [(A.imm [] true)]) (by kernel_rfl) (by kernel_rfl) (by kernel_rfl) (by kernel_rfl) rfl (by decide) (by decide) (by kernel_rfl) (f := (cL c8)) (fun _ => rfl) ce_cL (l := y6) (l2 := [y7]) (els_imm (f := (cL c8)) ([y7] : List (List UInt8)) _ _)) fun y8 => ?_
 refine .s (A.ptr 0 0) (.s [Blk.box [(A.sl 2 0 y8.length false), (iA a0.Many), (iA a0.Synced)], bz3, Blk.row false 1 (List.map (cL c8) y8)] (.s (A.agg [(A.sl 2 0 y8.length false), (iA a0.Many), (iA a0.Synced)]) (.s [Blk.box [(A.sl 2 0 y8.length false), (iA a0.Many), (iA a0.Synced)], Blk.box [(A.sl 2 0 y8.length false), (iA a0.Many), (iA a0.Synced)], Blk.row false 1 (List.map (cL c8) y8)] (.s (A.agg [(A.sl 2 0 y8.length false), (iA a0.Many), (iA a0.Synced)]) ?_))))
 exact .lf rfl rfl ⟨_, rfl, by show snapE [Blk.box [(A.sl 2 0 y8.length false), (iA a0.Many), (iA a0.Synced)], Blk.box [(A.sl 2 0 y8.length false), (iA a0.Many), (iA a0.Synced)], Blk.row false 1 (List.map (cL c8) y8)] (A.tup [(A.agg [(A.sl 2 0 y8.length false), (iA a0.Many), (iA a0.Synced)]), (iA 0)]) = _; first | (simp only [sn0, snM, snapE, snapGE_row (H := [Blk.box [(A.sl 2 0 y8.length false), (iA a0.Many), (iA a0.Synced)], Blk.box [(A.sl 2 0 y8.length false), (iA a0.Many), (iA a0.Synced)], Blk.row false 1 (List.map (cL c8) y8)]) (b := 2) (es := 1) (wr := false) (l := y8) (fl_cL fl_c8) rfl]; done) | (simp only [sn0, snS, snapE, snapGE_row (H := [Blk.box [(A.sl 2 0 y8.length false), (iA a0.Many), (iA a0.Synced)], Blk.box [(A.sl 2 0 y8.length false), (iA a0.Many), (iA a0.Synced)], Blk.row false 1 (List.map (cL c8) y8)]) (b := 2) (es := 1) (wr := false) (l := y8) (fl_cL fl_c8) rfl]; first | done | rfl)⟩
def G15 (a0 : S_Journal) (a1 : (List UInt8)) : Option (S_Journal × Int) := F15 fuel0 a0 a1
def Orc15 (C : Nat -> List A -> Option A) : Prop := ∀ (a0 : S_Journal) (a1 : (List UInt8)), C 15 [(A.agg (c_S_Journal a0)), (A.imm (List.map c8 a1) false)] = (G15 a0 a1).map fun y => (A.tup [(A.agg [(A.imm (List.map (cL c8) y.1.Records) false), (iA y.1.Many), (iA y.1.Synced)]), (iA y.2)])
def F42_43_42_0 (n : Nat) (v2 : (List (List UInt8))) (v3 : Bool) (v4 : (List (List UInt8))) (v5 : Int) : Nat -> Int -> Option ((Bool) ⊕ (Unit))
 | 0, _ => none
 | m + 1, v6 => bif (decide (v6 < v5)) then ((getI v4 v6).bind fun y8 => (getI v2 v6).bind fun y9 => (G43 y8 y9).bind fun y10 => bif (!y10) then (some ((Sum.inl false))) else (F42_43_42_0 n v2 v3 v4 v5 m (wr .i64 (v6 + 1)))) else (some ((Sum.inr (()))))
theorem T42_43_42_0 (C : Nat -> List A -> Option A) (n : Nat) (h43 : Orc43 C) (v2 : (List (List UInt8))) (v3 : Bool) (v4 : (List (List UInt8))) (v5 : Int) {ρ γ : Type} {φ : ρ -> γ -> Prop} {kL : R -> Option ρ} {K : ((Bool) ⊕ (Unit)) -> Option γ} (kx kg : Nat -> St -> Option R) (kr : St -> Option R) (kp : A -> St -> Option R) (x0 : ∀ (o0 : Bool) (s1 : A) (s2 : A) (s15 : A) (s16 : A) (s17 : A), J φ (kr (St.mk [(1, s1), (2, s2), (6, (bA o0)), (15, s15), (16, s16), (17, s17)] [])) kL (K (Sum.inl o0)) some) (x1 : ∀ (s1 : A) (s2 : A) (s6 : A) (s15 : A) (s16 : A) (s17 : A), J φ (kx 0 (St.mk [(1, s1), (2, s2), (6, s6), (15, s15), (16, s16), (17, s17)] [])) kL (K (Sum.inr (()))) some) :
  ∀ (m : Nat) (v6 : Int), J φ (loopR (cx C) (ec C n 8) (ey C n 8) (n+8) 42 0 0 0 kx kg kr kp m (St.mk [(1, (A.imm (List.map (cL c8) v2) false)), (2, (A.fn (Fn.func 43) [] [])), (6, (bA v3)), (15, (A.imm (List.map (cL c8) v4) false)), (16, (iA v5)), (17, (iA v6))] [])) kL (F42_43_42_0 n v2 v3 v4 v5 m v6) K := by
 intro m
 induction m with
 | zero => intros; exact .nn
 | succ m ih =>
  intro v6
  refine .lp (e42_0 ..) ?_
  unfold F42_43_42_0
  refine .st (v := (bA (decide (v6 < v5)))) (aBin_lss ..) ?_
  refine .biHN (fun hk7 => ?_) (fun hk7 => ?_)
  ·refine .bd (g := fun (y : (List UInt8)) => A.ip ((cL c8) y)) (idx_imm (e := 35) (es := 1) (h1 := by kernel_rfl) (h2 := by kernel_rfl) (h3 := fun _ => rfl) ..) fun y8 => ?_
   refine .s (A.imm (List.map c8 y8) false) ?_
   refine .bd (g := fun (y : (List UInt8)) => A.ip ((cL c8) y)) (idx_imm (e := 35) (es := 1) (h1 := by kernel_rfl) (h2 := by kernel_rfl) (h3 := fun _ => rfl) ..) fun y9 => ?_
   refine .s (A.imm (List.map c8 y9) false) ?_
   refine .dO (by kernel_rfl) (by kernel_rfl) ?_
   refine .bd (g := fun (y : Bool) => (bA y)) (by simp only [List.nil_append, List.cons_append, List.append_nil, sn0, snM]; exact h43 y8 y9) fun y10 => ?_
   refine .s (bA (!y10)) ?_
   refine .biHN (fun hk11 => ?_) (fun hk11 => ?_)
   ·exact .ex (x0 _ _ _ _ _ _)
   refine .st (v := (iA (wr .i64 (v6 + 1)))) (aBin_add ..) ?_
   refine .s [] ?_
   refine .cT (by kernel_rfl) ?_
   exact ih _
  exact .ex (x1 _ _ _ _ _ _)
def F42_43 (n : Nat) (a0 : (List (List UInt8))) (a1 : (List (List UInt8))) : Option Bool :=
 bif (((a0.length : Int)) != ((a1.length : Int))) then (some false) else ((F42_43_42_0 n a1 false a0 ((a0.length : Int)) (n+8) 0).bind fun o12 => match o12 with | (Sum.inl y13) => some y13 | (Sum.inr _) => some true)
theorem T42_43 (C : Nat -> List A -> Option A) (n : Nat) (h43 : Orc43 C) (a0 : (List (List UInt8))) (a1 : (List (List UInt8))) : J (fun (o : R) y => ∃ v, o.1 = .ret v /\ snapE o.2 v = (bA y)) (evCall1 (cx C) (ec C n 8) (ey C n 8) (n+8) 42 [(A.imm (List.map (cL c8) a0) false), (A.imm (List.map (cL c8) a1) false), (A.fn (Fn.func 43) [] [])] [] 0) some (F42_43 n a0 a1) some := by
 refine .lp (e42 ..) ?_
 unfold F42_43
 refine .st (v := (iA ((a0.length : Int)))) (len_imm (e := 35) (h1 := by kernel_rfl) ..) ?_
 refine .st (v := (iA ((a1.length : Int)))) (len_imm (e := 35) (h1 := by kernel_rfl) ..) ?_
 refine .st (v := (bA (((a0.length : Int)) != ((a1.length : Int))))) (aBin_neq ..) ?_
 refine .biHN (fun hk1 => ?_) (fun hk1 => ?_)
 ·exact .lf rfl rfl ⟨_, rfl, rfl⟩
 refine .st (v := (iA ((a0.length : Int)))) (len_imm (e := 35) (h1 := by kernel_rfl) ..) ?_
 refine .as (T42_43_42_0 C n h43 a1 false a0 ((a0.length : Int)) _ _ _ _ ?_ ?_ _ 0)
 ·intro y13 j14 j15 j16 j17 j18
  refine .un rfl ?_
  exact .lf rfl rfl ⟨_, rfl, rfl⟩
 ·intro j19 j20 j21 j22 j23 j24
  refine .un rfl ?_
  refine .cT (by kernel_rfl) ?_
  exact .lf rfl rfl ⟨_, rfl, rfl⟩
def G42_43 (a0 : (List (List UInt8))) (a1 : (List (List UInt8))) : Option Bool := F42_43 fuel0 a0 a1
def Orc42_43 (C : Nat -> List A -> Option A) : Prop := ∀ (a0 : (List (List UInt8))) (a1 : (List (List UInt8))), C 42 [(A.imm (List.map (cL c8) a0) false), (A.imm (List.map (cL c8) a1) false), (A.fn (Fn.func 43) [] [])] = (G42_43 a0 a1).map fun y => (bA y)
def F50 (n : Nat) (a0 : S_Disk) : Option Bool :=
 (G31 a0).bind fun y1 => (bif (y1 == 0) then (some (!a0.Stopped)) else (some false)).bind fun y3 => some y3
theorem T50 (C : Nat -> List A -> Option A) (n : Nat) (h31 : Orc31 C) (a0 : S_Disk) : J (fun (o : R) y => ∃ v, o.1 = .ret v /\ snapE o.2 v = (bA y)) (evCall1 (cx C) (ec C n 8) (ey C n 8) (n+8) 50 [(A.agg (c_S_Disk a0))] [] 0) some (F50 n a0) some := by
 refine .lp (e50 ..) ?_
 unfold F50
 refine .s ((A.ptr 0 0), [Blk.box (c_S_Disk a0)]) (.s (A.agg (c_S_Disk a0)) ?_)
 refine .bd (g := fun (y : Int) => (iA y)) (by show C 31 [snap _ (A.agg (c_S_Disk a0))] = _; simp only [sn0, snM]; exact h31 a0) fun y1 => ?_
 refine .st (v := (bA (y1 == 0))) (aBin_eql ..) ?_
 refine .bg (fun t (y : Bool) => ∃ j4 j5 j6 : A, t = [(bA y), j4, j5, j6]) ?_ ?_
 ·refine .biH (fun hk2 => ?_) (fun hk2 => ?_)
  ·refine .s (A.ptr 0 3) (.s (bA a0.Stopped) (.s (bA (!a0.Stopped)) ?_))
   exact .lg ⟨_, _, _, rfl⟩
  exact .lg ⟨_, _, _, rfl⟩
 rintro _ y3 ⟨j4, j5, j6, rfl⟩
 iterate 4 refine .uc ?_
 exact .lf rfl rfl ⟨_, rfl, rfl⟩
def G50 (a0 : S_Disk) : Option Bool := F50 fuel0 a0
def Orc50 (C : Nat -> List A -> Option A) : Prop := ∀ (a0 : S_Disk), C 50 [(A.agg (c_S_Disk a0))] = (G50 a0).map fun y => (bA y)
def F51 (n : Nat) (a0 : S_Disk) (a1 : Int) : Option Bool :=
 (bif (decide (0 <= a1)) then (some (decide (a1 < ((a0.Sectors.length : Int))))) else (some false)).bind fun y2 => some y2
theorem T51 (C : Nat -> List A -> Option A) (n : Nat) (a0 : S_Disk) (a1 : Int) : J (fun (o : R) y => ∃ v, o.1 = .ret v /\ snapE o.2 v = (bA y)) (evCall1 (cx C) (ec C n 8) (ey C n 8) (n+8) 51 [(A.agg (c_S_Disk a0)), (iA a1)] [] 0) some (F51 n a0 a1) some := by
 refine .lp (e51 ..) ?_
 unfold F51
 refine .s ((A.ptr 0 0), [Blk.box (c_S_Disk a0)]) ?_
 refine .st (v := (bA (decide (0 <= a1)))) (aBin_geq ..) ?_
 refine .bg (fun t (y : Bool) => ∃ j3 j4 j5 j6 j7 : A, t = [(bA y), j3, j4, j5, j6, j7]) ?_ ?_
 ·refine .biH (fun hk1 => ?_) (fun hk1 => ?_)
  ·refine .s (A.ptr 0 0) (.s (A.imm (List.map (cL c8) a0.Sectors) false) ?_)
   refine .st (v := (iA ((a0.Sectors.length : Int)))) (len_imm (e := 35) (h1 := by kernel_rfl) ..) ?_
   refine .st (v := (bA (decide (a1 < ((a0.Sectors.length : Int)))))) (aBin_lss ..) ?_
   exact .lg ⟨_, _, _, _, _, rfl⟩
  exact .lg ⟨_, _, _, _, _, rfl⟩
 rintro _ y2 ⟨j3, j4, j5, j6, j7, rfl⟩
 iterate 6 refine .uc ?_
 exact .lf rfl rfl ⟨_, rfl, rfl⟩
def G51 (a0 : S_Disk) (a1 : Int) : Option Bool := F51 fuel0 a0 a1
def Orc51 (C : Nat -> List A -> Option A) : Prop := ∀ (a0 : S_Disk) (a1 : Int), C 51 [(A.agg (c_S_Disk a0)), (iA a1)] = (G51 a0 a1).map fun y => (bA y)
def F53 (n : Nat) (a0 : (List S_Write)) : Option (List S_Write) :=
 (appI 32 ([]) a0).bind fun y1 => some y1
theorem T53 (C : Nat -> List A -> Option A) (n : Nat) (a0 : (List S_Write)) : J (fun (o : R) y => ∃ v, o.1 = .ret v /\ snapE o.2 v = (A.imm (List.map c_S_Write y) false)) (evCall1 (cx C) (ec C n 8) (ey C n 8) (n+8) 53 [(A.imm (List.map c_S_Write a0) false)] [] 0) some (F53 n a0) some := by
 refine .lp (e53 ..) ?_
 unfold F53
 refine .st (v := (A.nq (List.map c_S_Write a0))) (nq_imm (e := 76) (by kernel_rfl)) ?_
 refine .nq (f := c_S_Write) (l := a0) (fun hn => by rw [hn]; kernel_rfl) ?_
 refine .s (A.imm [] true) ?_
 refine .bd (g := fun (y : List S_Write) => ((A.sl 0 0 y.length false), [Blk.row false 2 (List.map c_S_Write y)])) (app_imm (e := 76) (es := 2) (by_ := 32) (z := [(iA 0), (A.imm [] true)]) (by kernel_rfl) (by kernel_rfl) (by kernel_rfl) (by kernel_rfl) rfl (by decide) (by decide) (by kernel_rfl) (f := c_S_Write) (fun _ => rfl) ce_S_Write (l := []) (l2 := a0) (els_imm ..)) fun y1 => ?_
 exact .lf rfl rfl ⟨_, rfl, by show snapE [Blk.row false 2 (List.map c_S_Write y1)] (A.sl 0 0 y1.length false) = _; first | (simp only [sn0, snM, snapE, snapGE_row (H := [Blk.row false 2 (List.map c_S_Write y1)]) (b := 0) (es := 2) (wr := false) (l := y1) fl_S_Write rfl]; done) | (simp only [sn0, snS, snapE, snapGE_row (H := [Blk.row false 2 (List.map c_S_Write y1)]) (b := 0) (es := 2) (wr := false) (l := y1) fl_S_Write rfl]; first | done | rfl)⟩
def G53 (a0 : (List S_Write)) : Option (List S_Write) := F53 fuel0 a0
def Orc53 (C : Nat -> List A -> Option A) : Prop := ∀ (a0 : (List S_Write)), C 53 [(A.imm (List.map c_S_Write a0) false)] = (G53 a0).map fun y => (A.imm (List.map c_S_Write y) false)
def hk26_1 (a0 : S_Disk) (y15 : (List S_Write)) : Blk := Blk.box [(A.imm (List.map (cL c8) a0.Sectors) false), (A.sl 3 0 y15.length false), (iA a0.Left), (bA a0.Stopped)]
def F26 (n : Nat) (a0 : S_Disk) (a1 : Int) (a2 : (List UInt8)) : Option (S_Disk × Int) :=
 (G50 a0).bind fun y1 => (bif (!y1) then (some true) else ((G51 a0 a1).bind fun y3 => some (!y3))).bind fun y4 => bif y4 then (some (((S_Disk.mk ([]) ([]) 0 false), 40))) else (bif (decide (128 < ((a2.length : Int)))) then (some (((S_Disk.mk ([]) ([]) 0 false), 1))) else (bif (((a0.Pending.length : Int)) == 4096) then (some (((S_Disk.mk ([]) ([]) 0 false), 2))) else ((mkI 1 128 ((0 : UInt8))).bind fun y12 => (G53 a0.Pending).bind fun y13 => (subI y13 0 ((y13.length : Int))).bind fun y14 => (appI 32 y14 ([(S_Write.mk a1 ((List.take y12.length (List.drop 0 ((copyI y12 0 y12.length a2))))))])).bind fun y15 => some (((S_Disk.mk a0.Sectors y15 a0.Left a0.Stopped), 0)))))
theorem T26 (C : Nat -> List A -> Option A) (n : Nat) (h50 : Orc50 C) (h51 : Orc51 C) (h53 : Orc53 C) (a0 : S_Disk) (a1 : Int) (a2 : (List UInt8)) : J (fun (o : R) y => ∃ v, o.1 = .ret v /\ snapE o.2 v = (A.tup [(A.agg [(A.imm (List.map (cL c8) y.1.Sectors) false), (A.imm (List.map c_S_Write y.1.Pending) false), (iA y.1.Left), (bA y.1.Stopped)]), (iA y.2)])) (evCall1 (cx C) (ec C n 8) (ey C n 8) (n+8) 26 [(A.agg (c_S_Disk a0)), (iA a1), (A.imm (List.map c8 a2) false)] [] 0) some (F26 n a0 a1 a2) some := by
 refine .lp (e26 ..) ?_
 unfold F26
 refine .s ((A.ptr 0 0), [Blk.box (c_S_Disk a0)]) (.s ((A.ptr 1 0), [Blk.box (c_S_Disk a0), bz4]) (.s (A.agg (c_S_Disk a0)) ?_))
 refine .bd (g := fun (y : Bool) => (bA y)) (by show C 50 [snap _ (A.agg (c_S_Disk a0))] = _; simp only [sn0, snM]; exact h50 a0) fun y1 => ?_
 refine .s (bA (!y1)) ?_
 refine .bg (fun t (y : Bool) => ∃ j5 j6 j7 j8 : A, t = [(bA y), j5, j6, j7, j8]) ?_ ?_
 ·refine .biH (fun hk2 => ?_) (fun hk2 => ?_)
  ·exact .lg ⟨_, _, _, _, rfl⟩
  refine .s (A.agg (c_S_Disk a0)) ?_
  refine .bd (g := fun (y : Bool) => (bA y)) (by show C 51 [snap _ (A.agg (c_S_Disk a0)), snap _ (iA a1)] = _; simp only [sn0, snM]; exact h51 a0 a1) fun y3 => ?_
  refine .s (bA (!y3)) ?_
  exact .lg ⟨_, _, _, _, rfl⟩
 rintro _ y4 ⟨j5, j6, j7, j8, rfl⟩
 iterate 5 refine .uc ?_
 refine .biHN (fun hk9 => ?_) (fun hk9 => ?_)
 ·refine .s (A.agg [(A.imm [] true), (A.imm [] true), (iA 0), (bA false)]) (.s [Blk.box (c_S_Disk a0), bz4] (.s (A.agg [(A.imm [] true), (A.imm [] true), (iA 0), (bA false)]) ?_))
  exact .lf rfl rfl ⟨_, rfl, by show snapE _ (A.tup [(A.agg [(A.imm [] true), (A.imm [] true), (iA 0), (bA false)]), (iA 40)]) = _; first | (simp only [sn0, snM, snapE]; done) | (simp only [sn0, snS, snapE]; first | done | rfl)⟩
 refine .st (v := (iA ((a2.length : Int)))) (len_imm (e := 5) (h1 := by kernel_rfl) ..) ?_
 refine .st (v := (bA (decide (128 < ((a2.length : Int)))))) (aBin_gtr ..) ?_
 refine .biHN (fun hk10 => ?_) (fun hk10 => ?_)
 ·refine .s (A.agg [(A.imm [] true), (A.imm [] true), (iA 0), (bA false)]) (.s [Blk.box (c_S_Disk a0), bz4] (.s (A.agg [(A.imm [] true), (A.imm [] true), (iA 0), (bA false)]) ?_))
  exact .lf rfl rfl ⟨_, rfl, by show snapE _ (A.tup [(A.agg [(A.imm [] true), (A.imm [] true), (iA 0), (bA false)]), (iA 1)]) = _; first | (simp only [sn0, snM, snapE]; done) | (simp only [sn0, snS, snapE]; first | done | rfl)⟩
 refine .s (A.ptr 0 1) (.s (A.imm (List.map c_S_Write a0.Pending) false) ?_)
 refine .st (v := (iA ((a0.Pending.length : Int)))) (len_imm (e := 76) (h1 := by kernel_rfl) ..) ?_
 refine .st (v := (bA (((a0.Pending.length : Int)) == 4096))) (aBin_eql ..) ?_
 refine .biHN (fun hk11 => ?_) (fun hk11 => ?_)
 ·refine .s (A.agg [(A.imm [] true), (A.imm [] true), (iA 0), (bA false)]) (.s [Blk.box (c_S_Disk a0), bz4] (.s (A.agg [(A.imm [] true), (A.imm [] true), (iA 0), (bA false)]) ?_))
  exact .lf rfl rfl ⟨_, rfl, by show snapE _ (A.tup [(A.agg [(A.imm [] true), (A.imm [] true), (iA 0), (bA false)]), (iA 2)]) = _; first | (simp only [sn0, snM, snapE]; done) | (simp only [sn0, snS, snapE]; first | done | rfl)⟩
 refine .bd (g := fun (y : List UInt8) => ((A.sl 2 0 y.length false), [Blk.box (c_S_Disk a0), bz4, Blk.row true 1 (List.map c8 y)])) (wrow_make (e := 5) (es := 1) (f := c8) (z := (0 : UInt8)) (z' := [(uA 0)]) (by kernel_rfl) (by kernel_rfl) (by kernel_rfl) (by kernel_rfl) rfl (by decide) (fun _ => rfl)) fun y12 => ?_
 refine .st (v := ((iA (((min a2.length y12.length : Nat) : Int))), [Blk.box (c_S_Disk a0), bz4, Blk.row true 1 (List.map c8 ((copyI y12 0 y12.length a2)))])) (wrow_copy (e := 5) (es := 1) (f := c8) (l := y12) (l2 := a2) (by kernel_rfl) (by kernel_rfl) (by decide) (fun _ => rfl) ce_c8 (by decide) rfl (els_imm ..)) ?_
 refine .st (v := ((A.imm (List.map c8 ((List.take y12.length (List.drop 0 ((copyI y12 0 y12.length a2)))))) false), [Blk.box (c_S_Disk a0), bz4, Blk.dead])) (kill_row (es := 1) (l := (copyI y12 0 y12.length a2)) fl_c8 rfl (by decide)) ?_
 refine .s (A.ptr 0 1) (.s (A.imm (List.map c_S_Write a0.Pending) false) ?_)
 refine .bd (g := fun (y : (List S_Write)) => (A.imm (List.map c_S_Write y) false)) (by show C 53 [snap _ (A.imm (List.map c_S_Write a0.Pending) false)] = _; simp only [sn0, snM]; exact h53 a0.Pending) fun y13 => ?_
 refine .cl ((evCall_in lt_52).trans (e52 C (ec C n 7) (ey C n 7) (n+7) _ _ _)) ?_
 refine .st (v := (iA ((y13.length : Int)))) (len_imm (e := 76) (h1 := by kernel_rfl) ..) ?_
 refine .st (v := (iA ((y13.length : Int)))) (len_imm (e := 76) (h1 := by kernel_rfl) ..) ?_
 refine .bd (g := fun (y : List S_Write) => (A.imm (List.map c_S_Write y) true)) (cut_imm3 (e := 76) (es := 2) (f := c_S_Write) (l := y13) (a := 0) (b := (y13.length : Int)) (by kernel_rfl) (by kernel_rfl) (fun _ => rfl) (.inl ⟨rfl, rfl⟩)) fun y14 => ?_
 refine .cr ?_
 refine .ok ?_
 refine .s (A.agg [(iA a1), (A.imm (List.map c8 ((List.take y12.length (List.drop 0 ((copyI y12 0 y12.length a2)))))) false)]) (.s (A.imm [[(iA a1), (A.imm (List.map c8 ((List.take y12.length (List.drop 0 ((copyI y12 0 y12.length a2)))))) false)]] true) ?_)
 refine .bd (g := fun (y : List S_Write) => ((A.sl 3 0 y.length false), [Blk.box (c_S_Disk a0), bz4, Blk.dead, Blk.row false 2 (List.map c_S_Write y)])) (app_imm (e := 76) (es := 2) (by_ := 32) (z := [(iA 0), (A.imm [] true)]) (by kernel_rfl) (by kernel_rfl) (by kernel_rfl) (by kernel_rfl) rfl (by decide) (by decide) (by kernel_rfl) (f := c_S_Write) (fun _ => rfl) ce_S_Write (l := y14) (l2 := [(S_Write.mk a1 ((List.take y12.length (List.drop 0 ((copyI y12 0 y12.length a2))))))]) (els_imm (f := c_S_Write) ([(S_Write.mk a1 ((List.take y12.length (List.drop 0 ((copyI y12 0 y12.length a2))))))] : List S_Write) _ _)) fun y15 => ?_
 refine .s (A.ptr 0 1) (.s [(hk26_1 a0 y15), bz4, Blk.dead, Blk.row false 2 (List.map c_S_Write y15)] (.s (A.agg [(A.imm (List.map (cL c8) a0.Sectors) false), (A.sl 3 0 y15.length false), (iA a0.Left), (bA a0.Stopped)]) (.s [(hk26_1 a0 y15), (hk26_1 a0 y15), Blk.dead, Blk.row false 2 (List.map c_S_Write y15)] (.s (A.agg [(A.imm (List.map (cL c8) a0.Sectors) false), (A.sl 3 0 y15.length false), (iA a0.Left), (bA a0.Stopped)]) ?_))))
 exact .lf rfl rfl ⟨_, rfl, by show snapE [(hk26_1 a0 y15), (hk26_1 a0 y15), Blk.dead, Blk.row false 2 (List.map c_S_Write y15)] (A.tup [(A.agg [(A.imm (List.map (cL c8) a0.Sectors) false), (A.sl 3 0 y15.length false), (iA a0.Left), (bA a0.Stopped)]), (iA 0)]) = _; first | (simp only [sn0, snM, snapE, snapGE_row (H := [(hk26_1 a0 y15), (hk26_1 a0 y15), Blk.dead, Blk.row false 2 (List.map c_S_Write y15)]) (b := 3) (es := 2) (wr := false) (l := y15) fl_S_Write rfl]; done) | (simp only [sn0, snS, snapE, snapGE_row (H := [(hk26_1 a0 y15), (hk26_1 a0 y15), Blk.dead, Blk.row false 2 (List.map c_S_Write y15)]) (b := 3) (es := 2) (wr := false) (l := y15) fl_S_Write rfl]; first | done | rfl)⟩
def G26 (a0 : S_Disk) (a1 : Int) (a2 : (List UInt8)) : Option (S_Disk × Int) := F26 fuel0 a0 a1 a2
def Orc26 (C : Nat -> List A -> Option A) : Prop := ∀ (a0 : S_Disk) (a1 : Int) (a2 : (List UInt8)), C 26 [(A.agg (c_S_Disk a0)), (iA a1), (A.imm (List.map c8 a2) false)] = (G26 a0 a1 a2).map fun y => (A.tup [(A.agg [(A.imm (List.map (cL c8) y.1.Sectors) false), (A.imm (List.map c_S_Write y.1.Pending) false), (iA y.1.Left), (bA y.1.Stopped)]), (iA y.2)])
def F54_54_0 (n : Nat) (v2 : (List (List UInt8))) (v3 : Nat) (v4 : (List S_Write)) (v5 : Int) : Nat -> Int -> (List (List UInt8)) -> Option (Nat × (List (List UInt8)))
 | 0, _, _ => none
 | m + 1, v6, v7 => bif (decide (v6 < v5)) then ((getI v4 v6).bind fun y9 => (idxN v3 y9.At).bind fun k10 => (modI v7 k10 (fun (y : (List UInt8)) => y9.Data)).bind fun y11 => F54_54_0 n v2 v3 v4 v5 m (wr .i64 (v6 + 1)) y11) else (some ((v3, v7)))
theorem T54_54_0 (C : Nat -> List A -> Option A) (n : Nat) (v2 : (List (List UInt8))) (v3 : Nat) (v4 : (List S_Write)) (v5 : Int) {ρ γ : Type} {φ : ρ -> γ -> Prop} {kL : R -> Option ρ} {K : (Nat × (List (List UInt8))) -> Option γ} (kx kg : Nat -> St -> Option R) (kr : St -> Option R) (kp : A -> St -> Option R) (x0 : ∀ (o0 : Nat) (o1 : (List (List UInt8))) (s4 : A) (s10 : A) (s11 : A) (s12 : A), J φ (kx 0 (St.mk [(4, s4), (5, (A.sl 0 0 o0 false)), (10, s10), (11, s11), (12, s12)] [Blk.row true 1 (List.map (cL c8) o1)])) kL (K (o0, o1)) some) :
  ∀ (m : Nat) (v6 : Int) (v7 : (List (List UInt8))), J φ (loopR (cx C) (ec C n 8) (ey C n 8) (n+8) 54 0 0 1 kx kg kr kp m (St.mk [(4, (A.imm (List.map (cL c8) v2) true)), (5, (A.sl 0 0 v3 false)), (10, (A.imm (List.map c_S_Write v4) false)), (11, (iA v5)), (12, (iA v6))] [Blk.row true 1 (List.map (cL c8) v7)])) kL (F54_54_0 n v2 v3 v4 v5 m v6 v7) K := by
 intro m
 induction m with
 | zero => intros; exact .nn
 | succ m ih =>
  intro v6 v7
  refine .lp (e54_0 ..) ?_
  unfold F54_54_0
  refine .st (v := (bA (decide (v6 < v5)))) (aBin_lss ..) ?_
  refine .biHN (fun hk8 => ?_) (fun hk8 => ?_)
  ·refine .bd (g := fun (y : S_Write) => A.ip (c_S_Write y)) (idx_imm (e := 76) (es := 2) (h1 := by kernel_rfl) (h2 := by kernel_rfl) (h3 := fun _ => rfl) ..) fun y9 => ?_
   refine .s (A.agg [(iA y9.At), (A.imm (List.map c8 y9.Data) false)]) (.s ((A.ptr 1 0), [Blk.row true 1 (List.map (cL c8) v7), Blk.box [(iA 0), (A.imm [] true)]]) (.s [Blk.row true 1 (List.map (cL c8) v7), Blk.box [(iA y9.At), (A.imm (List.map c8 y9.Data) false)]] (.s (A.ptr 1 0) (.s (iA y9.At) (.s (A.ptr 1 1) (.s (A.imm (List.map c8 y9.Data) false) ?_))))))
   refine .bd (g := fun (y : Nat) => A.ep 0 y 0) (wrow_idx0 (e := 35) (es := 1) (l := v7) (by kernel_rfl) (by kernel_rfl) rfl) fun k10 => ?_
   refine .bd (g := fun (y : List (List UInt8)) => [Blk.row true 1 (List.map (cL c8) y), Blk.box [(iA y9.At), (A.imm (List.map c8 y9.Data) false)]]) ((wrow_store (es := 1) (n := 1) (l := v7) (xs := [(A.imm (List.map c8 y9.Data) false)]) (u := fun (y : (List UInt8)) => y9.Data) (by kernel_rfl) (by kernel_rfl) (by decide) rfl (fun _ => rfl) (by decide) (by decide) rfl (fun _ => rfl))) fun y11 => ?_
   refine .st (v := (iA (wr .i64 (v6 + 1)))) (aBin_add ..) ?_
   refine .st (v := [Blk.row true 1 (List.map (cL c8) y11)]) ((by kernel_rfl : _ = (bif ((underss 1 (List.map (cL c8) y11)) && true) then some [Blk.row true 1 (List.map (cL c8) y11)] else none)).trans (by simp only [un0, unS])) ?_
   refine .cT ((by kernel_rfl : _ = (bif underss 1 (List.map (cL c8) v2) then (bif underss 1 (List.map c_S_Write v4) then true else false) else false)).trans (by simp only [un0, unS])) ?_
   exact ih _ _
  exact .ex (x0 _ _ _ _ _ _)
def F54 (n : Nat) (a0 : (List (List UInt8))) (a1 : (List S_Write)) : Option (List (List UInt8)) :=
 (appI 24 ([]) a0).bind fun y1 => (F54_54_0 n ([]) y1.length a1 ((a1.length : Int)) (n+8) 0 y1).bind fun o12 => match o12 with | (y13, y14) => some ((List.take y13 (List.drop 0 y14)))
theorem T54 (C : Nat -> List A -> Option A) (n : Nat) (a0 : (List (List UInt8))) (a1 : (List S_Write)) : J (fun (o : R) y => ∃ v, o.1 = .ret v /\ snapE o.2 v = (A.imm (List.map (cL c8) y) false)) (evCall1 (cx C) (ec C n 8) (ey C n 8) (n+8) 54 [(A.imm (List.map (cL c8) a0) false), (A.imm (List.map c_S_Write a1) false)] [] 0) some (F54 n a0 a1) some := by
 refine .lp (e54 ..) ?_
 unfold F54
 refine .cl ((evCall_in lt_69).trans (e69 C (ec C n 7) (ey C n 7) (n+7) _ _ _)) ?_
 refine .st (v := (A.nq (List.map (cL c8) a0))) (nq_imm (e := 35) (by kernel_rfl)) ?_
 refine .nq (f := (cL c8)) (l := a0) (fun hn => by rw [hn]; kernel_rfl) ?_
 refine .s (A.imm [] true) ?_
 refine .bd (g := fun (y : List (List UInt8)) => ((A.sl 0 0 y.length false), [Blk.row true 1 (List.map (cL c8) y)])) (wrow_app (e := 35) (es := 1) (by_ := 24) (z := [(A.imm [] true)]) (by kernel_rfl) (by kernel_rfl) (by kernel_rfl) (by kernel_rfl) rfl (by decide) (by decide) (by kernel_rfl) (f := (cL c8)) (fun _ => rfl) ce_cL (l2 := a0) (els_imm ..)) fun y1 => ?_
 refine .cr ?_
 refine .ok ?_
 refine .st (v := (iA ((a1.length : Int)))) (len_imm (e := 76) (h1 := by kernel_rfl) ..) ?_
 refine .as (T54_54_0 C n  ([]) y1.length a1 ((a1.length : Int)) _ _ _ _ ?_ _ 0 y1)
 ·intro y13 y14 j15 j16 j17 j18
  refine .un rfl ?_
  refine .cT (by kernel_rfl) ?_
  exact .lf rfl rfl ⟨_, rfl, by show snapE [Blk.row true 1 (List.map (cL c8) y14)] (A.sl 0 0 y13 false) = _; first | (simp only [sn0, snM, snapE, snapGE_sub (H := [Blk.row true 1 (List.map (cL c8) y14)]) (b := 0) (es := 1) (wr := true) (l := y14) (fl_cL fl_c8) rfl]; done) | (simp only [sn0, snS, snapE, snapGE_sub (H := [Blk.row true 1 (List.map (cL c8) y14)]) (b := 0) (es := 1) (wr := true) (l := y14) (fl_cL fl_c8) rfl]; first | done | rfl)⟩
def G54 (a0 : (List (List UInt8))) (a1 : (List S_Write)) : Option (List (List UInt8)) := F54 fuel0 a0 a1
def Orc54 (C : Nat -> List A -> Option A) : Prop := ∀ (a0 : (List (List UInt8))) (a1 : (List S_Write)), C 54 [(A.imm (List.map (cL c8) a0) false), (A.imm (List.map c_S_Write a1) false)] = (G54 a0 a1).map fun y => (A.imm (List.map (cL c8) y) false)
def hk27_1 (v18 : (List (List UInt8))) (v19 : (List S_Write)) (v20 : Int) (v21 : Bool) : Blk := Blk.box [(A.imm (List.map (cL c8) v18) true), (A.imm (List.map c_S_Write v19) true), (iA v20), (bA v21)]
def F27_54_0 (n : Nat) (v12 : (List (List UInt8))) (v13 : Nat) (v14 : (List S_Write)) (v15 : Int) (v17 : S_Disk) (v18 : (List (List UInt8))) (v19 : (List S_Write)) (v20 : Int) (v21 : Bool) : Nat -> Int -> (List (List UInt8)) -> Option (Nat × (List (List UInt8)))
 | 0, _, _ => none
 | m + 1, v16, v22 => bif (decide (v16 < v15)) then ((getI v14 v16).bind fun y24 => (idxN v13 y24.At).bind fun k25 => (modI v22 k25 (fun (y : (List UInt8)) => y24.Data)).bind fun y26 => F27_54_0 n v12 v13 v14 v15 v17 v18 v19 v20 v21 m (wr .i64 (v16 + 1)) y26) else (some ((v13, v22)))
theorem T27_54_0 (C : Nat -> List A -> Option A) (n : Nat) (h50 : Orc50 C) (h54 : Orc54 C) (v12 : (List (List UInt8))) (v13 : Nat) (v14 : (List S_Write)) (v15 : Int) (v17 : S_Disk) (v18 : (List (List UInt8))) (v19 : (List S_Write)) (v20 : Int) (v21 : Bool) {ρ γ : Type} {φ : ρ -> γ -> Prop} {kL : R -> Option ρ} {K : (Nat × (List (List UInt8))) -> Option γ} (kx kg : Nat -> St -> Option R) (kr : St -> Option R) (kp : A -> St -> Option R) (x0 : ∀ (o0 : Nat) (o1 : (List (List UInt8))) (s4 : A) (s10 : A) (s11 : A) (s12 : A), J φ (kx 0 (St.mk [(4, s4), (5, (A.sl 2 0 o0 false)), (10, s10), (11, s11), (12, s12)] [Blk.box (c_S_Disk v17), (hk27_1 v18 v19 v20 v21), Blk.row true 1 (List.map (cL c8) o1)])) kL (K (o0, o1)) some) :
  ∀ (m : Nat) (v16 : Int) (v22 : (List (List UInt8))), J φ (loopR (cx C) (ec C n 7) (ey C n 7) (n+7) 54 0 0 3 kx kg kr kp m (St.mk [(4, (A.imm (List.map (cL c8) v12) true)), (5, (A.sl 2 0 v13 false)), (10, (A.imm (List.map c_S_Write v14) true)), (11, (iA v15)), (12, (iA v16))] [Blk.box (c_S_Disk v17), (hk27_1 v18 v19 v20 v21), Blk.row true 1 (List.map (cL c8) v22)])) kL (F27_54_0 n v12 v13 v14 v15 v17 v18 v19 v20 v21 m v16 v22) K := by
 intro m
 induction m with
 | zero => intros; exact .nn
 | succ m ih =>
  intro v16 v22
  refine .lp (e54_0 ..) ?_
  unfold F27_54_0
  refine .st (v := (bA (decide (v16 < v15)))) (aBin_lss ..) ?_
  refine .biHN (fun hk23 => ?_) (fun hk23 => ?_)
  ·refine .bd (g := fun (y : S_Write) => A.ip (c_S_Write y)) (idx_imm (e := 76) (es := 2) (h1 := by kernel_rfl) (h2 := by kernel_rfl) (h3 := fun _ => rfl) ..) fun y24 => ?_
   refine .s (A.agg [(iA y24.At), (A.imm (List.map c8 y24.Data) false)]) (.s ((A.ptr 3 0), [Blk.box (c_S_Disk v17), (hk27_1 v18 v19 v20 v21), Blk.row true 1 (List.map (cL c8) v22), Blk.box [(iA 0), (A.imm [] true)]]) (.s [Blk.box (c_S_Disk v17), (hk27_1 v18 v19 v20 v21), Blk.row true 1 (List.map (cL c8) v22), Blk.box [(iA y24.At), (A.imm (List.map c8 y24.Data) false)]] (.s (A.ptr 3 0) (.s (iA y24.At) (.s (A.ptr 3 1) (.s (A.imm (List.map c8 y24.Data) false) ?_))))))
   refine .bd (g := fun (y : Nat) => A.ep 2 y 0) (wrow_idx0 (e := 35) (es := 1) (l := v22) (by kernel_rfl) (by kernel_rfl) rfl) fun k25 => ?_
   refine .bd (g := fun (y : List (List UInt8)) => [Blk.box (c_S_Disk v17), (hk27_1 v18 v19 v20 v21), Blk.row true 1 (List.map (cL c8) y), Blk.box [(iA y24.At), (A.imm (List.map c8 y24.Data) false)]]) ((wrow_store (es := 1) (n := 1) (l := v22) (xs := [(A.imm (List.map c8 y24.Data) false)]) (u := fun (y : (List UInt8)) => y24.Data) (by kernel_rfl) (by kernel_rfl) (by decide) rfl (fun _ => rfl) (by decide) (by decide) rfl (fun _ => rfl))) fun y26 => ?_
   refine .st (v := (iA (wr .i64 (v16 + 1)))) (aBin_add ..) ?_
   refine .st (v := [Blk.box (c_S_Disk v17), (hk27_1 v18 v19 v20 v21), Blk.row true 1 (List.map (cL c8) y26)]) ((by kernel_rfl : _ = (bif ((((underss 3 (List.map (cL c8) v17.Sectors)) && ((underss 3 (List.map c_S_Write v17.Pending)) && true))) && ((((underss 3 (List.map (cL c8) v18)) && ((underss 3 (List.map c_S_Write v19)) && true))) && ((underss 3 (List.map (cL c8) y26)) && true))) then some [Blk.box (c_S_Disk v17), (hk27_1 v18 v19 v20 v21), Blk.row true 1 (List.map (cL c8) y26)] else none)).trans (by simp only [un0, unS])) ?_
   refine .cT ((by kernel_rfl : _ = (bif underss 3 (List.map (cL c8) v12) then (bif underss 3 (List.map c_S_Write v14) then true else false) else false)).trans (by simp only [un0, unS])) ?_
   exact ih _ _
  exact .ex (x0 _ _ _ _ _ _)
def F27 (n : Nat) (a0 : S_Disk) : Option (S_Disk × Int) :=
 (G50 a0).bind fun y1 => bif (!y1) then (some (((S_Disk.mk ([]) ([]) 0 false), 40))) else ((bif (decide (0 <= a0.Left)) then (some (decide (a0.Left < ((a0.Pending.length : Int))))) else (some false)).bind fun y4 => bif y4 then ((subI a0.Pending 0 a0.Left).bind fun y10 => (appI 24 ([]) a0.Sectors).bind fun y11 => (F27_54_0 n ([]) y11.length y10 ((y10.length : Int)) a0 ([]) ([]) 0 false (n+7) 0 y11).bind fun o27 => match o27 with | (y28, y29) => (getI a0.Pending a0.Left).bind fun y34 => (idxN y28 y34.At).bind fun k35 => (y29[k35]?).bind fun y36 => (appI 1 ([]) y36).bind fun y37 => (subN y37.length 0 64).bind fun k38 => (idxN y28 y34.At).bind fun k39 => (modI y29 k39 (fun (y : (List UInt8)) => (List.take y37.length (List.drop 0 ((copyI y37 k38.1 k38.2 y34.Data)))))).bind fun y40 => some (((S_Disk.mk ((List.take y28 (List.drop 0 y40))) ([]) 0 true), 40))) else ((G54 a0.Sectors a0.Pending).bind fun y41 => bif (decide (0 <= a0.Left)) then (some (((S_Disk.mk y41 ([]) (wr .i64 (a0.Left - ((a0.Pending.length : Int)))) false), 0))) else (some (((S_Disk.mk y41 ([]) a0.Left false), 0)))))
theorem T27 (C : Nat -> List A -> Option A) (n : Nat) (h50 : Orc50 C) (h54 : Orc54 C) (a0 : S_Disk) : J (fun (o : R) y => ∃ v, o.1 = .ret v /\ snapE o.2 v = (A.tup [(A.agg [(A.imm (List.map (cL c8) y.1.Sectors) false), (A.imm (List.map c_S_Write y.1.Pending) false), (iA y.1.Left), (bA y.1.Stopped)]), (iA y.2)])) (evCall1 (cx C) (ec C n 8) (ey C n 8) (n+8) 27 [(A.agg (c_S_Disk a0))] [] 0) some (F27 n a0) some := by
 refine .lp (e27 ..) ?_
 unfold F27
 refine .s ((A.ptr 0 0), [Blk.box (c_S_Disk a0)]) (.s ((A.ptr 1 0), [Blk.box (c_S_Disk a0), bz4]) (.s (A.agg (c_S_Disk a0)) ?_))
 refine .bd (g := fun (y : Bool) => (bA y)) (by show C 50 [snap _ (A.agg (c_S_Disk a0))] = _; simp only [sn0, snM]; exact h50 a0) fun y1 => ?_
 refine .s (bA (!y1)) ?_
 refine .biHN (fun hk2 => ?_) (fun hk2 => ?_)
 ·refine .s (A.agg [(A.imm [] true), (A.imm [] true), (iA 0), (bA false)]) (.s [Blk.box (c_S_Disk a0), bz4] (.s (A.agg [(A.imm [] true), (A.imm [] true), (iA 0), (bA false)]) ?_))
  exact .lf rfl rfl ⟨_, rfl, by show snapE _ (A.tup [(A.agg [(A.imm [] true), (A.imm [] true), (iA 0), (bA false)]), (iA 40)]) = _; first | (simp only [sn0, snM, snapE]; done) | (simp only [sn0, snS, snapE]; first | done | rfl)⟩
 refine .s (A.ptr 0 1) (.s (A.imm (List.map c_S_Write a0.Pending) false) ?_)
 refine .st (v := (iA ((a0.Pending.length : Int)))) (len_imm (e := 76) (h1 := by kernel_rfl) ..) ?_
 refine .s (A.ptr 0 2) (.s (iA a0.Left) ?_)
 refine .st (v := (bA (decide (0 <= a0.Left)))) (aBin_geq ..) ?_
 refine .bg (fun t (y : Bool) => ∃ j5 j6 j7 j8 : A, t = [(bA y), j5, j6, j7, j8]) ?_ ?_
 ·refine .biH (fun hk3 => ?_) (fun hk3 => ?_)
  ·refine .s (A.ptr 0 2) (.s (iA a0.Left) ?_)
   refine .st (v := (bA (decide (a0.Left < ((a0.Pending.length : Int)))))) (aBin_lss ..) ?_
   exact .lg ⟨_, _, _, _, rfl⟩
  exact .lg ⟨_, _, _, _, rfl⟩
 rintro _ y4 ⟨j5, j6, j7, j8, rfl⟩
 iterate 5 refine .uc ?_
 refine .biHN (fun hk9 => ?_) (fun hk9 => ?_)
 ·refine .s (A.ptr 0 1) (.s (A.imm (List.map c_S_Write a0.Pending) false) (.s (A.ptr 0 2) (.s (iA a0.Left) (.s (A.ptr 0 2) (.s (iA a0.Left) ?_)))))
  refine .bd (g := fun (y : List S_Write) => (A.imm (List.map c_S_Write y) true)) (cut_imm3 (e := 76) (es := 2) (f := c_S_Write) (l := a0.Pending) (a := 0) (b := a0.Left) (by kernel_rfl) (by kernel_rfl) (fun _ => rfl) (.inl ⟨rfl, rfl⟩)) fun y10 => ?_
  refine .s (A.ptr 0 0) (.s (A.imm (List.map (cL c8) a0.Sectors) false) ?_)
  refine .cl ((evCall_in lt_54).trans (e54 C (ec C n 7) (ey C n 7) (n+7) _ _ _ _)) ?_
  refine .cl ((evCall_in lt_69).trans (e69 C (evCall (cx C) (n+6)) (evCallY (cx C) (n+6)) (n+6) _ _ _)) ?_
  refine .st (v := (A.nq (List.map (cL c8) a0.Sectors))) (nq_imm (e := 35) (by kernel_rfl)) ?_
  refine .nq (f := (cL c8)) (l := a0.Sectors) (fun hn => by rw [hn]; kernel_rfl) ?_
  refine .s (A.imm [] true) ?_
  refine .bd (g := fun (y : List (List UInt8)) => ((A.sl 2 0 y.length false), [Blk.box (c_S_Disk a0), bz4, Blk.row true 1 (List.map (cL c8) y)])) (wrow_app (e := 35) (es := 1) (by_ := 24) (z := [(A.imm [] true)]) (by kernel_rfl) (by kernel_rfl) (by kernel_rfl) (by kernel_rfl) rfl (by decide) (by decide) (by kernel_rfl) (f := (cL c8)) (fun _ => rfl) ce_cL (l2 := a0.Sectors) (els_imm ..)) fun y11 => ?_
  refine .cr ?_
  refine .ok ?_
  refine .st (v := (iA ((y10.length : Int)))) (len_imm (e := 76) (h1 := by kernel_rfl) ..) ?_
  refine .as (T27_54_0 C n h50 h54 ([]) y11.length y10 ((y10.length : Int)) a0 ([]) ([]) 0 false _ _ _ _ ?_ _ 0 y11)
  ·intro y28 y29 j30 j31 j32 j33
   refine .un rfl ?_
   refine .cT (by kernel_rfl) ?_
   refine .cr ?_
   refine .ok ?_
   refine .s (A.agg [(A.sl 2 0 y28 false), (A.imm [] true), (iA 0), (bA true)]) (.s [Blk.box (c_S_Disk a0), Blk.box [(A.sl 2 0 y28 false), (A.imm [] true), (iA 0), (bA true)], Blk.row true 1 (List.map (cL c8) y29)] (.s (A.ptr 0 1) (.s (A.imm (List.map c_S_Write a0.Pending) false) (.s (A.ptr 0 2) (.s (iA a0.Left) ?_)))))
   refine .bd (g := fun (y : S_Write) => A.ip (c_S_Write y)) (idx_imm (e := 76) (es := 2) (h1 := by kernel_rfl) (h2 := by kernel_rfl) (h3 := fun _ => rfl) ..) fun y34 => ?_
   refine .s (A.agg [(iA y34.At), (A.imm (List.map c8 y34.Data) false)]) (.s ((A.ptr 3 0), [Blk.box (c_S_Disk a0), Blk.box [(A.sl 2 0 y28 false), (A.imm [] true), (iA 0), (bA true)], Blk.row true 1 (List.map (cL c8) y29), Blk.box [(iA 0), (A.imm [] true)]]) (.s [Blk.box (c_S_Disk a0), Blk.box [(A.sl 2 0 y28 false), (A.imm [] true), (iA 0), (bA true)], Blk.row true 1 (List.map (cL c8) y29), Blk.box [(iA y34.At), (A.imm (List.map c8 y34.Data) false)]] (.s (A.ptr 1 0) (.s (A.sl 2 0 y28 false) (.s (A.ptr 3 0) (.s (iA y34.At) ?_))))))
   refine .bd (g := fun (y : Nat) => A.ep 2 y 0) (wrow_idx0 (e := 35) (es := 1) (l := y29) (by kernel_rfl) (by kernel_rfl) rfl) fun k35 => ?_
   refine .bd (g := fun (y : (List UInt8)) => (A.imm (List.map c8 y) false)) (wrow_load (es := 1) (n := 1) (l := y29) (by kernel_rfl) (by decide) (fun _ => rfl) (by decide) rfl (fun _ => by kernel_rfl)) fun y36 => ?_
   refine .cl ((evCall_in lt_38).trans (e38 C (ec C n 7) (ey C n 7) (n+7) _ _ _)) ?_
   refine .st (v := (A.nq (List.map c8 y36))) (nq_imm (e := 5) (by kernel_rfl)) ?_
   refine .nq (f := c8) (l := y36) (fun hn => by rw [hn]; kernel_rfl) ?_
   refine .s (A.imm [] true) ?_
   refine .bd (g := fun (y : List UInt8) => ((A.sl 4 0 y.length false), [Blk.box (c_S_Disk a0), Blk.box [(A.sl 2 0 y28 false), (A.imm [] true), (iA 0), (bA true)], Blk.row true 1 (List.map (cL c8) y29), Blk.box [(iA y34.At), (A.imm (List.map c8 y34.Data) false)], Blk.row true 1 (List.map c8 y)])) (wrow_app (e := 5) (es := 1) (by_ := 1) (z := [(uA 0)]) (by kernel_rfl) (by kernel_rfl) (by kernel_rfl) (by kernel_rfl) rfl (by decide) (by decide) (by kernel_rfl) (f := c8) (fun _ => rfl) ce_c8 (l2 := y36) (els_imm ..)) fun y37 => ?_
   refine .cr ?_
   refine .ok ?_
   refine .bd (g := fun (y : Nat × Nat) => (A.sl 4 y.1 y.2 false)) (wrow_cut0 (e := 5) (es := 1) (p := 0) (q := 64) (by kernel_rfl) (by kernel_rfl) rfl (.inl ⟨rfl, rfl⟩) (.inr ⟨_, rfl⟩)) fun k38 => ?_
   refine .s (A.ptr 3 1) (.s (A.imm (List.map c8 y34.Data) false) ?_)
   refine .st (v := ((iA (((min y34.Data.length k38.2 : Nat) : Int))), [Blk.box (c_S_Disk a0), Blk.box [(A.sl 2 0 y28 false), (A.imm [] true), (iA 0), (bA true)], Blk.row true 1 (List.map (cL c8) y29), Blk.box [(iA y34.At), (A.imm (List.map c8 y34.Data) false)], Blk.row true 1 (List.map c8 ((copyI y37 k38.1 k38.2 y34.Data)))])) (wrow_copy (e := 5) (es := 1) (f := c8) (l := y37) (l2 := y34.Data) (by kernel_rfl) (by kernel_rfl) (by decide) (fun _ => rfl) ce_c8 (by decide) rfl (els_imm ..)) ?_
   refine .st (v := ((A.imm (List.map c8 ((List.take y37.length (List.drop 0 ((copyI y37 k38.1 k38.2 y34.Data)))))) false), [Blk.box (c_S_Disk a0), Blk.box [(A.sl 2 0 y28 false), (A.imm [] true), (iA 0), (bA true)], Blk.row true 1 (List.map (cL c8) y29), Blk.box [(iA y34.At), (A.imm (List.map c8 y34.Data) false)], Blk.dead])) (kill_row (es := 1) (l := (copyI y37 k38.1 k38.2 y34.Data)) fl_c8 rfl (by decide)) ?_
   refine .s (A.ptr 1 0) (.s (A.sl 2 0 y28 false) (.s (A.ptr 3 0) (.s (iA y34.At) ?_)))
   refine .bd (g := fun (y : Nat) => A.ep 2 y 0) (wrow_idx0 (e := 35) (es := 1) (l := y29) (by kernel_rfl) (by kernel_rfl) rfl) fun k39 => ?_
   refine .bd (g := fun (y : List (List UInt8)) => [Blk.box (c_S_Disk a0), Blk.box [(A.sl 2 0 y28 false), (A.imm [] true), (iA 0), (bA true)], Blk.row true 1 (List.map (cL c8) y), Blk.box [(iA y34.At), (A.imm (List.map c8 y34.Data) false)], Blk.dead]) ((wrow_store (es := 1) (n := 1) (l := y29) (xs := [(A.imm (List.map c8 ((List.take y37.length (List.drop 0 ((copyI y37 k38.1 k38.2 y34.Data)))))) false)]) (u := fun (y : (List UInt8)) => (List.take y37.length (List.drop 0 ((copyI y37 k38.1 k38.2 y34.Data))))) (by kernel_rfl) (by kernel_rfl) (by decide) rfl (fun _ => rfl) (by decide) (by decide) rfl (fun _ => rfl))) fun y40 => ?_
   refine .s (A.agg [(A.sl 2 0 y28 false), (A.imm [] true), (iA 0), (bA true)]) (.s [Blk.box (c_S_Disk a0), Blk.box [(A.sl 2 0 y28 false), (A.imm [] true), (iA 0), (bA true)], Blk.row true 1 (List.map (cL c8) y40), Blk.box [(iA y34.At), (A.imm (List.map c8 y34.Data) false)], Blk.dead] (.s (A.agg [(A.sl 2 0 y28 false), (A.imm [] true), (iA 0), (bA true)]) ?_))
   exact .lf rfl rfl ⟨_, rfl, by show snapE [Blk.box (c_S_Disk a0), Blk.box [(A.sl 2 0 y28 false), (A.imm [] true), (iA 0), (bA true)], Blk.row true 1 (List.map (cL c8) y40), Blk.box [(iA y34.At), (A.imm (List.map c8 y34.Data) false)], Blk.dead] (A.tup [(A.agg [(A.sl 2 0 y28 false), (A.imm [] true), (iA 0), (bA true)]), (iA 40)]) = _; first | (simp only [sn0, snM, snapE, snapGE_sub (H := [Blk.box (c_S_Disk a0), Blk.box [(A.sl 2 0 y28 false), (A.imm [] true), (iA 0), (bA true)], Blk.row true 1 (List.map (cL c8) y40), Blk.box [(iA y34.At), (A.imm (List.map c8 y34.Data) false)], Blk.dead]) (b := 2) (es := 1) (wr := true) (l := y40) (fl_cL fl_c8) rfl]; done) | (simp only [sn0, snS, snapE, snapGE_sub (H := [Blk.box (c_S_Disk a0), Blk.box [(A.sl 2 0 y28 false), (A.imm [] true), (iA 0), (bA true)], Blk.row true 1 (List.map (cL c8) y40), Blk.box [(iA y34.At), (A.imm (List.map c8 y34.Data) false)], Blk.dead]) (b := 2) (es := 1) (wr := true) (l := y40) (fl_cL fl_c8) rfl]; first | done | rfl)⟩
 refine .s (A.ptr 0 0) (.s (A.imm (List.map (cL c8) a0.Sectors) false) (.s (A.ptr 0 1) (.s (A.imm (List.map c_S_Write a0.Pending) false) ?_)))
 refine .bd (g := fun (y : (List (List UInt8))) => (A.imm (List.map (cL c8) y) false)) (by show C 54 [snap _ (A.imm (List.map (cL c8) a0.Sectors) false), snap _ (A.imm (List.map c_S_Write a0.Pending) false)] = _; simp only [sn0, snM]; exact h54 a0.Sectors a0.Pending) fun y41 => ?_
 refine .s (A.ptr 0 2) (.s (iA a0.Left) (.s (A.agg [(A.imm (List.map (cL c8) y41) false), (A.imm [] true), (iA a0.Left), (bA false)]) (.s [Blk.box (c_S_Disk a0), Blk.box [(A.imm (List.map (cL c8) y41) false), (A.imm [] true), (iA a0.Left), (bA false)]] (.s (A.ptr 1 2) (.s (iA a0.Left) ?_)))))
 refine .st (v := (bA (decide (0 <= a0.Left)))) (aBin_geq ..) ?_
 refine .biHN (fun hk42 => ?_) (fun hk42 => ?_)
 ·refine .s (A.ptr 1 2) (.s (iA a0.Left) ?_)
  refine .st (v := (iA (wr .i64 (a0.Left - ((a0.Pending.length : Int)))))) (aBin_sub ..) ?_
  refine .s (A.ptr 1 2) (.s [Blk.box (c_S_Disk a0), Blk.box [(A.imm (List.map (cL c8) y41) false), (A.imm [] true), (iA (wr .i64 (a0.Left - ((a0.Pending.length : Int))))), (bA false)]] (.s (A.agg [(A.imm (List.map (cL c8) y41) false), (A.imm [] true), (iA (wr .i64 (a0.Left - ((a0.Pending.length : Int))))), (bA false)]) (.s [Blk.box (c_S_Disk a0), Blk.box [(A.imm (List.map (cL c8) y41) false), (A.imm [] true), (iA (wr .i64 (a0.Left - ((a0.Pending.length : Int))))), (bA false)]] (.s (A.agg [(A.imm (List.map (cL c8) y41) false), (A.imm [] true), (iA (wr .i64 (a0.Left - ((a0.Pending.length : Int))))), (bA false)]) ?_))))
  exact .lf rfl rfl ⟨_, rfl, by show snapE _ (A.tup [(A.agg [(A.imm (List.map (cL c8) y41) false), (A.imm [] true), (iA (wr .i64 (a0.Left - ((a0.Pending.length : Int))))), (bA false)]), (iA 0)]) = _; first | (simp only [sn0, snM, snapE]; done) | (simp only [sn0, snS, snapE]; first | done | rfl)⟩
 refine .s (A.agg [(A.imm (List.map (cL c8) y41) false), (A.imm [] true), (iA a0.Left), (bA false)]) (.s [Blk.box (c_S_Disk a0), Blk.box [(A.imm (List.map (cL c8) y41) false), (A.imm [] true), (iA a0.Left), (bA false)]] (.s (A.agg [(A.imm (List.map (cL c8) y41) false), (A.imm [] true), (iA a0.Left), (bA false)]) ?_))
 exact .lf rfl rfl ⟨_, rfl, by show snapE _ (A.tup [(A.agg [(A.imm (List.map (cL c8) y41) false), (A.imm [] true), (iA a0.Left), (bA false)]), (iA 0)]) = _; first | (simp only [sn0, snM, snapE]; done) | (simp only [sn0, snS, snapE]; first | done | rfl)⟩
def G27 (a0 : S_Disk) : Option (S_Disk × Int) := F27 fuel0 a0
def Orc27 (C : Nat -> List A -> Option A) : Prop := ∀ (a0 : S_Disk), C 27 [(A.agg (c_S_Disk a0))] = (G27 a0).map fun y => (A.tup [(A.agg [(A.imm (List.map (cL c8) y.1.Sectors) false), (A.imm (List.map c_S_Write y.1.Pending) false), (iA y.1.Left), (bA y.1.Stopped)]), (iA y.2)])
end Go.Proofs.Ytobjniabioaefaa
