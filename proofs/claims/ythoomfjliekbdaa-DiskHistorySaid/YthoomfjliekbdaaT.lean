/-
 The program's functions as plain functions: by a tool; each follows the interpreter.
-/
import Derived.Test.YthoomfjliekbdaaT1
import Derived.KernelRfl
namespace Go.Proofs.Ythoomfjliekbdaa
open Go.Proofs.Try (prog)
set_option linter.unusedVariables false
set_option linter.unusedSimpArgs false
set_option maxHeartbeats 4000000
set_option maxRecDepth 100000
def F6_6_1 (n : Nat) (v52 : (List S_kinespherelaw04_Act)) (v53 : Bool) (v54 : Int) (v55 : Int) (v56 : Int) (v57 : Bool) (v59 : S_Disk) (v60 : Int) (v61 : Int) (v62 : Int) (v63 : Int) (v72 : (List S_kinespherelaw04_Act)) (v73 : S_kinespherelaw04_Act) (v74 : S_Disk) : Nat -> Int -> Int -> Int -> Int -> Int -> Int -> Int -> Int -> Int -> Option (Int × Int × Int × Int × Int × Int × Int × Int)
 | 0, _, _, _, _, _, _, _, _, _ => none
 | m + 1, v58, v64, v65, v66, v67, v68, v69, v70, v71 => (bif (decide (v58 < ((v72.length : Int)))) then (some (decide (v58 <= v54))) else (some false)).bind fun y76 => bif y76 then ((getI v72 v58).bind fun y81 => (getI v72 v58).bind fun y82 => bif decide ((Int.tmod y81.At 4) = 0) then (bif (decide (v58 < v54)) then ((getI v72 v58).bind fun y85 => (getI v72 v58).bind fun y86 => bif decide ((Int.tmod y85.At 4) = 0) then (F6_6_1 n v52 v53 v54 v55 v56 v57 v59 v60 v61 v62 v63 v72 v73 v74 m (wr .i64 (v58 + 1)) y82.Byte v65 v66 v67 y86.Byte v69 v70 v71) else bif decide ((Int.tmod y85.At 4) = 1) then (F6_6_1 n v52 v53 v54 v55 v56 v57 v59 v60 v61 v62 v63 v72 v73 v74 m (wr .i64 (v58 + 1)) y82.Byte v65 v66 v67 v68 y86.Byte v70 v71) else bif decide ((Int.tmod y85.At 4) = 2) then (F6_6_1 n v52 v53 v54 v55 v56 v57 v59 v60 v61 v62 v63 v72 v73 v74 m (wr .i64 (v58 + 1)) y82.Byte v65 v66 v67 v68 v69 y86.Byte v71) else bif decide ((Int.tmod y85.At 4) = 3) then (F6_6_1 n v52 v53 v54 v55 v56 v57 v59 v60 v61 v62 v63 v72 v73 v74 m (wr .i64 (v58 + 1)) y82.Byte v65 v66 v67 v68 v69 v70 y86.Byte) else none) else (F6_6_1 n v52 v53 v54 v55 v56 v57 v59 v60 v61 v62 v63 v72 v73 v74 m (wr .i64 (v58 + 1)) y82.Byte v65 v66 v67 v68 v69 v70 v71)) else bif decide ((Int.tmod y81.At 4) = 1) then (bif (decide (v58 < v54)) then ((getI v72 v58).bind fun y93 => (getI v72 v58).bind fun y94 => bif decide ((Int.tmod y93.At 4) = 0) then (F6_6_1 n v52 v53 v54 v55 v56 v57 v59 v60 v61 v62 v63 v72 v73 v74 m (wr .i64 (v58 + 1)) v64 y82.Byte v66 v67 y94.Byte v69 v70 v71) else bif decide ((Int.tmod y93.At 4) = 1) then (F6_6_1 n v52 v53 v54 v55 v56 v57 v59 v60 v61 v62 v63 v72 v73 v74 m (wr .i64 (v58 + 1)) v64 y82.Byte v66 v67 v68 y94.Byte v70 v71) else bif decide ((Int.tmod y93.At 4) = 2) then (F6_6_1 n v52 v53 v54 v55 v56 v57 v59 v60 v61 v62 v63 v72 v73 v74 m (wr .i64 (v58 + 1)) v64 y82.Byte v66 v67 v68 v69 y94.Byte v71) else bif decide ((Int.tmod y93.At 4) = 3) then (F6_6_1 n v52 v53 v54 v55 v56 v57 v59 v60 v61 v62 v63 v72 v73 v74 m (wr .i64 (v58 + 1)) v64 y82.Byte v66 v67 v68 v69 v70 y94.Byte) else none) else (F6_6_1 n v52 v53 v54 v55 v56 v57 v59 v60 v61 v62 v63 v72 v73 v74 m (wr .i64 (v58 + 1)) v64 y82.Byte v66 v67 v68 v69 v70 v71)) else bif decide ((Int.tmod y81.At 4) = 2) then (bif (decide (v58 < v54)) then ((getI v72 v58).bind fun y101 => (getI v72 v58).bind fun y102 => bif decide ((Int.tmod y101.At 4) = 0) then (F6_6_1 n v52 v53 v54 v55 v56 v57 v59 v60 v61 v62 v63 v72 v73 v74 m (wr .i64 (v58 + 1)) v64 v65 y82.Byte v67 y102.Byte v69 v70 v71) else bif decide ((Int.tmod y101.At 4) = 1) then (F6_6_1 n v52 v53 v54 v55 v56 v57 v59 v60 v61 v62 v63 v72 v73 v74 m (wr .i64 (v58 + 1)) v64 v65 y82.Byte v67 v68 y102.Byte v70 v71) else bif decide ((Int.tmod y101.At 4) = 2) then (F6_6_1 n v52 v53 v54 v55 v56 v57 v59 v60 v61 v62 v63 v72 v73 v74 m (wr .i64 (v58 + 1)) v64 v65 y82.Byte v67 v68 v69 y102.Byte v71) else bif decide ((Int.tmod y101.At 4) = 3) then (F6_6_1 n v52 v53 v54 v55 v56 v57 v59 v60 v61 v62 v63 v72 v73 v74 m (wr .i64 (v58 + 1)) v64 v65 y82.Byte v67 v68 v69 v70 y102.Byte) else none) else (F6_6_1 n v52 v53 v54 v55 v56 v57 v59 v60 v61 v62 v63 v72 v73 v74 m (wr .i64 (v58 + 1)) v64 v65 y82.Byte v67 v68 v69 v70 v71)) else bif decide ((Int.tmod y81.At 4) = 3) then (bif (decide (v58 < v54)) then ((getI v72 v58).bind fun y109 => (getI v72 v58).bind fun y110 => bif decide ((Int.tmod y109.At 4) = 0) then (F6_6_1 n v52 v53 v54 v55 v56 v57 v59 v60 v61 v62 v63 v72 v73 v74 m (wr .i64 (v58 + 1)) v64 v65 v66 y82.Byte y110.Byte v69 v70 v71) else bif decide ((Int.tmod y109.At 4) = 1) then (F6_6_1 n v52 v53 v54 v55 v56 v57 v59 v60 v61 v62 v63 v72 v73 v74 m (wr .i64 (v58 + 1)) v64 v65 v66 y82.Byte v68 y110.Byte v70 v71) else bif decide ((Int.tmod y109.At 4) = 2) then (F6_6_1 n v52 v53 v54 v55 v56 v57 v59 v60 v61 v62 v63 v72 v73 v74 m (wr .i64 (v58 + 1)) v64 v65 v66 y82.Byte v68 v69 y110.Byte v71) else bif decide ((Int.tmod y109.At 4) = 3) then (F6_6_1 n v52 v53 v54 v55 v56 v57 v59 v60 v61 v62 v63 v72 v73 v74 m (wr .i64 (v58 + 1)) v64 v65 v66 y82.Byte v68 v69 v70 y110.Byte) else none) else (F6_6_1 n v52 v53 v54 v55 v56 v57 v59 v60 v61 v62 v63 v72 v73 v74 m (wr .i64 (v58 + 1)) v64 v65 v66 y82.Byte v68 v69 v70 v71)) else none) else (some ((v64, v65, v66, v67, v68, v69, v70, v71)))
theorem T6_6_1 (C : Nat -> List A -> Option A) (n : Nat) (h10 : Orc10 C) (h12 : Orc12 C) (h17 : Orc17 C) (h19 : Orc19 C) (h23 : Orc23 C) (h25 : Orc25 C) (h27 : Orc27 C) (h28 : Orc28 C) (v52 : (List S_kinespherelaw04_Act)) (v53 : Bool) (v54 : Int) (v55 : Int) (v56 : Int) (v57 : Bool) (v59 : S_Disk) (v60 : Int) (v61 : Int) (v62 : Int) (v63 : Int) (v72 : (List S_kinespherelaw04_Act)) (v73 : S_kinespherelaw04_Act) (v74 : S_Disk) {ρ γ : Type} {φ : ρ -> γ -> Prop} {kL : R -> Option ρ} {K : (Int × Int × Int × Int × Int × Int × Int × Int) -> Option γ} (kx kg : Nat -> St -> Option R) (kr : St -> Option R) (kp : A -> St -> Option R) (x0 : ∀ (o0 : Int) (o1 : Int) (o2 : Int) (o3 : Int) (o4 : Int) (o5 : Int) (o6 : Int) (o7 : Int) (s20 : A), J φ (kx 2 (St.mk [(0, (A.imm (List.map c_S_kinespherelaw04_Act v52) false)), (4, (bA v53)), (5, (A.ptr 0 0)), (8, (A.ep 1 0 0)), (9, (A.ep 2 0 0)), (10, (A.ep 3 0 0)), (11, (A.sl 4 0 v72.length false)), (12, (iA v54)), (13, (iA v55)), (17, (A.ptr 6 0)), (18, (iA v56)), (19, (bA v57)), (20, s20)] [Blk.box (c_S_Disk v59), Blk.row true 1 [[(uA v60)], [(uA v61)], [(uA v62)], [(uA v63)]], Blk.row true 1 [[(uA o0)], [(uA o1)], [(uA o2)], [(uA o3)]], Blk.row true 1 [[(uA o4)], [(uA o5)], [(uA o6)], [(uA o7)]], Blk.row false 3 (List.map c_S_kinespherelaw04_Act v72), Blk.box (c_S_kinespherelaw04_Act v73), Blk.box (c_S_Disk v74)])) kL (K (o0, o1, o2, o3, o4, o5, o6, o7)) some) :
  ∀ (m : Nat) (v58 : Int) (v64 : Int) (v65 : Int) (v66 : Int) (v67 : Int) (v68 : Int) (v69 : Int) (v70 : Int) (v71 : Int), J φ (loopR (cx C) (ec C n 8) (ey C n 8) (n+8) 6 0 1 7 kx kg kr kp m (St.mk [(0, (A.imm (List.map c_S_kinespherelaw04_Act v52) false)), (4, (bA v53)), (5, (A.ptr 0 0)), (8, (A.ep 1 0 0)), (9, (A.ep 2 0 0)), (10, (A.ep 3 0 0)), (11, (A.sl 4 0 v72.length false)), (12, (iA v54)), (13, (iA v55)), (17, (A.ptr 6 0)), (18, (iA v56)), (19, (bA v57)), (20, (iA v58))] [Blk.box (c_S_Disk v59), Blk.row true 1 [[(uA v60)], [(uA v61)], [(uA v62)], [(uA v63)]], Blk.row true 1 [[(uA v64)], [(uA v65)], [(uA v66)], [(uA v67)]], Blk.row true 1 [[(uA v68)], [(uA v69)], [(uA v70)], [(uA v71)]], Blk.row false 3 (List.map c_S_kinespherelaw04_Act v72), Blk.box (c_S_kinespherelaw04_Act v73), Blk.box (c_S_Disk v74)])) kL (F6_6_1 n v52 v53 v54 v55 v56 v57 v59 v60 v61 v62 v63 v72 v73 v74 m v58 v64 v65 v66 v67 v68 v69 v70 v71) K := by
 intro m
 induction m with
 | zero => intros; exact .nn
 | succ m ih =>
  intro v58 v64 v65 v66 v67 v68 v69 v70 v71
  refine .lp (e6_1 ..) ?_
  unfold F6_6_1
  refine .st (v := (iA ((v72.length : Int)))) (row_len (e := 46) (by kernel_rfl) rfl rfl) ?_
  refine .st (v := (bA (decide (v58 < ((v72.length : Int)))))) (aBin_lss ..) ?_
  refine .bg (fun t (y : Bool) => ∃ j77 j78 j79 : A, t = [(bA y), j77, j78, j79]) ?_ ?_
  ·refine .biH (fun hk75 => ?_) (fun hk75 => ?_)
   ·refine .st (v := (bA (decide (v58 <= v54)))) (aBin_leq ..) ?_
    exact .lg ⟨_, _, _, rfl⟩
   exact .lg ⟨_, _, _, rfl⟩
  rintro _ y76 ⟨j77, j78, j79, rfl⟩
  iterate 4 refine .uc ?_
  refine .biHN (fun hk80 => ?_) (fun hk80 => ?_)
  ·refine .bd (g := fun (y : S_kinespherelaw04_Act) => A.ip (c_S_kinespherelaw04_Act y)) (row_idx (e := 46) (es := 3) (l := v72) (by kernel_rfl) (by kernel_rfl) rfl) fun y81 => ?_
   refine .s (A.ip [(uA y81.At), (uA y81.Byte)]) (.s (uA y81.At) ?_)
   refine .st (v := (uA (Int.tmod y81.At 4))) (aBin_rem (hb := by decide) ..) ?_
   refine .bd (g := fun (y : S_kinespherelaw04_Act) => A.ip (c_S_kinespherelaw04_Act y)) (row_idx (e := 46) (es := 3) (l := v72) (by kernel_rfl) (by kernel_rfl) rfl) fun y82 => ?_
   refine .s (A.ip [(uA y82.Byte)]) (.s (uA y82.Byte) ?_)
   refine .sp (fun hb83 => ?_) (fun _ => ?_)
   ·refine .st (v := (A.ep 2 0 0)) (by rw [of_decide_eq_true hb83]; kernel_rfl) ?_
    refine .s [Blk.box (c_S_Disk v59), Blk.row true 1 [[(uA v60)], [(uA v61)], [(uA v62)], [(uA v63)]], Blk.row true 1 [[(uA y82.Byte)], [(uA v65)], [(uA v66)], [(uA v67)]], Blk.row true 1 [[(uA v68)], [(uA v69)], [(uA v70)], [(uA v71)]], Blk.row false 3 (List.map c_S_kinespherelaw04_Act v72), Blk.box (c_S_kinespherelaw04_Act v73), Blk.box (c_S_Disk v74)] ?_
    refine .st (v := (bA (decide (v58 < v54)))) (aBin_lss ..) ?_
    refine .biHN (fun hk84 => ?_) (fun hk84 => ?_)
    ·refine .bd (g := fun (y : S_kinespherelaw04_Act) => A.ip (c_S_kinespherelaw04_Act y)) (row_idx (e := 46) (es := 3) (l := v72) (by kernel_rfl) (by kernel_rfl) rfl) fun y85 => ?_
     refine .s (A.ip [(uA y85.At), (uA y85.Byte)]) (.s (uA y85.At) ?_)
     refine .st (v := (uA (Int.tmod y85.At 4))) (aBin_rem (hb := by decide) ..) ?_
     refine .bd (g := fun (y : S_kinespherelaw04_Act) => A.ip (c_S_kinespherelaw04_Act y)) (row_idx (e := 46) (es := 3) (l := v72) (by kernel_rfl) (by kernel_rfl) rfl) fun y86 => ?_
     refine .s (A.ip [(uA y86.Byte)]) (.s (uA y86.Byte) ?_)
     refine .sp (fun hb87 => ?_) (fun _ => ?_)
     ·refine .st (v := (A.ep 3 0 0)) (by rw [of_decide_eq_true hb87]; kernel_rfl) ?_
      refine .s [Blk.box (c_S_Disk v59), Blk.row true 1 [[(uA v60)], [(uA v61)], [(uA v62)], [(uA v63)]], Blk.row true 1 [[(uA y82.Byte)], [(uA v65)], [(uA v66)], [(uA v67)]], Blk.row true 1 [[(uA y86.Byte)], [(uA v69)], [(uA v70)], [(uA v71)]], Blk.row false 3 (List.map c_S_kinespherelaw04_Act v72), Blk.box (c_S_kinespherelaw04_Act v73), Blk.box (c_S_Disk v74)] ?_
      refine .st (v := (iA (wr .i64 (v58 + 1)))) (aBin_add ..) ?_
      refine .s [Blk.box (c_S_Disk v59), Blk.row true 1 [[(uA v60)], [(uA v61)], [(uA v62)], [(uA v63)]], Blk.row true 1 [[(uA y82.Byte)], [(uA v65)], [(uA v66)], [(uA v67)]], Blk.row true 1 [[(uA y86.Byte)], [(uA v69)], [(uA v70)], [(uA v71)]], Blk.row false 3 (List.map c_S_kinespherelaw04_Act v72), Blk.box (c_S_kinespherelaw04_Act v73), Blk.box (c_S_Disk v74)] ?_
      refine .cT (by kernel_rfl) ?_
      exact ih _ _ _ _ _ _ _ _ _
     refine .sp (fun hb88 => ?_) (fun _ => ?_)
     ·refine .st (v := (A.ep 3 1 0)) (by rw [of_decide_eq_true hb88]; kernel_rfl) ?_
      refine .s [Blk.box (c_S_Disk v59), Blk.row true 1 [[(uA v60)], [(uA v61)], [(uA v62)], [(uA v63)]], Blk.row true 1 [[(uA y82.Byte)], [(uA v65)], [(uA v66)], [(uA v67)]], Blk.row true 1 [[(uA v68)], [(uA y86.Byte)], [(uA v70)], [(uA v71)]], Blk.row false 3 (List.map c_S_kinespherelaw04_Act v72), Blk.box (c_S_kinespherelaw04_Act v73), Blk.box (c_S_Disk v74)] ?_
      refine .st (v := (iA (wr .i64 (v58 + 1)))) (aBin_add ..) ?_
      refine .s [Blk.box (c_S_Disk v59), Blk.row true 1 [[(uA v60)], [(uA v61)], [(uA v62)], [(uA v63)]], Blk.row true 1 [[(uA y82.Byte)], [(uA v65)], [(uA v66)], [(uA v67)]], Blk.row true 1 [[(uA v68)], [(uA y86.Byte)], [(uA v70)], [(uA v71)]], Blk.row false 3 (List.map c_S_kinespherelaw04_Act v72), Blk.box (c_S_kinespherelaw04_Act v73), Blk.box (c_S_Disk v74)] ?_
      refine .cT (by kernel_rfl) ?_
      exact ih _ _ _ _ _ _ _ _ _
     refine .sp (fun hb89 => ?_) (fun _ => ?_)
     ·refine .st (v := (A.ep 3 2 0)) (by rw [of_decide_eq_true hb89]; kernel_rfl) ?_
      refine .s [Blk.box (c_S_Disk v59), Blk.row true 1 [[(uA v60)], [(uA v61)], [(uA v62)], [(uA v63)]], Blk.row true 1 [[(uA y82.Byte)], [(uA v65)], [(uA v66)], [(uA v67)]], Blk.row true 1 [[(uA v68)], [(uA v69)], [(uA y86.Byte)], [(uA v71)]], Blk.row false 3 (List.map c_S_kinespherelaw04_Act v72), Blk.box (c_S_kinespherelaw04_Act v73), Blk.box (c_S_Disk v74)] ?_
      refine .st (v := (iA (wr .i64 (v58 + 1)))) (aBin_add ..) ?_
      refine .s [Blk.box (c_S_Disk v59), Blk.row true 1 [[(uA v60)], [(uA v61)], [(uA v62)], [(uA v63)]], Blk.row true 1 [[(uA y82.Byte)], [(uA v65)], [(uA v66)], [(uA v67)]], Blk.row true 1 [[(uA v68)], [(uA v69)], [(uA y86.Byte)], [(uA v71)]], Blk.row false 3 (List.map c_S_kinespherelaw04_Act v72), Blk.box (c_S_kinespherelaw04_Act v73), Blk.box (c_S_Disk v74)] ?_
      refine .cT (by kernel_rfl) ?_
      exact ih _ _ _ _ _ _ _ _ _
     refine .sp (fun hb90 => ?_) (fun _ => ?_)
     ·refine .st (v := (A.ep 3 3 0)) (by rw [of_decide_eq_true hb90]; kernel_rfl) ?_
      refine .s [Blk.box (c_S_Disk v59), Blk.row true 1 [[(uA v60)], [(uA v61)], [(uA v62)], [(uA v63)]], Blk.row true 1 [[(uA y82.Byte)], [(uA v65)], [(uA v66)], [(uA v67)]], Blk.row true 1 [[(uA v68)], [(uA v69)], [(uA v70)], [(uA y86.Byte)]], Blk.row false 3 (List.map c_S_kinespherelaw04_Act v72), Blk.box (c_S_kinespherelaw04_Act v73), Blk.box (c_S_Disk v74)] ?_
      refine .st (v := (iA (wr .i64 (v58 + 1)))) (aBin_add ..) ?_
      refine .s [Blk.box (c_S_Disk v59), Blk.row true 1 [[(uA v60)], [(uA v61)], [(uA v62)], [(uA v63)]], Blk.row true 1 [[(uA y82.Byte)], [(uA v65)], [(uA v66)], [(uA v67)]], Blk.row true 1 [[(uA v68)], [(uA v69)], [(uA v70)], [(uA y86.Byte)]], Blk.row false 3 (List.map c_S_kinespherelaw04_Act v72), Blk.box (c_S_kinespherelaw04_Act v73), Blk.box (c_S_Disk v74)] ?_
      refine .cT (by kernel_rfl) ?_
      exact ih _ _ _ _ _ _ _ _ _
     exact .nn
    refine .st (v := (iA (wr .i64 (v58 + 1)))) (aBin_add ..) ?_
    refine .s [Blk.box (c_S_Disk v59), Blk.row true 1 [[(uA v60)], [(uA v61)], [(uA v62)], [(uA v63)]], Blk.row true 1 [[(uA y82.Byte)], [(uA v65)], [(uA v66)], [(uA v67)]], Blk.row true 1 [[(uA v68)], [(uA v69)], [(uA v70)], [(uA v71)]], Blk.row false 3 (List.map c_S_kinespherelaw04_Act v72), Blk.box (c_S_kinespherelaw04_Act v73), Blk.box (c_S_Disk v74)] ?_
    refine .cT (by kernel_rfl) ?_
    exact ih _ _ _ _ _ _ _ _ _
   refine .sp (fun hb91 => ?_) (fun _ => ?_)
   ·refine .st (v := (A.ep 2 1 0)) (by rw [of_decide_eq_true hb91]; kernel_rfl) ?_
    refine .s [Blk.box (c_S_Disk v59), Blk.row true 1 [[(uA v60)], [(uA v61)], [(uA v62)], [(uA v63)]], Blk.row true 1 [[(uA v64)], [(uA y82.Byte)], [(uA v66)], [(uA v67)]], Blk.row true 1 [[(uA v68)], [(uA v69)], [(uA v70)], [(uA v71)]], Blk.row false 3 (List.map c_S_kinespherelaw04_Act v72), Blk.box (c_S_kinespherelaw04_Act v73), Blk.box (c_S_Disk v74)] ?_
    refine .st (v := (bA (decide (v58 < v54)))) (aBin_lss ..) ?_
    refine .biHN (fun hk92 => ?_) (fun hk92 => ?_)
    ·refine .bd (g := fun (y : S_kinespherelaw04_Act) => A.ip (c_S_kinespherelaw04_Act y)) (row_idx (e := 46) (es := 3) (l := v72) (by kernel_rfl) (by kernel_rfl) rfl) fun y93 => ?_
     refine .s (A.ip [(uA y93.At), (uA y93.Byte)]) (.s (uA y93.At) ?_)
     refine .st (v := (uA (Int.tmod y93.At 4))) (aBin_rem (hb := by decide) ..) ?_
     refine .bd (g := fun (y : S_kinespherelaw04_Act) => A.ip (c_S_kinespherelaw04_Act y)) (row_idx (e := 46) (es := 3) (l := v72) (by kernel_rfl) (by kernel_rfl) rfl) fun y94 => ?_
     refine .s (A.ip [(uA y94.Byte)]) (.s (uA y94.Byte) ?_)
     refine .sp (fun hb95 => ?_) (fun _ => ?_)
     ·refine .st (v := (A.ep 3 0 0)) (by rw [of_decide_eq_true hb95]; kernel_rfl) ?_
      refine .s [Blk.box (c_S_Disk v59), Blk.row true 1 [[(uA v60)], [(uA v61)], [(uA v62)], [(uA v63)]], Blk.row true 1 [[(uA v64)], [(uA y82.Byte)], [(uA v66)], [(uA v67)]], Blk.row true 1 [[(uA y94.Byte)], [(uA v69)], [(uA v70)], [(uA v71)]], Blk.row false 3 (List.map c_S_kinespherelaw04_Act v72), Blk.box (c_S_kinespherelaw04_Act v73), Blk.box (c_S_Disk v74)] ?_
      refine .st (v := (iA (wr .i64 (v58 + 1)))) (aBin_add ..) ?_
      refine .s [Blk.box (c_S_Disk v59), Blk.row true 1 [[(uA v60)], [(uA v61)], [(uA v62)], [(uA v63)]], Blk.row true 1 [[(uA v64)], [(uA y82.Byte)], [(uA v66)], [(uA v67)]], Blk.row true 1 [[(uA y94.Byte)], [(uA v69)], [(uA v70)], [(uA v71)]], Blk.row false 3 (List.map c_S_kinespherelaw04_Act v72), Blk.box (c_S_kinespherelaw04_Act v73), Blk.box (c_S_Disk v74)] ?_
      refine .cT (by kernel_rfl) ?_
      exact ih _ _ _ _ _ _ _ _ _
     refine .sp (fun hb96 => ?_) (fun _ => ?_)
     ·refine .st (v := (A.ep 3 1 0)) (by rw [of_decide_eq_true hb96]; kernel_rfl) ?_
      refine .s [Blk.box (c_S_Disk v59), Blk.row true 1 [[(uA v60)], [(uA v61)], [(uA v62)], [(uA v63)]], Blk.row true 1 [[(uA v64)], [(uA y82.Byte)], [(uA v66)], [(uA v67)]], Blk.row true 1 [[(uA v68)], [(uA y94.Byte)], [(uA v70)], [(uA v71)]], Blk.row false 3 (List.map c_S_kinespherelaw04_Act v72), Blk.box (c_S_kinespherelaw04_Act v73), Blk.box (c_S_Disk v74)] ?_
      refine .st (v := (iA (wr .i64 (v58 + 1)))) (aBin_add ..) ?_
      refine .s [Blk.box (c_S_Disk v59), Blk.row true 1 [[(uA v60)], [(uA v61)], [(uA v62)], [(uA v63)]], Blk.row true 1 [[(uA v64)], [(uA y82.Byte)], [(uA v66)], [(uA v67)]], Blk.row true 1 [[(uA v68)], [(uA y94.Byte)], [(uA v70)], [(uA v71)]], Blk.row false 3 (List.map c_S_kinespherelaw04_Act v72), Blk.box (c_S_kinespherelaw04_Act v73), Blk.box (c_S_Disk v74)] ?_
      refine .cT (by kernel_rfl) ?_
      exact ih _ _ _ _ _ _ _ _ _
     refine .sp (fun hb97 => ?_) (fun _ => ?_)
     ·refine .st (v := (A.ep 3 2 0)) (by rw [of_decide_eq_true hb97]; kernel_rfl) ?_
      refine .s [Blk.box (c_S_Disk v59), Blk.row true 1 [[(uA v60)], [(uA v61)], [(uA v62)], [(uA v63)]], Blk.row true 1 [[(uA v64)], [(uA y82.Byte)], [(uA v66)], [(uA v67)]], Blk.row true 1 [[(uA v68)], [(uA v69)], [(uA y94.Byte)], [(uA v71)]], Blk.row false 3 (List.map c_S_kinespherelaw04_Act v72), Blk.box (c_S_kinespherelaw04_Act v73), Blk.box (c_S_Disk v74)] ?_
      refine .st (v := (iA (wr .i64 (v58 + 1)))) (aBin_add ..) ?_
      refine .s [Blk.box (c_S_Disk v59), Blk.row true 1 [[(uA v60)], [(uA v61)], [(uA v62)], [(uA v63)]], Blk.row true 1 [[(uA v64)], [(uA y82.Byte)], [(uA v66)], [(uA v67)]], Blk.row true 1 [[(uA v68)], [(uA v69)], [(uA y94.Byte)], [(uA v71)]], Blk.row false 3 (List.map c_S_kinespherelaw04_Act v72), Blk.box (c_S_kinespherelaw04_Act v73), Blk.box (c_S_Disk v74)] ?_
      refine .cT (by kernel_rfl) ?_
      exact ih _ _ _ _ _ _ _ _ _
     refine .sp (fun hb98 => ?_) (fun _ => ?_)
     ·refine .st (v := (A.ep 3 3 0)) (by rw [of_decide_eq_true hb98]; kernel_rfl) ?_
      refine .s [Blk.box (c_S_Disk v59), Blk.row true 1 [[(uA v60)], [(uA v61)], [(uA v62)], [(uA v63)]], Blk.row true 1 [[(uA v64)], [(uA y82.Byte)], [(uA v66)], [(uA v67)]], Blk.row true 1 [[(uA v68)], [(uA v69)], [(uA v70)], [(uA y94.Byte)]], Blk.row false 3 (List.map c_S_kinespherelaw04_Act v72), Blk.box (c_S_kinespherelaw04_Act v73), Blk.box (c_S_Disk v74)] ?_
      refine .st (v := (iA (wr .i64 (v58 + 1)))) (aBin_add ..) ?_
      refine .s [Blk.box (c_S_Disk v59), Blk.row true 1 [[(uA v60)], [(uA v61)], [(uA v62)], [(uA v63)]], Blk.row true 1 [[(uA v64)], [(uA y82.Byte)], [(uA v66)], [(uA v67)]], Blk.row true 1 [[(uA v68)], [(uA v69)], [(uA v70)], [(uA y94.Byte)]], Blk.row false 3 (List.map c_S_kinespherelaw04_Act v72), Blk.box (c_S_kinespherelaw04_Act v73), Blk.box (c_S_Disk v74)] ?_
      refine .cT (by kernel_rfl) ?_
      exact ih _ _ _ _ _ _ _ _ _
     exact .nn
    refine .st (v := (iA (wr .i64 (v58 + 1)))) (aBin_add ..) ?_
    refine .s [Blk.box (c_S_Disk v59), Blk.row true 1 [[(uA v60)], [(uA v61)], [(uA v62)], [(uA v63)]], Blk.row true 1 [[(uA v64)], [(uA y82.Byte)], [(uA v66)], [(uA v67)]], Blk.row true 1 [[(uA v68)], [(uA v69)], [(uA v70)], [(uA v71)]], Blk.row false 3 (List.map c_S_kinespherelaw04_Act v72), Blk.box (c_S_kinespherelaw04_Act v73), Blk.box (c_S_Disk v74)] ?_
    refine .cT (by kernel_rfl) ?_
    exact ih _ _ _ _ _ _ _ _ _
   refine .sp (fun hb99 => ?_) (fun _ => ?_)
   ·refine .st (v := (A.ep 2 2 0)) (by rw [of_decide_eq_true hb99]; kernel_rfl) ?_
    refine .s [Blk.box (c_S_Disk v59), Blk.row true 1 [[(uA v60)], [(uA v61)], [(uA v62)], [(uA v63)]], Blk.row true 1 [[(uA v64)], [(uA v65)], [(uA y82.Byte)], [(uA v67)]], Blk.row true 1 [[(uA v68)], [(uA v69)], [(uA v70)], [(uA v71)]], Blk.row false 3 (List.map c_S_kinespherelaw04_Act v72), Blk.box (c_S_kinespherelaw04_Act v73), Blk.box (c_S_Disk v74)] ?_
    refine .st (v := (bA (decide (v58 < v54)))) (aBin_lss ..) ?_
    refine .biHN (fun hk100 => ?_) (fun hk100 => ?_)
    ·refine .bd (g := fun (y : S_kinespherelaw04_Act) => A.ip (c_S_kinespherelaw04_Act y)) (row_idx (e := 46) (es := 3) (l := v72) (by kernel_rfl) (by kernel_rfl) rfl) fun y101 => ?_
     refine .s (A.ip [(uA y101.At), (uA y101.Byte)]) (.s (uA y101.At) ?_)
     refine .st (v := (uA (Int.tmod y101.At 4))) (aBin_rem (hb := by decide) ..) ?_
     refine .bd (g := fun (y : S_kinespherelaw04_Act) => A.ip (c_S_kinespherelaw04_Act y)) (row_idx (e := 46) (es := 3) (l := v72) (by kernel_rfl) (by kernel_rfl) rfl) fun y102 => ?_
     refine .s (A.ip [(uA y102.Byte)]) (.s (uA y102.Byte) ?_)
     refine .sp (fun hb103 => ?_) (fun _ => ?_)
     ·refine .st (v := (A.ep 3 0 0)) (by rw [of_decide_eq_true hb103]; kernel_rfl) ?_
      refine .s [Blk.box (c_S_Disk v59), Blk.row true 1 [[(uA v60)], [(uA v61)], [(uA v62)], [(uA v63)]], Blk.row true 1 [[(uA v64)], [(uA v65)], [(uA y82.Byte)], [(uA v67)]], Blk.row true 1 [[(uA y102.Byte)], [(uA v69)], [(uA v70)], [(uA v71)]], Blk.row false 3 (List.map c_S_kinespherelaw04_Act v72), Blk.box (c_S_kinespherelaw04_Act v73), Blk.box (c_S_Disk v74)] ?_
      refine .st (v := (iA (wr .i64 (v58 + 1)))) (aBin_add ..) ?_
      refine .s [Blk.box (c_S_Disk v59), Blk.row true 1 [[(uA v60)], [(uA v61)], [(uA v62)], [(uA v63)]], Blk.row true 1 [[(uA v64)], [(uA v65)], [(uA y82.Byte)], [(uA v67)]], Blk.row true 1 [[(uA y102.Byte)], [(uA v69)], [(uA v70)], [(uA v71)]], Blk.row false 3 (List.map c_S_kinespherelaw04_Act v72), Blk.box (c_S_kinespherelaw04_Act v73), Blk.box (c_S_Disk v74)] ?_
      refine .cT (by kernel_rfl) ?_
      exact ih _ _ _ _ _ _ _ _ _
     refine .sp (fun hb104 => ?_) (fun _ => ?_)
     ·refine .st (v := (A.ep 3 1 0)) (by rw [of_decide_eq_true hb104]; kernel_rfl) ?_
      refine .s [Blk.box (c_S_Disk v59), Blk.row true 1 [[(uA v60)], [(uA v61)], [(uA v62)], [(uA v63)]], Blk.row true 1 [[(uA v64)], [(uA v65)], [(uA y82.Byte)], [(uA v67)]], Blk.row true 1 [[(uA v68)], [(uA y102.Byte)], [(uA v70)], [(uA v71)]], Blk.row false 3 (List.map c_S_kinespherelaw04_Act v72), Blk.box (c_S_kinespherelaw04_Act v73), Blk.box (c_S_Disk v74)] ?_
      refine .st (v := (iA (wr .i64 (v58 + 1)))) (aBin_add ..) ?_
      refine .s [Blk.box (c_S_Disk v59), Blk.row true 1 [[(uA v60)], [(uA v61)], [(uA v62)], [(uA v63)]], Blk.row true 1 [[(uA v64)], [(uA v65)], [(uA y82.Byte)], [(uA v67)]], Blk.row true 1 [[(uA v68)], [(uA y102.Byte)], [(uA v70)], [(uA v71)]], Blk.row false 3 (List.map c_S_kinespherelaw04_Act v72), Blk.box (c_S_kinespherelaw04_Act v73), Blk.box (c_S_Disk v74)] ?_
      refine .cT (by kernel_rfl) ?_
      exact ih _ _ _ _ _ _ _ _ _
     refine .sp (fun hb105 => ?_) (fun _ => ?_)
     ·refine .st (v := (A.ep 3 2 0)) (by rw [of_decide_eq_true hb105]; kernel_rfl) ?_
      refine .s [Blk.box (c_S_Disk v59), Blk.row true 1 [[(uA v60)], [(uA v61)], [(uA v62)], [(uA v63)]], Blk.row true 1 [[(uA v64)], [(uA v65)], [(uA y82.Byte)], [(uA v67)]], Blk.row true 1 [[(uA v68)], [(uA v69)], [(uA y102.Byte)], [(uA v71)]], Blk.row false 3 (List.map c_S_kinespherelaw04_Act v72), Blk.box (c_S_kinespherelaw04_Act v73), Blk.box (c_S_Disk v74)] ?_
      refine .st (v := (iA (wr .i64 (v58 + 1)))) (aBin_add ..) ?_
      refine .s [Blk.box (c_S_Disk v59), Blk.row true 1 [[(uA v60)], [(uA v61)], [(uA v62)], [(uA v63)]], Blk.row true 1 [[(uA v64)], [(uA v65)], [(uA y82.Byte)], [(uA v67)]], Blk.row true 1 [[(uA v68)], [(uA v69)], [(uA y102.Byte)], [(uA v71)]], Blk.row false 3 (List.map c_S_kinespherelaw04_Act v72), Blk.box (c_S_kinespherelaw04_Act v73), Blk.box (c_S_Disk v74)] ?_
      refine .cT (by kernel_rfl) ?_
      exact ih _ _ _ _ _ _ _ _ _
     refine .sp (fun hb106 => ?_) (fun _ => ?_)
     ·refine .st (v := (A.ep 3 3 0)) (by rw [of_decide_eq_true hb106]; kernel_rfl) ?_
      refine .s [Blk.box (c_S_Disk v59), Blk.row true 1 [[(uA v60)], [(uA v61)], [(uA v62)], [(uA v63)]], Blk.row true 1 [[(uA v64)], [(uA v65)], [(uA y82.Byte)], [(uA v67)]], Blk.row true 1 [[(uA v68)], [(uA v69)], [(uA v70)], [(uA y102.Byte)]], Blk.row false 3 (List.map c_S_kinespherelaw04_Act v72), Blk.box (c_S_kinespherelaw04_Act v73), Blk.box (c_S_Disk v74)] ?_
      refine .st (v := (iA (wr .i64 (v58 + 1)))) (aBin_add ..) ?_
      refine .s [Blk.box (c_S_Disk v59), Blk.row true 1 [[(uA v60)], [(uA v61)], [(uA v62)], [(uA v63)]], Blk.row true 1 [[(uA v64)], [(uA v65)], [(uA y82.Byte)], [(uA v67)]], Blk.row true 1 [[(uA v68)], [(uA v69)], [(uA v70)], [(uA y102.Byte)]], Blk.row false 3 (List.map c_S_kinespherelaw04_Act v72), Blk.box (c_S_kinespherelaw04_Act v73), Blk.box (c_S_Disk v74)] ?_
      refine .cT (by kernel_rfl) ?_
      exact ih _ _ _ _ _ _ _ _ _
     exact .nn
    refine .st (v := (iA (wr .i64 (v58 + 1)))) (aBin_add ..) ?_
    refine .s [Blk.box (c_S_Disk v59), Blk.row true 1 [[(uA v60)], [(uA v61)], [(uA v62)], [(uA v63)]], Blk.row true 1 [[(uA v64)], [(uA v65)], [(uA y82.Byte)], [(uA v67)]], Blk.row true 1 [[(uA v68)], [(uA v69)], [(uA v70)], [(uA v71)]], Blk.row false 3 (List.map c_S_kinespherelaw04_Act v72), Blk.box (c_S_kinespherelaw04_Act v73), Blk.box (c_S_Disk v74)] ?_
    refine .cT (by kernel_rfl) ?_
    exact ih _ _ _ _ _ _ _ _ _
   refine .sp (fun hb107 => ?_) (fun _ => ?_)
   ·refine .st (v := (A.ep 2 3 0)) (by rw [of_decide_eq_true hb107]; kernel_rfl) ?_
    refine .s [Blk.box (c_S_Disk v59), Blk.row true 1 [[(uA v60)], [(uA v61)], [(uA v62)], [(uA v63)]], Blk.row true 1 [[(uA v64)], [(uA v65)], [(uA v66)], [(uA y82.Byte)]], Blk.row true 1 [[(uA v68)], [(uA v69)], [(uA v70)], [(uA v71)]], Blk.row false 3 (List.map c_S_kinespherelaw04_Act v72), Blk.box (c_S_kinespherelaw04_Act v73), Blk.box (c_S_Disk v74)] ?_
    refine .st (v := (bA (decide (v58 < v54)))) (aBin_lss ..) ?_
    refine .biHN (fun hk108 => ?_) (fun hk108 => ?_)
    ·refine .bd (g := fun (y : S_kinespherelaw04_Act) => A.ip (c_S_kinespherelaw04_Act y)) (row_idx (e := 46) (es := 3) (l := v72) (by kernel_rfl) (by kernel_rfl) rfl) fun y109 => ?_
     refine .s (A.ip [(uA y109.At), (uA y109.Byte)]) (.s (uA y109.At) ?_)
     refine .st (v := (uA (Int.tmod y109.At 4))) (aBin_rem (hb := by decide) ..) ?_
     refine .bd (g := fun (y : S_kinespherelaw04_Act) => A.ip (c_S_kinespherelaw04_Act y)) (row_idx (e := 46) (es := 3) (l := v72) (by kernel_rfl) (by kernel_rfl) rfl) fun y110 => ?_
     refine .s (A.ip [(uA y110.Byte)]) (.s (uA y110.Byte) ?_)
     refine .sp (fun hb111 => ?_) (fun _ => ?_)
     ·refine .st (v := (A.ep 3 0 0)) (by rw [of_decide_eq_true hb111]; kernel_rfl) ?_
      refine .s [Blk.box (c_S_Disk v59), Blk.row true 1 [[(uA v60)], [(uA v61)], [(uA v62)], [(uA v63)]], Blk.row true 1 [[(uA v64)], [(uA v65)], [(uA v66)], [(uA y82.Byte)]], Blk.row true 1 [[(uA y110.Byte)], [(uA v69)], [(uA v70)], [(uA v71)]], Blk.row false 3 (List.map c_S_kinespherelaw04_Act v72), Blk.box (c_S_kinespherelaw04_Act v73), Blk.box (c_S_Disk v74)] ?_
      refine .st (v := (iA (wr .i64 (v58 + 1)))) (aBin_add ..) ?_
      refine .s [Blk.box (c_S_Disk v59), Blk.row true 1 [[(uA v60)], [(uA v61)], [(uA v62)], [(uA v63)]], Blk.row true 1 [[(uA v64)], [(uA v65)], [(uA v66)], [(uA y82.Byte)]], Blk.row true 1 [[(uA y110.Byte)], [(uA v69)], [(uA v70)], [(uA v71)]], Blk.row false 3 (List.map c_S_kinespherelaw04_Act v72), Blk.box (c_S_kinespherelaw04_Act v73), Blk.box (c_S_Disk v74)] ?_
      refine .cT (by kernel_rfl) ?_
      exact ih _ _ _ _ _ _ _ _ _
     refine .sp (fun hb112 => ?_) (fun _ => ?_)
     ·refine .st (v := (A.ep 3 1 0)) (by rw [of_decide_eq_true hb112]; kernel_rfl) ?_
      refine .s [Blk.box (c_S_Disk v59), Blk.row true 1 [[(uA v60)], [(uA v61)], [(uA v62)], [(uA v63)]], Blk.row true 1 [[(uA v64)], [(uA v65)], [(uA v66)], [(uA y82.Byte)]], Blk.row true 1 [[(uA v68)], [(uA y110.Byte)], [(uA v70)], [(uA v71)]], Blk.row false 3 (List.map c_S_kinespherelaw04_Act v72), Blk.box (c_S_kinespherelaw04_Act v73), Blk.box (c_S_Disk v74)] ?_
      refine .st (v := (iA (wr .i64 (v58 + 1)))) (aBin_add ..) ?_
      refine .s [Blk.box (c_S_Disk v59), Blk.row true 1 [[(uA v60)], [(uA v61)], [(uA v62)], [(uA v63)]], Blk.row true 1 [[(uA v64)], [(uA v65)], [(uA v66)], [(uA y82.Byte)]], Blk.row true 1 [[(uA v68)], [(uA y110.Byte)], [(uA v70)], [(uA v71)]], Blk.row false 3 (List.map c_S_kinespherelaw04_Act v72), Blk.box (c_S_kinespherelaw04_Act v73), Blk.box (c_S_Disk v74)] ?_
      refine .cT (by kernel_rfl) ?_
      exact ih _ _ _ _ _ _ _ _ _
     refine .sp (fun hb113 => ?_) (fun _ => ?_)
     ·refine .st (v := (A.ep 3 2 0)) (by rw [of_decide_eq_true hb113]; kernel_rfl) ?_
      refine .s [Blk.box (c_S_Disk v59), Blk.row true 1 [[(uA v60)], [(uA v61)], [(uA v62)], [(uA v63)]], Blk.row true 1 [[(uA v64)], [(uA v65)], [(uA v66)], [(uA y82.Byte)]], Blk.row true 1 [[(uA v68)], [(uA v69)], [(uA y110.Byte)], [(uA v71)]], Blk.row false 3 (List.map c_S_kinespherelaw04_Act v72), Blk.box (c_S_kinespherelaw04_Act v73), Blk.box (c_S_Disk v74)] ?_
      refine .st (v := (iA (wr .i64 (v58 + 1)))) (aBin_add ..) ?_
      refine .s [Blk.box (c_S_Disk v59), Blk.row true 1 [[(uA v60)], [(uA v61)], [(uA v62)], [(uA v63)]], Blk.row true 1 [[(uA v64)], [(uA v65)], [(uA v66)], [(uA y82.Byte)]], Blk.row true 1 [[(uA v68)], [(uA v69)], [(uA y110.Byte)], [(uA v71)]], Blk.row false 3 (List.map c_S_kinespherelaw04_Act v72), Blk.box (c_S_kinespherelaw04_Act v73), Blk.box (c_S_Disk v74)] ?_
      refine .cT (by kernel_rfl) ?_
      exact ih _ _ _ _ _ _ _ _ _
     refine .sp (fun hb114 => ?_) (fun _ => ?_)
     ·refine .st (v := (A.ep 3 3 0)) (by rw [of_decide_eq_true hb114]; kernel_rfl) ?_
      refine .s [Blk.box (c_S_Disk v59), Blk.row true 1 [[(uA v60)], [(uA v61)], [(uA v62)], [(uA v63)]], Blk.row true 1 [[(uA v64)], [(uA v65)], [(uA v66)], [(uA y82.Byte)]], Blk.row true 1 [[(uA v68)], [(uA v69)], [(uA v70)], [(uA y110.Byte)]], Blk.row false 3 (List.map c_S_kinespherelaw04_Act v72), Blk.box (c_S_kinespherelaw04_Act v73), Blk.box (c_S_Disk v74)] ?_
      refine .st (v := (iA (wr .i64 (v58 + 1)))) (aBin_add ..) ?_
      refine .s [Blk.box (c_S_Disk v59), Blk.row true 1 [[(uA v60)], [(uA v61)], [(uA v62)], [(uA v63)]], Blk.row true 1 [[(uA v64)], [(uA v65)], [(uA v66)], [(uA y82.Byte)]], Blk.row true 1 [[(uA v68)], [(uA v69)], [(uA v70)], [(uA y110.Byte)]], Blk.row false 3 (List.map c_S_kinespherelaw04_Act v72), Blk.box (c_S_kinespherelaw04_Act v73), Blk.box (c_S_Disk v74)] ?_
      refine .cT (by kernel_rfl) ?_
      exact ih _ _ _ _ _ _ _ _ _
     exact .nn
    refine .st (v := (iA (wr .i64 (v58 + 1)))) (aBin_add ..) ?_
    refine .s [Blk.box (c_S_Disk v59), Blk.row true 1 [[(uA v60)], [(uA v61)], [(uA v62)], [(uA v63)]], Blk.row true 1 [[(uA v64)], [(uA v65)], [(uA v66)], [(uA y82.Byte)]], Blk.row true 1 [[(uA v68)], [(uA v69)], [(uA v70)], [(uA v71)]], Blk.row false 3 (List.map c_S_kinespherelaw04_Act v72), Blk.box (c_S_kinespherelaw04_Act v73), Blk.box (c_S_Disk v74)] ?_
    refine .cT (by kernel_rfl) ?_
    exact ih _ _ _ _ _ _ _ _ _
   exact .nn
  exact .ex (x0 _ _ _ _ _ _ _ _ _)
def F6_6_0 (n : Nat) (v11 : (List S_kinespherelaw04_Act)) (v12 : Bool) : Nat -> Int -> Int -> S_Disk -> Int -> Int -> Int -> Int -> Int -> Int -> Int -> Int -> Int -> Int -> Int -> Int -> (List S_kinespherelaw04_Act) -> Option ((Bool × (List (List UInt8)) × (List S_Write) × Int × Bool × Int × Int × Int × Int × Int × Int × Int × Int × Int × Int × Int × Int × (List S_kinespherelaw04_Act) × Bool × Int × Int × (List (List UInt8)) × (List S_Write) × Int × Bool) ⊕ ((List (List UInt8)) × (List S_Write) × Int × Bool × Int × Int × Int × Int × Int × Int × Int × Int × Int × Int × Int × Int × (List S_kinespherelaw04_Act)))
 | 0, _, _, _, _, _, _, _, _, _, _, _, _, _, _, _, _ => none
 | m + 1, v13, v14, v15, v16, v17, v18, v19, v20, v21, v22, v23, v24, v25, v26, v27, v28 => bif (decide (v14 < ((v11.length : Int)))) then ((getI v11 v14).bind fun y30 => bif (!y30.Sync) then ((G27 y30.Byte).bind fun y32 => (G19 v15 (wr .i64 (Int.tmod y30.At 4)) y32).bind fun y33 => bif (y33.2 != 0) then (some ((Sum.inl ((false, v15.Sectors, v15.Pending, v15.Left, v15.Stopped, v16, v17, v18, v19, v20, v21, v22, v23, v24, v25, v26, v27, v28, y30.Sync, y30.At, y30.Byte, y33.1.Sectors, y33.1.Pending, y33.1.Left, y33.1.Stopped))))) else (bif decide ((Int.tmod y30.At 4) = 0) then ((appI 3 v28 ([y30])).bind fun y36 => (G28 y33.1 ((y30.Byte, v17, v18, v19)) ((y30.Byte, v17, v18, v19))).bind fun y37 => bif (!y37) then (some ((Sum.inl ((false, y33.1.Sectors, y33.1.Pending, y33.1.Left, y33.1.Stopped, y30.Byte, v17, v18, v19, v20, v21, v22, v23, v24, v25, v26, v27, y36, y30.Sync, y30.At, y30.Byte, y33.1.Sectors, y33.1.Pending, y33.1.Left, y33.1.Stopped))))) else (F6_6_0 n v11 v12 m v13 (wr .i64 (v14 + 1)) y33.1 y30.Byte v17 v18 v19 v20 v21 v22 v23 v24 v25 v26 v27 y36)) else bif decide ((Int.tmod y30.At 4) = 1) then ((appI 3 v28 ([y30])).bind fun y40 => (G28 y33.1 ((v16, y30.Byte, v18, v19)) ((v16, y30.Byte, v18, v19))).bind fun y41 => bif (!y41) then (some ((Sum.inl ((false, y33.1.Sectors, y33.1.Pending, y33.1.Left, y33.1.Stopped, v16, y30.Byte, v18, v19, v20, v21, v22, v23, v24, v25, v26, v27, y40, y30.Sync, y30.At, y30.Byte, y33.1.Sectors, y33.1.Pending, y33.1.Left, y33.1.Stopped))))) else (F6_6_0 n v11 v12 m v13 (wr .i64 (v14 + 1)) y33.1 v16 y30.Byte v18 v19 v20 v21 v22 v23 v24 v25 v26 v27 y40)) else bif decide ((Int.tmod y30.At 4) = 2) then ((appI 3 v28 ([y30])).bind fun y44 => (G28 y33.1 ((v16, v17, y30.Byte, v19)) ((v16, v17, y30.Byte, v19))).bind fun y45 => bif (!y45) then (some ((Sum.inl ((false, y33.1.Sectors, y33.1.Pending, y33.1.Left, y33.1.Stopped, v16, v17, y30.Byte, v19, v20, v21, v22, v23, v24, v25, v26, v27, y44, y30.Sync, y30.At, y30.Byte, y33.1.Sectors, y33.1.Pending, y33.1.Left, y33.1.Stopped))))) else (F6_6_0 n v11 v12 m v13 (wr .i64 (v14 + 1)) y33.1 v16 v17 y30.Byte v19 v20 v21 v22 v23 v24 v25 v26 v27 y44)) else bif decide ((Int.tmod y30.At 4) = 3) then ((appI 3 v28 ([y30])).bind fun y48 => (G28 y33.1 ((v16, v17, v18, y30.Byte)) ((v16, v17, v18, y30.Byte))).bind fun y49 => bif (!y49) then (some ((Sum.inl ((false, y33.1.Sectors, y33.1.Pending, y33.1.Left, y33.1.Stopped, v16, v17, v18, y30.Byte, v20, v21, v22, v23, v24, v25, v26, v27, y48, y30.Sync, y30.At, y30.Byte, y33.1.Sectors, y33.1.Pending, y33.1.Left, y33.1.Stopped))))) else (F6_6_0 n v11 v12 m v13 (wr .i64 (v14 + 1)) y33.1 v16 v17 v18 y30.Byte v20 v21 v22 v23 v24 v25 v26 v27 y48)) else none)) else ((G23 v15).bind fun y51 => (F6_6_1 n v11 v12 v13 v14 y51.2 (decide (v13 < ((v28.length : Int)))) v15 v16 v17 v18 v19 v28 y30 y51.1 (n+8) 0 v20 v21 v22 v23 v24 v25 v26 v27).bind fun o115 => match o115 with | (y116, y117, y118, y119, y120, y121, y122, y123) => bif (decide (v13 < ((v28.length : Int)))) then ((bif (y51.2 == 40) then (some y51.1.Stopped) else (some false)).bind fun y127 => bif y127 then ((G17 y51.1).bind fun y131 => ((G28 y131 ((y116, y117, y118, y119)) ((y120, y121, y122, y123))).bind fun y132 => some y132).bind fun y133 => some ((Sum.inl ((y133, v15.Sectors, v15.Pending, v15.Left, v15.Stopped, v16, v17, v18, v19, y116, y117, y118, y119, y120, y121, y122, y123, v28, y30.Sync, y30.At, y30.Byte, y51.1.Sectors, y51.1.Pending, y51.1.Left, y51.1.Stopped))))) else ((some false).bind fun y135 => some ((Sum.inl ((y135, v15.Sectors, v15.Pending, v15.Left, v15.Stopped, v16, v17, v18, v19, y116, y117, y118, y119, y120, y121, y122, y123, v28, y30.Sync, y30.At, y30.Byte, y51.1.Sectors, y51.1.Pending, y51.1.Left, y51.1.Stopped)))))) else (bif (y51.2 != 0) then (some ((Sum.inl ((false, v15.Sectors, v15.Pending, v15.Left, v15.Stopped, v16, v17, v18, v19, y116, y117, y118, y119, y120, y121, y122, y123, v28, y30.Sync, y30.At, y30.Byte, y51.1.Sectors, y51.1.Pending, y51.1.Left, y51.1.Stopped))))) else ((G28 y51.1 ((v16, v17, v18, v19)) ((v16, v17, v18, v19))).bind fun y138 => bif (!y138) then (some ((Sum.inl ((false, y51.1.Sectors, y51.1.Pending, y51.1.Left, y51.1.Stopped, v16, v17, v18, v19, y116, y117, y118, y119, y120, y121, y122, y123, v28, y30.Sync, y30.At, y30.Byte, y51.1.Sectors, y51.1.Pending, y51.1.Left, y51.1.Stopped))))) else (F6_6_0 n v11 v12 m (wr .i64 (v13 - ((v28.length : Int)))) (wr .i64 (v14 + 1)) y51.1 v16 v17 v18 v19 y116 y117 y118 y119 y120 y121 y122 y123 (([] : List S_kinespherelaw04_Act))))))) else (some ((Sum.inr ((v15.Sectors, v15.Pending, v15.Left, v15.Stopped, v16, v17, v18, v19, v20, v21, v22, v23, v24, v25, v26, v27, v28)))))
theorem T6_6_0 (C : Nat -> List A -> Option A) (n : Nat) (h10 : Orc10 C) (h12 : Orc12 C) (h17 : Orc17 C) (h19 : Orc19 C) (h23 : Orc23 C) (h25 : Orc25 C) (h27 : Orc27 C) (h28 : Orc28 C) (v11 : (List S_kinespherelaw04_Act)) (v12 : Bool) {ρ γ : Type} {φ : ρ -> γ -> Prop} {kL : R -> Option ρ} {K : ((Bool × (List (List UInt8)) × (List S_Write) × Int × Bool × Int × Int × Int × Int × Int × Int × Int × Int × Int × Int × Int × Int × (List S_kinespherelaw04_Act) × Bool × Int × Int × (List (List UInt8)) × (List S_Write) × Int × Bool) ⊕ ((List (List UInt8)) × (List S_Write) × Int × Bool × Int × Int × Int × Int × Int × Int × Int × Int × Int × Int × Int × Int × (List S_kinespherelaw04_Act))) -> Option γ} (kx kg : Nat -> St -> Option R) (kr : St -> Option R) (kp : A -> St -> Option R) (x0 : ∀ (o0 : Bool) (o1 : (List (List UInt8))) (o2 : (List S_Write)) (o3 : Int) (o4 : Bool) (o5 : Int) (o6 : Int) (o7 : Int) (o8 : Int) (o9 : Int) (o10 : Int) (o11 : Int) (o12 : Int) (o13 : Int) (o14 : Int) (o15 : Int) (o16 : Int) (o17 : (List S_kinespherelaw04_Act)) (o18 : Bool) (o19 : Int) (o20 : Int) (o21 : (List (List UInt8))) (o22 : (List S_Write)) (o23 : Int) (o24 : Bool) (s0 : A) (s5 : A) (s8 : A) (s9 : A) (s10 : A) (s11 : A) (s12 : A) (s13 : A), J φ (kr (St.mk [(0, s0), (4, (bA o0)), (5, s5), (8, s8), (9, s9), (10, s10), (11, s11), (12, s12), (13, s13)] [Blk.box [(A.imm (List.map (cL c8) o1) false), (A.imm (List.map c_S_Write o2) false), (iA o3), (bA o4)], Blk.row true 1 [[(uA o5)], [(uA o6)], [(uA o7)], [(uA o8)]], Blk.row true 1 [[(uA o9)], [(uA o10)], [(uA o11)], [(uA o12)]], Blk.row true 1 [[(uA o13)], [(uA o14)], [(uA o15)], [(uA o16)]], Blk.row false 3 (List.map c_S_kinespherelaw04_Act o17), Blk.box [(bA o18), (uA o19), (uA o20)], Blk.box [(A.imm (List.map (cL c8) o21) false), (A.imm (List.map c_S_Write o22) false), (iA o23), (bA o24)]])) kL (K (Sum.inl ((o0, o1, o2, o3, o4, o5, o6, o7, o8, o9, o10, o11, o12, o13, o14, o15, o16, o17, o18, o19, o20, o21, o22, o23, o24)))) some) (x1 : ∀ (o0 : (List (List UInt8))) (o1 : (List S_Write)) (o2 : Int) (o3 : Bool) (o4 : Int) (o5 : Int) (o6 : Int) (o7 : Int) (o8 : Int) (o9 : Int) (o10 : Int) (o11 : Int) (o12 : Int) (o13 : Int) (o14 : Int) (o15 : Int) (o16 : (List S_kinespherelaw04_Act)) (s0 : A) (s4 : A) (s8 : A) (s11 : A) (s12 : A) (s13 : A), J φ (kx 0 (St.mk [(0, s0), (4, s4), (5, (A.ptr 0 0)), (8, s8), (9, (A.ep 2 0 0)), (10, (A.ep 3 0 0)), (11, s11), (12, s12), (13, s13)] [Blk.box [(A.imm (List.map (cL c8) o0) false), (A.imm (List.map c_S_Write o1) false), (iA o2), (bA o3)], Blk.row true 1 [[(uA o4)], [(uA o5)], [(uA o6)], [(uA o7)]], Blk.row true 1 [[(uA o8)], [(uA o9)], [(uA o10)], [(uA o11)]], Blk.row true 1 [[(uA o12)], [(uA o13)], [(uA o14)], [(uA o15)]], Blk.row false 3 (List.map c_S_kinespherelaw04_Act o16)])) kL (K (Sum.inr ((o0, o1, o2, o3, o4, o5, o6, o7, o8, o9, o10, o11, o12, o13, o14, o15, o16)))) some) :
  ∀ (m : Nat) (v13 : Int) (v14 : Int) (v15 : S_Disk) (v16 : Int) (v17 : Int) (v18 : Int) (v19 : Int) (v20 : Int) (v21 : Int) (v22 : Int) (v23 : Int) (v24 : Int) (v25 : Int) (v26 : Int) (v27 : Int) (v28 : (List S_kinespherelaw04_Act)), J φ (loopR (cx C) (ec C n 8) (ey C n 8) (n+8) 6 0 0 5 kx kg kr kp m (St.mk [(0, (A.imm (List.map c_S_kinespherelaw04_Act v11) false)), (4, (bA v12)), (5, (A.ptr 0 0)), (8, (A.ep 1 0 0)), (9, (A.ep 2 0 0)), (10, (A.ep 3 0 0)), (11, (A.sl 4 0 v28.length false)), (12, (iA v13)), (13, (iA v14))] [Blk.box (c_S_Disk v15), Blk.row true 1 [[(uA v16)], [(uA v17)], [(uA v18)], [(uA v19)]], Blk.row true 1 [[(uA v20)], [(uA v21)], [(uA v22)], [(uA v23)]], Blk.row true 1 [[(uA v24)], [(uA v25)], [(uA v26)], [(uA v27)]], Blk.row false 3 (List.map c_S_kinespherelaw04_Act v28)])) kL (F6_6_0 n v11 v12 m v13 v14 v15 v16 v17 v18 v19 v20 v21 v22 v23 v24 v25 v26 v27 v28) K := by
 intro m
 induction m with
 | zero => intros; exact .nn
 | succ m ih =>
  intro v13 v14 v15 v16 v17 v18 v19 v20 v21 v22 v23 v24 v25 v26 v27 v28
  refine .lp (e6_0 ..) ?_
  unfold F6_6_0
  refine .st (v := (iA ((v11.length : Int)))) (len_imm (e := 46) (h1 := by kernel_rfl) ..) ?_
  refine .st (v := (bA (decide (v14 < ((v11.length : Int)))))) (aBin_lss ..) ?_
  refine .biHN (fun hk29 => ?_) (fun hk29 => ?_)
  ·refine .bd (g := fun (y : S_kinespherelaw04_Act) => A.ip (c_S_kinespherelaw04_Act y)) (idx_imm (e := 46) (es := 3) (h1 := by kernel_rfl) (h2 := by kernel_rfl) (h3 := fun _ => rfl) ..) fun y30 => ?_
   refine .s (A.agg (c_S_kinespherelaw04_Act y30)) (.s ((A.ptr 5 0), [Blk.box (c_S_Disk v15), Blk.row true 1 [[(uA v16)], [(uA v17)], [(uA v18)], [(uA v19)]], Blk.row true 1 [[(uA v20)], [(uA v21)], [(uA v22)], [(uA v23)]], Blk.row true 1 [[(uA v24)], [(uA v25)], [(uA v26)], [(uA v27)]], Blk.row false 3 (List.map c_S_kinespherelaw04_Act v28), Blk.box [(bA false), (uA 0), (uA 0)]]) (.s [Blk.box (c_S_Disk v15), Blk.row true 1 [[(uA v16)], [(uA v17)], [(uA v18)], [(uA v19)]], Blk.row true 1 [[(uA v20)], [(uA v21)], [(uA v22)], [(uA v23)]], Blk.row true 1 [[(uA v24)], [(uA v25)], [(uA v26)], [(uA v27)]], Blk.row false 3 (List.map c_S_kinespherelaw04_Act v28), Blk.box (c_S_kinespherelaw04_Act y30)] (.s (A.ptr 5 0) (.s (bA y30.Sync) (.s (bA (!y30.Sync)) ?_)))))
   refine .biHN (fun hk31 => ?_) (fun hk31 => ?_)
   ·refine .s (A.agg (c_S_Disk v15)) (.s (A.ptr 5 1) (.s (uA y30.At) ?_))
    refine .st (v := (uA (Int.tmod y30.At 4))) (aBin_rem (hb := by decide) ..) ?_
    refine .st (v := (iA (wr .i64 (Int.tmod y30.At 4)))) (aConvert_int (hs := by kernel_rfl) (hd := by kernel_rfl) ..) ?_
    refine .s (A.ptr 5 2) (.s (uA y30.Byte) ?_)
    refine .bd (g := fun (y : (List UInt8)) => (A.imm (List.map c8 y) false)) (h27 y30.Byte) fun y32 => ?_
    refine .bd (g := fun (y : (S_Disk × Int)) => (A.tup [(A.agg [(A.imm (List.map (cL c8) y.1.Sectors) false), (A.imm (List.map c_S_Write y.1.Pending) false), (iA y.1.Left), (bA y.1.Stopped)]), (iA y.2)])) (by show C 19 [snap _ (A.agg (c_S_Disk v15)), snap _ (iA (wr .i64 (Int.tmod y30.At 4))), snap _ (A.imm (List.map c8 y32) false)] = _; simp only [sn0, snM, snapG_row (H := [Blk.box (c_S_Disk v15), Blk.row true 1 [[(uA v16)], [(uA v17)], [(uA v18)], [(uA v19)]], Blk.row true 1 [[(uA v20)], [(uA v21)], [(uA v22)], [(uA v23)]], Blk.row true 1 [[(uA v24)], [(uA v25)], [(uA v26)], [(uA v27)]], Blk.row false 3 (List.map c_S_kinespherelaw04_Act v28), Blk.box (c_S_kinespherelaw04_Act y30)]) (b := 4) (es := 3) (l := v28) fl_S_kinespherelaw04_Act rfl]; exact h19 v15 (wr .i64 (Int.tmod y30.At 4)) y32) fun y33 => ?_
    refine .s (A.agg (c_S_Disk y33.1)) (.s (iA y33.2) ?_)
    refine .cT (by kernel_rfl) ?_
    refine .s ((A.ptr 6 0), [Blk.box (c_S_Disk v15), Blk.row true 1 [[(uA v16)], [(uA v17)], [(uA v18)], [(uA v19)]], Blk.row true 1 [[(uA v20)], [(uA v21)], [(uA v22)], [(uA v23)]], Blk.row true 1 [[(uA v24)], [(uA v25)], [(uA v26)], [(uA v27)]], Blk.row false 3 (List.map c_S_kinespherelaw04_Act v28), Blk.box (c_S_kinespherelaw04_Act y30), bz4]) (.s [Blk.box (c_S_Disk v15), Blk.row true 1 [[(uA v16)], [(uA v17)], [(uA v18)], [(uA v19)]], Blk.row true 1 [[(uA v20)], [(uA v21)], [(uA v22)], [(uA v23)]], Blk.row true 1 [[(uA v24)], [(uA v25)], [(uA v26)], [(uA v27)]], Blk.row false 3 (List.map c_S_kinespherelaw04_Act v28), Blk.box (c_S_kinespherelaw04_Act y30), Blk.box (c_S_Disk y33.1)] ?_)
    refine .st (v := (bA (y33.2 != 0))) (aBin_neq ..) ?_
    refine .biHN (fun hk34 => ?_) (fun hk34 => ?_)
    ·exact .ex (x0 _ _ _ _ _ _ _ _ _ _ _ _ _ _ _ _ _ _ _ _ _ _ _ _ _ _ _ _ _ _ _ _ _)
    refine .s (A.agg (c_S_Disk y33.1)) (.s [Blk.box (c_S_Disk y33.1), Blk.row true 1 [[(uA v16)], [(uA v17)], [(uA v18)], [(uA v19)]], Blk.row true 1 [[(uA v20)], [(uA v21)], [(uA v22)], [(uA v23)]], Blk.row true 1 [[(uA v24)], [(uA v25)], [(uA v26)], [(uA v27)]], Blk.row false 3 (List.map c_S_kinespherelaw04_Act v28), Blk.box (c_S_kinespherelaw04_Act y30), Blk.box (c_S_Disk y33.1)] (.s (A.ptr 5 1) (.s (uA y30.At) ?_)))
    refine .st (v := (uA (Int.tmod y30.At 4))) (aBin_rem (hb := by decide) ..) ?_
    refine .s (A.ptr 5 2) (.s (uA y30.Byte) ?_)
    refine .sp (fun hb35 => ?_) (fun _ => ?_)
    ·refine .st (v := (A.ep 1 0 0)) (by rw [of_decide_eq_true hb35]; kernel_rfl) ?_
     refine .s [Blk.box (c_S_Disk y33.1), Blk.row true 1 [[(uA y30.Byte)], [(uA v17)], [(uA v18)], [(uA v19)]], Blk.row true 1 [[(uA v20)], [(uA v21)], [(uA v22)], [(uA v23)]], Blk.row true 1 [[(uA v24)], [(uA v25)], [(uA v26)], [(uA v27)]], Blk.row false 3 (List.map c_S_kinespherelaw04_Act v28), Blk.box (c_S_kinespherelaw04_Act y30), Blk.box (c_S_Disk y33.1)] (.s (A.agg (c_S_kinespherelaw04_Act y30)) (.s (A.imm [[(bA y30.Sync), (uA y30.At), (uA y30.Byte)]] true) ?_))
     refine .bd (g := fun (y : List S_kinespherelaw04_Act) => ((A.sl 4 0 y.length false), [Blk.box (c_S_Disk y33.1), Blk.row true 1 [[(uA y30.Byte)], [(uA v17)], [(uA v18)], [(uA v19)]], Blk.row true 1 [[(uA v20)], [(uA v21)], [(uA v22)], [(uA v23)]], Blk.row true 1 [[(uA v24)], [(uA v25)], [(uA v26)], [(uA v27)]], Blk.row false 3 (List.map c_S_kinespherelaw04_Act y), Blk.box (c_S_kinespherelaw04_Act y30), Blk.box (c_S_Disk y33.1)])) (app_row (e := 46) (es := 3) (by_ := 3) (z := [(bA false), (uA 0), (uA 0)]) (by kernel_rfl) (by kernel_rfl) (by kernel_rfl) (by kernel_rfl) rfl (by decide) (by decide) (by kernel_rfl) (f := c_S_kinespherelaw04_Act) (fun _ => rfl) ce_S_kinespherelaw04_Act (l := v28) (l2 := [y30]) (b := 4) rfl (by decide) (els_imm (f := c_S_kinespherelaw04_Act) ([y30] : List S_kinespherelaw04_Act) _ _)) fun y36 => ?_
     refine .s (A.agg (c_S_Disk y33.1)) (.s (A.agg [(uA y30.Byte), (uA v17), (uA v18), (uA v19)]) (.s (A.agg [(uA y30.Byte), (uA v17), (uA v18), (uA v19)]) ?_))
     refine .bd (g := fun (y : Bool) => (bA y)) (by show C 28 [snap _ (A.agg (c_S_Disk y33.1)), snap _ (A.agg [(uA y30.Byte), (uA v17), (uA v18), (uA v19)]), snap _ (A.agg [(uA y30.Byte), (uA v17), (uA v18), (uA v19)])] = _; simp only [sn0, snM, snapG_row (H := [Blk.box (c_S_Disk y33.1), Blk.row true 1 [[(uA y30.Byte)], [(uA v17)], [(uA v18)], [(uA v19)]], Blk.row true 1 [[(uA v20)], [(uA v21)], [(uA v22)], [(uA v23)]], Blk.row true 1 [[(uA v24)], [(uA v25)], [(uA v26)], [(uA v27)]], Blk.row false 3 (List.map c_S_kinespherelaw04_Act y36), Blk.box (c_S_kinespherelaw04_Act y30), Blk.box (c_S_Disk y33.1)]) (b := 4) (es := 3) (l := y36) fl_S_kinespherelaw04_Act rfl]; exact h28 y33.1 ((y30.Byte, v17, v18, v19)) ((y30.Byte, v17, v18, v19))) fun y37 => ?_
     refine .s (bA (!y37)) ?_
     refine .biHN (fun hk38 => ?_) (fun hk38 => ?_)
     ·exact .ex (x0 _ _ _ _ _ _ _ _ _ _ _ _ _ _ _ _ _ _ _ _ _ _ _ _ _ _ _ _ _ _ _ _ _)
     refine .st (v := (iA (wr .i64 (v14 + 1)))) (aBin_add ..) ?_
     refine .cF (by kernel_rfl) ?_
     refine .st (v := [Blk.box (c_S_Disk y33.1), Blk.row true 1 [[(uA y30.Byte)], [(uA v17)], [(uA v18)], [(uA v19)]], Blk.row true 1 [[(uA v20)], [(uA v21)], [(uA v22)], [(uA v23)]], Blk.row true 1 [[(uA v24)], [(uA v25)], [(uA v26)], [(uA v27)]], Blk.row false 3 (List.map c_S_kinespherelaw04_Act y36)]) ((by kernel_rfl : _ = (bif ((((underss 5 (List.map (cL c8) y33.1.Sectors)) && ((underss 5 (List.map c_S_Write y33.1.Pending)) && true))) && ((underss 5 (List.map c_S_kinespherelaw04_Act y36)) && true)) then some [Blk.box (c_S_Disk y33.1), Blk.row true 1 [[(uA y30.Byte)], [(uA v17)], [(uA v18)], [(uA v19)]], Blk.row true 1 [[(uA v20)], [(uA v21)], [(uA v22)], [(uA v23)]], Blk.row true 1 [[(uA v24)], [(uA v25)], [(uA v26)], [(uA v27)]], Blk.row false 3 (List.map c_S_kinespherelaw04_Act y36)] else none)).trans (by simp only [un0, unS])) ?_
     refine .cT ((by kernel_rfl : _ = (bif underss 5 (List.map c_S_kinespherelaw04_Act v11) then true else false)).trans (by simp only [un0, unS])) ?_
     exact ih _ _ _ _ _ _ _ _ _ _ _ _ _ _ _ _
    refine .sp (fun hb39 => ?_) (fun _ => ?_)
    ·refine .st (v := (A.ep 1 1 0)) (by rw [of_decide_eq_true hb39]; kernel_rfl) ?_
     refine .s [Blk.box (c_S_Disk y33.1), Blk.row true 1 [[(uA v16)], [(uA y30.Byte)], [(uA v18)], [(uA v19)]], Blk.row true 1 [[(uA v20)], [(uA v21)], [(uA v22)], [(uA v23)]], Blk.row true 1 [[(uA v24)], [(uA v25)], [(uA v26)], [(uA v27)]], Blk.row false 3 (List.map c_S_kinespherelaw04_Act v28), Blk.box (c_S_kinespherelaw04_Act y30), Blk.box (c_S_Disk y33.1)] (.s (A.agg (c_S_kinespherelaw04_Act y30)) (.s (A.imm [[(bA y30.Sync), (uA y30.At), (uA y30.Byte)]] true) ?_))
     refine .bd (g := fun (y : List S_kinespherelaw04_Act) => ((A.sl 4 0 y.length false), [Blk.box (c_S_Disk y33.1), Blk.row true 1 [[(uA v16)], [(uA y30.Byte)], [(uA v18)], [(uA v19)]], Blk.row true 1 [[(uA v20)], [(uA v21)], [(uA v22)], [(uA v23)]], Blk.row true 1 [[(uA v24)], [(uA v25)], [(uA v26)], [(uA v27)]], Blk.row false 3 (List.map c_S_kinespherelaw04_Act y), Blk.box (c_S_kinespherelaw04_Act y30), Blk.box (c_S_Disk y33.1)])) (app_row (e := 46) (es := 3) (by_ := 3) (z := [(bA false), (uA 0), (uA 0)]) (by kernel_rfl) (by kernel_rfl) (by kernel_rfl) (by kernel_rfl) rfl (by decide) (by decide) (by kernel_rfl) (f := c_S_kinespherelaw04_Act) (fun _ => rfl) ce_S_kinespherelaw04_Act (l := v28) (l2 := [y30]) (b := 4) rfl (by decide) (els_imm (f := c_S_kinespherelaw04_Act) ([y30] : List S_kinespherelaw04_Act) _ _)) fun y40 => ?_
     refine .s (A.agg (c_S_Disk y33.1)) (.s (A.agg [(uA v16), (uA y30.Byte), (uA v18), (uA v19)]) (.s (A.agg [(uA v16), (uA y30.Byte), (uA v18), (uA v19)]) ?_))
     refine .bd (g := fun (y : Bool) => (bA y)) (by show C 28 [snap _ (A.agg (c_S_Disk y33.1)), snap _ (A.agg [(uA v16), (uA y30.Byte), (uA v18), (uA v19)]), snap _ (A.agg [(uA v16), (uA y30.Byte), (uA v18), (uA v19)])] = _; simp only [sn0, snM, snapG_row (H := [Blk.box (c_S_Disk y33.1), Blk.row true 1 [[(uA v16)], [(uA y30.Byte)], [(uA v18)], [(uA v19)]], Blk.row true 1 [[(uA v20)], [(uA v21)], [(uA v22)], [(uA v23)]], Blk.row true 1 [[(uA v24)], [(uA v25)], [(uA v26)], [(uA v27)]], Blk.row false 3 (List.map c_S_kinespherelaw04_Act y40), Blk.box (c_S_kinespherelaw04_Act y30), Blk.box (c_S_Disk y33.1)]) (b := 4) (es := 3) (l := y40) fl_S_kinespherelaw04_Act rfl]; exact h28 y33.1 ((v16, y30.Byte, v18, v19)) ((v16, y30.Byte, v18, v19))) fun y41 => ?_
     refine .s (bA (!y41)) ?_
     refine .biHN (fun hk42 => ?_) (fun hk42 => ?_)
     ·exact .ex (x0 _ _ _ _ _ _ _ _ _ _ _ _ _ _ _ _ _ _ _ _ _ _ _ _ _ _ _ _ _ _ _ _ _)
     refine .st (v := (iA (wr .i64 (v14 + 1)))) (aBin_add ..) ?_
     refine .cF (by kernel_rfl) ?_
     refine .st (v := [Blk.box (c_S_Disk y33.1), Blk.row true 1 [[(uA v16)], [(uA y30.Byte)], [(uA v18)], [(uA v19)]], Blk.row true 1 [[(uA v20)], [(uA v21)], [(uA v22)], [(uA v23)]], Blk.row true 1 [[(uA v24)], [(uA v25)], [(uA v26)], [(uA v27)]], Blk.row false 3 (List.map c_S_kinespherelaw04_Act y40)]) ((by kernel_rfl : _ = (bif ((((underss 5 (List.map (cL c8) y33.1.Sectors)) && ((underss 5 (List.map c_S_Write y33.1.Pending)) && true))) && ((underss 5 (List.map c_S_kinespherelaw04_Act y40)) && true)) then some [Blk.box (c_S_Disk y33.1), Blk.row true 1 [[(uA v16)], [(uA y30.Byte)], [(uA v18)], [(uA v19)]], Blk.row true 1 [[(uA v20)], [(uA v21)], [(uA v22)], [(uA v23)]], Blk.row true 1 [[(uA v24)], [(uA v25)], [(uA v26)], [(uA v27)]], Blk.row false 3 (List.map c_S_kinespherelaw04_Act y40)] else none)).trans (by simp only [un0, unS])) ?_
     refine .cT ((by kernel_rfl : _ = (bif underss 5 (List.map c_S_kinespherelaw04_Act v11) then true else false)).trans (by simp only [un0, unS])) ?_
     exact ih _ _ _ _ _ _ _ _ _ _ _ _ _ _ _ _
    refine .sp (fun hb43 => ?_) (fun _ => ?_)
    ·refine .st (v := (A.ep 1 2 0)) (by rw [of_decide_eq_true hb43]; kernel_rfl) ?_
     refine .s [Blk.box (c_S_Disk y33.1), Blk.row true 1 [[(uA v16)], [(uA v17)], [(uA y30.Byte)], [(uA v19)]], Blk.row true 1 [[(uA v20)], [(uA v21)], [(uA v22)], [(uA v23)]], Blk.row true 1 [[(uA v24)], [(uA v25)], [(uA v26)], [(uA v27)]], Blk.row false 3 (List.map c_S_kinespherelaw04_Act v28), Blk.box (c_S_kinespherelaw04_Act y30), Blk.box (c_S_Disk y33.1)] (.s (A.agg (c_S_kinespherelaw04_Act y30)) (.s (A.imm [[(bA y30.Sync), (uA y30.At), (uA y30.Byte)]] true) ?_))
     refine .bd (g := fun (y : List S_kinespherelaw04_Act) => ((A.sl 4 0 y.length false), [Blk.box (c_S_Disk y33.1), Blk.row true 1 [[(uA v16)], [(uA v17)], [(uA y30.Byte)], [(uA v19)]], Blk.row true 1 [[(uA v20)], [(uA v21)], [(uA v22)], [(uA v23)]], Blk.row true 1 [[(uA v24)], [(uA v25)], [(uA v26)], [(uA v27)]], Blk.row false 3 (List.map c_S_kinespherelaw04_Act y), Blk.box (c_S_kinespherelaw04_Act y30), Blk.box (c_S_Disk y33.1)])) (app_row (e := 46) (es := 3) (by_ := 3) (z := [(bA false), (uA 0), (uA 0)]) (by kernel_rfl) (by kernel_rfl) (by kernel_rfl) (by kernel_rfl) rfl (by decide) (by decide) (by kernel_rfl) (f := c_S_kinespherelaw04_Act) (fun _ => rfl) ce_S_kinespherelaw04_Act (l := v28) (l2 := [y30]) (b := 4) rfl (by decide) (els_imm (f := c_S_kinespherelaw04_Act) ([y30] : List S_kinespherelaw04_Act) _ _)) fun y44 => ?_
     refine .s (A.agg (c_S_Disk y33.1)) (.s (A.agg [(uA v16), (uA v17), (uA y30.Byte), (uA v19)]) (.s (A.agg [(uA v16), (uA v17), (uA y30.Byte), (uA v19)]) ?_))
     refine .bd (g := fun (y : Bool) => (bA y)) (by show C 28 [snap _ (A.agg (c_S_Disk y33.1)), snap _ (A.agg [(uA v16), (uA v17), (uA y30.Byte), (uA v19)]), snap _ (A.agg [(uA v16), (uA v17), (uA y30.Byte), (uA v19)])] = _; simp only [sn0, snM, snapG_row (H := [Blk.box (c_S_Disk y33.1), Blk.row true 1 [[(uA v16)], [(uA v17)], [(uA y30.Byte)], [(uA v19)]], Blk.row true 1 [[(uA v20)], [(uA v21)], [(uA v22)], [(uA v23)]], Blk.row true 1 [[(uA v24)], [(uA v25)], [(uA v26)], [(uA v27)]], Blk.row false 3 (List.map c_S_kinespherelaw04_Act y44), Blk.box (c_S_kinespherelaw04_Act y30), Blk.box (c_S_Disk y33.1)]) (b := 4) (es := 3) (l := y44) fl_S_kinespherelaw04_Act rfl]; exact h28 y33.1 ((v16, v17, y30.Byte, v19)) ((v16, v17, y30.Byte, v19))) fun y45 => ?_
     refine .s (bA (!y45)) ?_
     refine .biHN (fun hk46 => ?_) (fun hk46 => ?_)
     ·exact .ex (x0 _ _ _ _ _ _ _ _ _ _ _ _ _ _ _ _ _ _ _ _ _ _ _ _ _ _ _ _ _ _ _ _ _)
     refine .st (v := (iA (wr .i64 (v14 + 1)))) (aBin_add ..) ?_
     refine .cF (by kernel_rfl) ?_
     refine .st (v := [Blk.box (c_S_Disk y33.1), Blk.row true 1 [[(uA v16)], [(uA v17)], [(uA y30.Byte)], [(uA v19)]], Blk.row true 1 [[(uA v20)], [(uA v21)], [(uA v22)], [(uA v23)]], Blk.row true 1 [[(uA v24)], [(uA v25)], [(uA v26)], [(uA v27)]], Blk.row false 3 (List.map c_S_kinespherelaw04_Act y44)]) ((by kernel_rfl : _ = (bif ((((underss 5 (List.map (cL c8) y33.1.Sectors)) && ((underss 5 (List.map c_S_Write y33.1.Pending)) && true))) && ((underss 5 (List.map c_S_kinespherelaw04_Act y44)) && true)) then some [Blk.box (c_S_Disk y33.1), Blk.row true 1 [[(uA v16)], [(uA v17)], [(uA y30.Byte)], [(uA v19)]], Blk.row true 1 [[(uA v20)], [(uA v21)], [(uA v22)], [(uA v23)]], Blk.row true 1 [[(uA v24)], [(uA v25)], [(uA v26)], [(uA v27)]], Blk.row false 3 (List.map c_S_kinespherelaw04_Act y44)] else none)).trans (by simp only [un0, unS])) ?_
     refine .cT ((by kernel_rfl : _ = (bif underss 5 (List.map c_S_kinespherelaw04_Act v11) then true else false)).trans (by simp only [un0, unS])) ?_
     exact ih _ _ _ _ _ _ _ _ _ _ _ _ _ _ _ _
    refine .sp (fun hb47 => ?_) (fun _ => ?_)
    ·refine .st (v := (A.ep 1 3 0)) (by rw [of_decide_eq_true hb47]; kernel_rfl) ?_
     refine .s [Blk.box (c_S_Disk y33.1), Blk.row true 1 [[(uA v16)], [(uA v17)], [(uA v18)], [(uA y30.Byte)]], Blk.row true 1 [[(uA v20)], [(uA v21)], [(uA v22)], [(uA v23)]], Blk.row true 1 [[(uA v24)], [(uA v25)], [(uA v26)], [(uA v27)]], Blk.row false 3 (List.map c_S_kinespherelaw04_Act v28), Blk.box (c_S_kinespherelaw04_Act y30), Blk.box (c_S_Disk y33.1)] (.s (A.agg (c_S_kinespherelaw04_Act y30)) (.s (A.imm [[(bA y30.Sync), (uA y30.At), (uA y30.Byte)]] true) ?_))
     refine .bd (g := fun (y : List S_kinespherelaw04_Act) => ((A.sl 4 0 y.length false), [Blk.box (c_S_Disk y33.1), Blk.row true 1 [[(uA v16)], [(uA v17)], [(uA v18)], [(uA y30.Byte)]], Blk.row true 1 [[(uA v20)], [(uA v21)], [(uA v22)], [(uA v23)]], Blk.row true 1 [[(uA v24)], [(uA v25)], [(uA v26)], [(uA v27)]], Blk.row false 3 (List.map c_S_kinespherelaw04_Act y), Blk.box (c_S_kinespherelaw04_Act y30), Blk.box (c_S_Disk y33.1)])) (app_row (e := 46) (es := 3) (by_ := 3) (z := [(bA false), (uA 0), (uA 0)]) (by kernel_rfl) (by kernel_rfl) (by kernel_rfl) (by kernel_rfl) rfl (by decide) (by decide) (by kernel_rfl) (f := c_S_kinespherelaw04_Act) (fun _ => rfl) ce_S_kinespherelaw04_Act (l := v28) (l2 := [y30]) (b := 4) rfl (by decide) (els_imm (f := c_S_kinespherelaw04_Act) ([y30] : List S_kinespherelaw04_Act) _ _)) fun y48 => ?_
     refine .s (A.agg (c_S_Disk y33.1)) (.s (A.agg [(uA v16), (uA v17), (uA v18), (uA y30.Byte)]) (.s (A.agg [(uA v16), (uA v17), (uA v18), (uA y30.Byte)]) ?_))
     refine .bd (g := fun (y : Bool) => (bA y)) (by show C 28 [snap _ (A.agg (c_S_Disk y33.1)), snap _ (A.agg [(uA v16), (uA v17), (uA v18), (uA y30.Byte)]), snap _ (A.agg [(uA v16), (uA v17), (uA v18), (uA y30.Byte)])] = _; simp only [sn0, snM, snapG_row (H := [Blk.box (c_S_Disk y33.1), Blk.row true 1 [[(uA v16)], [(uA v17)], [(uA v18)], [(uA y30.Byte)]], Blk.row true 1 [[(uA v20)], [(uA v21)], [(uA v22)], [(uA v23)]], Blk.row true 1 [[(uA v24)], [(uA v25)], [(uA v26)], [(uA v27)]], Blk.row false 3 (List.map c_S_kinespherelaw04_Act y48), Blk.box (c_S_kinespherelaw04_Act y30), Blk.box (c_S_Disk y33.1)]) (b := 4) (es := 3) (l := y48) fl_S_kinespherelaw04_Act rfl]; exact h28 y33.1 ((v16, v17, v18, y30.Byte)) ((v16, v17, v18, y30.Byte))) fun y49 => ?_
     refine .s (bA (!y49)) ?_
     refine .biHN (fun hk50 => ?_) (fun hk50 => ?_)
     ·exact .ex (x0 _ _ _ _ _ _ _ _ _ _ _ _ _ _ _ _ _ _ _ _ _ _ _ _ _ _ _ _ _ _ _ _ _)
     refine .st (v := (iA (wr .i64 (v14 + 1)))) (aBin_add ..) ?_
     refine .cF (by kernel_rfl) ?_
     refine .st (v := [Blk.box (c_S_Disk y33.1), Blk.row true 1 [[(uA v16)], [(uA v17)], [(uA v18)], [(uA y30.Byte)]], Blk.row true 1 [[(uA v20)], [(uA v21)], [(uA v22)], [(uA v23)]], Blk.row true 1 [[(uA v24)], [(uA v25)], [(uA v26)], [(uA v27)]], Blk.row false 3 (List.map c_S_kinespherelaw04_Act y48)]) ((by kernel_rfl : _ = (bif ((((underss 5 (List.map (cL c8) y33.1.Sectors)) && ((underss 5 (List.map c_S_Write y33.1.Pending)) && true))) && ((underss 5 (List.map c_S_kinespherelaw04_Act y48)) && true)) then some [Blk.box (c_S_Disk y33.1), Blk.row true 1 [[(uA v16)], [(uA v17)], [(uA v18)], [(uA y30.Byte)]], Blk.row true 1 [[(uA v20)], [(uA v21)], [(uA v22)], [(uA v23)]], Blk.row true 1 [[(uA v24)], [(uA v25)], [(uA v26)], [(uA v27)]], Blk.row false 3 (List.map c_S_kinespherelaw04_Act y48)] else none)).trans (by simp only [un0, unS])) ?_
     refine .cT ((by kernel_rfl : _ = (bif underss 5 (List.map c_S_kinespherelaw04_Act v11) then true else false)).trans (by simp only [un0, unS])) ?_
     exact ih _ _ _ _ _ _ _ _ _ _ _ _ _ _ _ _
    exact .nn
   refine .s (A.agg (c_S_Disk v15)) ?_
   refine .bd (g := fun (y : (S_Disk × Int)) => (A.tup [(A.agg [(A.imm (List.map (cL c8) y.1.Sectors) false), (A.imm (List.map c_S_Write y.1.Pending) false), (iA y.1.Left), (bA y.1.Stopped)]), (iA y.2)])) (by show C 23 [snap _ (A.agg (c_S_Disk v15))] = _; simp only [sn0, snM, snapG_row (H := [Blk.box (c_S_Disk v15), Blk.row true 1 [[(uA v16)], [(uA v17)], [(uA v18)], [(uA v19)]], Blk.row true 1 [[(uA v20)], [(uA v21)], [(uA v22)], [(uA v23)]], Blk.row true 1 [[(uA v24)], [(uA v25)], [(uA v26)], [(uA v27)]], Blk.row false 3 (List.map c_S_kinespherelaw04_Act v28), Blk.box (c_S_kinespherelaw04_Act y30)]) (b := 4) (es := 3) (l := v28) fl_S_kinespherelaw04_Act rfl]; exact h23 v15) fun y51 => ?_
   refine .s (A.agg (c_S_Disk y51.1)) (.s (iA y51.2) (.s ((A.ptr 6 0), [Blk.box (c_S_Disk v15), Blk.row true 1 [[(uA v16)], [(uA v17)], [(uA v18)], [(uA v19)]], Blk.row true 1 [[(uA v20)], [(uA v21)], [(uA v22)], [(uA v23)]], Blk.row true 1 [[(uA v24)], [(uA v25)], [(uA v26)], [(uA v27)]], Blk.row false 3 (List.map c_S_kinespherelaw04_Act v28), Blk.box (c_S_kinespherelaw04_Act y30), bz4]) (.s [Blk.box (c_S_Disk v15), Blk.row true 1 [[(uA v16)], [(uA v17)], [(uA v18)], [(uA v19)]], Blk.row true 1 [[(uA v20)], [(uA v21)], [(uA v22)], [(uA v23)]], Blk.row true 1 [[(uA v24)], [(uA v25)], [(uA v26)], [(uA v27)]], Blk.row false 3 (List.map c_S_kinespherelaw04_Act v28), Blk.box (c_S_kinespherelaw04_Act y30), Blk.box (c_S_Disk y51.1)] ?_)))
   refine .st (v := (iA ((v28.length : Int)))) (row_len (e := 46) (by kernel_rfl) rfl rfl) ?_
   refine .st (v := (bA (decide (v13 < ((v28.length : Int)))))) (aBin_gtr ..) ?_
   refine .as (T6_6_1 C n h10 h12 h17 h19 h23 h25 h27 h28 v11 v12 v13 v14 y51.2 (decide (v13 < ((v28.length : Int)))) v15 v16 v17 v18 v19 v28 y30 y51.1 _ _ _ _ ?_ _ 0 v20 v21 v22 v23 v24 v25 v26 v27)
   ·intro y116 y117 y118 y119 y120 y121 y122 y123 j124
    refine .un rfl ?_
    refine .cT (by kernel_rfl) ?_
    refine .biHN (fun hk125 => ?_) (fun hk125 => ?_)
    ·refine .st (v := (bA (y51.2 == 40))) (aBin_eql ..) ?_
     refine .bg (fun t (y : Bool) => ∃ j128 j129 : A, t = [(bA y), j128, j129]) ?_ ?_
     ·refine .biH (fun hk126 => ?_) (fun hk126 => ?_)
      ·refine .s (A.ptr 6 3) (.s (bA y51.1.Stopped) ?_)
       exact .lg ⟨_, _, rfl⟩
      exact .lg ⟨_, _, rfl⟩
     rintro _ y127 ⟨j128, j129, rfl⟩
     iterate 3 refine .uc ?_
     refine .gst (fun hc130 => ?_) (fun hc130 => ?_)
     ·refine .bb ?_
      refine .s (A.agg (c_S_Disk y51.1)) ?_
      refine .bd (g := fun (y : S_Disk) => (A.agg [(A.imm (List.map (cL c8) y.Sectors) false), (A.imm (List.map c_S_Write y.Pending) false), (iA y.Left), (bA y.Stopped)])) (by show C 17 [snap _ (A.agg (c_S_Disk y51.1))] = _; simp only [sn0, snM, snapG_row (H := [Blk.box (c_S_Disk v15), Blk.row true 1 [[(uA v16)], [(uA v17)], [(uA v18)], [(uA v19)]], Blk.row true 1 [[(uA y116)], [(uA y117)], [(uA y118)], [(uA y119)]], Blk.row true 1 [[(uA y120)], [(uA y121)], [(uA y122)], [(uA y123)]], Blk.row false 3 (List.map c_S_kinespherelaw04_Act v28), Blk.box (c_S_kinespherelaw04_Act y30), Blk.box (c_S_Disk y51.1)]) (b := 4) (es := 3) (l := v28) fl_S_kinespherelaw04_Act rfl]; exact h17 y51.1) fun y131 => ?_
      refine .s (A.agg [(uA y116), (uA y117), (uA y118), (uA y119)]) (.s (A.agg [(uA y120), (uA y121), (uA y122), (uA y123)]) ?_)
      refine .cr ?_
      iterate 4 refine .uc ?_
      refine .bg (fun t (y : Bool) => ∃ j134 : A, t = [(bA y), j134]) ?_ ?_
      ·refine .bKT hc130 ?_
       refine .bd (g := fun (y : Bool) => (bA y)) (by show C 28 [snap _ (A.agg (c_S_Disk y131)), snap _ (A.agg [(uA y116), (uA y117), (uA y118), (uA y119)]), snap _ (A.agg [(uA y120), (uA y121), (uA y122), (uA y123)])] = _; simp only [sn0, snM, snapG_row (H := [Blk.box (c_S_Disk v15), Blk.row true 1 [[(uA v16)], [(uA v17)], [(uA v18)], [(uA v19)]], Blk.row true 1 [[(uA y116)], [(uA y117)], [(uA y118)], [(uA y119)]], Blk.row true 1 [[(uA y120)], [(uA y121)], [(uA y122)], [(uA y123)]], Blk.row false 3 (List.map c_S_kinespherelaw04_Act v28), Blk.box (c_S_kinespherelaw04_Act y30), Blk.box (c_S_Disk y51.1)]) (b := 4) (es := 3) (l := v28) fl_S_kinespherelaw04_Act rfl]; exact h28 y131 ((y116, y117, y118, y119)) ((y120, y121, y122, y123))) fun y132 => ?_
       exact .lg ⟨_, rfl⟩
      rintro _ y133 ⟨j134, rfl⟩
      iterate 2 refine .uc ?_
      exact .ex (x0 _ _ _ _ _ _ _ _ _ _ _ _ _ _ _ _ _ _ _ _ _ _ _ _ _ _ _ _ _ _ _ _ _)
     refine .bb ?_
     refine .cr ?_
     iterate 4 refine .uc ?_
     refine .bg (fun t (y : Bool) => ∃ j136 : A, t = [(bA y), j136]) ?_ ?_
     ·refine .bKF hc130 ?_
      exact .lg ⟨_, rfl⟩
     rintro _ y135 ⟨j136, rfl⟩
     iterate 2 refine .uc ?_
     exact .ex (x0 _ _ _ _ _ _ _ _ _ _ _ _ _ _ _ _ _ _ _ _ _ _ _ _ _ _ _ _ _ _ _ _ _)
    refine .st (v := (bA (y51.2 != 0))) (aBin_neq ..) ?_
    refine .biHN (fun hk137 => ?_) (fun hk137 => ?_)
    ·exact .ex (x0 _ _ _ _ _ _ _ _ _ _ _ _ _ _ _ _ _ _ _ _ _ _ _ _ _ _ _ _ _ _ _ _ _)
    refine .st (v := (iA ((v28.length : Int)))) (row_len (e := 46) (by kernel_rfl) rfl rfl) ?_
    refine .st (v := (iA (wr .i64 (v13 - ((v28.length : Int)))))) (aBin_sub ..) ?_
    refine .s (A.imm [] true) (.s (A.agg (c_S_Disk y51.1)) (.s [Blk.box (c_S_Disk y51.1), Blk.row true 1 [[(uA v16)], [(uA v17)], [(uA v18)], [(uA v19)]], Blk.row true 1 [[(uA y116)], [(uA y117)], [(uA y118)], [(uA y119)]], Blk.row true 1 [[(uA y120)], [(uA y121)], [(uA y122)], [(uA y123)]], Blk.row false 3 (List.map c_S_kinespherelaw04_Act v28), Blk.box (c_S_kinespherelaw04_Act y30), Blk.box (c_S_Disk y51.1)] (.s (A.agg (c_S_Disk y51.1)) (.s (A.agg [(uA v16), (uA v17), (uA v18), (uA v19)]) (.s (A.agg [(uA v16), (uA v17), (uA v18), (uA v19)]) ?_)))))
    refine .bd (g := fun (y : Bool) => (bA y)) (by show C 28 [snap _ (A.agg (c_S_Disk y51.1)), snap _ (A.agg [(uA v16), (uA v17), (uA v18), (uA v19)]), snap _ (A.agg [(uA v16), (uA v17), (uA v18), (uA v19)])] = _; simp only [sn0, snM, snapG_row (H := [Blk.box (c_S_Disk y51.1), Blk.row true 1 [[(uA v16)], [(uA v17)], [(uA v18)], [(uA v19)]], Blk.row true 1 [[(uA y116)], [(uA y117)], [(uA y118)], [(uA y119)]], Blk.row true 1 [[(uA y120)], [(uA y121)], [(uA y122)], [(uA y123)]], Blk.row false 3 (List.map c_S_kinespherelaw04_Act v28), Blk.box (c_S_kinespherelaw04_Act y30), Blk.box (c_S_Disk y51.1)]) (b := 4) (es := 3) (l := v28) fl_S_kinespherelaw04_Act rfl]; exact h28 y51.1 ((v16, v17, v18, v19)) ((v16, v17, v18, v19))) fun y138 => ?_
    refine .s (bA (!y138)) ?_
    refine .biHN (fun hk139 => ?_) (fun hk139 => ?_)
    ·exact .ex (x0 _ _ _ _ _ _ _ _ _ _ _ _ _ _ _ _ _ _ _ _ _ _ _ _ _ _ _ _ _ _ _ _ _)
    refine .st (v := (iA (wr .i64 (v14 + 1)))) (aBin_add ..) ?_
    refine .cT (by kernel_rfl) ?_
    refine .st (v := [Blk.box (c_S_Disk y51.1), Blk.row true 1 [[(uA v16)], [(uA v17)], [(uA v18)], [(uA v19)]], Blk.row true 1 [[(uA y116)], [(uA y117)], [(uA y118)], [(uA y119)]], Blk.row true 1 [[(uA y120)], [(uA y121)], [(uA y122)], [(uA y123)]]]) ((by kernel_rfl : _ = (bif ((((underss 4 (List.map (cL c8) y51.1.Sectors)) && ((underss 4 (List.map c_S_Write y51.1.Pending)) && true))) && true) then some [Blk.box (c_S_Disk y51.1), Blk.row true 1 [[(uA v16)], [(uA v17)], [(uA v18)], [(uA v19)]], Blk.row true 1 [[(uA y116)], [(uA y117)], [(uA y118)], [(uA y119)]], Blk.row true 1 [[(uA y120)], [(uA y121)], [(uA y122)], [(uA y123)]]] else none)).trans (by simp only [un0, unS])) ?_
    refine .cT ((by kernel_rfl : _ = (bif underss 4 (List.map c_S_kinespherelaw04_Act v11) then true else false)).trans (by simp only [un0, unS])) ?_
    refine .cT (by kernel_rfl) ?_
    exact ih _ _ _ _ _ _ _ _ _ _ _ _ _ _ _ _
  exact .ex (x1 _ _ _ _ _ _ _ _ _ _ _ _ _ _ _ _ _ _ _ _ _ _ _)
def F6 (n : Nat) (a0 : (List S_kinespherelaw04_Act)) (a1 : Int) : Option Bool :=
 (G10 ).bind fun y1 => bif (!y1) then (some false) else (bif (decide (40 < ((a0.length : Int)))) then (some true) else ((G12 4).bind fun y4 => (G25 y4.1 (wr .i64 (a1))).bind fun y5 => (bif (y4.2 != 0) then (some true) else (some (y5.2 != 0))).bind fun y7 => bif y7 then (some false) else ((F6_6_0 n a0 false (n+8) (wr .i64 (a1)) 0 y5.1 0 0 0 0 0 0 0 0 0 0 0 0 (([] : List S_kinespherelaw04_Act))).bind fun o140 => match o140 with | (Sum.inl ((y141, y142, y143, y144, y145, y146, y147, y148, y149, y150, y151, y152, y153, y154, y155, y156, y157, y158, y159, y160, y161, y162, y163, y164, y165))) => some y141 | (Sum.inr ((y174, y175, y176, y177, y178, y179, y180, y181, y182, y183, y184, y185, y186, y187, y188, y189, y190))) => (G17 ((S_Disk.mk y174 y175 y176 y177))).bind fun y197 => (G28 y197 ((y182, y183, y184, y185)) ((y186, y187, y188, y189))).bind fun y198 => some y198)))
theorem T6 (C : Nat -> List A -> Option A) (n : Nat) (h10 : Orc10 C) (h12 : Orc12 C) (h17 : Orc17 C) (h19 : Orc19 C) (h23 : Orc23 C) (h25 : Orc25 C) (h27 : Orc27 C) (h28 : Orc28 C) (a0 : (List S_kinespherelaw04_Act)) (a1 : Int) : J (fun (o : R) y => ∃ v, o.1 = .ret v /\ snapE o.2 v = (bA y)) (evCall1 (cx C) (ec C n 8) (ey C n 8) (n+8) 6 [(A.imm (List.map c_S_kinespherelaw04_Act a0) false), (uA a1)] [] 0) some (F6 n a0 a1) some := by
 refine .lp (e6 ..) ?_
 unfold F6
 refine .bd (g := fun (y : Bool) => (bA y)) (h10 ()) fun y1 => ?_
 refine .s (bA (!y1)) ?_
 refine .biHN (fun hk2 => ?_) (fun hk2 => ?_)
 ·exact .lf rfl rfl ⟨_, rfl, rfl⟩
 refine .st (v := (iA ((a0.length : Int)))) (len_imm (e := 46) (h1 := by kernel_rfl) ..) ?_
 refine .st (v := (bA (decide (40 < ((a0.length : Int)))))) (aBin_gtr ..) ?_
 refine .biHN (fun hk3 => ?_) (fun hk3 => ?_)
 ·exact .lf rfl rfl ⟨_, rfl, rfl⟩
 refine .bd (g := fun (y : (S_Disk × Int)) => (A.tup [(A.agg [(A.imm (List.map (cL c8) y.1.Sectors) false), (A.imm (List.map c_S_Write y.1.Pending) false), (iA y.1.Left), (bA y.1.Stopped)]), (iA y.2)])) (h12 4) fun y4 => ?_
 refine .s (A.agg (c_S_Disk y4.1)) (.s (iA y4.2) (.s ((A.ptr 0 0), [bz4]) (.s [Blk.box (c_S_Disk y4.1)] (.s (A.agg (c_S_Disk y4.1)) ?_))))
 refine .st (v := (iA (wr .i64 (a1)))) (aConvert_int (hs := by kernel_rfl) (hd := by kernel_rfl) ..) ?_
 refine .bd (g := fun (y : (S_Disk × Int)) => (A.tup [(A.agg [(A.imm (List.map (cL c8) y.1.Sectors) false), (A.imm (List.map c_S_Write y.1.Pending) false), (iA y.1.Left), (bA y.1.Stopped)]), (iA y.2)])) (by show C 25 [snap _ (A.agg (c_S_Disk y4.1)), snap _ (iA (wr .i64 (a1)))] = _; simp only [sn0, snM]; exact h25 y4.1 (wr .i64 (a1))) fun y5 => ?_
 refine .s (A.agg (c_S_Disk y5.1)) (.s (iA y5.2) (.s [Blk.box (c_S_Disk y5.1)] ?_))
 refine .st (v := (bA (y4.2 != 0))) (aBin_neq ..) ?_
 refine .bg (fun t (y : Bool) => ∃ j8 j9 : A, t = [(bA y), j8, j9]) ?_ ?_
 ·refine .biH (fun hk6 => ?_) (fun hk6 => ?_)
  ·exact .lg ⟨_, _, rfl⟩
  refine .st (v := (bA (y5.2 != 0))) (aBin_neq ..) ?_
  exact .lg ⟨_, _, rfl⟩
 rintro _ y7 ⟨j8, j9, rfl⟩
 iterate 3 refine .uc ?_
 refine .biHN (fun hk10 => ?_) (fun hk10 => ?_)
 ·exact .lf rfl rfl ⟨_, rfl, rfl⟩
 refine .s ((A.ep 1 0 0), [Blk.box (c_S_Disk y5.1), Blk.row true 1 [[(uA 0)], [(uA 0)], [(uA 0)], [(uA 0)]]]) (.s ((A.ep 2 0 0), [Blk.box (c_S_Disk y5.1), Blk.row true 1 [[(uA 0)], [(uA 0)], [(uA 0)], [(uA 0)]], Blk.row true 1 [[(uA 0)], [(uA 0)], [(uA 0)], [(uA 0)]]]) (.s ((A.ep 3 0 0), [Blk.box (c_S_Disk y5.1), Blk.row true 1 [[(uA 0)], [(uA 0)], [(uA 0)], [(uA 0)]], Blk.row true 1 [[(uA 0)], [(uA 0)], [(uA 0)], [(uA 0)]], Blk.row true 1 [[(uA 0)], [(uA 0)], [(uA 0)], [(uA 0)]]]) (.s (A.imm [] true) ?_)))
 refine .st (v := (iA (wr .i64 (a1)))) (aConvert_int (hs := by kernel_rfl) (hd := by kernel_rfl) ..) ?_
 refine .as (T6_6_0 C n h10 h12 h17 h19 h23 h25 h27 h28 a0 false _ _ _ _ ?_ ?_ _ (wr .i64 (a1)) 0 y5.1 0 0 0 0 0 0 0 0 0 0 0 0 (([] : List S_kinespherelaw04_Act)))
 ·intro y141 y142 y143 y144 y145 y146 y147 y148 y149 y150 y151 y152 y153 y154 y155 y156 y157 y158 y159 y160 y161 y162 y163 y164 y165 j166 j167 j168 j169 j170 j171 j172 j173
  refine .un rfl ?_
  exact .lf rfl rfl ⟨_, rfl, rfl⟩
 ·intro y174 y175 y176 y177 y178 y179 y180 y181 y182 y183 y184 y185 y186 y187 y188 y189 y190 j191 j192 j193 j194 j195 j196
  refine .un rfl ?_
  refine .cT (by kernel_rfl) ?_
  refine .s (A.agg [(A.imm (List.map (cL c8) y174) false), (A.imm (List.map c_S_Write y175) false), (iA y176), (bA y177)]) ?_
  refine .bd (g := fun (y : S_Disk) => (A.agg [(A.imm (List.map (cL c8) y.Sectors) false), (A.imm (List.map c_S_Write y.Pending) false), (iA y.Left), (bA y.Stopped)])) (by show C 17 [snap _ (A.agg [(A.imm (List.map (cL c8) y174) false), (A.imm (List.map c_S_Write y175) false), (iA y176), (bA y177)])] = _; simp only [sn0, snM, snapG_row (H := [Blk.box [(A.imm (List.map (cL c8) y174) false), (A.imm (List.map c_S_Write y175) false), (iA y176), (bA y177)], Blk.row true 1 [[(uA y178)], [(uA y179)], [(uA y180)], [(uA y181)]], Blk.row true 1 [[(uA y182)], [(uA y183)], [(uA y184)], [(uA y185)]], Blk.row true 1 [[(uA y186)], [(uA y187)], [(uA y188)], [(uA y189)]], Blk.row false 3 (List.map c_S_kinespherelaw04_Act y190)]) (b := 4) (es := 3) (l := y190) fl_S_kinespherelaw04_Act rfl]; exact h17 ((S_Disk.mk y174 y175 y176 y177))) fun y197 => ?_
  refine .s (A.agg [(uA y182), (uA y183), (uA y184), (uA y185)]) (.s (A.agg [(uA y186), (uA y187), (uA y188), (uA y189)]) ?_)
  refine .bd (g := fun (y : Bool) => (bA y)) (by show C 28 [snap _ (A.agg (c_S_Disk y197)), snap _ (A.agg [(uA y182), (uA y183), (uA y184), (uA y185)]), snap _ (A.agg [(uA y186), (uA y187), (uA y188), (uA y189)])] = _; simp only [sn0, snM, snapG_row (H := [Blk.box [(A.imm (List.map (cL c8) y174) false), (A.imm (List.map c_S_Write y175) false), (iA y176), (bA y177)], Blk.row true 1 [[(uA y178)], [(uA y179)], [(uA y180)], [(uA y181)]], Blk.row true 1 [[(uA y182)], [(uA y183)], [(uA y184)], [(uA y185)]], Blk.row true 1 [[(uA y186)], [(uA y187)], [(uA y188)], [(uA y189)]], Blk.row false 3 (List.map c_S_kinespherelaw04_Act y190)]) (b := 4) (es := 3) (l := y190) fl_S_kinespherelaw04_Act rfl]; exact h28 y197 ((y182, y183, y184, y185)) ((y186, y187, y188, y189))) fun y198 => ?_
  exact .lf rfl rfl ⟨_, rfl, rfl⟩
def G6 (a0 : (List S_kinespherelaw04_Act)) (a1 : Int) : Option Bool := F6 fuel0 a0 a1
end Go.Proofs.Ythoomfjliekbdaa
