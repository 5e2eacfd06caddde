/-
 The program's functions as plain functions: by a tool; each follows the interpreter.
-/
import Derived.Test.YtobjniabioaefaaT1
import Derived.KernelRfl
namespace Go.Proofs.Ytobjniabioaefaa
open Go.Proofs.Try (prog)
set_option linter.unusedVariables false
set_option linter.unusedSimpArgs false
set_option maxHeartbeats 4000000
set_option maxRecDepth 100000
def hk21_2 (a0 : S_Journal) : Blk := Blk.box [(A.imm (List.map (cL c8) a0.Records) false), (iA a0.Many), (iA ((a0.Records.length : Int)))]
def F21_21_0 (n : Nat) (v13 : Int) (v15 : (List (List UInt8))) (v16 : Int) (v18 : S_Journal) (v19 : S_Disk) (v20 : (List (List UInt8))) (v21 : Int) (v22 : Int) (v23 : (List (List UInt8))) (v24 : (List S_Write)) (v25 : Int) (v26 : Bool) (v27 : S_Journal) : Nat -> Int -> Int -> Option (Int)
 | 0, _, _ => none
 | m + 1, v14, v17 => bif (decide (v17 < v16)) then ((getI v15 v17).bind fun y29 => (subI y29 0 4).bind fun y30 => (G41 y30).bind fun y31 => (subI y29 124 ((y29.length : Int))).bind fun y32 => (G41 y32).bind fun y33 => F21_21_0 n v13 v15 v16 v18 v19 v20 v21 v22 v23 v24 v25 v26 v27 m ((if (if v14 < wr .u64 (y31 + 1) then wr .u64 (y31 + 1) else v14) < wr .u64 (y33 + 1) then wr .u64 (y33 + 1) else (if v14 < wr .u64 (y31 + 1) then wr .u64 (y31 + 1) else v14))) (wr .i64 (v17 + 1))) else (some v14)
theorem T21_21_0 (C : Nat -> List A -> Option A) (n : Nat) (h12 : Orc12 C) (h17 : Orc17 C) (h26 : Orc26 C) (h27 : Orc27 C) (h31 : Orc31 C) (h35 : Orc35 C) (h36 : Orc36 C) (h41 : Orc41 C) (h42_43 : Orc42_43 C) (h44 : Orc44 C) (v13 : Int) (v15 : (List (List UInt8))) (v16 : Int) (v18 : S_Journal) (v19 : S_Disk) (v20 : (List (List UInt8))) (v21 : Int) (v22 : Int) (v23 : (List (List UInt8))) (v24 : (List S_Write)) (v25 : Int) (v26 : Bool) (v27 : S_Journal) {ρ γ : Type} {φ : ρ -> γ -> Prop} {kL : R -> Option ρ} {K : (Int) -> Option γ} (kx kg : Nat -> St -> Option R) (kr : St -> Option R) (kp : A -> St -> Option R) (x0 : ∀ (o0 : Int) (s57 : A) (s58 : A) (s59 : A), J φ (kx 0 (St.mk [(2, (A.ptr 0 0)), (3, (A.ptr 1 0)), (4, (A.ptr 2 0)), (5, (A.ptr 3 0)), (6, (iA v13)), (9, (A.ptr 4 0)), (10, (A.v (.int .u64 o0))), (57, s57), (58, s58), (59, s59)] [Blk.box (c_S_Journal v18), Blk.box (c_S_Disk v19), Blk.box [(A.imm (List.map (cL c8) v20) true), (iA v21), (iA v22)], Blk.box [(A.imm (List.map (cL c8) v23) true), (A.imm (List.map c_S_Write v24) true), (iA v25), (bA v26)], Blk.box (c_S_Journal v27)])) kL (K o0) some) :
  ∀ (m : Nat) (v14 : Int) (v17 : Int), J φ (loopR (cx C) (ec C n 8) (ey C n 8) (n+8) 21 0 0 5 kx kg kr kp m (St.mk [(2, (A.ptr 0 0)), (3, (A.ptr 1 0)), (4, (A.ptr 2 0)), (5, (A.ptr 3 0)), (6, (iA v13)), (9, (A.ptr 4 0)), (10, (A.v (.int .u64 v14))), (57, (A.imm (List.map (cL c8) v15) false)), (58, (iA v16)), (59, (iA v17))] [Blk.box (c_S_Journal v18), Blk.box (c_S_Disk v19), Blk.box [(A.imm (List.map (cL c8) v20) true), (iA v21), (iA v22)], Blk.box [(A.imm (List.map (cL c8) v23) true), (A.imm (List.map c_S_Write v24) true), (iA v25), (bA v26)], Blk.box (c_S_Journal v27)])) kL (F21_21_0 n v13 v15 v16 v18 v19 v20 v21 v22 v23 v24 v25 v26 v27 m v14 v17) K := by
 intro m
 induction m with
 | zero => intros; exact .nn
 | succ m ih =>
  intro v14 v17
  refine .lp (e21_0 ..) ?_
  unfold F21_21_0
  refine .st (v := (bA (decide (v17 < v16)))) (aBin_lss ..) ?_
  refine .biHN (fun hk28 => ?_) (fun hk28 => ?_)
  ·refine .bd (g := fun (y : (List UInt8)) => A.ip ((cL c8) y)) (idx_imm (e := 35) (es := 1) (h1 := by kernel_rfl) (h2 := by kernel_rfl) (h3 := fun _ => rfl) ..) fun y29 => ?_
   refine .s (A.imm (List.map c8 y29) false) ?_
   refine .bd (g := fun (y : List UInt8) => (A.imm (List.map c8 y) false)) (cut_imm (e := 5) (es := 1) (f := c8) (l := y29) (a := 0) (b := 4) (by kernel_rfl) (by kernel_rfl) (fun _ => rfl) (.inl ⟨rfl, rfl⟩) (.inr ⟨_, rfl⟩)) fun y30 => ?_
   refine .bd (g := fun (y : Int) => (A.v (.int .u64 y))) (by show C 41 [snap _ (A.imm (List.map c8 y30) false)] = _; simp only [sn0, snM]; exact h41 y30) fun y31 => ?_
   refine .st (v := (A.v (.int .u64 (wr .u64 (y31 + 1))))) (aBin_add ..) ?_
   refine .bd (g := fun (y : List UInt8) => (A.imm (List.map c8 y) false)) (cut_imm (e := 5) (es := 1) (f := c8) (l := y29) (a := 124) (b := (y29.length : Int)) (by kernel_rfl) (by kernel_rfl) (fun _ => rfl) (.inr ⟨_, rfl⟩) (.inl ⟨rfl, rfl⟩)) fun y32 => ?_
   refine .bd (g := fun (y : Int) => (A.v (.int .u64 y))) (by show C 41 [snap _ (A.imm (List.map c8 y32) false)] = _; simp only [sn0, snM]; exact h41 y32) fun y33 => ?_
   refine .st (v := (A.v (.int .u64 (wr .u64 (y33 + 1))))) (aBin_add ..) ?_
   refine .s (A.v (.int .u64 ((if (if v14 < wr .u64 (y31 + 1) then wr .u64 (y31 + 1) else v14) < wr .u64 (y33 + 1) then wr .u64 (y33 + 1) else (if v14 < wr .u64 (y31 + 1) then wr .u64 (y31 + 1) else v14))))) ?_
   refine .st (v := (iA (wr .i64 (v17 + 1)))) (aBin_add ..) ?_
   refine .s [Blk.box (c_S_Journal v18), Blk.box (c_S_Disk v19), Blk.box [(A.imm (List.map (cL c8) v20) true), (iA v21), (iA v22)], Blk.box [(A.imm (List.map (cL c8) v23) true), (A.imm (List.map c_S_Write v24) true), (iA v25), (bA v26)], Blk.box (c_S_Journal v27)] ?_
   refine .cT (by kernel_rfl) ?_
   exact ih _ _
  exact .ex (x0 _ _ _ _)
def F21_21_2 (n : Nat) (v71 : Int) (v76 : (List (List UInt8))) (v77 : Int) (v78 : Int) (v79 : S_Journal) (v81 : (List (List UInt8))) (v82 : Int) (v83 : Int) (v84 : (List (List UInt8))) (v85 : (List S_Write)) (v86 : Int) (v87 : Bool) (v88 : S_Journal) : Nat -> Int -> Int -> (List UInt8) -> Int -> Int -> S_Disk -> Option ((Int × Int × (List (List UInt8)) × (List S_Write) × Int × Bool × Int × Int × Int × Bool) ⊕ (Int × Int × (List (List UInt8)) × (List S_Write) × Int × Bool))
 | 0, _, _, _, _, _, _ => none
 | m + 1, v70, v72, v73, v74, v75, v80 => bif (decide (0 < v75)) then (bif (v75 == 1) then ((subI v73 0 ((if 112 < (v73.length : Int) then 112 else (v73.length : Int)))).bind fun y91 => (G44 v71 v72 (orI .u8 v74 2) y91).bind fun y92 => (G26 v80 v72 y92).bind fun y93 => bif (y93.2 != 0) then (some ((Sum.inl ((y93.2, v72, y93.1.Sectors, y93.1.Pending, y93.1.Left, y93.1.Stopped, 0, 0, 0, false))))) else ((subI v73 ((if 112 < (v73.length : Int) then 112 else (v73.length : Int))) ((v73.length : Int))).bind fun y95 => F21_21_2 n v71 v76 v77 v78 v79 v81 v82 v83 v84 v85 v86 v87 v88 m y93.2 (wr .i64 (v72 + 1)) y95 0 (wr .i64 (v75 - 1)) y93.1)) else ((subI v73 0 ((if 112 < (v73.length : Int) then 112 else (v73.length : Int)))).bind fun y96 => (G44 v71 v72 v74 y96).bind fun y97 => (G26 v80 v72 y97).bind fun y98 => bif (y98.2 != 0) then (some ((Sum.inl ((y98.2, v72, y98.1.Sectors, y98.1.Pending, y98.1.Left, y98.1.Stopped, 0, 0, 0, false))))) else ((subI v73 ((if 112 < (v73.length : Int) then 112 else (v73.length : Int))) ((v73.length : Int))).bind fun y100 => F21_21_2 n v71 v76 v77 v78 v79 v81 v82 v83 v84 v85 v86 v87 v88 m y98.2 (wr .i64 (v72 + 1)) y100 0 (wr .i64 (v75 - 1)) y98.1))) else (some ((Sum.inr ((v70, v72, v80.Sectors, v80.Pending, v80.Left, v80.Stopped)))))
theorem T21_21_2 (C : Nat -> List A -> Option A) (n : Nat) (h12 : Orc12 C) (h17 : Orc17 C) (h26 : Orc26 C) (h27 : Orc27 C) (h31 : Orc31 C) (h35 : Orc35 C) (h36 : Orc36 C) (h41 : Orc41 C) (h42_43 : Orc42_43 C) (h44 : Orc44 C) (v71 : Int) (v76 : (List (List UInt8))) (v77 : Int) (v78 : Int) (v79 : S_Journal) (v81 : (List (List UInt8))) (v82 : Int) (v83 : Int) (v84 : (List (List UInt8))) (v85 : (List S_Write)) (v86 : Int) (v87 : Bool) (v88 : S_Journal) {ρ γ : Type} {φ : ρ -> γ -> Prop} {kL : R -> Option ρ} {K : ((Int × Int × (List (List UInt8)) × (List S_Write) × Int × Bool × Int × Int × Int × Bool) ⊕ (Int × Int × (List (List UInt8)) × (List S_Write) × Int × Bool)) -> Option γ} (kx kg : Nat -> St -> Option R) (kr : St -> Option R) (kp : A -> St -> Option R) (x0 : ∀ (o0 : Int) (o1 : Int) (o2 : (List (List UInt8))) (o3 : (List S_Write)) (o4 : Int) (o5 : Bool) (o6 : Int) (o7 : Int) (o8 : Int) (o9 : Bool) (s15 : A) (s16 : A) (s17 : A), J φ (kr (St.mk [(2, (A.ptr 0 0)), (3, (A.ptr 1 0)), (4, (A.ptr 2 0)), (5, (A.ptr 3 0)), (6, (iA o0)), (10, (A.v (.int .u64 v71))), (13, (iA o1)), (15, s15), (16, s16), (17, s17), (108, (A.imm (List.map (cL c8) v76) false)), (109, (iA v77)), (110, (iA v78))] [Blk.box (c_S_Journal v79), Blk.box [(A.imm (List.map (cL c8) o2) false), (A.imm (List.map c_S_Write o3) false), (iA o4), (bA o5)], Blk.box [(A.imm [] true), (iA o6), (iA o7)], Blk.box [(A.imm [] true), (A.imm [] true), (iA o8), (bA o9)], Blk.box (c_S_Journal v88)])) kL (K (Sum.inl ((o0, o1, o2, o3, o4, o5, o6, o7, o8, o9)))) some) (x1 : ∀ (o0 : Int) (o1 : Int) (o2 : (List (List UInt8))) (o3 : (List S_Write)) (o4 : Int) (o5 : Bool) (s15 : A) (s16 : A) (s17 : A), J φ (kx 4 (St.mk [(2, (A.ptr 0 0)), (3, (A.ptr 1 0)), (4, (A.ptr 2 0)), (5, (A.ptr 3 0)), (6, (iA o0)), (10, (A.v (.int .u64 v71))), (13, (iA o1)), (15, s15), (16, s16), (17, s17), (108, (A.imm (List.map (cL c8) v76) false)), (109, (iA v77)), (110, (iA v78))] [Blk.box (c_S_Journal v79), Blk.box [(A.imm (List.map (cL c8) o2) false), (A.imm (List.map c_S_Write o3) false), (iA o4), (bA o5)], Blk.box [(A.imm (List.map (cL c8) v81) true), (iA v82), (iA v83)], (hk27_1 v84 v85 v86 v87), Blk.box (c_S_Journal v88)])) kL (K (Sum.inr ((o0, o1, o2, o3, o4, o5)))) some) :
  ∀ (m : Nat) (v70 : Int) (v72 : Int) (v73 : (List UInt8)) (v74 : Int) (v75 : Int) (v80 : S_Disk), J φ (loopR (cx C) (ec C n 8) (ey C n 8) (n+8) 21 0 2 5 kx kg kr kp m (St.mk [(2, (A.ptr 0 0)), (3, (A.ptr 1 0)), (4, (A.ptr 2 0)), (5, (A.ptr 3 0)), (6, (iA v70)), (10, (A.v (.int .u64 v71))), (13, (iA v72)), (15, (A.imm (List.map c8 v73) false)), (16, (uA v74)), (17, (iA v75)), (108, (A.imm (List.map (cL c8) v76) false)), (109, (iA v77)), (110, (iA v78))] [Blk.box (c_S_Journal v79), Blk.box (c_S_Disk v80), Blk.box [(A.imm (List.map (cL c8) v81) true), (iA v82), (iA v83)], (hk27_1 v84 v85 v86 v87), Blk.box (c_S_Journal v88)])) kL (F21_21_2 n v71 v76 v77 v78 v79 v81 v82 v83 v84 v85 v86 v87 v88 m v70 v72 v73 v74 v75 v80) K := by
 intro m
 induction m with
 | zero => intros; exact .nn
 | succ m ih =>
  intro v70 v72 v73 v74 v75 v80
  refine .lp (e21_2 ..) ?_
  unfold F21_21_2
  refine .st (v := (bA (decide (0 < v75)))) (aBin_gtr ..) ?_
  refine .biHN (fun hk89 => ?_) (fun hk89 => ?_)
  ·refine .st (v := (bA (v75 == 1))) (aBin_eql ..) ?_
   refine .biHN (fun hk90 => ?_) (fun hk90 => ?_)
   ·refine .st (v := (uA (orI .u8 v74 2))) (aBin_bits_or ..) ?_
    refine .st (v := (iA ((v73.length : Int)))) (len_imm (e := 5) (h1 := by kernel_rfl) ..) ?_
    refine .s (iA ((if 112 < (v73.length : Int) then 112 else (v73.length : Int)))) (.s (A.agg (c_S_Disk v80)) ?_)
    refine .bd (g := fun (y : List UInt8) => (A.imm (List.map c8 y) false)) (cut_imm (e := 5) (es := 1) (f := c8) (l := v73) (a := 0) (b := (if 112 < (v73.length : Int) then 112 else (v73.length : Int))) (by kernel_rfl) (by kernel_rfl) (fun _ => rfl) (.inl ⟨rfl, rfl⟩) (.inr ⟨_, rfl⟩)) fun y91 => ?_
    refine .bd (g := fun (y : (List UInt8)) => (A.imm (List.map c8 y) false)) (by show C 44 [snap _ (A.v (.int .u64 v71)), snap _ (iA v72), snap _ (uA (orI .u8 v74 2)), snap _ (A.imm (List.map c8 y91) false)] = _; simp only [sn0, snM]; exact h44 v71 v72 (orI .u8 v74 2) y91) fun y92 => ?_
    refine .bd (g := fun (y : (S_Disk × Int)) => (A.tup [(A.agg [(A.imm (List.map (cL c8) y.1.Sectors) false), (A.imm (List.map c_S_Write y.1.Pending) false), (iA y.1.Left), (bA y.1.Stopped)]), (iA y.2)])) (by show C 26 [snap _ (A.agg (c_S_Disk v80)), snap _ (iA v72), snap _ (A.imm (List.map c8 y92) false)] = _; simp only [sn0, snM]; exact h26 v80 v72 y92) fun y93 => ?_
    refine .s (A.agg (c_S_Disk y93.1)) (.s (iA y93.2) (.s [Blk.box (c_S_Journal v79), Blk.box (c_S_Disk y93.1), Blk.box [(A.imm (List.map (cL c8) v81) true), (iA v82), (iA v83)], (hk27_1 v84 v85 v86 v87), Blk.box (c_S_Journal v88)] ?_))
    refine .st (v := (bA (y93.2 != 0))) (aBin_neq ..) ?_
    refine .biHN (fun hk94 => ?_) (fun hk94 => ?_)
    ·refine .s (A.agg [(A.imm [] true), (iA 0), (iA 0)]) (.s (A.agg [(A.imm [] true), (A.imm [] true), (iA 0), (bA false)]) (.s [Blk.box (c_S_Journal v79), Blk.box (c_S_Disk y93.1), bz3, (hk27_1 v84 v85 v86 v87), Blk.box (c_S_Journal v88)] (.s [Blk.box (c_S_Journal v79), Blk.box (c_S_Disk y93.1), bz3, bz4, Blk.box (c_S_Journal v88)] ?_)))
     exact .ex (x0 _ _ _ _ _ _ _ _ _ _ _ _ _)
    refine .bd (g := fun (y : List UInt8) => (A.imm (List.map c8 y) false)) (cut_imm (e := 5) (es := 1) (f := c8) (l := v73) (a := (if 112 < (v73.length : Int) then 112 else (v73.length : Int))) (b := (v73.length : Int)) (by kernel_rfl) (by kernel_rfl) (fun _ => rfl) (.inr ⟨_, rfl⟩) (.inl ⟨rfl, rfl⟩)) fun y95 => ?_
    refine .st (v := (iA (wr .i64 (v72 + 1)))) (aBin_add ..) ?_
    refine .st (v := (iA (wr .i64 (v75 - 1)))) (aBin_sub ..) ?_
    refine .s [Blk.box (c_S_Journal v79), Blk.box (c_S_Disk y93.1), Blk.box [(A.imm (List.map (cL c8) v81) true), (iA v82), (iA v83)], (hk27_1 v84 v85 v86 v87), Blk.box (c_S_Journal v88)] ?_
    refine .cT (by kernel_rfl) ?_
    exact ih _ _ _ _ _ _
   refine .st (v := (iA ((v73.length : Int)))) (len_imm (e := 5) (h1 := by kernel_rfl) ..) ?_
   refine .s (iA ((if 112 < (v73.length : Int) then 112 else (v73.length : Int)))) (.s (A.agg (c_S_Disk v80)) ?_)
   refine .bd (g := fun (y : List UInt8) => (A.imm (List.map c8 y) false)) (cut_imm (e := 5) (es := 1) (f := c8) (l := v73) (a := 0) (b := (if 112 < (v73.length : Int) then 112 else (v73.length : Int))) (by kernel_rfl) (by kernel_rfl) (fun _ => rfl) (.inl ⟨rfl, rfl⟩) (.inr ⟨_, rfl⟩)) fun y96 => ?_
   refine .bd (g := fun (y : (List UInt8)) => (A.imm (List.map c8 y) false)) (by show C 44 [snap _ (A.v (.int .u64 v71)), snap _ (iA v72), snap _ (uA v74), snap _ (A.imm (List.map c8 y96) false)] = _; simp only [sn0, snM]; exact h44 v71 v72 v74 y96) fun y97 => ?_
   refine .bd (g := fun (y : (S_Disk × Int)) => (A.tup [(A.agg [(A.imm (List.map (cL c8) y.1.Sectors) false), (A.imm (List.map c_S_Write y.1.Pending) false), (iA y.1.Left), (bA y.1.Stopped)]), (iA y.2)])) (by show C 26 [snap _ (A.agg (c_S_Disk v80)), snap _ (iA v72), snap _ (A.imm (List.map c8 y97) false)] = _; simp only [sn0, snM]; exact h26 v80 v72 y97) fun y98 => ?_
   refine .s (A.agg (c_S_Disk y98.1)) (.s (iA y98.2) (.s [Blk.box (c_S_Journal v79), Blk.box (c_S_Disk y98.1), Blk.box [(A.imm (List.map (cL c8) v81) true), (iA v82), (iA v83)], (hk27_1 v84 v85 v86 v87), Blk.box (c_S_Journal v88)] ?_))
   refine .st (v := (bA (y98.2 != 0))) (aBin_neq ..) ?_
   refine .biHN (fun hk99 => ?_) (fun hk99 => ?_)
   ·refine .s (A.agg [(A.imm [] true), (iA 0), (iA 0)]) (.s (A.agg [(A.imm [] true), (A.imm [] true), (iA 0), (bA false)]) (.s [Blk.box (c_S_Journal v79), Blk.box (c_S_Disk y98.1), bz3, (hk27_1 v84 v85 v86 v87), Blk.box (c_S_Journal v88)] (.s [Blk.box (c_S_Journal v79), Blk.box (c_S_Disk y98.1), bz3, bz4, Blk.box (c_S_Journal v88)] ?_)))
    exact .ex (x0 _ _ _ _ _ _ _ _ _ _ _ _ _)
   refine .bd (g := fun (y : List UInt8) => (A.imm (List.map c8 y) false)) (cut_imm (e := 5) (es := 1) (f := c8) (l := v73) (a := (if 112 < (v73.length : Int) then 112 else (v73.length : Int))) (b := (v73.length : Int)) (by kernel_rfl) (by kernel_rfl) (fun _ => rfl) (.inr ⟨_, rfl⟩) (.inl ⟨rfl, rfl⟩)) fun y100 => ?_
   refine .st (v := (iA (wr .i64 (v72 + 1)))) (aBin_add ..) ?_
   refine .st (v := (iA (wr .i64 (v75 - 1)))) (aBin_sub ..) ?_
   refine .s [Blk.box (c_S_Journal v79), Blk.box (c_S_Disk y98.1), Blk.box [(A.imm (List.map (cL c8) v81) true), (iA v82), (iA v83)], (hk27_1 v84 v85 v86 v87), Blk.box (c_S_Journal v88)] ?_
   refine .cT (by kernel_rfl) ?_
   exact ih _ _ _ _ _ _
  exact .ex (x1 _ _ _ _ _ _ _ _ _)
def F21_21_1 (n : Nat) (v52 : Int) (v54 : (List (List UInt8))) (v55 : Int) (v57 : S_Journal) (v59 : (List (List UInt8))) (v60 : Int) (v61 : Int) (v62 : (List (List UInt8))) (v63 : (List S_Write)) (v64 : Int) (v65 : Bool) (v66 : S_Journal) : Nat -> Int -> Int -> Int -> S_Disk -> Option ((Int × (List (List UInt8)) × (List S_Write) × Int × Bool × Int × Int × Int × Bool) ⊕ ((List (List UInt8)) × (List S_Write) × Int × Bool))
 | 0, _, _, _, _ => none
 | m + 1, v51, v53, v56, v58 => bif (decide (v56 < v55)) then ((getI v54 v56).bind fun y68 => (G35 y68).bind fun y69 => (F21_21_2 n v52 v54 v55 v56 v57 v59 v60 v61 v62 v63 v64 v65 v66 (n+8) v51 v53 y68 1 y69 v58).bind fun o101 => match o101 with | (Sum.inl ((y102, y103, y104, y105, y106, y107, y108, y109, y110, y111))) => some ((Sum.inl ((y102, y104, y105, y106, y107, y108, y109, y110, y111)))) | (Sum.inr ((y115, y116, y117, y118, y119, y120))) => F21_21_1 n v52 v54 v55 v57 v59 v60 v61 v62 v63 v64 v65 v66 m y115 y116 (wr .i64 (v56 + 1)) ((S_Disk.mk y117 y118 y119 y120))) else (some ((Sum.inr ((v58.Sectors, v58.Pending, v58.Left, v58.Stopped)))))
theorem T21_21_1 (C : Nat -> List A -> Option A) (n : Nat) (h12 : Orc12 C) (h17 : Orc17 C) (h26 : Orc26 C) (h27 : Orc27 C) (h31 : Orc31 C) (h35 : Orc35 C) (h36 : Orc36 C) (h41 : Orc41 C) (h42_43 : Orc42_43 C) (h44 : Orc44 C) (v52 : Int) (v54 : (List (List UInt8))) (v55 : Int) (v57 : S_Journal) (v59 : (List (List UInt8))) (v60 : Int) (v61 : Int) (v62 : (List (List UInt8))) (v63 : (List S_Write)) (v64 : Int) (v65 : Bool) (v66 : S_Journal) {ρ γ : Type} {φ : ρ -> γ -> Prop} {kL : R -> Option ρ} {K : ((Int × (List (List UInt8)) × (List S_Write) × Int × Bool × Int × Int × Int × Bool) ⊕ ((List (List UInt8)) × (List S_Write) × Int × Bool)) -> Option γ} (kx kg : Nat -> St -> Option R) (kr : St -> Option R) (kp : A -> St -> Option R) (x0 : ∀ (o0 : Int) (o1 : (List (List UInt8))) (o2 : (List S_Write)) (o3 : Int) (o4 : Bool) (o5 : Int) (o6 : Int) (o7 : Int) (o8 : Bool) (s2 : A) (s3 : A) (s10 : A) (s13 : A) (s108 : A) (s109 : A) (s110 : A), J φ (kr (St.mk [(2, s2), (3, s3), (4, (A.ptr 2 0)), (5, (A.ptr 3 0)), (6, (iA o0)), (10, s10), (13, s13), (108, s108), (109, s109), (110, s110)] [Blk.box (c_S_Journal v57), Blk.box [(A.imm (List.map (cL c8) o1) false), (A.imm (List.map c_S_Write o2) false), (iA o3), (bA o4)], Blk.box [(A.imm [] true), (iA o5), (iA o6)], Blk.box [(A.imm [] true), (A.imm [] true), (iA o7), (bA o8)], Blk.box (c_S_Journal v66)])) kL (K (Sum.inl ((o0, o1, o2, o3, o4, o5, o6, o7, o8)))) some) (x1 : ∀ (o0 : (List (List UInt8))) (o1 : (List S_Write)) (o2 : Int) (o3 : Bool) (s6 : A) (s10 : A) (s13 : A) (s108 : A) (s109 : A) (s110 : A), J φ (kx 2 (St.mk [(2, (A.ptr 0 0)), (3, (A.ptr 1 0)), (4, (A.ptr 2 0)), (5, (A.ptr 3 0)), (6, s6), (10, s10), (13, s13), (108, s108), (109, s109), (110, s110)] [Blk.box (c_S_Journal v57), Blk.box [(A.imm (List.map (cL c8) o0) false), (A.imm (List.map c_S_Write o1) false), (iA o2), (bA o3)], Blk.box [(A.imm (List.map (cL c8) v59) true), (iA v60), (iA v61)], Blk.box [(A.imm (List.map (cL c8) v62) true), (A.imm (List.map c_S_Write v63) true), (iA v64), (bA v65)], Blk.box (c_S_Journal v66)])) kL (K (Sum.inr ((o0, o1, o2, o3)))) some) :
  ∀ (m : Nat) (v51 : Int) (v53 : Int) (v56 : Int) (v58 : S_Disk), J φ (loopR (cx C) (ec C n 8) (ey C n 8) (n+8) 21 0 1 5 kx kg kr kp m (St.mk [(2, (A.ptr 0 0)), (3, (A.ptr 1 0)), (4, (A.ptr 2 0)), (5, (A.ptr 3 0)), (6, (iA v51)), (10, (A.v (.int .u64 v52))), (13, (iA v53)), (108, (A.imm (List.map (cL c8) v54) false)), (109, (iA v55)), (110, (iA v56))] [Blk.box (c_S_Journal v57), Blk.box (c_S_Disk v58), Blk.box [(A.imm (List.map (cL c8) v59) true), (iA v60), (iA v61)], Blk.box [(A.imm (List.map (cL c8) v62) true), (A.imm (List.map c_S_Write v63) true), (iA v64), (bA v65)], Blk.box (c_S_Journal v66)])) kL (F21_21_1 n v52 v54 v55 v57 v59 v60 v61 v62 v63 v64 v65 v66 m v51 v53 v56 v58) K := by
 intro m
 induction m with
 | zero => intros; exact .nn
 | succ m ih =>
  intro v51 v53 v56 v58
  refine .lp (e21_1 ..) ?_
  unfold F21_21_1
  refine .st (v := (bA (decide (v56 < v55)))) (aBin_lss ..) ?_
  refine .biHN (fun hk67 => ?_) (fun hk67 => ?_)
  ·refine .bd (g := fun (y : (List UInt8)) => A.ip ((cL c8) y)) (idx_imm (e := 35) (es := 1) (h1 := by kernel_rfl) (h2 := by kernel_rfl) (h3 := fun _ => rfl) ..) fun y68 => ?_
   refine .s (A.imm (List.map c8 y68) false) ?_
   refine .bd (g := fun (y : Int) => (iA y)) (by show C 35 [snap _ (A.imm (List.map c8 y68) false)] = _; simp only [sn0, snM]; exact h35 y68) fun y69 => ?_
   refine .as (T21_21_2 C n h12 h17 h26 h27 h31 h35 h36 h41 h42_43 h44 v52 v54 v55 v56 v57 v59 v60 v61 v62 v63 v64 v65 v66 _ _ _ _ ?_ ?_ _ v51 v53 y68 1 y69 v58)
   ·intro y102 y103 y104 y105 y106 y107 y108 y109 y110 y111 j112 j113 j114
    refine .un rfl ?_
    exact .ex (x0 _ _ _ _ _ _ _ _ _ _ _ _ _ _ _ _)
   ·intro y115 y116 y117 y118 y119 y120 j121 j122 j123
    refine .un rfl ?_
    refine .cT (by kernel_rfl) ?_
    refine .st (v := (iA (wr .i64 (v56 + 1)))) (aBin_add ..) ?_
    refine .s [Blk.box (c_S_Journal v57), Blk.box [(A.imm (List.map (cL c8) y117) false), (A.imm (List.map c_S_Write y118) false), (iA y119), (bA y120)], Blk.box [(A.imm (List.map (cL c8) v59) true), (iA v60), (iA v61)], Blk.box [(A.imm (List.map (cL c8) v62) true), (A.imm (List.map c_S_Write v63) true), (iA v64), (bA v65)], Blk.box (c_S_Journal v66)] ?_
    refine .cT (by kernel_rfl) ?_
    exact ih _ _ _ _
  exact .ex (x1 _ _ _ _ _ _ _ _ _ _)
def F21 (n : Nat) (a0 : S_Journal) (a1 : S_Disk) : Option (S_Journal × S_Disk × Int) :=
 (G17 a0).bind fun y1 => bif (y1 != 0) then (some (((S_Journal.mk ([]) 0 0), (S_Disk.mk ([]) ([]) 0 false), y1))) else ((G31 a1).bind fun y3 => bif (y3 != 0) then (some (((S_Journal.mk ([]) 0 0), (S_Disk.mk ([]) ([]) 0 false), y3))) else ((bif (a0.Many != ((a1.Sectors.length : Int))) then (some (!a1.Stopped)) else (some false)).bind fun y6 => bif y6 then (some (((S_Journal.mk ([]) 0 0), (S_Disk.mk ([]) ([]) 0 false), 1))) else ((G12 a1).bind fun y11 => bif (y11.2 != 0) then (some (((S_Journal.mk ([]) 0 0), (S_Disk.mk ([]) ([]) 0 false), y11.2))) else ((F21_21_0 n y11.2 a1.Sectors ((a1.Sectors.length : Int)) a0 a1 ([]) 0 0 ([]) ([]) 0 false y11.1 (n+8) 1 0).bind fun o34 => match o34 with | y35 => (subI a0.Records 0 a0.Synced).bind fun y39 => (G42_43 y11.1.Records y39).bind fun y40 => (bif (!y40) then (some true) else (some ((shrI .u64 y35 32) != 0))).bind fun y42 => bif y42 then (some (((S_Journal.mk ([]) 0 0), (S_Disk.mk ([]) ([]) 0 false), 50))) else (bif (a0.Synced == ((a0.Records.length : Int))) then (some ((a0, a1, 0))) else ((subI a0.Records 0 a0.Synced).bind fun y48 => (G36 y48).bind fun y49 => (subI a0.Records a0.Synced ((a0.Records.length : Int))).bind fun y50 => (F21_21_1 n y35 y50 ((y50.length : Int)) a0 ([]) 0 0 ([]) ([]) 0 false y11.1 (n+8) y11.2 y49 0 a1).bind fun o124 => match o124 with | (Sum.inl ((y125, y126, y127, y128, y129, y130, y131, y132, y133))) => some (((S_Journal.mk ([]) y130 y131), (S_Disk.mk ([]) ([]) y132 y133), y125)) | (Sum.inr ((y141, y142, y143, y144))) => (G27 ((S_Disk.mk y141 y142 y143 y144))).bind fun y151 => bif (y151.2 != 0) then (some (((S_Journal.mk ([]) 0 0), y151.1, y151.2))) else (some (((S_Journal.mk a0.Records a0.Many ((a0.Records.length : Int))), y151.1, 0)))))))))
theorem T21 (C : Nat -> List A -> Option A) (n : Nat) (h12 : Orc12 C) (h17 : Orc17 C) (h26 : Orc26 C) (h27 : Orc27 C) (h31 : Orc31 C) (h35 : Orc35 C) (h36 : Orc36 C) (h41 : Orc41 C) (h42_43 : Orc42_43 C) (h44 : Orc44 C) (a0 : S_Journal) (a1 : S_Disk) : J (fun (o : R) y => ∃ v, o.1 = .ret v /\ snapE o.2 v = (A.tup [(A.agg [(A.imm (List.map (cL c8) y.1.Records) false), (iA y.1.Many), (iA y.1.Synced)]), (A.agg [(A.imm (List.map (cL c8) y.2.1.Sectors) false), (A.imm (List.map c_S_Write y.2.1.Pending) false), (iA y.2.1.Left), (bA y.2.1.Stopped)]), (iA y.2.2)])) (evCall1 (cx C) (ec C n 8) (ey C n 8) (n+8) 21 [(A.agg (c_S_Journal a0)), (A.agg (c_S_Disk a1))] [] 0) some (F21 n a0 a1) some := by
 refine .lp (e21 ..) ?_
 unfold F21
 refine .s ((A.ptr 0 0), [Blk.box (c_S_Journal a0)]) (.s ((A.ptr 1 0), [Blk.box (c_S_Journal a0), Blk.box (c_S_Disk a1)]) (.s ((A.ptr 2 0), [Blk.box (c_S_Journal a0), Blk.box (c_S_Disk a1), bz3]) (.s ((A.ptr 3 0), [Blk.box (c_S_Journal a0), Blk.box (c_S_Disk a1), bz3, bz4]) (.s (A.agg (c_S_Journal a0)) ?_))))
 refine .bd (g := fun (y : Int) => (iA y)) (by show C 17 [snap _ (A.agg (c_S_Journal a0))] = _; simp only [sn0, snM]; exact h17 a0) fun y1 => ?_
 refine .st (v := (bA (y1 != 0))) (aBin_neq ..) ?_
 refine .biHN (fun hk2 => ?_) (fun hk2 => ?_)
 ·refine .s (A.agg [(A.imm [] true), (iA 0), (iA 0)]) (.s (A.agg [(A.imm [] true), (A.imm [] true), (iA 0), (bA false)]) (.s [Blk.box (c_S_Journal a0), Blk.box (c_S_Disk a1), bz3, bz4] (.s [Blk.box (c_S_Journal a0), Blk.box (c_S_Disk a1), bz3, bz4] (.s (A.agg [(A.imm [] true), (iA 0), (iA 0)]) (.s (A.agg [(A.imm [] true), (A.imm [] true), (iA 0), (bA false)]) ?_)))))
  exact .lf rfl rfl ⟨_, rfl, by show snapE _ (A.tup [(A.agg [(A.imm [] true), (iA 0), (iA 0)]), (A.agg [(A.imm [] true), (A.imm [] true), (iA 0), (bA false)]), (iA y1)]) = _; first | (simp only [sn0, snM, snapE]; done) | (simp only [sn0, snS, snapE]; first | done | rfl)⟩
 refine .s (A.agg (c_S_Disk a1)) ?_
 refine .bd (g := fun (y : Int) => (iA y)) (by show C 31 [snap _ (A.agg (c_S_Disk a1))] = _; simp only [sn0, snM]; exact h31 a1) fun y3 => ?_
 refine .st (v := (bA (y3 != 0))) (aBin_neq ..) ?_
 refine .biHN (fun hk4 => ?_) (fun hk4 => ?_)
 ·refine .s (A.agg [(A.imm [] true), (iA 0), (iA 0)]) (.s (A.agg [(A.imm [] true), (A.imm [] true), (iA 0), (bA false)]) (.s [Blk.box (c_S_Journal a0), Blk.box (c_S_Disk a1), bz3, bz4] (.s [Blk.box (c_S_Journal a0), Blk.box (c_S_Disk a1), bz3, bz4] (.s (A.agg [(A.imm [] true), (iA 0), (iA 0)]) (.s (A.agg [(A.imm [] true), (A.imm [] true), (iA 0), (bA false)]) ?_)))))
  exact .lf rfl rfl ⟨_, rfl, by show snapE _ (A.tup [(A.agg [(A.imm [] true), (iA 0), (iA 0)]), (A.agg [(A.imm [] true), (A.imm [] true), (iA 0), (bA false)]), (iA y3)]) = _; first | (simp only [sn0, snM, snapE]; done) | (simp only [sn0, snS, snapE]; first | done | rfl)⟩
 refine .s (A.ptr 0 1) (.s (iA a0.Many) (.s (A.ptr 1 0) (.s (A.imm (List.map (cL c8) a1.Sectors) false) ?_)))
 refine .st (v := (iA ((a1.Sectors.length : Int)))) (len_imm (e := 35) (h1 := by kernel_rfl) ..) ?_
 refine .st (v := (bA (a0.Many != ((a1.Sectors.length : Int))))) (aBin_neq ..) ?_
 refine .bg (fun t (y : Bool) => ∃ j7 j8 j9 : A, t = [(bA y), j7, j8, j9]) ?_ ?_
 ·refine .biH (fun hk5 => ?_) (fun hk5 => ?_)
  ·refine .s (A.ptr 1 3) (.s (bA a1.Stopped) (.s (bA (!a1.Stopped)) ?_))
   exact .lg ⟨_, _, _, rfl⟩
  exact .lg ⟨_, _, _, rfl⟩
 rintro _ y6 ⟨j7, j8, j9, rfl⟩
 iterate 4 refine .uc ?_
 refine .biHN (fun hk10 => ?_) (fun hk10 => ?_)
 ·refine .s (A.agg [(A.imm [] true), (iA 0), (iA 0)]) (.s (A.agg [(A.imm [] true), (A.imm [] true), (iA 0), (bA false)]) (.s [Blk.box (c_S_Journal a0), Blk.box (c_S_Disk a1), bz3, bz4] (.s [Blk.box (c_S_Journal a0), Blk.box (c_S_Disk a1), bz3, bz4] (.s (A.agg [(A.imm [] true), (iA 0), (iA 0)]) (.s (A.agg [(A.imm [] true), (A.imm [] true), (iA 0), (bA false)]) ?_)))))
  exact .lf rfl rfl ⟨_, rfl, by show snapE _ (A.tup [(A.agg [(A.imm [] true), (iA 0), (iA 0)]), (A.agg [(A.imm [] true), (A.imm [] true), (iA 0), (bA false)]), (iA 1)]) = _; first | (simp only [sn0, snM, snapE]; done) | (simp only [sn0, snS, snapE]; first | done | rfl)⟩
 refine .s (A.agg (c_S_Disk a1)) ?_
 refine .bd (g := fun (y : (S_Journal × Int)) => (A.tup [(A.agg [(A.imm (List.map (cL c8) y.1.Records) false), (iA y.1.Many), (iA y.1.Synced)]), (iA y.2)])) (by show C 12 [snap _ (A.agg (c_S_Disk a1))] = _; simp only [sn0, snM]; exact h12 a1) fun y11 => ?_
 refine .s (A.agg (c_S_Journal y11.1)) (.s (iA y11.2) (.s ((A.ptr 4 0), [Blk.box (c_S_Journal a0), Blk.box (c_S_Disk a1), bz3, bz4, bz3]) (.s [Blk.box (c_S_Journal a0), Blk.box (c_S_Disk a1), bz3, bz4, Blk.box (c_S_Journal y11.1)] ?_)))
 refine .st (v := (bA (y11.2 != 0))) (aBin_neq ..) ?_
 refine .biHN (fun hk12 => ?_) (fun hk12 => ?_)
 ·refine .s (A.agg [(A.imm [] true), (iA 0), (iA 0)]) (.s (A.agg [(A.imm [] true), (A.imm [] true), (iA 0), (bA false)]) (.s [Blk.box (c_S_Journal a0), Blk.box (c_S_Disk a1), bz3, bz4, Blk.box (c_S_Journal y11.1)] (.s [Blk.box (c_S_Journal a0), Blk.box (c_S_Disk a1), bz3, bz4, Blk.box (c_S_Journal y11.1)] (.s (A.agg [(A.imm [] true), (iA 0), (iA 0)]) (.s (A.agg [(A.imm [] true), (A.imm [] true), (iA 0), (bA false)]) ?_)))))
  exact .lf rfl rfl ⟨_, rfl, by show snapE _ (A.tup [(A.agg [(A.imm [] true), (iA 0), (iA 0)]), (A.agg [(A.imm [] true), (A.imm [] true), (iA 0), (bA false)]), (iA y11.2)]) = _; first | (simp only [sn0, snM, snapE]; done) | (simp only [sn0, snS, snapE]; first | done | rfl)⟩
 refine .s (A.ptr 1 0) (.s (A.imm (List.map (cL c8) a1.Sectors) false) ?_)
 refine .st (v := (iA ((a1.Sectors.length : Int)))) (len_imm (e := 35) (h1 := by kernel_rfl) ..) ?_
 refine .as (T21_21_0 C n h12 h17 h26 h27 h31 h35 h36 h41 h42_43 h44 y11.2 a1.Sectors ((a1.Sectors.length : Int)) a0 a1 ([]) 0 0 ([]) ([]) 0 false y11.1 _ _ _ _ ?_ _ 1 0)
 ·intro y35 j36 j37 j38
  refine .un rfl ?_
  refine .cT (by kernel_rfl) ?_
  refine .s (A.ptr 4 0) (.s (A.imm (List.map (cL c8) y11.1.Records) false) (.s (A.ptr 0 0) (.s (A.imm (List.map (cL c8) a0.Records) false) (.s (A.ptr 0 2) (.s (iA a0.Synced) ?_)))))
  refine .bd (g := fun (y : List (List UInt8)) => (A.imm (List.map (cL c8) y) false)) (cut_imm (e := 35) (es := 1) (f := (cL c8)) (l := a0.Records) (a := 0) (b := a0.Synced) (by kernel_rfl) (by kernel_rfl) (fun _ => rfl) (.inl ⟨rfl, rfl⟩) (.inr ⟨_, rfl⟩)) fun y39 => ?_
  refine .bd (g := fun (y : Bool) => (bA y)) (by show C 42 [snap _ (A.imm (List.map (cL c8) y11.1.Records) false), snap _ (A.imm (List.map (cL c8) y39) false), snap [Blk.box (c_S_Journal a0), Blk.box (c_S_Disk a1), bz3, bz4, Blk.box (c_S_Journal y11.1)] (A.fn (Fn.func 43) [] [])] = _; simp only [sn0, snM]; exact h42_43 y11.1.Records y39) fun y40 => ?_
  refine .s (bA (!y40)) ?_
  refine .bg (fun t (y : Bool) => ∃ j43 j44 j45 : A, t = [(bA y), j43, j44, j45]) ?_ ?_
  ·refine .biH (fun hk41 => ?_) (fun hk41 => ?_)
   ·exact .lg ⟨_, _, _, rfl⟩
   refine .st (v := (A.v (.int .u64 (shrI .u64 y35 32)))) (aBin_shr (hb := by decide) ..) ?_
   refine .st (v := (bA ((shrI .u64 y35 32) != 0))) (aBin_neq ..) ?_
   exact .lg ⟨_, _, _, rfl⟩
  rintro _ y42 ⟨j43, j44, j45, rfl⟩
  iterate 4 refine .uc ?_
  refine .biHN (fun hk46 => ?_) (fun hk46 => ?_)
  ·refine .s (A.agg [(A.imm [] true), (iA 0), (iA 0)]) (.s (A.agg [(A.imm [] true), (A.imm [] true), (iA 0), (bA false)]) (.s [Blk.box (c_S_Journal a0), Blk.box (c_S_Disk a1), bz3, bz4, Blk.box (c_S_Journal y11.1)] (.s [Blk.box (c_S_Journal a0), Blk.box (c_S_Disk a1), bz3, bz4, Blk.box (c_S_Journal y11.1)] (.s (A.agg [(A.imm [] true), (iA 0), (iA 0)]) (.s (A.agg [(A.imm [] true), (A.imm [] true), (iA 0), (bA false)]) ?_)))))
   exact .lf rfl rfl ⟨_, rfl, by show snapE _ (A.tup [(A.agg [(A.imm [] true), (iA 0), (iA 0)]), (A.agg [(A.imm [] true), (A.imm [] true), (iA 0), (bA false)]), (iA 50)]) = _; first | (simp only [sn0, snM, snapE]; done) | (simp only [sn0, snS, snapE]; first | done | rfl)⟩
  refine .s (A.ptr 0 2) (.s (iA a0.Synced) (.s (A.ptr 0 0) (.s (A.imm (List.map (cL c8) a0.Records) false) ?_)))
  refine .st (v := (iA ((a0.Records.length : Int)))) (len_imm (e := 35) (h1 := by kernel_rfl) ..) ?_
  refine .st (v := (bA (a0.Synced == ((a0.Records.length : Int))))) (aBin_eql ..) ?_
  refine .biHN (fun hk47 => ?_) (fun hk47 => ?_)
  ·refine .s (A.agg (c_S_Journal a0)) (.s (A.agg (c_S_Disk a1)) ?_)
   refine .cT (by kernel_rfl) ?_
   refine .s [Blk.box (c_S_Journal a0), Blk.box (c_S_Disk a1), Blk.box (c_S_Journal a0), bz4, Blk.box (c_S_Journal y11.1)] (.s [Blk.box (c_S_Journal a0), Blk.box (c_S_Disk a1), Blk.box (c_S_Journal a0), Blk.box (c_S_Disk a1), Blk.box (c_S_Journal y11.1)] (.s (A.agg (c_S_Journal a0)) (.s (A.agg (c_S_Disk a1)) ?_)))
   exact .lf rfl rfl ⟨_, rfl, by show snapE _ (A.tup [(A.agg (c_S_Journal a0)), (A.agg (c_S_Disk a1)), (iA 0)]) = _; first | (simp only [sn0, snM, snapE]; done) | (simp only [sn0, snS, snapE]; first | done | rfl)⟩
  refine .s (A.ptr 0 0) (.s (A.imm (List.map (cL c8) a0.Records) false) (.s (A.ptr 0 2) (.s (iA a0.Synced) ?_)))
  refine .bd (g := fun (y : List (List UInt8)) => (A.imm (List.map (cL c8) y) false)) (cut_imm (e := 35) (es := 1) (f := (cL c8)) (l := a0.Records) (a := 0) (b := a0.Synced) (by kernel_rfl) (by kernel_rfl) (fun _ => rfl) (.inl ⟨rfl, rfl⟩) (.inr ⟨_, rfl⟩)) fun y48 => ?_
  refine .bd (g := fun (y : Int) => (iA y)) (by show C 36 [snap _ (A.imm (List.map (cL c8) y48) false)] = _; simp only [sn0, snM]; exact h36 y48) fun y49 => ?_
  refine .s (A.ptr 0 0) (.s (A.imm (List.map (cL c8) a0.Records) false) (.s (A.ptr 0 2) (.s (iA a0.Synced) ?_)))
  refine .bd (g := fun (y : List (List UInt8)) => (A.imm (List.map (cL c8) y) false)) (cut_imm (e := 35) (es := 1) (f := (cL c8)) (l := a0.Records) (a := a0.Synced) (b := (a0.Records.length : Int)) (by kernel_rfl) (by kernel_rfl) (fun _ => rfl) (.inr ⟨_, rfl⟩) (.inl ⟨rfl, rfl⟩)) fun y50 => ?_
  refine .st (v := (iA ((y50.length : Int)))) (len_imm (e := 35) (h1 := by kernel_rfl) ..) ?_
  refine .as (T21_21_1 C n h12 h17 h26 h27 h31 h35 h36 h41 h42_43 h44 y35 y50 ((y50.length : Int)) a0 ([]) 0 0 ([]) ([]) 0 false y11.1 _ _ _ _ ?_ ?_ _ y11.2 y49 0 a1)
  ·intro y125 y126 y127 y128 y129 y130 y131 y132 y133 j134 j135 j136 j137 j138 j139 j140
   refine .un rfl ?_
   refine .s (A.agg [(A.imm [] true), (iA y130), (iA y131)]) (.s (A.agg [(A.imm [] true), (A.imm [] true), (iA y132), (bA y133)]) ?_)
   exact .lf rfl rfl ⟨_, rfl, by show snapE _ (A.tup [(A.agg [(A.imm [] true), (iA y130), (iA y131)]), (A.agg [(A.imm [] true), (A.imm [] true), (iA y132), (bA y133)]), (iA y125)]) = _; first | (simp only [sn0, snM, snapE]; done) | (simp only [sn0, snS, snapE]; first | done | rfl)⟩
  ·intro y141 y142 y143 y144 j145 j146 j147 j148 j149 j150
   refine .un rfl ?_
   refine .cT (by kernel_rfl) ?_
   refine .s (A.agg [(A.imm (List.map (cL c8) y141) false), (A.imm (List.map c_S_Write y142) false), (iA y143), (bA y144)]) ?_
   refine .bd (g := fun (y : (S_Disk × Int)) => (A.tup [(A.agg [(A.imm (List.map (cL c8) y.1.Sectors) false), (A.imm (List.map c_S_Write y.1.Pending) false), (iA y.1.Left), (bA y.1.Stopped)]), (iA y.2)])) (by show C 27 [snap _ (A.agg [(A.imm (List.map (cL c8) y141) false), (A.imm (List.map c_S_Write y142) false), (iA y143), (bA y144)])] = _; simp only [sn0, snM]; exact h27 ((S_Disk.mk y141 y142 y143 y144))) fun y151 => ?_
   refine .s (A.agg (c_S_Disk y151.1)) (.s (iA y151.2) (.s [Blk.box (c_S_Journal a0), Blk.box (c_S_Disk y151.1), bz3, bz4, Blk.box (c_S_Journal y11.1)] ?_))
   refine .st (v := (bA (y151.2 != 0))) (aBin_neq ..) ?_
   refine .biHN (fun hk152 => ?_) (fun hk152 => ?_)
   ·refine .s (A.agg [(A.imm [] true), (iA 0), (iA 0)]) (.s (A.agg (c_S_Disk y151.1)) ?_)
    refine .cT (by kernel_rfl) ?_
    refine .s [Blk.box (c_S_Journal a0), Blk.box (c_S_Disk y151.1), bz3, bz4, Blk.box (c_S_Journal y11.1)] (.s [Blk.box (c_S_Journal a0), Blk.box (c_S_Disk y151.1), bz3, Blk.box (c_S_Disk y151.1), Blk.box (c_S_Journal y11.1)] (.s (A.agg [(A.imm [] true), (iA 0), (iA 0)]) (.s (A.agg (c_S_Disk y151.1)) ?_)))
    exact .lf rfl rfl ⟨_, rfl, by show snapE _ (A.tup [(A.agg [(A.imm [] true), (iA 0), (iA 0)]), (A.agg (c_S_Disk y151.1)), (iA y151.2)]) = _; first | (simp only [sn0, snM, snapE]; done) | (simp only [sn0, snS, snapE]; first | done | rfl)⟩
   refine .s (A.ptr 0 0) (.s (A.imm (List.map (cL c8) a0.Records) false) ?_)
   refine .st (v := (iA ((a0.Records.length : Int)))) (len_imm (e := 35) (h1 := by kernel_rfl) ..) ?_
   refine .s (A.ptr 0 2) (.s [(hk21_2 a0), Blk.box (c_S_Disk y151.1), bz3, bz4, Blk.box (c_S_Journal y11.1)] (.s (A.agg [(A.imm (List.map (cL c8) a0.Records) false), (iA a0.Many), (iA ((a0.Records.length : Int)))]) (.s (A.agg (c_S_Disk y151.1)) ?_)))
   refine .cT (by kernel_rfl) ?_
   refine .s [(hk21_2 a0), Blk.box (c_S_Disk y151.1), (hk21_2 a0), bz4, Blk.box (c_S_Journal y11.1)] (.s [(hk21_2 a0), Blk.box (c_S_Disk y151.1), (hk21_2 a0), Blk.box (c_S_Disk y151.1), Blk.box (c_S_Journal y11.1)] (.s (A.agg [(A.imm (List.map (cL c8) a0.Records) false), (iA a0.Many), (iA ((a0.Records.length : Int)))]) (.s (A.agg (c_S_Disk y151.1)) ?_)))
   exact .lf rfl rfl ⟨_, rfl, by show snapE _ (A.tup [(A.agg [(A.imm (List.map (cL c8) a0.Records) false), (iA a0.Many), (iA ((a0.Records.length : Int)))]), (A.agg (c_S_Disk y151.1)), (iA 0)]) = _; first | (simp only [sn0, snM, snapE]; done) | (simp only [sn0, snS, snapE]; first | done | rfl)⟩
def G21 (a0 : S_Journal) (a1 : S_Disk) : Option (S_Journal × S_Disk × Int) := F21 fuel0 a0 a1
def Orc21 (C : Nat -> List A -> Option A) : Prop := ∀ (a0 : S_Journal) (a1 : S_Disk), C 21 [(A.agg (c_S_Journal a0)), (A.agg (c_S_Disk a1))] = (G21 a0 a1).map fun y => (A.tup [(A.agg [(A.imm (List.map (cL c8) y.1.Records) false), (iA y.1.Many), (iA y.1.Synced)]), (A.agg [(A.imm (List.map (cL c8) y.2.1.Sectors) false), (A.imm (List.map c_S_Write y.2.1.Pending) false), (iA y.2.1.Left), (bA y.2.1.Stopped)]), (iA y.2.2)])
def F19 (n : Nat) (a0 : S_Journal) : Option Int :=
 (G17 a0).bind fun y1 => bif (y1 != 0) then (some 0) else ((G36 a0.Records).bind fun y3 => some (wr .i64 (112 * (wr .i64 (a0.Many - y3)))))
theorem T19 (C : Nat -> List A -> Option A) (n : Nat) (h17 : Orc17 C) (h36 : Orc36 C) (a0 : S_Journal) : J (fun (o : R) y => ∃ v, o.1 = .ret v /\ snapE o.2 v = (iA y)) (evCall1 (cx C) (ec C n 8) (ey C n 8) (n+8) 19 [(A.agg (c_S_Journal a0))] [] 0) some (F19 n a0) some := by
 refine .lp (e19 ..) ?_
 unfold F19
 refine .s ((A.ptr 0 0), [Blk.box (c_S_Journal a0)]) (.s (A.agg (c_S_Journal a0)) ?_)
 refine .bd (g := fun (y : Int) => (iA y)) (by show C 17 [snap _ (A.agg (c_S_Journal a0))] = _; simp only [sn0, snM]; exact h17 a0) fun y1 => ?_
 refine .st (v := (bA (y1 != 0))) (aBin_neq ..) ?_
 refine .biHN (fun hk2 => ?_) (fun hk2 => ?_)
 ·exact .lf rfl rfl ⟨_, rfl, rfl⟩
 refine .s (A.ptr 0 1) (.s (iA a0.Many) (.s (A.ptr 0 0) (.s (A.imm (List.map (cL c8) a0.Records) false) ?_)))
 refine .bd (g := fun (y : Int) => (iA y)) (by show C 36 [snap _ (A.imm (List.map (cL c8) a0.Records) false)] = _; simp only [sn0, snM]; exact h36 a0.Records) fun y3 => ?_
 refine .st (v := (iA (wr .i64 (a0.Many - y3)))) (aBin_sub ..) ?_
 refine .st (v := (iA (wr .i64 (112 * (wr .i64 (a0.Many - y3)))))) (aBin_mul ..) ?_
 exact .lf rfl rfl ⟨_, rfl, rfl⟩
def G19 (a0 : S_Journal) : Option Int := F19 fuel0 a0
def Orc19 (C : Nat -> List A -> Option A) : Prop := ∀ (a0 : S_Journal), C 19 [(A.agg (c_S_Journal a0))] = (G19 a0).map fun y => (iA y)
def F10 (n : Nat)  : Option Bool :=
 (G25 1).bind fun y1 => (G12 y1.1).bind fun y2 => (mkI 1 113 ((0 : UInt8))).bind fun y3 => (G15 y2.1 y3).bind fun y4 => (G15 y2.1 ([(97 : UInt8), (98 : UInt8)])).bind fun y5 => (G21 y5.1 y1.1).bind fun y6 => (G12 y6.2.1).bind fun y7 => (G21 y5.1 y6.2.1).bind fun y8 => (bif (y1.2 == 0) then (some (y2.2 == 0)) else (some false)).bind fun y10 => (bif y10 then (some (((y2.1.Records.length : Int)) == 0)) else (some false)).bind fun y14 => (bif y14 then ((G19 y2.1).bind fun y20 => some (y20 == 112)) else (some false)).bind fun y21 => (bif y21 then (some (y4.2 == 2)) else (some false)).bind fun y26 => (bif y26 then (some (y5.2 == 0)) else (some false)).bind fun y30 => (bif y30 then (some (y6.2.2 == 0)) else (some false)).bind fun y34 => (bif y34 then (some (y6.1.Synced == 1)) else (some false)).bind fun y38 => (bif y38 then (some (y7.2 == 0)) else (some false)).bind fun y43 => (bif y43 then (some (((y7.1.Records.length : Int)) == 1)) else (some false)).bind fun y47 => (bif y47 then ((getI y7.1.Records 0).bind fun y53 => some (strEq (bstr y53) ((ByteArray.mk #[97, 98])))) else (some false)).bind fun y54 => (bif y54 then (some (y8.2.2 == 50)) else (some false)).bind fun y62 => (bif y62 then ((G17 ((S_Journal.mk ([]) 0 0))).bind fun y66 => some (y66 == 1)) else (some false)).bind fun y67 => some y67
theorem T10 (C : Nat -> List A -> Option A) (n : Nat) (h12 : Orc12 C) (h15 : Orc15 C) (h17 : Orc17 C) (h19 : Orc19 C) (h21 : Orc21 C) (h25 : Orc25 C) : J (fun (o : R) y => ∃ v, o.1 = .ret v /\ snapE o.2 v = (bA y)) (evCall1 (cx C) (ec C n 8) (ey C n 8) (n+8) 10 [] [] 0) some (F10 n ) some := by
 refine .lp (e10 ..) ?_
 unfold F10
 refine .bd (g := fun (y : (S_Disk × Int)) => (A.tup [(A.agg [(A.imm (List.map (cL c8) y.1.Sectors) false), (A.imm (List.map c_S_Write y.1.Pending) false), (iA y.1.Left), (bA y.1.Stopped)]), (iA y.2)])) (h25 1) fun y1 => ?_
 refine .s (A.agg (c_S_Disk y1.1)) (.s (iA y1.2) (.s ((A.ptr 0 0), [bz4]) (.s [Blk.box (c_S_Disk y1.1)] (.s (A.agg (c_S_Disk y1.1)) ?_))))
 refine .bd (g := fun (y : (S_Journal × Int)) => (A.tup [(A.agg [(A.imm (List.map (cL c8) y.1.Records) false), (iA y.1.Many), (iA y.1.Synced)]), (iA y.2)])) (by show C 12 [snap _ (A.agg (c_S_Disk y1.1))] = _; simp only [sn0, snM]; exact h12 y1.1) fun y2 => ?_
 refine .s (A.agg (c_S_Journal y2.1)) (.s (iA y2.2) (.s ((A.ptr 1 0), [Blk.box (c_S_Disk y1.1), bz3]) (.s [Blk.box (c_S_Disk y1.1), Blk.box (c_S_Journal y2.1)] (.s ((A.ptr 2 0), [Blk.box (c_S_Disk y1.1), Blk.box (c_S_Journal y2.1), bz3]) (.s (A.agg (c_S_Journal y2.1)) ?_)))))
 refine .cT (by kernel_rfl) ?_
 refine .bd (g := fun (y : List UInt8) => ((A.imm (List.map c8 y) false), [Blk.box (c_S_Disk y1.1), Blk.box (c_S_Journal y2.1), bz3])) (wrow_makeI (e := 5) (es := 1) (f := c8) (z := (0 : UInt8)) (z' := [(uA 0)]) (by kernel_rfl) (by kernel_rfl) (by kernel_rfl) (by kernel_rfl) rfl (by decide) (fun _ => rfl)) fun y3 => ?_
 refine .bd (g := fun (y : (S_Journal × Int)) => (A.tup [(A.agg [(A.imm (List.map (cL c8) y.1.Records) false), (iA y.1.Many), (iA y.1.Synced)]), (iA y.2)])) (by show C 15 [snap _ (A.agg (c_S_Journal y2.1)), snap _ (A.imm (List.map c8 y3) false)] = _; simp only [sn0, snM]; exact h15 y2.1 y3) fun y4 => ?_
 refine .s (A.agg (c_S_Journal y4.1)) (.s (iA y4.2) (.s [Blk.box (c_S_Disk y1.1), Blk.box (c_S_Journal y2.1), Blk.box (c_S_Journal y4.1)] (.s (A.agg (c_S_Journal y2.1)) (.s ((A.sl 3 0 2 true), [Blk.box (c_S_Disk y1.1), Blk.box (c_S_Journal y2.1), Blk.box (c_S_Journal y4.1), Blk.row true 1 [[(uA 97)], [(uA 98)]]]) (.s ((A.imm [[(uA 97)], [(uA 98)]] false), [Blk.box (c_S_Disk y1.1), Blk.box (c_S_Journal y2.1), Blk.box (c_S_Journal y4.1), Blk.dead]) ?_)))))
 refine .bd (g := fun (y : (S_Journal × Int)) => (A.tup [(A.agg [(A.imm (List.map (cL c8) y.1.Records) false), (iA y.1.Many), (iA y.1.Synced)]), (iA y.2)])) (by show C 15 [snap _ (A.agg (c_S_Journal y2.1)), snap _ (A.imm [[(uA 97)], [(uA 98)]] false)] = _; simp only [sn0, snM]; exact h15 y2.1 ([(97 : UInt8), (98 : UInt8)])) fun y5 => ?_
 refine .s (A.agg (c_S_Journal y5.1)) (.s (iA y5.2) (.s ((A.ptr 4 0), [Blk.box (c_S_Disk y1.1), Blk.box (c_S_Journal y2.1), Blk.box (c_S_Journal y4.1), Blk.dead, bz3]) (.s [Blk.box (c_S_Disk y1.1), Blk.box (c_S_Journal y2.1), Blk.box (c_S_Journal y4.1), Blk.dead, Blk.box (c_S_Journal y5.1)] (.s (A.agg (c_S_Journal y5.1)) (.s (A.agg (c_S_Disk y1.1)) ?_)))))
 refine .bd (g := fun (y : (S_Journal × S_Disk × Int)) => (A.tup [(A.agg [(A.imm (List.map (cL c8) y.1.Records) false), (iA y.1.Many), (iA y.1.Synced)]), (A.agg [(A.imm (List.map (cL c8) y.2.1.Sectors) false), (A.imm (List.map c_S_Write y.2.1.Pending) false), (iA y.2.1.Left), (bA y.2.1.Stopped)]), (iA y.2.2)])) (by show C 21 [snap _ (A.agg (c_S_Journal y5.1)), snap _ (A.agg (c_S_Disk y1.1))] = _; simp only [sn0, snM]; exact h21 y5.1 y1.1) fun y6 => ?_
 refine .s (A.agg (c_S_Journal y6.1)) (.s (A.agg (c_S_Disk y6.2.1)) (.s (iA y6.2.2) (.s ((A.ptr 5 0), [Blk.box (c_S_Disk y1.1), Blk.box (c_S_Journal y2.1), Blk.box (c_S_Journal y4.1), Blk.dead, Blk.box (c_S_Journal y5.1), bz3]) (.s ((A.ptr 6 0), [Blk.box (c_S_Disk y1.1), Blk.box (c_S_Journal y2.1), Blk.box (c_S_Journal y4.1), Blk.dead, Blk.box (c_S_Journal y5.1), bz3, bz4]) (.s [Blk.box (c_S_Disk y1.1), Blk.box (c_S_Journal y2.1), Blk.box (c_S_Journal y4.1), Blk.dead, Blk.box (c_S_Journal y5.1), Blk.box (c_S_Journal y6.1), bz4] (.s [Blk.box (c_S_Disk y1.1), Blk.box (c_S_Journal y2.1), Blk.box (c_S_Journal y4.1), Blk.dead, Blk.box (c_S_Journal y5.1), Blk.box (c_S_Journal y6.1), Blk.box (c_S_Disk y6.2.1)] (.s (A.agg (c_S_Disk y6.2.1)) ?_)))))))
 refine .bd (g := fun (y : (S_Journal × Int)) => (A.tup [(A.agg [(A.imm (List.map (cL c8) y.1.Records) false), (iA y.1.Many), (iA y.1.Synced)]), (iA y.2)])) (by show C 12 [snap _ (A.agg (c_S_Disk y6.2.1))] = _; simp only [sn0, snM]; exact h12 y6.2.1) fun y7 => ?_
 refine .s (A.agg (c_S_Journal y7.1)) (.s (iA y7.2) (.s ((A.ptr 7 0), [Blk.box (c_S_Disk y1.1), Blk.box (c_S_Journal y2.1), Blk.box (c_S_Journal y4.1), Blk.dead, Blk.box (c_S_Journal y5.1), Blk.box (c_S_Journal y6.1), Blk.box (c_S_Disk y6.2.1), bz3]) (.s [Blk.box (c_S_Disk y1.1), Blk.box (c_S_Journal y2.1), Blk.box (c_S_Journal y4.1), Blk.dead, Blk.box (c_S_Journal y5.1), Blk.box (c_S_Journal y6.1), Blk.box (c_S_Disk y6.2.1), Blk.box (c_S_Journal y7.1)] (.s (A.agg (c_S_Journal y5.1)) (.s (A.agg (c_S_Disk y6.2.1)) ?_)))))
 refine .bd (g := fun (y : (S_Journal × S_Disk × Int)) => (A.tup [(A.agg [(A.imm (List.map (cL c8) y.1.Records) false), (iA y.1.Many), (iA y.1.Synced)]), (A.agg [(A.imm (List.map (cL c8) y.2.1.Sectors) false), (A.imm (List.map c_S_Write y.2.1.Pending) false), (iA y.2.1.Left), (bA y.2.1.Stopped)]), (iA y.2.2)])) (by show C 21 [snap _ (A.agg (c_S_Journal y5.1)), snap _ (A.agg (c_S_Disk y6.2.1))] = _; simp only [sn0, snM]; exact h21 y5.1 y6.2.1) fun y8 => ?_
 refine .s (A.agg (c_S_Journal y8.1)) (.s (A.agg (c_S_Disk y8.2.1)) (.s (iA y8.2.2) (.s ((A.ptr 8 0), [Blk.box (c_S_Disk y1.1), Blk.box (c_S_Journal y2.1), Blk.box (c_S_Journal y4.1), Blk.dead, Blk.box (c_S_Journal y5.1), Blk.box (c_S_Journal y6.1), Blk.box (c_S_Disk y6.2.1), Blk.box (c_S_Journal y7.1), bz3]) (.s ((A.ptr 9 0), [Blk.box (c_S_Disk y1.1), Blk.box (c_S_Journal y2.1), Blk.box (c_S_Journal y4.1), Blk.dead, Blk.box (c_S_Journal y5.1), Blk.box (c_S_Journal y6.1), Blk.box (c_S_Disk y6.2.1), Blk.box (c_S_Journal y7.1), bz3, bz4]) (.s [Blk.box (c_S_Disk y1.1), Blk.box (c_S_Journal y2.1), Blk.box (c_S_Journal y4.1), Blk.dead, Blk.box (c_S_Journal y5.1), Blk.box (c_S_Journal y6.1), Blk.box (c_S_Disk y6.2.1), Blk.box (c_S_Journal y7.1), Blk.box (c_S_Journal y8.1), bz4] (.s [Blk.box (c_S_Disk y1.1), Blk.box (c_S_Journal y2.1), Blk.box (c_S_Journal y4.1), Blk.dead, Blk.box (c_S_Journal y5.1), Blk.box (c_S_Journal y6.1), Blk.box (c_S_Disk y6.2.1), Blk.box (c_S_Journal y7.1), Blk.box (c_S_Journal y8.1), Blk.box (c_S_Disk y8.2.1)] ?_))))))
 refine .st (v := (bA (y1.2 == 0))) (aBin_eql ..) ?_
 refine .bg (fun t (y : Bool) => ∃ j11 j12 : A, t = [(bA y), j11, j12]) ?_ ?_
 ·refine .biH (fun hk9 => ?_) (fun hk9 => ?_)
  ·refine .st (v := (bA (y2.2 == 0))) (aBin_eql ..) ?_
   exact .lg ⟨_, _, rfl⟩
  exact .lg ⟨_, _, rfl⟩
 rintro _ y10 ⟨j11, j12, rfl⟩
 iterate 3 refine .uc ?_
 refine .bg (fun t (y : Bool) => ∃ j15 j16 j17 j18 : A, t = [(bA y), j15, j16, j17, j18]) ?_ ?_
 ·refine .biH (fun hk13 => ?_) (fun hk13 => ?_)
  ·refine .s (A.ptr 1 0) (.s (A.imm (List.map (cL c8) y2.1.Records) false) ?_)
   refine .st (v := (iA ((y2.1.Records.length : Int)))) (len_imm (e := 35) (h1 := by kernel_rfl) ..) ?_
   refine .st (v := (bA (((y2.1.Records.length : Int)) == 0))) (aBin_eql ..) ?_
   exact .lg ⟨_, _, _, _, rfl⟩
  exact .lg ⟨_, _, _, _, rfl⟩
 rintro _ y14 ⟨j15, j16, j17, j18, rfl⟩
 iterate 5 refine .uc ?_
 refine .bg (fun t (y : Bool) => ∃ j22 j23 j24 : A, t = [(bA y), j22, j23, j24]) ?_ ?_
 ·refine .biH (fun hk19 => ?_) (fun hk19 => ?_)
  ·refine .s (A.agg (c_S_Journal y2.1)) ?_
   refine .bd (g := fun (y : Int) => (iA y)) (by show C 19 [snap _ (A.agg (c_S_Journal y2.1))] = _; simp only [sn0, snM]; exact h19 y2.1) fun y20 => ?_
   refine .st (v := (bA (y20 == 112))) (aBin_eql ..) ?_
   exact .lg ⟨_, _, _, rfl⟩
  exact .lg ⟨_, _, _, rfl⟩
 rintro _ y21 ⟨j22, j23, j24, rfl⟩
 iterate 4 refine .uc ?_
 refine .bg (fun t (y : Bool) => ∃ j27 j28 : A, t = [(bA y), j27, j28]) ?_ ?_
 ·refine .biH (fun hk25 => ?_) (fun hk25 => ?_)
  ·refine .st (v := (bA (y4.2 == 2))) (aBin_eql ..) ?_
   exact .lg ⟨_, _, rfl⟩
  exact .lg ⟨_, _, rfl⟩
 rintro _ y26 ⟨j27, j28, rfl⟩
 iterate 3 refine .uc ?_
 refine .bg (fun t (y : Bool) => ∃ j31 j32 : A, t = [(bA y), j31, j32]) ?_ ?_
 ·refine .biH (fun hk29 => ?_) (fun hk29 => ?_)
  ·refine .st (v := (bA (y5.2 == 0))) (aBin_eql ..) ?_
   exact .lg ⟨_, _, rfl⟩
  exact .lg ⟨_, _, rfl⟩
 rintro _ y30 ⟨j31, j32, rfl⟩
 iterate 3 refine .uc ?_
 refine .bg (fun t (y : Bool) => ∃ j35 j36 : A, t = [(bA y), j35, j36]) ?_ ?_
 ·refine .biH (fun hk33 => ?_) (fun hk33 => ?_)
  ·refine .st (v := (bA (y6.2.2 == 0))) (aBin_eql ..) ?_
   exact .lg ⟨_, _, rfl⟩
  exact .lg ⟨_, _, rfl⟩
 rintro _ y34 ⟨j35, j36, rfl⟩
 iterate 3 refine .uc ?_
 refine .bg (fun t (y : Bool) => ∃ j39 j40 j41 : A, t = [(bA y), j39, j40, j41]) ?_ ?_
 ·refine .biH (fun hk37 => ?_) (fun hk37 => ?_)
  ·refine .s (A.ptr 5 2) (.s (iA y6.1.Synced) ?_)
   refine .st (v := (bA (y6.1.Synced == 1))) (aBin_eql ..) ?_
   exact .lg ⟨_, _, _, rfl⟩
  exact .lg ⟨_, _, _, rfl⟩
 rintro _ y38 ⟨j39, j40, j41, rfl⟩
 iterate 4 refine .uc ?_
 refine .bg (fun t (y : Bool) => ∃ j44 j45 : A, t = [(bA y), j44, j45]) ?_ ?_
 ·refine .biH (fun hk42 => ?_) (fun hk42 => ?_)
  ·refine .st (v := (bA (y7.2 == 0))) (aBin_eql ..) ?_
   exact .lg ⟨_, _, rfl⟩
  exact .lg ⟨_, _, rfl⟩
 rintro _ y43 ⟨j44, j45, rfl⟩
 iterate 3 refine .uc ?_
 refine .bg (fun t (y : Bool) => ∃ j48 j49 j50 j51 : A, t = [(bA y), j48, j49, j50, j51]) ?_ ?_
 ·refine .biH (fun hk46 => ?_) (fun hk46 => ?_)
  ·refine .s (A.ptr 7 0) (.s (A.imm (List.map (cL c8) y7.1.Records) false) ?_)
   refine .st (v := (iA ((y7.1.Records.length : Int)))) (len_imm (e := 35) (h1 := by kernel_rfl) ..) ?_
   refine .st (v := (bA (((y7.1.Records.length : Int)) == 1))) (aBin_eql ..) ?_
   exact .lg ⟨_, _, _, _, rfl⟩
  exact .lg ⟨_, _, _, _, rfl⟩
 rintro _ y47 ⟨j48, j49, j50, j51, rfl⟩
 iterate 5 refine .uc ?_
 refine .bg (fun t (y : Bool) => ∃ j55 j56 j57 j58 j59 j60 : A, t = [(bA y), j55, j56, j57, j58, j59, j60]) ?_ ?_
 ·refine .biH (fun hk52 => ?_) (fun hk52 => ?_)
  ·refine .s (A.ptr 7 0) (.s (A.imm (List.map (cL c8) y7.1.Records) false) ?_)
   refine .bd (g := fun (y : (List UInt8)) => A.ip ((cL c8) y)) (idx_imm (e := 35) (es := 1) (h1 := by kernel_rfl) (h2 := by kernel_rfl) (h3 := fun _ => rfl) ..) fun y53 => ?_
   refine .s (A.imm (List.map c8 y53) false) ?_
   refine .st (v := (A.v (Value.string (bstr y53)))) (conv_bs (e := 5) (l := y53) (by kernel_rfl) (by kernel_rfl) (by kernel_rfl) (by kernel_rfl) (els_imm ..) rfl) ?_
   refine .st (v := (bA (strEq (bstr y53) ((ByteArray.mk #[97, 98]))))) (aBin_eql_s ..) ?_
   exact .lg ⟨_, _, _, _, _, _, rfl⟩
  exact .lg ⟨_, _, _, _, _, _, rfl⟩
 rintro _ y54 ⟨j55, j56, j57, j58, j59, j60, rfl⟩
 iterate 7 refine .uc ?_
 refine .bg (fun t (y : Bool) => ∃ j63 j64 : A, t = [(bA y), j63, j64]) ?_ ?_
 ·refine .biH (fun hk61 => ?_) (fun hk61 => ?_)
  ·refine .st (v := (bA (y8.2.2 == 50))) (aBin_eql ..) ?_
   exact .lg ⟨_, _, rfl⟩
  exact .lg ⟨_, _, rfl⟩
 rintro _ y62 ⟨j63, j64, rfl⟩
 iterate 3 refine .uc ?_
 refine .bg (fun t (y : Bool) => ∃ j68 j69 j70 : A, t = [(bA y), j68, j69, j70]) ?_ ?_
 ·refine .biH (fun hk65 => ?_) (fun hk65 => ?_)
  ·refine .s (A.agg [(A.imm [] true), (iA 0), (iA 0)]) ?_
   refine .bd (g := fun (y : Int) => (iA y)) (by show C 17 [snap _ (A.agg [(A.imm [] true), (iA 0), (iA 0)])] = _; simp only [sn0, snM]; exact h17 ((S_Journal.mk ([]) 0 0))) fun y66 => ?_
   refine .st (v := (bA (y66 == 1))) (aBin_eql ..) ?_
   exact .lg ⟨_, _, _, rfl⟩
  exact .lg ⟨_, _, _, rfl⟩
 rintro _ y67 ⟨j68, j69, j70, rfl⟩
 iterate 4 refine .uc ?_
 exact .lf rfl rfl ⟨_, rfl, rfl⟩
def G10  : Option Bool := F10 fuel0
def Orc10 (C : Nat -> List A -> Option A) : Prop := ∀ (_ : Unit), C 10 [] = (G10 ).map fun y => (bA y)
def F11_11_0 (n : Nat) (v1 : Bool) (v3 : (List (List UInt8))) (v4 : Int) (v6 : S_Disk) : Nat -> Int -> Int -> Option (Int)
 | 0, _, _ => none
 | m + 1, v2, v5 => bif (decide (v5 < v4)) then ((getI v3 v5).bind fun y8 => F11_11_0 n v1 v3 v4 v6 m (wr .i64 (v2 + (wr .i64 (1 + ((y8.length : Int)))))) (wr .i64 (v5 + 1))) else (some v2)
theorem T11_11_0 (C : Nat -> List A -> Option A) (n : Nat) (v1 : Bool) (v3 : (List (List UInt8))) (v4 : Int) (v6 : S_Disk) {ρ γ : Type} {φ : ρ -> γ -> Prop} {kL : R -> Option ρ} {K : (Int) -> Option γ} (kx kg : Nat -> St -> Option R) (kr : St -> Option R) (kp : A -> St -> Option R) (x0 : ∀ (o0 : Int) (s4 : A) (s8 : A) (s9 : A) (s10 : A), J φ (kx 0 (St.mk [(2, (A.ptr 0 0)), (4, s4), (5, (iA o0)), (8, s8), (9, s9), (10, s10)] [Blk.box (c_S_Disk v6)])) kL (K o0) some) :
  ∀ (m : Nat) (v2 : Int) (v5 : Int), J φ (loopR (cx C) (ec C n 8) (ey C n 8) (n+8) 11 0 0 1 kx kg kr kp m (St.mk [(2, (A.ptr 0 0)), (4, (bA v1)), (5, (iA v2)), (8, (A.imm (List.map (cL c8) v3) false)), (9, (iA v4)), (10, (iA v5))] [Blk.box (c_S_Disk v6)])) kL (F11_11_0 n v1 v3 v4 v6 m v2 v5) K := by
 intro m
 induction m with
 | zero => intros; exact .nn
 | succ m ih =>
  intro v2 v5
  refine .lp (e11_0 ..) ?_
  unfold F11_11_0
  refine .st (v := (bA (decide (v5 < v4)))) (aBin_lss ..) ?_
  refine .biHN (fun hk7 => ?_) (fun hk7 => ?_)
  ·refine .bd (g := fun (y : (List UInt8)) => A.ip ((cL c8) y)) (idx_imm (e := 35) (es := 1) (h1 := by kernel_rfl) (h2 := by kernel_rfl) (h3 := fun _ => rfl) ..) fun y8 => ?_
   refine .s (A.imm (List.map c8 y8) false) ?_
   refine .st (v := (iA ((y8.length : Int)))) (len_imm (e := 5) (h1 := by kernel_rfl) ..) ?_
   refine .st (v := (iA (wr .i64 (1 + ((y8.length : Int)))))) (aBin_add ..) ?_
   refine .st (v := (iA (wr .i64 (v2 + (wr .i64 (1 + ((y8.length : Int)))))))) (aBin_add ..) ?_
   refine .st (v := (iA (wr .i64 (v5 + 1)))) (aBin_add ..) ?_
   refine .s [Blk.box (c_S_Disk v6)] ?_
   refine .cT (by kernel_rfl) ?_
   exact ih _ _
  exact .ex (x0 _ _ _ _ _)
def F11 (n : Nat) (a0 : S_Disk) (a1 : (List (List UInt8))) : Option Bool :=
 (F11_11_0 n false a1 ((a1.length : Int)) a0 (n+8) 0 0).bind fun o9 => match o9 with | y10 => (bif (decide (((a0.Sectors.length : Int)) <= 40)) then (some (decide (((a0.Pending.length : Int)) <= 40))) else (some false)).bind fun y16 => (bif y16 then (some (decide (y10 <= 4000))) else (some false)).bind fun y22 => some y22
theorem T11 (C : Nat -> List A -> Option A) (n : Nat) (a0 : S_Disk) (a1 : (List (List UInt8))) : J (fun (o : R) y => ∃ v, o.1 = .ret v /\ snapE o.2 v = (bA y)) (evCall1 (cx C) (ec C n 8) (ey C n 8) (n+8) 11 [(A.agg (c_S_Disk a0)), (A.imm (List.map (cL c8) a1) false)] [] 0) some (F11 n a0 a1) some := by
 refine .lp (e11 ..) ?_
 unfold F11
 refine .s ((A.ptr 0 0), [Blk.box (c_S_Disk a0)]) ?_
 refine .st (v := (iA ((a1.length : Int)))) (len_imm (e := 35) (h1 := by kernel_rfl) ..) ?_
 refine .as (T11_11_0 C n  false a1 ((a1.length : Int)) a0 _ _ _ _ ?_ _ 0 0)
 ·intro y10 j11 j12 j13 j14
  refine .un rfl ?_
  refine .cT (by kernel_rfl) ?_
  refine .s (A.ptr 0 0) (.s (A.imm (List.map (cL c8) a0.Sectors) false) ?_)
  refine .st (v := (iA ((a0.Sectors.length : Int)))) (len_imm (e := 35) (h1 := by kernel_rfl) ..) ?_
  refine .st (v := (bA (decide (((a0.Sectors.length : Int)) <= 40)))) (aBin_leq ..) ?_
  refine .bg (fun t (y : Bool) => ∃ j17 j18 j19 j20 : A, t = [(bA y), j17, j18, j19, j20]) ?_ ?_
  ·refine .biH (fun hk15 => ?_) (fun hk15 => ?_)
   ·refine .s (A.ptr 0 1) (.s (A.imm (List.map c_S_Write a0.Pending) false) ?_)
    refine .st (v := (iA ((a0.Pending.length : Int)))) (len_imm (e := 76) (h1 := by kernel_rfl) ..) ?_
    refine .st (v := (bA (decide (((a0.Pending.length : Int)) <= 40)))) (aBin_leq ..) ?_
    exact .lg ⟨_, _, _, _, rfl⟩
   exact .lg ⟨_, _, _, _, rfl⟩
  rintro _ y16 ⟨j17, j18, j19, j20, rfl⟩
  iterate 5 refine .uc ?_
  refine .bg (fun t (y : Bool) => ∃ j23 j24 : A, t = [(bA y), j23, j24]) ?_ ?_
  ·refine .biH (fun hk21 => ?_) (fun hk21 => ?_)
   ·refine .st (v := (bA (decide (y10 <= 4000)))) (aBin_leq ..) ?_
    exact .lg ⟨_, _, rfl⟩
   exact .lg ⟨_, _, rfl⟩
  rintro _ y22 ⟨j23, j24, rfl⟩
  iterate 3 refine .uc ?_
  exact .lf rfl rfl ⟨_, rfl, rfl⟩
def G11 (a0 : S_Disk) (a1 : (List (List UInt8))) : Option Bool := F11 fuel0 a0 a1
def Orc11 (C : Nat -> List A -> Option A) : Prop := ∀ (a0 : S_Disk) (a1 : (List (List UInt8))), C 11 [(A.agg (c_S_Disk a0)), (A.imm (List.map (cL c8) a1) false)] = (G11 a0 a1).map fun y => (bA y)
def F24_24_0 (n : Nat) (v2 : (List (List UInt8))) (v3 : (List (List UInt8))) (v4 : Bool) : Nat -> Int -> Option ((Bool) ⊕ (Unit))
 | 0, _ => none
 | m + 1, v5 => bif (decide (v5 < ((v2.length : Int)))) then ((getI v2 v5).bind fun y7 => (getI v3 v5).bind fun y8 => bif (!strEq (bstr y7) (bstr y8)) then (some ((Sum.inl false))) else (F24_24_0 n v2 v3 v4 m (wr .i64 (v5 + 1)))) else (some ((Sum.inr (()))))
theorem T24_24_0 (C : Nat -> List A -> Option A) (n : Nat) (v2 : (List (List UInt8))) (v3 : (List (List UInt8))) (v4 : Bool) {ρ γ : Type} {φ : ρ -> γ -> Prop} {kL : R -> Option ρ} {K : ((Bool) ⊕ (Unit)) -> Option γ} (kx kg : Nat -> St -> Option R) (kr : St -> Option R) (kp : A -> St -> Option R) (x0 : ∀ (o0 : Bool) (s0 : A) (s1 : A) (s5 : A), J φ (kr (St.mk [(0, s0), (1, s1), (4, (bA o0)), (5, s5)] [])) kL (K (Sum.inl o0)) some) (x1 : ∀ (s0 : A) (s1 : A) (s4 : A) (s5 : A), J φ (kx 0 (St.mk [(0, s0), (1, s1), (4, s4), (5, s5)] [])) kL (K (Sum.inr (()))) some) :
  ∀ (m : Nat) (v5 : Int), J φ (loopR (cx C) (ec C n 8) (ey C n 8) (n+8) 24 0 0 0 kx kg kr kp m (St.mk [(0, (A.imm (List.map (cL c8) v2) false)), (1, (A.imm (List.map (cL c8) v3) false)), (4, (bA v4)), (5, (iA v5))] [])) kL (F24_24_0 n v2 v3 v4 m v5) K := by
 intro m
 induction m with
 | zero => intros; exact .nn
 | succ m ih =>
  intro v5
  refine .lp (e24_0 ..) ?_
  unfold F24_24_0
  refine .st (v := (iA ((v2.length : Int)))) (len_imm (e := 35) (h1 := by kernel_rfl) ..) ?_
  refine .st (v := (bA (decide (v5 < ((v2.length : Int)))))) (aBin_lss ..) ?_
  refine .biHN (fun hk6 => ?_) (fun hk6 => ?_)
  ·refine .bd (g := fun (y : (List UInt8)) => A.ip ((cL c8) y)) (idx_imm (e := 35) (es := 1) (h1 := by kernel_rfl) (h2 := by kernel_rfl) (h3 := fun _ => rfl) ..) fun y7 => ?_
   refine .s (A.imm (List.map c8 y7) false) ?_
   refine .st (v := (A.v (Value.string (bstr y7)))) (conv_bs (e := 5) (l := y7) (by kernel_rfl) (by kernel_rfl) (by kernel_rfl) (by kernel_rfl) (els_imm ..) rfl) ?_
   refine .bd (g := fun (y : (List UInt8)) => A.ip ((cL c8) y)) (idx_imm (e := 35) (es := 1) (h1 := by kernel_rfl) (h2 := by kernel_rfl) (h3 := fun _ => rfl) ..) fun y8 => ?_
   refine .s (A.imm (List.map c8 y8) false) ?_
   refine .st (v := (A.v (Value.string (bstr y8)))) (conv_bs (e := 5) (l := y8) (by kernel_rfl) (by kernel_rfl) (by kernel_rfl) (by kernel_rfl) (els_imm ..) rfl) ?_
   refine .st (v := (bA (!strEq (bstr y7) (bstr y8)))) (aBin_neq_s ..) ?_
   refine .biHN (fun hk9 => ?_) (fun hk9 => ?_)
   ·exact .ex (x0 _ _ _ _)
   refine .st (v := (iA (wr .i64 (v5 + 1)))) (aBin_add ..) ?_
   refine .s [] ?_
   refine .cT (by kernel_rfl) ?_
   exact ih _
  exact .ex (x1 _ _ _ _)
def F24 (n : Nat) (a0 : (List (List UInt8))) (a1 : (List (List UInt8))) : Option Bool :=
 bif (((a0.length : Int)) != ((a1.length : Int))) then (some false) else ((F24_24_0 n a0 a1 false (n+8) 0).bind fun o10 => match o10 with | (Sum.inl y11) => some y11 | (Sum.inr _) => some true)
theorem T24 (C : Nat -> List A -> Option A) (n : Nat) (a0 : (List (List UInt8))) (a1 : (List (List UInt8))) : J (fun (o : R) y => ∃ v, o.1 = .ret v /\ snapE o.2 v = (bA y)) (evCall1 (cx C) (ec C n 8) (ey C n 8) (n+8) 24 [(A.imm (List.map (cL c8) a0) false), (A.imm (List.map (cL c8) a1) false)] [] 0) some (F24 n a0 a1) some := by
 refine .lp (e24 ..) ?_
 unfold F24
 refine .st (v := (iA ((a0.length : Int)))) (len_imm (e := 35) (h1 := by kernel_rfl) ..) ?_
 refine .st (v := (iA ((a1.length : Int)))) (len_imm (e := 35) (h1 := by kernel_rfl) ..) ?_
 refine .st (v := (bA (((a0.length : Int)) != ((a1.length : Int))))) (aBin_neq ..) ?_
 refine .biHN (fun hk1 => ?_) (fun hk1 => ?_)
 ·exact .lf rfl rfl ⟨_, rfl, rfl⟩
 refine .as (T24_24_0 C n  a0 a1 false _ _ _ _ ?_ ?_ _ 0)
 ·intro y11 j12 j13 j14
  refine .un rfl ?_
  exact .lf rfl rfl ⟨_, rfl, rfl⟩
 ·intro j15 j16 j17 j18
  refine .un rfl ?_
  refine .cT (by kernel_rfl) ?_
  exact .lf rfl rfl ⟨_, rfl, rfl⟩
def G24 (a0 : (List (List UInt8))) (a1 : (List (List UInt8))) : Option Bool := F24 fuel0 a0 a1
def Orc24 (C : Nat -> List A -> Option A) : Prop := ∀ (a0 : (List (List UInt8))) (a1 : (List (List UInt8))), C 24 [(A.imm (List.map (cL c8) a0) false), (A.imm (List.map (cL c8) a1) false)] = (G24 a0 a1).map fun y => (bA y)
def F7_7_0 (n : Nat) (v23 : Int) (v24 : Int) (v25 : Int) (v26 : Bool) (v27 : (List (List UInt8))) (v28 : Int) (v30 : S_Disk) : Nat -> Int -> S_Journal -> (List Int) -> Option (((List (List UInt8)) × Int × Int × (List Int) × (List (List UInt8)) × Int × Int) ⊕ ((List (List UInt8)) × Int × Int × (List Int)))
 | 0, _, _, _ => none
 | m + 1, v29, v31, v32 => bif (decide (v29 < v28)) then ((getI v27 v29).bind fun y34 => (G15 v31 y34).bind fun y35 => bif (y35.2 != 0) then (some ((Sum.inl ((v31.Records, v31.Many, v31.Synced, v32, y35.1.Records, y35.1.Many, y35.1.Synced))))) else (bif (decide (0 < ((v32.length : Int)))) then ((getI v32 (wr .i64 (((v32.length : Int)) - 1))).bind fun y38 => (appI 8 v32 ([wr .i64 (((if 1 < wr .i64 (Int.tdiv (wr .i64 (((y34.length : Int)) + 111)) 112) then wr .i64 (Int.tdiv (wr .i64 (((y34.length : Int)) + 111)) 112) else 1)) + y38)])).bind fun y39 => F7_7_0 n v23 v24 v25 v26 v27 v28 v30 m (wr .i64 (v29 + 1)) y35.1 y39) else ((appI 8 v32 ([(if 1 < wr .i64 (Int.tdiv (wr .i64 (((y34.length : Int)) + 111)) 112) then wr .i64 (Int.tdiv (wr .i64 (((y34.length : Int)) + 111)) 112) else 1)])).bind fun y40 => F7_7_0 n v23 v24 v25 v26 v27 v28 v30 m (wr .i64 (v29 + 1)) y35.1 y40))) else (some ((Sum.inr ((v31.Records, v31.Many, v31.Synced, v32)))))
theorem T7_7_0 (C : Nat -> List A -> Option A) (n : Nat) (h10 : Orc10 C) (h11 : Orc11 C) (h12 : Orc12 C) (h15 : Orc15 C) (h21 : Orc21 C) (h24 : Orc24 C) (h25 : Orc25 C) (h26 : Orc26 C) (h27 : Orc27 C) (v23 : Int) (v24 : Int) (v25 : Int) (v26 : Bool) (v27 : (List (List UInt8))) (v28 : Int) (v30 : S_Disk) {ρ γ : Type} {φ : ρ -> γ -> Prop} {kL : R -> Option ρ} {K : (((List (List UInt8)) × Int × Int × (List Int) × (List (List UInt8)) × Int × Int) ⊕ ((List (List UInt8)) × Int × Int × (List Int))) -> Option γ} (kx kg : Nat -> St -> Option R) (kr : St -> Option R) (kp : A -> St -> Option R) (x0 : ∀ (o0 : (List (List UInt8))) (o1 : Int) (o2 : Int) (o3 : (List Int)) (o4 : (List (List UInt8))) (o5 : Int) (o6 : Int) (s60 : A) (s61 : A) (s62 : A), J φ (kx 0 (St.mk [(1, (iA v23)), (2, (iA v24)), (3, (uA v25)), (8, (bA v26)), (9, (A.ptr 0 0)), (11, (A.ptr 1 0)), (13, (A.sl 2 0 o3.length false)), (60, s60), (61, s61), (62, s62)] [Blk.box (c_S_Disk v30), Blk.box [(A.imm (List.map (cL c8) o0) false), (iA o1), (iA o2)], Blk.row false 1 (List.map (cI .i64) o3), Blk.box [(A.imm (List.map (cL c8) o4) false), (iA o5), (iA o6)]])) kL (K (Sum.inl ((o0, o1, o2, o3, o4, o5, o6)))) some) (x1 : ∀ (o0 : (List (List UInt8))) (o1 : Int) (o2 : Int) (o3 : (List Int)) (s60 : A) (s61 : A) (s62 : A), J φ (kx 0 (St.mk [(1, (iA v23)), (2, (iA v24)), (3, (uA v25)), (8, (bA v26)), (9, (A.ptr 0 0)), (11, (A.ptr 1 0)), (13, (A.sl 2 0 o3.length false)), (60, s60), (61, s61), (62, s62)] [Blk.box (c_S_Disk v30), Blk.box [(A.imm (List.map (cL c8) o0) false), (iA o1), (iA o2)], Blk.row false 1 (List.map (cI .i64) o3)])) kL (K (Sum.inr ((o0, o1, o2, o3)))) some) :
  ∀ (m : Nat) (v29 : Int) (v31 : S_Journal) (v32 : (List Int)), J φ (loopR (cx C) (ec C n 8) (ey C n 8) (n+8) 7 0 0 3 kx kg kr kp m (St.mk [(1, (iA v23)), (2, (iA v24)), (3, (uA v25)), (8, (bA v26)), (9, (A.ptr 0 0)), (11, (A.ptr 1 0)), (13, (A.sl 2 0 v32.length false)), (60, (A.imm (List.map (cL c8) v27) false)), (61, (iA v28)), (62, (iA v29))] [Blk.box (c_S_Disk v30), Blk.box (c_S_Journal v31), Blk.row false 1 (List.map (cI .i64) v32)])) kL (F7_7_0 n v23 v24 v25 v26 v27 v28 v30 m v29 v31 v32) K := by
 intro m
 induction m with
 | zero => intros; exact .nn
 | succ m ih =>
  intro v29 v31 v32
  refine .lp (e7_0 ..) ?_
  unfold F7_7_0
  refine .st (v := (bA (decide (v29 < v28)))) (aBin_lss ..) ?_
  refine .biHN (fun hk33 => ?_) (fun hk33 => ?_)
  ·refine .bd (g := fun (y : (List UInt8)) => A.ip ((cL c8) y)) (idx_imm (e := 35) (es := 1) (h1 := by kernel_rfl) (h2 := by kernel_rfl) (h3 := fun _ => rfl) ..) fun y34 => ?_
   refine .s (A.imm (List.map c8 y34) false) (.s (A.agg (c_S_Journal v31)) ?_)
   refine .bd (g := fun (y : (S_Journal × Int)) => (A.tup [(A.agg [(A.imm (List.map (cL c8) y.1.Records) false), (iA y.1.Many), (iA y.1.Synced)]), (iA y.2)])) (by show C 15 [snap _ (A.agg (c_S_Journal v31)), snap _ (A.imm (List.map c8 y34) false)] = _; simp only [sn0, snM, snapG_row (H := [Blk.box (c_S_Disk v30), Blk.box (c_S_Journal v31), Blk.row false 1 (List.map (cI .i64) v32)]) (b := 2) (es := 1) (l := v32) (fl_cI _) rfl]; exact h15 v31 y34) fun y35 => ?_
   refine .s (A.agg (c_S_Journal y35.1)) (.s (iA y35.2) (.s ((A.ptr 3 0), [Blk.box (c_S_Disk v30), Blk.box (c_S_Journal v31), Blk.row false 1 (List.map (cI .i64) v32), bz3]) (.s [Blk.box (c_S_Disk v30), Blk.box (c_S_Journal v31), Blk.row false 1 (List.map (cI .i64) v32), Blk.box (c_S_Journal y35.1)] ?_)))
   refine .st (v := (bA (y35.2 != 0))) (aBin_neq ..) ?_
   refine .biHN (fun hk36 => ?_) (fun hk36 => ?_)
   ·exact .ex (x0 _ _ _ _ _ _ _ _ _ _)
   refine .s (A.agg (c_S_Journal y35.1)) (.s [Blk.box (c_S_Disk v30), Blk.box (c_S_Journal y35.1), Blk.row false 1 (List.map (cI .i64) v32), Blk.box (c_S_Journal y35.1)] ?_)
   refine .st (v := (iA ((y34.length : Int)))) (len_imm (e := 5) (h1 := by kernel_rfl) ..) ?_
   refine .st (v := (iA (wr .i64 (((y34.length : Int)) + 111)))) (aBin_add ..) ?_
   refine .st (v := (iA (wr .i64 (Int.tdiv (wr .i64 (((y34.length : Int)) + 111)) 112)))) (aBin_quo (hb := by decide) ..) ?_
   refine .s (iA ((if 1 < wr .i64 (Int.tdiv (wr .i64 (((y34.length : Int)) + 111)) 112) then wr .i64 (Int.tdiv (wr .i64 (((y34.length : Int)) + 111)) 112) else 1))) ?_
   refine .st (v := (iA ((v32.length : Int)))) (row_len (e := 3) (by kernel_rfl) rfl rfl) ?_
   refine .st (v := (bA (decide (0 < ((v32.length : Int)))))) (aBin_gtr ..) ?_
   refine .biHN (fun hk37 => ?_) (fun hk37 => ?_)
   ·refine .st (v := (iA ((v32.length : Int)))) (row_len (e := 3) (by kernel_rfl) rfl rfl) ?_
    refine .st (v := (iA (wr .i64 (((v32.length : Int)) - 1)))) (aBin_sub ..) ?_
    refine .bd (g := fun (y : Int) => A.ip ((cI .i64) y)) (row_idx (e := 3) (es := 1) (l := v32) (by kernel_rfl) (by kernel_rfl) rfl) fun y38 => ?_
    refine .s (iA y38) ?_
    refine .st (v := (iA (wr .i64 (((if 1 < wr .i64 (Int.tdiv (wr .i64 (((y34.length : Int)) + 111)) 112) then wr .i64 (Int.tdiv (wr .i64 (((y34.length : Int)) + 111)) 112) else 1)) + y38)))) (aBin_add ..) ?_
    refine .s (A.imm [[(iA (wr .i64 (((if 1 < wr .i64 (Int.tdiv (wr .i64 (((y34.length : Int)) + 111)) 112) then wr .i64 (Int.tdiv (wr .i64 (((y34.length : Int)) + 111)) 112) else 1)) + y38)))]] true) ?_
    refine .bd (g := fun (y : List Int) => ((A.sl 2 0 y.length false), [Blk.box (c_S_Disk v30), Blk.box (c_S_Journal y35.1), Blk.row false 1 (List.map (cI .i64) y), Blk.box (c_S_Journal y35.1)])) (app_row (e := 3) (es := 1) (by_ := 8) (z := [(iA 0)]) (by kernel_rfl) (by kernel_rfl) (by kernel_rfl) (by kernel_rfl) rfl (by decide) (by decide) (by kernel_rfl) (f := (cI .i64)) (fun _ => rfl) (ce_cI _) (l := v32) (l2 := [wr .i64 (((if 1 < wr .i64 (Int.tdiv (wr .i64 (((y34.length : Int)) + 111)) 112) then wr .i64 (Int.tdiv (wr .i64 (((y34.length : Int)) + 111)) 112) else 1)) + y38)]) (b := 2) rfl (by decide) (els_imm (f := (cI .i64)) ([wr .i64 (((if 1 < wr .i64 (Int.tdiv (wr .i64 (((y34.length : Int)) + 111)) 112) then wr .i64 (Int.tdiv (wr .i64 (((y34.length : Int)) + 111)) 112) else 1)) + y38)] : List Int) _ _)) fun y39 => ?_
    refine .st (v := (iA (wr .i64 (v29 + 1)))) (aBin_add ..) ?_
    refine .st (v := [Blk.box (c_S_Disk v30), Blk.box (c_S_Journal y35.1), Blk.row false 1 (List.map (cI .i64) y39)]) ((by kernel_rfl : _ = (bif ((((underss 3 (List.map (cL c8) v30.Sectors)) && ((underss 3 (List.map c_S_Write v30.Pending)) && true))) && ((((underss 3 (List.map (cL c8) y35.1.Records)) && true)) && ((underss 3 (List.map (cI .i64) y39)) && true))) then some [Blk.box (c_S_Disk v30), Blk.box (c_S_Journal y35.1), Blk.row false 1 (List.map (cI .i64) y39)] else none)).trans (by simp only [un0, unS])) ?_
    refine .cT ((by kernel_rfl : _ = (bif underss 3 (List.map (cL c8) v27) then true else false)).trans (by simp only [un0, unS])) ?_
    exact ih _ _ _
   refine .s (A.imm [[(iA ((if 1 < wr .i64 (Int.tdiv (wr .i64 (((y34.length : Int)) + 111)) 112) then wr .i64 (Int.tdiv (wr .i64 (((y34.length : Int)) + 111)) 112) else 1)))]] true) ?_
   refine .bd (g := fun (y : List Int) => ((A.sl 2 0 y.length false), [Blk.box (c_S_Disk v30), Blk.box (c_S_Journal y35.1), Blk.row false 1 (List.map (cI .i64) y), Blk.box (c_S_Journal y35.1)])) (app_row (e := 3) (es := 1) (by_ := 8) (z := [(iA 0)]) (by kernel_rfl) (by kernel_rfl) (by kernel_rfl) (by kernel_rfl) rfl (by decide) (by decide) (by kernel_rfl) (f := (cI .i64)) (fun _ => rfl) (ce_cI _) (l := v32) (l2 := [(if 1 < wr .i64 (Int.tdiv (wr .i64 (((y34.length : Int)) + 111)) 112) then wr .i64 (Int.tdiv (wr .i64 (((y34.length : Int)) + 111)) 112) else 1)]) (b := 2) rfl (by decide) (els_imm (f := (cI .i64)) ([(if 1 < wr .i64 (Int.tdiv (wr .i64 (((y34.length : Int)) + 111)) 112) then wr .i64 (Int.tdiv (wr .i64 (((y34.length : Int)) + 111)) 112) else 1)] : List Int) _ _)) fun y40 => ?_
   refine .st (v := (iA (wr .i64 (v29 + 1)))) (aBin_add ..) ?_
   refine .st (v := [Blk.box (c_S_Disk v30), Blk.box (c_S_Journal y35.1), Blk.row false 1 (List.map (cI .i64) y40)]) ((by kernel_rfl : _ = (bif ((((underss 3 (List.map (cL c8) v30.Sectors)) && ((underss 3 (List.map c_S_Write v30.Pending)) && true))) && ((((underss 3 (List.map (cL c8) y35.1.Records)) && true)) && ((underss 3 (List.map (cI .i64) y40)) && true))) then some [Blk.box (c_S_Disk v30), Blk.box (c_S_Journal y35.1), Blk.row false 1 (List.map (cI .i64) y40)] else none)).trans (by simp only [un0, unS])) ?_
   refine .cT ((by kernel_rfl : _ = (bif underss 3 (List.map (cL c8) v27) then true else false)).trans (by simp only [un0, unS])) ?_
   exact ih _ _ _
  exact .ex (x1 _ _ _ _ _ _ _)
def F7_7_1 (n : Nat) (v88 : Bool) (v89 : (List Int)) (v90 : Int) (v91 : Int) (v92 : Int) (v93 : Int) (v95 : S_Disk) (v96 : (List (List UInt8))) (v97 : Int) (v98 : Int) (v99 : (List Int)) (v100 : (List (List UInt8))) (v101 : Int) (v102 : Int) (v103 : S_Journal) (v104 : S_Disk) (v105 : S_Journal) : Nat -> Int -> Option (Int)
 | 0, _ => none
 | m + 1, v94 => (bif (decide (v94 < ((v89.length : Int)))) then ((getI v89 v94).bind fun y107 => some (decide (y107 <= v91))) else (some false)).bind fun y108 => bif y108 then (F7_7_1 n v88 v89 v90 v91 v92 v93 v95 v96 v97 v98 v99 v100 v101 v102 v103 v104 v105 m (wr .i64 (v94 + 1))) else (some v94)
theorem T7_7_1 (C : Nat -> List A -> Option A) (n : Nat) (h10 : Orc10 C) (h11 : Orc11 C) (h12 : Orc12 C) (h15 : Orc15 C) (h21 : Orc21 C) (h24 : Orc24 C) (h25 : Orc25 C) (h26 : Orc26 C) (h27 : Orc27 C) (v88 : Bool) (v89 : (List Int)) (v90 : Int) (v91 : Int) (v92 : Int) (v93 : Int) (v95 : S_Disk) (v96 : (List (List UInt8))) (v97 : Int) (v98 : Int) (v99 : (List Int)) (v100 : (List (List UInt8))) (v101 : Int) (v102 : Int) (v103 : S_Journal) (v104 : S_Disk) (v105 : S_Journal) {ρ γ : Type} {φ : ρ -> γ -> Prop} {kL : R -> Option ρ} {K : (Int) -> Option γ} (kx kg : Nat -> St -> Option R) (kr : St -> Option R) (kp : A -> St -> Option R) (x0 : ∀ (o0 : Int) (s8 : A) (s13 : A) (s22 : A), J φ (kx 2 (St.mk [(8, s8), (11, (A.ptr 1 0)), (13, s13), (21, (iA v90)), (22, s22), (24, (iA v92)), (25, (A.ptr 7 0)), (26, (iA v93)), (27, (iA o0))] [Blk.box (c_S_Disk v95), Blk.box [(A.imm (List.map (cL c8) v96) false), (iA v97), (iA v98)], Blk.row false 1 (List.map (cI .i64) v99), Blk.box [(A.imm (List.map (cL c8) v100) false), (iA v101), (iA v102)], Blk.box (c_S_Journal v103), Blk.box (c_S_Disk v104), Blk.dead, Blk.box (c_S_Journal v105)])) kL (K o0) some) :
  ∀ (m : Nat) (v94 : Int), J φ (loopR (cx C) (ec C n 8) (ey C n 8) (n+8) 7 0 1 8 kx kg kr kp m (St.mk [(8, (bA v88)), (11, (A.ptr 1 0)), (13, (A.imm (List.map (cI .i64) v89) false)), (21, (iA v90)), (22, (iA v91)), (24, (iA v92)), (25, (A.ptr 7 0)), (26, (iA v93)), (27, (iA v94))] [Blk.box (c_S_Disk v95), Blk.box [(A.imm (List.map (cL c8) v96) false), (iA v97), (iA v98)], Blk.row false 1 (List.map (cI .i64) v99), Blk.box [(A.imm (List.map (cL c8) v100) false), (iA v101), (iA v102)], Blk.box (c_S_Journal v103), Blk.box (c_S_Disk v104), Blk.dead, Blk.box (c_S_Journal v105)])) kL (F7_7_1 n v88 v89 v90 v91 v92 v93 v95 v96 v97 v98 v99 v100 v101 v102 v103 v104 v105 m v94) K := by
 intro m
 induction m with
 | zero => intros; exact .nn
 | succ m ih =>
  intro v94
  refine .lp (e7_1 ..) ?_
  unfold F7_7_1
  refine .st (v := (iA ((v89.length : Int)))) (len_imm (e := 3) (h1 := by kernel_rfl) ..) ?_
  refine .st (v := (bA (decide (v94 < ((v89.length : Int)))))) (aBin_lss ..) ?_
  refine .bg (fun t (y : Bool) => ∃ j109 j110 j111 j112 j113 j114 : A, t = [(bA y), j109, j110, j111, j112, j113, j114]) ?_ ?_
  ·refine .biH (fun hk106 => ?_) (fun hk106 => ?_)
   ·refine .bd (g := fun (y : Int) => A.ip ((cI .i64) y)) (idx_imm (e := 3) (es := 1) (h1 := by kernel_rfl) (h2 := by kernel_rfl) (h3 := fun _ => rfl) ..) fun y107 => ?_
    refine .s (iA y107) ?_
    refine .st (v := (bA (decide (y107 <= v91)))) (aBin_leq ..) ?_
    exact .lg ⟨_, _, _, _, _, _, rfl⟩
   exact .lg ⟨_, _, _, _, _, _, rfl⟩
  rintro _ y108 ⟨j109, j110, j111, j112, j113, j114, rfl⟩
  iterate 7 refine .uc ?_
  refine .biHN (fun hk115 => ?_) (fun hk115 => ?_)
  ·refine .st (v := (iA (wr .i64 (v94 + 1)))) (aBin_add ..) ?_
   refine .s [Blk.box (c_S_Disk v95), Blk.box [(A.imm (List.map (cL c8) v96) false), (iA v97), (iA v98)], Blk.row false 1 (List.map (cI .i64) v99), Blk.box [(A.imm (List.map (cL c8) v100) false), (iA v101), (iA v102)], Blk.box (c_S_Journal v103), Blk.box (c_S_Disk v104), Blk.dead, Blk.box (c_S_Journal v105)] ?_
   refine .cT (by kernel_rfl) ?_
   exact ih _
  exact .ex (x0 _ _ _ _)
def F7_7_1a (n : Nat) (v179 : Bool) (v180 : (List Int)) (v181 : Int) (v182 : Int) (v183 : Int) (v184 : Int) (v186 : S_Disk) (v187 : (List (List UInt8))) (v188 : Int) (v189 : Int) (v190 : (List Int)) (v191 : S_Journal) (v192 : S_Disk) (v193 : S_Journal) : Nat -> Int -> Option (Int)
 | 0, _ => none
 | m + 1, v185 => (bif (decide (v185 < ((v180.length : Int)))) then ((getI v180 v185).bind fun y195 => some (decide (y195 <= v182))) else (some false)).bind fun y196 => bif y196 then (F7_7_1a n v179 v180 v181 v182 v183 v184 v186 v187 v188 v189 v190 v191 v192 v193 m (wr .i64 (v185 + 1))) else (some v185)
theorem T7_7_1a (C : Nat -> List A -> Option A) (n : Nat) (h10 : Orc10 C) (h11 : Orc11 C) (h12 : Orc12 C) (h15 : Orc15 C) (h21 : Orc21 C) (h24 : Orc24 C) (h25 : Orc25 C) (h26 : Orc26 C) (h27 : Orc27 C) (v179 : Bool) (v180 : (List Int)) (v181 : Int) (v182 : Int) (v183 : Int) (v184 : Int) (v186 : S_Disk) (v187 : (List (List UInt8))) (v188 : Int) (v189 : Int) (v190 : (List Int)) (v191 : S_Journal) (v192 : S_Disk) (v193 : S_Journal) {ρ γ : Type} {φ : ρ -> γ -> Prop} {kL : R -> Option ρ} {K : (Int) -> Option γ} (kx kg : Nat -> St -> Option R) (kr : St -> Option R) (kp : A -> St -> Option R) (x0 : ∀ (o0 : Int) (s8 : A) (s13 : A) (s22 : A), J φ (kx 2 (St.mk [(8, s8), (11, (A.ptr 1 0)), (13, s13), (21, (iA v181)), (22, s22), (24, (iA v183)), (25, (A.ptr 6 0)), (26, (iA v184)), (27, (iA o0))] [Blk.box (c_S_Disk v186), Blk.box [(A.imm (List.map (cL c8) v187) false), (iA v188), (iA v189)], Blk.row false 1 (List.map (cI .i64) v190), Blk.box (c_S_Journal v191), Blk.box (c_S_Disk v192), Blk.dead, Blk.box (c_S_Journal v193)])) kL (K o0) some) :
  ∀ (m : Nat) (v185 : Int), J φ (loopR (cx C) (ec C n 8) (ey C n 8) (n+8) 7 0 1 7 kx kg kr kp m (St.mk [(8, (bA v179)), (11, (A.ptr 1 0)), (13, (A.imm (List.map (cI .i64) v180) false)), (21, (iA v181)), (22, (iA v182)), (24, (iA v183)), (25, (A.ptr 6 0)), (26, (iA v184)), (27, (iA v185))] [Blk.box (c_S_Disk v186), Blk.box [(A.imm (List.map (cL c8) v187) false), (iA v188), (iA v189)], Blk.row false 1 (List.map (cI .i64) v190), Blk.box (c_S_Journal v191), Blk.box (c_S_Disk v192), Blk.dead, Blk.box (c_S_Journal v193)])) kL (F7_7_1a n v179 v180 v181 v182 v183 v184 v186 v187 v188 v189 v190 v191 v192 v193 m v185) K := by
 intro m
 induction m with
 | zero => intros; exact .nn
 | succ m ih =>
  intro v185
  refine .lp (e7_1 ..) ?_
  unfold F7_7_1a
  refine .st (v := (iA ((v180.length : Int)))) (len_imm (e := 3) (h1 := by kernel_rfl) ..) ?_
  refine .st (v := (bA (decide (v185 < ((v180.length : Int)))))) (aBin_lss ..) ?_
  refine .bg (fun t (y : Bool) => ∃ j197 j198 j199 j200 j201 j202 : A, t = [(bA y), j197, j198, j199, j200, j201, j202]) ?_ ?_
  ·refine .biH (fun hk194 => ?_) (fun hk194 => ?_)
   ·refine .bd (g := fun (y : Int) => A.ip ((cI .i64) y)) (idx_imm (e := 3) (es := 1) (h1 := by kernel_rfl) (h2 := by kernel_rfl) (h3 := fun _ => rfl) ..) fun y195 => ?_
    refine .s (iA y195) ?_
    refine .st (v := (bA (decide (y195 <= v182)))) (aBin_leq ..) ?_
    exact .lg ⟨_, _, _, _, _, _, rfl⟩
   exact .lg ⟨_, _, _, _, _, _, rfl⟩
  rintro _ y196 ⟨j197, j198, j199, j200, j201, j202, rfl⟩
  iterate 7 refine .uc ?_
  refine .biHN (fun hk203 => ?_) (fun hk203 => ?_)
  ·refine .st (v := (iA (wr .i64 (v185 + 1)))) (aBin_add ..) ?_
   refine .s [Blk.box (c_S_Disk v186), Blk.box [(A.imm (List.map (cL c8) v187) false), (iA v188), (iA v189)], Blk.row false 1 (List.map (cI .i64) v190), Blk.box (c_S_Journal v191), Blk.box (c_S_Disk v192), Blk.dead, Blk.box (c_S_Journal v193)] ?_
   refine .cT (by kernel_rfl) ?_
   exact ih _
  exact .ex (x0 _ _ _ _)
def F7 (n : Nat) (a0 : (List (List UInt8))) (a1 : Int) (a2 : Int) (a3 : Int) : Option Bool :=
 (G10 ).bind fun y1 => bif (!y1) then (some false) else ((G25 40).bind fun y3 => (bif (y3.2 != 0) then (some true) else ((G11 y3.1 a0).bind fun y5 => some (!y5))).bind fun y6 => (bif y6 then (some true) else (some (((a0.length : Int)) == 0))).bind fun y12 => (bif y12 then (some true) else (some (a3 == 0))).bind fun y17 => bif y17 then (some (y3.2 == 0)) else ((G12 y3.1).bind fun y21 => bif (y21.2 != 0) then (some false) else ((F7_7_0 n a1 a2 a3 false a0 ((a0.length : Int)) y3.1 (n+8) 0 y21.1 (([] : List Int))).bind fun o41 => match o41 with | (Sum.inl ((y42, y43, y44, y45, y46, y47, y48))) => (G21 ((S_Journal.mk y42 y43 y44)) y3.1).bind fun y52 => (bif (y52.2.2 != 0) then (some true) else (some (((y45.length : Int)) == 0))).bind fun y54 => bif y54 then (some (y52.2.2 == 0)) else ((getI y45 (wr .i64 (((y45.length : Int)) - 1))).bind fun y59 => bif decide ((wr .u64 (y59)) ≠ 0) then ((bif (decide (((y52.2.1.Sectors.length : Int)) <= (wr .i64 (Int.tmod (wr .u64 (a1)) (wr .u64 (y59)))))) then (some true) else (some (decide (((y42.length : Int)) < ((y45.length : Int)))))).bind fun y61 => (bif y61 then (some true) else ((getI y52.2.1.Sectors (wr .i64 (Int.tmod (wr .u64 (a1)) (wr .u64 (y59))))).bind fun y69 => some (((y69.length : Int)) != 128))).bind fun y70 => bif y70 then (some false) else ((getI y52.2.1.Sectors (wr .i64 (Int.tmod (wr .u64 (a1)) (wr .u64 (y59))))).bind fun y79 => (appI 1 ([]) y79).bind fun y80 => (idxN y80.length (Int.tmod (wr .u64 (a2)) 128)).bind fun k81 => (y80[k81]?).bind fun y82 => (idxN y80.length (Int.tmod (wr .u64 (a2)) 128)).bind fun k83 => bif (decide (0 <= (xorI .u8 ((y82.toNat : Int)) a3)) && decide ((xorI .u8 ((y82.toNat : Int)) a3) < 256)) then ((modI y80 k83 (fun (y : UInt8) => (UInt8.ofNat (Int.toNat (xorI .u8 ((y82.toNat : Int)) a3))))).bind fun y84 => (G26 y52.2.1 (wr .i64 (Int.tmod (wr .u64 (a1)) (wr .u64 (y59)))) ((List.take y80.length (List.drop 0 y84)))).bind fun y85 => (G27 y85.1).bind fun y86 => (G12 y86.1).bind fun y87 => (F7_7_1 n false y45 y85.2 (wr .i64 (Int.tmod (wr .u64 (a1)) (wr .u64 (y59)))) y86.2 y87.2 y3.1 y42 y43 y44 y45 y46 y47 y48 y52.1 y86.1 y87.1 (n+8) 0).bind fun o116 => match o116 with | y117 => (bif (y85.2 == 0) then (some (y86.2 == 0)) else (some false)).bind fun y122 => (bif y122 then (some (y87.2 == 0)) else (some false)).bind fun y126 => bif y126 then ((subI y42 0 y117).bind fun y130 => ((G24 y87.1.Records y130).bind fun y131 => some y131).bind fun y132 => some y132) else ((some false).bind fun y134 => some y134)) else none)) else none) | (Sum.inr ((y136, y137, y138, y139))) => (G21 ((S_Journal.mk y136 y137 y138)) y3.1).bind fun y143 => (bif (y143.2.2 != 0) then (some true) else (some (((y139.length : Int)) == 0))).bind fun y145 => bif y145 then (some (y143.2.2 == 0)) else ((getI y139 (wr .i64 (((y139.length : Int)) - 1))).bind fun y150 => bif decide ((wr .u64 (y150)) ≠ 0) then ((bif (decide (((y143.2.1.Sectors.length : Int)) <= (wr .i64 (Int.tmod (wr .u64 (a1)) (wr .u64 (y150)))))) then (some true) else (some (decide (((y136.length : Int)) < ((y139.length : Int)))))).bind fun y152 => (bif y152 then (some true) else ((getI y143.2.1.Sectors (wr .i64 (Int.tmod (wr .u64 (a1)) (wr .u64 (y150))))).bind fun y160 => some (((y160.length : Int)) != 128))).bind fun y161 => bif y161 then (some false) else ((getI y143.2.1.Sectors (wr .i64 (Int.tmod (wr .u64 (a1)) (wr .u64 (y150))))).bind fun y170 => (appI 1 ([]) y170).bind fun y171 => (idxN y171.length (Int.tmod (wr .u64 (a2)) 128)).bind fun k172 => (y171[k172]?).bind fun y173 => (idxN y171.length (Int.tmod (wr .u64 (a2)) 128)).bind fun k174 => bif (decide (0 <= (xorI .u8 ((y173.toNat : Int)) a3)) && decide ((xorI .u8 ((y173.toNat : Int)) a3) < 256)) then ((modI y171 k174 (fun (y : UInt8) => (UInt8.ofNat (Int.toNat (xorI .u8 ((y173.toNat : Int)) a3))))).bind fun y175 => (G26 y143.2.1 (wr .i64 (Int.tmod (wr .u64 (a1)) (wr .u64 (y150)))) ((List.take y171.length (List.drop 0 y175)))).bind fun y176 => (G27 y176.1).bind fun y177 => (G12 y177.1).bind fun y178 => (F7_7_1a n false y139 y176.2 (wr .i64 (Int.tmod (wr .u64 (a1)) (wr .u64 (y150)))) y177.2 y178.2 y3.1 y136 y137 y138 y139 y143.1 y177.1 y178.1 (n+8) 0).bind fun o204 => match o204 with | y205 => (bif (y176.2 == 0) then (some (y177.2 == 0)) else (some false)).bind fun y210 => (bif y210 then (some (y178.2 == 0)) else (some false)).bind fun y214 => bif y214 then ((subI y136 0 y205).bind fun y218 => ((G24 y178.1.Records y218).bind fun y219 => some y219).bind fun y220 => some y220) else ((some false).bind fun y222 => some y222)) else none)) else none))))
theorem T7 (C : Nat -> List A -> Option A) (n : Nat) (h10 : Orc10 C) (h11 : Orc11 C) (h12 : Orc12 C) (h15 : Orc15 C) (h21 : Orc21 C) (h24 : Orc24 C) (h25 : Orc25 C) (h26 : Orc26 C) (h27 : Orc27 C) (a0 : (List (List UInt8))) (a1 : Int) (a2 : Int) (a3 : Int) : J (fun (o : R) y => ∃ v, o.1 = .ret v /\ snapE o.2 v = (bA y)) (evCall1 (cx C) (ec C n 8) (ey C n 8) (n+8) 7 [(A.imm (List.map (cL c8) a0) false), (iA a1), (iA a2), (uA a3)] [] 0) some (F7 n a0 a1 a2 a3) some := by
 refine .lp (e7 ..) ?_
 unfold F7
 refine .bd (g := fun (y : Bool) => (bA y)) (h10 ()) fun y1 => ?_
 refine .s (bA (!y1)) ?_
 refine .biHN (fun hk2 => ?_) (fun hk2 => ?_)
 ·exact .lf rfl rfl ⟨_, rfl, rfl⟩
 refine .bd (g := fun (y : (S_Disk × Int)) => (A.tup [(A.agg [(A.imm (List.map (cL c8) y.1.Sectors) false), (A.imm (List.map c_S_Write y.1.Pending) false), (iA y.1.Left), (bA y.1.Stopped)]), (iA y.2)])) (h25 40) fun y3 => ?_
 refine .s (A.agg (c_S_Disk y3.1)) (.s (iA y3.2) (.s ((A.ptr 0 0), [bz4]) (.s [Blk.box (c_S_Disk y3.1)] ?_)))
 refine .st (v := (bA (y3.2 != 0))) (aBin_neq ..) ?_
 refine .bg (fun t (y : Bool) => ∃ j7 j8 j9 j10 : A, t = [(bA y), j7, j8, j9, j10]) ?_ ?_
 ·refine .biH (fun hk4 => ?_) (fun hk4 => ?_)
  ·exact .lg ⟨_, _, _, _, rfl⟩
  refine .s (A.agg (c_S_Disk y3.1)) ?_
  refine .bd (g := fun (y : Bool) => (bA y)) (by show C 11 [snap _ (A.agg (c_S_Disk y3.1)), snap _ (A.imm (List.map (cL c8) a0) false)] = _; simp only [sn0, snM]; exact h11 y3.1 a0) fun y5 => ?_
  refine .s (bA (!y5)) ?_
  exact .lg ⟨_, _, _, _, rfl⟩
 rintro _ y6 ⟨j7, j8, j9, j10, rfl⟩
 iterate 5 refine .uc ?_
 refine .bg (fun t (y : Bool) => ∃ j13 j14 j15 : A, t = [(bA y), j13, j14, j15]) ?_ ?_
 ·refine .biH (fun hk11 => ?_) (fun hk11 => ?_)
  ·exact .lg ⟨_, _, _, rfl⟩
  refine .st (v := (iA ((a0.length : Int)))) (len_imm (e := 35) (h1 := by kernel_rfl) ..) ?_
  refine .st (v := (bA (((a0.length : Int)) == 0))) (aBin_eql ..) ?_
  exact .lg ⟨_, _, _, rfl⟩
 rintro _ y12 ⟨j13, j14, j15, rfl⟩
 iterate 4 refine .uc ?_
 refine .bg (fun t (y : Bool) => ∃ j18 j19 : A, t = [(bA y), j18, j19]) ?_ ?_
 ·refine .biH (fun hk16 => ?_) (fun hk16 => ?_)
  ·exact .lg ⟨_, _, rfl⟩
  refine .st (v := (bA (a3 == 0))) (aBin_eql ..) ?_
  exact .lg ⟨_, _, rfl⟩
 rintro _ y17 ⟨j18, j19, rfl⟩
 iterate 3 refine .uc ?_
 refine .biHN (fun hk20 => ?_) (fun hk20 => ?_)
 ·refine .st (v := (bA (y3.2 == 0))) (aBin_eql ..) ?_
  exact .lf rfl rfl ⟨_, rfl, rfl⟩
 refine .s (A.agg (c_S_Disk y3.1)) ?_
 refine .bd (g := fun (y : (S_Journal × Int)) => (A.tup [(A.agg [(A.imm (List.map (cL c8) y.1.Records) false), (iA y.1.Many), (iA y.1.Synced)]), (iA y.2)])) (by show C 12 [snap _ (A.agg (c_S_Disk y3.1))] = _; simp only [sn0, snM]; exact h12 y3.1) fun y21 => ?_
 refine .s (A.agg (c_S_Journal y21.1)) (.s (iA y21.2) (.s ((A.ptr 1 0), [Blk.box (c_S_Disk y3.1), bz3]) (.s [Blk.box (c_S_Disk y3.1), Blk.box (c_S_Journal y21.1)] ?_)))
 refine .st (v := (bA (y21.2 != 0))) (aBin_neq ..) ?_
 refine .biHN (fun hk22 => ?_) (fun hk22 => ?_)
 ·exact .lf rfl rfl ⟨_, rfl, rfl⟩
 refine .st (v := (iA ((a0.length : Int)))) (len_imm (e := 35) (h1 := by kernel_rfl) ..) ?_
 refine .as (T7_7_0 C n h10 h11 h12 h15 h21 h24 h25 h26 h27 a1 a2 a3 false a0 ((a0.length : Int)) y3.1 _ _ _ _ ?_ ?_ _ 0 y21.1 (([] : List Int)))
 ·intro y42 y43 y44 y45 y46 y47 y48 j49 j50 j51
  refine .un rfl ?_
  refine .cT (by kernel_rfl) ?_
  refine .s (A.agg [(A.imm (List.map (cL c8) y42) false), (iA y43), (iA y44)]) (.s (A.agg (c_S_Disk y3.1)) ?_)
  refine .bd (g := fun (y : (S_Journal × S_Disk × Int)) => (A.tup [(A.agg [(A.imm (List.map (cL c8) y.1.Records) false), (iA y.1.Many), (iA y.1.Synced)]), (A.agg [(A.imm (List.map (cL c8) y.2.1.Sectors) false), (A.imm (List.map c_S_Write y.2.1.Pending) false), (iA y.2.1.Left), (bA y.2.1.Stopped)]), (iA y.2.2)])) (by show C 21 [snap _ (A.agg [(A.imm (List.map (cL c8) y42) false), (iA y43), (iA y44)]), snap _ (A.agg (c_S_Disk y3.1))] = _; simp only [sn0, snM, snapG_row (H := [Blk.box (c_S_Disk y3.1), Blk.box [(A.imm (List.map (cL c8) y42) false), (iA y43), (iA y44)], Blk.row false 1 (List.map (cI .i64) y45), Blk.box [(A.imm (List.map (cL c8) y46) false), (iA y47), (iA y48)]]) (b := 2) (es := 1) (l := y45) (fl_cI _) rfl]; exact h21 ((S_Journal.mk y42 y43 y44)) y3.1) fun y52 => ?_
  refine .s (A.agg (c_S_Journal y52.1)) (.s (A.agg (c_S_Disk y52.2.1)) (.s (iA y52.2.2) (.s ((A.ptr 4 0), [Blk.box (c_S_Disk y3.1), Blk.box [(A.imm (List.map (cL c8) y42) false), (iA y43), (iA y44)], Blk.row false 1 (List.map (cI .i64) y45), Blk.box [(A.imm (List.map (cL c8) y46) false), (iA y47), (iA y48)], bz3]) (.s ((A.ptr 5 0), [Blk.box (c_S_Disk y3.1), Blk.box [(A.imm (List.map (cL c8) y42) false), (iA y43), (iA y44)], Blk.row false 1 (List.map (cI .i64) y45), Blk.box [(A.imm (List.map (cL c8) y46) false), (iA y47), (iA y48)], bz3, bz4]) (.s [Blk.box (c_S_Disk y3.1), Blk.box [(A.imm (List.map (cL c8) y42) false), (iA y43), (iA y44)], Blk.row false 1 (List.map (cI .i64) y45), Blk.box [(A.imm (List.map (cL c8) y46) false), (iA y47), (iA y48)], Blk.box (c_S_Journal y52.1), bz4] (.s [Blk.box (c_S_Disk y3.1), Blk.box [(A.imm (List.map (cL c8) y42) false), (iA y43), (iA y44)], Blk.row false 1 (List.map (cI .i64) y45), Blk.box [(A.imm (List.map (cL c8) y46) false), (iA y47), (iA y48)], Blk.box (c_S_Journal y52.1), Blk.box (c_S_Disk y52.2.1)] ?_))))))
  refine .st (v := (bA (y52.2.2 != 0))) (aBin_neq ..) ?_
  refine .bg (fun t (y : Bool) => ∃ j55 j56 j57 : A, t = [(bA y), j55, j56, j57]) ?_ ?_
  ·refine .biH (fun hk53 => ?_) (fun hk53 => ?_)
   ·exact .lg ⟨_, _, _, rfl⟩
   refine .st (v := (iA ((y45.length : Int)))) (row_len (e := 3) (by kernel_rfl) rfl rfl) ?_
   refine .st (v := (bA (((y45.length : Int)) == 0))) (aBin_eql ..) ?_
   exact .lg ⟨_, _, _, rfl⟩
  rintro _ y54 ⟨j55, j56, j57, rfl⟩
  iterate 4 refine .uc ?_
  refine .biHN (fun hk58 => ?_) (fun hk58 => ?_)
  ·refine .st (v := (bA (y52.2.2 == 0))) (aBin_eql ..) ?_
   exact .lf rfl rfl ⟨_, rfl, rfl⟩
  refine .st (v := (A.v (.int .u64 (wr .u64 (a1))))) (aConvert_int (hs := by kernel_rfl) (hd := by kernel_rfl) ..) ?_
  refine .st (v := (iA ((y45.length : Int)))) (row_len (e := 3) (by kernel_rfl) rfl rfl) ?_
  refine .st (v := (iA (wr .i64 (((y45.length : Int)) - 1)))) (aBin_sub ..) ?_
  refine .bd (g := fun (y : Int) => A.ip ((cI .i64) y)) (row_idx (e := 3) (es := 1) (l := y45) (by kernel_rfl) (by kernel_rfl) rfl) fun y59 => ?_
  refine .s (iA y59) ?_
  refine .st (v := (A.v (.int .u64 (wr .u64 (y59))))) (aConvert_int (hs := by kernel_rfl) (hd := by kernel_rfl) ..) ?_
  refine .gd fun hg => ?_
  refine .st (v := (A.v (.int .u64 (Int.tmod (wr .u64 (a1)) (wr .u64 (y59)))))) (aBin_rem (hb := of_decide_eq_true hg) ..) ?_
  refine .st (v := (iA (wr .i64 (Int.tmod (wr .u64 (a1)) (wr .u64 (y59)))))) (aConvert_int (hs := by kernel_rfl) (hd := by kernel_rfl) ..) ?_
  refine .s (A.ptr 5 0) (.s (A.imm (List.map (cL c8) y52.2.1.Sectors) false) ?_)
  refine .st (v := (iA ((y52.2.1.Sectors.length : Int)))) (len_imm (e := 35) (h1 := by kernel_rfl) ..) ?_
  refine .st (v := (bA (decide (((y52.2.1.Sectors.length : Int)) <= (wr .i64 (Int.tmod (wr .u64 (a1)) (wr .u64 (y59)))))))) (aBin_geq ..) ?_
  refine .bg (fun t (y : Bool) => ∃ j62 j63 j64 j65 j66 j67 : A, t = [(bA y), j62, j63, j64, j65, j66, j67]) ?_ ?_
  ·refine .biH (fun hk60 => ?_) (fun hk60 => ?_)
   ·exact .lg ⟨_, _, _, _, _, _, rfl⟩
   refine .st (v := (iA ((y45.length : Int)))) (row_len (e := 3) (by kernel_rfl) rfl rfl) ?_
   refine .s (A.ptr 1 0) (.s (A.imm (List.map (cL c8) y42) false) ?_)
   refine .st (v := (iA ((y42.length : Int)))) (len_imm (e := 35) (h1 := by kernel_rfl) ..) ?_
   refine .st (v := (bA (decide (((y42.length : Int)) < ((y45.length : Int)))))) (aBin_gtr ..) ?_
   exact .lg ⟨_, _, _, _, _, _, rfl⟩
  rintro _ y61 ⟨j62, j63, j64, j65, j66, j67, rfl⟩
  iterate 7 refine .uc ?_
  refine .bg (fun t (y : Bool) => ∃ j71 j72 j73 j74 j75 j76 j77 : A, t = [(bA y), j71, j72, j73, j74, j75, j76, j77]) ?_ ?_
  ·refine .biH (fun hk68 => ?_) (fun hk68 => ?_)
   ·exact .lg ⟨_, _, _, _, _, _, _, rfl⟩
   refine .s (A.ptr 5 0) (.s (A.imm (List.map (cL c8) y52.2.1.Sectors) false) ?_)
   refine .bd (g := fun (y : (List UInt8)) => A.ip ((cL c8) y)) (idx_imm (e := 35) (es := 1) (h1 := by kernel_rfl) (h2 := by kernel_rfl) (h3 := fun _ => rfl) ..) fun y69 => ?_
   refine .s (A.imm (List.map c8 y69) false) ?_
   refine .st (v := (iA ((y69.length : Int)))) (len_imm (e := 5) (h1 := by kernel_rfl) ..) ?_
   refine .st (v := (bA (((y69.length : Int)) != 128))) (aBin_neq ..) ?_
   exact .lg ⟨_, _, _, _, _, _, _, rfl⟩
  rintro _ y70 ⟨j71, j72, j73, j74, j75, j76, j77, rfl⟩
  iterate 8 refine .uc ?_
  refine .biHN (fun hk78 => ?_) (fun hk78 => ?_)
  ·exact .lf rfl rfl ⟨_, rfl, rfl⟩
  refine .s (A.imm [] true) (.s (A.ptr 5 0) (.s (A.imm (List.map (cL c8) y52.2.1.Sectors) false) ?_))
  refine .bd (g := fun (y : (List UInt8)) => A.ip ((cL c8) y)) (idx_imm (e := 35) (es := 1) (h1 := by kernel_rfl) (h2 := by kernel_rfl) (h3 := fun _ => rfl) ..) fun y79 => ?_
  refine .s (A.imm (List.map c8 y79) false) ?_
  refine .bd (g := fun (y : List UInt8) => ((A.sl 6 0 y.length false), [Blk.box (c_S_Disk y3.1), Blk.box [(A.imm (List.map (cL c8) y42) false), (iA y43), (iA y44)], Blk.row false 1 (List.map (cI .i64) y45), Blk.box [(A.imm (List.map (cL c8) y46) false), (iA y47), (iA y48)], Blk.box (c_S_Journal y52.1), Blk.box (c_S_Disk y52.2.1), Blk.row true 1 (List.map c8 y)])) (wrow_app (e := 5) (es := 1) (by_ := 1) (z := [(uA 0)]) (by kernel_rfl) (by kernel_rfl) (by kernel_rfl) (by kernel_rfl) rfl (by decide) (by decide) (by kernel_rfl) (f := c8) (fun _ => rfl) ce_c8 (l2 := y79) (els_imm ..)) fun y80 => ?_
  refine .st (v := (A.v (.int .u64 (wr .u64 (a2))))) (aConvert_int (hs := by kernel_rfl) (hd := by kernel_rfl) ..) ?_
  refine .st (v := (A.v (.int .u64 (Int.tmod (wr .u64 (a2)) 128)))) (aBin_rem (hb := by decide) ..) ?_
  refine .bd (g := fun (y : Nat) => A.ep 6 y 0) (wrow_idx0 (e := 5) (es := 1) (l := y80) (by kernel_rfl) (by kernel_rfl) rfl) fun k81 => ?_
  refine .bd (g := fun (y : UInt8) => (uA ((y.toNat : Int)))) (wrow_load (es := 1) (n := 1) (l := y80) (by kernel_rfl) (by decide) (fun _ => rfl) (by decide) rfl (fun _ => by kernel_rfl)) fun y82 => ?_
  refine .st (v := (uA (xorI .u8 ((y82.toNat : Int)) a3))) (aBin_bits_xor ..) ?_
  refine .bd (g := fun (y : Nat) => A.ep 6 y 0) (wrow_idx0 (e := 5) (es := 1) (l := y80) (by kernel_rfl) (by kernel_rfl) rfl) fun k83 => ?_
  refine .gd fun hg => ?_
  refine .bd (g := fun (y : List UInt8) => [Blk.box (c_S_Disk y3.1), Blk.box [(A.imm (List.map (cL c8) y42) false), (iA y43), (iA y44)], Blk.row false 1 (List.map (cI .i64) y45), Blk.box [(A.imm (List.map (cL c8) y46) false), (iA y47), (iA y48)], Blk.box (c_S_Journal y52.1), Blk.box (c_S_Disk y52.2.1), Blk.row true 1 (List.map c8 y)]) ((congrArg (fun z => aStore _ _ _ (A.v (.int .u8 z)) _ _) (u8_back hg).symm).trans ((wrow_store (es := 1) (n := 1) (l := y80) (xs := [(uA (((UInt8.ofNat (Int.toNat (xorI .u8 ((y82.toNat : Int)) a3))).toNat : Int)))]) (u := fun (y : UInt8) => (UInt8.ofNat (Int.toNat (xorI .u8 ((y82.toNat : Int)) a3)))) (by kernel_rfl) (by kernel_rfl) (by decide) rfl (fun _ => rfl) (by decide) (by decide) rfl (fun _ => rfl)))) fun y84 => ?_
  refine .st (v := ((A.imm (List.map c8 ((List.take y80.length (List.drop 0 y84)))) false), [Blk.box (c_S_Disk y3.1), Blk.box [(A.imm (List.map (cL c8) y42) false), (iA y43), (iA y44)], Blk.row false 1 (List.map (cI .i64) y45), Blk.box [(A.imm (List.map (cL c8) y46) false), (iA y47), (iA y48)], Blk.box (c_S_Journal y52.1), Blk.box (c_S_Disk y52.2.1), Blk.dead])) (kill_row (es := 1) (l := y84) fl_c8 rfl (by decide)) ?_
  refine .s (A.agg (c_S_Disk y52.2.1)) ?_
  refine .bd (g := fun (y : (S_Disk × Int)) => (A.tup [(A.agg [(A.imm (List.map (cL c8) y.1.Sectors) false), (A.imm (List.map c_S_Write y.1.Pending) false), (iA y.1.Left), (bA y.1.Stopped)]), (iA y.2)])) (by show C 26 [snap _ (A.agg (c_S_Disk y52.2.1)), snap _ (iA (wr .i64 (Int.tmod (wr .u64 (a1)) (wr .u64 (y59))))), snap _ (A.imm (List.map c8 ((List.take y80.length (List.drop 0 y84)))) false)] = _; simp only [sn0, snM, snapG_row (H := [Blk.box (c_S_Disk y3.1), Blk.box [(A.imm (List.map (cL c8) y42) false), (iA y43), (iA y44)], Blk.row false 1 (List.map (cI .i64) y45), Blk.box [(A.imm (List.map (cL c8) y46) false), (iA y47), (iA y48)], Blk.box (c_S_Journal y52.1), Blk.box (c_S_Disk y52.2.1), Blk.dead]) (b := 2) (es := 1) (l := y45) (fl_cI _) rfl]; exact h26 y52.2.1 (wr .i64 (Int.tmod (wr .u64 (a1)) (wr .u64 (y59)))) ((List.take y80.length (List.drop 0 y84)))) fun y85 => ?_
  refine .s (A.agg (c_S_Disk y85.1)) (.s (iA y85.2) (.s [Blk.box (c_S_Disk y3.1), Blk.box [(A.imm (List.map (cL c8) y42) false), (iA y43), (iA y44)], Blk.row false 1 (List.map (cI .i64) y45), Blk.box [(A.imm (List.map (cL c8) y46) false), (iA y47), (iA y48)], Blk.box (c_S_Journal y52.1), Blk.box (c_S_Disk y85.1), Blk.dead] (.s (A.agg (c_S_Disk y85.1)) ?_)))
  refine .bd (g := fun (y : (S_Disk × Int)) => (A.tup [(A.agg [(A.imm (List.map (cL c8) y.1.Sectors) false), (A.imm (List.map c_S_Write y.1.Pending) false), (iA y.1.Left), (bA y.1.Stopped)]), (iA y.2)])) (by show C 27 [snap _ (A.agg (c_S_Disk y85.1))] = _; simp only [sn0, snM, snapG_row (H := [Blk.box (c_S_Disk y3.1), Blk.box [(A.imm (List.map (cL c8) y42) false), (iA y43), (iA y44)], Blk.row false 1 (List.map (cI .i64) y45), Blk.box [(A.imm (List.map (cL c8) y46) false), (iA y47), (iA y48)], Blk.box (c_S_Journal y52.1), Blk.box (c_S_Disk y85.1), Blk.dead]) (b := 2) (es := 1) (l := y45) (fl_cI _) rfl]; exact h27 y85.1) fun y86 => ?_
  refine .s (A.agg (c_S_Disk y86.1)) (.s (iA y86.2) (.s [Blk.box (c_S_Disk y3.1), Blk.box [(A.imm (List.map (cL c8) y42) false), (iA y43), (iA y44)], Blk.row false 1 (List.map (cI .i64) y45), Blk.box [(A.imm (List.map (cL c8) y46) false), (iA y47), (iA y48)], Blk.box (c_S_Journal y52.1), Blk.box (c_S_Disk y86.1), Blk.dead] (.s (A.agg (c_S_Disk y86.1)) ?_)))
  refine .bd (g := fun (y : (S_Journal × Int)) => (A.tup [(A.agg [(A.imm (List.map (cL c8) y.1.Records) false), (iA y.1.Many), (iA y.1.Synced)]), (iA y.2)])) (by show C 12 [snap _ (A.agg (c_S_Disk y86.1))] = _; simp only [sn0, snM, snapG_row (H := [Blk.box (c_S_Disk y3.1), Blk.box [(A.imm (List.map (cL c8) y42) false), (iA y43), (iA y44)], Blk.row false 1 (List.map (cI .i64) y45), Blk.box [(A.imm (List.map (cL c8) y46) false), (iA y47), (iA y48)], Blk.box (c_S_Journal y52.1), Blk.box (c_S_Disk y86.1), Blk.dead]) (b := 2) (es := 1) (l := y45) (fl_cI _) rfl]; exact h12 y86.1) fun y87 => ?_
  refine .s (A.agg (c_S_Journal y87.1)) (.s (iA y87.2) (.s ((A.ptr 7 0), [Blk.box (c_S_Disk y3.1), Blk.box [(A.imm (List.map (cL c8) y42) false), (iA y43), (iA y44)], Blk.row false 1 (List.map (cI .i64) y45), Blk.box [(A.imm (List.map (cL c8) y46) false), (iA y47), (iA y48)], Blk.box (c_S_Journal y52.1), Blk.box (c_S_Disk y86.1), Blk.dead, bz3]) (.s [Blk.box (c_S_Disk y3.1), Blk.box [(A.imm (List.map (cL c8) y42) false), (iA y43), (iA y44)], Blk.row false 1 (List.map (cI .i64) y45), Blk.box [(A.imm (List.map (cL c8) y46) false), (iA y47), (iA y48)], Blk.box (c_S_Journal y52.1), Blk.box (c_S_Disk y86.1), Blk.dead, Blk.box (c_S_Journal y87.1)] ?_)))
  refine .lp (congrArg (fun z => loopR (cx C) _ _ _ _ _ _ _ _ _ _ _ _ (St.mk [(8, (bA false)), (11, (A.ptr 1 0)), (13, z), (21, (iA y85.2)), (22, (iA (wr .i64 (Int.tmod (wr .u64 (a1)) (wr .u64 (y59)))))), (24, (iA y86.2)), (25, (A.ptr 7 0)), (26, (iA y87.2)), (27, (iA 0))] _)) (show frz [Blk.box (c_S_Disk y3.1), Blk.box [(A.imm (List.map (cL c8) y42) false), (iA y43), (iA y44)], Blk.row false 1 (List.map (cI .i64) y45), Blk.box [(A.imm (List.map (cL c8) y46) false), (iA y47), (iA y48)], Blk.box (c_S_Journal y52.1), Blk.box (c_S_Disk y86.1), Blk.dead, Blk.box (c_S_Journal y87.1)] (A.sl 2 0 y45.length false) = (A.imm (List.map (cI .i64) y45) false) from by simp only [frz, frzC, sn0, snM, snapG_row (H := [Blk.box (c_S_Disk y3.1), Blk.box [(A.imm (List.map (cL c8) y42) false), (iA y43), (iA y44)], Blk.row false 1 (List.map (cI .i64) y45), Blk.box [(A.imm (List.map (cL c8) y46) false), (iA y47), (iA y48)], Blk.box (c_S_Journal y52.1), Blk.box (c_S_Disk y86.1), Blk.dead, Blk.box (c_S_Journal y87.1)]) (b := 2) (es := 1) (l := y45) (fl_cI _) rfl])) ?_
  refine .as (T7_7_1 C n h10 h11 h12 h15 h21 h24 h25 h26 h27 false y45 y85.2 (wr .i64 (Int.tmod (wr .u64 (a1)) (wr .u64 (y59)))) y86.2 y87.2 y3.1 y42 y43 y44 y45 y46 y47 y48 y52.1 y86.1 y87.1 _ _ _ _ ?_ _ 0)
  ·intro y117 j118 j119 j120
   refine .un rfl ?_
   refine .cT (by kernel_rfl) ?_
   refine .st (v := (bA (y85.2 == 0))) (aBin_eql ..) ?_
   refine .bg (fun t (y : Bool) => ∃ j123 j124 : A, t = [(bA y), j123, j124]) ?_ ?_
   ·refine .biH (fun hk121 => ?_) (fun hk121 => ?_)
    ·refine .st (v := (bA (y86.2 == 0))) (aBin_eql ..) ?_
     exact .lg ⟨_, _, rfl⟩
    exact .lg ⟨_, _, rfl⟩
   rintro _ y122 ⟨j123, j124, rfl⟩
   iterate 3 refine .uc ?_
   refine .bg (fun t (y : Bool) => ∃ j127 j128 : A, t = [(bA y), j127, j128]) ?_ ?_
   ·refine .biH (fun hk125 => ?_) (fun hk125 => ?_)
    ·refine .st (v := (bA (y87.2 == 0))) (aBin_eql ..) ?_
     exact .lg ⟨_, _, rfl⟩
    exact .lg ⟨_, _, rfl⟩
   rintro _ y126 ⟨j127, j128, rfl⟩
   iterate 3 refine .uc ?_
   refine .gst (fun hc129 => ?_) (fun hc129 => ?_)
   ·refine .bb ?_
    refine .s (A.ptr 7 0) (.s (A.imm (List.map (cL c8) y87.1.Records) false) (.s (A.ptr 1 0) (.s (A.imm (List.map (cL c8) y42) false) ?_)))
    refine .bd (g := fun (y : List (List UInt8)) => (A.imm (List.map (cL c8) y) false)) (cut_imm (e := 35) (es := 1) (f := (cL c8)) (l := y42) (a := 0) (b := y117) (by kernel_rfl) (by kernel_rfl) (fun _ => rfl) (.inl ⟨rfl, rfl⟩) (.inr ⟨_, rfl⟩)) fun y130 => ?_
    refine .cr ?_
    iterate 6 refine .uc ?_
    refine .bg (fun t (y : Bool) => ∃ j133 : A, t = [(bA y), j133]) ?_ ?_
    ·refine .bKT hc129 ?_
     refine .bd (g := fun (y : Bool) => (bA y)) (by show C 24 [snap _ (A.imm (List.map (cL c8) y87.1.Records) false), snap _ (A.imm (List.map (cL c8) y130) false)] = _; simp only [sn0, snM, snapG_row (H := [Blk.box (c_S_Disk y3.1), Blk.box [(A.imm (List.map (cL c8) y42) false), (iA y43), (iA y44)], Blk.row false 1 (List.map (cI .i64) y45), Blk.box [(A.imm (List.map (cL c8) y46) false), (iA y47), (iA y48)], Blk.box (c_S_Journal y52.1), Blk.box (c_S_Disk y86.1), Blk.dead, Blk.box (c_S_Journal y87.1)]) (b := 2) (es := 1) (l := y45) (fl_cI _) rfl]; exact h24 y87.1.Records y130) fun y131 => ?_
     exact .lg ⟨_, rfl⟩
    rintro _ y132 ⟨j133, rfl⟩
    iterate 2 refine .uc ?_
    exact .lf rfl rfl ⟨_, rfl, rfl⟩
   refine .bb ?_
   refine .cr ?_
   iterate 6 refine .uc ?_
   refine .bg (fun t (y : Bool) => ∃ j135 : A, t = [(bA y), j135]) ?_ ?_
   ·refine .bKF hc129 ?_
    exact .lg ⟨_, rfl⟩
   rintro _ y134 ⟨j135, rfl⟩
   iterate 2 refine .uc ?_
   exact .lf rfl rfl ⟨_, rfl, rfl⟩
 ·intro y136 y137 y138 y139 j140 j141 j142
  refine .un rfl ?_
  refine .cT (by kernel_rfl) ?_
  refine .s (A.agg [(A.imm (List.map (cL c8) y136) false), (iA y137), (iA y138)]) (.s (A.agg (c_S_Disk y3.1)) ?_)
  refine .bd (g := fun (y : (S_Journal × S_Disk × Int)) => (A.tup [(A.agg [(A.imm (List.map (cL c8) y.1.Records) false), (iA y.1.Many), (iA y.1.Synced)]), (A.agg [(A.imm (List.map (cL c8) y.2.1.Sectors) false), (A.imm (List.map c_S_Write y.2.1.Pending) false), (iA y.2.1.Left), (bA y.2.1.Stopped)]), (iA y.2.2)])) (by show C 21 [snap _ (A.agg [(A.imm (List.map (cL c8) y136) false), (iA y137), (iA y138)]), snap _ (A.agg (c_S_Disk y3.1))] = _; simp only [sn0, snM, snapG_row (H := [Blk.box (c_S_Disk y3.1), Blk.box [(A.imm (List.map (cL c8) y136) false), (iA y137), (iA y138)], Blk.row false 1 (List.map (cI .i64) y139)]) (b := 2) (es := 1) (l := y139) (fl_cI _) rfl]; exact h21 ((S_Journal.mk y136 y137 y138)) y3.1) fun y143 => ?_
  refine .s (A.agg (c_S_Journal y143.1)) (.s (A.agg (c_S_Disk y143.2.1)) (.s (iA y143.2.2) (.s ((A.ptr 3 0), [Blk.box (c_S_Disk y3.1), Blk.box [(A.imm (List.map (cL c8) y136) false), (iA y137), (iA y138)], Blk.row false 1 (List.map (cI .i64) y139), bz3]) (.s ((A.ptr 4 0), [Blk.box (c_S_Disk y3.1), Blk.box [(A.imm (List.map (cL c8) y136) false), (iA y137), (iA y138)], Blk.row false 1 (List.map (cI .i64) y139), bz3, bz4]) (.s [Blk.box (c_S_Disk y3.1), Blk.box [(A.imm (List.map (cL c8) y136) false), (iA y137), (iA y138)], Blk.row false 1 (List.map (cI .i64) y139), Blk.box (c_S_Journal y143.1), bz4] (.s [Blk.box (c_S_Disk y3.1), Blk.box [(A.imm (List.map (cL c8) y136) false), (iA y137), (iA y138)], Blk.row false 1 (List.map (cI .i64) y139), Blk.box (c_S_Journal y143.1), Blk.box (c_S_Disk y143.2.1)] ?_))))))
  refine .st (v := (bA (y143.2.2 != 0))) (aBin_neq ..) ?_
  refine .bg (fun t (y : Bool) => ∃ j146 j147 j148 : A, t = [(bA y), j146, j147, j148]) ?_ ?_
  ·refine .biH (fun hk144 => ?_) (fun hk144 => ?_)
   ·exact .lg ⟨_, _, _, rfl⟩
   refine .st (v := (iA ((y139.length : Int)))) (row_len (e := 3) (by kernel_rfl) rfl rfl) ?_
   refine .st (v := (bA (((y139.length : Int)) == 0))) (aBin_eql ..) ?_
   exact .lg ⟨_, _, _, rfl⟩
  rintro _ y145 ⟨j146, j147, j148, rfl⟩
  iterate 4 refine .uc ?_
  refine .biHN (fun hk149 => ?_) (fun hk149 => ?_)
  ·refine .st (v := (bA (y143.2.2 == 0))) (aBin_eql ..) ?_
   exact .lf rfl rfl ⟨_, rfl, rfl⟩
  refine .st (v := (A.v (.int .u64 (wr .u64 (a1))))) (aConvert_int (hs := by kernel_rfl) (hd := by kernel_rfl) ..) ?_
  refine .st (v := (iA ((y139.length : Int)))) (row_len (e := 3) (by kernel_rfl) rfl rfl) ?_
  refine .st (v := (iA (wr .i64 (((y139.length : Int)) - 1)))) (aBin_sub ..) ?_
  refine .bd (g := fun (y : Int) => A.ip ((cI .i64) y)) (row_idx (e := 3) (es := 1) (l := y139) (by kernel_rfl) (by kernel_rfl) rfl) fun y150 => ?_
  refine .s (iA y150) ?_
  refine .st (v := (A.v (.int .u64 (wr .u64 (y150))))) (aConvert_int (hs := by kernel_rfl) (hd := by kernel_rfl) ..) ?_
  refine .gd fun hg => ?_
  refine .st (v := (A.v (.int .u64 (Int.tmod (wr .u64 (a1)) (wr .u64 (y150)))))) (aBin_rem (hb := of_decide_eq_true hg) ..) ?_
  refine .st (v := (iA (wr .i64 (Int.tmod (wr .u64 (a1)) (wr .u64 (y150)))))) (aConvert_int (hs := by kernel_rfl) (hd := by kernel_rfl) ..) ?_
  refine .s (A.ptr 4 0) (.s (A.imm (List.map (cL c8) y143.2.1.Sectors) false) ?_)
  refine .st (v := (iA ((y143.2.1.Sectors.length : Int)))) (len_imm (e := 35) (h1 := by kernel_rfl) ..) ?_
  refine .st (v := (bA (decide (((y143.2.1.Sectors.length : Int)) <= (wr .i64 (Int.tmod (wr .u64 (a1)) (wr .u64 (y150)))))))) (aBin_geq ..) ?_
  refine .bg (fun t (y : Bool) => ∃ j153 j154 j155 j156 j157 j158 : A, t = [(bA y), j153, j154, j155, j156, j157, j158]) ?_ ?_
  ·refine .biH (fun hk151 => ?_) (fun hk151 => ?_)
   ·exact .lg ⟨_, _, _, _, _, _, rfl⟩
   refine .st (v := (iA ((y139.length : Int)))) (row_len (e := 3) (by kernel_rfl) rfl rfl) ?_
   refine .s (A.ptr 1 0) (.s (A.imm (List.map (cL c8) y136) false) ?_)
   refine .st (v := (iA ((y136.length : Int)))) (len_imm (e := 35) (h1 := by kernel_rfl) ..) ?_
   refine .st (v := (bA (decide (((y136.length : Int)) < ((y139.length : Int)))))) (aBin_gtr ..) ?_
   exact .lg ⟨_, _, _, _, _, _, rfl⟩
  rintro _ y152 ⟨j153, j154, j155, j156, j157, j158, rfl⟩
  iterate 7 refine .uc ?_
  refine .bg (fun t (y : Bool) => ∃ j162 j163 j164 j165 j166 j167 j168 : A, t = [(bA y), j162, j163, j164, j165, j166, j167, j168]) ?_ ?_
  ·refine .biH (fun hk159 => ?_) (fun hk159 => ?_)
   ·exact .lg ⟨_, _, _, _, _, _, _, rfl⟩
   refine .s (A.ptr 4 0) (.s (A.imm (List.map (cL c8) y143.2.1.Sectors) false) ?_)
   refine .bd (g := fun (y : (List UInt8)) => A.ip ((cL c8) y)) (idx_imm (e := 35) (es := 1) (h1 := by kernel_rfl) (h2 := by kernel_rfl) (h3 := fun _ => rfl) ..) fun y160 => ?_
   refine .s (A.imm (List.map c8 y160) false) ?_
   refine .st (v := (iA ((y160.length : Int)))) (len_imm (e := 5) (h1 := by kernel_rfl) ..) ?_
   refine .st (v := (bA (((y160.length : Int)) != 128))) (aBin_neq ..) ?_
   exact .lg ⟨_, _, _, _, _, _, _, rfl⟩
  rintro _ y161 ⟨j162, j163, j164, j165, j166, j167, j168, rfl⟩
  iterate 8 refine .uc ?_
  refine .biHN (fun hk169 => ?_) (fun hk169 => ?_)
  ·exact .lf rfl rfl ⟨_, rfl, rfl⟩
  refine .s (A.imm [] true) (.s (A.ptr 4 0) (.s (A.imm (List.map (cL c8) y143.2.1.Sectors) false) ?_))
  refine .bd (g := fun (y : (List UInt8)) => A.ip ((cL c8) y)) (idx_imm (e := 35) (es := 1) (h1 := by kernel_rfl) (h2 := by kernel_rfl) (h3 := fun _ => rfl) ..) fun y170 => ?_
  refine .s (A.imm (List.map c8 y170) false) ?_
  refine .bd (g := fun (y : List UInt8) => ((A.sl 5 0 y.length false), [Blk.box (c_S_Disk y3.1), Blk.box [(A.imm (List.map (cL c8) y136) false), (iA y137), (iA y138)], Blk.row false 1 (List.map (cI .i64) y139), Blk.box (c_S_Journal y143.1), Blk.box (c_S_Disk y143.2.1), Blk.row true 1 (List.map c8 y)])) (wrow_app (e := 5) (es := 1) (by_ := 1) (z := [(uA 0)]) (by kernel_rfl) (by kernel_rfl) (by kernel_rfl) (by kernel_rfl) rfl (by decide) (by decide) (by kernel_rfl) (f := c8) (fun _ => rfl) ce_c8 (l2 := y170) (els_imm ..)) fun y171 => ?_
  refine .st (v := (A.v (.int .u64 (wr .u64 (a2))))) (aConvert_int (hs := by kernel_rfl) (hd := by kernel_rfl) ..) ?_
  refine .st (v := (A.v (.int .u64 (Int.tmod (wr .u64 (a2)) 128)))) (aBin_rem (hb := by decide) ..) ?_
  refine .bd (g := fun (y : Nat) => A.ep 5 y 0) (wrow_idx0 (e := 5) (es := 1) (l := y171) (by kernel_rfl) (by kernel_rfl) rfl) fun k172 => ?_
  refine .bd (g := fun (y : UInt8) => (uA ((y.toNat : Int)))) (wrow_load (es := 1) (n := 1) (l := y171) (by kernel_rfl) (by decide) (fun _ => rfl) (by decide) rfl (fun _ => by kernel_rfl)) fun y173 => ?_
  refine .st (v := (uA (xorI .u8 ((y173.toNat : Int)) a3))) (aBin_bits_xor ..) ?_
  refine .bd (g := fun (y : Nat) => A.ep 5 y 0) (wrow_idx0 (e := 5) (es := 1) (l := y171) (by kernel_rfl) (by kernel_rfl) rfl) fun k174 => ?_
  refine .gd fun hg => ?_
  refine .bd (g := fun (y : List UInt8) => [Blk.box (c_S_Disk y3.1), Blk.box [(A.imm (List.map (cL c8) y136) false), (iA y137), (iA y138)], Blk.row false 1 (List.map (cI .i64) y139), Blk.box (c_S_Journal y143.1), Blk.box (c_S_Disk y143.2.1), Blk.row true 1 (List.map c8 y)]) ((congrArg (fun z => aStore _ _ _ (A.v (.int .u8 z)) _ _) (u8_back hg).symm).trans ((wrow_store (es := 1) (n := 1) (l := y171) (xs := [(uA (((UInt8.ofNat (Int.toNat (xorI .u8 ((y173.toNat : Int)) a3))).toNat : Int)))]) (u := fun (y : UInt8) => (UInt8.ofNat (Int.toNat (xorI .u8 ((y173.toNat : Int)) a3)))) (by kernel_rfl) (by kernel_rfl) (by decide) rfl (fun _ => rfl) (by decide) (by decide) rfl (fun _ => rfl)))) fun y175 => ?_
  refine .st (v := ((A.imm (List.map c8 ((List.take y171.length (List.drop 0 y175)))) false), [Blk.box (c_S_Disk y3.1), Blk.box [(A.imm (List.map (cL c8) y136) false), (iA y137), (iA y138)], Blk.row false 1 (List.map (cI .i64) y139), Blk.box (c_S_Journal y143.1), Blk.box (c_S_Disk y143.2.1), Blk.dead])) (kill_row (es := 1) (l := y175) fl_c8 rfl (by decide)) ?_
  refine .s (A.agg (c_S_Disk y143.2.1)) ?_
  refine .bd (g := fun (y : (S_Disk × Int)) => (A.tup [(A.agg [(A.imm (List.map (cL c8) y.1.Sectors) false), (A.imm (List.map c_S_Write y.1.Pending) false), (iA y.1.Left), (bA y.1.Stopped)]), (iA y.2)])) (by show C 26 [snap _ (A.agg (c_S_Disk y143.2.1)), snap _ (iA (wr .i64 (Int.tmod (wr .u64 (a1)) (wr .u64 (y150))))), snap _ (A.imm (List.map c8 ((List.take y171.length (List.drop 0 y175)))) false)] = _; simp only [sn0, snM, snapG_row (H := [Blk.box (c_S_Disk y3.1), Blk.box [(A.imm (List.map (cL c8) y136) false), (iA y137), (iA y138)], Blk.row false 1 (List.map (cI .i64) y139), Blk.box (c_S_Journal y143.1), Blk.box (c_S_Disk y143.2.1), Blk.dead]) (b := 2) (es := 1) (l := y139) (fl_cI _) rfl]; exact h26 y143.2.1 (wr .i64 (Int.tmod (wr .u64 (a1)) (wr .u64 (y150)))) ((List.take y171.length (List.drop 0 y175)))) fun y176 => ?_
  refine .s (A.agg (c_S_Disk y176.1)) (.s (iA y176.2) (.s [Blk.box (c_S_Disk y3.1), Blk.box [(A.imm (List.map (cL c8) y136) false), (iA y137), (iA y138)], Blk.row false 1 (List.map (cI .i64) y139), Blk.box (c_S_Journal y143.1), Blk.box (c_S_Disk y176.1), Blk.dead] (.s (A.agg (c_S_Disk y176.1)) ?_)))
  refine .bd (g := fun (y : (S_Disk × Int)) => (A.tup [(A.agg [(A.imm (List.map (cL c8) y.1.Sectors) false), (A.imm (List.map c_S_Write y.1.Pending) false), (iA y.1.Left), (bA y.1.Stopped)]), (iA y.2)])) (by show C 27 [snap _ (A.agg (c_S_Disk y176.1))] = _; simp only [sn0, snM, snapG_row (H := [Blk.box (c_S_Disk y3.1), Blk.box [(A.imm (List.map (cL c8) y136) false), (iA y137), (iA y138)], Blk.row false 1 (List.map (cI .i64) y139), Blk.box (c_S_Journal y143.1), Blk.box (c_S_Disk y176.1), Blk.dead]) (b := 2) (es := 1) (l := y139) (fl_cI _) rfl]; exact h27 y176.1) fun y177 => ?_
  refine .s (A.agg (c_S_Disk y177.1)) (.s (iA y177.2) (.s [Blk.box (c_S_Disk y3.1), Blk.box [(A.imm (List.map (cL c8) y136) false), (iA y137), (iA y138)], Blk.row false 1 (List.map (cI .i64) y139), Blk.box (c_S_Journal y143.1), Blk.box (c_S_Disk y177.1), Blk.dead] (.s (A.agg (c_S_Disk y177.1)) ?_)))
  refine .bd (g := fun (y : (S_Journal × Int)) => (A.tup [(A.agg [(A.imm (List.map (cL c8) y.1.Records) false), (iA y.1.Many), (iA y.1.Synced)]), (iA y.2)])) (by show C 12 [snap _ (A.agg (c_S_Disk y177.1))] = _; simp only [sn0, snM, snapG_row (H := [Blk.box (c_S_Disk y3.1), Blk.box [(A.imm (List.map (cL c8) y136) false), (iA y137), (iA y138)], Blk.row false 1 (List.map (cI .i64) y139), Blk.box (c_S_Journal y143.1), Blk.box (c_S_Disk y177.1), Blk.dead]) (b := 2) (es := 1) (l := y139) (fl_cI _) rfl]; exact h12 y177.1) fun y178 => ?_
  refine .s (A.agg (c_S_Journal y178.1)) (.s (iA y178.2) (.s ((A.ptr 6 0), [Blk.box (c_S_Disk y3.1), Blk.box [(A.imm (List.map (cL c8) y136) false), (iA y137), (iA y138)], Blk.row false 1 (List.map (cI .i64) y139), Blk.box (c_S_Journal y143.1), Blk.box (c_S_Disk y177.1), Blk.dead, bz3]) (.s [Blk.box (c_S_Disk y3.1), Blk.box [(A.imm (List.map (cL c8) y136) false), (iA y137), (iA y138)], Blk.row false 1 (List.map (cI .i64) y139), Blk.box (c_S_Journal y143.1), Blk.box (c_S_Disk y177.1), Blk.dead, Blk.box (c_S_Journal y178.1)] ?_)))
  refine .lp (congrArg (fun z => loopR (cx C) _ _ _ _ _ _ _ _ _ _ _ _ (St.mk [(8, (bA false)), (11, (A.ptr 1 0)), (13, z), (21, (iA y176.2)), (22, (iA (wr .i64 (Int.tmod (wr .u64 (a1)) (wr .u64 (y150)))))), (24, (iA y177.2)), (25, (A.ptr 6 0)), (26, (iA y178.2)), (27, (iA 0))] _)) (show frz [Blk.box (c_S_Disk y3.1), Blk.box [(A.imm (List.map (cL c8) y136) false), (iA y137), (iA y138)], Blk.row false 1 (List.map (cI .i64) y139), Blk.box (c_S_Journal y143.1), Blk.box (c_S_Disk y177.1), Blk.dead, Blk.box (c_S_Journal y178.1)] (A.sl 2 0 y139.length false) = (A.imm (List.map (cI .i64) y139) false) from by simp only [frz, frzC, sn0, snM, snapG_row (H := [Blk.box (c_S_Disk y3.1), Blk.box [(A.imm (List.map (cL c8) y136) false), (iA y137), (iA y138)], Blk.row false 1 (List.map (cI .i64) y139), Blk.box (c_S_Journal y143.1), Blk.box (c_S_Disk y177.1), Blk.dead, Blk.box (c_S_Journal y178.1)]) (b := 2) (es := 1) (l := y139) (fl_cI _) rfl])) ?_
  refine .as (T7_7_1a C n h10 h11 h12 h15 h21 h24 h25 h26 h27 false y139 y176.2 (wr .i64 (Int.tmod (wr .u64 (a1)) (wr .u64 (y150)))) y177.2 y178.2 y3.1 y136 y137 y138 y139 y143.1 y177.1 y178.1 _ _ _ _ ?_ _ 0)
  ·intro y205 j206 j207 j208
   refine .un rfl ?_
   refine .cT (by kernel_rfl) ?_
   refine .st (v := (bA (y176.2 == 0))) (aBin_eql ..) ?_
   refine .bg (fun t (y : Bool) => ∃ j211 j212 : A, t = [(bA y), j211, j212]) ?_ ?_
   ·refine .biH (fun hk209 => ?_) (fun hk209 => ?_)
    ·refine .st (v := (bA (y177.2 == 0))) (aBin_eql ..) ?_
     exact .lg ⟨_, _, rfl⟩
    exact .lg ⟨_, _, rfl⟩
   rintro _ y210 ⟨j211, j212, rfl⟩
   iterate 3 refine .uc ?_
   refine .bg (fun t (y : Bool) => ∃ j215 j216 : A, t = [(bA y), j215, j216]) ?_ ?_
   ·refine .biH (fun hk213 => ?_) (fun hk213 => ?_)
    ·refine .st (v := (bA (y178.2 == 0))) (aBin_eql ..) ?_
     exact .lg ⟨_, _, rfl⟩
    exact .lg ⟨_, _, rfl⟩
   rintro _ y214 ⟨j215, j216, rfl⟩
   iterate 3 refine .uc ?_
   refine .gst (fun hc217 => ?_) (fun hc217 => ?_)
   ·refine .bb ?_
    refine .s (A.ptr 6 0) (.s (A.imm (List.map (cL c8) y178.1.Records) false) (.s (A.ptr 1 0) (.s (A.imm (List.map (cL c8) y136) false) ?_)))
    refine .bd (g := fun (y : List (List UInt8)) => (A.imm (List.map (cL c8) y) false)) (cut_imm (e := 35) (es := 1) (f := (cL c8)) (l := y136) (a := 0) (b := y205) (by kernel_rfl) (by kernel_rfl) (fun _ => rfl) (.inl ⟨rfl, rfl⟩) (.inr ⟨_, rfl⟩)) fun y218 => ?_
    refine .cr ?_
    iterate 6 refine .uc ?_
    refine .bg (fun t (y : Bool) => ∃ j221 : A, t = [(bA y), j221]) ?_ ?_
    ·refine .bKT hc217 ?_
     refine .bd (g := fun (y : Bool) => (bA y)) (by show C 24 [snap _ (A.imm (List.map (cL c8) y178.1.Records) false), snap _ (A.imm (List.map (cL c8) y218) false)] = _; simp only [sn0, snM, snapG_row (H := [Blk.box (c_S_Disk y3.1), Blk.box [(A.imm (List.map (cL c8) y136) false), (iA y137), (iA y138)], Blk.row false 1 (List.map (cI .i64) y139), Blk.box (c_S_Journal y143.1), Blk.box (c_S_Disk y177.1), Blk.dead, Blk.box (c_S_Journal y178.1)]) (b := 2) (es := 1) (l := y139) (fl_cI _) rfl]; exact h24 y178.1.Records y218) fun y219 => ?_
     exact .lg ⟨_, rfl⟩
    rintro _ y220 ⟨j221, rfl⟩
    iterate 2 refine .uc ?_
    exact .lf rfl rfl ⟨_, rfl, rfl⟩
   refine .bb ?_
   refine .cr ?_
   iterate 6 refine .uc ?_
   refine .bg (fun t (y : Bool) => ∃ j223 : A, t = [(bA y), j223]) ?_ ?_
   ·refine .bKF hc217 ?_
    exact .lg ⟨_, rfl⟩
   rintro _ y222 ⟨j223, rfl⟩
   iterate 2 refine .uc ?_
   exact .lf rfl rfl ⟨_, rfl, rfl⟩
def G7 (a0 : (List (List UInt8))) (a1 : Int) (a2 : Int) (a3 : Int) : Option Bool := F7 fuel0 a0 a1 a2 a3
end Go.Proofs.Ytobjniabioaefaa
