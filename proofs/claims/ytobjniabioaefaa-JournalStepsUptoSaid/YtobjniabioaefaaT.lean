/-
 The program's functions as plain functions: by a tool; each follows the interpreter.
-/
import Derived.Test.YtobjniabioaefaaT1
import Derived.KernelRfl
namespace Go.Proofs.Ytobjniabioaefaa
open Go.Proofs.Try (prog)
set_option linter.unusedVariables false
set_option linter.unusedSimpArgs false
set_option maxHeartbeats 4000000
set_option maxRecDepth 100000
def hk21_2 (a0 : S_Journal) : Blk := Blk.box [(A.imm (List.map (cL c8) a0.Records) false), (iA a0.Many), (iA ((a0.Records.length : Int)))]
def F21_21_0 (n : Nat) (v13 : Int) (v15 : (List (List UInt8))) (v16 : Int) (v18 : S_Journal) (v19 : S_Disk) (v20 : (List (List UInt8))) (v21 : Int) (v22 : Int) (v23 : (List (List UInt8))) (v24 : (List S_Write)) (v25 : Int) (v26 : Bool) (v27 : S_Journal) : Nat -> Int -> Int -> Option (Int)
 | 0, _, _ => none
 | m + 1, v14, v17 => bif (decide (v17 < v16)) then ((getI v15 v17).bind fun y29 => (subI y29 0 4).bind fun y30 => (G41 y30).bind fun y31 => (subI y29 124 ((y29.length : Int))).bind fun y32 => (G41 y32).bind fun y33 => F21_21_0 n v13 v15 v16 v18 v19 v20 v21 v22 v23 v24 v25 v26 v27 m ((if (if v14 < wr .u64 (y31 + 1) then wr .u64 (y31 + 1) else v14) < wr .u64 (y33 + 1) then wr .u64 (y33 + 1) else (if v14 < wr .u64 (y31 + 1) then wr .u64 (y31 + 1) else v14))) (wr .i64 (v17 + 1))) else (some v14)
theorem T21_21_0 (C : Nat -> List A -> Option A) (n : Nat) (h12 : Orc12 C) (h17 : Orc17 C) (h26 : Orc26 C) (h27 : Orc27 C) (h31 : Orc31 C) (h35 : Orc35 C) (h36 : Orc36 C) (h41 : Orc41 C) (h42_43 : Orc42_43 C) (h44 : Orc44 C) (v13 : Int) (v15 : (List (List UInt8))) (v16 : Int) (v18 : S_Journal) (v19 : S_Disk) (v20 : (List (List UInt8))) (v21 : Int) (v22 : Int) (v23 : (List (List UInt8))) (v24 : (List S_Write)) (v25 : Int) (v26 : Bool) (v27 : S_Journal) {ρ γ : Type} {φ : ρ -> γ -> Prop} {kL : R -> Option ρ} {K : (Int) -> Option γ} (kx kg : Nat -> St -> Option R) (kr : St -> Option R) (kp : A -> St -> Option R) (x0 : ∀ (o0 : Int) (s57 : A) (s58 : A) (s59 : A), J φ (kx 0 (St.mk [(2, (A.ptr 0 0)), (3, (A.ptr 1 0)), (4, (A.ptr 2 0)), (5, (A.ptr 3 0)), (6, (iA v13)), (9, (A.ptr 4 0)), (10, (A.v (.int .u64 o0))), (57, s57), (58, s58), (59, s59)] [Blk.box (c_S_Journal v18), Blk.box (c_S_Disk v19), Blk.box [(A.imm (List.map (cL c8) v20) true), (iA v21), (iA v22)], Blk.box [(A.imm (List.map (cL c8) v23) true), (A.imm (List.map c_S_Write v24) true), (iA v25), (bA v26)], Blk.box (c_S_Journal v27)])) kL (K o0) some) :
  ∀ (m : Nat) (v14 : Int) (v17 : Int), J φ (loopR (cx C) (ec C n 8) (ey C n 8) (n+8) 21 0 0 5 kx kg kr kp m (St.mk [(2, (A.ptr 0 0)), (3, (A.ptr 1 0)), (4, (A.ptr 2 0)), (5, (A.ptr 3 0)), (6, (iA v13)), (9, (A.ptr 4 0)), (10, (A.v (.int .u64 v14))), (57, (A.imm (List.map (cL c8) v15) false)), (58, (iA v16)), (59, (iA v17))] [Blk.box (c_S_Journal v18), Blk.box (c_S_Disk v19), Blk.box [(A.imm (List.map (cL c8) v20) true), (iA v21), (iA v22)], Blk.box [(A.imm (List.map (cL c8) v23) true), (A.imm (List.map c_S_Write v24) true), (iA v25), (bA v26)], Blk.box (c_S_Journal v27)])) kL (F21_21_0 n v13 v15 v16 v18 v19 v20 v21 v22 v23 v24 v25 v26 v27 m v14 v17) K := by
 intro m
 induction m with
 | zero => intros; exact .nn
 | succ m ih =>
  intro v14 v17
  refine .lp (e21_0 ..) ?_
  unfold F21_21_0
  refine .st (v := (bA (decide (v17 < v16)))) (aBin_lss ..) ?_
  refine .biHN (fun hk28 => ?_) (fun hk28 => ?_)
  ·refine .bd (g := fun (y : (List UInt8)) => A.ip ((cL c8) y)) (idx_imm (e := 35) (es := 1) (h1 := by kernel_rfl) (h2 := by kernel_rfl) (h3 := fun _ => rfl) ..) fun y29 => ?_
   refine .s (A.imm (List.map c8 y29) false) ?_
   refine .bd (g := fun (y : List UInt8) => (A.imm (List.map c8 y) false)) (cut_imm (e := 5) (es := 1) (f := c8) (l := y29) (a := 0) (b := 4) (by kernel_rfl) (by kernel_rfl) (fun _ => rfl) (.inl ⟨rfl, rfl⟩) (.inr ⟨_, rfl⟩)) fun y30 => ?_
   refine .bd (g := fun (y : Int) => (A.v (.int .u64 y))) (by show C 41 [snap _ (A.imm (List.map c8 y30) false)] = _; simp only [sn0, snM]; exact h41 y30) fun y31 => ?_
   refine .st (v := (A.v (.int .u64 (wr .u64 (y31 + 1))))) (aBin_add ..) ?_
   refine .bd (g := fun (y : List UInt8) => (A.imm (List.map c8 y) false)) (cut_imm (e := 5) (es := 1) (f := c8) (l := y29) (a := 124) (b := (y29.length : Int)) (by kernel_rfl) (by kernel_rfl) (fun _ => rfl) (.inr ⟨_, rfl⟩) (.inl ⟨rfl, rfl⟩)) fun y32 => ?_
   refine .bd (g := fun (y : Int) => (A.v (.int .u64 y))) (by show C 41 [snap _ (A.imm (List.map c8 y32) false)] = _; simp only [sn0, snM]; exact h41 y32) fun y33 => ?_
   refine .st (v := (A.v (.int .u64 (wr .u64 (y33 + 1))))) (aBin_add ..) ?_
   refine .s (A.v (.int .u64 ((if (if v14 < wr .u64 (y31 + 1) then wr .u64 (y31 + 1) else v14) < wr .u64 (y33 + 1) then wr .u64 (y33 + 1) else (if v14 < wr .u64 (y31 + 1) then wr .u64 (y31 + 1) else v14))))) ?_
   refine .st (v := (iA (wr .i64 (v17 + 1)))) (aBin_add ..) ?_
   refine .s [Blk.box (c_S_Journal v18), Blk.box (c_S_Disk v19), Blk.box [(A.imm (List.map (cL c8) v20) true), (iA v21), (iA v22)], Blk.box [(A.imm (List.map (cL c8) v23) true), (A.imm (List.map c_S_Write v24) true), (iA v25), (bA v26)], Blk.box (c_S_Journal v27)] ?_
   refine .cT (by kernel_rfl) ?_
   exact ih _ _
  exact .ex (x0 _ _ _ _)
def F21_21_2 (n : Nat) (v71 : Int) (v76 : (List (List UInt8))) (v77 : Int) (v78 : Int) (v79 : S_Journal) (v81 : (List (List UInt8))) (v82 : Int) (v83 : Int) (v84 : (List (List UInt8))) (v85 : (List S_Write)) (v86 : Int) (v87 : Bool) (v88 : S_Journal) : Nat -> Int -> Int -> (List UInt8) -> Int -> Int -> S_Disk -> Option ((Int × Int × (List (List UInt8)) × (List S_Write) × Int × Bool × Int × Int × Int × Bool) ⊕ (Int × Int × (List (List UInt8)) × (List S_Write) × Int × Bool))
 | 0, _, _, _, _, _, _ => none
 | m + 1, v70, v72, v73, v74, v75, v80 => bif (decide (0 < v75)) then (bif (v75 == 1) then ((subI v73 0 ((if 112 < (v73.length : Int) then 112 else (v73.length : Int)))).bind fun y91 => (G44 v71 v72 (orI .u8 v74 2) y91).bind fun y92 => (G26 v80 v72 y92).bind fun y93 => bif (y93.2 != 0) then (some ((Sum.inl ((y93.2, v72, y93.1.Sectors, y93.1.Pending, y93.1.Left, y93.1.Stopped, 0, 0, 0, false))))) else ((subI v73 ((if 112 < (v73.length : Int) then 112 else (v73.length : Int))) ((v73.length : Int))).bind fun y95 => F21_21_2 n v71 v76 v77 v78 v79 v81 v82 v83 v84 v85 v86 v87 v88 m y93.2 (wr .i64 (v72 + 1)) y95 0 (wr .i64 (v75 - 1)) y93.1)) else ((subI v73 0 ((if 112 < (v73.length : Int) then 112 else (v73.length : Int)))).bind fun y96 => (G44 v71 v72 v74 y96).bind fun y97 => (G26 v80 v72 y97).bind fun y98 => bif (y98.2 != 0) then (some ((Sum.inl ((y98.2, v72, y98.1.Sectors, y98.1.Pending, y98.1.Left, y98.1.Stopped, 0, 0, 0, false))))) else ((subI v73 ((if 112 < (v73.length : Int) then 112 else (v73.length : Int))) ((v73.length : Int))).bind fun y100 => F21_21_2 n v71 v76 v77 v78 v79 v81 v82 v83 v84 v85 v86 v87 v88 m y98.2 (wr .i64 (v72 + 1)) y100 0 (wr .i64 (v75 - 1)) y98.1))) else (some ((Sum.inr ((v70, v72, v80.Sectors, v80.Pending, v80.Left, v80.Stopped)))))
theorem T21_21_2 (C : Nat -> List A -> Option A) (n : Nat) (h12 : Orc12 C) (h17 : Orc17 C) (h26 : Orc26 C) (h27 : Orc27 C) (h31 : Orc31 C) (h35 : Orc35 C) (h36 : Orc36 C) (h41 : Orc41 C) (h42_43 : Orc42_43 C) (h44 : Orc44 C) (v71 : Int) (v76 : (List (List UInt8))) (v77 : Int) (v78 : Int) (v79 : S_Journal) (v81 : (List (List UInt8))) (v82 : Int) (v83 : Int) (v84 : (List (List UInt8))) (v85 : (List S_Write)) (v86 : Int) (v87 : Bool) (v88 : S_Journal) {ρ γ : Type} {φ : ρ -> γ -> Prop} {kL : R -> Option ρ} {K : ((Int × Int × (List (List UInt8)) × (List S_Write) × Int × Bool × Int × Int × Int × Bool) ⊕ (Int × Int × (List (List UInt8)) × (List S_Write) × Int × Bool)) -> Option γ} (kx kg : Nat -> St -> Option R) (kr : St -> Option R) (kp : A -> St -> Option R) (x0 : ∀ (o0 : Int) (o1 : Int) (o2 : (List (List UInt8))) (o3 : (List S_Write)) (o4 : Int) (o5 : Bool) (o6 : Int) (o7 : Int) (o8 : Int) (o9 : Bool) (s15 : A) (s16 : A) (s17 : A), J φ (kr (St.mk [(2, (A.ptr 0 0)), (3, (A.ptr 1 0)), (4, (A.ptr 2 0)), (5, (A.ptr 3 0)), (6, (iA o0)), (10, (A.v (.int .u64 v71))), (13, (iA o1)), (15, s15), (16, s16), (17, s17), (108, (A.imm (List.map (cL c8) v76) false)), (109, (iA v77)), (110, (iA v78))] [Blk.box (c_S_Journal v79), Blk.box [(A.imm (List.map (cL c8) o2) false), (A.imm (List.map c_S_Write o3) false), (iA o4), (bA o5)], Blk.box [(A.imm [] true), (iA o6), (iA o7)], Blk.box [(A.imm [] true), (A.imm [] true), (iA o8), (bA o9)], Blk.box (c_S_Journal v88)])) kL (K (Sum.inl ((o0, o1, o2, o3, o4, o5, o6, o7, o8, o9)))) some) (x1 : ∀ (o0 : Int) (o1 : Int) (o2 : (List (List UInt8))) (o3 : (List S_Write)) (o4 : Int) (o5 : Bool) (s15 : A) (s16 : A) (s17 : A), J φ (kx 4 (St.mk [(2, (A.ptr 0 0)), (3, (A.ptr 1 0)), (4, (A.ptr 2 0)), (5, (A.ptr 3 0)), (6, (iA o0)), (10, (A.v (.int .u64 v71))), (13, (iA o1)), (15, s15), (16, s16), (17, s17), (108, (A.imm (List.map (cL c8) v76) false)), (109, (iA v77)), (110, (iA v78))] [Blk.box (c_S_Journal v79), Blk.box [(A.imm (List.map (cL c8) o2) false), (A.imm (List.map c_S_Write o3) false), (iA o4), (bA o5)], Blk.box [(A.imm (List.map (cL c8) v81) true), (iA v82), (iA v83)], (hk27_1 v84 v85 v86 v87), Blk.box (c_S_Journal v88)])) kL (K (Sum.inr ((o0, o1, o2, o3, o4, o5)))) some) :
  ∀ (m : Nat) (v70 : Int) (v72 : Int) (v73 : (List UInt8)) (v74 : Int) (v75 : Int) (v80 : S_Disk), J φ (loopR (cx C) (ec C n 8) (ey C n 8) (n+8) 21 0 2 5 kx kg kr kp m (St.mk [(2, (A.ptr 0 0)), (3, (A.ptr 1 0)), (4, (A.ptr 2 0)), (5, (A.ptr 3 0)), (6, (iA v70)), (10, (A.v (.int .u64 v71))), (13, (iA v72)), (15, (A.imm (List.map c8 v73) false)), (16, (uA v74)), (17, (iA v75)), (108, (A.imm (List.map (cL c8) v76) false)), (109, (iA v77)), (110, (iA v78))] [Blk.box (c_S_Journal v79), Blk.box (c_S_Disk v80), Blk.box [(A.imm (List.map (cL c8) v81) true), (iA v82), (iA v83)], (hk27_1 v84 v85 v86 v87), Blk.box (c_S_Journal v88)])) kL (F21_21_2 n v71 v76 v77 v78 v79 v81 v82 v83 v84 v85 v86 v87 v88 m v70 v72 v73 v74 v75 v80) K := by
 intro m
 induction m with
 | zero => intros; exact .nn
 | succ m ih =>
  intro v70 v72 v73 v74 v75 v80
  refine .lp (e21_2 ..) ?_
  unfold F21_21_2
  refine .st (v := (bA (decide (0 < v75)))) (aBin_gtr ..) ?_
  refine .biHN (fun hk89 => ?_) (fun hk89 => ?_)
  ·refine .st (v := (bA (v75 == 1))) (aBin_eql ..) ?_
   refine .biHN (fun hk90 => ?_) (fun hk90 => ?_)
   ·refine .st (v := (uA (orI .u8 v74 2))) (aBin_bits_or ..) ?_
    refine .st (v := (iA ((v73.length : Int)))) (len_imm (e := 5) (h1 := by kernel_rfl) ..) ?_
    refine .s (iA ((if 112 < (v73.length : Int) then 112 else (v73.length : Int)))) (.s (A.agg (c_S_Disk v80)) ?_)
    refine .bd (g := fun (y : List UInt8) => (A.imm (List.map c8 y) false)) (cut_imm (e := 5) (es := 1) (f := c8) (l := v73) (a := 0) (b := (if 112 < (v73.length : Int) then 112 else (v73.length : Int))) (by kernel_rfl) (by kernel_rfl) (fun _ => rfl) (.inl ⟨rfl, rfl⟩) (.inr ⟨_, rfl⟩)) fun y91 => ?_
    refine .bd (g := fun (y : (List UInt8)) => (A.imm (List.map c8 y) false)) (by show C 44 [snap _ (A.v (.int .u64 v71)), snap _ (iA v72), snap _ (uA (orI .u8 v74 2)), snap _ (A.imm (List.map c8 y91) false)] = _; simp only [sn0, snM]; exact h44 v71 v72 (orI .u8 v74 2) y91) fun y92 => ?_
    refine .bd (g := fun (y : (S_Disk × Int)) => (A.tup [(A.agg [(A.imm (List.map (cL c8) y.1.Sectors) false), (A.imm (List.map c_S_Write y.1.Pending) false), (iA y.1.Left), (bA y.1.Stopped)]), (iA y.2)])) (by show C 26 [snap _ (A.agg (c_S_Disk v80)), snap _ (iA v72), snap _ (A.imm (List.map c8 y92) false)] = _; simp only [sn0, snM]; exact h26 v80 v72 y92) fun y93 => ?_
    refine .s (A.agg (c_S_Disk y93.1)) (.s (iA y93.2) (.s [Blk.box (c_S_Journal v79), Blk.box (c_S_Disk y93.1), Blk.box [(A.imm (List.map (cL c8) v81) true), (iA v82), (iA v83)], (hk27_1 v84 v85 v86 v87), Blk.box (c_S_Journal v88)] ?_))
    refine .st (v := (bA (y93.2 != 0))) (aBin_neq ..) ?_
    refine .biHN (fun hk94 => ?_) (fun hk94 => ?_)
    ·refine .s (A.agg [(A.imm [] true), (iA 0), (iA 0)]) (.s (A.agg [(A.imm [] true), (A.imm [] true), (iA 0), (bA false)]) (.s [Blk.box (c_S_Journal v79), Blk.box (c_S_Disk y93.1), bz3, (hk27_1 v84 v85 v86 v87), Blk.box (c_S_Journal v88)] (.s [Blk.box (c_S_Journal v79), Blk.box (c_S_Disk y93.1), bz3, bz4, Blk.box (c_S_Journal v88)] ?_)))
     exact .ex (x0 _ _ _ _ _ _ _ _ _ _ _ _ _)
    refine .bd (g := fun (y : List UInt8) => (A.imm (List.map c8 y) false)) (cut_imm (e := 5) (es := 1) (f := c8) (l := v73) (a := (if 112 < (v73.length : Int) then 112 else (v73.length : Int))) (b := (v73.length : Int)) (by kernel_rfl) (by kernel_rfl) (fun _ => rfl) (.inr ⟨_, rfl⟩) (.inl ⟨rfl, rfl⟩)) fun y95 => ?_
    refine .st (v := (iA (wr .i64 (v72 + 1)))) (aBin_add ..) ?_
    refine .st (v := (iA (wr .i64 (v75 - 1)))) (aBin_sub ..) ?_
    refine .s [Blk.box (c_S_Journal v79), Blk.box (c_S_Disk y93.1), Blk.box [(A.imm (List.map (cL c8) v81) true), (iA v82), (iA v83)], (hk27_1 v84 v85 v86 v87), Blk.box (c_S_Journal v88)] ?_
    refine .cT (by kernel_rfl) ?_
    exact ih _ _ _ _ _ _
   refine .st (v := (iA ((v73.length : Int)))) (len_imm (e := 5) (h1 := by kernel_rfl) ..) ?_
   refine .s (iA ((if 112 < (v73.length : Int) then 112 else (v73.length : Int)))) (.s (A.agg (c_S_Disk v80)) ?_)
   refine .bd (g := fun (y : List UInt8) => (A.imm (List.map c8 y) false)) (cut_imm (e := 5) (es := 1) (f := c8) (l := v73) (a := 0) (b := (if 112 < (v73.length : Int) then 112 else (v73.length : Int))) (by kernel_rfl) (by kernel_rfl) (fun _ => rfl) (.inl ⟨rfl, rfl⟩) (.inr ⟨_, rfl⟩)) fun y96 => ?_
   refine .bd (g := fun (y : (List UInt8)) => (A.imm (List.map c8 y) false)) (by show C 44 [snap _ (A.v (.int .u64 v71)), snap _ (iA v72), snap _ (uA v74), snap _ (A.imm (List.map c8 y96) false)] = _; simp only [sn0, snM]; exact h44 v71 v72 v74 y96) fun y97 => ?_
   refine .bd (g := fun (y : (S_Disk × Int)) => (A.tup [(A.agg [(A.imm (List.map (cL c8) y.1.Sectors) false), (A.imm (List.map c_S_Write y.1.Pending) false), (iA y.1.Left), (bA y.1.Stopped)]), (iA y.2)])) (by show C 26 [snap _ (A.agg (c_S_Disk v80)), snap _ (iA v72), snap _ (A.imm (List.map c8 y97) false)] = _; simp only [sn0, snM]; exact h26 v80 v72 y97) fun y98 => ?_
   refine .s (A.agg (c_S_Disk y98.1)) (.s (iA y98.2) (.s [Blk.box (c_S_Journal v79), Blk.box (c_S_Disk y98.1), Blk.box [(A.imm (List.map (cL c8) v81) true), (iA v82), (iA v83)], (hk27_1 v84 v85 v86 v87), Blk.box (c_S_Journal v88)] ?_))
   refine .st (v := (bA (y98.2 != 0))) (aBin_neq ..) ?_
   refine .biHN (fun hk99 => ?_) (fun hk99 => ?_)
   ·refine .s (A.agg [(A.imm [] true), (iA 0), (iA 0)]) (.s (A.agg [(A.imm [] true), (A.imm [] true), (iA 0), (bA false)]) (.s [Blk.box (c_S_Journal v79), Blk.box (c_S_Disk y98.1), bz3, (hk27_1 v84 v85 v86 v87), Blk.box (c_S_Journal v88)] (.s [Blk.box (c_S_Journal v79), Blk.box (c_S_Disk y98.1), bz3, bz4, Blk.box (c_S_Journal v88)] ?_)))
    exact .ex (x0 _ _ _ _ _ _ _ _ _ _ _ _ _)
   refine .bd (g := fun (y : List UInt8) => (A.imm (List.map c8 y) false)) (cut_imm (e := 5) (es := 1) (f := c8) (l := v73) (a := (if 112 < (v73.length : Int) then 112 else (v73.length : Int))) (b := (v73.length : Int)) (by kernel_rfl) (by kernel_rfl) (fun _ => rfl) (.inr ⟨_, rfl⟩) (.inl ⟨rfl, rfl⟩)) fun y100 => ?_
   refine .st (v := (iA (wr .i64 (v72 + 1)))) (aBin_add ..) ?_
   refine .st (v := (iA (wr .i64 (v75 - 1)))) (aBin_sub ..) ?_
   refine .s [Blk.box (c_S_Journal v79), Blk.box (c_S_Disk y98.1), Blk.box [(A.imm (List.map (cL c8) v81) true), (iA v82), (iA v83)], (hk27_1 v84 v85 v86 v87), Blk.box (c_S_Journal v88)] ?_
   refine .cT (by kernel_rfl) ?_
   exact ih _ _ _ _ _ _
  exact .ex (x1 _ _ _ _ _ _ _ _ _)
def F21_21_1 (n : Nat) (v52 : Int) (v54 : (List (List UInt8))) (v55 : Int) (v57 : S_Journal) (v59 : (List (List UInt8))) (v60 : Int) (v61 : Int) (v62 : (List (List UInt8))) (v63 : (List S_Write)) (v64 : Int) (v65 : Bool) (v66 : S_Journal) : Nat -> Int -> Int -> Int -> S_Disk -> Option ((Int × (List (List UInt8)) × (List S_Write) × Int × Bool × Int × Int × Int × Bool) ⊕ ((List (List UInt8)) × (List S_Write) × Int × Bool))
 | 0, _, _, _, _ => none
 | m + 1, v51, v53, v56, v58 => bif (decide (v56 < v55)) then ((getI v54 v56).bind fun y68 => (G35 y68).bind fun y69 => (F21_21_2 n v52 v54 v55 v56 v57 v59 v60 v61 v62 v63 v64 v65 v66 (n+8) v51 v53 y68 1 y69 v58).bind fun o101 => match o101 with | (Sum.inl ((y102, y103, y104, y105, y106, y107, y108, y109, y110, y111))) => some ((Sum.inl ((y102, y104, y105, y106, y107, y108, y109, y110, y111)))) | (Sum.inr ((y115, y116, y117, y118, y119, y120))) => F21_21_1 n v52 v54 v55 v57 v59 v60 v61 v62 v63 v64 v65 v66 m y115 y116 (wr .i64 (v56 + 1)) ((S_Disk.mk y117 y118 y119 y120))) else (some ((Sum.inr ((v58.Sectors, v58.Pending, v58.Left, v58.Stopped)))))
theorem T21_21_1 (C : Nat -> List A -> Option A) (n : Nat) (h12 : Orc12 C) (h17 : Orc17 C) (h26 : Orc26 C) (h27 : Orc27 C) (h31 : Orc31 C) (h35 : Orc35 C) (h36 : Orc36 C) (h41 : Orc41 C) (h42_43 : Orc42_43 C) (h44 : Orc44 C) (v52 : Int) (v54 : (List (List UInt8))) (v55 : Int) (v57 : S_Journal) (v59 : (List (List UInt8))) (v60 : Int) (v61 : Int) (v62 : (List (List UInt8))) (v63 : (List S_Write)) (v64 : Int) (v65 : Bool) (v66 : S_Journal) {ρ γ : Type} {φ : ρ -> γ -> Prop} {kL : R -> Option ρ} {K : ((Int × (List (List UInt8)) × (List S_Write) × Int × Bool × Int × Int × Int × Bool) ⊕ ((List (List UInt8)) × (List S_Write) × Int × Bool)) -> Option γ} (kx kg : Nat -> St -> Option R) (kr : St -> Option R) (kp : A -> St -> Option R) (x0 : ∀ (o0 : Int) (o1 : (List (List UInt8))) (o2 : (List S_Write)) (o3 : Int) (o4 : Bool) (o5 : Int) (o6 : Int) (o7 : Int) (o8 : Bool) (s2 : A) (s3 : A) (s10 : A) (s13 : A) (s108 : A) (s109 : A) (s110 : A), J φ (kr (St.mk [(2, s2), (3, s3), (4, (A.ptr 2 0)), (5, (A.ptr 3 0)), (6, (iA o0)), (10, s10), (13, s13), (108, s108), (109, s109), (110, s110)] [Blk.box (c_S_Journal v57), Blk.box [(A.imm (List.map (cL c8) o1) false), (A.imm (List.map c_S_Write o2) false), (iA o3), (bA o4)], Blk.box [(A.imm [] true), (iA o5), (iA o6)], Blk.box [(A.imm [] true), (A.imm [] true), (iA o7), (bA o8)], Blk.box (c_S_Journal v66)])) kL (K (Sum.inl ((o0, o1, o2, o3, o4, o5, o6, o7, o8)))) some) (x1 : ∀ (o0 : (List (List UInt8))) (o1 : (List S_Write)) (o2 : Int) (o3 : Bool) (s6 : A) (s10 : A) (s13 : A) (s108 : A) (s109 : A) (s110 : A), J φ (kx 2 (St.mk [(2, (A.ptr 0 0)), (3, (A.ptr 1 0)), (4, (A.ptr 2 0)), (5, (A.ptr 3 0)), (6, s6), (10, s10), (13, s13), (108, s108), (109, s109), (110, s110)] [Blk.box (c_S_Journal v57), Blk.box [(A.imm (List.map (cL c8) o0) false), (A.imm (List.map c_S_Write o1) false), (iA o2), (bA o3)], Blk.box [(A.imm (List.map (cL c8) v59) true), (iA v60), (iA v61)], Blk.box [(A.imm (List.map (cL c8) v62) true), (A.imm (List.map c_S_Write v63) true), (iA v64), (bA v65)], Blk.box (c_S_Journal v66)])) kL (K (Sum.inr ((o0, o1, o2, o3)))) some) :
  ∀ (m : Nat) (v51 : Int) (v53 : Int) (v56 : Int) (v58 : S_Disk), J φ (loopR (cx C) (ec C n 8) (ey C n 8) (n+8) 21 0 1 5 kx kg kr kp m (St.mk [(2, (A.ptr 0 0)), (3, (A.ptr 1 0)), (4, (A.ptr 2 0)), (5, (A.ptr 3 0)), (6, (iA v51)), (10, (A.v (.int .u64 v52))), (13, (iA v53)), (108, (A.imm (List.map (cL c8) v54) false)), (109, (iA v55)), (110, (iA v56))] [Blk.box (c_S_Journal v57), Blk.box (c_S_Disk v58), Blk.box [(A.imm (List.map (cL c8) v59) true), (iA v60), (iA v61)], Blk.box [(A.imm (List.map (cL c8) v62) true), (A.imm (List.map c_S_Write v63) true), (iA v64), (bA v65)], Blk.box (c_S_Journal v66)])) kL (F21_21_1 n v52 v54 v55 v57 v59 v60 v61 v62 v63 v64 v65 v66 m v51 v53 v56 v58) K := by
 intro m
 induction m with
 | zero => intros; exact .nn
 | succ m ih =>
  intro v51 v53 v56 v58
  refine .lp (e21_1 ..) ?_
  unfold F21_21_1
  refine .st (v := (bA (decide (v56 < v55)))) (aBin_lss ..) ?_
  refine .biHN (fun hk67 => ?_) (fun hk67 => ?_)
  ·refine .bd (g := fun (y : (List UInt8)) => A.ip ((cL c8) y)) (idx_imm (e := 35) (es := 1) (h1 := by kernel_rfl) (h2 := by kernel_rfl) (h3 := fun _ => rfl) ..) fun y68 => ?_
   refine .s (A.imm (List.map c8 y68) false) ?_
   refine .bd (g := fun (y : Int) => (iA y)) (by show C 35 [snap _ (A.imm (List.map c8 y68) false)] = _; simp only [sn0, snM]; exact h35 y68) fun y69 => ?_
   refine .as (T21_21_2 C n h12 h17 h26 h27 h31 h35 h36 h41 h42_43 h44 v52 v54 v55 v56 v57 v59 v60 v61 v62 v63 v64 v65 v66 _ _ _ _ ?_ ?_ _ v51 v53 y68 1 y69 v58)
   ·intro y102 y103 y104 y105 y106 y107 y108 y109 y110 y111 j112 j113 j114
    refine .un rfl ?_
    exact .ex (x0 _ _ _ _ _ _ _ _ _ _ _ _ _ _ _ _)
   ·intro y115 y116 y117 y118 y119 y120 j121 j122 j123
    refine .un rfl ?_
    refine .cT (by kernel_rfl) ?_
    refine .st (v := (iA (wr .i64 (v56 + 1)))) (aBin_add ..) ?_
    refine .s [Blk.box (c_S_Journal v57), Blk.box [(A.imm (List.map (cL c8) y117) false), (A.imm (List.map c_S_Write y118) false), (iA y119), (bA y120)], Blk.box [(A.imm (List.map (cL c8) v59) true), (iA v60), (iA v61)], Blk.box [(A.imm (List.map (cL c8) v62) true), (A.imm (List.map c_S_Write v63) true), (iA v64), (bA v65)], Blk.box (c_S_Journal v66)] ?_
    refine .cT (by kernel_rfl) ?_
    exact ih _ _ _ _
  exact .ex (x1 _ _ _ _ _ _ _ _ _ _)
def F21 (n : Nat) (a0 : S_Journal) (a1 : S_Disk) : Option (S_Journal × S_Disk × Int) :=
 (G17 a0).bind fun y1 => bif (y1 != 0) then (some (((S_Journal.mk ([]) 0 0), (S_Disk.mk ([]) ([]) 0 false), y1))) else ((G31 a1).bind fun y3 => bif (y3 != 0) then (some (((S_Journal.mk ([]) 0 0), (S_Disk.mk ([]) ([]) 0 false), y3))) else ((bif (a0.Many != ((a1.Sectors.length : Int))) then (some (!a1.Stopped)) else (some false)).bind fun y6 => bif y6 then (some (((S_Journal.mk ([]) 0 0), (S_Disk.mk ([]) ([]) 0 false), 1))) else ((G12 a1).bind fun y11 => bif (y11.2 != 0) then (some (((S_Journal.mk ([]) 0 0), (S_Disk.mk ([]) ([]) 0 false), y11.2))) else ((F21_21_0 n y11.2 a1.Sectors ((a1.Sectors.length : Int)) a0 a1 ([]) 0 0 ([]) ([]) 0 false y11.1 (n+8) 1 0).bind fun o34 => match o34 with | y35 => (subI a0.Records 0 a0.Synced).bind fun y39 => (G42_43 y11.1.Records y39).bind fun y40 => (bif (!y40) then (some true) else (some ((shrI .u64 y35 32) != 0))).bind fun y42 => bif y42 then (some (((S_Journal.mk ([]) 0 0), (S_Disk.mk ([]) ([]) 0 false), 50))) else (bif (a0.Synced == ((a0.Records.length : Int))) then (some ((a0, a1, 0))) else ((subI a0.Records 0 a0.Synced).bind fun y48 => (G36 y48).bind fun y49 => (subI a0.Records a0.Synced ((a0.Records.length : Int))).bind fun y50 => (F21_21_1 n y35 y50 ((y50.length : Int)) a0 ([]) 0 0 ([]) ([]) 0 false y11.1 (n+8) y11.2 y49 0 a1).bind fun o124 => match o124 with | (Sum.inl ((y125, y126, y127, y128, y129, y130, y131, y132, y133))) => some (((S_Journal.mk ([]) y130 y131), (S_Disk.mk ([]) ([]) y132 y133), y125)) | (Sum.inr ((y141, y142, y143, y144))) => (G27 ((S_Disk.mk y141 y142 y143 y144))).bind fun y151 => bif (y151.2 != 0) then (some (((S_Journal.mk ([]) 0 0), y151.1, y151.2))) else (some (((S_Journal.mk a0.Records a0.Many ((a0.Records.length : Int))), y151.1, 0)))))))))
theorem T21 (C : Nat -> List A -> Option A) (n : Nat) (h12 : Orc12 C) (h17 : Orc17 C) (h26 : Orc26 C) (h27 : Orc27 C) (h31 : Orc31 C) (h35 : Orc35 C) (h36 : Orc36 C) (h41 : Orc41 C) (h42_43 : Orc42_43 C) (h44 : Orc44 C) (a0 : S_Journal) (a1 : S_Disk) : J (fun (o : R) y => ∃ v, o.1 = .ret v /\ snapE o.2 v = (A.tup [(A.agg [(A.imm (List.map (cL c8) y.1.Records) false), (iA y.1.Many), (iA y.1.Synced)]), (A.agg [(A.imm (List.map (cL c8) y.2.1.Sectors) false), (A.imm (List.map c_S_Write y.2.1.Pending) false), (iA y.2.1.Left), (bA y.2.1.Stopped)]), (iA y.2.2)])) (evCall1 (cx C) (ec C n 8) (ey C n 8) (n+8) 21 [(A.agg (c_S_Journal a0)), (A.agg (c_S_Disk a1))] [] 0) some (F21 n a0 a1) some := by
 refine .lp (e21 ..) ?_
 unfold F21
 refine .s ((A.ptr 0 0), [Blk.box (c_S_Journal a0)]) (.s ((A.ptr 1 0), [Blk.box (c_S_Journal a0), Blk.box (c_S_Disk a1)]) (.s ((A.ptr 2 0), [Blk.box (c_S_Journal a0), Blk.box (c_S_Disk a1), bz3]) (.s ((A.ptr 3 0), [Blk.box (c_S_Journal a0), Blk.box (c_S_Disk a1), bz3, bz4]) (.s (A.agg (c_S_Journal a0)) ?_))))
 refine .bd (g := fun (y : Int) => (iA y)) (by show C 17 [snap _ (A.agg (c_S_Journal a0))] = _; simp only [sn0, snM]; exact h17 a0) fun y1 => ?_
 refine .st (v := (bA (y1 != 0))) (aBin_neq ..) ?_
 refine .biHN (fun hk2 => ?_) (fun hk2 => ?_)
 ·refine .s (A.agg [(A.imm [] true), (iA 0), (iA 0)]) (.s (A.agg [(A.imm [] true), (A.imm [] true), (iA 0), (bA false)]) (.s [Blk.box (c_S_Journal a0), Blk.box (c_S_Disk a1), bz3, bz4] (.s [Blk.box (c_S_Journal a0), Blk.box (c_S_Disk a1), bz3, bz4] (.s (A.agg [(A.imm [] true), (iA 0), (iA 0)]) (.s (A.agg [(A.imm [] true), (A.imm [] true), (iA 0), (bA false)]) ?_)))))
  exact .lf rfl rfl ⟨_, rfl, by show snapE _ (A.tup [(A.agg [(A.imm [] true), (iA 0), (iA 0)]), (A.agg [(A.imm [] true), (A.imm [] true), (iA 0), (bA false)]), (iA y1)]) = _; first | (simp only [sn0, snM, snapE]; done) | (simp only [sn0, snS, snapE]; first | done | rfl)⟩
 refine .s (A.agg (c_S_Disk a1)) ?_
 refine .bd (g := fun (y : Int) => (iA y)) (by show C 31 [snap _ (A.agg (c_S_Disk a1))] = _; simp only [sn0, snM]; exact h31 a1) fun y3 => ?_
 refine .st (v := (bA (y3 != 0))) (aBin_neq ..) ?_
 refine .biHN (fun hk4 => ?_) (fun hk4 => ?_)
 ·refine .s (A.agg [(A.imm [] true), (iA 0), (iA 0)]) (.s (A.agg [(A.imm [] true), (A.imm [] true), (iA 0), (bA false)]) (.s [Blk.box (c_S_Journal a0), Blk.box (c_S_Disk a1), bz3, bz4] (.s [Blk.box (c_S_Journal a0), Blk.box (c_S_Disk a1), bz3, bz4] (.s (A.agg [(A.imm [] true), (iA 0), (iA 0)]) (.s (A.agg [(A.imm [] true), (A.imm [] true), (iA 0), (bA false)]) ?_)))))
  exact .lf rfl rfl ⟨_, rfl, by show snapE _ (A.tup [(A.agg [(A.imm [] true), (iA 0), (iA 0)]), (A.agg [(A.imm [] true), (A.imm [] true), (iA 0), (bA false)]), (iA y3)]) = _; first | (simp only [sn0, snM, snapE]; done) | (simp only [sn0, snS, snapE]; first | done | rfl)⟩
 refine .s (A.ptr 0 1) (.s (iA a0.Many) (.s (A.ptr 1 0) (.s (A.imm (List.map (cL c8) a1.Sectors) false) ?_)))
 refine .st (v := (iA ((a1.Sectors.length : Int)))) (len_imm (e := 35) (h1 := by kernel_rfl) ..) ?_
 refine .st (v := (bA (a0.Many != ((a1.Sectors.length : Int))))) (aBin_neq ..) ?_
 refine .bg (fun t (y : Bool) => ∃ j7 j8 j9 : A, t = [(bA y), j7, j8, j9]) ?_ ?_
 ·refine .biH (fun hk5 => ?_) (fun hk5 => ?_)
  ·refine .s (A.ptr 1 3) (.s (bA a1.Stopped) (.s (bA (!a1.Stopped)) ?_))
   exact .lg ⟨_, _, _, rfl⟩
  exact .lg ⟨_, _, _, rfl⟩
 rintro _ y6 ⟨j7, j8, j9, rfl⟩
 iterate 4 refine .uc ?_
 refine .biHN (fun hk10 => ?_) (fun hk10 => ?_)
 ·refine .s (A.agg [(A.imm [] true), (iA 0), (iA 0)]) (.s (A.agg [(A.imm [] true), (A.imm [] true), (iA 0), (bA false)]) (.s [Blk.box (c_S_Journal a0), Blk.box (c_S_Disk a1), bz3, bz4] (.s [Blk.box (c_S_Journal a0), Blk.box (c_S_Disk a1), bz3, bz4] (.s (A.agg [(A.imm [] true), (iA 0), (iA 0)]) (.s (A.agg [(A.imm [] true), (A.imm [] true), (iA 0), (bA false)]) ?_)))))
  exact .lf rfl rfl ⟨_, rfl, by show snapE _ (A.tup [(A.agg [(A.imm [] true), (iA 0), (iA 0)]), (A.agg [(A.imm [] true), (A.imm [] true), (iA 0), (bA false)]), (iA 1)]) = _; first | (simp only [sn0, snM, snapE]; done) | (simp only [sn0, snS, snapE]; first | done | rfl)⟩
 refine .s (A.agg (c_S_Disk a1)) ?_
 refine .bd (g := fun (y : (S_Journal × Int)) => (A.tup [(A.agg [(A.imm (List.map (cL c8) y.1.Records) false), (iA y.1.Many), (iA y.1.Synced)]), (iA y.2)])) (by show C 12 [snap _ (A.agg (c_S_Disk a1))] = _; simp only [sn0, snM]; exact h12 a1) fun y11 => ?_
 refine .s (A.agg (c_S_Journal y11.1)) (.s (iA y11.2) (.s ((A.ptr 4 0), [Blk.box (c_S_Journal a0), Blk.box (c_S_Disk a1), bz3, bz4, bz3]) (.s [Blk.box (c_S_Journal a0), Blk.box (c_S_Disk a1), bz3, bz4, Blk.box (c_S_Journal y11.1)] ?_)))
 refine .st (v := (bA (y11.2 != 0))) (aBin_neq ..) ?_
 refine .biHN (fun hk12 => ?_) (fun hk12 => ?_)
 ·refine .s (A.agg [(A.imm [] true), (iA 0), (iA 0)]) (.s (A.agg [(A.imm [] true), (A.imm [] true), (iA 0), (bA false)]) (.s [Blk.box (c_S_Journal a0), Blk.box (c_S_Disk a1), bz3, bz4, Blk.box (c_S_Journal y11.1)] (.s [Blk.box (c_S_Journal a0), Blk.box (c_S_Disk a1), bz3, bz4, Blk.box (c_S_Journal y11.1)] (.s (A.agg [(A.imm [] true), (iA 0), (iA 0)]) (.s (A.agg [(A.imm [] true), (A.imm [] true), (iA 0), (bA false)]) ?_)))))
  exact .lf rfl rfl ⟨_, rfl, by show snapE _ (A.tup [(A.agg [(A.imm [] true), (iA 0), (iA 0)]), (A.agg [(A.imm [] true), (A.imm [] true), (iA 0), (bA false)]), (iA y11.2)]) = _; first | (simp only [sn0, snM, snapE]; done) | (simp only [sn0, snS, snapE]; first | done | rfl)⟩
 refine .s (A.ptr 1 0) (.s (A.imm (List.map (cL c8) a1.Sectors) false) ?_)
 refine .st (v := (iA ((a1.Sectors.length : Int)))) (len_imm (e := 35) (h1 := by kernel_rfl) ..) ?_
 refine .as (T21_21_0 C n h12 h17 h26 h27 h31 h35 h36 h41 h42_43 h44 y11.2 a1.Sectors ((a1.Sectors.length : Int)) a0 a1 ([]) 0 0 ([]) ([]) 0 false y11.1 _ _ _ _ ?_ _ 1 0)
 ·intro y35 j36 j37 j38
  refine .un rfl ?_
  refine .cT (by kernel_rfl) ?_
  refine .s (A.ptr 4 0) (.s (A.imm (List.map (cL c8) y11.1.Records) false) (.s (A.ptr 0 0) (.s (A.imm (List.map (cL c8) a0.Records) false) (.s (A.ptr 0 2) (.s (iA a0.Synced) ?_)))))
  refine .bd (g := fun (y : List (List UInt8)) => (A.imm (List.map (cL c8) y) false)) (cut_imm (e := 35) (es := 1) (f := (cL c8)) (l := a0.Records) (a := 0) (b := a0.Synced) (by kernel_rfl) (by kernel_rfl) (fun _ => rfl) (.inl ⟨rfl, rfl⟩) (.inr ⟨_, rfl⟩)) fun y39 => ?_
  refine .bd (g := fun (y : Bool) => (bA y)) (by show C 42 [snap _ (A.imm (List.map (cL c8) y11.1.Records) false), snap _ (A.imm (List.map (cL c8) y39) false), snap [Blk.box (c_S_Journal a0), Blk.box (c_S_Disk a1), bz3, bz4, Blk.box (c_S_Journal y11.1)] (A.fn (Fn.func 43) [] [])] = _; simp only [sn0, snM]; exact h42_43 y11.1.Records y39) fun y40 => ?_
  refine .s (bA (!y40)) ?_
  refine .bg (fun t (y : Bool) => ∃ j43 j44 j45 : A, t = [(bA y), j43, j44, j45]) ?_ ?_
  ·refine .biH (fun hk41 => ?_) (fun hk41 => ?_)
   ·exact .lg ⟨_, _, _, rfl⟩
   refine .st (v := (A.v (.int .u64 (shrI .u64 y35 32)))) (aBin_shr (hb := by decide) ..) ?_
   refine .st (v := (bA ((shrI .u64 y35 32) != 0))) (aBin_neq ..) ?_
   exact .lg ⟨_, _, _, rfl⟩
  rintro _ y42 ⟨j43, j44, j45, rfl⟩
  iterate 4 refine .uc ?_
  refine .biHN (fun hk46 => ?_) (fun hk46 => ?_)
  ·refine .s (A.agg [(A.imm [] true), (iA 0), (iA 0)]) (.s (A.agg [(A.imm [] true), (A.imm [] true), (iA 0), (bA false)]) (.s [Blk.box (c_S_Journal a0), Blk.box (c_S_Disk a1), bz3, bz4, Blk.box (c_S_Journal y11.1)] (.s [Blk.box (c_S_Journal a0), Blk.box (c_S_Disk a1), bz3, bz4, Blk.box (c_S_Journal y11.1)] (.s (A.agg [(A.imm [] true), (iA 0), (iA 0)]) (.s (A.agg [(A.imm [] true), (A.imm [] true), (iA 0), (bA false)]) ?_)))))
   exact .lf rfl rfl ⟨_, rfl, by show snapE _ (A.tup [(A.agg [(A.imm [] true), (iA 0), (iA 0)]), (A.agg [(A.imm [] true), (A.imm [] true), (iA 0), (bA false)]), (iA 50)]) = _; first | (simp only [sn0, snM, snapE]; done) | (simp only [sn0, snS, snapE]; first | done | rfl)⟩
  refine .s (A.ptr 0 2) (.s (iA a0.Synced) (.s (A.ptr 0 0) (.s (A.imm (List.map (cL c8) a0.Records) false) ?_)))
  refine .st (v := (iA ((a0.Records.length : Int)))) (len_imm (e := 35) (h1 := by kernel_rfl) ..) ?_
  refine .st (v := (bA (a0.Synced == ((a0.Records.length : Int))))) (aBin_eql ..) ?_
  refine .biHN (fun hk47 => ?_) (fun hk47 => ?_)
  ·refine .s (A.agg (c_S_Journal a0)) (.s (A.agg (c_S_Disk a1)) ?_)
   refine .cT (by kernel_rfl) ?_
   refine .s [Blk.box (c_S_Journal a0), Blk.box (c_S_Disk a1), Blk.box (c_S_Journal a0), bz4, Blk.box (c_S_Journal y11.1)] (.s [Blk.box (c_S_Journal a0), Blk.box (c_S_Disk a1), Blk.box (c_S_Journal a0), Blk.box (c_S_Disk a1), Blk.box (c_S_Journal y11.1)] (.s (A.agg (c_S_Journal a0)) (.s (A.agg (c_S_Disk a1)) ?_)))
   exact .lf rfl rfl ⟨_, rfl, by show snapE _ (A.tup [(A.agg (c_S_Journal a0)), (A.agg (c_S_Disk a1)), (iA 0)]) = _; first | (simp only [sn0, snM, snapE]; done) | (simp only [sn0, snS, snapE]; first | done | rfl)⟩
  refine .s (A.ptr 0 0) (.s (A.imm (List.map (cL c8) a0.Records) false) (.s (A.ptr 0 2) (.s (iA a0.Synced) ?_)))
  refine .bd (g := fun (y : List (List UInt8)) => (A.imm (List.map (cL c8) y) false)) (cut_imm (e := 35) (es := 1) (f := (cL c8)) (l := a0.Records) (a := 0) (b := a0.Synced) (by kernel_rfl) (by kernel_rfl) (fun _ => rfl) (.inl ⟨rfl, rfl⟩) (.inr ⟨_, rfl⟩)) fun y48 => ?_
  refine .bd (g := fun (y : Int) => (iA y)) (by show C 36 [snap _ (A.imm (List.map (cL c8) y48) false)] = _; simp only [sn0, snM]; exact h36 y48) fun y49 => ?_
  refine .s (A.ptr 0 0) (.s (A.imm (List.map (cL c8) a0.Records) false) (.s (A.ptr 0 2) (.s (iA a0.Synced) ?_)))
  refine .bd (g := fun (y : List (List UInt8)) => (A.imm (List.map (cL c8) y) false)) (cut_imm (e := 35) (es := 1) (f := (cL c8)) (l := a0.Records) (a := a0.Synced) (b := (a0.Records.length : Int)) (by kernel_rfl) (by kernel_rfl) (fun _ => rfl) (.inr ⟨_, rfl⟩) (.inl ⟨rfl, rfl⟩)) fun y50 => ?_
  refine .st (v := (iA ((y50.length : Int)))) (len_imm (e := 35) (h1 := by kernel_rfl) ..) ?_
  refine .as (T21_21_1 C n h12 h17 h26 h27 h31 h35 h36 h41 h42_43 h44 y35 y50 ((y50.length : Int)) a0 ([]) 0 0 ([]) ([]) 0 false y11.1 _ _ _ _ ?_ ?_ _ y11.2 y49 0 a1)
  ·intro y125 y126 y127 y128 y129 y130 y131 y132 y133 j134 j135 j136 j137 j138 j139 j140
   refine .un rfl ?_
   refine .s (A.agg [(A.imm [] true), (iA y130), (iA y131)]) (.s (A.agg [(A.imm [] true), (A.imm [] true), (iA y132), (bA y133)]) ?_)
   exact .lf rfl rfl ⟨_, rfl, by show snapE _ (A.tup [(A.agg [(A.imm [] true), (iA y130), (iA y131)]), (A.agg [(A.imm [] true), (A.imm [] true), (iA y132), (bA y133)]), (iA y125)]) = _; first | (simp only [sn0, snM, snapE]; done) | (simp only [sn0, snS, snapE]; first | done | rfl)⟩
  ·intro y141 y142 y143 y144 j145 j146 j147 j148 j149 j150
   refine .un rfl ?_
   refine .cT (by kernel_rfl) ?_
   refine .s (A.agg [(A.imm (List.map (cL c8) y141) false), (A.imm (List.map c_S_Write y142) false), (iA y143), (bA y144)]) ?_
   refine .bd (g := fun (y : (S_Disk × Int)) => (A.tup [(A.agg [(A.imm (List.map (cL c8) y.1.Sectors) false), (A.imm (List.map c_S_Write y.1.Pending) false), (iA y.1.Left), (bA y.1.Stopped)]), (iA y.2)])) (by show C 27 [snap _ (A.agg [(A.imm (List.map (cL c8) y141) false), (A.imm (List.map c_S_Write y142) false), (iA y143), (bA y144)])] = _; simp only [sn0, snM]; exact h27 ((S_Disk.mk y141 y142 y143 y144))) fun y151 => ?_
   refine .s (A.agg (c_S_Disk y151.1)) (.s (iA y151.2) (.s [Blk.box (c_S_Journal a0), Blk.box (c_S_Disk y151.1), bz3, bz4, Blk.box (c_S_Journal y11.1)] ?_))
   refine .st (v := (bA (y151.2 != 0))) (aBin_neq ..) ?_
   refine .biHN (fun hk152 => ?_) (fun hk152 => ?_)
   ·refine .s (A.agg [(A.imm [] true), (iA 0), (iA 0)]) (.s (A.agg (c_S_Disk y151.1)) ?_)
    refine .cT (by kernel_rfl) ?_
    refine .s [Blk.box (c_S_Journal a0), Blk.box (c_S_Disk y151.1), bz3, bz4, Blk.box (c_S_Journal y11.1)] (.s [Blk.box (c_S_Journal a0), Blk.box (c_S_Disk y151.1), bz3, Blk.box (c_S_Disk y151.1), Blk.box (c_S_Journal y11.1)] (.s (A.agg [(A.imm [] true), (iA 0), (iA 0)]) (.s (A.agg (c_S_Disk y151.1)) ?_)))
    exact .lf rfl rfl ⟨_, rfl, by show snapE _ (A.tup [(A.agg [(A.imm [] true), (iA 0), (iA 0)]), (A.agg (c_S_Disk y151.1)), (iA y151.2)]) = _; first | (simp only [sn0, snM, snapE]; done) | (simp only [sn0, snS, snapE]; first | done | rfl)⟩
   refine .s (A.ptr 0 0) (.s (A.imm (List.map (cL c8) a0.Records) false) ?_)
   refine .st (v := (iA ((a0.Records.length : Int)))) (len_imm (e := 35) (h1 := by kernel_rfl) ..) ?_
   refine .s (A.ptr 0 2) (.s [(hk21_2 a0), Blk.box (c_S_Disk y151.1), bz3, bz4, Blk.box (c_S_Journal y11.1)] (.s (A.agg [(A.imm (List.map (cL c8) a0.Records) false), (iA a0.Many), (iA ((a0.Records.length : Int)))]) (.s (A.agg (c_S_Disk y151.1)) ?_)))
   refine .cT (by kernel_rfl) ?_
   refine .s [(hk21_2 a0), Blk.box (c_S_Disk y151.1), (hk21_2 a0), bz4, Blk.box (c_S_Journal y11.1)] (.s [(hk21_2 a0), Blk.box (c_S_Disk y151.1), (hk21_2 a0), Blk.box (c_S_Disk y151.1), Blk.box (c_S_Journal y11.1)] (.s (A.agg [(A.imm (List.map (cL c8) a0.Records) false), (iA a0.Many), (iA ((a0.Records.length : Int)))]) (.s (A.agg (c_S_Disk y151.1)) ?_)))
   exact .lf rfl rfl ⟨_, rfl, by show snapE _ (A.tup [(A.agg [(A.imm (List.map (cL c8) a0.Records) false), (iA a0.Many), (iA ((a0.Records.length : Int)))]), (A.agg (c_S_Disk y151.1)), (iA 0)]) = _; first | (simp only [sn0, snM, snapE]; done) | (simp only [sn0, snS, snapE]; first | done | rfl)⟩
def G21 (a0 : S_Journal) (a1 : S_Disk) : Option (S_Journal × S_Disk × Int) := F21 fuel0 a0 a1
def Orc21 (C : Nat -> List A -> Option A) : Prop := ∀ (a0 : S_Journal) (a1 : S_Disk), C 21 [(A.agg (c_S_Journal a0)), (A.agg (c_S_Disk a1))] = (G21 a0 a1).map fun y => (A.tup [(A.agg [(A.imm (List.map (cL c8) y.1.Records) false), (iA y.1.Many), (iA y.1.Synced)]), (A.agg [(A.imm (List.map (cL c8) y.2.1.Sectors) false), (A.imm (List.map c_S_Write y.2.1.Pending) false), (iA y.2.1.Left), (bA y.2.1.Stopped)]), (iA y.2.2)])
def F19 (n : Nat) (a0 : S_Journal) : Option Int :=
 (G17 a0).bind fun y1 => bif (y1 != 0) then (some 0) else ((G36 a0.Records).bind fun y3 => some (wr .i64 (112 * (wr .i64 (a0.Many - y3)))))
theorem T19 (C : Nat -> List A -> Option A) (n : Nat) (h17 : Orc17 C) (h36 : Orc36 C) (a0 : S_Journal) : J (fun (o : R) y => ∃ v, o.1 = .ret v /\ snapE o.2 v = (iA y)) (evCall1 (cx C) (ec C n 8) (ey C n 8) (n+8) 19 [(A.agg (c_S_Journal a0))] [] 0) some (F19 n a0) some := by
 refine .lp (e19 ..) ?_
 unfold F19
 refine .s ((A.ptr 0 0), [Blk.box (c_S_Journal a0)]) (.s (A.agg (c_S_Journal a0)) ?_)
 refine .bd (g := fun (y : Int) => (iA y)) (by show C 17 [snap _ (A.agg (c_S_Journal a0))] = _; simp only [sn0, snM]; exact h17 a0) fun y1 => ?_
 refine .st (v := (bA (y1 != 0))) (aBin_neq ..) ?_
 refine .biHN (fun hk2 => ?_) (fun hk2 => ?_)
 ·exact .lf rfl rfl ⟨_, rfl, rfl⟩
 refine .s (A.ptr 0 1) (.s (iA a0.Many) (.s (A.ptr 0 0) (.s (A.imm (List.map (cL c8) a0.Records) false) ?_)))
 refine .bd (g := fun (y : Int) => (iA y)) (by show C 36 [snap _ (A.imm (List.map (cL c8) a0.Records) false)] = _; simp only [sn0, snM]; exact h36 a0.Records) fun y3 => ?_
 refine .st (v := (iA (wr .i64 (a0.Many - y3)))) (aBin_sub ..) ?_
 refine .st (v := (iA (wr .i64 (112 * (wr .i64 (a0.Many - y3)))))) (aBin_mul ..) ?_
 exact .lf rfl rfl ⟨_, rfl, rfl⟩
def G19 (a0 : S_Journal) : Option Int := F19 fuel0 a0
def Orc19 (C : Nat -> List A -> Option A) : Prop := ∀ (a0 : S_Journal), C 19 [(A.agg (c_S_Journal a0))] = (G19 a0).map fun y => (iA y)
def F10 (n : Nat)  : Option Bool :=
 (G25 1).bind fun y1 => (G12 y1.1).bind fun y2 => (mkI 1 113 ((0 : UInt8))).bind fun y3 => (G15 y2.1 y3).bind fun y4 => (G15 y2.1 ([(97 : UInt8), (98 : UInt8)])).bind fun y5 => (G21 y5.1 y1.1).bind fun y6 => (G12 y6.2.1).bind fun y7 => (G21 y5.1 y6.2.1).bind fun y8 => (bif (y1.2 == 0) then (some (y2.2 == 0)) else (some false)).bind fun y10 => (bif y10 then (some (((y2.1.Records.length : Int)) == 0)) else (some false)).bind fun y14 => (bif y14 then ((G19 y2.1).bind fun y20 => some (y20 == 112)) else (some false)).bind fun y21 => (bif y21 then (some (y4.2 == 2)) else (some false)).bind fun y26 => (bif y26 then (some (y5.2 == 0)) else (some false)).bind fun y30 => (bif y30 then (some (y6.2.2 == 0)) else (some false)).bind fun y34 => (bif y34 then (some (y6.1.Synced == 1)) else (some false)).bind fun y38 => (bif y38 then (some (y7.2 == 0)) else (some false)).bind fun y43 => (bif y43 then (some (((y7.1.Records.length : Int)) == 1)) else (some false)).bind fun y47 => (bif y47 then ((getI y7.1.Records 0).bind fun y53 => some (strEq (bstr y53) ((ByteArray.mk #[97, 98])))) else (some false)).bind fun y54 => (bif y54 then (some (y8.2.2 == 50)) else (some false)).bind fun y62 => (bif y62 then ((G17 ((S_Journal.mk ([]) 0 0))).bind fun y66 => some (y66 == 1)) else (some false)).bind fun y67 => some y67
theorem T10 (C : Nat -> List A -> Option A) (n : Nat) (h12 : Orc12 C) (h15 : Orc15 C) (h17 : Orc17 C) (h19 : Orc19 C) (h21 : Orc21 C) (h25 : Orc25 C) : J (fun (o : R) y => ∃ v, o.1 = .ret v /\ snapE o.2 v = (bA y)) (evCall1 (cx C) (ec C n 8) (ey C n 8) (n+8) 10 [] [] 0) some (F10 n ) some := by
 refine .lp (e10 ..) ?_
 unfold F10
 refine .bd (g := fun (y : (S_Disk × Int)) => (A.tup [(A.agg [(A.imm (List.map (cL c8) y.1.Sectors) false), (A.imm (List.map c_S_Write y.1.Pending) false), (iA y.1.Left), (bA y.1.Stopped)]), (iA y.2)])) (h25 1) fun y1 => ?_
 refine .s (A.agg (c_S_Disk y1.1)) (.s (iA y1.2) (.s ((A.ptr 0 0), [bz4]) (.s [Blk.box (c_S_Disk y1.1)] (.s (A.agg (c_S_Disk y1.1)) ?_))))
 refine .bd (g := fun (y : (S_Journal × Int)) => (A.tup [(A.agg [(A.imm (List.map (cL c8) y.1.Records) false), (iA y.1.Many), (iA y.1.Synced)]), (iA y.2)])) (by show C 12 [snap _ (A.agg (c_S_Disk y1.1))] = _; simp only [sn0, snM]; exact h12 y1.1) fun y2 => ?_
 refine .s (A.agg (c_S_Journal y2.1)) (.s (iA y2.2) (.s ((A.ptr 1 0), [Blk.box (c_S_Disk y1.1), bz3]) (.s [Blk.box (c_S_Disk y1.1), Blk.box (c_S_Journal y2.1)] (.s ((A.ptr 2 0), [Blk.box (c_S_Disk y1.1), Blk.box (c_S_Journal y2.1), bz3]) (.s (A.agg (c_S_Journal y2.1)) ?_)))))
 refine .cT (by kernel_rfl) ?_
 refine .bd (g := fun (y : List UInt8) => ((A.imm (List.map c8 y) false), [Blk.box (c_S_Disk y1.1), Blk.box (c_S_Journal y2.1), bz3])) (wrow_makeI (e := 5) (es := 1) (f := c8) (z := (0 : UInt8)) (z' := [(uA 0)]) (by kernel_rfl) (by kernel_rfl) (by kernel_rfl) (by kernel_rfl) rfl (by decide) (fun _ => rfl)) fun y3 => ?_
 refine .bd (g := fun (y : (S_Journal × Int)) => (A.tup [(A.agg [(A.imm (List.map (cL c8) y.1.Records) false), (iA y.1.Many), (iA y.1.Synced)]), (iA y.2)])) (by show C 15 [snap _ (A.agg (c_S_Journal y2.1)), snap _ (A.imm (List.map c8 y3) false)] = _; simp only [sn0, snM]; exact h15 y2.1 y3) fun y4 => ?_
 refine .s (A.agg (c_S_Journal y4.1)) (.s (iA y4.2) (.s [Blk.box (c_S_Disk y1.1), Blk.box (c_S_Journal y2.1), Blk.box (c_S_Journal y4.1)] (.s (A.agg (c_S_Journal y2.1)) (.s ((A.sl 3 0 2 true), [Blk.box (c_S_Disk y1.1), Blk.box (c_S_Journal y2.1), Blk.box (c_S_Journal y4.1), Blk.row true 1 [[(uA 97)], [(uA 98)]]]) (.s ((A.imm [[(uA 97)], [(uA 98)]] false), [Blk.box (c_S_Disk y1.1), Blk.box (c_S_Journal y2.1), Blk.box (c_S_Journal y4.1), Blk.dead]) ?_)))))
 refine .bd (g := fun (y : (S_Journal × Int)) => (A.tup [(A.agg [(A.imm (List.map (cL c8) y.1.Records) false), (iA y.1.Many), (iA y.1.Synced)]), (iA y.2)])) (by show C 15 [snap _ (A.agg (c_S_Journal y2.1)), snap _ (A.imm [[(uA 97)], [(uA 98)]] false)] = _; simp only [sn0, snM]; exact h15 y2.1 ([(97 : UInt8), (98 : UInt8)])) fun y5 => ?_
 refine .s (A.agg (c_S_Journal y5.1)) (.s (iA y5.2) (.s ((A.ptr 4 0), [Blk.box (c_S_Disk y1.1), Blk.box (c_S_Journal y2.1), Blk.box (c_S_Journal y4.1), Blk.dead, bz3]) (.s [Blk.box (c_S_Disk y1.1), Blk.box (c_S_Journal y2.1), Blk.box (c_S_Journal y4.1), Blk.dead, Blk.box (c_S_Journal y5.1)] (.s (A.agg (c_S_Journal y5.1)) (.s (A.agg (c_S_Disk y1.1)) ?_)))))
 refine .bd (g := fun (y : (S_Journal × S_Disk × Int)) => (A.tup [(A.agg [(A.imm (List.map (cL c8) y.1.Records) false), (iA y.1.Many), (iA y.1.Synced)]), (A.agg [(A.imm (List.map (cL c8) y.2.1.Sectors) false), (A.imm (List.map c_S_Write y.2.1.Pending) false), (iA y.2.1.Left), (bA y.2.1.Stopped)]), (iA y.2.2)])) (by show C 21 [snap _ (A.agg (c_S_Journal y5.1)), snap _ (A.agg (c_S_Disk y1.1))] = _; simp only [sn0, snM]; exact h21 y5.1 y1.1) fun y6 => ?_
 refine .s (A.agg (c_S_Journal y6.1)) (.s (A.agg (c_S_Disk y6.2.1)) (.s (iA y6.2.2) (.s ((A.ptr 5 0), [Blk.box (c_S_Disk y1.1), Blk.box (c_S_Journal y2.1), Blk.box (c_S_Journal y4.1), Blk.dead, Blk.box (c_S_Journal y5.1), bz3]) (.s ((A.ptr 6 0), [Blk.box (c_S_Disk y1.1), Blk.box (c_S_Journal y2.1), Blk.box (c_S_Journal y4.1), Blk.dead, Blk.box (c_S_Journal y5.1), bz3, bz4]) (.s [Blk.box (c_S_Disk y1.1), Blk.box (c_S_Journal y2.1), Blk.box (c_S_Journal y4.1), Blk.dead, Blk.box (c_S_Journal y5.1), Blk.box (c_S_Journal y6.1), bz4] (.s [Blk.box (c_S_Disk y1.1), Blk.box (c_S_Journal y2.1), Blk.box (c_S_Journal y4.1), Blk.dead, Blk.box (c_S_Journal y5.1), Blk.box (c_S_Journal y6.1), Blk.box (c_S_Disk y6.2.1)] (.s (A.agg (c_S_Disk y6.2.1)) ?_)))))))
 refine .bd (g := fun (y : (S_Journal × Int)) => (A.tup [(A.agg [(A.imm (List.map (cL c8) y.1.Records) false), (iA y.1.Many), (iA y.1.Synced)]), (iA y.2)])) (by show C 12 [snap _ (A.agg (c_S_Disk y6.2.1))] = _; simp only [sn0, snM]; exact h12 y6.2.1) fun y7 => ?_
 refine .s (A.agg (c_S_Journal y7.1)) (.s (iA y7.2) (.s ((A.ptr 7 0), [Blk.box (c_S_Disk y1.1), Blk.box (c_S_Journal y2.1), Blk.box (c_S_Journal y4.1), Blk.dead, Blk.box (c_S_Journal y5.1), Blk.box (c_S_Journal y6.1), Blk.box (c_S_Disk y6.2.1), bz3]) (.s [Blk.box (c_S_Disk y1.1), Blk.box (c_S_Journal y2.1), Blk.box (c_S_Journal y4.1), Blk.dead, Blk.box (c_S_Journal y5.1), Blk.box (c_S_Journal y6.1), Blk.box (c_S_Disk y6.2.1), Blk.box (c_S_Journal y7.1)] (.s (A.agg (c_S_Journal y5.1)) (.s (A.agg (c_S_Disk y6.2.1)) ?_)))))
 refine .bd (g := fun (y : (S_Journal × S_Disk × Int)) => (A.tup [(A.agg [(A.imm (List.map (cL c8) y.1.Records) false), (iA y.1.Many), (iA y.1.Synced)]), (A.agg [(A.imm (List.map (cL c8) y.2.1.Sectors) false), (A.imm (List.map c_S_Write y.2.1.Pending) false), (iA y.2.1.Left), (bA y.2.1.Stopped)]), (iA y.2.2)])) (by show C 21 [snap _ (A.agg (c_S_Journal y5.1)), snap _ (A.agg (c_S_Disk y6.2.1))] = _; simp only [sn0, snM]; exact h21 y5.1 y6.2.1) fun y8 => ?_
 refine .s (A.agg (c_S_Journal y8.1)) (.s (A.agg (c_S_Disk y8.2.1)) (.s (iA y8.2.2) (.s ((A.ptr 8 0), [Blk.box (c_S_Disk y1.1), Blk.box (c_S_Journal y2.1), Blk.box (c_S_Journal y4.1), Blk.dead, Blk.box (c_S_Journal y5.1), Blk.box (c_S_Journal y6.1), Blk.box (c_S_Disk y6.2.1), Blk.box (c_S_Journal y7.1), bz3]) (.s ((A.ptr 9 0), [Blk.box (c_S_Disk y1.1), Blk.box (c_S_Journal y2.1), Blk.box (c_S_Journal y4.1), Blk.dead, Blk.box (c_S_Journal y5.1), Blk.box (c_S_Journal y6.1), Blk.box (c_S_Disk y6.2.1), Blk.box (c_S_Journal y7.1), bz3, bz4]) (.s [Blk.box (c_S_Disk y1.1), Blk.box (c_S_Journal y2.1), Blk.box (c_S_Journal y4.1), Blk.dead, Blk.box (c_S_Journal y5.1), Blk.box (c_S_Journal y6.1), Blk.box (c_S_Disk y6.2.1), Blk.box (c_S_Journal y7.1), Blk.box (c_S_Journal y8.1), bz4] (.s [Blk.box (c_S_Disk y1.1), Blk.box (c_S_Journal y2.1), Blk.box (c_S_Journal y4.1), Blk.dead, Blk.box (c_S_Journal y5.1), Blk.box (c_S_Journal y6.1), Blk.box (c_S_Disk y6.2.1), Blk.box (c_S_Journal y7.1), Blk.box (c_S_Journal y8.1), Blk.box (c_S_Disk y8.2.1)] ?_))))))
 refine .st (v := (bA (y1.2 == 0))) (aBin_eql ..) ?_
 refine .bg (fun t (y : Bool) => ∃ j11 j12 : A, t = [(bA y), j11, j12]) ?_ ?_
 ·refine .biH (fun hk9 => ?_) (fun hk9 => ?_)
  ·refine .st (v := (bA (y2.2 == 0))) (aBin_eql ..) ?_
   exact .lg ⟨_, _, rfl⟩
  exact .lg ⟨_, _, rfl⟩
 rintro _ y10 ⟨j11, j12, rfl⟩
 iterate 3 refine .uc ?_
 refine .bg (fun t (y : Bool) => ∃ j15 j16 j17 j18 : A, t = [(bA y), j15, j16, j17, j18]) ?_ ?_
 ·refine .biH (fun hk13 => ?_) (fun hk13 => ?_)
  ·refine .s (A.ptr 1 0) (.s (A.imm (List.map (cL c8) y2.1.Records) false) ?_)
   refine .st (v := (iA ((y2.1.Records.length : Int)))) (len_imm (e := 35) (h1 := by kernel_rfl) ..) ?_
   refine .st (v := (bA (((y2.1.Records.length : Int)) == 0))) (aBin_eql ..) ?_
   exact .lg ⟨_, _, _, _, rfl⟩
  exact .lg ⟨_, _, _, _, rfl⟩
 rintro _ y14 ⟨j15, j16, j17, j18, rfl⟩
 iterate 5 refine .uc ?_
 refine .bg (fun t (y : Bool) => ∃ j22 j23 j24 : A, t = [(bA y), j22, j23, j24]) ?_ ?_
 ·refine .biH (fun hk19 => ?_) (fun hk19 => ?_)
  ·refine .s (A.agg (c_S_Journal y2.1)) ?_
   refine .bd (g := fun (y : Int) => (iA y)) (by show C 19 [snap _ (A.agg (c_S_Journal y2.1))] = _; simp only [sn0, snM]; exact h19 y2.1) fun y20 => ?_
   refine .st (v := (bA (y20 == 112))) (aBin_eql ..) ?_
   exact .lg ⟨_, _, _, rfl⟩
  exact .lg ⟨_, _, _, rfl⟩
 rintro _ y21 ⟨j22, j23, j24, rfl⟩
 iterate 4 refine .uc ?_
 refine .bg (fun t (y : Bool) => ∃ j27 j28 : A, t = [(bA y), j27, j28]) ?_ ?_
 ·refine .biH (fun hk25 => ?_) (fun hk25 => ?_)
  ·refine .st (v := (bA (y4.2 == 2))) (aBin_eql ..) ?_
   exact .lg ⟨_, _, rfl⟩
  exact .lg ⟨_, _, rfl⟩
 rintro _ y26 ⟨j27, j28, rfl⟩
 iterate 3 refine .uc ?_
 refine .bg (fun t (y : Bool) => ∃ j31 j32 : A, t = [(bA y), j31, j32]) ?_ ?_
 ·refine .biH (fun hk29 => ?_) (fun hk29 => ?_)
  ·refine .st (v := (bA (y5.2 == 0))) (aBin_eql ..) ?_
   exact .lg ⟨_, _, rfl⟩
  exact .lg ⟨_, _, rfl⟩
 rintro _ y30 ⟨j31, j32, rfl⟩
 iterate 3 refine .uc ?_
 refine .bg (fun t (y : Bool) => ∃ j35 j36 : A, t = [(bA y), j35, j36]) ?_ ?_
 ·refine .biH (fun hk33 => ?_) (fun hk33 => ?_)
  ·refine .st (v := (bA (y6.2.2 == 0))) (aBin_eql ..) ?_
   exact .lg ⟨_, _, rfl⟩
  exact .lg ⟨_, _, rfl⟩
 rintro _ y34 ⟨j35, j36, rfl⟩
 iterate 3 refine .uc ?_
 refine .bg (fun t (y : Bool) => ∃ j39 j40 j41 : A, t = [(bA y), j39, j40, j41]) ?_ ?_
 ·refine .biH (fun hk37 => ?_) (fun hk37 => ?_)
  ·refine .s (A.ptr 5 2) (.s (iA y6.1.Synced) ?_)
   refine .st (v := (bA (y6.1.Synced == 1))) (aBin_eql ..) ?_
   exact .lg ⟨_, _, _, rfl⟩
  exact .lg ⟨_, _, _, rfl⟩
 rintro _ y38 ⟨j39, j40, j41, rfl⟩
 iterate 4 refine .uc ?_
 refine .bg (fun t (y : Bool) => ∃ j44 j45 : A, t = [(bA y), j44, j45]) ?_ ?_
 ·refine .biH (fun hk42 => ?_) (fun hk42 => ?_)
  ·refine .st (v := (bA (y7.2 == 0))) (aBin_eql ..) ?_
   exact .lg ⟨_, _, rfl⟩
  exact .lg ⟨_, _, rfl⟩
 rintro _ y43 ⟨j44, j45, rfl⟩
 iterate 3 refine .uc ?_
 refine .bg (fun t (y : Bool) => ∃ j48 j49 j50 j51 : A, t = [(bA y), j48, j49, j50, j51]) ?_ ?_
 ·refine .biH (fun hk46 => ?_) (fun hk46 => ?_)
  ·refine .s (A.ptr 7 0) (.s (A.imm (List.map (cL c8) y7.1.Records) false) ?_)
   refine .st (v := (iA ((y7.1.Records.length : Int)))) (len_imm (e := 35) (h1 := by kernel_rfl) ..) ?_
   refine .st (v := (bA (((y7.1.Records.length : Int)) == 1))) (aBin_eql ..) ?_
   exact .lg ⟨_, _, _, _, rfl⟩
  exact .lg ⟨_, _, _, _, rfl⟩
 rintro _ y47 ⟨j48, j49, j50, j51, rfl⟩
 iterate 5 refine .uc ?_
 refine .bg (fun t (y : Bool) => ∃ j55 j56 j57 j58 j59 j60 : A, t = [(bA y), j55, j56, j57, j58, j59, j60]) ?_ ?_
 ·refine .biH (fun hk52 => ?_) (fun hk52 => ?_)
  ·refine .s (A.ptr 7 0) (.s (A.imm (List.map (cL c8) y7.1.Records) false) ?_)
   refine .bd (g := fun (y : (List UInt8)) => A.ip ((cL c8) y)) (idx_imm (e := 35) (es := 1) (h1 := by kernel_rfl) (h2 := by kernel_rfl) (h3 := fun _ => rfl) ..) fun y53 => ?_
   refine .s (A.imm (List.map c8 y53) false) ?_
   refine .st (v := (A.v (Value.string (bstr y53)))) (conv_bs (e := 5) (l := y53) (by kernel_rfl) (by kernel_rfl) (by kernel_rfl) (by kernel_rfl) (els_imm ..) rfl) ?_
   refine .st (v := (bA (strEq (bstr y53) ((ByteArray.mk #[97, 98]))))) (aBin_eql_s ..) ?_
   exact .lg ⟨_, _, _, _, _, _, rfl⟩
  exact .lg ⟨_, _, _, _, _, _, rfl⟩
 rintro _ y54 ⟨j55, j56, j57, j58, j59, j60, rfl⟩
 iterate 7 refine .uc ?_
 refine .bg (fun t (y : Bool) => ∃ j63 j64 : A, t = [(bA y), j63, j64]) ?_ ?_
 ·refine .biH (fun hk61 => ?_) (fun hk61 => ?_)
  ·refine .st (v := (bA (y8.2.2 == 50))) (aBin_eql ..) ?_
   exact .lg ⟨_, _, rfl⟩
  exact .lg ⟨_, _, rfl⟩
 rintro _ y62 ⟨j63, j64, rfl⟩
 iterate 3 refine .uc ?_
 refine .bg (fun t (y : Bool) => ∃ j68 j69 j70 : A, t = [(bA y), j68, j69, j70]) ?_ ?_
 ·refine .biH (fun hk65 => ?_) (fun hk65 => ?_)
  ·refine .s (A.agg [(A.imm [] true), (iA 0), (iA 0)]) ?_
   refine .bd (g := fun (y : Int) => (iA y)) (by show C 17 [snap _ (A.agg [(A.imm [] true), (iA 0), (iA 0)])] = _; simp only [sn0, snM]; exact h17 ((S_Journal.mk ([]) 0 0))) fun y66 => ?_
   refine .st (v := (bA (y66 == 1))) (aBin_eql ..) ?_
   exact .lg ⟨_, _, _, rfl⟩
  exact .lg ⟨_, _, _, rfl⟩
 rintro _ y67 ⟨j68, j69, j70, rfl⟩
 iterate 4 refine .uc ?_
 exact .lf rfl rfl ⟨_, rfl, rfl⟩
def G10  : Option Bool := F10 fuel0
def Orc10 (C : Nat -> List A -> Option A) : Prop := ∀ (_ : Unit), C 10 [] = (G10 ).map fun y => (bA y)
def F11_11_0 (n : Nat) (v1 : Bool) (v3 : (List (List UInt8))) (v4 : Int) (v6 : S_Disk) : Nat -> Int -> Int -> Option (Int)
 | 0, _, _ => none
 | m + 1, v2, v5 => bif (decide (v5 < v4)) then ((getI v3 v5).bind fun y8 => F11_11_0 n v1 v3 v4 v6 m (wr .i64 (v2 + (wr .i64 (1 + ((y8.length : Int)))))) (wr .i64 (v5 + 1))) else (some v2)
theorem T11_11_0 (C : Nat -> List A -> Option A) (n : Nat) (v1 : Bool) (v3 : (List (List UInt8))) (v4 : Int) (v6 : S_Disk) {ρ γ : Type} {φ : ρ -> γ -> Prop} {kL : R -> Option ρ} {K : (Int) -> Option γ} (kx kg : Nat -> St -> Option R) (kr : St -> Option R) (kp : A -> St -> Option R) (x0 : ∀ (o0 : Int) (s4 : A) (s8 : A) (s9 : A) (s10 : A), J φ (kx 0 (St.mk [(2, (A.ptr 0 0)), (4, s4), (5, (iA o0)), (8, s8), (9, s9), (10, s10)] [Blk.box (c_S_Disk v6)])) kL (K o0) some) :
  ∀ (m : Nat) (v2 : Int) (v5 : Int), J φ (loopR (cx C) (ec C n 8) (ey C n 8) (n+8) 11 0 0 1 kx kg kr kp m (St.mk [(2, (A.ptr 0 0)), (4, (bA v1)), (5, (iA v2)), (8, (A.imm (List.map (cL c8) v3) false)), (9, (iA v4)), (10, (iA v5))] [Blk.box (c_S_Disk v6)])) kL (F11_11_0 n v1 v3 v4 v6 m v2 v5) K := by
 intro m
 induction m with
 | zero => intros; exact .nn
 | succ m ih =>
  intro v2 v5
  refine .lp (e11_0 ..) ?_
  unfold F11_11_0
  refine .st (v := (bA (decide (v5 < v4)))) (aBin_lss ..) ?_
  refine .biHN (fun hk7 => ?_) (fun hk7 => ?_)
  ·refine .bd (g := fun (y : (List UInt8)) => A.ip ((cL c8) y)) (idx_imm (e := 35) (es := 1) (h1 := by kernel_rfl) (h2 := by kernel_rfl) (h3 := fun _ => rfl) ..) fun y8 => ?_
   refine .s (A.imm (List.map c8 y8) false) ?_
   refine .st (v := (iA ((y8.length : Int)))) (len_imm (e := 5) (h1 := by kernel_rfl) ..) ?_
   refine .st (v := (iA (wr .i64 (1 + ((y8.length : Int)))))) (aBin_add ..) ?_
   refine .st (v := (iA (wr .i64 (v2 + (wr .i64 (1 + ((y8.length : Int)))))))) (aBin_add ..) ?_
   refine .st (v := (iA (wr .i64 (v5 + 1)))) (aBin_add ..) ?_
   refine .s [Blk.box (c_S_Disk v6)] ?_
   refine .cT (by kernel_rfl) ?_
   exact ih _ _
  exact .ex (x0 _ _ _ _ _)
def F11 (n : Nat) (a0 : S_Disk) (a1 : (List (List UInt8))) : Option Bool :=
 (F11_11_0 n false a1 ((a1.length : Int)) a0 (n+8) 0 0).bind fun o9 => match o9 with | y10 => (bif (decide (((a0.Sectors.length : Int)) <= 40)) then (some (decide (((a0.Pending.length : Int)) <= 40))) else (some false)).bind fun y16 => (bif y16 then (some (decide (y10 <= 4000))) else (some false)).bind fun y22 => some y22
theorem T11 (C : Nat -> List A -> Option A) (n : Nat) (a0 : S_Disk) (a1 : (List (List UInt8))) : J (fun (o : R) y => ∃ v, o.1 = .ret v /\ snapE o.2 v = (bA y)) (evCall1 (cx C) (ec C n 8) (ey C n 8) (n+8) 11 [(A.agg (c_S_Disk a0)), (A.imm (List.map (cL c8) a1) false)] [] 0) some (F11 n a0 a1) some := by
 refine .lp (e11 ..) ?_
 unfold F11
 refine .s ((A.ptr 0 0), [Blk.box (c_S_Disk a0)]) ?_
 refine .st (v := (iA ((a1.length : Int)))) (len_imm (e := 35) (h1 := by kernel_rfl) ..) ?_
 refine .as (T11_11_0 C n  false a1 ((a1.length : Int)) a0 _ _ _ _ ?_ _ 0 0)
 ·intro y10 j11 j12 j13 j14
  refine .un rfl ?_
  refine .cT (by kernel_rfl) ?_
  refine .s (A.ptr 0 0) (.s (A.imm (List.map (cL c8) a0.Sectors) false) ?_)
  refine .st (v := (iA ((a0.Sectors.length : Int)))) (len_imm (e := 35) (h1 := by kernel_rfl) ..) ?_
  refine .st (v := (bA (decide (((a0.Sectors.length : Int)) <= 40)))) (aBin_leq ..) ?_
  refine .bg (fun t (y : Bool) => ∃ j17 j18 j19 j20 : A, t = [(bA y), j17, j18, j19, j20]) ?_ ?_
  ·refine .biH (fun hk15 => ?_) (fun hk15 => ?_)
   ·refine .s (A.ptr 0 1) (.s (A.imm (List.map c_S_Write a0.Pending) false) ?_)
    refine .st (v := (iA ((a0.Pending.length : Int)))) (len_imm (e := 76) (h1 := by kernel_rfl) ..) ?_
    refine .st (v := (bA (decide (((a0.Pending.length : Int)) <= 40)))) (aBin_leq ..) ?_
    exact .lg ⟨_, _, _, _, rfl⟩
   exact .lg ⟨_, _, _, _, rfl⟩
  rintro _ y16 ⟨j17, j18, j19, j20, rfl⟩
  iterate 5 refine .uc ?_
  refine .bg (fun t (y : Bool) => ∃ j23 j24 : A, t = [(bA y), j23, j24]) ?_ ?_
  ·refine .biH (fun hk21 => ?_) (fun hk21 => ?_)
   ·refine .st (v := (bA (decide (y10 <= 4000)))) (aBin_leq ..) ?_
    exact .lg ⟨_, _, rfl⟩
   exact .lg ⟨_, _, rfl⟩
  rintro _ y22 ⟨j23, j24, rfl⟩
  iterate 3 refine .uc ?_
  exact .lf rfl rfl ⟨_, rfl, rfl⟩
def G11 (a0 : S_Disk) (a1 : (List (List UInt8))) : Option Bool := F11 fuel0 a0 a1
def Orc11 (C : Nat -> List A -> Option A) : Prop := ∀ (a0 : S_Disk) (a1 : (List (List UInt8))), C 11 [(A.agg (c_S_Disk a0)), (A.imm (List.map (cL c8) a1) false)] = (G11 a0 a1).map fun y => (bA y)
def F28_28_0 (n : Nat) (v1 : (List (List UInt8))) (v2 : Int) (v5 : (List (List UInt8))) (v6 : Int) (v7 : Int) : Nat -> Int -> S_Journal -> Option ((List (List UInt8)) × Int × Int)
 | 0, _, _ => none
 | m + 1, v3, v4 => bif (decide (v3 < v2)) then ((getI v1 v3).bind fun y9 => (G15 v4 y9).bind fun y10 => bif (y10.2 == 0) then (F28_28_0 n v1 v2 v5 v6 v7 m (wr .i64 (v3 + 1)) y10.1) else (F28_28_0 n v1 v2 v5 v6 v7 m (wr .i64 (v3 + 1)) v4)) else (some ((v4.Records, v4.Many, v4.Synced)))
theorem T28_28_0 (C : Nat -> List A -> Option A) (n : Nat) (h15 : Orc15 C) (v1 : (List (List UInt8))) (v2 : Int) (v5 : (List (List UInt8))) (v6 : Int) (v7 : Int) {ρ γ : Type} {φ : ρ -> γ -> Prop} {kL : R -> Option ρ} {K : ((List (List UInt8)) × Int × Int) -> Option γ} (kx kg : Nat -> St -> Option R) (kr : St -> Option R) (kp : A -> St -> Option R) (x0 : ∀ (o0 : (List (List UInt8))) (o1 : Int) (o2 : Int) (s9 : A) (s10 : A) (s11 : A), J φ (kx 0 (St.mk [(2, (A.ptr 0 0)), (4, (A.ptr 1 0)), (9, s9), (10, s10), (11, s11)] [Blk.box [(A.imm (List.map (cL c8) o0) false), (iA o1), (iA o2)], Blk.box [(A.imm (List.map (cL c8) v5) true), (iA v6), (iA v7)]])) kL (K (o0, o1, o2)) some) :
  ∀ (m : Nat) (v3 : Int) (v4 : S_Journal), J φ (loopR (cx C) (ec C n 8) (ey C n 8) (n+8) 28 0 0 2 kx kg kr kp m (St.mk [(2, (A.ptr 0 0)), (4, (A.ptr 1 0)), (9, (A.imm (List.map (cL c8) v1) false)), (10, (iA v2)), (11, (iA v3))] [Blk.box (c_S_Journal v4), Blk.box [(A.imm (List.map (cL c8) v5) true), (iA v6), (iA v7)]])) kL (F28_28_0 n v1 v2 v5 v6 v7 m v3 v4) K := by
 intro m
 induction m with
 | zero => intros; exact .nn
 | succ m ih =>
  intro v3 v4
  refine .lp (e28_0 ..) ?_
  unfold F28_28_0
  refine .st (v := (bA (decide (v3 < v2)))) (aBin_lss ..) ?_
  refine .biHN (fun hk8 => ?_) (fun hk8 => ?_)
  ·refine .bd (g := fun (y : (List UInt8)) => A.ip ((cL c8) y)) (idx_imm (e := 35) (es := 1) (h1 := by kernel_rfl) (h2 := by kernel_rfl) (h3 := fun _ => rfl) ..) fun y9 => ?_
   refine .s (A.imm (List.map c8 y9) false) (.s (A.agg (c_S_Journal v4)) ?_)
   refine .bd (g := fun (y : (S_Journal × Int)) => (A.tup [(A.agg [(A.imm (List.map (cL c8) y.1.Records) false), (iA y.1.Many), (iA y.1.Synced)]), (iA y.2)])) (by show C 15 [snap _ (A.agg (c_S_Journal v4)), snap _ (A.imm (List.map c8 y9) false)] = _; simp only [sn0, snM]; exact h15 v4 y9) fun y10 => ?_
   refine .s (A.agg (c_S_Journal y10.1)) (.s (iA y10.2) (.s ((A.ptr 2 0), [Blk.box (c_S_Journal v4), Blk.box [(A.imm (List.map (cL c8) v5) true), (iA v6), (iA v7)], bz3]) (.s [Blk.box (c_S_Journal v4), Blk.box [(A.imm (List.map (cL c8) v5) true), (iA v6), (iA v7)], Blk.box (c_S_Journal y10.1)] ?_)))
   refine .st (v := (bA (y10.2 == 0))) (aBin_eql ..) ?_
   refine .biHN (fun hk11 => ?_) (fun hk11 => ?_)
   ·refine .s (A.agg (c_S_Journal y10.1)) (.s [Blk.box (c_S_Journal y10.1), Blk.box [(A.imm (List.map (cL c8) v5) true), (iA v6), (iA v7)], Blk.box (c_S_Journal y10.1)] ?_)
    refine .st (v := (iA (wr .i64 (v3 + 1)))) (aBin_add ..) ?_
    refine .st (v := [Blk.box (c_S_Journal y10.1), Blk.box [(A.imm (List.map (cL c8) v5) true), (iA v6), (iA v7)]]) ((by kernel_rfl : _ = (bif ((((underss 2 (List.map (cL c8) y10.1.Records)) && true)) && ((((underss 2 (List.map (cL c8) v5)) && true)) && true)) then some [Blk.box (c_S_Journal y10.1), Blk.box [(A.imm (List.map (cL c8) v5) true), (iA v6), (iA v7)]] else none)).trans (by simp only [un0, unS])) ?_
    refine .cT ((by kernel_rfl : _ = (bif underss 2 (List.map (cL c8) v1) then true else false)).trans (by simp only [un0, unS])) ?_
    exact ih _ _
   refine .st (v := (iA (wr .i64 (v3 + 1)))) (aBin_add ..) ?_
   refine .st (v := [Blk.box (c_S_Journal v4), Blk.box [(A.imm (List.map (cL c8) v5) true), (iA v6), (iA v7)]]) ((by kernel_rfl : _ = (bif ((((underss 2 (List.map (cL c8) v4.Records)) && true)) && ((((underss 2 (List.map (cL c8) v5)) && true)) && true)) then some [Blk.box (c_S_Journal v4), Blk.box [(A.imm (List.map (cL c8) v5) true), (iA v6), (iA v7)]] else none)).trans (by simp only [un0, unS])) ?_
   refine .cT ((by kernel_rfl : _ = (bif underss 2 (List.map (cL c8) v1) then true else false)).trans (by simp only [un0, unS])) ?_
   exact ih _ _
  exact .ex (x0 _ _ _ _ _ _)
def F28 (n : Nat) (a0 : S_Journal) (a1 : (List (List UInt8))) : Option S_Journal :=
 (F28_28_0 n a1 ((a1.length : Int)) ([]) 0 0 (n+8) 0 a0).bind fun o12 => match o12 with | (y13, y14, y15) => some ((S_Journal.mk y13 y14 y15))
theorem T28 (C : Nat -> List A -> Option A) (n : Nat) (h15 : Orc15 C) (a0 : S_Journal) (a1 : (List (List UInt8))) : J (fun (o : R) y => ∃ v, o.1 = .ret v /\ snapE o.2 v = (A.agg [(A.imm (List.map (cL c8) y.Records) false), (iA y.Many), (iA y.Synced)])) (evCall1 (cx C) (ec C n 8) (ey C n 8) (n+8) 28 [(A.agg (c_S_Journal a0)), (A.imm (List.map (cL c8) a1) false)] [] 0) some (F28 n a0 a1) some := by
 refine .lp (e28 ..) ?_
 unfold F28
 refine .s ((A.ptr 0 0), [Blk.box (c_S_Journal a0)]) (.s ((A.ptr 1 0), [Blk.box (c_S_Journal a0), bz3]) ?_)
 refine .st (v := (iA ((a1.length : Int)))) (len_imm (e := 35) (h1 := by kernel_rfl) ..) ?_
 refine .as (T28_28_0 C n h15 a1 ((a1.length : Int)) ([]) 0 0 _ _ _ _ ?_ _ 0 a0)
 ·intro y13 y14 y15 j16 j17 j18
  refine .un rfl ?_
  refine .cT (by kernel_rfl) ?_
  refine .s (A.agg [(A.imm (List.map (cL c8) y13) false), (iA y14), (iA y15)]) (.s [Blk.box [(A.imm (List.map (cL c8) y13) false), (iA y14), (iA y15)], Blk.box [(A.imm (List.map (cL c8) y13) false), (iA y14), (iA y15)]] (.s (A.agg [(A.imm (List.map (cL c8) y13) false), (iA y14), (iA y15)]) ?_))
  exact .lf rfl rfl ⟨_, rfl, by show snapE _ (A.agg [(A.imm (List.map (cL c8) y13) false), (iA y14), (iA y15)]) = _; first | (simp only [sn0, snM, snapE]; done) | (simp only [sn0, snS, snapE]; first | done | rfl)⟩
def G28 (a0 : S_Journal) (a1 : (List (List UInt8))) : Option S_Journal := F28 fuel0 a0 a1
def Orc28 (C : Nat -> List A -> Option A) : Prop := ∀ (a0 : S_Journal) (a1 : (List (List UInt8))), C 28 [(A.agg (c_S_Journal a0)), (A.imm (List.map (cL c8) a1) false)] = (G28 a0 a1).map fun y => (A.agg [(A.imm (List.map (cL c8) y.Records) false), (iA y.Many), (iA y.Synced)])
def F24_24_0 (n : Nat) (v2 : (List (List UInt8))) (v3 : (List (List UInt8))) (v4 : Bool) : Nat -> Int -> Option ((Bool) ⊕ (Unit))
 | 0, _ => none
 | m + 1, v5 => bif (decide (v5 < ((v2.length : Int)))) then ((getI v2 v5).bind fun y7 => (getI v3 v5).bind fun y8 => bif (!strEq (bstr y7) (bstr y8)) then (some ((Sum.inl false))) else (F24_24_0 n v2 v3 v4 m (wr .i64 (v5 + 1)))) else (some ((Sum.inr (()))))
theorem T24_24_0 (C : Nat -> List A -> Option A) (n : Nat) (v2 : (List (List UInt8))) (v3 : (List (List UInt8))) (v4 : Bool) {ρ γ : Type} {φ : ρ -> γ -> Prop} {kL : R -> Option ρ} {K : ((Bool) ⊕ (Unit)) -> Option γ} (kx kg : Nat -> St -> Option R) (kr : St -> Option R) (kp : A -> St -> Option R) (x0 : ∀ (o0 : Bool) (s0 : A) (s1 : A) (s5 : A), J φ (kr (St.mk [(0, s0), (1, s1), (4, (bA o0)), (5, s5)] [])) kL (K (Sum.inl o0)) some) (x1 : ∀ (s0 : A) (s1 : A) (s4 : A) (s5 : A), J φ (kx 0 (St.mk [(0, s0), (1, s1), (4, s4), (5, s5)] [])) kL (K (Sum.inr (()))) some) :
  ∀ (m : Nat) (v5 : Int), J φ (loopR (cx C) (ec C n 8) (ey C n 8) (n+8) 24 0 0 0 kx kg kr kp m (St.mk [(0, (A.imm (List.map (cL c8) v2) false)), (1, (A.imm (List.map (cL c8) v3) false)), (4, (bA v4)), (5, (iA v5))] [])) kL (F24_24_0 n v2 v3 v4 m v5) K := by
 intro m
 induction m with
 | zero => intros; exact .nn
 | succ m ih =>
  intro v5
  refine .lp (e24_0 ..) ?_
  unfold F24_24_0
  refine .st (v := (iA ((v2.length : Int)))) (len_imm (e := 35) (h1 := by kernel_rfl) ..) ?_
  refine .st (v := (bA (decide (v5 < ((v2.length : Int)))))) (aBin_lss ..) ?_
  refine .biHN (fun hk6 => ?_) (fun hk6 => ?_)
  ·refine .bd (g := fun (y : (List UInt8)) => A.ip ((cL c8) y)) (idx_imm (e := 35) (es := 1) (h1 := by kernel_rfl) (h2 := by kernel_rfl) (h3 := fun _ => rfl) ..) fun y7 => ?_
   refine .s (A.imm (List.map c8 y7) false) ?_
   refine .st (v := (A.v (Value.string (bstr y7)))) (conv_bs (e := 5) (l := y7) (by kernel_rfl) (by kernel_rfl) (by kernel_rfl) (by kernel_rfl) (els_imm ..) rfl) ?_
   refine .bd (g := fun (y : (List UInt8)) => A.ip ((cL c8) y)) (idx_imm (e := 35) (es := 1) (h1 := by kernel_rfl) (h2 := by kernel_rfl) (h3 := fun _ => rfl) ..) fun y8 => ?_
   refine .s (A.imm (List.map c8 y8) false) ?_
   refine .st (v := (A.v (Value.string (bstr y8)))) (conv_bs (e := 5) (l := y8) (by kernel_rfl) (by kernel_rfl) (by kernel_rfl) (by kernel_rfl) (els_imm ..) rfl) ?_
   refine .st (v := (bA (!strEq (bstr y7) (bstr y8)))) (aBin_neq_s ..) ?_
   refine .biHN (fun hk9 => ?_) (fun hk9 => ?_)
   ·exact .ex (x0 _ _ _ _)
   refine .st (v := (iA (wr .i64 (v5 + 1)))) (aBin_add ..) ?_
   refine .s [] ?_
   refine .cT (by kernel_rfl) ?_
   exact ih _
  exact .ex (x1 _ _ _ _)
def F24 (n : Nat) (a0 : (List (List UInt8))) (a1 : (List (List UInt8))) : Option Bool :=
 bif (((a0.length : Int)) != ((a1.length : Int))) then (some false) else ((F24_24_0 n a0 a1 false (n+8) 0).bind fun o10 => match o10 with | (Sum.inl y11) => some y11 | (Sum.inr _) => some true)
theorem T24 (C : Nat -> List A -> Option A) (n : Nat) (a0 : (List (List UInt8))) (a1 : (List (List UInt8))) : J (fun (o : R) y => ∃ v, o.1 = .ret v /\ snapE o.2 v = (bA y)) (evCall1 (cx C) (ec C n 8) (ey C n 8) (n+8) 24 [(A.imm (List.map (cL c8) a0) false), (A.imm (List.map (cL c8) a1) false)] [] 0) some (F24 n a0 a1) some := by
 refine .lp (e24 ..) ?_
 unfold F24
 refine .st (v := (iA ((a0.length : Int)))) (len_imm (e := 35) (h1 := by kernel_rfl) ..) ?_
 refine .st (v := (iA ((a1.length : Int)))) (len_imm (e := 35) (h1 := by kernel_rfl) ..) ?_
 refine .st (v := (bA (((a0.length : Int)) != ((a1.length : Int))))) (aBin_neq ..) ?_
 refine .biHN (fun hk1 => ?_) (fun hk1 => ?_)
 ·exact .lf rfl rfl ⟨_, rfl, rfl⟩
 refine .as (T24_24_0 C n  a0 a1 false _ _ _ _ ?_ ?_ _ 0)
 ·intro y11 j12 j13 j14
  refine .un rfl ?_
  exact .lf rfl rfl ⟨_, rfl, rfl⟩
 ·intro j15 j16 j17 j18
  refine .un rfl ?_
  refine .cT (by kernel_rfl) ?_
  exact .lf rfl rfl ⟨_, rfl, rfl⟩
def G24 (a0 : (List (List UInt8))) (a1 : (List (List UInt8))) : Option Bool := F24 fuel0 a0 a1
def Orc24 (C : Nat -> List A -> Option A) : Prop := ∀ (a0 : (List (List UInt8))) (a1 : (List (List UInt8))), C 24 [(A.imm (List.map (cL c8) a0) false), (A.imm (List.map (cL c8) a1) false)] = (G24 a0 a1).map fun y => (bA y)
def F14 (n : Nat) (a0 : S_Journal) (a1 : S_Journal) : Option Bool :=
 (bif (a0.Many == a1.Many) then (some (a0.Synced == a1.Synced)) else (some false)).bind fun y2 => (bif y2 then ((G24 a0.Records a1.Records).bind fun y9 => some y9) else (some false)).bind fun y10 => some y10
theorem T14 (C : Nat -> List A -> Option A) (n : Nat) (h24 : Orc24 C) (a0 : S_Journal) (a1 : S_Journal) : J (fun (o : R) y => ∃ v, o.1 = .ret v /\ snapE o.2 v = (bA y)) (evCall1 (cx C) (ec C n 8) (ey C n 8) (n+8) 14 [(A.agg (c_S_Journal a0)), (A.agg (c_S_Journal a1))] [] 0) some (F14 n a0 a1) some := by
 refine .lp (e14 ..) ?_
 unfold F14
 refine .s ((A.ptr 0 0), [Blk.box (c_S_Journal a0)]) (.s ((A.ptr 1 0), [Blk.box (c_S_Journal a0), Blk.box (c_S_Journal a1)]) (.s (A.ptr 0 1) (.s (iA a0.Many) (.s (A.ptr 1 1) (.s (iA a1.Many) ?_)))))
 refine .st (v := (bA (a0.Many == a1.Many))) (aBin_eql ..) ?_
 refine .bg (fun t (y : Bool) => ∃ j3 j4 j5 j6 j7 : A, t = [(bA y), j3, j4, j5, j6, j7]) ?_ ?_
 ·refine .biH (fun hk1 => ?_) (fun hk1 => ?_)
  ·refine .s (A.ptr 0 2) (.s (iA a0.Synced) (.s (A.ptr 1 2) (.s (iA a1.Synced) ?_)))
   refine .st (v := (bA (a0.Synced == a1.Synced))) (aBin_eql ..) ?_
   exact .lg ⟨_, _, _, _, _, rfl⟩
  exact .lg ⟨_, _, _, _, _, rfl⟩
 rintro _ y2 ⟨j3, j4, j5, j6, j7, rfl⟩
 iterate 6 refine .uc ?_
 refine .bg (fun t (y : Bool) => ∃ j11 j12 j13 j14 j15 : A, t = [(bA y), j11, j12, j13, j14, j15]) ?_ ?_
 ·refine .biH (fun hk8 => ?_) (fun hk8 => ?_)
  ·refine .s (A.ptr 0 0) (.s (A.imm (List.map (cL c8) a0.Records) false) (.s (A.ptr 1 0) (.s (A.imm (List.map (cL c8) a1.Records) false) ?_)))
   refine .bd (g := fun (y : Bool) => (bA y)) (by show C 24 [snap _ (A.imm (List.map (cL c8) a0.Records) false), snap _ (A.imm (List.map (cL c8) a1.Records) false)] = _; simp only [sn0, snM]; exact h24 a0.Records a1.Records) fun y9 => ?_
   exact .lg ⟨_, _, _, _, _, rfl⟩
  exact .lg ⟨_, _, _, _, _, rfl⟩
 rintro _ y10 ⟨j11, j12, j13, j14, j15, rfl⟩
 iterate 6 refine .uc ?_
 exact .lf rfl rfl ⟨_, rfl, rfl⟩
def G14 (a0 : S_Journal) (a1 : S_Journal) : Option Bool := F14 fuel0 a0 a1
def Orc14 (C : Nat -> List A -> Option A) : Prop := ∀ (a0 : S_Journal) (a1 : S_Journal), C 14 [(A.agg (c_S_Journal a0)), (A.agg (c_S_Journal a1))] = (G14 a0 a1).map fun y => (bA y)
def F23_23_0 (n : Nat) (v25 : Bool) (v27 : S_Disk) (v28 : S_Disk) : Nat -> Int -> Option ((Bool) ⊕ (Unit))
 | 0, _ => none
 | m + 1, v26 => bif (decide (v26 < ((v27.Sectors.length : Int)))) then ((getI v27.Sectors v26).bind fun y30 => (getI v28.Sectors v26).bind fun y31 => bif (!strEq (bstr y30) (bstr y31)) then (some ((Sum.inl false))) else (F23_23_0 n v25 v27 v28 m (wr .i64 (v26 + 1)))) else (some ((Sum.inr (()))))
theorem T23_23_0 (C : Nat -> List A -> Option A) (n : Nat) (v25 : Bool) (v27 : S_Disk) (v28 : S_Disk) {ρ γ : Type} {φ : ρ -> γ -> Prop} {kL : R -> Option ρ} {K : ((Bool) ⊕ (Unit)) -> Option γ} (kx kg : Nat -> St -> Option R) (kr : St -> Option R) (kp : A -> St -> Option R) (x0 : ∀ (o0 : Bool) (s2 : A) (s3 : A) (s5 : A), J φ (kr (St.mk [(2, s2), (3, s3), (4, (bA o0)), (5, s5)] [Blk.box (c_S_Disk v27), Blk.box (c_S_Disk v28)])) kL (K (Sum.inl o0)) some) (x1 : ∀ (s5 : A), J φ (kx 0 (St.mk [(2, (A.ptr 0 0)), (3, (A.ptr 1 0)), (4, (bA v25)), (5, s5)] [Blk.box (c_S_Disk v27), Blk.box (c_S_Disk v28)])) kL (K (Sum.inr (()))) some) :
  ∀ (m : Nat) (v26 : Int), J φ (loopR (cx C) (ec C n 8) (ey C n 8) (n+8) 23 0 0 2 kx kg kr kp m (St.mk [(2, (A.ptr 0 0)), (3, (A.ptr 1 0)), (4, (bA v25)), (5, (iA v26))] [Blk.box (c_S_Disk v27), Blk.box (c_S_Disk v28)])) kL (F23_23_0 n v25 v27 v28 m v26) K := by
 intro m
 induction m with
 | zero => intros; exact .nn
 | succ m ih =>
  intro v26
  refine .lp (e23_0 ..) ?_
  unfold F23_23_0
  refine .s (A.ptr 0 0) (.s (A.imm (List.map (cL c8) v27.Sectors) false) ?_)
  refine .st (v := (iA ((v27.Sectors.length : Int)))) (len_imm (e := 35) (h1 := by kernel_rfl) ..) ?_
  refine .st (v := (bA (decide (v26 < ((v27.Sectors.length : Int)))))) (aBin_lss ..) ?_
  refine .biHN (fun hk29 => ?_) (fun hk29 => ?_)
  ·refine .s (A.ptr 0 0) (.s (A.imm (List.map (cL c8) v27.Sectors) false) ?_)
   refine .bd (g := fun (y : (List UInt8)) => A.ip ((cL c8) y)) (idx_imm (e := 35) (es := 1) (h1 := by kernel_rfl) (h2 := by kernel_rfl) (h3 := fun _ => rfl) ..) fun y30 => ?_
   refine .s (A.imm (List.map c8 y30) false) ?_
   refine .st (v := (A.v (Value.string (bstr y30)))) (conv_bs (e := 5) (l := y30) (by kernel_rfl) (by kernel_rfl) (by kernel_rfl) (by kernel_rfl) (els_imm ..) rfl) ?_
   refine .s (A.ptr 1 0) (.s (A.imm (List.map (cL c8) v28.Sectors) false) ?_)
   refine .bd (g := fun (y : (List UInt8)) => A.ip ((cL c8) y)) (idx_imm (e := 35) (es := 1) (h1 := by kernel_rfl) (h2 := by kernel_rfl) (h3 := fun _ => rfl) ..) fun y31 => ?_
   refine .s (A.imm (List.map c8 y31) false) ?_
   refine .st (v := (A.v (Value.string (bstr y31)))) (conv_bs (e := 5) (l := y31) (by kernel_rfl) (by kernel_rfl) (by kernel_rfl) (by kernel_rfl) (els_imm ..) rfl) ?_
   refine .st (v := (bA (!strEq (bstr y30) (bstr y31)))) (aBin_neq_s ..) ?_
   refine .biHN (fun hk32 => ?_) (fun hk32 => ?_)
   ·exact .ex (x0 _ _ _ _)
   refine .st (v := (iA (wr .i64 (v26 + 1)))) (aBin_add ..) ?_
   refine .s [Blk.box (c_S_Disk v27), Blk.box (c_S_Disk v28)] ?_
   refine .cT (by kernel_rfl) ?_
   exact ih _
  exact .ex (x1 _)
def F23_23_1 (n : Nat) (v39 : Bool) (v41 : S_Disk) (v42 : S_Disk) : Nat -> Int -> Option ((Bool) ⊕ (Unit))
 | 0, _ => none
 | m + 1, v40 => bif (decide (v40 < ((v41.Pending.length : Int)))) then ((getI v41.Pending v40).bind fun y44 => (getI v42.Pending v40).bind fun y45 => bif (y44.At != y45.At) then ((some true).bind fun y52 => bif y52 then (some ((Sum.inl false))) else (F23_23_1 n v39 v41 v42 m (wr .i64 (v40 + 1)))) else ((getI v41.Pending v40).bind fun y47 => (getI v42.Pending v40).bind fun y48 => (some (!strEq (bstr y47.Data) (bstr y48.Data))).bind fun y49 => bif y49 then (some ((Sum.inl false))) else (F23_23_1 n v39 v41 v42 m (wr .i64 (v40 + 1))))) else (some ((Sum.inr (()))))
theorem T23_23_1 (C : Nat -> List A -> Option A) (n : Nat) (v39 : Bool) (v41 : S_Disk) (v42 : S_Disk) {ρ γ : Type} {φ : ρ -> γ -> Prop} {kL : R -> Option ρ} {K : ((Bool) ⊕ (Unit)) -> Option γ} (kx kg : Nat -> St -> Option R) (kr : St -> Option R) (kp : A -> St -> Option R) (x0 : ∀ (o0 : Bool) (s2 : A) (s3 : A) (s6 : A), J φ (kr (St.mk [(2, s2), (3, s3), (4, (bA o0)), (6, s6)] [Blk.box (c_S_Disk v41), Blk.box (c_S_Disk v42)])) kL (K (Sum.inl o0)) some) (x1 : ∀ (s2 : A) (s3 : A) (s4 : A) (s6 : A), J φ (kx 2 (St.mk [(2, s2), (3, s3), (4, s4), (6, s6)] [Blk.box (c_S_Disk v41), Blk.box (c_S_Disk v42)])) kL (K (Sum.inr (()))) some) :
  ∀ (m : Nat) (v40 : Int), J φ (loopR (cx C) (ec C n 8) (ey C n 8) (n+8) 23 0 1 2 kx kg kr kp m (St.mk [(2, (A.ptr 0 0)), (3, (A.ptr 1 0)), (4, (bA v39)), (6, (iA v40))] [Blk.box (c_S_Disk v41), Blk.box (c_S_Disk v42)])) kL (F23_23_1 n v39 v41 v42 m v40) K := by
 intro m
 induction m with
 | zero => intros; exact .nn
 | succ m ih =>
  intro v40
  refine .lp (e23_1 ..) ?_
  unfold F23_23_1
  refine .s (A.ptr 0 1) (.s (A.imm (List.map c_S_Write v41.Pending) false) ?_)
  refine .st (v := (iA ((v41.Pending.length : Int)))) (len_imm (e := 76) (h1 := by kernel_rfl) ..) ?_
  refine .st (v := (bA (decide (v40 < ((v41.Pending.length : Int)))))) (aBin_lss ..) ?_
  refine .biHN (fun hk43 => ?_) (fun hk43 => ?_)
  ·refine .s (A.ptr 0 1) (.s (A.imm (List.map c_S_Write v41.Pending) false) ?_)
   refine .bd (g := fun (y : S_Write) => A.ip (c_S_Write y)) (idx_imm (e := 76) (es := 2) (h1 := by kernel_rfl) (h2 := by kernel_rfl) (h3 := fun _ => rfl) ..) fun y44 => ?_
   refine .s (A.ip [(iA y44.At), (A.imm (List.map c8 y44.Data) false)]) (.s (iA y44.At) (.s (A.ptr 1 1) (.s (A.imm (List.map c_S_Write v42.Pending) false) ?_)))
   refine .bd (g := fun (y : S_Write) => A.ip (c_S_Write y)) (idx_imm (e := 76) (es := 2) (h1 := by kernel_rfl) (h2 := by kernel_rfl) (h3 := fun _ => rfl) ..) fun y45 => ?_
   refine .s (A.ip [(iA y45.At), (A.imm (List.map c8 y45.Data) false)]) (.s (iA y45.At) ?_)
   refine .st (v := (bA (y44.At != y45.At))) (aBin_neq ..) ?_
   refine .gsf (fun hc46 => ?_) (fun hc46 => ?_)
   ·refine .bb ?_
    refine .s (A.ptr 0 1) (.s (A.imm (List.map c_S_Write v41.Pending) false) ?_)
    refine .bd (g := fun (y : S_Write) => A.ip (c_S_Write y)) (idx_imm (e := 76) (es := 2) (h1 := by kernel_rfl) (h2 := by kernel_rfl) (h3 := fun _ => rfl) ..) fun y47 => ?_
    refine .s (A.ip [(A.imm (List.map c8 y47.Data) false)]) (.s (A.imm (List.map c8 y47.Data) false) ?_)
    refine .st (v := (A.v (Value.string (bstr y47.Data)))) (conv_bs (e := 5) (l := y47.Data) (by kernel_rfl) (by kernel_rfl) (by kernel_rfl) (by kernel_rfl) (els_imm ..) rfl) ?_
    refine .s (A.ptr 1 1) (.s (A.imm (List.map c_S_Write v42.Pending) false) ?_)
    refine .bd (g := fun (y : S_Write) => A.ip (c_S_Write y)) (idx_imm (e := 76) (es := 2) (h1 := by kernel_rfl) (h2 := by kernel_rfl) (h3 := fun _ => rfl) ..) fun y48 => ?_
    refine .s (A.ip [(A.imm (List.map c8 y48.Data) false)]) (.s (A.imm (List.map c8 y48.Data) false) ?_)
    refine .st (v := (A.v (Value.string (bstr y48.Data)))) (conv_bs (e := 5) (l := y48.Data) (by kernel_rfl) (by kernel_rfl) (by kernel_rfl) (by kernel_rfl) (els_imm ..) rfl) ?_
    refine .cr ?_
    iterate 14 refine .uc ?_
    refine .bg (fun t (y : Bool) => ∃ j50 : A, t = [(bA y), j50]) ?_ ?_
    ·refine .bKF hc46 ?_
     refine .st (v := (bA (!strEq (bstr y47.Data) (bstr y48.Data)))) (aBin_neq_s ..) ?_
     exact .lg ⟨_, rfl⟩
    rintro _ y49 ⟨j50, rfl⟩
    iterate 2 refine .uc ?_
    refine .biHN (fun hk51 => ?_) (fun hk51 => ?_)
    ·exact .ex (x0 _ _ _ _)
    refine .st (v := (iA (wr .i64 (v40 + 1)))) (aBin_add ..) ?_
    refine .s [Blk.box (c_S_Disk v41), Blk.box (c_S_Disk v42)] ?_
    refine .cT (by kernel_rfl) ?_
    exact ih _
   refine .bb ?_
   refine .cr ?_
   iterate 14 refine .uc ?_
   refine .bg (fun t (y : Bool) => ∃ j53 : A, t = [(bA y), j53]) ?_ ?_
   ·refine .bKT hc46 ?_
    exact .lg ⟨_, rfl⟩
   rintro _ y52 ⟨j53, rfl⟩
   iterate 2 refine .uc ?_
   refine .biHN (fun hk54 => ?_) (fun hk54 => ?_)
   ·exact .ex (x0 _ _ _ _)
   refine .st (v := (iA (wr .i64 (v40 + 1)))) (aBin_add ..) ?_
   refine .s [Blk.box (c_S_Disk v41), Blk.box (c_S_Disk v42)] ?_
   refine .cT (by kernel_rfl) ?_
   exact ih _
  exact .ex (x1 _ _ _ _)
def F23 (n : Nat) (a0 : S_Disk) (a1 : S_Disk) : Option Bool :=
 (bif (((a0.Sectors.length : Int)) != ((a1.Sectors.length : Int))) then (some true) else (some (((a0.Pending.length : Int)) != ((a1.Pending.length : Int))))).bind fun y2 => (bif y2 then (some true) else (some (a0.Left != a1.Left))).bind fun y11 => (bif y11 then (some true) else (some (a0.Stopped != a1.Stopped))).bind fun y18 => bif y18 then (some false) else ((F23_23_0 n false a0 a1 (n+8) 0).bind fun o33 => match o33 with | (Sum.inl y34) => some y34 | (Sum.inr _) => (F23_23_1 n false a0 a1 (n+8) 0).bind fun o55 => match o55 with | (Sum.inl y56) => some y56 | (Sum.inr _) => some true)
theorem T23 (C : Nat -> List A -> Option A) (n : Nat) (a0 : S_Disk) (a1 : S_Disk) : J (fun (o : R) y => ∃ v, o.1 = .ret v /\ snapE o.2 v = (bA y)) (evCall1 (cx C) (ec C n 8) (ey C n 8) (n+8) 23 [(A.agg (c_S_Disk a0)), (A.agg (c_S_Disk a1))] [] 0) some (F23 n a0 a1) some := by
 refine .lp (e23 ..) ?_
 unfold F23
 refine .s ((A.ptr 0 0), [Blk.box (c_S_Disk a0)]) (.s ((A.ptr 1 0), [Blk.box (c_S_Disk a0), Blk.box (c_S_Disk a1)]) (.s (A.ptr 0 0) (.s (A.imm (List.map (cL c8) a0.Sectors) false) ?_)))
 refine .st (v := (iA ((a0.Sectors.length : Int)))) (len_imm (e := 35) (h1 := by kernel_rfl) ..) ?_
 refine .s (A.ptr 1 0) (.s (A.imm (List.map (cL c8) a1.Sectors) false) ?_)
 refine .st (v := (iA ((a1.Sectors.length : Int)))) (len_imm (e := 35) (h1 := by kernel_rfl) ..) ?_
 refine .st (v := (bA (((a0.Sectors.length : Int)) != ((a1.Sectors.length : Int))))) (aBin_neq ..) ?_
 refine .bg (fun t (y : Bool) => ∃ j3 j4 j5 j6 j7 j8 j9 : A, t = [(bA y), j3, j4, j5, j6, j7, j8, j9]) ?_ ?_
 ·refine .biH (fun hk1 => ?_) (fun hk1 => ?_)
  ·exact .lg ⟨_, _, _, _, _, _, _, rfl⟩
  refine .s (A.ptr 0 1) (.s (A.imm (List.map c_S_Write a0.Pending) false) ?_)
  refine .st (v := (iA ((a0.Pending.length : Int)))) (len_imm (e := 76) (h1 := by kernel_rfl) ..) ?_
  refine .s (A.ptr 1 1) (.s (A.imm (List.map c_S_Write a1.Pending) false) ?_)
  refine .st (v := (iA ((a1.Pending.length : Int)))) (len_imm (e := 76) (h1 := by kernel_rfl) ..) ?_
  refine .st (v := (bA (((a0.Pending.length : Int)) != ((a1.Pending.length : Int))))) (aBin_neq ..) ?_
  exact .lg ⟨_, _, _, _, _, _, _, rfl⟩
 rintro _ y2 ⟨j3, j4, j5, j6, j7, j8, j9, rfl⟩
 iterate 8 refine .uc ?_
 refine .bg (fun t (y : Bool) => ∃ j12 j13 j14 j15 j16 : A, t = [(bA y), j12, j13, j14, j15, j16]) ?_ ?_
 ·refine .biH (fun hk10 => ?_) (fun hk10 => ?_)
  ·exact .lg ⟨_, _, _, _, _, rfl⟩
  refine .s (A.ptr 0 2) (.s (iA a0.Left) (.s (A.ptr 1 2) (.s (iA a1.Left) ?_)))
  refine .st (v := (bA (a0.Left != a1.Left))) (aBin_neq ..) ?_
  exact .lg ⟨_, _, _, _, _, rfl⟩
 rintro _ y11 ⟨j12, j13, j14, j15, j16, rfl⟩
 iterate 6 refine .uc ?_
 refine .bg (fun t (y : Bool) => ∃ j19 j20 j21 j22 j23 : A, t = [(bA y), j19, j20, j21, j22, j23]) ?_ ?_
 ·refine .biH (fun hk17 => ?_) (fun hk17 => ?_)
  ·exact .lg ⟨_, _, _, _, _, rfl⟩
  refine .s (A.ptr 0 3) (.s (bA a0.Stopped) (.s (A.ptr 1 3) (.s (bA a1.Stopped) (.s (bA (a0.Stopped != a1.Stopped)) ?_))))
  exact .lg ⟨_, _, _, _, _, rfl⟩
 rintro _ y18 ⟨j19, j20, j21, j22, j23, rfl⟩
 iterate 6 refine .uc ?_
 refine .biHN (fun hk24 => ?_) (fun hk24 => ?_)
 ·exact .lf rfl rfl ⟨_, rfl, rfl⟩
 refine .as (T23_23_0 C n  false a0 a1 _ _ _ _ ?_ ?_ _ 0)
 ·intro y34 j35 j36 j37
  refine .un rfl ?_
  exact .lf rfl rfl ⟨_, rfl, rfl⟩
 ·intro j38
  refine .un rfl ?_
  refine .cT (by kernel_rfl) ?_
  refine .as (T23_23_1 C n  false a0 a1 _ _ _ _ ?_ ?_ _ 0)
  ·intro y56 j57 j58 j59
   refine .un rfl ?_
   exact .lf rfl rfl ⟨_, rfl, rfl⟩
  ·intro j60 j61 j62 j63
   refine .un rfl ?_
   refine .cT (by kernel_rfl) ?_
   exact .lf rfl rfl ⟨_, rfl, rfl⟩
def G23 (a0 : S_Disk) (a1 : S_Disk) : Option Bool := F23 fuel0 a0 a1
def Orc23 (C : Nat -> List A -> Option A) : Prop := ∀ (a0 : S_Disk) (a1 : S_Disk), C 23 [(A.agg (c_S_Disk a0)), (A.agg (c_S_Disk a1))] = (G23 a0 a1).map fun y => (bA y)
def F8 (n : Nat) (a0 : (List (List UInt8))) (a1 : (List (List UInt8))) : Option Bool :=
 (G10 ).bind fun y1 => bif (!y1) then (some false) else ((G25 40).bind fun y3 => bif (y3.2 != 0) then (some (y3.2 == 0)) else ((appI 24 ([]) a0).bind fun y5 => (appI 24 y5 a1).bind fun y6 => ((G11 y3.1 y6).bind fun y7 => some (!y7)).bind fun y8 => bif y8 then (some (y3.2 == 0)) else ((G12 y3.1).bind fun y12 => bif (y12.2 != 0) then (some false) else ((G28 y12.1 a0).bind fun y14 => (G28 y14 a1).bind fun y15 => (G21 y15 y3.1).bind fun y16 => (G28 y12.1 a0).bind fun y17 => (G21 y17 y3.1).bind fun y18 => (G28 y18.1 a1).bind fun y19 => (G21 y19 y18.2.1).bind fun y20 => (G21 y20.1 y20.2.1).bind fun y21 => (G12 y16.2.1).bind fun y22 => (G12 y21.2.1).bind fun y23 => (bif (y16.2.2 == 0) then (some (y18.2.2 == 0)) else (some false)).bind fun y25 => (bif y25 then (some (y20.2.2 == 0)) else (some false)).bind fun y29 => (bif y29 then (some (y21.2.2 == 0)) else (some false)).bind fun y33 => (bif y33 then (some (y22.2 == 0)) else (some false)).bind fun y37 => (bif y37 then (some (y23.2 == 0)) else (some false)).bind fun y41 => (bif y41 then ((G14 y16.1 y20.1).bind fun y45 => some y45) else (some false)).bind fun y46 => (bif y46 then ((G14 y21.1 y20.1).bind fun y51 => some y51) else (some false)).bind fun y52 => (bif y52 then ((G24 y22.1.Records y23.1.Records).bind fun y57 => some y57) else (some false)).bind fun y58 => (bif y58 then ((G24 y22.1.Records y16.1.Records).bind fun y65 => some y65) else (some false)).bind fun y66 => (bif y66 then ((G23 y20.2.1 y21.2.1).bind fun y73 => some y73) else (some false)).bind fun y74 => some y74))))
theorem T8 (C : Nat -> List A -> Option A) (n : Nat) (h10 : Orc10 C) (h11 : Orc11 C) (h12 : Orc12 C) (h14 : Orc14 C) (h21 : Orc21 C) (h23 : Orc23 C) (h24 : Orc24 C) (h25 : Orc25 C) (h28 : Orc28 C) (a0 : (List (List UInt8))) (a1 : (List (List UInt8))) : J (fun (o : R) y => ∃ v, o.1 = .ret v /\ snapE o.2 v = (bA y)) (evCall1 (cx C) (ec C n 8) (ey C n 8) (n+8) 8 [(A.imm (List.map (cL c8) a0) false), (A.imm (List.map (cL c8) a1) false)] [] 0) some (F8 n a0 a1) some := by
 refine .lp (e8 ..) ?_
 unfold F8
 refine .bd (g := fun (y : Bool) => (bA y)) (h10 ()) fun y1 => ?_
 refine .s (bA (!y1)) ?_
 refine .biHN (fun hk2 => ?_) (fun hk2 => ?_)
 ·exact .lf rfl rfl ⟨_, rfl, rfl⟩
 refine .bd (g := fun (y : (S_Disk × Int)) => (A.tup [(A.agg [(A.imm (List.map (cL c8) y.1.Sectors) false), (A.imm (List.map c_S_Write y.1.Pending) false), (iA y.1.Left), (bA y.1.Stopped)]), (iA y.2)])) (h25 40) fun y3 => ?_
 refine .s (A.agg (c_S_Disk y3.1)) (.s (iA y3.2) (.s ((A.ptr 0 0), [bz4]) (.s [Blk.box (c_S_Disk y3.1)] ?_)))
 refine .st (v := (bA (y3.2 != 0))) (aBin_neq ..) ?_
 refine .biH (fun hk4 => ?_) (fun hk4 => ?_)
 ·refine .cT (by kernel_rfl) ?_
  refine .cT (by kernel_rfl) ?_
  refine .st (v := (bA (y3.2 == 0))) (aBin_eql ..) ?_
  exact .lf rfl rfl ⟨_, rfl, rfl⟩
 refine .s (A.agg (c_S_Disk y3.1)) (.s (A.imm [] true) ?_)
 refine .cT (by kernel_rfl) ?_
 refine .bd (g := fun (y : List (List UInt8)) => ((A.sl 1 0 y.length false), [Blk.box (c_S_Disk y3.1), Blk.row false 1 (List.map (cL c8) y)])) (app_imm (e := 35) (es := 1) (by_ := 24) (z := [(A.imm [] true)]) (by kernel_rfl) (by kernel_rfl) (by kernel_rfl) (by kernel_rfl) rfl (by decide) (by decide) (by kernel_rfl) (f := (cL c8)) (fun _ => rfl) ce_cL (l := []) (l2 := a0) (els_imm ..)) fun y5 => ?_
 refine .cT (by kernel_rfl) ?_
 refine .bd (g := fun (y : List (List UInt8)) => ((A.sl 1 0 y.length false), [Blk.box (c_S_Disk y3.1), Blk.row false 1 (List.map (cL c8) y)])) (app_row (e := 35) (es := 1) (by_ := 24) (z := [(A.imm [] true)]) (by kernel_rfl) (by kernel_rfl) (by kernel_rfl) (by kernel_rfl) rfl (by decide) (by decide) (by kernel_rfl) (f := (cL c8)) (fun _ => rfl) ce_cL (l := y5) (l2 := a1) (b := 1) rfl (by decide) (els_imm ..)) fun y6 => ?_
 refine .bg (fun t (y : Bool) => ∃ j9 j10 : A, t = [(bA y), j9, j10]) ?_ ?_
 ·refine .bd (g := fun (y : Bool) => (bA y)) (by show C 11 [snap _ (A.agg (c_S_Disk y3.1)), snap [Blk.box (c_S_Disk y3.1), Blk.row false 1 (List.map (cL c8) y6)] (A.sl 1 0 y6.length false)] = _; simp only [sn0, snM, snapG_row (H := [Blk.box (c_S_Disk y3.1), Blk.row false 1 (List.map (cL c8) y6)]) (b := 1) (es := 1) (l := y6) (fl_cL fl_c8) rfl]; exact h11 y3.1 y6) fun y7 => ?_
  refine .s (bA (!y7)) ?_
  exact .lg ⟨_, _, rfl⟩
 rintro _ y8 ⟨j9, j10, rfl⟩
 iterate 3 refine .uc ?_
 refine .biHN (fun hk11 => ?_) (fun hk11 => ?_)
 ·refine .st (v := (bA (y3.2 == 0))) (aBin_eql ..) ?_
  exact .lf rfl rfl ⟨_, rfl, rfl⟩
 refine .s (A.agg (c_S_Disk y3.1)) ?_
 refine .bd (g := fun (y : (S_Journal × Int)) => (A.tup [(A.agg [(A.imm (List.map (cL c8) y.1.Records) false), (iA y.1.Many), (iA y.1.Synced)]), (iA y.2)])) (by show C 12 [snap _ (A.agg (c_S_Disk y3.1))] = _; simp only [sn0, snM, snapG_row (H := [Blk.box (c_S_Disk y3.1), Blk.row false 1 (List.map (cL c8) y6)]) (b := 1) (es := 1) (l := y6) (fl_cL fl_c8) rfl]; exact h12 y3.1) fun y12 => ?_
 refine .s (A.agg (c_S_Journal y12.1)) (.s (iA y12.2) (.s ((A.ptr 2 0), [Blk.box (c_S_Disk y3.1), Blk.row false 1 (List.map (cL c8) y6), bz3]) (.s [Blk.box (c_S_Disk y3.1), Blk.row false 1 (List.map (cL c8) y6), Blk.box (c_S_Journal y12.1)] ?_)))
 refine .st (v := (bA (y12.2 != 0))) (aBin_neq ..) ?_
 refine .biHN (fun hk13 => ?_) (fun hk13 => ?_)
 ·exact .lf rfl rfl ⟨_, rfl, rfl⟩
 refine .s ((A.ptr 3 0), [Blk.box (c_S_Disk y3.1), Blk.row false 1 (List.map (cL c8) y6), Blk.box (c_S_Journal y12.1), bz3]) (.s ((A.ptr 4 0), [Blk.box (c_S_Disk y3.1), Blk.row false 1 (List.map (cL c8) y6), Blk.box (c_S_Journal y12.1), bz3, bz4]) (.s (A.agg (c_S_Journal y12.1)) ?_))
 refine .bd (g := fun (y : S_Journal) => (A.agg [(A.imm (List.map (cL c8) y.Records) false), (iA y.Many), (iA y.Synced)])) (by show C 28 [snap _ (A.agg (c_S_Journal y12.1)), snap _ (A.imm (List.map (cL c8) a0) false)] = _; simp only [sn0, snM, snapG_row (H := [Blk.box (c_S_Disk y3.1), Blk.row false 1 (List.map (cL c8) y6), Blk.box (c_S_Journal y12.1), bz3, bz4]) (b := 1) (es := 1) (l := y6) (fl_cL fl_c8) rfl]; exact h28 y12.1 a0) fun y14 => ?_
 refine .bd (g := fun (y : S_Journal) => (A.agg [(A.imm (List.map (cL c8) y.Records) false), (iA y.Many), (iA y.Synced)])) (by show C 28 [snap _ (A.agg (c_S_Journal y14)), snap _ (A.imm (List.map (cL c8) a1) false)] = _; simp only [sn0, snM, snapG_row (H := [Blk.box (c_S_Disk y3.1), Blk.row false 1 (List.map (cL c8) y6), Blk.box (c_S_Journal y12.1), bz3, bz4]) (b := 1) (es := 1) (l := y6) (fl_cL fl_c8) rfl]; exact h28 y14 a1) fun y15 => ?_
 refine .s (A.agg (c_S_Disk y3.1)) ?_
 refine .bd (g := fun (y : (S_Journal × S_Disk × Int)) => (A.tup [(A.agg [(A.imm (List.map (cL c8) y.1.Records) false), (iA y.1.Many), (iA y.1.Synced)]), (A.agg [(A.imm (List.map (cL c8) y.2.1.Sectors) false), (A.imm (List.map c_S_Write y.2.1.Pending) false), (iA y.2.1.Left), (bA y.2.1.Stopped)]), (iA y.2.2)])) (by show C 21 [snap _ (A.agg (c_S_Journal y15)), snap _ (A.agg (c_S_Disk y3.1))] = _; simp only [sn0, snM, snapG_row (H := [Blk.box (c_S_Disk y3.1), Blk.row false 1 (List.map (cL c8) y6), Blk.box (c_S_Journal y12.1), bz3, bz4]) (b := 1) (es := 1) (l := y6) (fl_cL fl_c8) rfl]; exact h21 y15 y3.1) fun y16 => ?_
 refine .s (A.agg (c_S_Journal y16.1)) (.s (A.agg (c_S_Disk y16.2.1)) (.s (iA y16.2.2) (.s [Blk.box (c_S_Disk y3.1), Blk.row false 1 (List.map (cL c8) y6), Blk.box (c_S_Journal y12.1), Blk.box (c_S_Journal y16.1), bz4] (.s [Blk.box (c_S_Disk y3.1), Blk.row false 1 (List.map (cL c8) y6), Blk.box (c_S_Journal y12.1), Blk.box (c_S_Journal y16.1), Blk.box (c_S_Disk y16.2.1)] (.s ((A.ptr 5 0), [Blk.box (c_S_Disk y3.1), Blk.row false 1 (List.map (cL c8) y6), Blk.box (c_S_Journal y12.1), Blk.box (c_S_Journal y16.1), Blk.box (c_S_Disk y16.2.1), bz3]) (.s ((A.ptr 6 0), [Blk.box (c_S_Disk y3.1), Blk.row false 1 (List.map (cL c8) y6), Blk.box (c_S_Journal y12.1), Blk.box (c_S_Journal y16.1), Blk.box (c_S_Disk y16.2.1), bz3, bz4]) (.s (A.agg (c_S_Journal y12.1)) ?_)))))))
 refine .bd (g := fun (y : S_Journal) => (A.agg [(A.imm (List.map (cL c8) y.Records) false), (iA y.Many), (iA y.Synced)])) (by show C 28 [snap _ (A.agg (c_S_Journal y12.1)), snap _ (A.imm (List.map (cL c8) a0) false)] = _; simp only [sn0, snM, snapG_row (H := [Blk.box (c_S_Disk y3.1), Blk.row false 1 (List.map (cL c8) y6), Blk.box (c_S_Journal y12.1), Blk.box (c_S_Journal y16.1), Blk.box (c_S_Disk y16.2.1), bz3, bz4]) (b := 1) (es := 1) (l := y6) (fl_cL fl_c8) rfl]; exact h28 y12.1 a0) fun y17 => ?_
 refine .s (A.agg (c_S_Disk y3.1)) ?_
 refine .bd (g := fun (y : (S_Journal × S_Disk × Int)) => (A.tup [(A.agg [(A.imm (List.map (cL c8) y.1.Records) false), (iA y.1.Many), (iA y.1.Synced)]), (A.agg [(A.imm (List.map (cL c8) y.2.1.Sectors) false), (A.imm (List.map c_S_Write y.2.1.Pending) false), (iA y.2.1.Left), (bA y.2.1.Stopped)]), (iA y.2.2)])) (by show C 21 [snap _ (A.agg (c_S_Journal y17)), snap _ (A.agg (c_S_Disk y3.1))] = _; simp only [sn0, snM, snapG_row (H := [Blk.box (c_S_Disk y3.1), Blk.row false 1 (List.map (cL c8) y6), Blk.box (c_S_Journal y12.1), Blk.box (c_S_Journal y16.1), Blk.box (c_S_Disk y16.2.1), bz3, bz4]) (b := 1) (es := 1) (l := y6) (fl_cL fl_c8) rfl]; exact h21 y17 y3.1) fun y18 => ?_
 refine .s (A.agg (c_S_Journal y18.1)) (.s (A.agg (c_S_Disk y18.2.1)) (.s (iA y18.2.2) (.s [Blk.box (c_S_Disk y3.1), Blk.row false 1 (List.map (cL c8) y6), Blk.box (c_S_Journal y12.1), Blk.box (c_S_Journal y16.1), Blk.box (c_S_Disk y16.2.1), Blk.box (c_S_Journal y18.1), bz4] (.s [Blk.box (c_S_Disk y3.1), Blk.row false 1 (List.map (cL c8) y6), Blk.box (c_S_Journal y12.1), Blk.box (c_S_Journal y16.1), Blk.box (c_S_Disk y16.2.1), Blk.box (c_S_Journal y18.1), Blk.box (c_S_Disk y18.2.1)] (.s ((A.ptr 7 0), [Blk.box (c_S_Disk y3.1), Blk.row false 1 (List.map (cL c8) y6), Blk.box (c_S_Journal y12.1), Blk.box (c_S_Journal y16.1), Blk.box (c_S_Disk y16.2.1), Blk.box (c_S_Journal y18.1), Blk.box (c_S_Disk y18.2.1), bz3]) (.s ((A.ptr 8 0), [Blk.box (c_S_Disk y3.1), Blk.row false 1 (List.map (cL c8) y6), Blk.box (c_S_Journal y12.1), Blk.box (c_S_Journal y16.1), Blk.box (c_S_Disk y16.2.1), Blk.box (c_S_Journal y18.1), Blk.box (c_S_Disk y18.2.1), bz3, bz4]) (.s (A.agg (c_S_Journal y18.1)) ?_)))))))
 refine .bd (g := fun (y : S_Journal) => (A.agg [(A.imm (List.map (cL c8) y.Records) false), (iA y.Many), (iA y.Synced)])) (by show C 28 [snap _ (A.agg (c_S_Journal y18.1)), snap _ (A.imm (List.map (cL c8) a1) false)] = _; simp only [sn0, snM, snapG_row (H := [Blk.box (c_S_Disk y3.1), Blk.row false 1 (List.map (cL c8) y6), Blk.box (c_S_Journal y12.1), Blk.box (c_S_Journal y16.1), Blk.box (c_S_Disk y16.2.1), Blk.box (c_S_Journal y18.1), Blk.box (c_S_Disk y18.2.1), bz3, bz4]) (b := 1) (es := 1) (l := y6) (fl_cL fl_c8) rfl]; exact h28 y18.1 a1) fun y19 => ?_
 refine .s (A.agg (c_S_Disk y18.2.1)) ?_
 refine .bd (g := fun (y : (S_Journal × S_Disk × Int)) => (A.tup [(A.agg [(A.imm (List.map (cL c8) y.1.Records) false), (iA y.1.Many), (iA y.1.Synced)]), (A.agg [(A.imm (List.map (cL c8) y.2.1.Sectors) false), (A.imm (List.map c_S_Write y.2.1.Pending) false), (iA y.2.1.Left), (bA y.2.1.Stopped)]), (iA y.2.2)])) (by show C 21 [snap _ (A.agg (c_S_Journal y19)), snap _ (A.agg (c_S_Disk y18.2.1))] = _; simp only [sn0, snM, snapG_row (H := [Blk.box (c_S_Disk y3.1), Blk.row false 1 (List.map (cL c8) y6), Blk.box (c_S_Journal y12.1), Blk.box (c_S_Journal y16.1), Blk.box (c_S_Disk y16.2.1), Blk.box (c_S_Journal y18.1), Blk.box (c_S_Disk y18.2.1), bz3, bz4]) (b := 1) (es := 1) (l := y6) (fl_cL fl_c8) rfl]; exact h21 y19 y18.2.1) fun y20 => ?_
 refine .s (A.agg (c_S_Journal y20.1)) (.s (A.agg (c_S_Disk y20.2.1)) (.s (iA y20.2.2) (.s [Blk.box (c_S_Disk y3.1), Blk.row false 1 (List.map (cL c8) y6), Blk.box (c_S_Journal y12.1), Blk.box (c_S_Journal y16.1), Blk.box (c_S_Disk y16.2.1), Blk.box (c_S_Journal y18.1), Blk.box (c_S_Disk y18.2.1), Blk.box (c_S_Journal y20.1), bz4] (.s [Blk.box (c_S_Disk y3.1), Blk.row false 1 (List.map (cL c8) y6), Blk.box (c_S_Journal y12.1), Blk.box (c_S_Journal y16.1), Blk.box (c_S_Disk y16.2.1), Blk.box (c_S_Journal y18.1), Blk.box (c_S_Disk y18.2.1), Blk.box (c_S_Journal y20.1), Blk.box (c_S_Disk y20.2.1)] (.s (A.agg (c_S_Journal y20.1)) (.s (A.agg (c_S_Disk y20.2.1)) ?_))))))
 refine .bd (g := fun (y : (S_Journal × S_Disk × Int)) => (A.tup [(A.agg [(A.imm (List.map (cL c8) y.1.Records) false), (iA y.1.Many), (iA y.1.Synced)]), (A.agg [(A.imm (List.map (cL c8) y.2.1.Sectors) false), (A.imm (List.map c_S_Write y.2.1.Pending) false), (iA y.2.1.Left), (bA y.2.1.Stopped)]), (iA y.2.2)])) (by show C 21 [snap _ (A.agg (c_S_Journal y20.1)), snap _ (A.agg (c_S_Disk y20.2.1))] = _; simp only [sn0, snM, snapG_row (H := [Blk.box (c_S_Disk y3.1), Blk.row false 1 (List.map (cL c8) y6), Blk.box (c_S_Journal y12.1), Blk.box (c_S_Journal y16.1), Blk.box (c_S_Disk y16.2.1), Blk.box (c_S_Journal y18.1), Blk.box (c_S_Disk y18.2.1), Blk.box (c_S_Journal y20.1), Blk.box (c_S_Disk y20.2.1)]) (b := 1) (es := 1) (l := y6) (fl_cL fl_c8) rfl]; exact h21 y20.1 y20.2.1) fun y21 => ?_
 refine .s (A.agg (c_S_Journal y21.1)) (.s (A.agg (c_S_Disk y21.2.1)) (.s (iA y21.2.2) (.s ((A.ptr 9 0), [Blk.box (c_S_Disk y3.1), Blk.row false 1 (List.map (cL c8) y6), Blk.box (c_S_Journal y12.1), Blk.box (c_S_Journal y16.1), Blk.box (c_S_Disk y16.2.1), Blk.box (c_S_Journal y18.1), Blk.box (c_S_Disk y18.2.1), Blk.box (c_S_Journal y20.1), Blk.box (c_S_Disk y20.2.1), bz3]) (.s ((A.ptr 10 0), [Blk.box (c_S_Disk y3.1), Blk.row false 1 (List.map (cL c8) y6), Blk.box (c_S_Journal y12.1), Blk.box (c_S_Journal y16.1), Blk.box (c_S_Disk y16.2.1), Blk.box (c_S_Journal y18.1), Blk.box (c_S_Disk y18.2.1), Blk.box (c_S_Journal y20.1), Blk.box (c_S_Disk y20.2.1), bz3, bz4]) (.s [Blk.box (c_S_Disk y3.1), Blk.row false 1 (List.map (cL c8) y6), Blk.box (c_S_Journal y12.1), Blk.box (c_S_Journal y16.1), Blk.box (c_S_Disk y16.2.1), Blk.box (c_S_Journal y18.1), Blk.box (c_S_Disk y18.2.1), Blk.box (c_S_Journal y20.1), Blk.box (c_S_Disk y20.2.1), Blk.box (c_S_Journal y21.1), bz4] (.s [Blk.box (c_S_Disk y3.1), Blk.row false 1 (List.map (cL c8) y6), Blk.box (c_S_Journal y12.1), Blk.box (c_S_Journal y16.1), Blk.box (c_S_Disk y16.2.1), Blk.box (c_S_Journal y18.1), Blk.box (c_S_Disk y18.2.1), Blk.box (c_S_Journal y20.1), Blk.box (c_S_Disk y20.2.1), Blk.box (c_S_Journal y21.1), Blk.box (c_S_Disk y21.2.1)] ?_))))))
 refine .s (A.agg (c_S_Disk y16.2.1)) ?_
 refine .bd (g := fun (y : (S_Journal × Int)) => (A.tup [(A.agg [(A.imm (List.map (cL c8) y.1.Records) false), (iA y.1.Many), (iA y.1.Synced)]), (iA y.2)])) (by show C 12 [snap _ (A.agg (c_S_Disk y16.2.1))] = _; simp only [sn0, snM, snapG_row (H := [Blk.box (c_S_Disk y3.1), Blk.row false 1 (List.map (cL c8) y6), Blk.box (c_S_Journal y12.1), Blk.box (c_S_Journal y16.1), Blk.box (c_S_Disk y16.2.1), Blk.box (c_S_Journal y18.1), Blk.box (c_S_Disk y18.2.1), Blk.box (c_S_Journal y20.1), Blk.box (c_S_Disk y20.2.1), Blk.box (c_S_Journal y21.1), Blk.box (c_S_Disk y21.2.1)]) (b := 1) (es := 1) (l := y6) (fl_cL fl_c8) rfl]; exact h12 y16.2.1) fun y22 => ?_
 refine .s (A.agg (c_S_Journal y22.1)) (.s (iA y22.2) (.s ((A.ptr 11 0), [Blk.box (c_S_Disk y3.1), Blk.row false 1 (List.map (cL c8) y6), Blk.box (c_S_Journal y12.1), Blk.box (c_S_Journal y16.1), Blk.box (c_S_Disk y16.2.1), Blk.box (c_S_Journal y18.1), Blk.box (c_S_Disk y18.2.1), Blk.box (c_S_Journal y20.1), Blk.box (c_S_Disk y20.2.1), Blk.box (c_S_Journal y21.1), Blk.box (c_S_Disk y21.2.1), bz3]) (.s [Blk.box (c_S_Disk y3.1), Blk.row false 1 (List.map (cL c8) y6), Blk.box (c_S_Journal y12.1), Blk.box (c_S_Journal y16.1), Blk.box (c_S_Disk y16.2.1), Blk.box (c_S_Journal y18.1), Blk.box (c_S_Disk y18.2.1), Blk.box (c_S_Journal y20.1), Blk.box (c_S_Disk y20.2.1), Blk.box (c_S_Journal y21.1), Blk.box (c_S_Disk y21.2.1), Blk.box (c_S_Journal y22.1)] (.s (A.agg (c_S_Disk y21.2.1)) ?_))))
 refine .bd (g := fun (y : (S_Journal × Int)) => (A.tup [(A.agg [(A.imm (List.map (cL c8) y.1.Records) false), (iA y.1.Many), (iA y.1.Synced)]), (iA y.2)])) (by show C 12 [snap _ (A.agg (c_S_Disk y21.2.1))] = _; simp only [sn0, snM, snapG_row (H := [Blk.box (c_S_Disk y3.1), Blk.row false 1 (List.map (cL c8) y6), Blk.box (c_S_Journal y12.1), Blk.box (c_S_Journal y16.1), Blk.box (c_S_Disk y16.2.1), Blk.box (c_S_Journal y18.1), Blk.box (c_S_Disk y18.2.1), Blk.box (c_S_Journal y20.1), Blk.box (c_S_Disk y20.2.1), Blk.box (c_S_Journal y21.1), Blk.box (c_S_Disk y21.2.1), Blk.box (c_S_Journal y22.1)]) (b := 1) (es := 1) (l := y6) (fl_cL fl_c8) rfl]; exact h12 y21.2.1) fun y23 => ?_
 refine .s (A.agg (c_S_Journal y23.1)) (.s (iA y23.2) (.s ((A.ptr 12 0), [Blk.box (c_S_Disk y3.1), Blk.row false 1 (List.map (cL c8) y6), Blk.box (c_S_Journal y12.1), Blk.box (c_S_Journal y16.1), Blk.box (c_S_Disk y16.2.1), Blk.box (c_S_Journal y18.1), Blk.box (c_S_Disk y18.2.1), Blk.box (c_S_Journal y20.1), Blk.box (c_S_Disk y20.2.1), Blk.box (c_S_Journal y21.1), Blk.box (c_S_Disk y21.2.1), Blk.box (c_S_Journal y22.1), bz3]) (.s [Blk.box (c_S_Disk y3.1), Blk.row false 1 (List.map (cL c8) y6), Blk.box (c_S_Journal y12.1), Blk.box (c_S_Journal y16.1), Blk.box (c_S_Disk y16.2.1), Blk.box (c_S_Journal y18.1), Blk.box (c_S_Disk y18.2.1), Blk.box (c_S_Journal y20.1), Blk.box (c_S_Disk y20.2.1), Blk.box (c_S_Journal y21.1), Blk.box (c_S_Disk y21.2.1), Blk.box (c_S_Journal y22.1), Blk.box (c_S_Journal y23.1)] ?_)))
 refine .st (v := (bA (y16.2.2 == 0))) (aBin_eql ..) ?_
 refine .bg (fun t (y : Bool) => ∃ j26 j27 : A, t = [(bA y), j26, j27]) ?_ ?_
 ·refine .biH (fun hk24 => ?_) (fun hk24 => ?_)
  ·refine .st (v := (bA (y18.2.2 == 0))) (aBin_eql ..) ?_
   exact .lg ⟨_, _, rfl⟩
  exact .lg ⟨_, _, rfl⟩
 rintro _ y25 ⟨j26, j27, rfl⟩
 iterate 3 refine .uc ?_
 refine .bg (fun t (y : Bool) => ∃ j30 j31 : A, t = [(bA y), j30, j31]) ?_ ?_
 ·refine .biH (fun hk28 => ?_) (fun hk28 => ?_)
  ·refine .st (v := (bA (y20.2.2 == 0))) (aBin_eql ..) ?_
   exact .lg ⟨_, _, rfl⟩
  exact .lg ⟨_, _, rfl⟩
 rintro _ y29 ⟨j30, j31, rfl⟩
 iterate 3 refine .uc ?_
 refine .bg (fun t (y : Bool) => ∃ j34 j35 : A, t = [(bA y), j34, j35]) ?_ ?_
 ·refine .biH (fun hk32 => ?_) (fun hk32 => ?_)
  ·refine .st (v := (bA (y21.2.2 == 0))) (aBin_eql ..) ?_
   exact .lg ⟨_, _, rfl⟩
  exact .lg ⟨_, _, rfl⟩
 rintro _ y33 ⟨j34, j35, rfl⟩
 iterate 3 refine .uc ?_
 refine .bg (fun t (y : Bool) => ∃ j38 j39 : A, t = [(bA y), j38, j39]) ?_ ?_
 ·refine .biH (fun hk36 => ?_) (fun hk36 => ?_)
  ·refine .st (v := (bA (y22.2 == 0))) (aBin_eql ..) ?_
   exact .lg ⟨_, _, rfl⟩
  exact .lg ⟨_, _, rfl⟩
 rintro _ y37 ⟨j38, j39, rfl⟩
 iterate 3 refine .uc ?_
 refine .bg (fun t (y : Bool) => ∃ j42 j43 : A, t = [(bA y), j42, j43]) ?_ ?_
 ·refine .biH (fun hk40 => ?_) (fun hk40 => ?_)
  ·refine .st (v := (bA (y23.2 == 0))) (aBin_eql ..) ?_
   exact .lg ⟨_, _, rfl⟩
  exact .lg ⟨_, _, rfl⟩
 rintro _ y41 ⟨j42, j43, rfl⟩
 iterate 3 refine .uc ?_
 refine .bg (fun t (y : Bool) => ∃ j47 j48 j49 : A, t = [(bA y), j47, j48, j49]) ?_ ?_
 ·refine .biH (fun hk44 => ?_) (fun hk44 => ?_)
  ·refine .s (A.agg (c_S_Journal y16.1)) (.s (A.agg (c_S_Journal y20.1)) ?_)
   refine .bd (g := fun (y : Bool) => (bA y)) (by show C 14 [snap _ (A.agg (c_S_Journal y16.1)), snap _ (A.agg (c_S_Journal y20.1))] = _; simp only [sn0, snM, snapG_row (H := [Blk.box (c_S_Disk y3.1), Blk.row false 1 (List.map (cL c8) y6), Blk.box (c_S_Journal y12.1), Blk.box (c_S_Journal y16.1), Blk.box (c_S_Disk y16.2.1), Blk.box (c_S_Journal y18.1), Blk.box (c_S_Disk y18.2.1), Blk.box (c_S_Journal y20.1), Blk.box (c_S_Disk y20.2.1), Blk.box (c_S_Journal y21.1), Blk.box (c_S_Disk y21.2.1), Blk.box (c_S_Journal y22.1), Blk.box (c_S_Journal y23.1)]) (b := 1) (es := 1) (l := y6) (fl_cL fl_c8) rfl]; exact h14 y16.1 y20.1) fun y45 => ?_
   exact .lg ⟨_, _, _, rfl⟩
  exact .lg ⟨_, _, _, rfl⟩
 rintro _ y46 ⟨j47, j48, j49, rfl⟩
 iterate 4 refine .uc ?_
 refine .bg (fun t (y : Bool) => ∃ j53 j54 j55 : A, t = [(bA y), j53, j54, j55]) ?_ ?_
 ·refine .biH (fun hk50 => ?_) (fun hk50 => ?_)
  ·refine .s (A.agg (c_S_Journal y21.1)) (.s (A.agg (c_S_Journal y20.1)) ?_)
   refine .bd (g := fun (y : Bool) => (bA y)) (by show C 14 [snap _ (A.agg (c_S_Journal y21.1)), snap _ (A.agg (c_S_Journal y20.1))] = _; simp only [sn0, snM, snapG_row (H := [Blk.box (c_S_Disk y3.1), Blk.row false 1 (List.map (cL c8) y6), Blk.box (c_S_Journal y12.1), Blk.box (c_S_Journal y16.1), Blk.box (c_S_Disk y16.2.1), Blk.box (c_S_Journal y18.1), Blk.box (c_S_Disk y18.2.1), Blk.box (c_S_Journal y20.1), Blk.box (c_S_Disk y20.2.1), Blk.box (c_S_Journal y21.1), Blk.box (c_S_Disk y21.2.1), Blk.box (c_S_Journal y22.1), Blk.box (c_S_Journal y23.1)]) (b := 1) (es := 1) (l := y6) (fl_cL fl_c8) rfl]; exact h14 y21.1 y20.1) fun y51 => ?_
   exact .lg ⟨_, _, _, rfl⟩
  exact .lg ⟨_, _, _, rfl⟩
 rintro _ y52 ⟨j53, j54, j55, rfl⟩
 iterate 4 refine .uc ?_
 refine .bg (fun t (y : Bool) => ∃ j59 j60 j61 j62 j63 : A, t = [(bA y), j59, j60, j61, j62, j63]) ?_ ?_
 ·refine .biH (fun hk56 => ?_) (fun hk56 => ?_)
  ·refine .s (A.ptr 11 0) (.s (A.imm (List.map (cL c8) y22.1.Records) false) (.s (A.ptr 12 0) (.s (A.imm (List.map (cL c8) y23.1.Records) false) ?_)))
   refine .bd (g := fun (y : Bool) => (bA y)) (by show C 24 [snap _ (A.imm (List.map (cL c8) y22.1.Records) false), snap _ (A.imm (List.map (cL c8) y23.1.Records) false)] = _; simp only [sn0, snM, snapG_row (H := [Blk.box (c_S_Disk y3.1), Blk.row false 1 (List.map (cL c8) y6), Blk.box (c_S_Journal y12.1), Blk.box (c_S_Journal y16.1), Blk.box (c_S_Disk y16.2.1), Blk.box (c_S_Journal y18.1), Blk.box (c_S_Disk y18.2.1), Blk.box (c_S_Journal y20.1), Blk.box (c_S_Disk y20.2.1), Blk.box (c_S_Journal y21.1), Blk.box (c_S_Disk y21.2.1), Blk.box (c_S_Journal y22.1), Blk.box (c_S_Journal y23.1)]) (b := 1) (es := 1) (l := y6) (fl_cL fl_c8) rfl]; exact h24 y22.1.Records y23.1.Records) fun y57 => ?_
   exact .lg ⟨_, _, _, _, _, rfl⟩
  exact .lg ⟨_, _, _, _, _, rfl⟩
 rintro _ y58 ⟨j59, j60, j61, j62, j63, rfl⟩
 iterate 6 refine .uc ?_
 refine .bg (fun t (y : Bool) => ∃ j67 j68 j69 j70 j71 : A, t = [(bA y), j67, j68, j69, j70, j71]) ?_ ?_
 ·refine .biH (fun hk64 => ?_) (fun hk64 => ?_)
  ·refine .s (A.ptr 11 0) (.s (A.imm (List.map (cL c8) y22.1.Records) false) (.s (A.ptr 3 0) (.s (A.imm (List.map (cL c8) y16.1.Records) false) ?_)))
   refine .bd (g := fun (y : Bool) => (bA y)) (by show C 24 [snap _ (A.imm (List.map (cL c8) y22.1.Records) false), snap _ (A.imm (List.map (cL c8) y16.1.Records) false)] = _; simp only [sn0, snM, snapG_row (H := [Blk.box (c_S_Disk y3.1), Blk.row false 1 (List.map (cL c8) y6), Blk.box (c_S_Journal y12.1), Blk.box (c_S_Journal y16.1), Blk.box (c_S_Disk y16.2.1), Blk.box (c_S_Journal y18.1), Blk.box (c_S_Disk y18.2.1), Blk.box (c_S_Journal y20.1), Blk.box (c_S_Disk y20.2.1), Blk.box (c_S_Journal y21.1), Blk.box (c_S_Disk y21.2.1), Blk.box (c_S_Journal y22.1), Blk.box (c_S_Journal y23.1)]) (b := 1) (es := 1) (l := y6) (fl_cL fl_c8) rfl]; exact h24 y22.1.Records y16.1.Records) fun y65 => ?_
   exact .lg ⟨_, _, _, _, _, rfl⟩
  exact .lg ⟨_, _, _, _, _, rfl⟩
 rintro _ y66 ⟨j67, j68, j69, j70, j71, rfl⟩
 iterate 6 refine .uc ?_
 refine .bg (fun t (y : Bool) => ∃ j75 j76 j77 : A, t = [(bA y), j75, j76, j77]) ?_ ?_
 ·refine .biH (fun hk72 => ?_) (fun hk72 => ?_)
  ·refine .s (A.agg (c_S_Disk y20.2.1)) (.s (A.agg (c_S_Disk y21.2.1)) ?_)
   refine .bd (g := fun (y : Bool) => (bA y)) (by show C 23 [snap _ (A.agg (c_S_Disk y20.2.1)), snap _ (A.agg (c_S_Disk y21.2.1))] = _; simp only [sn0, snM, snapG_row (H := [Blk.box (c_S_Disk y3.1), Blk.row false 1 (List.map (cL c8) y6), Blk.box (c_S_Journal y12.1), Blk.box (c_S_Journal y16.1), Blk.box (c_S_Disk y16.2.1), Blk.box (c_S_Journal y18.1), Blk.box (c_S_Disk y18.2.1), Blk.box (c_S_Journal y20.1), Blk.box (c_S_Disk y20.2.1), Blk.box (c_S_Journal y21.1), Blk.box (c_S_Disk y21.2.1), Blk.box (c_S_Journal y22.1), Blk.box (c_S_Journal y23.1)]) (b := 1) (es := 1) (l := y6) (fl_cL fl_c8) rfl]; exact h23 y20.2.1 y21.2.1) fun y73 => ?_
   exact .lg ⟨_, _, _, rfl⟩
  exact .lg ⟨_, _, _, rfl⟩
 rintro _ y74 ⟨j75, j76, j77, rfl⟩
 iterate 4 refine .uc ?_
 exact .lf rfl rfl ⟨_, rfl, rfl⟩
def G8 (a0 : (List (List UInt8))) (a1 : (List (List UInt8))) : Option Bool := F8 fuel0 a0 a1
end Go.Proofs.Ytobjniabioaefaa
