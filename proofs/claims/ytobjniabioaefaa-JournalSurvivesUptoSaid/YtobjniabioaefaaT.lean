/-
 The program's functions as plain functions: by a tool; each follows the interpreter.
-/
import Derived.Test.YtobjniabioaefaaT1
import Derived.KernelRfl
namespace Go.Proofs.Ytobjniabioaefaa
open Go.Proofs.Try (prog)
set_option linter.unusedVariables false
set_option linter.unusedSimpArgs false
set_option maxHeartbeats 4000000
set_option maxRecDepth 100000
def hk21_2 (a0 : S_Journal) : Blk := Blk.box [(A.imm (List.map (cL c8) a0.Records) false), (iA a0.Many), (iA ((a0.Records.length : Int)))]
def F21_21_0 (n : Nat) (v13 : Int) (v15 : (List (List UInt8))) (v16 : Int) (v18 : S_Journal) (v19 : S_Disk) (v20 : (List (List UInt8))) (v21 : Int) (v22 : Int) (v23 : (List (List UInt8))) (v24 : (List S_Write)) (v25 : Int) (v26 : Bool) (v27 : S_Journal) : Nat -> Int -> Int -> Option (Int)
 | 0, _, _ => none
 | m + 1, v14, v17 => bif (decide (v17 < v16)) then ((getI v15 v17).bind fun y29 => (subI y29 0 4).bind fun y30 => (G41 y30).bind fun y31 => (subI y29 124 ((y29.length : Int))).bind fun y32 => (G41 y32).bind fun y33 => F21_21_0 n v13 v15 v16 v18 v19 v20 v21 v22 v23 v24 v25 v26 v27 m ((if (if v14 < wr .u64 (y31 + 1) then wr .u64 (y31 + 1) else v14) < wr .u64 (y33 + 1) then wr .u64 (y33 + 1) else (if v14 < wr .u64 (y31 + 1) then wr .u64 (y31 + 1) else v14))) (wr .i64 (v17 + 1))) else (some v14)
theorem T21_21_0 (C : Nat -> List A -> Option A) (n : Nat) (h12 : Orc12 C) (h17 : Orc17 C) (h26 : Orc26 C) (h27 : Orc27 C) (h31 : Orc31 C) (h35 : Orc35 C) (h36 : Orc36 C) (h41 : Orc41 C) (h42_43 : Orc42_43 C) (h44 : Orc44 C) (v13 : Int) (v15 : (List (List UInt8))) (v16 : Int) (v18 : S_Journal) (v19 : S_Disk) (v20 : (List (List UInt8))) (v21 : Int) (v22 : Int) (v23 : (List (List UInt8))) (v24 : (List S_Write)) (v25 : Int) (v26 : Bool) (v27 : S_Journal) {ρ γ : Type} {φ : ρ -> γ -> Prop} {kL : R -> Option ρ} {K : (Int) -> Option γ} (kx kg : Nat -> St -> Option R) (kr : St -> Option R) (kp : A -> St -> Option R) (x0 : ∀ (o0 : Int) (s57 : A) (s58 : A) (s59 : A), J φ (kx 0 (St.mk [(2, (A.ptr 0 0)), (3, (A.ptr 1 0)), (4, (A.ptr 2 0)), (5, (A.ptr 3 0)), (6, (iA v13)), (9, (A.ptr 4 0)), (10, (A.v (.int .u64 o0))), (57, s57), (58, s58), (59, s59)] [Blk.box (c_S_Journal v18), Blk.box (c_S_Disk v19), Blk.box [(A.imm (List.map (cL c8) v20) true), (iA v21), (iA v22)], Blk.box [(A.imm (List.map (cL c8) v23) true), (A.imm (List.map c_S_Write v24) true), (iA v25), (bA v26)], Blk.box (c_S_Journal v27)])) kL (K o0) some) :
  ∀ (m : Nat) (v14 : Int) (v17 : Int), J φ (loopR (cx C) (ec C n 8) (ey C n 8) (n+8) 21 0 0 5 kx kg kr kp m (St.mk [(2, (A.ptr 0 0)), (3, (A.ptr 1 0)), (4, (A.ptr 2 0)), (5, (A.ptr 3 0)), (6, (iA v13)), (9, (A.ptr 4 0)), (10, (A.v (.int .u64 v14))), (57, (A.imm (List.map (cL c8) v15) false)), (58, (iA v16)), (59, (iA v17))] [Blk.box (c_S_Journal v18), Blk.box (c_S_Disk v19), Blk.box [(A.imm (List.map (cL c8) v20) true), (iA v21), (iA v22)], Blk.box [(A.imm (List.map (cL c8) v23) true), (A.imm (List.map c_S_Write v24) true), (iA v25), (bA v26)], Blk.box (c_S_Journal v27)])) kL (F21_21_0 n v13 v15 v16 v18 v19 v20 v21 v22 v23 v24 v25 v26 v27 m v14 v17) K := by
 intro m
 induction m with
 | zero => intros; exact .nn
 | succ m ih =>
  intro v14 v17
  refine .lp (e21_0 ..) ?_
  unfold F21_21_0
  refine .st (v := (bA (decide (v17 < v16)))) (aBin_lss ..) ?_
  refine .biHN (fun hk28 => ?_) (fun hk28 => ?_)
  ·refine .bd (g := fun (y : (List UInt8)) => A.ip ((cL c8) y)) (idx_imm (e := 35) (es := 1) (h1 := by kernel_rfl) (h2 := by kernel_rfl) (h3 := fun _ => rfl) ..) fun y29 => ?_
   refine .s (A.imm (List.map c8 y29) false) ?_
   refine .bd (g := fun (y : List UInt8) => (A.imm (List.map c8 y) false)) (cut_imm (e := 5) (es := 1) (f := c8) (l := y29) (a := 0) (b := 4) (by kernel_rfl) (by kernel_rfl) (fun _ => rfl) (.inl ⟨rfl, rfl⟩) (.inr ⟨_, rfl⟩)) fun y30 => ?_
   refine .bd (g := fun (y : Int) => (A.v (.int .u64 y))) (by show C 41 [snap _ (A.imm (List.map c8 y30) false)] = _; simp only [sn0, snM]; exact h41 y30) fun y31 => ?_
   refine .st (v := (A.v (.int .u64 (wr .u64 (y31 + 1))))) (aBin_add ..) ?_
   refine .bd (g := fun (y : List UInt8) => (A.imm (List.map c8 y) false)) (cut_imm (e := 5) (es := 1) (f := c8) (l := y29) (a := 124) (b := (y29.length : Int)) (by kernel_rfl) (by kernel_rfl) (fun _ => rfl) (.inr ⟨_, rfl⟩) (.inl ⟨rfl, rfl⟩)) fun y32 => ?_
   refine .bd (g := fun (y : Int) => (A.v (.int .u64 y))) (by show C 41 [snap _ (A.imm (List.map c8 y32) false)] = _; simp only [sn0, snM]; exact h41 y32) fun y33 => ?_
   refine .st (v := (A.v (.int .u64 (wr .u64 (y33 + 1))))) (aBin_add ..) ?_
   refine .s (A.v (.int .u64 ((if (if v14 < wr .u64 (y31 + 1) then wr .u64 (y31 + 1) else v14) < wr .u64 (y33 + 1) then wr .u64 (y33 + 1) else (if v14 < wr .u64 (y31 + 1) then wr .u64 (y31 + 1) else v14))))) ?_
   refine .st (v := (iA (wr .i64 (v17 + 1)))) (aBin_add ..) ?_
   refine .s [Blk.box (c_S_Journal v18), Blk.box (c_S_Disk v19), Blk.box [(A.imm (List.map (cL c8) v20) true), (iA v21), (iA v22)], Blk.box [(A.imm (List.map (cL c8) v23) true), (A.imm (List.map c_S_Write v24) true), (iA v25), (bA v26)], Blk.box (c_S_Journal v27)] ?_
   refine .cT (by kernel_rfl) ?_
   exact ih _ _
  exact .ex (x0 _ _ _ _)
def F21_21_2 (n : Nat) (v71 : Int) (v76 : (List (List UInt8))) (v77 : Int) (v78 : Int) (v79 : S_Journal) (v81 : (List (List UInt8))) (v82 : Int) (v83 : Int) (v84 : (List (List UInt8))) (v85 : (List S_Write)) (v86 : Int) (v87 : Bool) (v88 : S_Journal) : Nat -> Int -> Int -> (List UInt8) -> Int -> Int -> S_Disk -> Option ((Int × Int × (List (List UInt8)) × (List S_Write) × Int × Bool × Int × Int × Int × Bool) ⊕ (Int × Int × (List (List UInt8)) × (List S_Write) × Int × Bool))
 | 0, _, _, _, _, _, _ => none
 | m + 1, v70, v72, v73, v74, v75, v80 => bif (decide (0 < v75)) then (bif (v75 == 1) then ((subI v73 0 ((if 112 < (v73.length : Int) then 112 else (v73.length : Int)))).bind fun y91 => (G44 v71 v72 (orI .u8 v74 2) y91).bind fun y92 => (G26 v80 v72 y92).bind fun y93 => bif (y93.2 != 0) then (some ((Sum.inl ((y93.2, v72, y93.1.Sectors, y93.1.Pending, y93.1.Left, y93.1.Stopped, 0, 0, 0, false))))) else ((subI v73 ((if 112 < (v73.length : Int) then 112 else (v73.length : Int))) ((v73.length : Int))).bind fun y95 => F21_21_2 n v71 v76 v77 v78 v79 v81 v82 v83 v84 v85 v86 v87 v88 m y93.2 (wr .i64 (v72 + 1)) y95 0 (wr .i64 (v75 - 1)) y93.1)) else ((subI v73 0 ((if 112 < (v73.length : Int) then 112 else (v73.length : Int)))).bind fun y96 => (G44 v71 v72 v74 y96).bind fun y97 => (G26 v80 v72 y97).bind fun y98 => bif (y98.2 != 0) then (some ((Sum.inl ((y98.2, v72, y98.1.Sectors, y98.1.Pending, y98.1.Left, y98.1.Stopped, 0, 0, 0, false))))) else ((subI v73 ((if 112 < (v73.length : Int) then 112 else (v73.length : Int))) ((v73.length : Int))).bind fun y100 => F21_21_2 n v71 v76 v77 v78 v79 v81 v82 v83 v84 v85 v86 v87 v88 m y98.2 (wr .i64 (v72 + 1)) y100 0 (wr .i64 (v75 - 1)) y98.1))) else (some ((Sum.inr ((v70, v72, v80.Sectors, v80.Pending, v80.Left, v80.Stopped)))))
theorem T21_21_2 (C : Nat -> List A -> Option A) (n : Nat) (h12 : Orc12 C) (h17 : Orc17 C) (h26 : Orc26 C) (h27 : Orc27 C) (h31 : Orc31 C) (h35 : Orc35 C) (h36 : Orc36 C) (h41 : Orc41 C) (h42_43 : Orc42_43 C) (h44 : Orc44 C) (v71 : Int) (v76 : (List (List UInt8))) (v77 : Int) (v78 : Int) (v79 : S_Journal) (v81 : (List (List UInt8))) (v82 : Int) (v83 : Int) (v84 : (List (List UInt8))) (v85 : (List S_Write)) (v86 : Int) (v87 : Bool) (v88 : S_Journal) {ρ γ : Type} {φ : ρ -> γ -> Prop} {kL : R -> Option ρ} {K : ((Int × Int × (List (List UInt8)) × (List S_Write) × Int × Bool × Int × Int × Int × Bool) ⊕ (Int × Int × (List (List UInt8)) × (List S_Write) × Int × Bool)) -> Option γ} (kx kg : Nat -> St -> Option R) (kr : St -> Option R) (kp : A -> St -> Option R) (x0 : ∀ (o0 : Int) (o1 : Int) (o2 : (List (List UInt8))) (o3 : (List S_Write)) (o4 : Int) (o5 : Bool) (o6 : Int) (o7 : Int) (o8 : Int) (o9 : Bool) (s15 : A) (s16 : A) (s17 : A), J φ (kr (St.mk [(2, (A.ptr 0 0)), (3, (A.ptr 1 0)), (4, (A.ptr 2 0)), (5, (A.ptr 3 0)), (6, (iA o0)), (10, (A.v (.int .u64 v71))), (13, (iA o1)), (15, s15), (16, s16), (17, s17), (108, (A.imm (List.map (cL c8) v76) false)), (109, (iA v77)), (110, (iA v78))] [Blk.box (c_S_Journal v79), Blk.box [(A.imm (List.map (cL c8) o2) false), (A.imm (List.map c_S_Write o3) false), (iA o4), (bA o5)], Blk.box [(A.imm [] true), (iA o6), (iA o7)], Blk.box [(A.imm [] true), (A.imm [] true), (iA o8), (bA o9)], Blk.box (c_S_Journal v88)])) kL (K (Sum.inl ((o0, o1, o2, o3, o4, o5, o6, o7, o8, o9)))) some) (x1 : ∀ (o0 : Int) (o1 : Int) (o2 : (List (List UInt8))) (o3 : (List S_Write)) (o4 : Int) (o5 : Bool) (s15 : A) (s16 : A) (s17 : A), J φ (kx 4 (St.mk [(2, (A.ptr 0 0)), (3, (A.ptr 1 0)), (4, (A.ptr 2 0)), (5, (A.ptr 3 0)), (6, (iA o0)), (10, (A.v (.int .u64 v71))), (13, (iA o1)), (15, s15), (16, s16), (17, s17), (108, (A.imm (List.map (cL c8) v76) false)), (109, (iA v77)), (110, (iA v78))] [Blk.box (c_S_Journal v79), Blk.box [(A.imm (List.map (cL c8) o2) false), (A.imm (List.map c_S_Write o3) false), (iA o4), (bA o5)], Blk.box [(A.imm (List.map (cL c8) v81) true), (iA v82), (iA v83)], (hk27_1 v84 v85 v86 v87), Blk.box (c_S_Journal v88)])) kL (K (Sum.inr ((o0, o1, o2, o3, o4, o5)))) some) :
  ∀ (m : Nat) (v70 : Int) (v72 : Int) (v73 : (List UInt8)) (v74 : Int) (v75 : Int) (v80 : S_Disk), J φ (loopR (cx C) (ec C n 8) (ey C n 8) (n+8) 21 0 2 5 kx kg kr kp m (St.mk [(2, (A.ptr 0 0)), (3, (A.ptr 1 0)), (4, (A.ptr 2 0)), (5, (A.ptr 3 0)), (6, (iA v70)), (10, (A.v (.int .u64 v71))), (13, (iA v72)), (15, (A.imm (List.map c8 v73) false)), (16, (uA v74)), (17, (iA v75)), (108, (A.imm (List.map (cL c8) v76) false)), (109, (iA v77)), (110, (iA v78))] [Blk.box (c_S_Journal v79), Blk.box (c_S_Disk v80), Blk.box [(A.imm (List.map (cL c8) v81) true), (iA v82), (iA v83)], (hk27_1 v84 v85 v86 v87), Blk.box (c_S_Journal v88)])) kL (F21_21_2 n v71 v76 v77 v78 v79 v81 v82 v83 v84 v85 v86 v87 v88 m v70 v72 v73 v74 v75 v80) K := by
 intro m
 induction m with
 | zero => intros; exact .nn
 | succ m ih =>
  intro v70 v72 v73 v74 v75 v80
  refine .lp (e21_2 ..) ?_
  unfold F21_21_2
  refine .st (v := (bA (decide (0 < v75)))) (aBin_gtr ..) ?_
  refine .biHN (fun hk89 => ?_) (fun hk89 => ?_)
  ·refine .st (v := (bA (v75 == 1))) (aBin_eql ..) ?_
   refine .biHN (fun hk90 => ?_) (fun hk90 => ?_)
   ·refine .st (v := (uA (orI .u8 v74 2))) (aBin_bits_or ..) ?_
    refine .st (v := (iA ((v73.length : Int)))) (len_imm (e := 5) (h1 := by kernel_rfl) ..) ?_
    refine .s (iA ((if 112 < (v73.length : Int) then 112 else (v73.length : Int)))) (.s (A.agg (c_S_Disk v80)) ?_)
    refine .bd (g := fun (y : List UInt8) => (A.imm (List.map c8 y) false)) (cut_imm (e := 5) (es := 1) (f := c8) (l := v73) (a := 0) (b := (if 112 < (v73.length : Int) then 112 else (v73.length : Int))) (by kernel_rfl) (by kernel_rfl) (fun _ => rfl) (.inl ⟨rfl, rfl⟩) (.inr ⟨_, rfl⟩)) fun y91 => ?_
    refine .bd (g := fun (y : (List UInt8)) => (A.imm (List.map c8 y) false)) (by show C 44 [snap _ (A.v (.int .u64 v71)), snap _ (iA v72), snap _ (uA (orI .u8 v74 2)), snap _ (A.imm (List.map c8 y91) false)] = _; simp only [sn0, snM]; exact h44 v71 v72 (orI .u8 v74 2) y91) fun y92 => ?_
    refine .bd (g := fun (y : (S_Disk × Int)) => (A.tup [(A.agg [(A.imm (List.map (cL c8) y.1.Sectors) false), (A.imm (List.map c_S_Write y.1.Pending) false), (iA y.1.Left), (bA y.1.Stopped)]), (iA y.2)])) (by show C 26 [snap _ (A.agg (c_S_Disk v80)), snap _ (iA v72), snap _ (A.imm (List.map c8 y92) false)] = _; simp only [sn0, snM]; exact h26 v80 v72 y92) fun y93 => ?_
    refine .s (A.agg (c_S_Disk y93.1)) (.s (iA y93.2) (.s [Blk.box (c_S_Journal v79), Blk.box (c_S_Disk y93.1), Blk.box [(A.imm (List.map (cL c8) v81) true), (iA v82), (iA v83)], (hk27_1 v84 v85 v86 v87), Blk.box (c_S_Journal v88)] ?_))
    refine .st (v := (bA (y93.2 != 0))) (aBin_neq ..) ?_
    refine .biHN (fun hk94 => ?_) (fun hk94 => ?_)
    ·refine .s (A.agg [(A.imm [] true), (iA 0), (iA 0)]) (.s (A.agg [(A.imm [] true), (A.imm [] true), (iA 0), (bA false)]) (.s [Blk.box (c_S_Journal v79), Blk.box (c_S_Disk y93.1), bz3, (hk27_1 v84 v85 v86 v87), Blk.box (c_S_Journal v88)] (.s [Blk.box (c_S_Journal v79), Blk.box (c_S_Disk y93.1), bz3, bz4, Blk.box (c_S_Journal v88)] ?_)))
     exact .ex (x0 _ _ _ _ _ _ _ _ _ _ _ _ _)
    refine .bd (g := fun (y : List UInt8) => (A.imm (List.map c8 y) false)) (cut_imm (e := 5) (es := 1) (f := c8) (l := v73) (a := (if 112 < (v73.length : Int) then 112 else (v73.length : Int))) (b := (v73.length : Int)) (by kernel_rfl) (by kernel_rfl) (fun _ => rfl) (.inr ⟨_, rfl⟩) (.inl ⟨rfl, rfl⟩)) fun y95 => ?_
    refine .st (v := (iA (wr .i64 (v72 + 1)))) (aBin_add ..) ?_
    refine .st (v := (iA (wr .i64 (v75 - 1)))) (aBin_sub ..) ?_
    refine .s [Blk.box (c_S_Journal v79), Blk.box (c_S_Disk y93.1), Blk.box [(A.imm (List.map (cL c8) v81) true), (iA v82), (iA v83)], (hk27_1 v84 v85 v86 v87), Blk.box (c_S_Journal v88)] ?_
    refine .cT (by kernel_rfl) ?_
    exact ih _ _ _ _ _ _
   refine .st (v := (iA ((v73.length : Int)))) (len_imm (e := 5) (h1 := by kernel_rfl) ..) ?_
   refine .s (iA ((if 112 < (v73.length : Int) then 112 else (v73.length : Int)))) (.s (A.agg (c_S_Disk v80)) ?_)
   refine .bd (g := fun (y : List UInt8) => (A.imm (List.map c8 y) false)) (cut_imm (e := 5) (es := 1) (f := c8) (l := v73) (a := 0) (b := (if 112 < (v73.length : Int) then 112 else (v73.length : Int))) (by kernel_rfl) (by kernel_rfl) (fun _ => rfl) (.inl ⟨rfl, rfl⟩) (.inr ⟨_, rfl⟩)) fun y96 => ?_
   refine .bd (g := fun (y : (List UInt8)) => (A.imm (List.map c8 y) false)) (by show C 44 [snap _ (A.v (.int .u64 v71)), snap _ (iA v72), snap _ (uA v74), snap _ (A.imm (List.map c8 y96) false)] = _; simp only [sn0, snM]; exact h44 v71 v72 v74 y96) fun y97 => ?_
   refine .bd (g := fun (y : (S_Disk × Int)) => (A.tup [(A.agg [(A.imm (List.map (cL c8) y.1.Sectors) false), (A.imm (List.map c_S_Write y.1.Pending) false), (iA y.1.Left), (bA y.1.Stopped)]), (iA y.2)])) (by show C 26 [snap _ (A.agg (c_S_Disk v80)), snap _ (iA v72), snap _ (A.imm (List.map c8 y97) false)] = _; simp only [sn0, snM]; exact h26 v80 v72 y97) fun y98 => ?_
   refine .s (A.agg (c_S_Disk y98.1)) (.s (iA y98.2) (.s [Blk.box (c_S_Journal v79), Blk.box (c_S_Disk y98.1), Blk.box [(A.imm (List.map (cL c8) v81) true), (iA v82), (iA v83)], (hk27_1 v84 v85 v86 v87), Blk.box (c_S_Journal v88)] ?_))
   refine .st (v := (bA (y98.2 != 0))) (aBin_neq ..) ?_
   refine .biHN (fun hk99 => ?_) (fun hk99 => ?_)
   ·refine .s (A.agg [(A.imm [] true), (iA 0), (iA 0)]) (.s (A.agg [(A.imm [] true), (A.imm [] true), (iA 0), (bA false)]) (.s [Blk.box (c_S_Journal v79), Blk.box (c_S_Disk y98.1), bz3, (hk27_1 v84 v85 v86 v87), Blk.box (c_S_Journal v88)] (.s [Blk.box (c_S_Journal v79), Blk.box (c_S_Disk y98.1), bz3, bz4, Blk.box (c_S_Journal v88)] ?_)))
    exact .ex (x0 _ _ _ _ _ _ _ _ _ _ _ _ _)
   refine .bd (g := fun (y : List UInt8) => (A.imm (List.map c8 y) false)) (cut_imm (e := 5) (es := 1) (f := c8) (l := v73) (a := (if 112 < (v73.length : Int) then 112 else (v73.length : Int))) (b := (v73.length : Int)) (by kernel_rfl) (by kernel_rfl) (fun _ => rfl) (.inr ⟨_, rfl⟩) (.inl ⟨rfl, rfl⟩)) fun y100 => ?_
   refine .st (v := (iA (wr .i64 (v72 + 1)))) (aBin_add ..) ?_
   refine .st (v := (iA (wr .i64 (v75 - 1)))) (aBin_sub ..) ?_
   refine .s [Blk.box (c_S_Journal v79), Blk.box (c_S_Disk y98.1), Blk.box [(A.imm (List.map (cL c8) v81) true), (iA v82), (iA v83)], (hk27_1 v84 v85 v86 v87), Blk.box (c_S_Journal v88)] ?_
   refine .cT (by kernel_rfl) ?_
   exact ih _ _ _ _ _ _
  exact .ex (x1 _ _ _ _ _ _ _ _ _)
def F21_21_1 (n : Nat) (v52 : Int) (v54 : (List (List UInt8))) (v55 : Int) (v57 : S_Journal) (v59 : (List (List UInt8))) (v60 : Int) (v61 : Int) (v62 : (List (List UInt8))) (v63 : (List S_Write)) (v64 : Int) (v65 : Bool) (v66 : S_Journal) : Nat -> Int -> Int -> Int -> S_Disk -> Option ((Int × (List (List UInt8)) × (List S_Write) × Int × Bool × Int × Int × Int × Bool) ⊕ ((List (List UInt8)) × (List S_Write) × Int × Bool))
 | 0, _, _, _, _ => none
 | m + 1, v51, v53, v56, v58 => bif (decide (v56 < v55)) then ((getI v54 v56).bind fun y68 => (G35 y68).bind fun y69 => (F21_21_2 n v52 v54 v55 v56 v57 v59 v60 v61 v62 v63 v64 v65 v66 (n+8) v51 v53 y68 1 y69 v58).bind fun o101 => match o101 with | (Sum.inl ((y102, y103, y104, y105, y106, y107, y108, y109, y110, y111))) => some ((Sum.inl ((y102, y104, y105, y106, y107, y108, y109, y110, y111)))) | (Sum.inr ((y115, y116, y117, y118, y119, y120))) => F21_21_1 n v52 v54 v55 v57 v59 v60 v61 v62 v63 v64 v65 v66 m y115 y116 (wr .i64 (v56 + 1)) ((S_Disk.mk y117 y118 y119 y120))) else (some ((Sum.inr ((v58.Sectors, v58.Pending, v58.Left, v58.Stopped)))))
theorem T21_21_1 (C : Nat -> List A -> Option A) (n : Nat) (h12 : Orc12 C) (h17 : Orc17 C) (h26 : Orc26 C) (h27 : Orc27 C) (h31 : Orc31 C) (h35 : Orc35 C) (h36 : Orc36 C) (h41 : Orc41 C) (h42_43 : Orc42_43 C) (h44 : Orc44 C) (v52 : Int) (v54 : (List (List UInt8))) (v55 : Int) (v57 : S_Journal) (v59 : (List (List UInt8))) (v60 : Int) (v61 : Int) (v62 : (List (List UInt8))) (v63 : (List S_Write)) (v64 : Int) (v65 : Bool) (v66 : S_Journal) {ρ γ : Type} {φ : ρ -> γ -> Prop} {kL : R -> Option ρ} {K : ((Int × (List (List UInt8)) × (List S_Write) × Int × Bool × Int × Int × Int × Bool) ⊕ ((List (List UInt8)) × (List S_Write) × Int × Bool)) -> Option γ} (kx kg : Nat -> St -> Option R) (kr : St -> Option R) (kp : A -> St -> Option R) (x0 : ∀ (o0 : Int) (o1 : (List (List UInt8))) (o2 : (List S_Write)) (o3 : Int) (o4 : Bool) (o5 : Int) (o6 : Int) (o7 : Int) (o8 : Bool) (s2 : A) (s3 : A) (s10 : A) (s13 : A) (s108 : A) (s109 : A) (s110 : A), J φ (kr (St.mk [(2, s2), (3, s3), (4, (A.ptr 2 0)), (5, (A.ptr 3 0)), (6, (iA o0)), (10, s10), (13, s13), (108, s108), (109, s109), (110, s110)] [Blk.box (c_S_Journal v57), Blk.box [(A.imm (List.map (cL c8) o1) false), (A.imm (List.map c_S_Write o2) false), (iA o3), (bA o4)], Blk.box [(A.imm [] true), (iA o5), (iA o6)], Blk.box [(A.imm [] true), (A.imm [] true), (iA o7), (bA o8)], Blk.box (c_S_Journal v66)])) kL (K (Sum.inl ((o0, o1, o2, o3, o4, o5, o6, o7, o8)))) some) (x1 : ∀ (o0 : (List (List UInt8))) (o1 : (List S_Write)) (o2 : Int) (o3 : Bool) (s6 : A) (s10 : A) (s13 : A) (s108 : A) (s109 : A) (s110 : A), J φ (kx 2 (St.mk [(2, (A.ptr 0 0)), (3, (A.ptr 1 0)), (4, (A.ptr 2 0)), (5, (A.ptr 3 0)), (6, s6), (10, s10), (13, s13), (108, s108), (109, s109), (110, s110)] [Blk.box (c_S_Journal v57), Blk.box [(A.imm (List.map (cL c8) o0) false), (A.imm (List.map c_S_Write o1) false), (iA o2), (bA o3)], Blk.box [(A.imm (List.map (cL c8) v59) true), (iA v60), (iA v61)], Blk.box [(A.imm (List.map (cL c8) v62) true), (A.imm (List.map c_S_Write v63) true), (iA v64), (bA v65)], Blk.box (c_S_Journal v66)])) kL (K (Sum.inr ((o0, o1, o2, o3)))) some) :
  ∀ (m : Nat) (v51 : Int) (v53 : Int) (v56 : Int) (v58 : S_Disk), J φ (loopR (cx C) (ec C n 8) (ey C n 8) (n+8) 21 0 1 5 kx kg kr kp m (St.mk [(2, (A.ptr 0 0)), (3, (A.ptr 1 0)), (4, (A.ptr 2 0)), (5, (A.ptr 3 0)), (6, (iA v51)), (10, (A.v (.int .u64 v52))), (13, (iA v53)), (108, (A.imm (List.map (cL c8) v54) false)), (109, (iA v55)), (110, (iA v56))] [Blk.box (c_S_Journal v57), Blk.box (c_S_Disk v58), Blk.box [(A.imm (List.map (cL c8) v59) true), (iA v60), (iA v61)], Blk.box [(A.imm (List.map (cL c8) v62) true), (A.imm (List.map c_S_Write v63) true), (iA v64), (bA v65)], Blk.box (c_S_Journal v66)])) kL (F21_21_1 n v52 v54 v55 v57 v59 v60 v61 v62 v63 v64 v65 v66 m v51 v53 v56 v58) K := by
 intro m
 induction m with
 | zero => intros; exact .nn
 | succ m ih =>
  intro v51 v53 v56 v58
  refine .lp (e21_1 ..) ?_
  unfold F21_21_1
  refine .st (v := (bA (decide (v56 < v55)))) (aBin_lss ..) ?_
  refine .biHN (fun hk67 => ?_) (fun hk67 => ?_)
  ·refine .bd (g := fun (y : (List UInt8)) => A.ip ((cL c8) y)) (idx_imm (e := 35) (es := 1) (h1 := by kernel_rfl) (h2 := by kernel_rfl) (h3 := fun _ => rfl) ..) fun y68 => ?_
   refine .s (A.imm (List.map c8 y68) false) ?_
   refine .bd (g := fun (y : Int) => (iA y)) (by show C 35 [snap _ (A.imm (List.map c8 y68) false)] = _; simp only [sn0, snM]; exact h35 y68) fun y69 => ?_
   refine .as (T21_21_2 C n h12 h17 h26 h27 h31 h35 h36 h41 h42_43 h44 v52 v54 v55 v56 v57 v59 v60 v61 v62 v63 v64 v65 v66 _ _ _ _ ?_ ?_ _ v51 v53 y68 1 y69 v58)
   ·intro y102 y103 y104 y105 y106 y107 y108 y109 y110 y111 j112 j113 j114
    refine .un rfl ?_
    exact .ex (x0 _ _ _ _ _ _ _ _ _ _ _ _ _ _ _ _)
   ·intro y115 y116 y117 y118 y119 y120 j121 j122 j123
    refine .un rfl ?_
    refine .cT (by kernel_rfl) ?_
    refine .st (v := (iA (wr .i64 (v56 + 1)))) (aBin_add ..) ?_
    refine .s [Blk.box (c_S_Journal v57), Blk.box [(A.imm (List.map (cL c8) y117) false), (A.imm (List.map c_S_Write y118) false), (iA y119), (bA y120)], Blk.box [(A.imm (List.map (cL c8) v59) true), (iA v60), (iA v61)], Blk.box [(A.imm (List.map (cL c8) v62) true), (A.imm (List.map c_S_Write v63) true), (iA v64), (bA v65)], Blk.box (c_S_Journal v66)] ?_
    refine .cT (by kernel_rfl) ?_
    exact ih _ _ _ _
  exact .ex (x1 _ _ _ _ _ _ _ _ _ _)
def F21 (n : Nat) (a0 : S_Journal) (a1 : S_Disk) : Option (S_Journal × S_Disk × Int) :=
 (G17 a0).bind fun y1 => bif (y1 != 0) then (some (((S_Journal.mk ([]) 0 0), (S_Disk.mk ([]) ([]) 0 false), y1))) else ((G31 a1).bind fun y3 => bif (y3 != 0) then (some (((S_Journal.mk ([]) 0 0), (S_Disk.mk ([]) ([]) 0 false), y3))) else ((bif (a0.Many != ((a1.Sectors.length : Int))) then (some (!a1.Stopped)) else (some false)).bind fun y6 => bif y6 then (some (((S_Journal.mk ([]) 0 0), (S_Disk.mk ([]) ([]) 0 false), 1))) else ((G12 a1).bind fun y11 => bif (y11.2 != 0) then (some (((S_Journal.mk ([]) 0 0), (S_Disk.mk ([]) ([]) 0 false), y11.2))) else ((F21_21_0 n y11.2 a1.Sectors ((a1.Sectors.length : Int)) a0 a1 ([]) 0 0 ([]) ([]) 0 false y11.1 (n+8) 1 0).bind fun o34 => match o34 with | y35 => (subI a0.Records 0 a0.Synced).bind fun y39 => (G42_43 y11.1.Records y39).bind fun y40 => (bif (!y40) then (some true) else (some ((shrI .u64 y35 32) != 0))).bind fun y42 => bif y42 then (some (((S_Journal.mk ([]) 0 0), (S_Disk.mk ([]) ([]) 0 false), 50))) else (bif (a0.Synced == ((a0.Records.length : Int))) then (some ((a0, a1, 0))) else ((subI a0.Records 0 a0.Synced).bind fun y48 => (G36 y48).bind fun y49 => (subI a0.Records a0.Synced ((a0.Records.length : Int))).bind fun y50 => (F21_21_1 n y35 y50 ((y50.length : Int)) a0 ([]) 0 0 ([]) ([]) 0 false y11.1 (n+8) y11.2 y49 0 a1).bind fun o124 => match o124 with | (Sum.inl ((y125, y126, y127, y128, y129, y130, y131, y132, y133))) => some (((S_Journal.mk ([]) y130 y131), (S_Disk.mk ([]) ([]) y132 y133), y125)) | (Sum.inr ((y141, y142, y143, y144))) => (G27 ((S_Disk.mk y141 y142 y143 y144))).bind fun y151 => bif (y151.2 != 0) then (some (((S_Journal.mk ([]) 0 0), y151.1, y151.2))) else (some (((S_Journal.mk a0.Records a0.Many ((a0.Records.length : Int))), y151.1, 0)))))))))
theorem T21 (C : Nat -> List A -> Option A) (n : Nat) (h12 : Orc12 C) (h17 : Orc17 C) (h26 : Orc26 C) (h27 : Orc27 C) (h31 : Orc31 C) (h35 : Orc35 C) (h36 : Orc36 C) (h41 : Orc41 C) (h42_43 : Orc42_43 C) (h44 : Orc44 C) (a0 : S_Journal) (a1 : S_Disk) : J (fun (o : R) y => ∃ v, o.1 = .ret v /\ snapE o.2 v = (A.tup [(A.agg [(A.imm (List.map (cL c8) y.1.Records) false), (iA y.1.Many), (iA y.1.Synced)]), (A.agg [(A.imm (List.map (cL c8) y.2.1.Sectors) false), (A.imm (List.map c_S_Write y.2.1.Pending) false), (iA y.2.1.Left), (bA y.2.1.Stopped)]), (iA y.2.2)])) (evCall1 (cx C) (ec C n 8) (ey C n 8) (n+8) 21 [(A.agg (c_S_Journal a0)), (A.agg (c_S_Disk a1))] [] 0) some (F21 n a0 a1) some := by
 refine .lp (e21 ..) ?_
 unfold F21
 refine .s ((A.ptr 0 0), [Blk.box (c_S_Journal a0)]) (.s ((A.ptr 1 0), [Blk.box (c_S_Journal a0), Blk.box (c_S_Disk a1)]) (.s ((A.ptr 2 0), [Blk.box (c_S_Journal a0), Blk.box (c_S_Disk a1), bz3]) (.s ((A.ptr 3 0), [Blk.box (c_S_Journal a0), Blk.box (c_S_Disk a1), bz3, bz4]) (.s (A.agg (c_S_Journal a0)) ?_))))
 refine .bd (g := fun (y : Int) => (iA y)) (by show C 17 [snap _ (A.agg (c_S_Journal a0))] = _; simp only [sn0, snM]; exact h17 a0) fun y1 => ?_
 refine .st (v := (bA (y1 != 0))) (aBin_neq ..) ?_
 refine .biHN (fun hk2 => ?_) (fun hk2 => ?_)
 ·refine .s (A.agg [(A.imm [] true), (iA 0), (iA 0)]) (.s (A.agg [(A.imm [] true), (A.imm [] true), (iA 0), (bA false)]) (.s [Blk.box (c_S_Journal a0), Blk.box (c_S_Disk a1), bz3, bz4] (.s [Blk.box (c_S_Journal a0), Blk.box (c_S_Disk a1), bz3, bz4] (.s (A.agg [(A.imm [] true), (iA 0), (iA 0)]) (.s (A.agg [(A.imm [] true), (A.imm [] true), (iA 0), (bA false)]) ?_)))))
  exact .lf rfl rfl ⟨_, rfl, by show snapE _ (A.tup [(A.agg [(A.imm [] true), (iA 0), (iA 0)]), (A.agg [(A.imm [] true), (A.imm [] true), (iA 0), (bA false)]), (iA y1)]) = _; first | (simp only [sn0, snM, snapE]; done) | (simp only [sn0, snS, snapE]; first | done | rfl)⟩
 refine .s (A.agg (c_S_Disk a1)) ?_
 refine .bd (g := fun (y : Int) => (iA y)) (by show C 31 [snap _ (A.agg (c_S_Disk a1))] = _; simp only [sn0, snM]; exact h31 a1) fun y3 => ?_
 refine .st (v := (bA (y3 != 0))) (aBin_neq ..) ?_
 refine .biHN (fun hk4 => ?_) (fun hk4 => ?_)
 ·refine .s (A.agg [(A.imm [] true), (iA 0), (iA 0)]) (.s (A.agg [(A.imm [] true), (A.imm [] true), (iA 0), (bA false)]) (.s [Blk.box (c_S_Journal a0), Blk.box (c_S_Disk a1), bz3, bz4] (.s [Blk.box (c_S_Journal a0), Blk.box (c_S_Disk a1), bz3, bz4] (.s (A.agg [(A.imm [] true), (iA 0), (iA 0)]) (.s (A.agg [(A.imm [] true), (A.imm [] true), (iA 0), (bA false)]) ?_)))))
  exact .lf rfl rfl ⟨_, rfl, by show snapE _ (A.tup [(A.agg [(A.imm [] true), (iA 0), (iA 0)]), (A.agg [(A.imm [] true), (A.imm [] true), (iA 0), (bA false)]), (iA y3)]) = _; first | (simp only [sn0, snM, snapE]; done) | (simp only [sn0, snS, snapE]; first | done | rfl)⟩
 refine .s (A.ptr 0 1) (.s (iA a0.Many) (.s (A.ptr 1 0) (.s (A.imm (List.map (cL c8) a1.Sectors) false) ?_)))
 refine .st (v := (iA ((a1.Sectors.length : Int)))) (len_imm (e := 35) (h1 := by kernel_rfl) ..) ?_
 refine .st (v := (bA (a0.Many != ((a1.Sectors.length : Int))))) (aBin_neq ..) ?_
 refine .bg (fun t (y : Bool) => ∃ j7 j8 j9 : A, t = [(bA y), j7, j8, j9]) ?_ ?_
 ·refine .biH (fun hk5 => ?_) (fun hk5 => ?_)
  ·refine .s (A.ptr 1 3) (.s (bA a1.Stopped) (.s (bA (!a1.Stopped)) ?_))
   exact .lg ⟨_, _, _, rfl⟩
  exact .lg ⟨_, _, _, rfl⟩
 rintro _ y6 ⟨j7, j8, j9, rfl⟩
 iterate 4 refine .uc ?_
 refine .biHN (fun hk10 => ?_) (fun hk10 => ?_)
 ·refine .s (A.agg [(A.imm [] true), (iA 0), (iA 0)]) (.s (A.agg [(A.imm [] true), (A.imm [] true), (iA 0), (bA false)]) (.s [Blk.box (c_S_Journal a0), Blk.box (c_S_Disk a1), bz3, bz4] (.s [Blk.box (c_S_Journal a0), Blk.box (c_S_Disk a1), bz3, bz4] (.s (A.agg [(A.imm [] true), (iA 0), (iA 0)]) (.s (A.agg [(A.imm [] true), (A.imm [] true), (iA 0), (bA false)]) ?_)))))
  exact .lf rfl rfl ⟨_, rfl, by show snapE _ (A.tup [(A.agg [(A.imm [] true), (iA 0), (iA 0)]), (A.agg [(A.imm [] true), (A.imm [] true), (iA 0), (bA false)]), (iA 1)]) = _; first | (simp only [sn0, snM, snapE]; done) | (simp only [sn0, snS, snapE]; first | done | rfl)⟩
 refine .s (A.agg (c_S_Disk a1)) ?_
 refine .bd (g := fun (y : (S_Journal × Int)) => (A.tup [(A.agg [(A.imm (List.map (cL c8) y.1.Records) false), (iA y.1.Many), (iA y.1.Synced)]), (iA y.2)])) (by show C 12 [snap _ (A.agg (c_S_Disk a1))] = _; simp only [sn0, snM]; exact h12 a1) fun y11 => ?_
 refine .s (A.agg (c_S_Journal y11.1)) (.s (iA y11.2) (.s ((A.ptr 4 0), [Blk.box (c_S_Journal a0), Blk.box (c_S_Disk a1), bz3, bz4, bz3]) (.s [Blk.box (c_S_Journal a0), Blk.box (c_S_Disk a1), bz3, bz4, Blk.box (c_S_Journal y11.1)] ?_)))
 refine .st (v := (bA (y11.2 != 0))) (aBin_neq ..) ?_
 refine .biHN (fun hk12 => ?_) (fun hk12 => ?_)
 ·refine .s (A.agg [(A.imm [] true), (iA 0), (iA 0)]) (.s (A.agg [(A.imm [] true), (A.imm [] true), (iA 0), (bA false)]) (.s [Blk.box (c_S_Journal a0), Blk.box (c_S_Disk a1), bz3, bz4, Blk.box (c_S_Journal y11.1)] (.s [Blk.box (c_S_Journal a0), Blk.box (c_S_Disk a1), bz3, bz4, Blk.box (c_S_Journal y11.1)] (.s (A.agg [(A.imm [] true), (iA 0), (iA 0)]) (.s (A.agg [(A.imm [] true), (A.imm [] true), (iA 0), (bA false)]) ?_)))))
  exact .lf rfl rfl ⟨_, rfl, by show snapE _ (A.tup [(A.agg [(A.imm [] true), (iA 0), (iA 0)]), (A.agg [(A.imm [] true), (A.imm [] true), (iA 0), (bA false)]), (iA y11.2)]) = _; first | (simp only [sn0, snM, snapE]; done) | (simp only [sn0, snS, snapE]; first | done | rfl)⟩
 refine .s (A.ptr 1 0) (.s (A.imm (List.map (cL c8) a1.Sectors) false) ?_)
 refine .st (v := (iA ((a1.Sectors.length : Int)))) (len_imm (e := 35) (h1 := by kernel_rfl) ..) ?_
 refine .as (T21_21_0 C n h12 h17 h26 h27 h31 h35 h36 h41 h42_43 h44 y11.2 a1.Sectors ((a1.Sectors.length : Int)) a0 a1 ([]) 0 0 ([]) ([]) 0 false y11.1 _ _ _ _ ?_ _ 1 0)
 ·intro y35 j36 j37 j38
  refine .un rfl ?_
  refine .cT (by kernel_rfl) ?_
  refine .s (A.ptr 4 0) (.s (A.imm (List.map (cL c8) y11.1.Records) false) (.s (A.ptr 0 0) (.s (A.imm (List.map (cL c8) a0.Records) false) (.s (A.ptr 0 2) (.s (iA a0.Synced) ?_)))))
  refine .bd (g := fun (y : List (List UInt8)) => (A.imm (List.map (cL c8) y) false)) (cut_imm (e := 35) (es := 1) (f := (cL c8)) (l := a0.Records) (a := 0) (b := a0.Synced) (by kernel_rfl) (by kernel_rfl) (fun _ => rfl) (.inl ⟨rfl, rfl⟩) (.inr ⟨_, rfl⟩)) fun y39 => ?_
  refine .bd (g := fun (y : Bool) => (bA y)) (by show C 42 [snap _ (A.imm (List.map (cL c8) y11.1.Records) false), snap _ (A.imm (List.map (cL c8) y39) false), snap [Blk.box (c_S_Journal a0), Blk.box (c_S_Disk a1), bz3, bz4, Blk.box (c_S_Journal y11.1)] (A.fn (Fn.func 43) [] [])] = _; simp only [sn0, snM]; exact h42_43 y11.1.Records y39) fun y40 => ?_
  refine .s (bA (!y40)) ?_
  refine .bg (fun t (y : Bool) => ∃ j43 j44 j45 : A, t = [(bA y), j43, j44, j45]) ?_ ?_
  ·refine .biH (fun hk41 => ?_) (fun hk41 => ?_)
   ·exact .lg ⟨_, _, _, rfl⟩
   refine .st (v := (A.v (.int .u64 (shrI .u64 y35 32)))) (aBin_shr (hb := by decide) ..) ?_
   refine .st (v := (bA ((shrI .u64 y35 32) != 0))) (aBin_neq ..) ?_
   exact .lg ⟨_, _, _, rfl⟩
  rintro _ y42 ⟨j43, j44, j45, rfl⟩
  iterate 4 refine .uc ?_
  refine .biHN (fun hk46 => ?_) (fun hk46 => ?_)
  ·refine .s (A.agg [(A.imm [] true), (iA 0), (iA 0)]) (.s (A.agg [(A.imm [] true), (A.imm [] true), (iA 0), (bA false)]) (.s [Blk.box (c_S_Journal a0), Blk.box (c_S_Disk a1), bz3, bz4, Blk.box (c_S_Journal y11.1)] (.s [Blk.box (c_S_Journal a0), Blk.box (c_S_Disk a1), bz3, bz4, Blk.box (c_S_Journal y11.1)] (.s (A.agg [(A.imm [] true), (iA 0), (iA 0)]) (.s (A.agg [(A.imm [] true), (A.imm [] true), (iA 0), (bA false)]) ?_)))))
   exact .lf rfl rfl ⟨_, rfl, by show snapE _ (A.tup [(A.agg [(A.imm [] true), (iA 0), (iA 0)]), (A.agg [(A.imm [] true), (A.imm [] true), (iA 0), (bA false)]), (iA 50)]) = _; first | (simp only [sn0, snM, snapE]; done) | (simp only [sn0, snS, snapE]; first | done | rfl)⟩
  refine .s (A.ptr 0 2) (.s (iA a0.Synced) (.s (A.ptr 0 0) (.s (A.imm (List.map (cL c8) a0.Records) false) ?_)))
  refine .st (v := (iA ((a0.Records.length : Int)))) (len_imm (e := 35) (h1 := by kernel_rfl) ..) ?_
  refine .st (v := (bA (a0.Synced == ((a0.Records.length : Int))))) (aBin_eql ..) ?_
  refine .biHN (fun hk47 => ?_) (fun hk47 => ?_)
  ·refine .s (A.agg (c_S_Journal a0)) (.s (A.agg (c_S_Disk a1)) ?_)
   refine .cT (by kernel_rfl) ?_
   refine .s [Blk.box (c_S_Journal a0), Blk.box (c_S_Disk a1), Blk.box (c_S_Journal a0), bz4, Blk.box (c_S_Journal y11.1)] (.s [Blk.box (c_S_Journal a0), Blk.box (c_S_Disk a1), Blk.box (c_S_Journal a0), Blk.box (c_S_Disk a1), Blk.box (c_S_Journal y11.1)] (.s (A.agg (c_S_Journal a0)) (.s (A.agg (c_S_Disk a1)) ?_)))
   exact .lf rfl rfl ⟨_, rfl, by show snapE _ (A.tup [(A.agg (c_S_Journal a0)), (A.agg (c_S_Disk a1)), (iA 0)]) = _; first | (simp only [sn0, snM, snapE]; done) | (simp only [sn0, snS, snapE]; first | done | rfl)⟩
  refine .s (A.ptr 0 0) (.s (A.imm (List.map (cL c8) a0.Records) false) (.s (A.ptr 0 2) (.s (iA a0.Synced) ?_)))
  refine .bd (g := fun (y : List (List UInt8)) => (A.imm (List.map (cL c8) y) false)) (cut_imm (e := 35) (es := 1) (f := (cL c8)) (l := a0.Records) (a := 0) (b := a0.Synced) (by kernel_rfl) (by kernel_rfl) (fun _ => rfl) (.inl ⟨rfl, rfl⟩) (.inr ⟨_, rfl⟩)) fun y48 => ?_
  refine .bd (g := fun (y : Int) => (iA y)) (by show C 36 [snap _ (A.imm (List.map (cL c8) y48) false)] = _; simp only [sn0, snM]; exact h36 y48) fun y49 => ?_
  refine .s (A.ptr 0 0) (.s (A.imm (List.map (cL c8) a0.Records) false) (.s (A.ptr 0 2) (.s (iA a0.Synced) ?_)))
  refine .bd (g := fun (y : List (List UInt8)) => (A.imm (List.map (cL c8) y) false)) (cut_imm (e := 35) (es := 1) (f := (cL c8)) (l := a0.Records) (a := a0.Synced) (b := (a0.Records.length : Int)) (by kernel_rfl) (by kernel_rfl) (fun _ => rfl) (.inr ⟨_, rfl⟩) (.inl ⟨rfl, rfl⟩)) fun y50 => ?_
  refine .st (v := (iA ((y50.length : Int)))) (len_imm (e := 35) (h1 := by kernel_rfl) ..) ?_
  refine .as (T21_21_1 C n h12 h17 h26 h27 h31 h35 h36 h41 h42_43 h44 y35 y50 ((y50.length : Int)) a0 ([]) 0 0 ([]) ([]) 0 false y11.1 _ _ _ _ ?_ ?_ _ y11.2 y49 0 a1)
  ·intro y125 y126 y127 y128 y129 y130 y131 y132 y133 j134 j135 j136 j137 j138 j139 j140
   refine .un rfl ?_
   refine .s (A.agg [(A.imm [] true), (iA y130), (iA y131)]) (.s (A.agg [(A.imm [] true), (A.imm [] true), (iA y132), (bA y133)]) ?_)
   exact .lf rfl rfl ⟨_, rfl, by show snapE _ (A.tup [(A.agg [(A.imm [] true), (iA y130), (iA y131)]), (A.agg [(A.imm [] true), (A.imm [] true), (iA y132), (bA y133)]), (iA y125)]) = _; first | (simp only [sn0, snM, snapE]; done) | (simp only [sn0, snS, snapE]; first | done | rfl)⟩
  ·intro y141 y142 y143 y144 j145 j146 j147 j148 j149 j150
   refine .un rfl ?_
   refine .cT (by kernel_rfl) ?_
   refine .s (A.agg [(A.imm (List.map (cL c8) y141) false), (A.imm (List.map c_S_Write y142) false), (iA y143), (bA y144)]) ?_
   refine .bd (g := fun (y : (S_Disk × Int)) => (A.tup [(A.agg [(A.imm (List.map (cL c8) y.1.Sectors) false), (A.imm (List.map c_S_Write y.1.Pending) false), (iA y.1.Left), (bA y.1.Stopped)]), (iA y.2)])) (by show C 27 [snap _ (A.agg [(A.imm (List.map (cL c8) y141) false), (A.imm (List.map c_S_Write y142) false), (iA y143), (bA y144)])] = _; simp only [sn0, snM]; exact h27 ((S_Disk.mk y141 y142 y143 y144))) fun y151 => ?_
   refine .s (A.agg (c_S_Disk y151.1)) (.s (iA y151.2) (.s [Blk.box (c_S_Journal a0), Blk.box (c_S_Disk y151.1), bz3, bz4, Blk.box (c_S_Journal y11.1)] ?_))
   refine .st (v := (bA (y151.2 != 0))) (aBin_neq ..) ?_
   refine .biHN (fun hk152 => ?_) (fun hk152 => ?_)
   ·refine .s (A.agg [(A.imm [] true), (iA 0), (iA 0)]) (.s (A.agg (c_S_Disk y151.1)) ?_)
    refine .cT (by kernel_rfl) ?_
    refine .s [Blk.box (c_S_Journal a0), Blk.box (c_S_Disk y151.1), bz3, bz4, Blk.box (c_S_Journal y11.1)] (.s [Blk.box (c_S_Journal a0), Blk.box (c_S_Disk y151.1), bz3, Blk.box (c_S_Disk y151.1), Blk.box (c_S_Journal y11.1)] (.s (A.agg [(A.imm [] true), (iA 0), (iA 0)]) (.s (A.agg (c_S_Disk y151.1)) ?_)))
    exact .lf rfl rfl ⟨_, rfl, by show snapE _ (A.tup [(A.agg [(A.imm [] true), (iA 0), (iA 0)]), (A.agg (c_S_Disk y151.1)), (iA y151.2)]) = _; first | (simp only [sn0, snM, snapE]; done) | (simp only [sn0, snS, snapE]; first | done | rfl)⟩
   refine .s (A.ptr 0 0) (.s (A.imm (List.map (cL c8) a0.Records) false) ?_)
   refine .st (v := (iA ((a0.Records.length : Int)))) (len_imm (e := 35) (h1 := by kernel_rfl) ..) ?_
   refine .s (A.ptr 0 2) (.s [(hk21_2 a0), Blk.box (c_S_Disk y151.1), bz3, bz4, Blk.box (c_S_Journal y11.1)] (.s (A.agg [(A.imm (List.map (cL c8) a0.Records) false), (iA a0.Many), (iA ((a0.Records.length : Int)))]) (.s (A.agg (c_S_Disk y151.1)) ?_)))
   refine .cT (by kernel_rfl) ?_
   refine .s [(hk21_2 a0), Blk.box (c_S_Disk y151.1), (hk21_2 a0), bz4, Blk.box (c_S_Journal y11.1)] (.s [(hk21_2 a0), Blk.box (c_S_Disk y151.1), (hk21_2 a0), Blk.box (c_S_Disk y151.1), Blk.box (c_S_Journal y11.1)] (.s (A.agg [(A.imm (List.map (cL c8) a0.Records) false), (iA a0.Many), (iA ((a0.Records.length : Int)))]) (.s (A.agg (c_S_Disk y151.1)) ?_)))
   exact .lf rfl rfl ⟨_, rfl, by show snapE _ (A.tup [(A.agg [(A.imm (List.map (cL c8) a0.Records) false), (iA a0.Many), (iA ((a0.Records.length : Int)))]), (A.agg (c_S_Disk y151.1)), (iA 0)]) = _; first | (simp only [sn0, snM, snapE]; done) | (simp only [sn0, snS, snapE]; first | done | rfl)⟩
def G21 (a0 : S_Journal) (a1 : S_Disk) : Option (S_Journal × S_Disk × Int) := F21 fuel0 a0 a1
def Orc21 (C : Nat -> List A -> Option A) : Prop := ∀ (a0 : S_Journal) (a1 : S_Disk), C 21 [(A.agg (c_S_Journal a0)), (A.agg (c_S_Disk a1))] = (G21 a0 a1).map fun y => (A.tup [(A.agg [(A.imm (List.map (cL c8) y.1.Records) false), (iA y.1.Many), (iA y.1.Synced)]), (A.agg [(A.imm (List.map (cL c8) y.2.1.Sectors) false), (A.imm (List.map c_S_Write y.2.1.Pending) false), (iA y.2.1.Left), (bA y.2.1.Stopped)]), (iA y.2.2)])
def F19 (n : Nat) (a0 : S_Journal) : Option Int :=
 (G17 a0).bind fun y1 => bif (y1 != 0) then (some 0) else ((G36 a0.Records).bind fun y3 => some (wr .i64 (112 * (wr .i64 (a0.Many - y3)))))
theorem T19 (C : Nat -> List A -> Option A) (n : Nat) (h17 : Orc17 C) (h36 : Orc36 C) (a0 : S_Journal) : J (fun (o : R) y => ∃ v, o.1 = .ret v /\ snapE o.2 v = (iA y)) (evCall1 (cx C) (ec C n 8) (ey C n 8) (n+8) 19 [(A.agg (c_S_Journal a0))] [] 0) some (F19 n a0) some := by
 refine .lp (e19 ..) ?_
 unfold F19
 refine .s ((A.ptr 0 0), [Blk.box (c_S_Journal a0)]) (.s (A.agg (c_S_Journal a0)) ?_)
 refine .bd (g := fun (y : Int) => (iA y)) (by show C 17 [snap _ (A.agg (c_S_Journal a0))] = _; simp only [sn0, snM]; exact h17 a0) fun y1 => ?_
 refine .st (v := (bA (y1 != 0))) (aBin_neq ..) ?_
 refine .biHN (fun hk2 => ?_) (fun hk2 => ?_)
 ·exact .lf rfl rfl ⟨_, rfl, rfl⟩
 refine .s (A.ptr 0 1) (.s (iA a0.Many) (.s (A.ptr 0 0) (.s (A.imm (List.map (cL c8) a0.Records) false) ?_)))
 refine .bd (g := fun (y : Int) => (iA y)) (by show C 36 [snap _ (A.imm (List.map (cL c8) a0.Records) false)] = _; simp only [sn0, snM]; exact h36 a0.Records) fun y3 => ?_
 refine .st (v := (iA (wr .i64 (a0.Many - y3)))) (aBin_sub ..) ?_
 refine .st (v := (iA (wr .i64 (112 * (wr .i64 (a0.Many - y3)))))) (aBin_mul ..) ?_
 exact .lf rfl rfl ⟨_, rfl, rfl⟩
def G19 (a0 : S_Journal) : Option Int := F19 fuel0 a0
def Orc19 (C : Nat -> List A -> Option A) : Prop := ∀ (a0 : S_Journal), C 19 [(A.agg (c_S_Journal a0))] = (G19 a0).map fun y => (iA y)
def F10 (n : Nat)  : Option Bool :=
 (G25 1).bind fun y1 => (G12 y1.1).bind fun y2 => (mkI 1 113 ((0 : UInt8))).bind fun y3 => (G15 y2.1 y3).bind fun y4 => (G15 y2.1 ([(97 : UInt8), (98 : UInt8)])).bind fun y5 => (G21 y5.1 y1.1).bind fun y6 => (G12 y6.2.1).bind fun y7 => (G21 y5.1 y6.2.1).bind fun y8 => (bif (y1.2 == 0) then (some (y2.2 == 0)) else (some false)).bind fun y10 => (bif y10 then (some (((y2.1.Records.length : Int)) == 0)) else (some false)).bind fun y14 => (bif y14 then ((G19 y2.1).bind fun y20 => some (y20 == 112)) else (some false)).bind fun y21 => (bif y21 then (some (y4.2 == 2)) else (some false)).bind fun y26 => (bif y26 then (some (y5.2 == 0)) else (some false)).bind fun y30 => (bif y30 then (some (y6.2.2 == 0)) else (some false)).bind fun y34 => (bif y34 then (some (y6.1.Synced == 1)) else (some false)).bind fun y38 => (bif y38 then (some (y7.2 == 0)) else (some false)).bind fun y43 => (bif y43 then (some (((y7.1.Records.length : Int)) == 1)) else (some false)).bind fun y47 => (bif y47 then ((getI y7.1.Records 0).bind fun y53 => some (strEq (bstr y53) ((ByteArray.mk #[97, 98])))) else (some false)).bind fun y54 => (bif y54 then (some (y8.2.2 == 50)) else (some false)).bind fun y62 => (bif y62 then ((G17 ((S_Journal.mk ([]) 0 0))).bind fun y66 => some (y66 == 1)) else (some false)).bind fun y67 => some y67
theorem T10 (C : Nat -> List A -> Option A) (n : Nat) (h12 : Orc12 C) (h15 : Orc15 C) (h17 : Orc17 C) (h19 : Orc19 C) (h21 : Orc21 C) (h25 : Orc25 C) : J (fun (o : R) y => ∃ v, o.1 = .ret v /\ snapE o.2 v = (bA y)) (evCall1 (cx C) (ec C n 8) (ey C n 8) (n+8) 10 [] [] 0) some (F10 n ) some := by
 refine .lp (e10 ..) ?_
 unfold F10
 refine .bd (g := fun (y : (S_Disk × Int)) => (A.tup [(A.agg [(A.imm (List.map (cL c8) y.1.Sectors) false), (A.imm (List.map c_S_Write y.1.Pending) false), (iA y.1.Left), (bA y.1.Stopped)]), (iA y.2)])) (h25 1) fun y1 => ?_
 refine .s (A.agg (c_S_Disk y1.1)) (.s (iA y1.2) (.s ((A.ptr 0 0), [bz4]) (.s [Blk.box (c_S_Disk y1.1)] (.s (A.agg (c_S_Disk y1.1)) ?_))))
 refine .bd (g := fun (y : (S_Journal × Int)) => (A.tup [(A.agg [(A.imm (List.map (cL c8) y.1.Records) false), (iA y.1.Many), (iA y.1.Synced)]), (iA y.2)])) (by show C 12 [snap _ (A.agg (c_S_Disk y1.1))] = _; simp only [sn0, snM]; exact h12 y1.1) fun y2 => ?_
 refine .s (A.agg (c_S_Journal y2.1)) (.s (iA y2.2) (.s ((A.ptr 1 0), [Blk.box (c_S_Disk y1.1), bz3]) (.s [Blk.box (c_S_Disk y1.1), Blk.box (c_S_Journal y2.1)] (.s ((A.ptr 2 0), [Blk.box (c_S_Disk y1.1), Blk.box (c_S_Journal y2.1), bz3]) (.s (A.agg (c_S_Journal y2.1)) ?_)))))
 refine .cT (by kernel_rfl) ?_
 refine .bd (g := fun (y : List UInt8) => ((A.imm (List.map c8 y) false), [Blk.box (c_S_Disk y1.1), Blk.box (c_S_Journal y2.1), bz3])) (wrow_makeI (e := 5) (es := 1) (f := c8) (z := (0 : UInt8)) (z' := [(uA 0)]) (by kernel_rfl) (by kernel_rfl) (by kernel_rfl) (by kernel_rfl) rfl (by decide) (fun _ => rfl)) fun y3 => ?_
 refine .bd (g := fun (y : (S_Journal × Int)) => (A.tup [(A.agg [(A.imm (List.map (cL c8) y.1.Records) false), (iA y.1.Many), (iA y.1.Synced)]), (iA y.2)])) (by show C 15 [snap _ (A.agg (c_S_Journal y2.1)), snap _ (A.imm (List.map c8 y3) false)] = _; simp only [sn0, snM]; exact h15 y2.1 y3) fun y4 => ?_
 refine .s (A.agg (c_S_Journal y4.1)) (.s (iA y4.2) (.s [Blk.box (c_S_Disk y1.1), Blk.box (c_S_Journal y2.1), Blk.box (c_S_Journal y4.1)] (.s (A.agg (c_S_Journal y2.1)) (.s ((A.sl 3 0 2 true), [Blk.box (c_S_Disk y1.1), Blk.box (c_S_Journal y2.1), Blk.box (c_S_Journal y4.1), Blk.row true 1 [[(uA 97)], [(uA 98)]]]) (.s ((A.imm [[(uA 97)], [(uA 98)]] false), [Blk.box (c_S_Disk y1.1), Blk.box (c_S_Journal y2.1), Blk.box (c_S_Journal y4.1), Blk.dead]) ?_)))))
 refine .bd (g := fun (y : (S_Journal × Int)) => (A.tup [(A.agg [(A.imm (List.map (cL c8) y.1.Records) false), (iA y.1.Many), (iA y.1.Synced)]), (iA y.2)])) (by show C 15 [snap _ (A.agg (c_S_Journal y2.1)), snap _ (A.imm [[(uA 97)], [(uA 98)]] false)] = _; simp only [sn0, snM]; exact h15 y2.1 ([(97 : UInt8), (98 : UInt8)])) fun y5 => ?_
 refine .s (A.agg (c_S_Journal y5.1)) (.s (iA y5.2) (.s ((A.ptr 4 0), [Blk.box (c_S_Disk y1.1), Blk.box (c_S_Journal y2.1), Blk.box (c_S_Journal y4.1), Blk.dead, bz3]) (.s [Blk.box (c_S_Disk y1.1), Blk.box (c_S_Journal y2.1), Blk.box (c_S_Journal y4.1), Blk.dead, Blk.box (c_S_Journal y5.1)] (.s (A.agg (c_S_Journal y5.1)) (.s (A.agg (c_S_Disk y1.1)) ?_)))))
 refine .bd (g := fun (y : (S_Journal × S_Disk × Int)) => (A.tup [(A.agg [(A.imm (List.map (cL c8) y.1.Records) false), (iA y.1.Many), (iA y.1.Synced)]), (A.agg [(A.imm (List.map (cL c8) y.2.1.Sectors) false), (A.imm (List.map c_S_Write y.2.1.Pending) false), (iA y.2.1.Left), (bA y.2.1.Stopped)]), (iA y.2.2)])) (by show C 21 [snap _ (A.agg (c_S_Journal y5.1)), snap _ (A.agg (c_S_Disk y1.1))] = _; simp only [sn0, snM]; exact h21 y5.1 y1.1) fun y6 => ?_
 refine .s (A.agg (c_S_Journal y6.1)) (.s (A.agg (c_S_Disk y6.2.1)) (.s (iA y6.2.2) (.s ((A.ptr 5 0), [Blk.box (c_S_Disk y1.1), Blk.box (c_S_Journal y2.1), Blk.box (c_S_Journal y4.1), Blk.dead, Blk.box (c_S_Journal y5.1), bz3]) (.s ((A.ptr 6 0), [Blk.box (c_S_Disk y1.1), Blk.box (c_S_Journal y2.1), Blk.box (c_S_Journal y4.1), Blk.dead, Blk.box (c_S_Journal y5.1), bz3, bz4]) (.s [Blk.box (c_S_Disk y1.1), Blk.box (c_S_Journal y2.1), Blk.box (c_S_Journal y4.1), Blk.dead, Blk.box (c_S_Journal y5.1), Blk.box (c_S_Journal y6.1), bz4] (.s [Blk.box (c_S_Disk y1.1), Blk.box (c_S_Journal y2.1), Blk.box (c_S_Journal y4.1), Blk.dead, Blk.box (c_S_Journal y5.1), Blk.box (c_S_Journal y6.1), Blk.box (c_S_Disk y6.2.1)] (.s (A.agg (c_S_Disk y6.2.1)) ?_)))))))
 refine .bd (g := fun (y : (S_Journal × Int)) => (A.tup [(A.agg [(A.imm (List.map (cL c8) y.1.Records) false), (iA y.1.Many), (iA y.1.Synced)]), (iA y.2)])) (by show C 12 [snap _ (A.agg (c_S_Disk y6.2.1))] = _; simp only [sn0, snM]; exact h12 y6.2.1) fun y7 => ?_
 refine .s (A.agg (c_S_Journal y7.1)) (.s (iA y7.2) (.s ((A.ptr 7 0), [Blk.box (c_S_Disk y1.1), Blk.box (c_S_Journal y2.1), Blk.box (c_S_Journal y4.1), Blk.dead, Blk.box (c_S_Journal y5.1), Blk.box (c_S_Journal y6.1), Blk.box (c_S_Disk y6.2.1), bz3]) (.s [Blk.box (c_S_Disk y1.1), Blk.box (c_S_Journal y2.1), Blk.box (c_S_Journal y4.1), Blk.dead, Blk.box (c_S_Journal y5.1), Blk.box (c_S_Journal y6.1), Blk.box (c_S_Disk y6.2.1), Blk.box (c_S_Journal y7.1)] (.s (A.agg (c_S_Journal y5.1)) (.s (A.agg (c_S_Disk y6.2.1)) ?_)))))
 refine .bd (g := fun (y : (S_Journal × S_Disk × Int)) => (A.tup [(A.agg [(A.imm (List.map (cL c8) y.1.Records) false), (iA y.1.Many), (iA y.1.Synced)]), (A.agg [(A.imm (List.map (cL c8) y.2.1.Sectors) false), (A.imm (List.map c_S_Write y.2.1.Pending) false), (iA y.2.1.Left), (bA y.2.1.Stopped)]), (iA y.2.2)])) (by show C 21 [snap _ (A.agg (c_S_Journal y5.1)), snap _ (A.agg (c_S_Disk y6.2.1))] = _; simp only [sn0, snM]; exact h21 y5.1 y6.2.1) fun y8 => ?_
 refine .s (A.agg (c_S_Journal y8.1)) (.s (A.agg (c_S_Disk y8.2.1)) (.s (iA y8.2.2) (.s ((A.ptr 8 0), [Blk.box (c_S_Disk y1.1), Blk.box (c_S_Journal y2.1), Blk.box (c_S_Journal y4.1), Blk.dead, Blk.box (c_S_Journal y5.1), Blk.box (c_S_Journal y6.1), Blk.box (c_S_Disk y6.2.1), Blk.box (c_S_Journal y7.1), bz3]) (.s ((A.ptr 9 0), [Blk.box (c_S_Disk y1.1), Blk.box (c_S_Journal y2.1), Blk.box (c_S_Journal y4.1), Blk.dead, Blk.box (c_S_Journal y5.1), Blk.box (c_S_Journal y6.1), Blk.box (c_S_Disk y6.2.1), Blk.box (c_S_Journal y7.1), bz3, bz4]) (.s [Blk.box (c_S_Disk y1.1), Blk.box (c_S_Journal y2.1), Blk.box (c_S_Journal y4.1), Blk.dead, Blk.box (c_S_Journal y5.1), Blk.box (c_S_Journal y6.1), Blk.box (c_S_Disk y6.2.1), Blk.box (c_S_Journal y7.1), Blk.box (c_S_Journal y8.1), bz4] (.s [Blk.box (c_S_Disk y1.1), Blk.box (c_S_Journal y2.1), Blk.box (c_S_Journal y4.1), Blk.dead, Blk.box (c_S_Journal y5.1), Blk.box (c_S_Journal y6.1), Blk.box (c_S_Disk y6.2.1), Blk.box (c_S_Journal y7.1), Blk.box (c_S_Journal y8.1), Blk.box (c_S_Disk y8.2.1)] ?_))))))
 refine .st (v := (bA (y1.2 == 0))) (aBin_eql ..) ?_
 refine .bg (fun t (y : Bool) => ∃ j11 j12 : A, t = [(bA y), j11, j12]) ?_ ?_
 ·refine .biH (fun hk9 => ?_) (fun hk9 => ?_)
  ·refine .st (v := (bA (y2.2 == 0))) (aBin_eql ..) ?_
   exact .lg ⟨_, _, rfl⟩
  exact .lg ⟨_, _, rfl⟩
 rintro _ y10 ⟨j11, j12, rfl⟩
 iterate 3 refine .uc ?_
 refine .bg (fun t (y : Bool) => ∃ j15 j16 j17 j18 : A, t = [(bA y), j15, j16, j17, j18]) ?_ ?_
 ·refine .biH (fun hk13 => ?_) (fun hk13 => ?_)
  ·refine .s (A.ptr 1 0) (.s (A.imm (List.map (cL c8) y2.1.Records) false) ?_)
   refine .st (v := (iA ((y2.1.Records.length : Int)))) (len_imm (e := 35) (h1 := by kernel_rfl) ..) ?_
   refine .st (v := (bA (((y2.1.Records.length : Int)) == 0))) (aBin_eql ..) ?_
   exact .lg ⟨_, _, _, _, rfl⟩
  exact .lg ⟨_, _, _, _, rfl⟩
 rintro _ y14 ⟨j15, j16, j17, j18, rfl⟩
 iterate 5 refine .uc ?_
 refine .bg (fun t (y : Bool) => ∃ j22 j23 j24 : A, t = [(bA y), j22, j23, j24]) ?_ ?_
 ·refine .biH (fun hk19 => ?_) (fun hk19 => ?_)
  ·refine .s (A.agg (c_S_Journal y2.1)) ?_
   refine .bd (g := fun (y : Int) => (iA y)) (by show C 19 [snap _ (A.agg (c_S_Journal y2.1))] = _; simp only [sn0, snM]; exact h19 y2.1) fun y20 => ?_
   refine .st (v := (bA (y20 == 112))) (aBin_eql ..) ?_
   exact .lg ⟨_, _, _, rfl⟩
  exact .lg ⟨_, _, _, rfl⟩
 rintro _ y21 ⟨j22, j23, j24, rfl⟩
 iterate 4 refine .uc ?_
 refine .bg (fun t (y : Bool) => ∃ j27 j28 : A, t = [(bA y), j27, j28]) ?_ ?_
 ·refine .biH (fun hk25 => ?_) (fun hk25 => ?_)
  ·refine .st (v := (bA (y4.2 == 2))) (aBin_eql ..) ?_
   exact .lg ⟨_, _, rfl⟩
  exact .lg ⟨_, _, rfl⟩
 rintro _ y26 ⟨j27, j28, rfl⟩
 iterate 3 refine .uc ?_
 refine .bg (fun t (y : Bool) => ∃ j31 j32 : A, t = [(bA y), j31, j32]) ?_ ?_
 ·refine .biH (fun hk29 => ?_) (fun hk29 => ?_)
  ·refine .st (v := (bA (y5.2 == 0))) (aBin_eql ..) ?_
   exact .lg ⟨_, _, rfl⟩
  exact .lg ⟨_, _, rfl⟩
 rintro _ y30 ⟨j31, j32, rfl⟩
 iterate 3 refine .uc ?_
 refine .bg (fun t (y : Bool) => ∃ j35 j36 : A, t = [(bA y), j35, j36]) ?_ ?_
 ·refine .biH (fun hk33 => ?_) (fun hk33 => ?_)
  ·refine .st (v := (bA (y6.2.2 == 0))) (aBin_eql ..) ?_
   exact .lg ⟨_, _, rfl⟩
  exact .lg ⟨_, _, rfl⟩
 rintro _ y34 ⟨j35, j36, rfl⟩
 iterate 3 refine .uc ?_
 refine .bg (fun t (y : Bool) => ∃ j39 j40 j41 : A, t = [(bA y), j39, j40, j41]) ?_ ?_
 ·refine .biH (fun hk37 => ?_) (fun hk37 => ?_)
  ·refine .s (A.ptr 5 2) (.s (iA y6.1.Synced) ?_)
   refine .st (v := (bA (y6.1.Synced == 1))) (aBin_eql ..) ?_
   exact .lg ⟨_, _, _, rfl⟩
  exact .lg ⟨_, _, _, rfl⟩
 rintro _ y38 ⟨j39, j40, j41, rfl⟩
 iterate 4 refine .uc ?_
 refine .bg (fun t (y : Bool) => ∃ j44 j45 : A, t = [(bA y), j44, j45]) ?_ ?_
 ·refine .biH (fun hk42 => ?_) (fun hk42 => ?_)
  ·refine .st (v := (bA (y7.2 == 0))) (aBin_eql ..) ?_
   exact .lg ⟨_, _, rfl⟩
  exact .lg ⟨_, _, rfl⟩
 rintro _ y43 ⟨j44, j45, rfl⟩
 iterate 3 refine .uc ?_
 refine .bg (fun t (y : Bool) => ∃ j48 j49 j50 j51 : A, t = [(bA y), j48, j49, j50, j51]) ?_ ?_
 ·refine .biH (fun hk46 => ?_) (fun hk46 => ?_)
  ·refine .s (A.ptr 7 0) (.s (A.imm (List.map (cL c8) y7.1.Records) false) ?_)
   refine .st (v := (iA ((y7.1.Records.length : Int)))) (len_imm (e := 35) (h1 := by kernel_rfl) ..) ?_
   refine .st (v := (bA (((y7.1.Records.length : Int)) == 1))) (aBin_eql ..) ?_
   exact .lg ⟨_, _, _, _, rfl⟩
  exact .lg ⟨_, _, _, _, rfl⟩
 rintro _ y47 ⟨j48, j49, j50, j51, rfl⟩
 iterate 5 refine .uc ?_
 refine .bg (fun t (y : Bool) => ∃ j55 j56 j57 j58 j59 j60 : A, t = [(bA y), j55, j56, j57, j58, j59, j60]) ?_ ?_
 ·refine .biH (fun hk52 => ?_) (fun hk52 => ?_)
  ·refine .s (A.ptr 7 0) (.s (A.imm (List.map (cL c8) y7.1.Records) false) ?_)
   refine .bd (g := fun (y : (List UInt8)) => A.ip ((cL c8) y)) (idx_imm (e := 35) (es := 1) (h1 := by kernel_rfl) (h2 := by kernel_rfl) (h3 := fun _ => rfl) ..) fun y53 => ?_
   refine .s (A.imm (List.map c8 y53) false) ?_
   refine .st (v := (A.v (Value.string (bstr y53)))) (conv_bs (e := 5) (l := y53) (by kernel_rfl) (by kernel_rfl) (by kernel_rfl) (by kernel_rfl) (els_imm ..) rfl) ?_
   refine .st (v := (bA (strEq (bstr y53) ((ByteArray.mk #[97, 98]))))) (aBin_eql_s ..) ?_
   exact .lg ⟨_, _, _, _, _, _, rfl⟩
  exact .lg ⟨_, _, _, _, _, _, rfl⟩
 rintro _ y54 ⟨j55, j56, j57, j58, j59, j60, rfl⟩
 iterate 7 refine .uc ?_
 refine .bg (fun t (y : Bool) => ∃ j63 j64 : A, t = [(bA y), j63, j64]) ?_ ?_
 ·refine .biH (fun hk61 => ?_) (fun hk61 => ?_)
  ·refine .st (v := (bA (y8.2.2 == 50))) (aBin_eql ..) ?_
   exact .lg ⟨_, _, rfl⟩
  exact .lg ⟨_, _, rfl⟩
 rintro _ y62 ⟨j63, j64, rfl⟩
 iterate 3 refine .uc ?_
 refine .bg (fun t (y : Bool) => ∃ j68 j69 j70 : A, t = [(bA y), j68, j69, j70]) ?_ ?_
 ·refine .biH (fun hk65 => ?_) (fun hk65 => ?_)
  ·refine .s (A.agg [(A.imm [] true), (iA 0), (iA 0)]) ?_
   refine .bd (g := fun (y : Int) => (iA y)) (by show C 17 [snap _ (A.agg [(A.imm [] true), (iA 0), (iA 0)])] = _; simp only [sn0, snM]; exact h17 ((S_Journal.mk ([]) 0 0))) fun y66 => ?_
   refine .st (v := (bA (y66 == 1))) (aBin_eql ..) ?_
   exact .lg ⟨_, _, _, rfl⟩
  exact .lg ⟨_, _, _, rfl⟩
 rintro _ y67 ⟨j68, j69, j70, rfl⟩
 iterate 4 refine .uc ?_
 exact .lf rfl rfl ⟨_, rfl, rfl⟩
def G10  : Option Bool := F10 fuel0
def Orc10 (C : Nat -> List A -> Option A) : Prop := ∀ (_ : Unit), C 10 [] = (G10 ).map fun y => (bA y)
def F11_11_0 (n : Nat) (v1 : Bool) (v3 : (List (List UInt8))) (v4 : Int) (v6 : S_Disk) : Nat -> Int -> Int -> Option (Int)
 | 0, _, _ => none
 | m + 1, v2, v5 => bif (decide (v5 < v4)) then ((getI v3 v5).bind fun y8 => F11_11_0 n v1 v3 v4 v6 m (wr .i64 (v2 + (wr .i64 (1 + ((y8.length : Int)))))) (wr .i64 (v5 + 1))) else (some v2)
theorem T11_11_0 (C : Nat -> List A -> Option A) (n : Nat) (v1 : Bool) (v3 : (List (List UInt8))) (v4 : Int) (v6 : S_Disk) {ρ γ : Type} {φ : ρ -> γ -> Prop} {kL : R -> Option ρ} {K : (Int) -> Option γ} (kx kg : Nat -> St -> Option R) (kr : St -> Option R) (kp : A -> St -> Option R) (x0 : ∀ (o0 : Int) (s4 : A) (s8 : A) (s9 : A) (s10 : A), J φ (kx 0 (St.mk [(2, (A.ptr 0 0)), (4, s4), (5, (iA o0)), (8, s8), (9, s9), (10, s10)] [Blk.box (c_S_Disk v6)])) kL (K o0) some) :
  ∀ (m : Nat) (v2 : Int) (v5 : Int), J φ (loopR (cx C) (ec C n 8) (ey C n 8) (n+8) 11 0 0 1 kx kg kr kp m (St.mk [(2, (A.ptr 0 0)), (4, (bA v1)), (5, (iA v2)), (8, (A.imm (List.map (cL c8) v3) false)), (9, (iA v4)), (10, (iA v5))] [Blk.box (c_S_Disk v6)])) kL (F11_11_0 n v1 v3 v4 v6 m v2 v5) K := by
 intro m
 induction m with
 | zero => intros; exact .nn
 | succ m ih =>
  intro v2 v5
  refine .lp (e11_0 ..) ?_
  unfold F11_11_0
  refine .st (v := (bA (decide (v5 < v4)))) (aBin_lss ..) ?_
  refine .biHN (fun hk7 => ?_) (fun hk7 => ?_)
  ·refine .bd (g := fun (y : (List UInt8)) => A.ip ((cL c8) y)) (idx_imm (e := 35) (es := 1) (h1 := by kernel_rfl) (h2 := by kernel_rfl) (h3 := fun _ => rfl) ..) fun y8 => ?_
   refine .s (A.imm (List.map c8 y8) false) ?_
   refine .st (v := (iA ((y8.length : Int)))) (len_imm (e := 5) (h1 := by kernel_rfl) ..) ?_
   refine .st (v := (iA (wr .i64 (1 + ((y8.length : Int)))))) (aBin_add ..) ?_
   refine .st (v := (iA (wr .i64 (v2 + (wr .i64 (1 + ((y8.length : Int)))))))) (aBin_add ..) ?_
   refine .st (v := (iA (wr .i64 (v5 + 1)))) (aBin_add ..) ?_
   refine .s [Blk.box (c_S_Disk v6)] ?_
   refine .cT (by kernel_rfl) ?_
   exact ih _ _
  exact .ex (x0 _ _ _ _ _)
def F11 (n : Nat) (a0 : S_Disk) (a1 : (List (List UInt8))) : Option Bool :=
 (F11_11_0 n false a1 ((a1.length : Int)) a0 (n+8) 0 0).bind fun o9 => match o9 with | y10 => (bif (decide (((a0.Sectors.length : Int)) <= 40)) then (some (decide (((a0.Pending.length : Int)) <= 40))) else (some false)).bind fun y16 => (bif y16 then (some (decide (y10 <= 4000))) else (some false)).bind fun y22 => some y22
theorem T11 (C : Nat -> List A -> Option A) (n : Nat) (a0 : S_Disk) (a1 : (List (List UInt8))) : J (fun (o : R) y => ∃ v, o.1 = .ret v /\ snapE o.2 v = (bA y)) (evCall1 (cx C) (ec C n 8) (ey C n 8) (n+8) 11 [(A.agg (c_S_Disk a0)), (A.imm (List.map (cL c8) a1) false)] [] 0) some (F11 n a0 a1) some := by
 refine .lp (e11 ..) ?_
 unfold F11
 refine .s ((A.ptr 0 0), [Blk.box (c_S_Disk a0)]) ?_
 refine .st (v := (iA ((a1.length : Int)))) (len_imm (e := 35) (h1 := by kernel_rfl) ..) ?_
 refine .as (T11_11_0 C n  false a1 ((a1.length : Int)) a0 _ _ _ _ ?_ _ 0 0)
 ·intro y10 j11 j12 j13 j14
  refine .un rfl ?_
  refine .cT (by kernel_rfl) ?_
  refine .s (A.ptr 0 0) (.s (A.imm (List.map (cL c8) a0.Sectors) false) ?_)
  refine .st (v := (iA ((a0.Sectors.length : Int)))) (len_imm (e := 35) (h1 := by kernel_rfl) ..) ?_
  refine .st (v := (bA (decide (((a0.Sectors.length : Int)) <= 40)))) (aBin_leq ..) ?_
  refine .bg (fun t (y : Bool) => ∃ j17 j18 j19 j20 : A, t = [(bA y), j17, j18, j19, j20]) ?_ ?_
  ·refine .biH (fun hk15 => ?_) (fun hk15 => ?_)
   ·refine .s (A.ptr 0 1) (.s (A.imm (List.map c_S_Write a0.Pending) false) ?_)
    refine .st (v := (iA ((a0.Pending.length : Int)))) (len_imm (e := 76) (h1 := by kernel_rfl) ..) ?_
    refine .st (v := (bA (decide (((a0.Pending.length : Int)) <= 40)))) (aBin_leq ..) ?_
    exact .lg ⟨_, _, _, _, rfl⟩
   exact .lg ⟨_, _, _, _, rfl⟩
  rintro _ y16 ⟨j17, j18, j19, j20, rfl⟩
  iterate 5 refine .uc ?_
  refine .bg (fun t (y : Bool) => ∃ j23 j24 : A, t = [(bA y), j23, j24]) ?_ ?_
  ·refine .biH (fun hk21 => ?_) (fun hk21 => ?_)
   ·refine .st (v := (bA (decide (y10 <= 4000)))) (aBin_leq ..) ?_
    exact .lg ⟨_, _, rfl⟩
   exact .lg ⟨_, _, rfl⟩
  rintro _ y22 ⟨j23, j24, rfl⟩
  iterate 3 refine .uc ?_
  exact .lf rfl rfl ⟨_, rfl, rfl⟩
def G11 (a0 : S_Disk) (a1 : (List (List UInt8))) : Option Bool := F11 fuel0 a0 a1
def Orc11 (C : Nat -> List A -> Option A) : Prop := ∀ (a0 : S_Disk) (a1 : (List (List UInt8))), C 11 [(A.agg (c_S_Disk a0)), (A.imm (List.map (cL c8) a1) false)] = (G11 a0 a1).map fun y => (bA y)
def F24_24_0 (n : Nat) (v2 : (List (List UInt8))) (v3 : (List (List UInt8))) (v4 : Bool) : Nat -> Int -> Option ((Bool) ⊕ (Unit))
 | 0, _ => none
 | m + 1, v5 => bif (decide (v5 < ((v2.length : Int)))) then ((getI v2 v5).bind fun y7 => (getI v3 v5).bind fun y8 => bif (!strEq (bstr y7) (bstr y8)) then (some ((Sum.inl false))) else (F24_24_0 n v2 v3 v4 m (wr .i64 (v5 + 1)))) else (some ((Sum.inr (()))))
theorem T24_24_0 (C : Nat -> List A -> Option A) (n : Nat) (v2 : (List (List UInt8))) (v3 : (List (List UInt8))) (v4 : Bool) {ρ γ : Type} {φ : ρ -> γ -> Prop} {kL : R -> Option ρ} {K : ((Bool) ⊕ (Unit)) -> Option γ} (kx kg : Nat -> St -> Option R) (kr : St -> Option R) (kp : A -> St -> Option R) (x0 : ∀ (o0 : Bool) (s0 : A) (s1 : A) (s5 : A), J φ (kr (St.mk [(0, s0), (1, s1), (4, (bA o0)), (5, s5)] [])) kL (K (Sum.inl o0)) some) (x1 : ∀ (s0 : A) (s1 : A) (s4 : A) (s5 : A), J φ (kx 0 (St.mk [(0, s0), (1, s1), (4, s4), (5, s5)] [])) kL (K (Sum.inr (()))) some) :
  ∀ (m : Nat) (v5 : Int), J φ (loopR (cx C) (ec C n 8) (ey C n 8) (n+8) 24 0 0 0 kx kg kr kp m (St.mk [(0, (A.imm (List.map (cL c8) v2) false)), (1, (A.imm (List.map (cL c8) v3) false)), (4, (bA v4)), (5, (iA v5))] [])) kL (F24_24_0 n v2 v3 v4 m v5) K := by
 intro m
 induction m with
 | zero => intros; exact .nn
 | succ m ih =>
  intro v5
  refine .lp (e24_0 ..) ?_
  unfold F24_24_0
  refine .st (v := (iA ((v2.length : Int)))) (len_imm (e := 35) (h1 := by kernel_rfl) ..) ?_
  refine .st (v := (bA (decide (v5 < ((v2.length : Int)))))) (aBin_lss ..) ?_
  refine .biHN (fun hk6 => ?_) (fun hk6 => ?_)
  ·refine .bd (g := fun (y : (List UInt8)) => A.ip ((cL c8) y)) (idx_imm (e := 35) (es := 1) (h1 := by kernel_rfl) (h2 := by kernel_rfl) (h3 := fun _ => rfl) ..) fun y7 => ?_
   refine .s (A.imm (List.map c8 y7) false) ?_
   refine .st (v := (A.v (Value.string (bstr y7)))) (conv_bs (e := 5) (l := y7) (by kernel_rfl) (by kernel_rfl) (by kernel_rfl) (by kernel_rfl) (els_imm ..) rfl) ?_
   refine .bd (g := fun (y : (List UInt8)) => A.ip ((cL c8) y)) (idx_imm (e := 35) (es := 1) (h1 := by kernel_rfl) (h2 := by kernel_rfl) (h3 := fun _ => rfl) ..) fun y8 => ?_
   refine .s (A.imm (List.map c8 y8) false) ?_
   refine .st (v := (A.v (Value.string (bstr y8)))) (conv_bs (e := 5) (l := y8) (by kernel_rfl) (by kernel_rfl) (by kernel_rfl) (by kernel_rfl) (els_imm ..) rfl) ?_
   refine .st (v := (bA (!strEq (bstr y7) (bstr y8)))) (aBin_neq_s ..) ?_
   refine .biHN (fun hk9 => ?_) (fun hk9 => ?_)
   ·exact .ex (x0 _ _ _ _)
   refine .st (v := (iA (wr .i64 (v5 + 1)))) (aBin_add ..) ?_
   refine .s [] ?_
   refine .cT (by kernel_rfl) ?_
   exact ih _
  exact .ex (x1 _ _ _ _)
def F24 (n : Nat) (a0 : (List (List UInt8))) (a1 : (List (List UInt8))) : Option Bool :=
 bif (((a0.length : Int)) != ((a1.length : Int))) then (some false) else ((F24_24_0 n a0 a1 false (n+8) 0).bind fun o10 => match o10 with | (Sum.inl y11) => some y11 | (Sum.inr _) => some true)
theorem T24 (C : Nat -> List A -> Option A) (n : Nat) (a0 : (List (List UInt8))) (a1 : (List (List UInt8))) : J (fun (o : R) y => ∃ v, o.1 = .ret v /\ snapE o.2 v = (bA y)) (evCall1 (cx C) (ec C n 8) (ey C n 8) (n+8) 24 [(A.imm (List.map (cL c8) a0) false), (A.imm (List.map (cL c8) a1) false)] [] 0) some (F24 n a0 a1) some := by
 refine .lp (e24 ..) ?_
 unfold F24
 refine .st (v := (iA ((a0.length : Int)))) (len_imm (e := 35) (h1 := by kernel_rfl) ..) ?_
 refine .st (v := (iA ((a1.length : Int)))) (len_imm (e := 35) (h1 := by kernel_rfl) ..) ?_
 refine .st (v := (bA (((a0.length : Int)) != ((a1.length : Int))))) (aBin_neq ..) ?_
 refine .biHN (fun hk1 => ?_) (fun hk1 => ?_)
 ·exact .lf rfl rfl ⟨_, rfl, rfl⟩
 refine .as (T24_24_0 C n  a0 a1 false _ _ _ _ ?_ ?_ _ 0)
 ·intro y11 j12 j13 j14
  refine .un rfl ?_
  exact .lf rfl rfl ⟨_, rfl, rfl⟩
 ·intro j15 j16 j17 j18
  refine .un rfl ?_
  refine .cT (by kernel_rfl) ?_
  exact .lf rfl rfl ⟨_, rfl, rfl⟩
def G24 (a0 : (List (List UInt8))) (a1 : (List (List UInt8))) : Option Bool := F24 fuel0 a0 a1
def Orc24 (C : Nat -> List A -> Option A) : Prop := ∀ (a0 : (List (List UInt8))) (a1 : (List (List UInt8))), C 24 [(A.imm (List.map (cL c8) a0) false), (A.imm (List.map (cL c8) a1) false)] = (G24 a0 a1).map fun y => (bA y)
def F29 (n : Nat) (a0 : S_Disk) (a1 : Int) : Option (S_Disk × Int) :=
 (G50 a0).bind fun y1 => bif (!y1) then (some (((S_Disk.mk ([]) ([]) 0 false), 40))) else ((bif (decide (a1 < 0)) then (some true) else (some (decide (65536 < a1)))).bind fun y4 => bif y4 then (some (((S_Disk.mk ([]) ([]) 0 false), 1))) else (some (((S_Disk.mk a0.Sectors a0.Pending a1 a0.Stopped), 0))))
theorem T29 (C : Nat -> List A -> Option A) (n : Nat) (h50 : Orc50 C) (a0 : S_Disk) (a1 : Int) : J (fun (o : R) y => ∃ v, o.1 = .ret v /\ snapE o.2 v = (A.tup [(A.agg [(A.imm (List.map (cL c8) y.1.Sectors) false), (A.imm (List.map c_S_Write y.1.Pending) false), (iA y.1.Left), (bA y.1.Stopped)]), (iA y.2)])) (evCall1 (cx C) (ec C n 8) (ey C n 8) (n+8) 29 [(A.agg (c_S_Disk a0)), (iA a1)] [] 0) some (F29 n a0 a1) some := by
 refine .lp (e29 ..) ?_
 unfold F29
 refine .s ((A.ptr 0 0), [Blk.box (c_S_Disk a0)]) (.s ((A.ptr 1 0), [Blk.box (c_S_Disk a0), bz4]) (.s (A.agg (c_S_Disk a0)) ?_))
 refine .bd (g := fun (y : Bool) => (bA y)) (by show C 50 [snap _ (A.agg (c_S_Disk a0))] = _; simp only [sn0, snM]; exact h50 a0) fun y1 => ?_
 refine .s (bA (!y1)) ?_
 refine .biHN (fun hk2 => ?_) (fun hk2 => ?_)
 ·refine .s (A.agg [(A.imm [] true), (A.imm [] true), (iA 0), (bA false)]) (.s [Blk.box (c_S_Disk a0), bz4] (.s (A.agg [(A.imm [] true), (A.imm [] true), (iA 0), (bA false)]) ?_))
  exact .lf rfl rfl ⟨_, rfl, by show snapE _ (A.tup [(A.agg [(A.imm [] true), (A.imm [] true), (iA 0), (bA false)]), (iA 40)]) = _; first | (simp only [sn0, snM, snapE]; done) | (simp only [sn0, snS, snapE]; first | done | rfl)⟩
 refine .st (v := (bA (decide (a1 < 0)))) (aBin_lss ..) ?_
 refine .bg (fun t (y : Bool) => ∃ j5 j6 : A, t = [(bA y), j5, j6]) ?_ ?_
 ·refine .biH (fun hk3 => ?_) (fun hk3 => ?_)
  ·exact .lg ⟨_, _, rfl⟩
  refine .st (v := (bA (decide (65536 < a1)))) (aBin_gtr ..) ?_
  exact .lg ⟨_, _, rfl⟩
 rintro _ y4 ⟨j5, j6, rfl⟩
 iterate 3 refine .uc ?_
 refine .biHN (fun hk7 => ?_) (fun hk7 => ?_)
 ·refine .s (A.agg [(A.imm [] true), (A.imm [] true), (iA 0), (bA false)]) (.s [Blk.box (c_S_Disk a0), bz4] (.s (A.agg [(A.imm [] true), (A.imm [] true), (iA 0), (bA false)]) ?_))
  exact .lf rfl rfl ⟨_, rfl, by show snapE _ (A.tup [(A.agg [(A.imm [] true), (A.imm [] true), (iA 0), (bA false)]), (iA 1)]) = _; first | (simp only [sn0, snM, snapE]; done) | (simp only [sn0, snS, snapE]; first | done | rfl)⟩
 refine .s (A.ptr 0 2) (.s [Blk.box [(A.imm (List.map (cL c8) a0.Sectors) false), (A.imm (List.map c_S_Write a0.Pending) false), (iA a1), (bA a0.Stopped)], bz4] (.s (A.agg [(A.imm (List.map (cL c8) a0.Sectors) false), (A.imm (List.map c_S_Write a0.Pending) false), (iA a1), (bA a0.Stopped)]) (.s [Blk.box [(A.imm (List.map (cL c8) a0.Sectors) false), (A.imm (List.map c_S_Write a0.Pending) false), (iA a1), (bA a0.Stopped)], Blk.box [(A.imm (List.map (cL c8) a0.Sectors) false), (A.imm (List.map c_S_Write a0.Pending) false), (iA a1), (bA a0.Stopped)]] (.s (A.agg [(A.imm (List.map (cL c8) a0.Sectors) false), (A.imm (List.map c_S_Write a0.Pending) false), (iA a1), (bA a0.Stopped)]) ?_))))
 exact .lf rfl rfl ⟨_, rfl, by show snapE _ (A.tup [(A.agg [(A.imm (List.map (cL c8) a0.Sectors) false), (A.imm (List.map c_S_Write a0.Pending) false), (iA a1), (bA a0.Stopped)]), (iA 0)]) = _; first | (simp only [sn0, snM, snapE]; done) | (simp only [sn0, snS, snapE]; first | done | rfl)⟩
def G29 (a0 : S_Disk) (a1 : Int) : Option (S_Disk × Int) := F29 fuel0 a0 a1
def Orc29 (C : Nat -> List A -> Option A) : Prop := ∀ (a0 : S_Disk) (a1 : Int), C 29 [(A.agg (c_S_Disk a0)), (iA a1)] = (G29 a0 a1).map fun y => (A.tup [(A.agg [(A.imm (List.map (cL c8) y.1.Sectors) false), (A.imm (List.map c_S_Write y.1.Pending) false), (iA y.1.Left), (bA y.1.Stopped)]), (iA y.2)])
def F30 (n : Nat) (a0 : S_Disk) : Option S_Disk :=
 some ((S_Disk.mk a0.Sectors ([]) (-1) false))
theorem T30 (C : Nat -> List A -> Option A) (n : Nat) (a0 : S_Disk) : J (fun (o : R) y => ∃ v, o.1 = .ret v /\ snapE o.2 v = (A.agg [(A.imm (List.map (cL c8) y.Sectors) false), (A.imm (List.map c_S_Write y.Pending) false), (iA y.Left), (bA y.Stopped)])) (evCall1 (cx C) (ec C n 8) (ey C n 8) (n+8) 30 [(A.agg (c_S_Disk a0))] [] 0) some (F30 n a0) some := by
 refine .lp (e30 ..) ?_
 unfold F30
 refine .s ((A.ptr 0 0), [Blk.box (c_S_Disk a0)]) (.s ((A.ptr 1 0), [Blk.box (c_S_Disk a0), bz4]) (.s (A.ptr 0 0) (.s (A.imm (List.map (cL c8) a0.Sectors) false) (.s (A.agg [(A.imm (List.map (cL c8) a0.Sectors) false), (A.imm [] true), (iA (-1)), (bA false)]) (.s [Blk.box (c_S_Disk a0), Blk.box [(A.imm (List.map (cL c8) a0.Sectors) false), (A.imm [] true), (iA (-1)), (bA false)]] (.s (A.agg [(A.imm (List.map (cL c8) a0.Sectors) false), (A.imm [] true), (iA (-1)), (bA false)]) ?_))))))
 exact .lf rfl rfl ⟨_, rfl, by show snapE _ (A.agg [(A.imm (List.map (cL c8) a0.Sectors) false), (A.imm [] true), (iA (-1)), (bA false)]) = _; first | (simp only [sn0, snM, snapE]; done) | (simp only [sn0, snS, snapE]; first | done | rfl)⟩
def G30 (a0 : S_Disk) : Option S_Disk := F30 fuel0 a0
def Orc30 (C : Nat -> List A -> Option A) : Prop := ∀ (a0 : S_Disk), C 30 [(A.agg (c_S_Disk a0))] = (G30 a0).map fun y => (A.agg [(A.imm (List.map (cL c8) y.Sectors) false), (A.imm (List.map c_S_Write y.Pending) false), (iA y.Left), (bA y.Stopped)])
def F9_9_1 (n : Nat) (v34 : Bool) (v35 : (List (List UInt8))) (v36 : (List S_kinespherelaw05_Crash)) (v37 : Int) (v38 : Int) (v39 : (List (List UInt8))) (v40 : Int) (v42 : S_Disk) (v43 : S_kinespherelaw05_Crash) : Nat -> Int -> S_Journal -> Option ((List (List UInt8)) × Int × Int)
 | 0, _, _ => none
 | m + 1, v41, v44 => bif (decide (v41 < v40)) then ((getI v39 v41).bind fun y46 => (G15 v44 y46).bind fun y47 => bif (y47.2 == 0) then (F9_9_1 n v34 v35 v36 v37 v38 v39 v40 v42 v43 m (wr .i64 (v41 + 1)) y47.1) else (F9_9_1 n v34 v35 v36 v37 v38 v39 v40 v42 v43 m (wr .i64 (v41 + 1)) v44)) else (some ((v44.Records, v44.Many, v44.Synced)))
theorem T9_9_1 (C : Nat -> List A -> Option A) (n : Nat) (h10 : Orc10 C) (h11 : Orc11 C) (h12 : Orc12 C) (h15 : Orc15 C) (h21 : Orc21 C) (h24 : Orc24 C) (h25 : Orc25 C) (h29 : Orc29 C) (h30 : Orc30 C) (v34 : Bool) (v35 : (List (List UInt8))) (v36 : (List S_kinespherelaw05_Crash)) (v37 : Int) (v38 : Int) (v39 : (List (List UInt8))) (v40 : Int) (v42 : S_Disk) (v43 : S_kinespherelaw05_Crash) {ρ γ : Type} {φ : ρ -> γ -> Prop} {kL : R -> Option ρ} {K : ((List (List UInt8)) × Int × Int) -> Option γ} (kx kg : Nat -> St -> Option R) (kr : St -> Option R) (kp : A -> St -> Option R) (x0 : ∀ (o0 : (List (List UInt8))) (o1 : Int) (o2 : Int) (s72 : A) (s73 : A) (s74 : A), J φ (kx 2 (St.mk [(4, (bA v34)), (5, (A.ptr 0 0)), (7, (A.imm (List.map (cL c8) v35) false)), (9, (A.ptr 1 0)), (10, (A.ptr 2 0)), (38, (A.imm (List.map c_S_kinespherelaw05_Crash v36) false)), (39, (iA v37)), (40, (iA v38)), (72, s72), (73, s73), (74, s74)] [Blk.box (c_S_Disk v42), Blk.box (c_S_kinespherelaw05_Crash v43), Blk.box [(A.imm (List.map (cL c8) o0) false), (iA o1), (iA o2)]])) kL (K (o0, o1, o2)) some) :
  ∀ (m : Nat) (v41 : Int) (v44 : S_Journal), J φ (loopR (cx C) (ec C n 8) (ey C n 8) (n+8) 9 0 1 3 kx kg kr kp m (St.mk [(4, (bA v34)), (5, (A.ptr 0 0)), (7, (A.imm (List.map (cL c8) v35) false)), (9, (A.ptr 1 0)), (10, (A.ptr 2 0)), (38, (A.imm (List.map c_S_kinespherelaw05_Crash v36) false)), (39, (iA v37)), (40, (iA v38)), (72, (A.imm (List.map (cL c8) v39) false)), (73, (iA v40)), (74, (iA v41))] [Blk.box (c_S_Disk v42), Blk.box (c_S_kinespherelaw05_Crash v43), Blk.box (c_S_Journal v44)])) kL (F9_9_1 n v34 v35 v36 v37 v38 v39 v40 v42 v43 m v41 v44) K := by
 intro m
 induction m with
 | zero => intros; exact .nn
 | succ m ih =>
  intro v41 v44
  refine .lp (e9_1 ..) ?_
  unfold F9_9_1
  refine .st (v := (bA (decide (v41 < v40)))) (aBin_lss ..) ?_
  refine .biHN (fun hk45 => ?_) (fun hk45 => ?_)
  ·refine .bd (g := fun (y : (List UInt8)) => A.ip ((cL c8) y)) (idx_imm (e := 35) (es := 1) (h1 := by kernel_rfl) (h2 := by kernel_rfl) (h3 := fun _ => rfl) ..) fun y46 => ?_
   refine .s (A.imm (List.map c8 y46) false) (.s (A.agg (c_S_Journal v44)) ?_)
   refine .bd (g := fun (y : (S_Journal × Int)) => (A.tup [(A.agg [(A.imm (List.map (cL c8) y.1.Records) false), (iA y.1.Many), (iA y.1.Synced)]), (iA y.2)])) (by show C 15 [snap _ (A.agg (c_S_Journal v44)), snap _ (A.imm (List.map c8 y46) false)] = _; simp only [sn0, snM]; exact h15 v44 y46) fun y47 => ?_
   refine .s (A.agg (c_S_Journal y47.1)) (.s (iA y47.2) (.s ((A.ptr 3 0), [Blk.box (c_S_Disk v42), Blk.box (c_S_kinespherelaw05_Crash v43), Blk.box (c_S_Journal v44), bz3]) (.s [Blk.box (c_S_Disk v42), Blk.box (c_S_kinespherelaw05_Crash v43), Blk.box (c_S_Journal v44), Blk.box (c_S_Journal y47.1)] ?_)))
   refine .st (v := (bA (y47.2 == 0))) (aBin_eql ..) ?_
   refine .biHN (fun hk48 => ?_) (fun hk48 => ?_)
   ·refine .s (A.agg (c_S_Journal y47.1)) (.s [Blk.box (c_S_Disk v42), Blk.box (c_S_kinespherelaw05_Crash v43), Blk.box (c_S_Journal y47.1), Blk.box (c_S_Journal y47.1)] ?_)
    refine .st (v := (iA (wr .i64 (v41 + 1)))) (aBin_add ..) ?_
    refine .st (v := [Blk.box (c_S_Disk v42), Blk.box (c_S_kinespherelaw05_Crash v43), Blk.box (c_S_Journal y47.1)]) ((by kernel_rfl : _ = (bif ((((underss 3 (List.map (cL c8) v42.Sectors)) && ((underss 3 (List.map c_S_Write v42.Pending)) && true))) && ((((underss 3 (List.map (cL c8) v43.Records)) && true)) && ((((underss 3 (List.map (cL c8) y47.1.Records)) && true)) && true))) then some [Blk.box (c_S_Disk v42), Blk.box (c_S_kinespherelaw05_Crash v43), Blk.box (c_S_Journal y47.1)] else none)).trans (by simp only [un0, unS])) ?_
    refine .cT ((by kernel_rfl : _ = (bif underss 3 (List.map (cL c8) v35) then (bif underss 3 (List.map c_S_kinespherelaw05_Crash v36) then (bif underss 3 (List.map (cL c8) v39) then true else false) else false) else false)).trans (by simp only [un0, unS])) ?_
    exact ih _ _
   refine .st (v := (iA (wr .i64 (v41 + 1)))) (aBin_add ..) ?_
   refine .st (v := [Blk.box (c_S_Disk v42), Blk.box (c_S_kinespherelaw05_Crash v43), Blk.box (c_S_Journal v44)]) ((by kernel_rfl : _ = (bif ((((underss 3 (List.map (cL c8) v42.Sectors)) && ((underss 3 (List.map c_S_Write v42.Pending)) && true))) && ((((underss 3 (List.map (cL c8) v43.Records)) && true)) && ((((underss 3 (List.map (cL c8) v44.Records)) && true)) && true))) then some [Blk.box (c_S_Disk v42), Blk.box (c_S_kinespherelaw05_Crash v43), Blk.box (c_S_Journal v44)] else none)).trans (by simp only [un0, unS])) ?_
   refine .cT ((by kernel_rfl : _ = (bif underss 3 (List.map (cL c8) v35) then (bif underss 3 (List.map c_S_kinespherelaw05_Crash v36) then (bif underss 3 (List.map (cL c8) v39) then true else false) else false) else false)).trans (by simp only [un0, unS])) ?_
   exact ih _ _
  exact .ex (x0 _ _ _ _ _ _)
def F9_9_0 (n : Nat) (v6 : Bool) (v8 : (List S_kinespherelaw05_Crash)) (v9 : Int) : Nat -> (List (List UInt8)) -> Int -> S_Disk -> Option ((Bool × (List (List UInt8)) × (List S_Write) × Int × Bool × (List (List UInt8)) × Bool × Int) ⊕ ((Bool × (List (List UInt8)) × (List S_Write) × Int × Bool × (List (List UInt8)) × Bool × Int × (List (List UInt8)) × Int × Int) ⊕ ((Bool × (List (List UInt8)) × (List S_Write) × Int × Bool × (List (List UInt8)) × Bool × Int × (List (List UInt8)) × Int × Int × (List (List UInt8)) × Int × Int × (List (List UInt8)) × (List S_Write) × Int × Bool) ⊕ ((Bool × (List (List UInt8)) × (List S_Write) × Int × Bool × (List (List UInt8)) × Bool × Int × (List (List UInt8)) × Int × Int × (List (List UInt8)) × Int × Int × (List (List UInt8)) × (List S_Write) × Int × Bool × (List (List UInt8)) × Int × Int) ⊕ ((List (List UInt8)) × (List (List UInt8)) × (List S_Write) × Int × Bool)))))
 | 0, _, _, _ => none
 | m + 1, v7, v10, v11 => bif (decide (v10 < v9)) then ((getI v8 v10).bind fun y13 => (G11 v11 y13.Records).bind fun y14 => bif (!y14) then (some ((Sum.inl ((true, v11.Sectors, v11.Pending, v11.Left, v11.Stopped, y13.Records, y13.Stop, y13.Left))))) else ((G12 v11).bind fun y16 => (bif (y16.2 != 0) then (some true) else (some (y16.1.Synced != ((y16.1.Records.length : Int))))).bind fun y18 => (bif y18 then (some true) else ((G24 y16.1.Records v7).bind fun y26 => some (!y26))).bind fun y27 => bif y27 then (some ((Sum.inr ((Sum.inl ((false, v11.Sectors, v11.Pending, v11.Left, v11.Stopped, y13.Records, y13.Stop, y13.Left, y16.1.Records, y16.1.Many, y16.1.Synced))))))) else ((F9_9_1 n v6 v7 v8 v9 v10 y13.Records ((y13.Records.length : Int)) v11 y13 (n+8) 0 y16.1).bind fun o49 => match o49 with | (y50, y51, y52) => bif (decide (((y50.length : Int)) < ((v7.length : Int)))) then (some ((Sum.inr ((Sum.inl ((false, v11.Sectors, v11.Pending, v11.Left, v11.Stopped, y13.Records, y13.Stop, y13.Left, y50, y51, y52))))))) else (bif y13.Stop then ((G29 v11 (wr .i64 (Int.tmod y13.Left 40))).bind fun y58 => bif (y58.2 != 0) then (some ((Sum.inr ((Sum.inl ((false, y58.1.Sectors, y58.1.Pending, y58.1.Left, y58.1.Stopped, y13.Records, y13.Stop, y13.Left, y50, y51, y52))))))) else ((G21 ((S_Journal.mk y50 y51 y52)) y58.1).bind fun y60 => bif (y60.2.2 == 0) then ((bif (y60.1.Synced != ((y50.length : Int))) then (some true) else ((G24 y60.1.Records y50).bind fun y63 => some (!y63))).bind fun y64 => bif y64 then (some ((Sum.inr ((Sum.inr ((Sum.inl ((false, y58.1.Sectors, y58.1.Pending, y58.1.Left, y58.1.Stopped, y13.Records, y13.Stop, y13.Left, y50, y51, y52, y60.1.Records, y60.1.Many, y60.1.Synced, y60.2.1.Sectors, y60.2.1.Pending, y60.2.1.Left, y60.2.1.Stopped))))))))) else ((G30 y60.2.1).bind fun y72 => F9_9_0 n v6 v8 v9 m y50 (wr .i64 (v10 + 1)) y72)) else (bif (y60.2.2 == 40) then ((G30 y60.2.1).bind fun y74 => (G12 y74).bind fun y75 => (bif (!y13.Stop) then (some true) else (some (y75.2 != 0))).bind fun y77 => (bif y77 then (some true) else (some (decide (((y75.1.Records.length : Int)) < ((v7.length : Int)))))).bind fun y81 => (bif y81 then (some true) else (some (decide (((y50.length : Int)) < ((y75.1.Records.length : Int)))))).bind fun y89 => bif y89 then ((some true).bind fun y105 => bif y105 then (some ((Sum.inr ((Sum.inr ((Sum.inr ((Sum.inl ((false, y58.1.Sectors, y58.1.Pending, y58.1.Left, y58.1.Stopped, y13.Records, y13.Stop, y13.Left, y50, y51, y52, y60.1.Records, y60.1.Many, y60.1.Synced, y60.2.1.Sectors, y60.2.1.Pending, y60.2.1.Left, y60.2.1.Stopped, y75.1.Records, y75.1.Many, y75.1.Synced))))))))))) else ((G30 y60.2.1).bind fun y109 => F9_9_0 n v6 v8 v9 m y75.1.Records (wr .i64 (v10 + 1)) y109)) else ((subI y50 0 ((y75.1.Records.length : Int))).bind fun y98 => ((G24 y75.1.Records y98).bind fun y99 => some (!y99)).bind fun y100 => bif y100 then (some ((Sum.inr ((Sum.inr ((Sum.inr ((Sum.inl ((false, y58.1.Sectors, y58.1.Pending, y58.1.Left, y58.1.Stopped, y13.Records, y13.Stop, y13.Left, y50, y51, y52, y60.1.Records, y60.1.Many, y60.1.Synced, y60.2.1.Sectors, y60.2.1.Pending, y60.2.1.Left, y60.2.1.Stopped, y75.1.Records, y75.1.Many, y75.1.Synced))))))))))) else ((G30 y60.2.1).bind fun y104 => F9_9_0 n v6 v8 v9 m y75.1.Records (wr .i64 (v10 + 1)) y104))) else (some ((Sum.inr ((Sum.inr ((Sum.inl ((false, y58.1.Sectors, y58.1.Pending, y58.1.Left, y58.1.Stopped, y13.Records, y13.Stop, y13.Left, y50, y51, y52, y60.1.Records, y60.1.Many, y60.1.Synced, y60.2.1.Sectors, y60.2.1.Pending, y60.2.1.Left, y60.2.1.Stopped)))))))))))) else ((G21 ((S_Journal.mk y50 y51 y52)) v11).bind fun y110 => bif (y110.2.2 == 0) then ((bif (y110.1.Synced != ((y50.length : Int))) then (some true) else ((G24 y110.1.Records y50).bind fun y113 => some (!y113))).bind fun y114 => bif y114 then (some ((Sum.inr ((Sum.inr ((Sum.inl ((false, v11.Sectors, v11.Pending, v11.Left, v11.Stopped, y13.Records, y13.Stop, y13.Left, y50, y51, y52, y110.1.Records, y110.1.Many, y110.1.Synced, y110.2.1.Sectors, y110.2.1.Pending, y110.2.1.Left, y110.2.1.Stopped))))))))) else ((G30 y110.2.1).bind fun y122 => F9_9_0 n v6 v8 v9 m y50 (wr .i64 (v10 + 1)) y122)) else (bif (y110.2.2 == 40) then ((G30 y110.2.1).bind fun y124 => (G12 y124).bind fun y125 => (bif (!y13.Stop) then (some true) else (some (y125.2 != 0))).bind fun y127 => (bif y127 then (some true) else (some (decide (((y125.1.Records.length : Int)) < ((v7.length : Int)))))).bind fun y131 => (bif y131 then (some true) else (some (decide (((y50.length : Int)) < ((y125.1.Records.length : Int)))))).bind fun y139 => bif y139 then ((some true).bind fun y155 => bif y155 then (some ((Sum.inr ((Sum.inr ((Sum.inr ((Sum.inl ((false, v11.Sectors, v11.Pending, v11.Left, v11.Stopped, y13.Records, y13.Stop, y13.Left, y50, y51, y52, y110.1.Records, y110.1.Many, y110.1.Synced, y110.2.1.Sectors, y110.2.1.Pending, y110.2.1.Left, y110.2.1.Stopped, y125.1.Records, y125.1.Many, y125.1.Synced))))))))))) else ((G30 y110.2.1).bind fun y159 => F9_9_0 n v6 v8 v9 m y125.1.Records (wr .i64 (v10 + 1)) y159)) else ((subI y50 0 ((y125.1.Records.length : Int))).bind fun y148 => ((G24 y125.1.Records y148).bind fun y149 => some (!y149)).bind fun y150 => bif y150 then (some ((Sum.inr ((Sum.inr ((Sum.inr ((Sum.inl ((false, v11.Sectors, v11.Pending, v11.Left, v11.Stopped, y13.Records, y13.Stop, y13.Left, y50, y51, y52, y110.1.Records, y110.1.Many, y110.1.Synced, y110.2.1.Sectors, y110.2.1.Pending, y110.2.1.Left, y110.2.1.Stopped, y125.1.Records, y125.1.Many, y125.1.Synced))))))))))) else ((G30 y110.2.1).bind fun y154 => F9_9_0 n v6 v8 v9 m y125.1.Records (wr .i64 (v10 + 1)) y154))) else (some ((Sum.inr ((Sum.inr ((Sum.inl ((false, v11.Sectors, v11.Pending, v11.Left, v11.Stopped, y13.Records, y13.Stop, y13.Left, y50, y51, y52, y110.1.Records, y110.1.Many, y110.1.Synced, y110.2.1.Sectors, y110.2.1.Pending, y110.2.1.Left, y110.2.1.Stopped))))))))))))))) else (some ((Sum.inr ((Sum.inr ((Sum.inr ((Sum.inr ((v7, v11.Sectors, v11.Pending, v11.Left, v11.Stopped)))))))))))
theorem T9_9_0 (C : Nat -> List A -> Option A) (n : Nat) (h10 : Orc10 C) (h11 : Orc11 C) (h12 : Orc12 C) (h15 : Orc15 C) (h21 : Orc21 C) (h24 : Orc24 C) (h25 : Orc25 C) (h29 : Orc29 C) (h30 : Orc30 C) (v6 : Bool) (v8 : (List S_kinespherelaw05_Crash)) (v9 : Int) {ρ γ : Type} {φ : ρ -> γ -> Prop} {kL : R -> Option ρ} {K : ((Bool × (List (List UInt8)) × (List S_Write) × Int × Bool × (List (List UInt8)) × Bool × Int) ⊕ ((Bool × (List (List UInt8)) × (List S_Write) × Int × Bool × (List (List UInt8)) × Bool × Int × (List (List UInt8)) × Int × Int) ⊕ ((Bool × (List (List UInt8)) × (List S_Write) × Int × Bool × (List (List UInt8)) × Bool × Int × (List (List UInt8)) × Int × Int × (List (List UInt8)) × Int × Int × (List (List UInt8)) × (List S_Write) × Int × Bool) ⊕ ((Bool × (List (List UInt8)) × (List S_Write) × Int × Bool × (List (List UInt8)) × Bool × Int × (List (List UInt8)) × Int × Int × (List (List UInt8)) × Int × Int × (List (List UInt8)) × (List S_Write) × Int × Bool × (List (List UInt8)) × Int × Int) ⊕ ((List (List UInt8)) × (List (List UInt8)) × (List S_Write) × Int × Bool))))) -> Option γ} (kx kg : Nat -> St -> Option R) (kr : St -> Option R) (kp : A -> St -> Option R) (x0 : ∀ (o0 : Bool) (o1 : (List (List UInt8))) (o2 : (List S_Write)) (o3 : Int) (o4 : Bool) (o5 : (List (List UInt8))) (o6 : Bool) (o7 : Int) (s5 : A) (s7 : A) (s38 : A) (s39 : A) (s40 : A), J φ (kr (St.mk [(4, (bA o0)), (5, s5), (7, s7), (38, s38), (39, s39), (40, s40)] [Blk.box [(A.imm (List.map (cL c8) o1) false), (A.imm (List.map c_S_Write o2) false), (iA o3), (bA o4)], Blk.box [(A.imm (List.map (cL c8) o5) false), (bA o6), (uA o7)]])) kL (K (Sum.inl ((o0, o1, o2, o3, o4, o5, o6, o7)))) some) (x1 : ∀ (o0 : Bool) (o1 : (List (List UInt8))) (o2 : (List S_Write)) (o3 : Int) (o4 : Bool) (o5 : (List (List UInt8))) (o6 : Bool) (o7 : Int) (o8 : (List (List UInt8))) (o9 : Int) (o10 : Int) (s5 : A) (s7 : A) (s38 : A) (s39 : A) (s40 : A), J φ (kr (St.mk [(4, (bA o0)), (5, s5), (7, s7), (38, s38), (39, s39), (40, s40)] [Blk.box [(A.imm (List.map (cL c8) o1) false), (A.imm (List.map c_S_Write o2) false), (iA o3), (bA o4)], Blk.box [(A.imm (List.map (cL c8) o5) false), (bA o6), (uA o7)], Blk.box [(A.imm (List.map (cL c8) o8) false), (iA o9), (iA o10)]])) kL (K (Sum.inr ((Sum.inl ((o0, o1, o2, o3, o4, o5, o6, o7, o8, o9, o10)))))) some) (x2 : ∀ (o0 : Bool) (o1 : (List (List UInt8))) (o2 : (List S_Write)) (o3 : Int) (o4 : Bool) (o5 : (List (List UInt8))) (o6 : Bool) (o7 : Int) (o8 : (List (List UInt8))) (o9 : Int) (o10 : Int) (o11 : (List (List UInt8))) (o12 : Int) (o13 : Int) (o14 : (List (List UInt8))) (o15 : (List S_Write)) (o16 : Int) (o17 : Bool) (s5 : A) (s7 : A) (s38 : A) (s39 : A) (s40 : A), J φ (kr (St.mk [(4, (bA o0)), (5, s5), (7, s7), (38, s38), (39, s39), (40, s40)] [Blk.box [(A.imm (List.map (cL c8) o1) false), (A.imm (List.map c_S_Write o2) false), (iA o3), (bA o4)], Blk.box [(A.imm (List.map (cL c8) o5) false), (bA o6), (uA o7)], Blk.box [(A.imm (List.map (cL c8) o8) false), (iA o9), (iA o10)], Blk.box [(A.imm (List.map (cL c8) o11) false), (iA o12), (iA o13)], Blk.box [(A.imm (List.map (cL c8) o14) false), (A.imm (List.map c_S_Write o15) false), (iA o16), (bA o17)]])) kL (K (Sum.inr ((Sum.inr ((Sum.inl ((o0, o1, o2, o3, o4, o5, o6, o7, o8, o9, o10, o11, o12, o13, o14, o15, o16, o17)))))))) some) (x3 : ∀ (o0 : Bool) (o1 : (List (List UInt8))) (o2 : (List S_Write)) (o3 : Int) (o4 : Bool) (o5 : (List (List UInt8))) (o6 : Bool) (o7 : Int) (o8 : (List (List UInt8))) (o9 : Int) (o10 : Int) (o11 : (List (List UInt8))) (o12 : Int) (o13 : Int) (o14 : (List (List UInt8))) (o15 : (List S_Write)) (o16 : Int) (o17 : Bool) (o18 : (List (List UInt8))) (o19 : Int) (o20 : Int) (s5 : A) (s7 : A) (s38 : A) (s39 : A) (s40 : A), J φ (kr (St.mk [(4, (bA o0)), (5, s5), (7, s7), (38, s38), (39, s39), (40, s40)] [Blk.box [(A.imm (List.map (cL c8) o1) false), (A.imm (List.map c_S_Write o2) false), (iA o3), (bA o4)], Blk.box [(A.imm (List.map (cL c8) o5) false), (bA o6), (uA o7)], Blk.box [(A.imm (List.map (cL c8) o8) false), (iA o9), (iA o10)], Blk.box [(A.imm (List.map (cL c8) o11) false), (iA o12), (iA o13)], Blk.box [(A.imm (List.map (cL c8) o14) false), (A.imm (List.map c_S_Write o15) false), (iA o16), (bA o17)], Blk.box [(A.imm (List.map (cL c8) o18) false), (iA o19), (iA o20)]])) kL (K (Sum.inr ((Sum.inr ((Sum.inr ((Sum.inl ((o0, o1, o2, o3, o4, o5, o6, o7, o8, o9, o10, o11, o12, o13, o14, o15, o16, o17, o18, o19, o20)))))))))) some) (x4 : ∀ (o0 : (List (List UInt8))) (o1 : (List (List UInt8))) (o2 : (List S_Write)) (o3 : Int) (o4 : Bool) (s4 : A) (s38 : A) (s39 : A) (s40 : A), J φ (kx 0 (St.mk [(4, s4), (5, (A.ptr 0 0)), (7, (A.imm (List.map (cL c8) o0) false)), (38, s38), (39, s39), (40, s40)] [Blk.box [(A.imm (List.map (cL c8) o1) false), (A.imm (List.map c_S_Write o2) false), (iA o3), (bA o4)]])) kL (K (Sum.inr ((Sum.inr ((Sum.inr ((Sum.inr ((o0, o1, o2, o3, o4)))))))))) some) :
  ∀ (m : Nat) (v7 : (List (List UInt8))) (v10 : Int) (v11 : S_Disk), J φ (loopR (cx C) (ec C n 8) (ey C n 8) (n+8) 9 0 0 1 kx kg kr kp m (St.mk [(4, (bA v6)), (5, (A.ptr 0 0)), (7, (A.imm (List.map (cL c8) v7) false)), (38, (A.imm (List.map c_S_kinespherelaw05_Crash v8) false)), (39, (iA v9)), (40, (iA v10))] [Blk.box (c_S_Disk v11)])) kL (F9_9_0 n v6 v8 v9 m v7 v10 v11) K := by
 intro m
 induction m with
 | zero => intros; exact .nn
 | succ m ih =>
  intro v7 v10 v11
  refine .lp (e9_0 ..) ?_
  unfold F9_9_0
  refine .st (v := (bA (decide (v10 < v9)))) (aBin_lss ..) ?_
  refine .biHN (fun hk12 => ?_) (fun hk12 => ?_)
  ·refine .bd (g := fun (y : S_kinespherelaw05_Crash) => A.ip (c_S_kinespherelaw05_Crash y)) (idx_imm (e := 55) (es := 3) (h1 := by kernel_rfl) (h2 := by kernel_rfl) (h3 := fun _ => rfl) ..) fun y13 => ?_
   refine .s (A.agg (c_S_kinespherelaw05_Crash y13)) (.s ((A.ptr 1 0), [Blk.box (c_S_Disk v11), Blk.box [(A.imm [] true), (bA false), (uA 0)]]) (.s [Blk.box (c_S_Disk v11), Blk.box (c_S_kinespherelaw05_Crash y13)] (.s (A.agg (c_S_Disk v11)) (.s (A.ptr 1 0) (.s (A.imm (List.map (cL c8) y13.Records) false) ?_)))))
   refine .bd (g := fun (y : Bool) => (bA y)) (by show C 11 [snap _ (A.agg (c_S_Disk v11)), snap _ (A.imm (List.map (cL c8) y13.Records) false)] = _; simp only [sn0, snM]; exact h11 v11 y13.Records) fun y14 => ?_
   refine .s (bA (!y14)) ?_
   refine .biHN (fun hk15 => ?_) (fun hk15 => ?_)
   ·exact .ex (x0 _ _ _ _ _ _ _ _ _ _ _ _ _)
   refine .s (A.agg (c_S_Disk v11)) ?_
   refine .bd (g := fun (y : (S_Journal × Int)) => (A.tup [(A.agg [(A.imm (List.map (cL c8) y.1.Records) false), (iA y.1.Many), (iA y.1.Synced)]), (iA y.2)])) (by show C 12 [snap _ (A.agg (c_S_Disk v11))] = _; simp only [sn0, snM]; exact h12 v11) fun y16 => ?_
   refine .s (A.agg (c_S_Journal y16.1)) (.s (iA y16.2) (.s ((A.ptr 2 0), [Blk.box (c_S_Disk v11), Blk.box (c_S_kinespherelaw05_Crash y13), bz3]) (.s [Blk.box (c_S_Disk v11), Blk.box (c_S_kinespherelaw05_Crash y13), Blk.box (c_S_Journal y16.1)] ?_)))
   refine .st (v := (bA (y16.2 != 0))) (aBin_neq ..) ?_
   refine .bg (fun t (y : Bool) => ∃ j19 j20 j21 j22 j23 j24 : A, t = [(bA y), j19, j20, j21, j22, j23, j24]) ?_ ?_
   ·refine .biH (fun hk17 => ?_) (fun hk17 => ?_)
    ·exact .lg ⟨_, _, _, _, _, _, rfl⟩
    refine .s (A.ptr 2 2) (.s (iA y16.1.Synced) (.s (A.ptr 2 0) (.s (A.imm (List.map (cL c8) y16.1.Records) false) ?_)))
    refine .st (v := (iA ((y16.1.Records.length : Int)))) (len_imm (e := 35) (h1 := by kernel_rfl) ..) ?_
    refine .st (v := (bA (y16.1.Synced != ((y16.1.Records.length : Int))))) (aBin_neq ..) ?_
    exact .lg ⟨_, _, _, _, _, _, rfl⟩
   rintro _ y18 ⟨j19, j20, j21, j22, j23, j24, rfl⟩
   iterate 7 refine .uc ?_
   refine .bg (fun t (y : Bool) => ∃ j28 j29 j30 j31 j32 : A, t = [(bA y), j28, j29, j30, j31, j32]) ?_ ?_
   ·refine .biH (fun hk25 => ?_) (fun hk25 => ?_)
    ·exact .lg ⟨_, _, _, _, _, rfl⟩
    refine .s (A.ptr 2 0) (.s (A.imm (List.map (cL c8) y16.1.Records) false) ?_)
    refine .bd (g := fun (y : Bool) => (bA y)) (by show C 24 [snap _ (A.imm (List.map (cL c8) y16.1.Records) false), snap _ (A.imm (List.map (cL c8) v7) false)] = _; simp only [sn0, snM]; exact h24 y16.1.Records v7) fun y26 => ?_
    refine .s (bA (!y26)) ?_
    exact .lg ⟨_, _, _, _, _, rfl⟩
   rintro _ y27 ⟨j28, j29, j30, j31, j32, rfl⟩
   iterate 6 refine .uc ?_
   refine .biHN (fun hk33 => ?_) (fun hk33 => ?_)
   ·exact .ex (x1 _ _ _ _ _ _ _ _ _ _ _ _ _ _ _ _)
   refine .s (A.ptr 1 0) (.s (A.imm (List.map (cL c8) y13.Records) false) ?_)
   refine .st (v := (iA ((y13.Records.length : Int)))) (len_imm (e := 35) (h1 := by kernel_rfl) ..) ?_
   refine .as (T9_9_1 C n h10 h11 h12 h15 h21 h24 h25 h29 h30 v6 v7 v8 v9 v10 y13.Records ((y13.Records.length : Int)) v11 y13 _ _ _ _ ?_ _ 0 y16.1)
   ·intro y50 y51 y52 j53 j54 j55
    refine .un rfl ?_
    refine .cT (by kernel_rfl) ?_
    refine .s (A.ptr 2 0) (.s (A.imm (List.map (cL c8) y50) false) ?_)
    refine .st (v := (iA ((y50.length : Int)))) (len_imm (e := 35) (h1 := by kernel_rfl) ..) ?_
    refine .st (v := (iA ((v7.length : Int)))) (len_imm (e := 35) (h1 := by kernel_rfl) ..) ?_
    refine .st (v := (bA (decide (((y50.length : Int)) < ((v7.length : Int)))))) (aBin_lss ..) ?_
    refine .biHN (fun hk56 => ?_) (fun hk56 => ?_)
    ·exact .ex (x1 _ _ _ _ _ _ _ _ _ _ _ _ _ _ _ _)
    refine .s (A.ptr 1 1) (.s (bA y13.Stop) ?_)
    refine .biHN (fun hk57 => ?_) (fun hk57 => ?_)
    ·refine .s (A.agg (c_S_Disk v11)) (.s (A.ptr 1 2) (.s (uA y13.Left) ?_))
     refine .st (v := (uA (Int.tmod y13.Left 40))) (aBin_rem (hb := by decide) ..) ?_
     refine .st (v := (iA (wr .i64 (Int.tmod y13.Left 40)))) (aConvert_int (hs := by kernel_rfl) (hd := by kernel_rfl) ..) ?_
     refine .bd (g := fun (y : (S_Disk × Int)) => (A.tup [(A.agg [(A.imm (List.map (cL c8) y.1.Sectors) false), (A.imm (List.map c_S_Write y.1.Pending) false), (iA y.1.Left), (bA y.1.Stopped)]), (iA y.2)])) (by show C 29 [snap _ (A.agg (c_S_Disk v11)), snap _ (iA (wr .i64 (Int.tmod y13.Left 40)))] = _; simp only [sn0, snM]; exact h29 v11 (wr .i64 (Int.tmod y13.Left 40))) fun y58 => ?_
     refine .s (A.agg (c_S_Disk y58.1)) (.s (iA y58.2) (.s [Blk.box (c_S_Disk y58.1), Blk.box (c_S_kinespherelaw05_Crash y13), Blk.box [(A.imm (List.map (cL c8) y50) false), (iA y51), (iA y52)]] ?_))
     refine .st (v := (bA (y58.2 != 0))) (aBin_neq ..) ?_
     refine .biHN (fun hk59 => ?_) (fun hk59 => ?_)
     ·exact .ex (x1 _ _ _ _ _ _ _ _ _ _ _ _ _ _ _ _)
     refine .s (A.agg [(A.imm (List.map (cL c8) y50) false), (iA y51), (iA y52)]) (.s (A.agg (c_S_Disk y58.1)) ?_)
     refine .bd (g := fun (y : (S_Journal × S_Disk × Int)) => (A.tup [(A.agg [(A.imm (List.map (cL c8) y.1.Records) false), (iA y.1.Many), (iA y.1.Synced)]), (A.agg [(A.imm (List.map (cL c8) y.2.1.Sectors) false), (A.imm (List.map c_S_Write y.2.1.Pending) false), (iA y.2.1.Left), (bA y.2.1.Stopped)]), (iA y.2.2)])) (by show C 21 [snap _ (A.agg [(A.imm (List.map (cL c8) y50) false), (iA y51), (iA y52)]), snap _ (A.agg (c_S_Disk y58.1))] = _; simp only [sn0, snM]; exact h21 ((S_Journal.mk y50 y51 y52)) y58.1) fun y60 => ?_
     refine .s (A.agg (c_S_Journal y60.1)) (.s (A.agg (c_S_Disk y60.2.1)) (.s (iA y60.2.2) (.s ((A.ptr 3 0), [Blk.box (c_S_Disk y58.1), Blk.box (c_S_kinespherelaw05_Crash y13), Blk.box [(A.imm (List.map (cL c8) y50) false), (iA y51), (iA y52)], bz3]) (.s ((A.ptr 4 0), [Blk.box (c_S_Disk y58.1), Blk.box (c_S_kinespherelaw05_Crash y13), Blk.box [(A.imm (List.map (cL c8) y50) false), (iA y51), (iA y52)], bz3, bz4]) (.s [Blk.box (c_S_Disk y58.1), Blk.box (c_S_kinespherelaw05_Crash y13), Blk.box [(A.imm (List.map (cL c8) y50) false), (iA y51), (iA y52)], Blk.box (c_S_Journal y60.1), bz4] (.s [Blk.box (c_S_Disk y58.1), Blk.box (c_S_kinespherelaw05_Crash y13), Blk.box [(A.imm (List.map (cL c8) y50) false), (iA y51), (iA y52)], Blk.box (c_S_Journal y60.1), Blk.box (c_S_Disk y60.2.1)] ?_))))))
     refine .st (v := (bA (y60.2.2 == 0))) (aBin_eql ..) ?_
     refine .biHN (fun hk61 => ?_) (fun hk61 => ?_)
     ·refine .s (A.ptr 3 2) (.s (iA y60.1.Synced) (.s (A.ptr 2 0) (.s (A.imm (List.map (cL c8) y50) false) ?_)))
      refine .st (v := (iA ((y50.length : Int)))) (len_imm (e := 35) (h1 := by kernel_rfl) ..) ?_
      refine .st (v := (bA (y60.1.Synced != ((y50.length : Int))))) (aBin_neq ..) ?_
      refine .bg (fun t (y : Bool) => ∃ j65 j66 j67 j68 j69 j70 : A, t = [(bA y), j65, j66, j67, j68, j69, j70]) ?_ ?_
      ·refine .biH (fun hk62 => ?_) (fun hk62 => ?_)
       ·exact .lg ⟨_, _, _, _, _, _, rfl⟩
       refine .s (A.ptr 3 0) (.s (A.imm (List.map (cL c8) y60.1.Records) false) (.s (A.ptr 2 0) (.s (A.imm (List.map (cL c8) y50) false) ?_)))
       refine .bd (g := fun (y : Bool) => (bA y)) (by show C 24 [snap _ (A.imm (List.map (cL c8) y60.1.Records) false), snap _ (A.imm (List.map (cL c8) y50) false)] = _; simp only [sn0, snM]; exact h24 y60.1.Records y50) fun y63 => ?_
       refine .s (bA (!y63)) ?_
       exact .lg ⟨_, _, _, _, _, _, rfl⟩
      rintro _ y64 ⟨j65, j66, j67, j68, j69, j70, rfl⟩
      iterate 7 refine .uc ?_
      refine .biHN (fun hk71 => ?_) (fun hk71 => ?_)
      ·exact .ex (x2 _ _ _ _ _ _ _ _ _ _ _ _ _ _ _ _ _ _ _ _ _ _ _)
      refine .s (A.ptr 2 0) (.s (A.imm (List.map (cL c8) y50) false) (.s (A.agg (c_S_Disk y60.2.1)) ?_))
      refine .bd (g := fun (y : S_Disk) => (A.agg [(A.imm (List.map (cL c8) y.Sectors) false), (A.imm (List.map c_S_Write y.Pending) false), (iA y.Left), (bA y.Stopped)])) (by show C 30 [snap _ (A.agg (c_S_Disk y60.2.1))] = _; simp only [sn0, snM]; exact h30 y60.2.1) fun y72 => ?_
      refine .s [Blk.box (c_S_Disk y72), Blk.box (c_S_kinespherelaw05_Crash y13), Blk.box [(A.imm (List.map (cL c8) y50) false), (iA y51), (iA y52)], Blk.box (c_S_Journal y60.1), Blk.box (c_S_Disk y60.2.1)] ?_
      refine .st (v := (iA (wr .i64 (v10 + 1)))) (aBin_add ..) ?_
      refine .st (v := [Blk.box (c_S_Disk y72)]) ((by kernel_rfl : _ = (bif ((((underss 1 (List.map (cL c8) y72.Sectors)) && ((underss 1 (List.map c_S_Write y72.Pending)) && true))) && true) then some [Blk.box (c_S_Disk y72)] else none)).trans (by simp only [un0, unS])) ?_
      refine .cT ((by kernel_rfl : _ = (bif underss 1 (List.map (cL c8) y50) then (bif underss 1 (List.map c_S_kinespherelaw05_Crash v8) then true else false) else false)).trans (by simp only [un0, unS])) ?_
      exact ih _ _ _
     refine .st (v := (bA (y60.2.2 == 40))) (aBin_eql ..) ?_
     refine .biHN (fun hk73 => ?_) (fun hk73 => ?_)
     ·refine .s (A.agg (c_S_Disk y60.2.1)) ?_
      refine .bd (g := fun (y : S_Disk) => (A.agg [(A.imm (List.map (cL c8) y.Sectors) false), (A.imm (List.map c_S_Write y.Pending) false), (iA y.Left), (bA y.Stopped)])) (by show C 30 [snap _ (A.agg (c_S_Disk y60.2.1))] = _; simp only [sn0, snM]; exact h30 y60.2.1) fun y74 => ?_
      refine .bd (g := fun (y : (S_Journal × Int)) => (A.tup [(A.agg [(A.imm (List.map (cL c8) y.1.Records) false), (iA y.1.Many), (iA y.1.Synced)]), (iA y.2)])) (by show C 12 [snap _ (A.agg (c_S_Disk y74))] = _; simp only [sn0, snM]; exact h12 y74) fun y75 => ?_
      refine .s (A.agg (c_S_Journal y75.1)) (.s (iA y75.2) (.s ((A.ptr 5 0), [Blk.box (c_S_Disk y58.1), Blk.box (c_S_kinespherelaw05_Crash y13), Blk.box [(A.imm (List.map (cL c8) y50) false), (iA y51), (iA y52)], Blk.box (c_S_Journal y60.1), Blk.box (c_S_Disk y60.2.1), bz3]) (.s [Blk.box (c_S_Disk y58.1), Blk.box (c_S_kinespherelaw05_Crash y13), Blk.box [(A.imm (List.map (cL c8) y50) false), (iA y51), (iA y52)], Blk.box (c_S_Journal y60.1), Blk.box (c_S_Disk y60.2.1), Blk.box (c_S_Journal y75.1)] (.s (A.ptr 1 1) (.s (bA y13.Stop) (.s (bA (!y13.Stop)) ?_))))))
      refine .bg (fun t (y : Bool) => ∃ j78 j79 : A, t = [(bA y), j78, j79]) ?_ ?_
      ·refine .biH (fun hk76 => ?_) (fun hk76 => ?_)
       ·exact .lg ⟨_, _, rfl⟩
       refine .st (v := (bA (y75.2 != 0))) (aBin_neq ..) ?_
       exact .lg ⟨_, _, rfl⟩
      rintro _ y77 ⟨j78, j79, rfl⟩
      iterate 3 refine .uc ?_
      refine .bg (fun t (y : Bool) => ∃ j82 j83 j84 j85 j86 j87 : A, t = [(bA y), j82, j83, j84, j85, j86, j87]) ?_ ?_
      ·refine .biH (fun hk80 => ?_) (fun hk80 => ?_)
       ·exact .lg ⟨_, _, _, _, _, _, rfl⟩
       refine .s (A.ptr 5 0) (.s (A.imm (List.map (cL c8) y75.1.Records) false) ?_)
       refine .st (v := (iA ((y75.1.Records.length : Int)))) (len_imm (e := 35) (h1 := by kernel_rfl) ..) ?_
       refine .st (v := (iA ((v7.length : Int)))) (len_imm (e := 35) (h1 := by kernel_rfl) ..) ?_
       refine .st (v := (bA (decide (((y75.1.Records.length : Int)) < ((v7.length : Int)))))) (aBin_lss ..) ?_
       exact .lg ⟨_, _, _, _, _, _, rfl⟩
      rintro _ y81 ⟨j82, j83, j84, j85, j86, j87, rfl⟩
      iterate 7 refine .uc ?_
      refine .bg (fun t (y : Bool) => ∃ j90 j91 j92 j93 j94 j95 j96 : A, t = [(bA y), j90, j91, j92, j93, j94, j95, j96]) ?_ ?_
      ·refine .biH (fun hk88 => ?_) (fun hk88 => ?_)
       ·exact .lg ⟨_, _, _, _, _, _, _, rfl⟩
       refine .s (A.ptr 5 0) (.s (A.imm (List.map (cL c8) y75.1.Records) false) ?_)
       refine .st (v := (iA ((y75.1.Records.length : Int)))) (len_imm (e := 35) (h1 := by kernel_rfl) ..) ?_
       refine .s (A.ptr 2 0) (.s (A.imm (List.map (cL c8) y50) false) ?_)
       refine .st (v := (iA ((y50.length : Int)))) (len_imm (e := 35) (h1 := by kernel_rfl) ..) ?_
       refine .st (v := (bA (decide (((y50.length : Int)) < ((y75.1.Records.length : Int)))))) (aBin_gtr ..) ?_
       exact .lg ⟨_, _, _, _, _, _, _, rfl⟩
      rintro _ y89 ⟨j90, j91, j92, j93, j94, j95, j96, rfl⟩
      iterate 8 refine .uc ?_
      refine .gsf (fun hc97 => ?_) (fun hc97 => ?_)
      ·refine .bb ?_
       refine .s (A.ptr 5 0) (.s (A.imm (List.map (cL c8) y75.1.Records) false) (.s (A.ptr 2 0) (.s (A.imm (List.map (cL c8) y50) false) (.s (A.ptr 5 0) (.s (A.imm (List.map (cL c8) y75.1.Records) false) ?_)))))
       refine .st (v := (iA ((y75.1.Records.length : Int)))) (len_imm (e := 35) (h1 := by kernel_rfl) ..) ?_
       refine .bd (g := fun (y : List (List UInt8)) => (A.imm (List.map (cL c8) y) false)) (cut_imm (e := 35) (es := 1) (f := (cL c8)) (l := y50) (a := 0) (b := (y75.1.Records.length : Int)) (by kernel_rfl) (by kernel_rfl) (fun _ => rfl) (.inl ⟨rfl, rfl⟩) (.inr ⟨_, rfl⟩)) fun y98 => ?_
       refine .cr ?_
       iterate 8 refine .uc ?_
       refine .bg (fun t (y : Bool) => ∃ j101 j102 : A, t = [(bA y), j101, j102]) ?_ ?_
       ·refine .bKF hc97 ?_
        refine .bd (g := fun (y : Bool) => (bA y)) (by show C 24 [snap _ (A.imm (List.map (cL c8) y75.1.Records) false), snap _ (A.imm (List.map (cL c8) y98) false)] = _; simp only [sn0, snM]; exact h24 y75.1.Records y98) fun y99 => ?_
        refine .s (bA (!y99)) ?_
        exact .lg ⟨_, _, rfl⟩
       rintro _ y100 ⟨j101, j102, rfl⟩
       iterate 3 refine .uc ?_
       refine .biHN (fun hk103 => ?_) (fun hk103 => ?_)
       ·exact .ex (x3 _ _ _ _ _ _ _ _ _ _ _ _ _ _ _ _ _ _ _ _ _ _ _ _ _ _)
       refine .s (A.ptr 5 0) (.s (A.imm (List.map (cL c8) y75.1.Records) false) (.s (A.agg (c_S_Disk y60.2.1)) ?_))
       refine .bd (g := fun (y : S_Disk) => (A.agg [(A.imm (List.map (cL c8) y.Sectors) false), (A.imm (List.map c_S_Write y.Pending) false), (iA y.Left), (bA y.Stopped)])) (by show C 30 [snap _ (A.agg (c_S_Disk y60.2.1))] = _; simp only [sn0, snM]; exact h30 y60.2.1) fun y104 => ?_
       refine .s [Blk.box (c_S_Disk y104), Blk.box (c_S_kinespherelaw05_Crash y13), Blk.box [(A.imm (List.map (cL c8) y50) false), (iA y51), (iA y52)], Blk.box (c_S_Journal y60.1), Blk.box (c_S_Disk y60.2.1), Blk.box (c_S_Journal y75.1)] ?_
       refine .st (v := (iA (wr .i64 (v10 + 1)))) (aBin_add ..) ?_
       refine .st (v := [Blk.box (c_S_Disk y104)]) ((by kernel_rfl : _ = (bif ((((underss 1 (List.map (cL c8) y104.Sectors)) && ((underss 1 (List.map c_S_Write y104.Pending)) && true))) && true) then some [Blk.box (c_S_Disk y104)] else none)).trans (by simp only [un0, unS])) ?_
       refine .cT ((by kernel_rfl : _ = (bif underss 1 (List.map (cL c8) y75.1.Records) then (bif underss 1 (List.map c_S_kinespherelaw05_Crash v8) then true else false) else false)).trans (by simp only [un0, unS])) ?_
       exact ih _ _ _
      refine .bb ?_
      refine .cr ?_
      iterate 8 refine .uc ?_
      refine .bg (fun t (y : Bool) => ∃ j106 j107 : A, t = [(bA y), j106, j107]) ?_ ?_
      ·refine .bKT hc97 ?_
       exact .lg ⟨_, _, rfl⟩
      rintro _ y105 ⟨j106, j107, rfl⟩
      iterate 3 refine .uc ?_
      refine .biHN (fun hk108 => ?_) (fun hk108 => ?_)
      ·exact .ex (x3 _ _ _ _ _ _ _ _ _ _ _ _ _ _ _ _ _ _ _ _ _ _ _ _ _ _)
      refine .s (A.ptr 5 0) (.s (A.imm (List.map (cL c8) y75.1.Records) false) (.s (A.agg (c_S_Disk y60.2.1)) ?_))
      refine .bd (g := fun (y : S_Disk) => (A.agg [(A.imm (List.map (cL c8) y.Sectors) false), (A.imm (List.map c_S_Write y.Pending) false), (iA y.Left), (bA y.Stopped)])) (by show C 30 [snap _ (A.agg (c_S_Disk y60.2.1))] = _; simp only [sn0, snM]; exact h30 y60.2.1) fun y109 => ?_
      refine .s [Blk.box (c_S_Disk y109), Blk.box (c_S_kinespherelaw05_Crash y13), Blk.box [(A.imm (List.map (cL c8) y50) false), (iA y51), (iA y52)], Blk.box (c_S_Journal y60.1), Blk.box (c_S_Disk y60.2.1), Blk.box (c_S_Journal y75.1)] ?_
      refine .st (v := (iA (wr .i64 (v10 + 1)))) (aBin_add ..) ?_
      refine .st (v := [Blk.box (c_S_Disk y109)]) ((by kernel_rfl : _ = (bif ((((underss 1 (List.map (cL c8) y109.Sectors)) && ((underss 1 (List.map c_S_Write y109.Pending)) && true))) && true) then some [Blk.box (c_S_Disk y109)] else none)).trans (by simp only [un0, unS])) ?_
      refine .cT ((by kernel_rfl : _ = (bif underss 1 (List.map (cL c8) y75.1.Records) then (bif underss 1 (List.map c_S_kinespherelaw05_Crash v8) then true else false) else false)).trans (by simp only [un0, unS])) ?_
      exact ih _ _ _
     exact .ex (x2 _ _ _ _ _ _ _ _ _ _ _ _ _ _ _ _ _ _ _ _ _ _ _)
    refine .s (A.agg [(A.imm (List.map (cL c8) y50) false), (iA y51), (iA y52)]) (.s (A.agg (c_S_Disk v11)) ?_)
    refine .bd (g := fun (y : (S_Journal × S_Disk × Int)) => (A.tup [(A.agg [(A.imm (List.map (cL c8) y.1.Records) false), (iA y.1.Many), (iA y.1.Synced)]), (A.agg [(A.imm (List.map (cL c8) y.2.1.Sectors) false), (A.imm (List.map c_S_Write y.2.1.Pending) false), (iA y.2.1.Left), (bA y.2.1.Stopped)]), (iA y.2.2)])) (by show C 21 [snap _ (A.agg [(A.imm (List.map (cL c8) y50) false), (iA y51), (iA y52)]), snap _ (A.agg (c_S_Disk v11))] = _; simp only [sn0, snM]; exact h21 ((S_Journal.mk y50 y51 y52)) v11) fun y110 => ?_
    refine .s (A.agg (c_S_Journal y110.1)) (.s (A.agg (c_S_Disk y110.2.1)) (.s (iA y110.2.2) (.s ((A.ptr 3 0), [Blk.box (c_S_Disk v11), Blk.box (c_S_kinespherelaw05_Crash y13), Blk.box [(A.imm (List.map (cL c8) y50) false), (iA y51), (iA y52)], bz3]) (.s ((A.ptr 4 0), [Blk.box (c_S_Disk v11), Blk.box (c_S_kinespherelaw05_Crash y13), Blk.box [(A.imm (List.map (cL c8) y50) false), (iA y51), (iA y52)], bz3, bz4]) (.s [Blk.box (c_S_Disk v11), Blk.box (c_S_kinespherelaw05_Crash y13), Blk.box [(A.imm (List.map (cL c8) y50) false), (iA y51), (iA y52)], Blk.box (c_S_Journal y110.1), bz4] (.s [Blk.box (c_S_Disk v11), Blk.box (c_S_kinespherelaw05_Crash y13), Blk.box [(A.imm (List.map (cL c8) y50) false), (iA y51), (iA y52)], Blk.box (c_S_Journal y110.1), Blk.box (c_S_Disk y110.2.1)] ?_))))))
    refine .st (v := (bA (y110.2.2 == 0))) (aBin_eql ..) ?_
    refine .biHN (fun hk111 => ?_) (fun hk111 => ?_)
    ·refine .s (A.ptr 3 2) (.s (iA y110.1.Synced) (.s (A.ptr 2 0) (.s (A.imm (List.map (cL c8) y50) false) ?_)))
     refine .st (v := (iA ((y50.length : Int)))) (len_imm (e := 35) (h1 := by kernel_rfl) ..) ?_
     refine .st (v := (bA (y110.1.Synced != ((y50.length : Int))))) (aBin_neq ..) ?_
     refine .bg (fun t (y : Bool) => ∃ j115 j116 j117 j118 j119 j120 : A, t = [(bA y), j115, j116, j117, j118, j119, j120]) ?_ ?_
     ·refine .biH (fun hk112 => ?_) (fun hk112 => ?_)
      ·exact .lg ⟨_, _, _, _, _, _, rfl⟩
      refine .s (A.ptr 3 0) (.s (A.imm (List.map (cL c8) y110.1.Records) false) (.s (A.ptr 2 0) (.s (A.imm (List.map (cL c8) y50) false) ?_)))
      refine .bd (g := fun (y : Bool) => (bA y)) (by show C 24 [snap _ (A.imm (List.map (cL c8) y110.1.Records) false), snap _ (A.imm (List.map (cL c8) y50) false)] = _; simp only [sn0, snM]; exact h24 y110.1.Records y50) fun y113 => ?_
      refine .s (bA (!y113)) ?_
      exact .lg ⟨_, _, _, _, _, _, rfl⟩
     rintro _ y114 ⟨j115, j116, j117, j118, j119, j120, rfl⟩
     iterate 7 refine .uc ?_
     refine .biHN (fun hk121 => ?_) (fun hk121 => ?_)
     ·exact .ex (x2 _ _ _ _ _ _ _ _ _ _ _ _ _ _ _ _ _ _ _ _ _ _ _)
     refine .s (A.ptr 2 0) (.s (A.imm (List.map (cL c8) y50) false) (.s (A.agg (c_S_Disk y110.2.1)) ?_))
     refine .bd (g := fun (y : S_Disk) => (A.agg [(A.imm (List.map (cL c8) y.Sectors) false), (A.imm (List.map c_S_Write y.Pending) false), (iA y.Left), (bA y.Stopped)])) (by show C 30 [snap _ (A.agg (c_S_Disk y110.2.1))] = _; simp only [sn0, snM]; exact h30 y110.2.1) fun y122 => ?_
     refine .s [Blk.box (c_S_Disk y122), Blk.box (c_S_kinespherelaw05_Crash y13), Blk.box [(A.imm (List.map (cL c8) y50) false), (iA y51), (iA y52)], Blk.box (c_S_Journal y110.1), Blk.box (c_S_Disk y110.2.1)] ?_
     refine .st (v := (iA (wr .i64 (v10 + 1)))) (aBin_add ..) ?_
     refine .st (v := [Blk.box (c_S_Disk y122)]) ((by kernel_rfl : _ = (bif ((((underss 1 (List.map (cL c8) y122.Sectors)) && ((underss 1 (List.map c_S_Write y122.Pending)) && true))) && true) then some [Blk.box (c_S_Disk y122)] else none)).trans (by simp only [un0, unS])) ?_
     refine .cT ((by kernel_rfl : _ = (bif underss 1 (List.map (cL c8) y50) then (bif underss 1 (List.map c_S_kinespherelaw05_Crash v8) then true else false) else false)).trans (by simp only [un0, unS])) ?_
     exact ih _ _ _
    refine .st (v := (bA (y110.2.2 == 40))) (aBin_eql ..) ?_
    refine .biHN (fun hk123 => ?_) (fun hk123 => ?_)
    ·refine .s (A.agg (c_S_Disk y110.2.1)) ?_
     refine .bd (g := fun (y : S_Disk) => (A.agg [(A.imm (List.map (cL c8) y.Sectors) false), (A.imm (List.map c_S_Write y.Pending) false), (iA y.Left), (bA y.Stopped)])) (by show C 30 [snap _ (A.agg (c_S_Disk y110.2.1))] = _; simp only [sn0, snM]; exact h30 y110.2.1) fun y124 => ?_
     refine .bd (g := fun (y : (S_Journal × Int)) => (A.tup [(A.agg [(A.imm (List.map (cL c8) y.1.Records) false), (iA y.1.Many), (iA y.1.Synced)]), (iA y.2)])) (by show C 12 [snap _ (A.agg (c_S_Disk y124))] = _; simp only [sn0, snM]; exact h12 y124) fun y125 => ?_
     refine .s (A.agg (c_S_Journal y125.1)) (.s (iA y125.2) (.s ((A.ptr 5 0), [Blk.box (c_S_Disk v11), Blk.box (c_S_kinespherelaw05_Crash y13), Blk.box [(A.imm (List.map (cL c8) y50) false), (iA y51), (iA y52)], Blk.box (c_S_Journal y110.1), Blk.box (c_S_Disk y110.2.1), bz3]) (.s [Blk.box (c_S_Disk v11), Blk.box (c_S_kinespherelaw05_Crash y13), Blk.box [(A.imm (List.map (cL c8) y50) false), (iA y51), (iA y52)], Blk.box (c_S_Journal y110.1), Blk.box (c_S_Disk y110.2.1), Blk.box (c_S_Journal y125.1)] (.s (A.ptr 1 1) (.s (bA y13.Stop) (.s (bA (!y13.Stop)) ?_))))))
     refine .bg (fun t (y : Bool) => ∃ j128 j129 : A, t = [(bA y), j128, j129]) ?_ ?_
     ·refine .biH (fun hk126 => ?_) (fun hk126 => ?_)
      ·exact .lg ⟨_, _, rfl⟩
      refine .st (v := (bA (y125.2 != 0))) (aBin_neq ..) ?_
      exact .lg ⟨_, _, rfl⟩
     rintro _ y127 ⟨j128, j129, rfl⟩
     iterate 3 refine .uc ?_
     refine .bg (fun t (y : Bool) => ∃ j132 j133 j134 j135 j136 j137 : A, t = [(bA y), j132, j133, j134, j135, j136, j137]) ?_ ?_
     ·refine .biH (fun hk130 => ?_) (fun hk130 => ?_)
      ·exact .lg ⟨_, _, _, _, _, _, rfl⟩
      refine .s (A.ptr 5 0) (.s (A.imm (List.map (cL c8) y125.1.Records) false) ?_)
      refine .st (v := (iA ((y125.1.Records.length : Int)))) (len_imm (e := 35) (h1 := by kernel_rfl) ..) ?_
      refine .st (v := (iA ((v7.length : Int)))) (len_imm (e := 35) (h1 := by kernel_rfl) ..) ?_
      refine .st (v := (bA (decide (((y125.1.Records.length : Int)) < ((v7.length : Int)))))) (aBin_lss ..) ?_
      exact .lg ⟨_, _, _, _, _, _, rfl⟩
     rintro _ y131 ⟨j132, j133, j134, j135, j136, j137, rfl⟩
     iterate 7 refine .uc ?_
     refine .bg (fun t (y : Bool) => ∃ j140 j141 j142 j143 j144 j145 j146 : A, t = [(bA y), j140, j141, j142, j143, j144, j145, j146]) ?_ ?_
     ·refine .biH (fun hk138 => ?_) (fun hk138 => ?_)
      ·exact .lg ⟨_, _, _, _, _, _, _, rfl⟩
      refine .s (A.ptr 5 0) (.s (A.imm (List.map (cL c8) y125.1.Records) false) ?_)
      refine .st (v := (iA ((y125.1.Records.length : Int)))) (len_imm (e := 35) (h1 := by kernel_rfl) ..) ?_
      refine .s (A.ptr 2 0) (.s (A.imm (List.map (cL c8) y50) false) ?_)
      refine .st (v := (iA ((y50.length : Int)))) (len_imm (e := 35) (h1 := by kernel_rfl) ..) ?_
      refine .st (v := (bA (decide (((y50.length : Int)) < ((y125.1.Records.length : Int)))))) (aBin_gtr ..) ?_
      exact .lg ⟨_, _, _, _, _, _, _, rfl⟩
     rintro _ y139 ⟨j140, j141, j142, j143, j144, j145, j146, rfl⟩
     iterate 8 refine .uc ?_
     refine .gsf (fun hc147 => ?_) (fun hc147 => ?_)
     ·refine .bb ?_
      refine .s (A.ptr 5 0) (.s (A.imm (List.map (cL c8) y125.1.Records) false) (.s (A.ptr 2 0) (.s (A.imm (List.map (cL c8) y50) false) (.s (A.ptr 5 0) (.s (A.imm (List.map (cL c8) y125.1.Records) false) ?_)))))
      refine .st (v := (iA ((y125.1.Records.length : Int)))) (len_imm (e := 35) (h1 := by kernel_rfl) ..) ?_
      refine .bd (g := fun (y : List (List UInt8)) => (A.imm (List.map (cL c8) y) false)) (cut_imm (e := 35) (es := 1) (f := (cL c8)) (l := y50) (a := 0) (b := (y125.1.Records.length : Int)) (by kernel_rfl) (by kernel_rfl) (fun _ => rfl) (.inl ⟨rfl, rfl⟩) (.inr ⟨_, rfl⟩)) fun y148 => ?_
      refine .cr ?_
      iterate 8 refine .uc ?_
      refine .bg (fun t (y : Bool) => ∃ j151 j152 : A, t = [(bA y), j151, j152]) ?_ ?_
      ·refine .bKF hc147 ?_
       refine .bd (g := fun (y : Bool) => (bA y)) (by show C 24 [snap _ (A.imm (List.map (cL c8) y125.1.Records) false), snap _ (A.imm (List.map (cL c8) y148) false)] = _; simp only [sn0, snM]; exact h24 y125.1.Records y148) fun y149 => ?_
       refine .s (bA (!y149)) ?_
       exact .lg ⟨_, _, rfl⟩
      rintro _ y150 ⟨j151, j152, rfl⟩
      iterate 3 refine .uc ?_
      refine .biHN (fun hk153 => ?_) (fun hk153 => ?_)
      ·exact .ex (x3 _ _ _ _ _ _ _ _ _ _ _ _ _ _ _ _ _ _ _ _ _ _ _ _ _ _)
      refine .s (A.ptr 5 0) (.s (A.imm (List.map (cL c8) y125.1.Records) false) (.s (A.agg (c_S_Disk y110.2.1)) ?_))
      refine .bd (g := fun (y : S_Disk) => (A.agg [(A.imm (List.map (cL c8) y.Sectors) false), (A.imm (List.map c_S_Write y.Pending) false), (iA y.Left), (bA y.Stopped)])) (by show C 30 [snap _ (A.agg (c_S_Disk y110.2.1))] = _; simp only [sn0, snM]; exact h30 y110.2.1) fun y154 => ?_
      refine .s [Blk.box (c_S_Disk y154), Blk.box (c_S_kinespherelaw05_Crash y13), Blk.box [(A.imm (List.map (cL c8) y50) false), (iA y51), (iA y52)], Blk.box (c_S_Journal y110.1), Blk.box (c_S_Disk y110.2.1), Blk.box (c_S_Journal y125.1)] ?_
      refine .st (v := (iA (wr .i64 (v10 + 1)))) (aBin_add ..) ?_
      refine .st (v := [Blk.box (c_S_Disk y154)]) ((by kernel_rfl : _ = (bif ((((underss 1 (List.map (cL c8) y154.Sectors)) && ((underss 1 (List.map c_S_Write y154.Pending)) && true))) && true) then some [Blk.box (c_S_Disk y154)] else none)).trans (by simp only [un0, unS])) ?_
      refine .cT ((by kernel_rfl : _ = (bif underss 1 (List.map (cL c8) y125.1.Records) then (bif underss 1 (List.map c_S_kinespherelaw05_Crash v8) then true else false) else false)).trans (by simp only [un0, unS])) ?_
      exact ih _ _ _
     refine .bb ?_
     refine .cr ?_
     iterate 8 refine .uc ?_
     refine .bg (fun t (y : Bool) => ∃ j156 j157 : A, t = [(bA y), j156, j157]) ?_ ?_
     ·refine .bKT hc147 ?_
      exact .lg ⟨_, _, rfl⟩
     rintro _ y155 ⟨j156, j157, rfl⟩
     iterate 3 refine .uc ?_
     refine .biHN (fun hk158 => ?_) (fun hk158 => ?_)
     ·exact .ex (x3 _ _ _ _ _ _ _ _ _ _ _ _ _ _ _ _ _ _ _ _ _ _ _ _ _ _)
     refine .s (A.ptr 5 0) (.s (A.imm (List.map (cL c8) y125.1.Records) false) (.s (A.agg (c_S_Disk y110.2.1)) ?_))
     refine .bd (g := fun (y : S_Disk) => (A.agg [(A.imm (List.map (cL c8) y.Sectors) false), (A.imm (List.map c_S_Write y.Pending) false), (iA y.Left), (bA y.Stopped)])) (by show C 30 [snap _ (A.agg (c_S_Disk y110.2.1))] = _; simp only [sn0, snM]; exact h30 y110.2.1) fun y159 => ?_
     refine .s [Blk.box (c_S_Disk y159), Blk.box (c_S_kinespherelaw05_Crash y13), Blk.box [(A.imm (List.map (cL c8) y50) false), (iA y51), (iA y52)], Blk.box (c_S_Journal y110.1), Blk.box (c_S_Disk y110.2.1), Blk.box (c_S_Journal y125.1)] ?_
     refine .st (v := (iA (wr .i64 (v10 + 1)))) (aBin_add ..) ?_
     refine .st (v := [Blk.box (c_S_Disk y159)]) ((by kernel_rfl : _ = (bif ((((underss 1 (List.map (cL c8) y159.Sectors)) && ((underss 1 (List.map c_S_Write y159.Pending)) && true))) && true) then some [Blk.box (c_S_Disk y159)] else none)).trans (by simp only [un0, unS])) ?_
     refine .cT ((by kernel_rfl : _ = (bif underss 1 (List.map (cL c8) y125.1.Records) then (bif underss 1 (List.map c_S_kinespherelaw05_Crash v8) then true else false) else false)).trans (by simp only [un0, unS])) ?_
     exact ih _ _ _
    exact .ex (x2 _ _ _ _ _ _ _ _ _ _ _ _ _ _ _ _ _ _ _ _ _ _ _)
  exact .ex (x4 _ _ _ _ _ _ _ _ _)
def F9 (n : Nat) (a0 : Int) (a1 : (List S_kinespherelaw05_Crash)) : Option Bool :=
 (G10 ).bind fun y1 => bif (!y1) then (some false) else (bif (decide (8 < ((a1.length : Int)))) then (some true) else ((G25 (wr .i64 ((wr .i64 (Int.tmod a0 30)) + 1))).bind fun y4 => bif (y4.2 != 0) then (some false) else ((F9_9_0 n false a1 ((a1.length : Int)) (n+8) ([]) 0 y4.1).bind fun o160 => match o160 with | (Sum.inl ((y161, y162, y163, y164, y165, y166, y167, y168))) => some y161 | (Sum.inr ((Sum.inl ((y174, y175, y176, y177, y178, y179, y180, y181, y182, y183, y184))))) => some y174 | (Sum.inr ((Sum.inr ((Sum.inl ((y190, y191, y192, y193, y194, y195, y196, y197, y198, y199, y200, y201, y202, y203, y204, y205, y206, y207))))))) => some y190 | (Sum.inr ((Sum.inr ((Sum.inr ((Sum.inl ((y213, y214, y215, y216, y217, y218, y219, y220, y221, y222, y223, y224, y225, y226, y227, y228, y229, y230, y231, y232, y233))))))))) => some y213 | (Sum.inr ((Sum.inr ((Sum.inr ((Sum.inr ((y239, y240, y241, y242, y243))))))))) => (G12 ((S_Disk.mk y240 y241 y242 y243))).bind fun y248 => (bif (y248.2 == 0) then ((G24 y248.1.Records y239).bind fun y250 => some y250) else (some false)).bind fun y251 => some y251)))
theorem T9 (C : Nat -> List A -> Option A) (n : Nat) (h10 : Orc10 C) (h11 : Orc11 C) (h12 : Orc12 C) (h15 : Orc15 C) (h21 : Orc21 C) (h24 : Orc24 C) (h25 : Orc25 C) (h29 : Orc29 C) (h30 : Orc30 C) (a0 : Int) (a1 : (List S_kinespherelaw05_Crash)) : J (fun (o : R) y => ∃ v, o.1 = .ret v /\ snapE o.2 v = (bA y)) (evCall1 (cx C) (ec C n 8) (ey C n 8) (n+8) 9 [(uA a0), (A.imm (List.map c_S_kinespherelaw05_Crash a1) false)] [] 0) some (F9 n a0 a1) some := by
 refine .lp (e9 ..) ?_
 unfold F9
 refine .bd (g := fun (y : Bool) => (bA y)) (h10 ()) fun y1 => ?_
 refine .s (bA (!y1)) ?_
 refine .biHN (fun hk2 => ?_) (fun hk2 => ?_)
 ·exact .lf rfl rfl ⟨_, rfl, rfl⟩
 refine .st (v := (iA ((a1.length : Int)))) (len_imm (e := 55) (h1 := by kernel_rfl) ..) ?_
 refine .st (v := (bA (decide (8 < ((a1.length : Int)))))) (aBin_gtr ..) ?_
 refine .biHN (fun hk3 => ?_) (fun hk3 => ?_)
 ·exact .lf rfl rfl ⟨_, rfl, rfl⟩
 refine .st (v := (uA (Int.tmod a0 30))) (aBin_rem (hb := by decide) ..) ?_
 refine .st (v := (iA (wr .i64 (Int.tmod a0 30)))) (aConvert_int (hs := by kernel_rfl) (hd := by kernel_rfl) ..) ?_
 refine .st (v := (iA (wr .i64 ((wr .i64 (Int.tmod a0 30)) + 1)))) (aBin_add ..) ?_
 refine .bd (g := fun (y : (S_Disk × Int)) => (A.tup [(A.agg [(A.imm (List.map (cL c8) y.1.Sectors) false), (A.imm (List.map c_S_Write y.1.Pending) false), (iA y.1.Left), (bA y.1.Stopped)]), (iA y.2)])) (h25 (wr .i64 ((wr .i64 (Int.tmod a0 30)) + 1))) fun y4 => ?_
 refine .s (A.agg (c_S_Disk y4.1)) (.s (iA y4.2) (.s ((A.ptr 0 0), [bz4]) (.s [Blk.box (c_S_Disk y4.1)] ?_)))
 refine .st (v := (bA (y4.2 != 0))) (aBin_neq ..) ?_
 refine .biHN (fun hk5 => ?_) (fun hk5 => ?_)
 ·exact .lf rfl rfl ⟨_, rfl, rfl⟩
 refine .st (v := (iA ((a1.length : Int)))) (len_imm (e := 55) (h1 := by kernel_rfl) ..) ?_
 refine .as (T9_9_0 C n h10 h11 h12 h15 h21 h24 h25 h29 h30 false a1 ((a1.length : Int)) _ _ _ _ ?_ ?_ ?_ ?_ ?_ _ ([]) 0 y4.1)
 ·intro y161 y162 y163 y164 y165 y166 y167 y168 j169 j170 j171 j172 j173
  refine .un rfl ?_
  exact .lf rfl rfl ⟨_, rfl, rfl⟩
 ·intro y174 y175 y176 y177 y178 y179 y180 y181 y182 y183 y184 j185 j186 j187 j188 j189
  refine .un rfl ?_
  exact .lf rfl rfl ⟨_, rfl, rfl⟩
 ·intro y190 y191 y192 y193 y194 y195 y196 y197 y198 y199 y200 y201 y202 y203 y204 y205 y206 y207 j208 j209 j210 j211 j212
  refine .un rfl ?_
  exact .lf rfl rfl ⟨_, rfl, rfl⟩
 ·intro y213 y214 y215 y216 y217 y218 y219 y220 y221 y222 y223 y224 y225 y226 y227 y228 y229 y230 y231 y232 y233 j234 j235 j236 j237 j238
  refine .un rfl ?_
  exact .lf rfl rfl ⟨_, rfl, rfl⟩
 ·intro y239 y240 y241 y242 y243 j244 j245 j246 j247
  refine .un rfl ?_
  refine .cT (by kernel_rfl) ?_
  refine .s (A.agg [(A.imm (List.map (cL c8) y240) false), (A.imm (List.map c_S_Write y241) false), (iA y242), (bA y243)]) ?_
  refine .bd (g := fun (y : (S_Journal × Int)) => (A.tup [(A.agg [(A.imm (List.map (cL c8) y.1.Records) false), (iA y.1.Many), (iA y.1.Synced)]), (iA y.2)])) (by show C 12 [snap _ (A.agg [(A.imm (List.map (cL c8) y240) false), (A.imm (List.map c_S_Write y241) false), (iA y242), (bA y243)])] = _; simp only [sn0, snM]; exact h12 ((S_Disk.mk y240 y241 y242 y243))) fun y248 => ?_
  refine .s (A.agg (c_S_Journal y248.1)) (.s (iA y248.2) (.s ((A.ptr 1 0), [Blk.box [(A.imm (List.map (cL c8) y240) false), (A.imm (List.map c_S_Write y241) false), (iA y242), (bA y243)], bz3]) (.s [Blk.box [(A.imm (List.map (cL c8) y240) false), (A.imm (List.map c_S_Write y241) false), (iA y242), (bA y243)], Blk.box (c_S_Journal y248.1)] ?_)))
  refine .st (v := (bA (y248.2 == 0))) (aBin_eql ..) ?_
  refine .bg (fun t (y : Bool) => ∃ j252 j253 j254 j255 : A, t = [(bA y), j252, j253, j254, j255]) ?_ ?_
  ·refine .biH (fun hk249 => ?_) (fun hk249 => ?_)
   ·refine .s (A.ptr 1 0) (.s (A.imm (List.map (cL c8) y248.1.Records) false) ?_)
    refine .bd (g := fun (y : Bool) => (bA y)) (by show C 24 [snap _ (A.imm (List.map (cL c8) y248.1.Records) false), snap _ (A.imm (List.map (cL c8) y239) false)] = _; simp only [sn0, snM]; exact h24 y248.1.Records y239) fun y250 => ?_
    exact .lg ⟨_, _, _, _, rfl⟩
   exact .lg ⟨_, _, _, _, rfl⟩
  rintro _ y251 ⟨j252, j253, j254, j255, rfl⟩
  iterate 5 refine .uc ?_
  exact .lf rfl rfl ⟨_, rfl, rfl⟩
def G9 (a0 : Int) (a1 : (List S_kinespherelaw05_Crash)) : Option Bool := F9 fuel0 a0 a1
end Go.Proofs.Ytobjniabioaefaa
