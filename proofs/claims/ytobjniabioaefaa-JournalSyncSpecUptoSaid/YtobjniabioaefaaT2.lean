/-
 The program's functions as plain functions: by a tool; each follows the interpreter.
-/
import Derived.Test.YtobjniabioaefaaT1
import Derived.KernelRfl
namespace Go.Proofs.Ytobjniabioaefaa
open Go.Proofs.Try (prog)
set_option linter.unusedVariables false
set_option linter.unusedSimpArgs false
set_option maxHeartbeats 4000000
set_option maxRecDepth 100000
def hk21_2 (a0 : S_Journal) : Blk := Blk.box [(A.imm (List.map (cL c8) a0.Records) false), (iA a0.Many), (iA ((a0.Records.length : Int)))]
def F21_21_0 (n : Nat) (v13 : Int) (v15 : (List (List UInt8))) (v16 : Int) (v18 : S_Journal) (v19 : S_Disk) (v20 : (List (List UInt8))) (v21 : Int) (v22 : Int) (v23 : (List (List UInt8))) (v24 : (List S_Write)) (v25 : Int) (v26 : Bool) (v27 : S_Journal) : Nat -> Int -> Int -> Option (Int)
 | 0, _, _ => none
 | m + 1, v14, v17 => bif (decide (v17 < v16)) then ((getI v15 v17).bind fun y29 => (subI y29 0 4).bind fun y30 => (G41 y30).bind fun y31 => (subI y29 124 ((y29.length : Int))).bind fun y32 => (G41 y32).bind fun y33 => F21_21_0 n v13 v15 v16 v18 v19 v20 v21 v22 v23 v24 v25 v26 v27 m ((if (if v14 < wr .u64 (y31 + 1) then wr .u64 (y31 + 1) else v14) < wr .u64 (y33 + 1) then wr .u64 (y33 + 1) else (if v14 < wr .u64 (y31 + 1) then wr .u64 (y31 + 1) else v14))) (wr .i64 (v17 + 1))) else (some v14)
theorem T21_21_0 (C : Nat -> List A -> Option A) (n : Nat) (h12 : Orc12 C) (h17 : Orc17 C) (h26 : Orc26 C) (h27 : Orc27 C) (h31 : Orc31 C) (h35 : Orc35 C) (h36 : Orc36 C) (h41 : Orc41 C) (h42_43 : Orc42_43 C) (h44 : Orc44 C) (v13 : Int) (v15 : (List (List UInt8))) (v16 : Int) (v18 : S_Journal) (v19 : S_Disk) (v20 : (List (List UInt8))) (v21 : Int) (v22 : Int) (v23 : (List (List UInt8))) (v24 : (List S_Write)) (v25 : Int) (v26 : Bool) (v27 : S_Journal) {ρ γ : Type} {φ : ρ -> γ -> Prop} {kL : R -> Option ρ} {K : (Int) -> Option γ} (kx kg : Nat -> St -> Option R) (kr : St -> Option R) (kp : A -> St -> Option R) (x0 : ∀ (o0 : Int) (s57 : A) (s58 : A) (s59 : A), J φ (kx 0 (St.mk [(2, (A.ptr 0 0)), (3, (A.ptr 1 0)), (4, (A.ptr 2 0)), (5, (A.ptr 3 0)), (6, (iA v13)), (9, (A.ptr 4 0)), (10, (A.v (.int .u64 o0))), (57, s57), (58, s58), (59, s59)] [Blk.box (c_S_Journal v18), Blk.box (c_S_Disk v19), Blk.box [(A.imm (List.map (cL c8) v20) true), (iA v21), (iA v22)], Blk.box [(A.imm (List.map (cL c8) v23) true), (A.imm (List.map c_S_Write v24) true), (iA v25), (bA v26)], Blk.box (c_S_Journal v27)])) kL (K o0) some) :
  ∀ (m : Nat) (v14 : Int) (v17 : Int), J φ (loopR (cx C) (ec C n 8) (ey C n 8) (n+8) 21 0 0 5 kx kg kr kp m (St.mk [(2, (A.ptr 0 0)), (3, (A.ptr 1 0)), (4, (A.ptr 2 0)), (5, (A.ptr 3 0)), (6, (iA v13)), (9, (A.ptr 4 0)), (10, (A.v (.int .u64 v14))), (57, (A.imm (List.map (cL c8) v15) false)), (58, (iA v16)), (59, (iA v17))] [Blk.box (c_S_Journal v18), Blk.box (c_S_Disk v19), Blk.box [(A.imm (List.map (cL c8) v20) true), (iA v21), (iA v22)], Blk.box [(A.imm (List.map (cL c8) v23) true), (A.imm (List.map c_S_Write v24) true), (iA v25), (bA v26)], Blk.box (c_S_Journal v27)])) kL (F21_21_0 n v13 v15 v16 v18 v19 v20 v21 v22 v23 v24 v25 v26 v27 m v14 v17) K := by
 intro m
 induction m with
 | zero => intros; exact .nn
 | succ m ih =>
  intro v14 v17
  refine .lp (e21_0 ..) ?_
  unfold F21_21_0
  refine .st (v := (bA (decide (v17 < v16)))) (aBin_lss ..) ?_
  refine .biHN (fun hk28 => ?_) (fun hk28 => ?_)
  ·refine .bd (g := fun (y : (List UInt8)) => A.ip ((cL c8) y)) (idx_imm (e := 35) (es := 1) (h1 := by kernel_rfl) (h2 := by kernel_rfl) (h3 := fun _ => rfl) ..) fun y29 => ?_
   refine .s (A.imm (List.map c8 y29) false) ?_
   refine .bd (g := fun (y : List UInt8) => (A.imm (List.map c8 y) false)) (cut_imm (e := 5) (es := 1) (f := c8) (l := y29) (a := 0) (b := 4) (by kernel_rfl) (by kernel_rfl) (fun _ => rfl) (.inl ⟨rfl, rfl⟩) (.inr ⟨_, rfl⟩)) fun y30 => ?_
   refine .bd (g := fun (y : Int) => (A.v (.int .u64 y))) (by show C 41 [snap _ (A.imm (List.map c8 y30) false)] = _; simp only [sn0, snM]; exact h41 y30) fun y31 => ?_
   refine .st (v := (A.v (.int .u64 (wr .u64 (y31 + 1))))) (aBin_add ..) ?_
   refine .bd (g := fun (y : List UInt8) => (A.imm (List.map c8 y) false)) (cut_imm (e := 5) (es := 1) (f := c8) (l := y29) (a := 124) (b := (y29.length : Int)) (by kernel_rfl) (by kernel_rfl) (fun _ => rfl) (.inr ⟨_, rfl⟩) (.inl ⟨rfl, rfl⟩)) fun y32 => ?_
   refine .bd (g := fun (y : Int) => (A.v (.int .u64 y))) (by show C 41 [snap _ (A.imm (List.map c8 y32) false)] = _; simp only [sn0, snM]; exact h41 y32) fun y33 => ?_
   refine .st (v := (A.v (.int .u64 (wr .u64 (y33 + 1))))) (aBin_add ..) ?_
   refine .s (A.v (.int .u64 ((if (if v14 < wr .u64 (y31 + 1) then wr .u64 (y31 + 1) else v14) < wr .u64 (y33 + 1) then wr .u64 (y33 + 1) else (if v14 < wr .u64 (y31 + 1) then wr .u64 (y31 + 1) else v14))))) ?_
   refine .st (v := (iA (wr .i64 (v17 + 1)))) (aBin_add ..) ?_
   refine .s [Blk.box (c_S_Journal v18), Blk.box (c_S_Disk v19), Blk.box [(A.imm (List.map (cL c8) v20) true), (iA v21), (iA v22)], Blk.box [(A.imm (List.map (cL c8) v23) true), (A.imm (List.map c_S_Write v24) true), (iA v25), (bA v26)], Blk.box (c_S_Journal v27)] ?_
   refine .cT (by kernel_rfl) ?_
   exact ih _ _
  exact .ex (x0 _ _ _ _)
def F21_21_2 (n : Nat) (v71 : Int) (v76 : (List (List UInt8))) (v77 : Int) (v78 : Int) (v79 : S_Journal) (v81 : (List (List UInt8))) (v82 : Int) (v83 : Int) (v84 : (List (List UInt8))) (v85 : (List S_Write)) (v86 : Int) (v87 : Bool) (v88 : S_Journal) : Nat -> Int -> Int -> (List UInt8) -> Int -> Int -> S_Disk -> Option ((Int × Int × (List (List UInt8)) × (List S_Write) × Int × Bool × Int × Int × Int × Bool) ⊕ (Int × Int × (List (List UInt8)) × (List S_Write) × Int × Bool))
 | 0, _, _, _, _, _, _ => none
 | m + 1, v70, v72, v73, v74, v75, v80 => bif (decide (0 < v75)) then (bif (v75 == 1) then ((subI v73 0 ((if 112 < (v73.length : Int) then 112 else (v73.length : Int)))).bind fun y91 => (G44 v71 v72 (orI .u8 v74 2) y91).bind fun y92 => (G26 v80 v72 y92).bind fun y93 => bif (y93.2 != 0) then (some ((Sum.inl ((y93.2, v72, y93.1.Sectors, y93.1.Pending, y93.1.Left, y93.1.Stopped, 0, 0, 0, false))))) else ((subI v73 ((if 112 < (v73.length : Int) then 112 else (v73.length : Int))) ((v73.length : Int))).bind fun y95 => F21_21_2 n v71 v76 v77 v78 v79 v81 v82 v83 v84 v85 v86 v87 v88 m y93.2 (wr .i64 (v72 + 1)) y95 0 (wr .i64 (v75 - 1)) y93.1)) else ((subI v73 0 ((if 112 < (v73.length : Int) then 112 else (v73.length : Int)))).bind fun y96 => (G44 v71 v72 v74 y96).bind fun y97 => (G26 v80 v72 y97).bind fun y98 => bif (y98.2 != 0) then (some ((Sum.inl ((y98.2, v72, y98.1.Sectors, y98.1.Pending, y98.1.Left, y98.1.Stopped, 0, 0, 0, false))))) else ((subI v73 ((if 112 < (v73.length : Int) then 112 else (v73.length : Int))) ((v73.length : Int))).bind fun y100 => F21_21_2 n v71 v76 v77 v78 v79 v81 v82 v83 v84 v85 v86 v87 v88 m y98.2 (wr .i64 (v72 + 1)) y100 0 (wr .i64 (v75 - 1)) y98.1))) else (some ((Sum.inr ((v70, v72, v80.Sectors, v80.Pending, v80.Left, v80.Stopped)))))
theorem T21_21_2 (C : Nat -> List A -> Option A) (n : Nat) (h12 : Orc12 C) (h17 : Orc17 C) (h26 : Orc26 C) (h27 : Orc27 C) (h31 : Orc31 C) (h35 : Orc35 C) (h36 : Orc36 C) (h41 : Orc41 C) (h42_43 : Orc42_43 C) (h44 : Orc44 C) (v71 : Int) (v76 : (List (List UInt8))) (v77 : Int) (v78 : Int) (v79 : S_Journal) (v81 : (List (List UInt8))) (v82 : Int) (v83 : Int) (v84 : (List (List UInt8))) (v85 : (List S_Write)) (v86 : Int) (v87 : Bool) (v88 : S_Journal) {ρ γ : Type} {φ : ρ -> γ -> Prop} {kL : R -> Option ρ} {K : ((Int × Int × (List (List UInt8)) × (List S_Write) × Int × Bool × Int × Int × Int × Bool) ⊕ (Int × Int × (List (List UInt8)) × (List S_Write) × Int × Bool)) -> Option γ} (kx kg : Nat -> St -> Option R) (kr : St -> Option R) (kp : A -> St -> Option R) (x0 : ∀ (o0 : Int) (o1 : Int) (o2 : (List (List UInt8))) (o3 : (List S_Write)) (o4 : Int) (o5 : Bool) (o6 : Int) (o7 : Int) (o8 : Int) (o9 : Bool) (s15 : A) (s16 : A) (s17 : A), J φ (kr (St.mk [(2, (A.ptr 0 0)), (3, (A.ptr 1 0)), (4, (A.ptr 2 0)), (5, (A.ptr 3 0)), (6, (iA o0)), (10, (A.v (.int .u64 v71))), (13, (iA o1)), (15, s15), (16, s16), (17, s17), (108, (A.imm (List.map (cL c8) v76) false)), (109, (iA v77)), (110, (iA v78))] [Blk.box (c_S_Journal v79), Blk.box [(A.imm (List.map (cL c8) o2) false), (A.imm (List.map c_S_Write o3) false), (iA o4), (bA o5)], Blk.box [(A.imm [] true), (iA o6), (iA o7)], Blk.box [(A.imm [] true), (A.imm [] true), (iA o8), (bA o9)], Blk.box (c_S_Journal v88)])) kL (K (Sum.inl ((o0, o1, o2, o3, o4, o5, o6, o7, o8, o9)))) some) (x1 : ∀ (o0 : Int) (o1 : Int) (o2 : (List (List UInt8))) (o3 : (List S_Write)) (o4 : Int) (o5 : Bool) (s15 : A) (s16 : A) (s17 : A), J φ (kx 4 (St.mk [(2, (A.ptr 0 0)), (3, (A.ptr 1 0)), (4, (A.ptr 2 0)), (5, (A.ptr 3 0)), (6, (iA o0)), (10, (A.v (.int .u64 v71))), (13, (iA o1)), (15, s15), (16, s16), (17, s17), (108, (A.imm (List.map (cL c8) v76) false)), (109, (iA v77)), (110, (iA v78))] [Blk.box (c_S_Journal v79), Blk.box [(A.imm (List.map (cL c8) o2) false), (A.imm (List.map c_S_Write o3) false), (iA o4), (bA o5)], Blk.box [(A.imm (List.map (cL c8) v81) true), (iA v82), (iA v83)], (hk27_1 v84 v85 v86 v87), Blk.box (c_S_Journal v88)])) kL (K (Sum.inr ((o0, o1, o2, o3, o4, o5)))) some) :
  ∀ (m : Nat) (v70 : Int) (v72 : Int) (v73 : (List UInt8)) (v74 : Int) (v75 : Int) (v80 : S_Disk), J φ (loopR (cx C) (ec C n 8) (ey C n 8) (n+8) 21 0 2 5 kx kg kr kp m (St.mk [(2, (A.ptr 0 0)), (3, (A.ptr 1 0)), (4, (A.ptr 2 0)), (5, (A.ptr 3 0)), (6, (iA v70)), (10, (A.v (.int .u64 v71))), (13, (iA v72)), (15, (A.imm (List.map c8 v73) false)), (16, (uA v74)), (17, (iA v75)), (108, (A.imm (List.map (cL c8) v76) false)), (109, (iA v77)), (110, (iA v78))] [Blk.box (c_S_Journal v79), Blk.box (c_S_Disk v80), Blk.box [(A.imm (List.map (cL c8) v81) true), (iA v82), (iA v83)], (hk27_1 v84 v85 v86 v87), Blk.box (c_S_Journal v88)])) kL (F21_21_2 n v71 v76 v77 v78 v79 v81 v82 v83 v84 v85 v86 v87 v88 m v70 v72 v73 v74 v75 v80) K := by
 intro m
 induction m with
 | zero => intros; exact .nn
 | succ m ih =>
  intro v70 v72 v73 v74 v75 v80
  refine .lp (e21_2 ..) ?_
  unfold F21_21_2
  refine .st (v := (bA (decide (0 < v75)))) (aBin_gtr ..) ?_
  refine .biHN (fun hk89 => ?_) (fun hk89 => ?_)
  ·refine .st (v := (bA (v75 == 1))) (aBin_eql ..) ?_
   refine .biHN (fun hk90 => ?_) (fun hk90 => ?_)
   ·refine .st (v := (uA (orI .u8 v74 2))) (aBin_bits_or ..) ?_
    refine .st (v := (iA ((v73.length : Int)))) (len_imm (e := 5) (h1 := by kernel_rfl) ..) ?_
    refine .s (iA ((if 112 < (v73.length : Int) then 112 else (v73.length : Int)))) (.s (A.agg (c_S_Disk v80)) ?_)
    refine .bd (g := fun (y : List UInt8) => (A.imm (List.map c8 y) false)) (cut_imm (e := 5) (es := 1) (f := c8) (l := v73) (a := 0) (b := (if 112 < (v73.length : Int) then 112 else (v73.length : Int))) (by kernel_rfl) (by kernel_rfl) (fun _ => rfl) (.inl ⟨rfl, rfl⟩) (.inr ⟨_, rfl⟩)) fun y91 => ?_
    refine .bd (g := fun (y : (List UInt8)) => (A.imm (List.map c8 y) false)) (by show C 44 [snap _ (A.v (.int .u64 v71)), snap _ (iA v72), snap _ (uA (orI .u8 v74 2)), snap _ (A.imm (List.map c8 y91) false)] = _; simp only [sn0, snM]; exact h44 v71 v72 (orI .u8 v74 2) y91) fun y92 => ?_
    refine .bd (g := fun (y : (S_Disk × Int)) => (A.tup [(A.agg [(A.imm (List.map (cL c8) y.1.Sectors) false), (A.imm (List.map c_S_Write y.1.Pending) false), (iA y.1.Left), (bA y.1.Stopped)]), (iA y.2)])) (by show C 26 [snap _ (A.agg (c_S_Disk v80)), snap _ (iA v72), snap _ (A.imm (List.map c8 y92) false)] = _; simp only [sn0, snM]; exact h26 v80 v72 y92) fun y93 => ?_
    refine .s (A.agg (c_S_Disk y93.1)) (.s (iA y93.2) (.s [Blk.box (c_S_Journal v79), Blk.box (c_S_Disk y93.1), Blk.box [(A.imm (List.map (cL c8) v81) true), (iA v82), (iA v83)], (hk27_1 v84 v85 v86 v87), Blk.box (c_S_Journal v88)] ?_))
    refine .st (v := (bA (y93.2 != 0))) (aBin_neq ..) ?_
    refine .biHN (fun hk94 => ?_) (fun hk94 => ?_)
    ·refine .s (A.agg [(A.imm [] true), (iA 0), (iA 0)]) (.s (A.agg [(A.imm [] true), (A.imm [] true), (iA 0), (bA false)]) (.s [Blk.box (c_S_Journal v79), Blk.box (c_S_Disk y93.1), bz3, (hk27_1 v84 v85 v86 v87), Blk.box (c_S_Journal v88)] (.s [Blk.box (c_S_Journal v79), Blk.box (c_S_Disk y93.1), bz3, bz4, Blk.box (c_S_Journal v88)] ?_)))
     exact .ex (x0 _ _ _ _ _ _ _ _ _ _ _ _ _)
    refine .bd (g := fun (y : List UInt8) => (A.imm (List.map c8 y) false)) (cut_imm (e := 5) (es := 1) (f := c8) (l := v73) (a := (if 112 < (v73.length : Int) then 112 else (v73.length : Int))) (b := (v73.length : Int)) (by kernel_rfl) (by kernel_rfl) (fun _ => rfl) (.inr ⟨_, rfl⟩) (.inl ⟨rfl, rfl⟩)) fun y95 => ?_
    refine .st (v := (iA (wr .i64 (v72 + 1)))) (aBin_add ..) ?_
    refine .st (v := (iA (wr .i64 (v75 - 1)))) (aBin_sub ..) ?_
    refine .s [Blk.box (c_S_Journal v79), Blk.box (c_S_Disk y93.1), Blk.box [(A.imm (List.map (cL c8) v81) true), (iA v82), (iA v83)], (hk27_1 v84 v85 v86 v87), Blk.box (c_S_Journal v88)] ?_
    refine .cT (by kernel_rfl) ?_
    exact ih _ _ _ _ _ _
   refine .st (v := (iA ((v73.length : Int)))) (len_imm (e := 5) (h1 := by kernel_rfl) ..) ?_
   refine .s (iA ((if 112 < (v73.length : Int) then 112 else (v73.length : Int)))) (.s (A.agg (c_S_Disk v80)) ?_)
   refine .bd (g := fun (y : List UInt8) => (A.imm (List.map c8 y) false)) (cut_imm (e := 5) (es := 1) (f := c8) (l := v73) (a := 0) (b := (if 112 < (v73.length : Int) then 112 else (v73.length : Int))) (by kernel_rfl) (by kernel_rfl) (fun _ => rfl) (.inl ⟨rfl, rfl⟩) (.inr ⟨_, rfl⟩)) fun y96 => ?_
   refine .bd (g := fun (y : (List UInt8)) => (A.imm (List.map c8 y) false)) (by show C 44 [snap _ (A.v (.int .u64 v71)), snap _ (iA v72), snap _ (uA v74), snap _ (A.imm (List.map c8 y96) false)] = _; simp only [sn0, snM]; exact h44 v71 v72 v74 y96) fun y97 => ?_
   refine .bd (g := fun (y : (S_Disk × Int)) => (A.tup [(A.agg [(A.imm (List.map (cL c8) y.1.Sectors) false), (A.imm (List.map c_S_Write y.1.Pending) false), (iA y.1.Left), (bA y.1.Stopped)]), (iA y.2)])) (by show C 26 [snap _ (A.agg (c_S_Disk v80)), snap _ (iA v72), snap _ (A.imm (List.map c8 y97) false)] = _; simp only [sn0, snM]; exact h26 v80 v72 y97) fun y98 => ?_
   refine .s (A.agg (c_S_Disk y98.1)) (.s (iA y98.2) (.s [Blk.box (c_S_Journal v79), Blk.box (c_S_Disk y98.1), Blk.box [(A.imm (List.map (cL c8) v81) true), (iA v82), (iA v83)], (hk27_1 v84 v85 v86 v87), Blk.box (c_S_Journal v88)] ?_))
   refine .st (v := (bA (y98.2 != 0))) (aBin_neq ..) ?_
   refine .biHN (fun hk99 => ?_) (fun hk99 => ?_)
   ·refine .s (A.agg [(A.imm [] true), (iA 0), (iA 0)]) (.s (A.agg [(A.imm [] true), (A.imm [] true), (iA 0), (bA false)]) (.s [Blk.box (c_S_Journal v79), Blk.box (c_S_Disk y98.1), bz3, (hk27_1 v84 v85 v86 v87), Blk.box (c_S_Journal v88)] (.s [Blk.box (c_S_Journal v79), Blk.box (c_S_Disk y98.1), bz3, bz4, Blk.box (c_S_Journal v88)] ?_)))
    exact .ex (x0 _ _ _ _ _ _ _ _ _ _ _ _ _)
   refine .bd (g := fun (y : List UInt8) => (A.imm (List.map c8 y) false)) (cut_imm (e := 5) (es := 1) (f := c8) (l := v73) (a := (if 112 < (v73.length : Int) then 112 else (v73.length : Int))) (b := (v73.length : Int)) (by kernel_rfl) (by kernel_rfl) (fun _ => rfl) (.inr ⟨_, rfl⟩) (.inl ⟨rfl, rfl⟩)) fun y100 => ?_
   refine .st (v := (iA (wr .i64 (v72 + 1)))) (aBin_add ..) ?_
   refine .st (v := (iA (wr .i64 (v75 - 1)))) (aBin_sub ..) ?_
   refine .s [Blk.box (c_S_Journal v79), Blk.box (c_S_Disk y98.1), Blk.box [(A.imm (List.map (cL c8) v81) true), (iA v82), (iA v83)], (hk27_1 v84 v85 v86 v87), Blk.box (c_S_Journal v88)] ?_
   refine .cT (by kernel_rfl) ?_
   exact ih _ _ _ _ _ _
  exact .ex (x1 _ _ _ _ _ _ _ _ _)
def F21_21_1 (n : Nat) (v52 : Int) (v54 : (List (List UInt8))) (v55 : Int) (v57 : S_Journal) (v59 : (List (List UInt8))) (v60 : Int) (v61 : Int) (v62 : (List (List UInt8))) (v63 : (List S_Write)) (v64 : Int) (v65 : Bool) (v66 : S_Journal) : Nat -> Int -> Int -> Int -> S_Disk -> Option ((Int × (List (List UInt8)) × (List S_Write) × Int × Bool × Int × Int × Int × Bool) ⊕ ((List (List UInt8)) × (List S_Write) × Int × Bool))
 | 0, _, _, _, _ => none
 | m + 1, v51, v53, v56, v58 => bif (decide (v56 < v55)) then ((getI v54 v56).bind fun y68 => (G35 y68).bind fun y69 => (F21_21_2 n v52 v54 v55 v56 v57 v59 v60 v61 v62 v63 v64 v65 v66 (n+8) v51 v53 y68 1 y69 v58).bind fun o101 => match o101 with | (Sum.inl ((y102, y103, y104, y105, y106, y107, y108, y109, y110, y111))) => some ((Sum.inl ((y102, y104, y105, y106, y107, y108, y109, y110, y111)))) | (Sum.inr ((y115, y116, y117, y118, y119, y120))) => F21_21_1 n v52 v54 v55 v57 v59 v60 v61 v62 v63 v64 v65 v66 m y115 y116 (wr .i64 (v56 + 1)) ((S_Disk.mk y117 y118 y119 y120))) else (some ((Sum.inr ((v58.Sectors, v58.Pending, v58.Left, v58.Stopped)))))
theorem T21_21_1 (C : Nat -> List A -> Option A) (n : Nat) (h12 : Orc12 C) (h17 : Orc17 C) (h26 : Orc26 C) (h27 : Orc27 C) (h31 : Orc31 C) (h35 : Orc35 C) (h36 : Orc36 C) (h41 : Orc41 C) (h42_43 : Orc42_43 C) (h44 : Orc44 C) (v52 : Int) (v54 : (List (List UInt8))) (v55 : Int) (v57 : S_Journal) (v59 : (List (List UInt8))) (v60 : Int) (v61 : Int) (v62 : (List (List UInt8))) (v63 : (List S_Write)) (v64 : Int) (v65 : Bool) (v66 : S_Journal) {ρ γ : Type} {φ : ρ -> γ -> Prop} {kL : R -> Option ρ} {K : ((Int × (List (List UInt8)) × (List S_Write) × Int × Bool × Int × Int × Int × Bool) ⊕ ((List (List UInt8)) × (List S_Write) × Int × Bool)) -> Option γ} (kx kg : Nat -> St -> Option R) (kr : St -> Option R) (kp : A -> St -> Option R) (x0 : ∀ (o0 : Int) (o1 : (List (List UInt8))) (o2 : (List S_Write)) (o3 : Int) (o4 : Bool) (o5 : Int) (o6 : Int) (o7 : Int) (o8 : Bool) (s2 : A) (s3 : A) (s10 : A) (s13 : A) (s108 : A) (s109 : A) (s110 : A), J φ (kr (St.mk [(2, s2), (3, s3), (4, (A.ptr 2 0)), (5, (A.ptr 3 0)), (6, (iA o0)), (10, s10), (13, s13), (108, s108), (109, s109), (110, s110)] [Blk.box (c_S_Journal v57), Blk.box [(A.imm (List.map (cL c8) o1) false), (A.imm (List.map c_S_Write o2) false), (iA o3), (bA o4)], Blk.box [(A.imm [] true), (iA o5), (iA o6)], Blk.box [(A.imm [] true), (A.imm [] true), (iA o7), (bA o8)], Blk.box (c_S_Journal v66)])) kL (K (Sum.inl ((o0, o1, o2, o3, o4, o5, o6, o7, o8)))) some) (x1 : ∀ (o0 : (List (List UInt8))) (o1 : (List S_Write)) (o2 : Int) (o3 : Bool) (s6 : A) (s10 : A) (s13 : A) (s108 : A) (s109 : A) (s110 : A), J φ (kx 2 (St.mk [(2, (A.ptr 0 0)), (3, (A.ptr 1 0)), (4, (A.ptr 2 0)), (5, (A.ptr 3 0)), (6, s6), (10, s10), (13, s13), (108, s108), (109, s109), (110, s110)] [Blk.box (c_S_Journal v57), Blk.box [(A.imm (List.map (cL c8) o0) false), (A.imm (List.map c_S_Write o1) false), (iA o2), (bA o3)], Blk.box [(A.imm (List.map (cL c8) v59) true), (iA v60), (iA v61)], Blk.box [(A.imm (List.map (cL c8) v62) true), (A.imm (List.map c_S_Write v63) true), (iA v64), (bA v65)], Blk.box (c_S_Journal v66)])) kL (K (Sum.inr ((o0, o1, o2, o3)))) some) :
  ∀ (m : Nat) (v51 : Int) (v53 : Int) (v56 : Int) (v58 : S_Disk), J φ (loopR (cx C) (ec C n 8) (ey C n 8) (n+8) 21 0 1 5 kx kg kr kp m (St.mk [(2, (A.ptr 0 0)), (3, (A.ptr 1 0)), (4, (A.ptr 2 0)), (5, (A.ptr 3 0)), (6, (iA v51)), (10, (A.v (.int .u64 v52))), (13, (iA v53)), (108, (A.imm (List.map (cL c8) v54) false)), (109, (iA v55)), (110, (iA v56))] [Blk.box (c_S_Journal v57), Blk.box (c_S_Disk v58), Blk.box [(A.imm (List.map (cL c8) v59) true), (iA v60), (iA v61)], Blk.box [(A.imm (List.map (cL c8) v62) true), (A.imm (List.map c_S_Write v63) true), (iA v64), (bA v65)], Blk.box (c_S_Journal v66)])) kL (F21_21_1 n v52 v54 v55 v57 v59 v60 v61 v62 v63 v64 v65 v66 m v51 v53 v56 v58) K := by
 intro m
 induction m with
 | zero => intros; exact .nn
 | succ m ih =>
  intro v51 v53 v56 v58
  refine .lp (e21_1 ..) ?_
  unfold F21_21_1
  refine .st (v := (bA (decide (v56 < v55)))) (aBin_lss ..) ?_
  refine .biHN (fun hk67 => ?_) (fun hk67 => ?_)
  ·refine .bd (g := fun (y : (List UInt8)) => A.ip ((cL c8) y)) (idx_imm (e := 35) (es := 1) (h1 := by kernel_rfl) (h2 := by kernel_rfl) (h3 := fun _ => rfl) ..) fun y68 => ?_
   refine .s (A.imm (List.map c8 y68) false) ?_
   refine .bd (g := fun (y : Int) => (iA y)) (by show C 35 [snap _ (A.imm (List.map c8 y68) false)] = _; simp only [sn0, snM]; exact h35 y68) fun y69 => ?_
   refine .as (T21_21_2 C n h12 h17 h26 h27 h31 h35 h36 h41 h42_43 h44 v52 v54 v55 v56 v57 v59 v60 v61 v62 v63 v64 v65 v66 _ _ _ _ ?_ ?_ _ v51 v53 y68 1 y69 v58)
   ·intro y102 y103 y104 y105 y106 y107 y108 y109 y110 y111 j112 j113 j114
    refine .un rfl ?_
    exact .ex (x0 _ _ _ _ _ _ _ _ _ _ _ _ _ _ _ _)
   ·intro y115 y116 y117 y118 y119 y120 j121 j122 j123
    refine .un rfl ?_
    refine .cT (by kernel_rfl) ?_
    refine .st (v := (iA (wr .i64 (v56 + 1)))) (aBin_add ..) ?_
    refine .s [Blk.box (c_S_Journal v57), Blk.box [(A.imm (List.map (cL c8) y117) false), (A.imm (List.map c_S_Write y118) false), (iA y119), (bA y120)], Blk.box [(A.imm (List.map (cL c8) v59) true), (iA v60), (iA v61)], Blk.box [(A.imm (List.map (cL c8) v62) true), (A.imm (List.map c_S_Write v63) true), (iA v64), (bA v65)], Blk.box (c_S_Journal v66)] ?_
    refine .cT (by kernel_rfl) ?_
    exact ih _ _ _ _
  exact .ex (x1 _ _ _ _ _ _ _ _ _ _)
def F21 (n : Nat) (a0 : S_Journal) (a1 : S_Disk) : Option (S_Journal × S_Disk × Int) :=
 (G17 a0).bind fun y1 => bif (y1 != 0) then (some (((S_Journal.mk ([]) 0 0), (S_Disk.mk ([]) ([]) 0 false), y1))) else ((G31 a1).bind fun y3 => bif (y3 != 0) then (some (((S_Journal.mk ([]) 0 0), (S_Disk.mk ([]) ([]) 0 false), y3))) else ((bif (a0.Many != ((a1.Sectors.length : Int))) then (some (!a1.Stopped)) else (some false)).bind fun y6 => bif y6 then (some (((S_Journal.mk ([]) 0 0), (S_Disk.mk ([]) ([]) 0 false), 1))) else ((G12 a1).bind fun y11 => bif (y11.2 != 0) then (some (((S_Journal.mk ([]) 0 0), (S_Disk.mk ([]) ([]) 0 false), y11.2))) else ((F21_21_0 n y11.2 a1.Sectors ((a1.Sectors.length : Int)) a0 a1 ([]) 0 0 ([]) ([]) 0 false y11.1 (n+8) 1 0).bind fun o34 => match o34 with | y35 => (subI a0.Records 0 a0.Synced).bind fun y39 => (G42_43 y11.1.Records y39).bind fun y40 => (bif (!y40) then (some true) else (some ((shrI .u64 y35 32) != 0))).bind fun y42 => bif y42 then (some (((S_Journal.mk ([]) 0 0), (S_Disk.mk ([]) ([]) 0 false), 50))) else (bif (a0.Synced == ((a0.Records.length : Int))) then (some ((a0, a1, 0))) else ((subI a0.Records 0 a0.Synced).bind fun y48 => (G36 y48).bind fun y49 => (subI a0.Records a0.Synced ((a0.Records.length : Int))).bind fun y50 => (F21_21_1 n y35 y50 ((y50.length : Int)) a0 ([]) 0 0 ([]) ([]) 0 false y11.1 (n+8) y11.2 y49 0 a1).bind fun o124 => match o124 with | (Sum.inl ((y125, y126, y127, y128, y129, y130, y131, y132, y133))) => some (((S_Journal.mk ([]) y130 y131), (S_Disk.mk ([]) ([]) y132 y133), y125)) | (Sum.inr ((y141, y142, y143, y144))) => (G27 ((S_Disk.mk y141 y142 y143 y144))).bind fun y151 => bif (y151.2 != 0) then (some (((S_Journal.mk ([]) 0 0), y151.1, y151.2))) else (some (((S_Journal.mk a0.Records a0.Many ((a0.Records.length : Int))), y151.1, 0)))))))))
theorem T21 (C : Nat -> List A -> Option A) (n : Nat) (h12 : Orc12 C) (h17 : Orc17 C) (h26 : Orc26 C) (h27 : Orc27 C) (h31 : Orc31 C) (h35 : Orc35 C) (h36 : Orc36 C) (h41 : Orc41 C) (h42_43 : Orc42_43 C) (h44 : Orc44 C) (a0 : S_Journal) (a1 : S_Disk) : J (fun (o : R) y => ∃ v, o.1 = .ret v /\ snapE o.2 v = (A.tup [(A.agg [(A.imm (List.map (cL c8) y.1.Records) false), (iA y.1.Many), (iA y.1.Synced)]), (A.agg [(A.imm (List.map (cL c8) y.2.1.Sectors) false), (A.imm (List.map c_S_Write y.2.1.Pending) false), (iA y.2.1.Left), (bA y.2.1.Stopped)]), (iA y.2.2)])) (evCall1 (cx C) (ec C n 8) (ey C n 8) (n+8) 21 [(A.agg (c_S_Journal a0)), (A.agg (c_S_Disk a1))] [] 0) some (F21 n a0 a1) some := by
 refine .lp (e21 ..) ?_
 unfold F21
 refine .s ((A.ptr 0 0), [Blk.box (c_S_Journal a0)]) (.s ((A.ptr 1 0), [Blk.box (c_S_Journal a0), Blk.box (c_S_Disk a1)]) (.s ((A.ptr 2 0), [Blk.box (c_S_Journal a0), Blk.box (c_S_Disk a1), bz3]) (.s ((A.ptr 3 0), [Blk.box (c_S_Journal a0), Blk.box (c_S_Disk a1), bz3, bz4]) (.s (A.agg (c_S_Journal a0)) ?_))))
 refine .bd (g := fun (y : Int) => (iA y)) (by show C 17 [snap _ (A.agg (c_S_Journal a0))] = _; simp only [sn0, snM]; exact h17 a0) fun y1 => ?_
 refine .st (v := (bA (y1 != 0))) (aBin_neq ..) ?_
 refine .biHN (fun hk2 => ?_) (fun hk2 => ?_)
 ·refine .s (A.agg [(A.imm [] true), (iA 0), (iA 0)]) (.s (A.agg [(A.imm [] true), (A.imm [] true), (iA 0), (bA false)]) (.s [Blk.box (c_S_Journal a0), Blk.box (c_S_Disk a1), bz3, bz4] (.s [Blk.box (c_S_Journal a0), Blk.box (c_S_Disk a1), bz3, bz4] (.s (A.agg [(A.imm [] true), (iA 0), (iA 0)]) (.s (A.agg [(A.imm [] true), (A.imm [] true), (iA 0), (bA false)]) ?_)))))
  exact .lf rfl rfl ⟨_, rfl, by show snapE _ (A.tup [(A.agg [(A.imm [] true), (iA 0), (iA 0)]), (A.agg [(A.imm [] true), (A.imm [] true), (iA 0), (bA false)]), (iA y1)]) = _; first | (simp only [sn0, snM, snapE]; done) | (simp only [sn0, snS, snapE]; first | done | rfl)⟩
 refine .s (A.agg (c_S_Disk a1)) ?_
 refine .bd (g := fun (y : Int) => (iA y)) (by show C 31 [snap _ (A.agg (c_S_Disk a1))] = _; simp only [sn0, snM]; exact h31 a1) fun y3 => ?_
 refine .st (v := (bA (y3 != 0))) (aBin_neq ..) ?_
 refine .biHN (fun hk4 => ?_) (fun hk4 => ?_)
 ·refine .s (A.agg [(A.imm [] true), (iA 0), (iA 0)]) (.s (A.agg [(A.imm [] true), (A.imm [] true), (iA 0), (bA false)]) (.s [Blk.box (c_S_Journal a0), Blk.box (c_S_Disk a1), bz3, bz4] (.s [Blk.box (c_S_Journal a0), Blk.box (c_S_Disk a1), bz3, bz4] (.s (A.agg [(A.imm [] true), (iA 0), (iA 0)]) (.s (A.agg [(A.imm [] true), (A.imm [] true), (iA 0), (bA false)]) ?_)))))
  exact .lf rfl rfl ⟨_, rfl, by show snapE _ (A.tup [(A.agg [(A.imm [] true), (iA 0), (iA 0)]), (A.agg [(A.imm [] true), (A.imm [] true), (iA 0), (bA false)]), (iA y3)]) = _; first | (simp only [sn0, snM, snapE]; done) | (simp only [sn0, snS, snapE]; first | done | rfl)⟩
 refine .s (A.ptr 0 1) (.s (iA a0.Many) (.s (A.ptr 1 0) (.s (A.imm (List.map (cL c8) a1.Sectors) false) ?_)))
 refine .st (v := (iA ((a1.Sectors.length : Int)))) (len_imm (e := 35) (h1 := by kernel_rfl) ..) ?_
 refine .st (v := (bA (a0.Many != ((a1.Sectors.length : Int))))) (aBin_neq ..) ?_
 refine .bg (fun t (y : Bool) => ∃ j7 j8 j9 : A, t = [(bA y), j7, j8, j9]) ?_ ?_
 ·refine .biH (fun hk5 => ?_) (fun hk5 => ?_)
  ·refine .s (A.ptr 1 3) (.s (bA a1.Stopped) (.s (bA (!a1.Stopped)) ?_))
   exact .lg ⟨_, _, _, rfl⟩
  exact .lg ⟨_, _, _, rfl⟩
 rintro _ y6 ⟨j7, j8, j9, rfl⟩
 iterate 4 refine .uc ?_
 refine .biHN (fun hk10 => ?_) (fun hk10 => ?_)
 ·refine .s (A.agg [(A.imm [] true), (iA 0), (iA 0)]) (.s (A.agg [(A.imm [] true), (A.imm [] true), (iA 0), (bA false)]) (.s [Blk.box (c_S_Journal a0), Blk.box (c_S_Disk a1), bz3, bz4] (.s [Blk.box (c_S_Journal a0), Blk.box (c_S_Disk a1), bz3, bz4] (.s (A.agg [(A.imm [] true), (iA 0), (iA 0)]) (.s (A.agg [(A.imm [] true), (A.imm [] true), (iA 0), (bA false)]) ?_)))))
  exact .lf rfl rfl ⟨_, rfl, by show snapE _ (A.tup [(A.agg [(A.imm [] true), (iA 0), (iA 0)]), (A.agg [(A.imm [] true), (A.imm [] true), (iA 0), (bA false)]), (iA 1)]) = _; first | (simp only [sn0, snM, snapE]; done) | (simp only [sn0, snS, snapE]; first | done | rfl)⟩
 refine .s (A.agg (c_S_Disk a1)) ?_
 refine .bd (g := fun (y : (S_Journal × Int)) => (A.tup [(A.agg [(A.imm (List.map (cL c8) y.1.Records) false), (iA y.1.Many), (iA y.1.Synced)]), (iA y.2)])) (by show C 12 [snap _ (A.agg (c_S_Disk a1))] = _; simp only [sn0, snM]; exact h12 a1) fun y11 => ?_
 refine .s (A.agg (c_S_Journal y11.1)) (.s (iA y11.2) (.s ((A.ptr 4 0), [Blk.box (c_S_Journal a0), Blk.box (c_S_Disk a1), bz3, bz4, bz3]) (.s [Blk.box (c_S_Journal a0), Blk.box (c_S_Disk a1), bz3, bz4, Blk.box (c_S_Journal y11.1)] ?_)))
 refine .st (v := (bA (y11.2 != 0))) (aBin_neq ..) ?_
 refine .biHN (fun hk12 => ?_) (fun hk12 => ?_)
 ·refine .s (A.agg [(A.imm [] true), (iA 0), (iA 0)]) (.s (A.agg [(A.imm [] true), (A.imm [] true), (iA 0), (bA false)]) (.s [Blk.box (c_S_Journal a0), Blk.box (c_S_Disk a1), bz3, bz4, Blk.box (c_S_Journal y11.1)] (.s [Blk.box (c_S_Journal a0), Blk.box (c_S_Disk a1), bz3, bz4, Blk.box (c_S_Journal y11.1)] (.s (A.agg [(A.imm [] true), (iA 0), (iA 0)]) (.s (A.agg [(A.imm [] true), (A.imm [] true), (iA 0), (bA false)]) ?_)))))
  exact .lf rfl rfl ⟨_, rfl, by show snapE _ (A.tup [(A.agg [(A.imm [] true), (iA 0), (iA 0)]), (A.agg [(A.imm [] true), (A.imm [] true), (iA 0), (bA false)]), (iA y11.2)]) = _; first | (simp only [sn0, snM, snapE]; done) | (simp only [sn0, snS, snapE]; first | done | rfl)⟩
 refine .s (A.ptr 1 0) (.s (A.imm (List.map (cL c8) a1.Sectors) false) ?_)
 refine .st (v := (iA ((a1.Sectors.length : Int)))) (len_imm (e := 35) (h1 := by kernel_rfl) ..) ?_
 refine .as (T21_21_0 C n h12 h17 h26 h27 h31 h35 h36 h41 h42_43 h44 y11.2 a1.Sectors ((a1.Sectors.length : Int)) a0 a1 ([]) 0 0 ([]) ([]) 0 false y11.1 _ _ _ _ ?_ _ 1 0)
 ·intro y35 j36 j37 j38
  refine .un rfl ?_
  refine .cT (by kernel_rfl) ?_
  refine .s (A.ptr 4 0) (.s (A.imm (List.map (cL c8) y11.1.Records) false) (.s (A.ptr 0 0) (.s (A.imm (List.map (cL c8) a0.Records) false) (.s (A.ptr 0 2) (.s (iA a0.Synced) ?_)))))
  refine .bd (g := fun (y : List (List UInt8)) => (A.imm (List.map (cL c8) y) false)) (cut_imm (e := 35) (es := 1) (f := (cL c8)) (l := a0.Records) (a := 0) (b := a0.Synced) (by kernel_rfl) (by kernel_rfl) (fun _ => rfl) (.inl ⟨rfl, rfl⟩) (.inr ⟨_, rfl⟩)) fun y39 => ?_
  refine .bd (g := fun (y : Bool) => (bA y)) (by show C 42 [snap _ (A.imm (List.map (cL c8) y11.1.Records) false), snap _ (A.imm (List.map (cL c8) y39) false), snap [Blk.box (c_S_Journal a0), Blk.box (c_S_Disk a1), bz3, bz4, Blk.box (c_S_Journal y11.1)] (A.fn (Fn.func 43) [] [])] = _; simp only [sn0, snM]; exact h42_43 y11.1.Records y39) fun y40 => ?_
  refine .s (bA (!y40)) ?_
  refine .bg (fun t (y : Bool) => ∃ j43 j44 j45 : A, t = [(bA y), j43, j44, j45]) ?_ ?_
  ·refine .biH (fun hk41 => ?_) (fun hk41 => ?_)
   ·exact .lg ⟨_, _, _, rfl⟩
   refine .st (v := (A.v (.int .u64 (shrI .u64 y35 32)))) (aBin_shr (hb := by decide) ..) ?_
   refine .st (v := (bA ((shrI .u64 y35 32) != 0))) (aBin_neq ..) ?_
   exact .lg ⟨_, _, _, rfl⟩
  rintro _ y42 ⟨j43, j44, j45, rfl⟩
  iterate 4 refine .uc ?_
  refine .biHN (fun hk46 => ?_) (fun hk46 => ?_)
  ·refine .s (A.agg [(A.imm [] true), (iA 0), (iA 0)]) (.s (A.agg [(A.imm [] true), (A.imm [] true), (iA 0), (bA false)]) (.s [Blk.box (c_S_Journal a0), Blk.box (c_S_Disk a1), bz3, bz4, Blk.box (c_S_Journal y11.1)] (.s [Blk.box (c_S_Journal a0), Blk.box (c_S_Disk a1), bz3, bz4, Blk.box (c_S_Journal y11.1)] (.s (A.agg [(A.imm [] true), (iA 0), (iA 0)]) (.s (A.agg [(A.imm [] true), (A.imm [] true), (iA 0), (bA false)]) ?_)))))
   exact .lf rfl rfl ⟨_, rfl, by show snapE _ (A.tup [(A.agg [(A.imm [] true), (iA 0), (iA 0)]), (A.agg [(A.imm [] true), (A.imm [] true), (iA 0), (bA false)]), (iA 50)]) = _; first | (simp only [sn0, snM, snapE]; done) | (simp only [sn0, snS, snapE]; first | done | rfl)⟩
  refine .s (A.ptr 0 2) (.s (iA a0.Synced) (.s (A.ptr 0 0) (.s (A.imm (List.map (cL c8) a0.Records) false) ?_)))
  refine .st (v := (iA ((a0.Records.length : Int)))) (len_imm (e := 35) (h1 := by kernel_rfl) ..) ?_
  refine .st (v := (bA (a0.Synced == ((a0.Records.length : Int))))) (aBin_eql ..) ?_
  refine .biHN (fun hk47 => ?_) (fun hk47 => ?_)
  ·refine .s (A.agg (c_S_Journal a0)) (.s (A.agg (c_S_Disk a1)) ?_)
   refine .cT (by kernel_rfl) ?_
   refine .s [Blk.box (c_S_Journal a0), Blk.box (c_S_Disk a1), Blk.box (c_S_Journal a0), bz4, Blk.box (c_S_Journal y11.1)] (.s [Blk.box (c_S_Journal a0), Blk.box (c_S_Disk a1), Blk.box (c_S_Journal a0), Blk.box (c_S_Disk a1), Blk.box (c_S_Journal y11.1)] (.s (A.agg (c_S_Journal a0)) (.s (A.agg (c_S_Disk a1)) ?_)))
   exact .lf rfl rfl ⟨_, rfl, by show snapE _ (A.tup [(A.agg (c_S_Journal a0)), (A.agg (c_S_Disk a1)), (iA 0)]) = _; first | (simp only [sn0, snM, snapE]; done) | (simp only [sn0, snS, snapE]; first | done | rfl)⟩
  refine .s (A.ptr 0 0) (.s (A.imm (List.map (cL c8) a0.Records) false) (.s (A.ptr 0 2) (.s (iA a0.Synced) ?_)))
  refine .bd (g := fun (y : List (List UInt8)) => (A.imm (List.map (cL c8) y) false)) (cut_imm (e := 35) (es := 1) (f := (cL c8)) (l := a0.Records) (a := 0) (b := a0.Synced) (by kernel_rfl) (by kernel_rfl) (fun _ => rfl) (.inl ⟨rfl, rfl⟩) (.inr ⟨_, rfl⟩)) fun y48 => ?_
  refine .bd (g := fun (y : Int) => (iA y)) (by show C 36 [snap _ (A.imm (List.map (cL c8) y48) false)] = _; simp only [sn0, snM]; exact h36 y48) fun y49 => ?_
  refine .s (A.ptr 0 0) (.s (A.imm (List.map (cL c8) a0.Records) false) (.s (A.ptr 0 2) (.s (iA a0.Synced) ?_)))
  refine .bd (g := fun (y : List (List UInt8)) => (A.imm (List.map (cL c8) y) false)) (cut_imm (e := 35) (es := 1) (f := (cL c8)) (l := a0.Records) (a := a0.Synced) (b := (a0.Records.length : Int)) (by kernel_rfl) (by kernel_rfl) (fun _ => rfl) (.inr ⟨_, rfl⟩) (.inl ⟨rfl, rfl⟩)) fun y50 => ?_
  refine .st (v := (iA ((y50.length : Int)))) (len_imm (e := 35) (h1 := by kernel_rfl) ..) ?_
  refine .as (T21_21_1 C n h12 h17 h26 h27 h31 h35 h36 h41 h42_43 h44 y35 y50 ((y50.length : Int)) a0 ([]) 0 0 ([]) ([]) 0 false y11.1 _ _ _ _ ?_ ?_ _ y11.2 y49 0 a1)
  ·intro y125 y126 y127 y128 y129 y130 y131 y132 y133 j134 j135 j136 j137 j138 j139 j140
   refine .un rfl ?_
   refine .s (A.agg [(A.imm [] true), (iA y130), (iA y131)]) (.s (A.agg [(A.imm [] true), (A.imm [] true), (iA y132), (bA y133)]) ?_)
   exact .lf rfl rfl ⟨_, rfl, by show snapE _ (A.tup [(A.agg [(A.imm [] true), (iA y130), (iA y131)]), (A.agg [(A.imm [] true), (A.imm [] true), (iA y132), (bA y133)]), (iA y125)]) = _; first | (simp only [sn0, snM, snapE]; done) | (simp only [sn0, snS, snapE]; first | done | rfl)⟩
  ·intro y141 y142 y143 y144 j145 j146 j147 j148 j149 j150
   refine .un rfl ?_
   refine .cT (by kernel_rfl) ?_
   refine .s (A.agg [(A.imm (List.map (cL c8) y141) false), (A.imm (List.map c_S_Write y142) false), (iA y143), (bA y144)]) ?_
   refine .bd (g := fun (y : (S_Disk × Int)) => (A.tup [(A.agg [(A.imm (List.map (cL c8) y.1.Sectors) false), (A.imm (List.map c_S_Write y.1.Pending) false), (iA y.1.Left), (bA y.1.Stopped)]), (iA y.2)])) (by show C 27 [snap _ (A.agg [(A.imm (List.map (cL c8) y141) false), (A.imm (List.map c_S_Write y142) false), (iA y143), (bA y144)])] = _; simp only [sn0, snM]; exact h27 ((S_Disk.mk y141 y142 y143 y144))) fun y151 => ?_
   refine .s (A.agg (c_S_Disk y151.1)) (.s (iA y151.2) (.s [Blk.box (c_S_Journal a0), Blk.box (c_S_Disk y151.1), bz3, bz4, Blk.box (c_S_Journal y11.1)] ?_))
   refine .st (v := (bA (y151.2 != 0))) (aBin_neq ..) ?_
   refine .biHN (fun hk152 => ?_) (fun hk152 => ?_)
   ·refine .s (A.agg [(A.imm [] true), (iA 0), (iA 0)]) (.s (A.agg (c_S_Disk y151.1)) ?_)
    refine .cT (by kernel_rfl) ?_
    refine .s [Blk.box (c_S_Journal a0), Blk.box (c_S_Disk y151.1), bz3, bz4, Blk.box (c_S_Journal y11.1)] (.s [Blk.box (c_S_Journal a0), Blk.box (c_S_Disk y151.1), bz3, Blk.box (c_S_Disk y151.1), Blk.box (c_S_Journal y11.1)] (.s (A.agg [(A.imm [] true), (iA 0), (iA 0)]) (.s (A.agg (c_S_Disk y151.1)) ?_)))
    exact .lf rfl rfl ⟨_, rfl, by show snapE _ (A.tup [(A.agg [(A.imm [] true), (iA 0), (iA 0)]), (A.agg (c_S_Disk y151.1)), (iA y151.2)]) = _; first | (simp only [sn0, snM, snapE]; done) | (simp only [sn0, snS, snapE]; first | done | rfl)⟩
   refine .s (A.ptr 0 0) (.s (A.imm (List.map (cL c8) a0.Records) false) ?_)
   refine .st (v := (iA ((a0.Records.length : Int)))) (len_imm (e := 35) (h1 := by kernel_rfl) ..) ?_
   refine .s (A.ptr 0 2) (.s [(hk21_2 a0), Blk.box (c_S_Disk y151.1), bz3, bz4, Blk.box (c_S_Journal y11.1)] (.s (A.agg [(A.imm (List.map (cL c8) a0.Records) false), (iA a0.Many), (iA ((a0.Records.length : Int)))]) (.s (A.agg (c_S_Disk y151.1)) ?_)))
   refine .cT (by kernel_rfl) ?_
   refine .s [(hk21_2 a0), Blk.box (c_S_Disk y151.1), (hk21_2 a0), bz4, Blk.box (c_S_Journal y11.1)] (.s [(hk21_2 a0), Blk.box (c_S_Disk y151.1), (hk21_2 a0), Blk.box (c_S_Disk y151.1), Blk.box (c_S_Journal y11.1)] (.s (A.agg [(A.imm (List.map (cL c8) a0.Records) false), (iA a0.Many), (iA ((a0.Records.length : Int)))]) (.s (A.agg (c_S_Disk y151.1)) ?_)))
   exact .lf rfl rfl ⟨_, rfl, by show snapE _ (A.tup [(A.agg [(A.imm (List.map (cL c8) a0.Records) false), (iA a0.Many), (iA ((a0.Records.length : Int)))]), (A.agg (c_S_Disk y151.1)), (iA 0)]) = _; first | (simp only [sn0, snM, snapE]; done) | (simp only [sn0, snS, snapE]; first | done | rfl)⟩
def G21 (a0 : S_Journal) (a1 : S_Disk) : Option (S_Journal × S_Disk × Int) := F21 fuel0 a0 a1
def Orc21 (C : Nat -> List A -> Option A) : Prop := ∀ (a0 : S_Journal) (a1 : S_Disk), C 21 [(A.agg (c_S_Journal a0)), (A.agg (c_S_Disk a1))] = (G21 a0 a1).map fun y => (A.tup [(A.agg [(A.imm (List.map (cL c8) y.1.Records) false), (iA y.1.Many), (iA y.1.Synced)]), (A.agg [(A.imm (List.map (cL c8) y.2.1.Sectors) false), (A.imm (List.map c_S_Write y.2.1.Pending) false), (iA y.2.1.Left), (bA y.2.1.Stopped)]), (iA y.2.2)])
def F19 (n : Nat) (a0 : S_Journal) : Option Int :=
 (G17 a0).bind fun y1 => bif (y1 != 0) then (some 0) else ((G36 a0.Records).bind fun y3 => some (wr .i64 (112 * (wr .i64 (a0.Many - y3)))))
theorem T19 (C : Nat -> List A -> Option A) (n : Nat) (h17 : Orc17 C) (h36 : Orc36 C) (a0 : S_Journal) : J (fun (o : R) y => ∃ v, o.1 = .ret v /\ snapE o.2 v = (iA y)) (evCall1 (cx C) (ec C n 8) (ey C n 8) (n+8) 19 [(A.agg (c_S_Journal a0))] [] 0) some (F19 n a0) some := by
 refine .lp (e19 ..) ?_
 unfold F19
 refine .s ((A.ptr 0 0), [Blk.box (c_S_Journal a0)]) (.s (A.agg (c_S_Journal a0)) ?_)
 refine .bd (g := fun (y : Int) => (iA y)) (by show C 17 [snap _ (A.agg (c_S_Journal a0))] = _; simp only [sn0, snM]; exact h17 a0) fun y1 => ?_
 refine .st (v := (bA (y1 != 0))) (aBin_neq ..) ?_
 refine .biHN (fun hk2 => ?_) (fun hk2 => ?_)
 ·exact .lf rfl rfl ⟨_, rfl, rfl⟩
 refine .s (A.ptr 0 1) (.s (iA a0.Many) (.s (A.ptr 0 0) (.s (A.imm (List.map (cL c8) a0.Records) false) ?_)))
 refine .bd (g := fun (y : Int) => (iA y)) (by show C 36 [snap _ (A.imm (List.map (cL c8) a0.Records) false)] = _; simp only [sn0, snM]; exact h36 a0.Records) fun y3 => ?_
 refine .st (v := (iA (wr .i64 (a0.Many - y3)))) (aBin_sub ..) ?_
 refine .st (v := (iA (wr .i64 (112 * (wr .i64 (a0.Many - y3)))))) (aBin_mul ..) ?_
 exact .lf rfl rfl ⟨_, rfl, rfl⟩
def G19 (a0 : S_Journal) : Option Int := F19 fuel0 a0
def Orc19 (C : Nat -> List A -> Option A) : Prop := ∀ (a0 : S_Journal), C 19 [(A.agg (c_S_Journal a0))] = (G19 a0).map fun y => (iA y)
def F10 (n : Nat)  : Option Bool :=
 (G25 1).bind fun y1 => (G12 y1.1).bind fun y2 => (mkI 1 113 ((0 : UInt8))).bind fun y3 => (G15 y2.1 y3).bind fun y4 => (G15 y2.1 ([(97 : UInt8), (98 : UInt8)])).bind fun y5 => (G21 y5.1 y1.1).bind fun y6 => (G12 y6.2.1).bind fun y7 => (G21 y5.1 y6.2.1).bind fun y8 => (bif (y1.2 == 0) then (some (y2.2 == 0)) else (some false)).bind fun y10 => (bif y10 then (some (((y2.1.Records.length : Int)) == 0)) else (some false)).bind fun y14 => (bif y14 then ((G19 y2.1).bind fun y20 => some (y20 == 112)) else (some false)).bind fun y21 => (bif y21 then (some (y4.2 == 2)) else (some false)).bind fun y26 => (bif y26 then (some (y5.2 == 0)) else (some false)).bind fun y30 => (bif y30 then (some (y6.2.2 == 0)) else (some false)).bind fun y34 => (bif y34 then (some (y6.1.Synced == 1)) else (some false)).bind fun y38 => (bif y38 then (some (y7.2 == 0)) else (some false)).bind fun y43 => (bif y43 then (some (((y7.1.Records.length : Int)) == 1)) else (some false)).bind fun y47 => (bif y47 then ((getI y7.1.Records 0).bind fun y53 => some (strEq (bstr y53) ((ByteArray.mk #[97, 98])))) else (some false)).bind fun y54 => (bif y54 then (some (y8.2.2 == 50)) else (some false)).bind fun y62 => (bif y62 then ((G17 ((S_Journal.mk ([]) 0 0))).bind fun y66 => some (y66 == 1)) else (some false)).bind fun y67 => some y67
theorem T10 (C : Nat -> List A -> Option A) (n : Nat) (h12 : Orc12 C) (h15 : Orc15 C) (h17 : Orc17 C) (h19 : Orc19 C) (h21 : Orc21 C) (h25 : Orc25 C) : J (fun (o : R) y => ∃ v, o.1 = .ret v /\ snapE o.2 v = (bA y)) (evCall1 (cx C) (ec C n 8) (ey C n 8) (n+8) 10 [] [] 0) some (F10 n ) some := by
 refine .lp (e10 ..) ?_
 unfold F10
 refine .bd (g := fun (y : (S_Disk × Int)) => (A.tup [(A.agg [(A.imm (List.map (cL c8) y.1.Sectors) false), (A.imm (List.map c_S_Write y.1.Pending) false), (iA y.1.Left), (bA y.1.Stopped)]), (iA y.2)])) (h25 1) fun y1 => ?_
 refine .s (A.agg (c_S_Disk y1.1)) (.s (iA y1.2) (.s ((A.ptr 0 0), [bz4]) (.s [Blk.box (c_S_Disk y1.1)] (.s (A.agg (c_S_Disk y1.1)) ?_))))
 refine .bd (g := fun (y : (S_Journal × Int)) => (A.tup [(A.agg [(A.imm (List.map (cL c8) y.1.Records) false), (iA y.1.Many), (iA y.1.Synced)]), (iA y.2)])) (by show C 12 [snap _ (A.agg (c_S_Disk y1.1))] = _; simp only [sn0, snM]; exact h12 y1.1) fun y2 => ?_
 refine .s (A.agg (c_S_Journal y2.1)) (.s (iA y2.2) (.s ((A.ptr 1 0), [Blk.box (c_S_Disk y1.1), bz3]) (.s [Blk.box (c_S_Disk y1.1), Blk.box (c_S_Journal y2.1)] (.s ((A.ptr 2 0), [Blk.box (c_S_Disk y1.1), Blk.box (c_S_Journal y2.1), bz3]) (.s (A.agg (c_S_Journal y2.1)) ?_)))))
 refine .cT (by kernel_rfl) ?_
 refine .bd (g := fun (y : List UInt8) => ((A.imm (List.map c8 y) false), [Blk.box (c_S_Disk y1.1), Blk.box (c_S_Journal y2.1), bz3])) (wrow_makeI (e := 5) (es := 1) (f := c8) (z := (0 : UInt8)) (z' := [(uA 0)]) (by kernel_rfl) (by kernel_rfl) (by kernel_rfl) (by kernel_rfl) rfl (by decide) (fun _ => rfl)) fun y3 => ?_
 refine .bd (g := fun (y : (S_Journal × Int)) => (A.tup [(A.agg [(A.imm (List.map (cL c8) y.1.Records) false), (iA y.1.Many), (iA y.1.Synced)]), (iA y.2)])) (by show C 15 [snap _ (A.agg (c_S_Journal y2.1)), snap _ (A.imm (List.map c8 y3) false)] = _; simp only [sn0, snM]; exact h15 y2.1 y3) fun y4 => ?_
 refine .s (A.agg (c_S_Journal y4.1)) (.s (iA y4.2) (.s [Blk.box (c_S_Disk y1.1), Blk.box (c_S_Journal y2.1), Blk.box (c_S_Journal y4.1)] (.s (A.agg (c_S_Journal y2.1)) (.s ((A.sl 3 0 2 true), [Blk.box (c_S_Disk y1.1), Blk.box (c_S_Journal y2.1), Blk.box (c_S_Journal y4.1), Blk.row true 1 [[(uA 97)], [(uA 98)]]]) (.s ((A.imm [[(uA 97)], [(uA 98)]] false), [Blk.box (c_S_Disk y1.1), Blk.box (c_S_Journal y2.1), Blk.box (c_S_Journal y4.1), Blk.dead]) ?_)))))
 refine .bd (g := fun (y : (S_Journal × Int)) => (A.tup [(A.agg [(A.imm (List.map (cL c8) y.1.Records) false), (iA y.1.Many), (iA y.1.Synced)]), (iA y.2)])) (by show C 15 [snap _ (A.agg (c_S_Journal y2.1)), snap _ (A.imm [[(uA 97)], [(uA 98)]] false)] = _; simp only [sn0, snM]; exact h15 y2.1 ([(97 : UInt8), (98 : UInt8)])) fun y5 => ?_
 refine .s (A.agg (c_S_Journal y5.1)) (.s (iA y5.2) (.s ((A.ptr 4 0), [Blk.box (c_S_Disk y1.1), Blk.box (c_S_Journal y2.1), Blk.box (c_S_Journal y4.1), Blk.dead, bz3]) (.s [Blk.box (c_S_Disk y1.1), Blk.box (c_S_Journal y2.1), Blk.box (c_S_Journal y4.1), Blk.dead, Blk.box (c_S_Journal y5.1)] (.s (A.agg (c_S_Journal y5.1)) (.s (A.agg (c_S_Disk y1.1)) ?_)))))
 refine .bd (g := fun (y : (S_Journal × S_Disk × Int)) => (A.tup [(A.agg [(A.imm (List.map (cL c8) y.1.Records) false), (iA y.1.Many), (iA y.1.Synced)]), (A.agg [(A.imm (List.map (cL c8) y.2.1.Sectors) false), (A.imm (List.map c_S_Write y.2.1.Pending) false), (iA y.2.1.Left), (bA y.2.1.Stopped)]), (iA y.2.2)])) (by show C 21 [snap _ (A.agg (c_S_Journal y5.1)), snap _ (A.agg (c_S_Disk y1.1))] = _; simp only [sn0, snM]; exact h21 y5.1 y1.1) fun y6 => ?_
 refine .s (A.agg (c_S_Journal y6.1)) (.s (A.agg (c_S_Disk y6.2.1)) (.s (iA y6.2.2) (.s ((A.ptr 5 0), [Blk.box (c_S_Disk y1.1), Blk.box (c_S_Journal y2.1), Blk.box (c_S_Journal y4.1), Blk.dead, Blk.box (c_S_Journal y5.1), bz3]) (.s ((A.ptr 6 0), [Blk.box (c_S_Disk y1.1), Blk.box (c_S_Journal y2.1), Blk.box (c_S_Journal y4.1), Blk.dead, Blk.box (c_S_Journal y5.1), bz3, bz4]) (.s [Blk.box (c_S_Disk y1.1), Blk.box (c_S_Journal y2.1), Blk.box (c_S_Journal y4.1), Blk.dead, Blk.box (c_S_Journal y5.1), Blk.box (c_S_Journal y6.1), bz4] (.s [Blk.box (c_S_Disk y1.1), Blk.box (c_S_Journal y2.1), Blk.box (c_S_Journal y4.1), Blk.dead, Blk.box (c_S_Journal y5.1), Blk.box (c_S_Journal y6.1), Blk.box (c_S_Disk y6.2.1)] (.s (A.agg (c_S_Disk y6.2.1)) ?_)))))))
 refine .bd (g := fun (y : (S_Journal × Int)) => (A.tup [(A.agg [(A.imm (List.map (cL c8) y.1.Records) false), (iA y.1.Many), (iA y.1.Synced)]), (iA y.2)])) (by show C 12 [snap _ (A.agg (c_S_Disk y6.2.1))] = _; simp only [sn0, snM]; exact h12 y6.2.1) fun y7 => ?_
 refine .s (A.agg (c_S_Journal y7.1)) (.s (iA y7.2) (.s ((A.ptr 7 0), [Blk.box (c_S_Disk y1.1), Blk.box (c_S_Journal y2.1), Blk.box (c_S_Journal y4.1), Blk.dead, Blk.box (c_S_Journal y5.1), Blk.box (c_S_Journal y6.1), Blk.box (c_S_Disk y6.2.1), bz3]) (.s [Blk.box (c_S_Disk y1.1), Blk.box (c_S_Journal y2.1), Blk.box (c_S_Journal y4.1), Blk.dead, Blk.box (c_S_Journal y5.1), Blk.box (c_S_Journal y6.1), Blk.box (c_S_Disk y6.2.1), Blk.box (c_S_Journal y7.1)] (.s (A.agg (c_S_Journal y5.1)) (.s (A.agg (c_S_Disk y6.2.1)) ?_)))))
 refine .bd (g := fun (y : (S_Journal × S_Disk × Int)) => (A.tup [(A.agg [(A.imm (List.map (cL c8) y.1.Records) false), (iA y.1.Many), (iA y.1.Synced)]), (A.agg [(A.imm (List.map (cL c8) y.2.1.Sectors) false), (A.imm (List.map c_S_Write y.2.1.Pending) false), (iA y.2.1.Left), (bA y.2.1.Stopped)]), (iA y.2.2)])) (by show C 21 [snap _ (A.agg (c_S_Journal y5.1)), snap _ (A.agg (c_S_Disk y6.2.1))] = _; simp only [sn0, snM]; exact h21 y5.1 y6.2.1) fun y8 => ?_
 refine .s (A.agg (c_S_Journal y8.1)) (.s (A.agg (c_S_Disk y8.2.1)) (.s (iA y8.2.2) (.s ((A.ptr 8 0), [Blk.box (c_S_Disk y1.1), Blk.box (c_S_Journal y2.1), Blk.box (c_S_Journal y4.1), Blk.dead, Blk.box (c_S_Journal y5.1), Blk.box (c_S_Journal y6.1), Blk.box (c_S_Disk y6.2.1), Blk.box (c_S_Journal y7.1), bz3]) (.s ((A.ptr 9 0), [Blk.box (c_S_Disk y1.1), Blk.box (c_S_Journal y2.1), Blk.box (c_S_Journal y4.1), Blk.dead, Blk.box (c_S_Journal y5.1), Blk.box (c_S_Journal y6.1), Blk.box (c_S_Disk y6.2.1), Blk.box (c_S_Journal y7.1), bz3, bz4]) (.s [Blk.box (c_S_Disk y1.1), Blk.box (c_S_Journal y2.1), Blk.box (c_S_Journal y4.1), Blk.dead, Blk.box (c_S_Journal y5.1), Blk.box (c_S_Journal y6.1), Blk.box (c_S_Disk y6.2.1), Blk.box (c_S_Journal y7.1), Blk.box (c_S_Journal y8.1), bz4] (.s [Blk.box (c_S_Disk y1.1), Blk.box (c_S_Journal y2.1), Blk.box (c_S_Journal y4.1), Blk.dead, Blk.box (c_S_Journal y5.1), Blk.box (c_S_Journal y6.1), Blk.box (c_S_Disk y6.2.1), Blk.box (c_S_Journal y7.1), Blk.box (c_S_Journal y8.1), Blk.box (c_S_Disk y8.2.1)] ?_))))))
 refine .st (v := (bA (y1.2 == 0))) (aBin_eql ..) ?_
 refine .bg (fun t (y : Bool) => ∃ j11 j12 : A, t = [(bA y), j11, j12]) ?_ ?_
 ·refine .biH (fun hk9 => ?_) (fun hk9 => ?_)
  ·refine .st (v := (bA (y2.2 == 0))) (aBin_eql ..) ?_
   exact .lg ⟨_, _, rfl⟩
  exact .lg ⟨_, _, rfl⟩
 rintro _ y10 ⟨j11, j12, rfl⟩
 iterate 3 refine .uc ?_
 refine .bg (fun t (y : Bool) => ∃ j15 j16 j17 j18 : A, t = [(bA y), j15, j16, j17, j18]) ?_ ?_
 ·refine .biH (fun hk13 => ?_) (fun hk13 => ?_)
  ·refine .s (A.ptr 1 0) (.s (A.imm (List.map (cL c8) y2.1.Records) false) ?_)
   refine .st (v := (iA ((y2.1.Records.length : Int)))) (len_imm (e := 35) (h1 := by kernel_rfl) ..) ?_
   refine .st (v := (bA (((y2.1.Records.length : Int)) == 0))) (aBin_eql ..) ?_
   exact .lg ⟨_, _, _, _, rfl⟩
  exact .lg ⟨_, _, _, _, rfl⟩
 rintro _ y14 ⟨j15, j16, j17, j18, rfl⟩
 iterate 5 refine .uc ?_
 refine .bg (fun t (y : Bool) => ∃ j22 j23 j24 : A, t = [(bA y), j22, j23, j24]) ?_ ?_
 ·refine .biH (fun hk19 => ?_) (fun hk19 => ?_)
  ·refine .s (A.agg (c_S_Journal y2.1)) ?_
   refine .bd (g := fun (y : Int) => (iA y)) (by show C 19 [snap _ (A.agg (c_S_Journal y2.1))] = _; simp only [sn0, snM]; exact h19 y2.1) fun y20 => ?_
   refine .st (v := (bA (y20 == 112))) (aBin_eql ..) ?_
   exact .lg ⟨_, _, _, rfl⟩
  exact .lg ⟨_, _, _, rfl⟩
 rintro _ y21 ⟨j22, j23, j24, rfl⟩
 iterate 4 refine .uc ?_
 refine .bg (fun t (y : Bool) => ∃ j27 j28 : A, t = [(bA y), j27, j28]) ?_ ?_
 ·refine .biH (fun hk25 => ?_) (fun hk25 => ?_)
  ·refine .st (v := (bA (y4.2 == 2))) (aBin_eql ..) ?_
   exact .lg ⟨_, _, rfl⟩
  exact .lg ⟨_, _, rfl⟩
 rintro _ y26 ⟨j27, j28, rfl⟩
 iterate 3 refine .uc ?_
 refine .bg (fun t (y : Bool) => ∃ j31 j32 : A, t = [(bA y), j31, j32]) ?_ ?_
 ·refine .biH (fun hk29 => ?_) (fun hk29 => ?_)
  ·refine .st (v := (bA (y5.2 == 0))) (aBin_eql ..) ?_
   exact .lg ⟨_, _, rfl⟩
  exact .lg ⟨_, _, rfl⟩
 rintro _ y30 ⟨j31, j32, rfl⟩
 iterate 3 refine .uc ?_
 refine .bg (fun t (y : Bool) => ∃ j35 j36 : A, t = [(bA y), j35, j36]) ?_ ?_
 ·refine .biH (fun hk33 => ?_) (fun hk33 => ?_)
  ·refine .st (v := (bA (y6.2.2 == 0))) (aBin_eql ..) ?_
   exact .lg ⟨_, _, rfl⟩
  exact .lg ⟨_, _, rfl⟩
 rintro _ y34 ⟨j35, j36, rfl⟩
 iterate 3 refine .uc ?_
 refine .bg (fun t (y : Bool) => ∃ j39 j40 j41 : A, t = [(bA y), j39, j40, j41]) ?_ ?_
 ·refine .biH (fun hk37 => ?_) (fun hk37 => ?_)
  ·refine .s (A.ptr 5 2) (.s (iA y6.1.Synced) ?_)
   refine .st (v := (bA (y6.1.Synced == 1))) (aBin_eql ..) ?_
   exact .lg ⟨_, _, _, rfl⟩
  exact .lg ⟨_, _, _, rfl⟩
 rintro _ y38 ⟨j39, j40, j41, rfl⟩
 iterate 4 refine .uc ?_
 refine .bg (fun t (y : Bool) => ∃ j44 j45 : A, t = [(bA y), j44, j45]) ?_ ?_
 ·refine .biH (fun hk42 => ?_) (fun hk42 => ?_)
  ·refine .st (v := (bA (y7.2 == 0))) (aBin_eql ..) ?_
   exact .lg ⟨_, _, rfl⟩
  exact .lg ⟨_, _, rfl⟩
 rintro _ y43 ⟨j44, j45, rfl⟩
 iterate 3 refine .uc ?_
 refine .bg (fun t (y : Bool) => ∃ j48 j49 j50 j51 : A, t = [(bA y), j48, j49, j50, j51]) ?_ ?_
 ·refine .biH (fun hk46 => ?_) (fun hk46 => ?_)
  ·refine .s (A.ptr 7 0) (.s (A.imm (List.map (cL c8) y7.1.Records) false) ?_)
   refine .st (v := (iA ((y7.1.Records.length : Int)))) (len_imm (e := 35) (h1 := by kernel_rfl) ..) ?_
   refine .st (v := (bA (((y7.1.Records.length : Int)) == 1))) (aBin_eql ..) ?_
   exact .lg ⟨_, _, _, _, rfl⟩
  exact .lg ⟨_, _, _, _, rfl⟩
 rintro _ y47 ⟨j48, j49, j50, j51, rfl⟩
 iterate 5 refine .uc ?_
 refine .bg (fun t (y : Bool) => ∃ j55 j56 j57 j58 j59 j60 : A, t = [(bA y), j55, j56, j57, j58, j59, j60]) ?_ ?_
 ·refine .biH (fun hk52 => ?_) (fun hk52 => ?_)
  ·refine .s (A.ptr 7 0) (.s (A.imm (List.map (cL c8) y7.1.Records) false) ?_)
   refine .bd (g := fun (y : (List UInt8)) => A.ip ((cL c8) y)) (idx_imm (e := 35) (es := 1) (h1 := by kernel_rfl) (h2 := by kernel_rfl) (h3 := fun _ => rfl) ..) fun y53 => ?_
   refine .s (A.imm (List.map c8 y53) false) ?_
   refine .st (v := (A.v (Value.string (bstr y53)))) (conv_bs (e := 5) (l := y53) (by kernel_rfl) (by kernel_rfl) (by kernel_rfl) (by kernel_rfl) (els_imm ..) rfl) ?_
   refine .st (v := (bA (strEq (bstr y53) ((ByteArray.mk #[97, 98]))))) (aBin_eql_s ..) ?_
   exact .lg ⟨_, _, _, _, _, _, rfl⟩
  exact .lg ⟨_, _, _, _, _, _, rfl⟩
 rintro _ y54 ⟨j55, j56, j57, j58, j59, j60, rfl⟩
 iterate 7 refine .uc ?_
 refine .bg (fun t (y : Bool) => ∃ j63 j64 : A, t = [(bA y), j63, j64]) ?_ ?_
 ·refine .biH (fun hk61 => ?_) (fun hk61 => ?_)
  ·refine .st (v := (bA (y8.2.2 == 50))) (aBin_eql ..) ?_
   exact .lg ⟨_, _, rfl⟩
  exact .lg ⟨_, _, rfl⟩
 rintro _ y62 ⟨j63, j64, rfl⟩
 iterate 3 refine .uc ?_
 refine .bg (fun t (y : Bool) => ∃ j68 j69 j70 : A, t = [(bA y), j68, j69, j70]) ?_ ?_
 ·refine .biH (fun hk65 => ?_) (fun hk65 => ?_)
  ·refine .s (A.agg [(A.imm [] true), (iA 0), (iA 0)]) ?_
   refine .bd (g := fun (y : Int) => (iA y)) (by show C 17 [snap _ (A.agg [(A.imm [] true), (iA 0), (iA 0)])] = _; simp only [sn0, snM]; exact h17 ((S_Journal.mk ([]) 0 0))) fun y66 => ?_
   refine .st (v := (bA (y66 == 1))) (aBin_eql ..) ?_
   exact .lg ⟨_, _, _, rfl⟩
  exact .lg ⟨_, _, _, rfl⟩
 rintro _ y67 ⟨j68, j69, j70, rfl⟩
 iterate 4 refine .uc ?_
 exact .lf rfl rfl ⟨_, rfl, rfl⟩
def G10  : Option Bool := F10 fuel0
def Orc10 (C : Nat -> List A -> Option A) : Prop := ∀ (_ : Unit), C 10 [] = (G10 ).map fun y => (bA y)
def F11_11_0 (n : Nat) (v1 : Bool) (v3 : (List (List UInt8))) (v4 : Int) (v6 : S_Disk) : Nat -> Int -> Int -> Option (Int)
 | 0, _, _ => none
 | m + 1, v2, v5 => bif (decide (v5 < v4)) then ((getI v3 v5).bind fun y8 => F11_11_0 n v1 v3 v4 v6 m (wr .i64 (v2 + (wr .i64 (1 + ((y8.length : Int)))))) (wr .i64 (v5 + 1))) else (some v2)
theorem T11_11_0 (C : Nat -> List A -> Option A) (n : Nat) (v1 : Bool) (v3 : (List (List UInt8))) (v4 : Int) (v6 : S_Disk) {ρ γ : Type} {φ : ρ -> γ -> Prop} {kL : R -> Option ρ} {K : (Int) -> Option γ} (kx kg : Nat -> St -> Option R) (kr : St -> Option R) (kp : A -> St -> Option R) (x0 : ∀ (o0 : Int) (s4 : A) (s8 : A) (s9 : A) (s10 : A), J φ (kx 0 (St.mk [(2, (A.ptr 0 0)), (4, s4), (5, (iA o0)), (8, s8), (9, s9), (10, s10)] [Blk.box (c_S_Disk v6)])) kL (K o0) some) :
  ∀ (m : Nat) (v2 : Int) (v5 : Int), J φ (loopR (cx C) (ec C n 8) (ey C n 8) (n+8) 11 0 0 1 kx kg kr kp m (St.mk [(2, (A.ptr 0 0)), (4, (bA v1)), (5, (iA v2)), (8, (A.imm (List.map (cL c8) v3) false)), (9, (iA v4)), (10, (iA v5))] [Blk.box (c_S_Disk v6)])) kL (F11_11_0 n v1 v3 v4 v6 m v2 v5) K := by
 intro m
 induction m with
 | zero => intros; exact .nn
 | succ m ih =>
  intro v2 v5
  refine .lp (e11_0 ..) ?_
  unfold F11_11_0
  refine .st (v := (bA (decide (v5 < v4)))) (aBin_lss ..) ?_
  refine .biHN (fun hk7 => ?_) (fun hk7 => ?_)
  ·refine .bd (g := fun (y : (List UInt8)) => A.ip ((cL c8) y)) (idx_imm (e := 35) (es := 1) (h1 := by kernel_rfl) (h2 := by kernel_rfl) (h3 := fun _ => rfl) ..) fun y8 => ?_
   refine .s (A.imm (List.map c8 y8) false) ?_
   refine .st (v := (iA ((y8.length : Int)))) (len_imm (e := 5) (h1 := by kernel_rfl) ..) ?_
   refine .st (v := (iA (wr .i64 (1 + ((y8.length : Int)))))) (aBin_add ..) ?_
   refine .st (v := (iA (wr .i64 (v2 + (wr .i64 (1 + ((y8.length : Int)))))))) (aBin_add ..) ?_
   refine .st (v := (iA (wr .i64 (v5 + 1)))) (aBin_add ..) ?_
   refine .s [Blk.box (c_S_Disk v6)] ?_
   refine .cT (by kernel_rfl) ?_
   exact ih _ _
  exact .ex (x0 _ _ _ _ _)
def F11 (n : Nat) (a0 : S_Disk) (a1 : (List (List UInt8))) : Option Bool :=
 (F11_11_0 n false a1 ((a1.length : Int)) a0 (n+8) 0 0).bind fun o9 => match o9 with | y10 => (bif (decide (((a0.Sectors.length : Int)) <= 40)) then (some (decide (((a0.Pending.length : Int)) <= 40))) else (some false)).bind fun y16 => (bif y16 then (some (decide (y10 <= 4000))) else (some false)).bind fun y22 => some y22
theorem T11 (C : Nat -> List A -> Option A) (n : Nat) (a0 : S_Disk) (a1 : (List (List UInt8))) : J (fun (o : R) y => ∃ v, o.1 = .ret v /\ snapE o.2 v = (bA y)) (evCall1 (cx C) (ec C n 8) (ey C n 8) (n+8) 11 [(A.agg (c_S_Disk a0)), (A.imm (List.map (cL c8) a1) false)] [] 0) some (F11 n a0 a1) some := by
 refine .lp (e11 ..) ?_
 unfold F11
 refine .s ((A.ptr 0 0), [Blk.box (c_S_Disk a0)]) ?_
 refine .st (v := (iA ((a1.length : Int)))) (len_imm (e := 35) (h1 := by kernel_rfl) ..) ?_
 refine .as (T11_11_0 C n  false a1 ((a1.length : Int)) a0 _ _ _ _ ?_ _ 0 0)
 ·intro y10 j11 j12 j13 j14
  refine .un rfl ?_
  refine .cT (by kernel_rfl) ?_
  refine .s (A.ptr 0 0) (.s (A.imm (List.map (cL c8) a0.Sectors) false) ?_)
  refine .st (v := (iA ((a0.Sectors.length : Int)))) (len_imm (e := 35) (h1 := by kernel_rfl) ..) ?_
  refine .st (v := (bA (decide (((a0.Sectors.length : Int)) <= 40)))) (aBin_leq ..) ?_
  refine .bg (fun t (y : Bool) => ∃ j17 j18 j19 j20 : A, t = [(bA y), j17, j18, j19, j20]) ?_ ?_
  ·refine .biH (fun hk15 => ?_) (fun hk15 => ?_)
   ·refine .s (A.ptr 0 1) (.s (A.imm (List.map c_S_Write a0.Pending) false) ?_)
    refine .st (v := (iA ((a0.Pending.length : Int)))) (len_imm (e := 76) (h1 := by kernel_rfl) ..) ?_
    refine .st (v := (bA (decide (((a0.Pending.length : Int)) <= 40)))) (aBin_leq ..) ?_
    exact .lg ⟨_, _, _, _, rfl⟩
   exact .lg ⟨_, _, _, _, rfl⟩
  rintro _ y16 ⟨j17, j18, j19, j20, rfl⟩
  iterate 5 refine .uc ?_
  refine .bg (fun t (y : Bool) => ∃ j23 j24 : A, t = [(bA y), j23, j24]) ?_ ?_
  ·refine .biH (fun hk21 => ?_) (fun hk21 => ?_)
   ·refine .st (v := (bA (decide (y10 <= 4000)))) (aBin_leq ..) ?_
    exact .lg ⟨_, _, rfl⟩
   exact .lg ⟨_, _, rfl⟩
  rintro _ y22 ⟨j23, j24, rfl⟩
  iterate 3 refine .uc ?_
  exact .lf rfl rfl ⟨_, rfl, rfl⟩
def G11 (a0 : S_Disk) (a1 : (List (List UInt8))) : Option Bool := F11 fuel0 a0 a1
def Orc11 (C : Nat -> List A -> Option A) : Prop := ∀ (a0 : S_Disk) (a1 : (List (List UInt8))), C 11 [(A.agg (c_S_Disk a0)), (A.imm (List.map (cL c8) a1) false)] = (G11 a0 a1).map fun y => (bA y)
def F39 (n : Nat) (a0 : Int) : Option Int :=
 some ((if 1 < wr .i64 (Int.tdiv (wr .i64 ((wr .i64 (a0 + 112)) - 1)) 112) then wr .i64 (Int.tdiv (wr .i64 ((wr .i64 (a0 + 112)) - 1)) 112) else 1))
theorem T39 (C : Nat -> List A -> Option A) (n : Nat) (a0 : Int) : J (fun (o : R) y => ∃ v, o.1 = .ret v /\ snapE o.2 v = (iA y)) (evCall1 (cx C) (ec C n 8) (ey C n 8) (n+8) 39 [(iA a0)] [] 0) some (F39 n a0) some := by
 refine .lp (e39 ..) ?_
 unfold F39
 refine .st (v := (iA (wr .i64 (a0 + 112)))) (aBin_add ..) ?_
 refine .st (v := (iA (wr .i64 ((wr .i64 (a0 + 112)) - 1)))) (aBin_sub ..) ?_
 refine .st (v := (iA (wr .i64 (Int.tdiv (wr .i64 ((wr .i64 (a0 + 112)) - 1)) 112)))) (aBin_quo (hb := by decide) ..) ?_
 refine .s (iA ((if 1 < wr .i64 (Int.tdiv (wr .i64 ((wr .i64 (a0 + 112)) - 1)) 112) then wr .i64 (Int.tdiv (wr .i64 ((wr .i64 (a0 + 112)) - 1)) 112) else 1))) ?_
 exact .lf rfl rfl ⟨_, rfl, rfl⟩
def G39 (a0 : Int) : Option Int := F39 fuel0 a0
def Orc39 (C : Nat -> List A -> Option A) : Prop := ∀ (a0 : Int), C 39 [(iA a0)] = (G39 a0).map fun y => (iA y)
def F40_40_0 (n : Nat) (v1 : (List (List UInt8))) (v2 : Int) : Nat -> Int -> Int -> Option (Int)
 | 0, _, _ => none
 | m + 1, v3, v4 => bif (decide (v4 < ((v1.length : Int)))) then ((getI v1 v4).bind fun y6 => (G39 ((y6.length : Int))).bind fun y7 => F40_40_0 n v1 v2 m (wr .i64 (v3 + y7)) (wr .i64 (v4 + 1))) else (some v3)
theorem T40_40_0 (C : Nat -> List A -> Option A) (n : Nat) (h39 : Orc39 C) (v1 : (List (List UInt8))) (v2 : Int) {ρ γ : Type} {φ : ρ -> γ -> Prop} {kL : R -> Option ρ} {K : (Int) -> Option γ} (kx kg : Nat -> St -> Option R) (kr : St -> Option R) (kp : A -> St -> Option R) (x0 : ∀ (o0 : Int) (s0 : A) (s2 : A) (s4 : A), J φ (kx 0 (St.mk [(0, s0), (2, s2), (3, (iA o0)), (4, s4)] [])) kL (K o0) some) :
  ∀ (m : Nat) (v3 : Int) (v4 : Int), J φ (loopR (cx C) (ec C n 8) (ey C n 8) (n+8) 40 0 0 0 kx kg kr kp m (St.mk [(0, (A.imm (List.map (cL c8) v1) false)), (2, (iA v2)), (3, (iA v3)), (4, (iA v4))] [])) kL (F40_40_0 n v1 v2 m v3 v4) K := by
 intro m
 induction m with
 | zero => intros; exact .nn
 | succ m ih =>
  intro v3 v4
  refine .lp (e40_0 ..) ?_
  unfold F40_40_0
  refine .st (v := (iA ((v1.length : Int)))) (len_imm (e := 35) (h1 := by kernel_rfl) ..) ?_
  refine .st (v := (bA (decide (v4 < ((v1.length : Int)))))) (aBin_lss ..) ?_
  refine .biHN (fun hk5 => ?_) (fun hk5 => ?_)
  ·refine .bd (g := fun (y : (List UInt8)) => A.ip ((cL c8) y)) (idx_imm (e := 35) (es := 1) (h1 := by kernel_rfl) (h2 := by kernel_rfl) (h3 := fun _ => rfl) ..) fun y6 => ?_
   refine .s (A.imm (List.map c8 y6) false) ?_
   refine .st (v := (iA ((y6.length : Int)))) (len_imm (e := 5) (h1 := by kernel_rfl) ..) ?_
   refine .bd (g := fun (y : Int) => (iA y)) (h39 ((y6.length : Int))) fun y7 => ?_
   refine .st (v := (iA (wr .i64 (v3 + y7)))) (aBin_add ..) ?_
   refine .st (v := (iA (wr .i64 (v4 + 1)))) (aBin_add ..) ?_
   refine .s [] ?_
   refine .cT (by kernel_rfl) ?_
   exact ih _ _
  exact .ex (x0 _ _ _ _)
def F40 (n : Nat) (a0 : (List (List UInt8))) : Option Int :=
 (F40_40_0 n a0 0 (n+8) 0 0).bind fun o8 => match o8 with | y9 => some y9
theorem T40 (C : Nat -> List A -> Option A) (n : Nat) (h39 : Orc39 C) (a0 : (List (List UInt8))) : J (fun (o : R) y => ∃ v, o.1 = .ret v /\ snapE o.2 v = (iA y)) (evCall1 (cx C) (ec C n 8) (ey C n 8) (n+8) 40 [(A.imm (List.map (cL c8) a0) false)] [] 0) some (F40 n a0) some := by
 refine .lp (e40 ..) ?_
 unfold F40
 refine .as (T40_40_0 C n h39 a0 0 _ _ _ _ ?_ _ 0 0)
 ·intro y9 j10 j11 j12
  refine .un rfl ?_
  refine .cT (by kernel_rfl) ?_
  exact .lf rfl rfl ⟨_, rfl, rfl⟩
def G40 (a0 : (List (List UInt8))) : Option Int := F40 fuel0 a0
def Orc40 (C : Nat -> List A -> Option A) : Prop := ∀ (a0 : (List (List UInt8))), C 40 [(A.imm (List.map (cL c8) a0) false)] = (G40 a0).map fun y => (iA y)
def F18 (n : Nat) (a0 : S_Journal) : Option Int :=
 (bif (decide (a0.Many < 1)) then (some true) else (some (decide (4096 < a0.Many)))).bind fun y2 => (bif y2 then (some true) else (some (decide (a0.Synced < 0)))).bind fun y7 => (bif y7 then (some true) else (some (decide (((a0.Records.length : Int)) < a0.Synced)))).bind fun y12 => bif y12 then ((some true).bind fun y24 => bif y24 then (some 1) else (some 0)) else ((G40 a0.Records).bind fun y20 => (some (decide (a0.Many < y20))).bind fun y21 => bif y21 then (some 1) else (some 0))
theorem T18 (C : Nat -> List A -> Option A) (n : Nat) (h40 : Orc40 C) (a0 : S_Journal) : J (fun (o : R) y => ∃ v, o.1 = .ret v /\ snapE o.2 v = (iA y)) (evCall1 (cx C) (ec C n 8) (ey C n 8) (n+8) 18 [(A.agg (c_S_Journal a0))] [] 0) some (F18 n a0) some := by
 refine .lp (e18 ..) ?_
 unfold F18
 refine .s ((A.ptr 0 0), [Blk.box (c_S_Journal a0)]) (.s (A.ptr 0 1) (.s (iA a0.Many) ?_))
 refine .st (v := (bA (decide (a0.Many < 1)))) (aBin_lss ..) ?_
 refine .bg (fun t (y : Bool) => ∃ j3 j4 j5 : A, t = [(bA y), j3, j4, j5]) ?_ ?_
 ·refine .biH (fun hk1 => ?_) (fun hk1 => ?_)
  ·exact .lg ⟨_, _, _, rfl⟩
  refine .s (A.ptr 0 1) (.s (iA a0.Many) ?_)
  refine .st (v := (bA (decide (4096 < a0.Many)))) (aBin_gtr ..) ?_
  exact .lg ⟨_, _, _, rfl⟩
 rintro _ y2 ⟨j3, j4, j5, rfl⟩
 iterate 4 refine .uc ?_
 refine .bg (fun t (y : Bool) => ∃ j8 j9 j10 : A, t = [(bA y), j8, j9, j10]) ?_ ?_
 ·refine .biH (fun hk6 => ?_) (fun hk6 => ?_)
  ·exact .lg ⟨_, _, _, rfl⟩
  refine .s (A.ptr 0 2) (.s (iA a0.Synced) ?_)
  refine .st (v := (bA (decide (a0.Synced < 0)))) (aBin_lss ..) ?_
  exact .lg ⟨_, _, _, rfl⟩
 rintro _ y7 ⟨j8, j9, j10, rfl⟩
 iterate 4 refine .uc ?_
 refine .bg (fun t (y : Bool) => ∃ j13 j14 j15 j16 j17 j18 : A, t = [(bA y), j13, j14, j15, j16, j17, j18]) ?_ ?_
 ·refine .biH (fun hk11 => ?_) (fun hk11 => ?_)
  ·exact .lg ⟨_, _, _, _, _, _, rfl⟩
  refine .s (A.ptr 0 2) (.s (iA a0.Synced) (.s (A.ptr 0 0) (.s (A.imm (List.map (cL c8) a0.Records) false) ?_)))
  refine .st (v := (iA ((a0.Records.length : Int)))) (len_imm (e := 35) (h1 := by kernel_rfl) ..) ?_
  refine .st (v := (bA (decide (((a0.Records.length : Int)) < a0.Synced)))) (aBin_gtr ..) ?_
  exact .lg ⟨_, _, _, _, _, _, rfl⟩
 rintro _ y12 ⟨j13, j14, j15, j16, j17, j18, rfl⟩
 iterate 7 refine .uc ?_
 refine .gsf (fun hc19 => ?_) (fun hc19 => ?_)
 ·refine .bb ?_
  refine .s (A.ptr 0 0) (.s (A.imm (List.map (cL c8) a0.Records) false) ?_)
  refine .bd (g := fun (y : Int) => (iA y)) (by show C 40 [snap _ (A.imm (List.map (cL c8) a0.Records) false)] = _; simp only [sn0, snM]; exact h40 a0.Records) fun y20 => ?_
  refine .s (A.ptr 0 1) (.s (iA a0.Many) ?_)
  refine .cr ?_
  iterate 5 refine .uc ?_
  refine .bg (fun t (y : Bool) => ∃ j22 : A, t = [(bA y), j22]) ?_ ?_
  ·refine .bKF hc19 ?_
   refine .st (v := (bA (decide (a0.Many < y20)))) (aBin_gtr ..) ?_
   exact .lg ⟨_, rfl⟩
  rintro _ y21 ⟨j22, rfl⟩
  iterate 2 refine .uc ?_
  refine .biHN (fun hk23 => ?_) (fun hk23 => ?_)
  ·exact .lf rfl rfl ⟨_, rfl, rfl⟩
  exact .lf rfl rfl ⟨_, rfl, rfl⟩
 refine .bb ?_
 refine .cr ?_
 iterate 5 refine .uc ?_
 refine .bg (fun t (y : Bool) => ∃ j25 : A, t = [(bA y), j25]) ?_ ?_
 ·refine .bKT hc19 ?_
  exact .lg ⟨_, rfl⟩
 rintro _ y24 ⟨j25, rfl⟩
 iterate 2 refine .uc ?_
 refine .biHN (fun hk26 => ?_) (fun hk26 => ?_)
 ·exact .lf rfl rfl ⟨_, rfl, rfl⟩
 exact .lf rfl rfl ⟨_, rfl, rfl⟩
def G18 (a0 : S_Journal) : Option Int := F18 fuel0 a0
def Orc18 (C : Nat -> List A -> Option A) : Prop := ∀ (a0 : S_Journal), C 18 [(A.agg (c_S_Journal a0))] = (G18 a0).map fun y => (iA y)
def F33_33_0 (n : Nat) (v22 : Int) (v23 : Int) (v25 : S_Disk) : Nat -> Int -> Option ((Int) ⊕ (Unit))
 | 0, _ => none
 | m + 1, v24 => bif (decide (v24 < v23)) then ((getI v25.Sectors v24).bind fun y27 => bif (((y27.length : Int)) != 128) then (some ((Sum.inl 40))) else (F33_33_0 n v22 v23 v25 m (wr .i64 (v24 + 1)))) else (some ((Sum.inr (()))))
theorem T33_33_0 (C : Nat -> List A -> Option A) (n : Nat) (v22 : Int) (v23 : Int) (v25 : S_Disk) {ρ γ : Type} {φ : ρ -> γ -> Prop} {kL : R -> Option ρ} {K : ((Int) ⊕ (Unit)) -> Option γ} (kx kg : Nat -> St -> Option R) (kr : St -> Option R) (kp : A -> St -> Option R) (x0 : ∀ (o0 : Int) (s1 : A) (s3 : A) (s4 : A), J φ (kr (St.mk [(1, s1), (2, (iA o0)), (3, s3), (4, s4)] [Blk.box (c_S_Disk v25)])) kL (K (Sum.inl o0)) some) (x1 : ∀ (s4 : A), J φ (kx 0 (St.mk [(1, (A.ptr 0 0)), (2, (iA v22)), (3, (iA v23)), (4, s4)] [Blk.box (c_S_Disk v25)])) kL (K (Sum.inr (()))) some) :
  ∀ (m : Nat) (v24 : Int), J φ (loopR (cx C) (ec C n 8) (ey C n 8) (n+8) 33 0 0 1 kx kg kr kp m (St.mk [(1, (A.ptr 0 0)), (2, (iA v22)), (3, (iA v23)), (4, (iA v24))] [Blk.box (c_S_Disk v25)])) kL (F33_33_0 n v22 v23 v25 m v24) K := by
 intro m
 induction m with
 | zero => intros; exact .nn
 | succ m ih =>
  intro v24
  refine .lp (e33_0 ..) ?_
  unfold F33_33_0
  refine .st (v := (bA (decide (v24 < v23)))) (aBin_lss ..) ?_
  refine .biHN (fun hk26 => ?_) (fun hk26 => ?_)
  ·refine .s (A.ptr 0 0) (.s (A.imm (List.map (cL c8) v25.Sectors) false) ?_)
   refine .bd (g := fun (y : (List UInt8)) => A.ip ((cL c8) y)) (idx_imm (e := 35) (es := 1) (h1 := by kernel_rfl) (h2 := by kernel_rfl) (h3 := fun _ => rfl) ..) fun y27 => ?_
   refine .s (A.imm (List.map c8 y27) false) ?_
   refine .st (v := (iA ((y27.length : Int)))) (len_imm (e := 5) (h1 := by kernel_rfl) ..) ?_
   refine .st (v := (bA (((y27.length : Int)) != 128))) (aBin_neq ..) ?_
   refine .biHN (fun hk28 => ?_) (fun hk28 => ?_)
   ·exact .ex (x0 _ _ _ _)
   refine .st (v := (iA (wr .i64 (v24 + 1)))) (aBin_add ..) ?_
   refine .s [Blk.box (c_S_Disk v25)] ?_
   refine .cT (by kernel_rfl) ?_
   exact ih _
  exact .ex (x1 _)
def F33_33_1 (n : Nat) (v35 : Int) (v36 : Int) (v38 : S_Disk) : Nat -> Int -> Option ((Int × Int × (List UInt8)) ⊕ (Unit))
 | 0, _ => none
 | m + 1, v37 => bif (decide (v37 < ((v38.Pending.length : Int)))) then ((getI v38.Pending v37).bind fun y40 => (bif (decide (y40.At < 0)) then (some true) else (some (decide (v36 <= y40.At)))).bind fun y42 => (bif y42 then (some true) else (some (((y40.Data.length : Int)) != 128))).bind fun y48 => bif y48 then (some ((Sum.inl ((40, y40.At, y40.Data))))) else (F33_33_1 n v35 v36 v38 m (wr .i64 (v37 + 1)))) else (some ((Sum.inr (()))))
theorem T33_33_1 (C : Nat -> List A -> Option A) (n : Nat) (v35 : Int) (v36 : Int) (v38 : S_Disk) {ρ γ : Type} {φ : ρ -> γ -> Prop} {kL : R -> Option ρ} {K : ((Int × Int × (List UInt8)) ⊕ (Unit)) -> Option γ} (kx kg : Nat -> St -> Option R) (kr : St -> Option R) (kp : A -> St -> Option R) (x0 : ∀ (o0 : Int) (o1 : Int) (o2 : (List UInt8)) (s1 : A) (s3 : A) (s5 : A), J φ (kr (St.mk [(1, s1), (2, (iA o0)), (3, s3), (5, s5)] [Blk.box (c_S_Disk v38), Blk.box [(iA o1), (A.imm (List.map c8 o2) false)]])) kL (K (Sum.inl ((o0, o1, o2)))) some) (x1 : ∀ (s1 : A) (s2 : A) (s3 : A) (s5 : A), J φ (kx 2 (St.mk [(1, s1), (2, s2), (3, s3), (5, s5)] [Blk.box (c_S_Disk v38)])) kL (K (Sum.inr (()))) some) :
  ∀ (m : Nat) (v37 : Int), J φ (loopR (cx C) (ec C n 8) (ey C n 8) (n+8) 33 0 1 1 kx kg kr kp m (St.mk [(1, (A.ptr 0 0)), (2, (iA v35)), (3, (iA v36)), (5, (iA v37))] [Blk.box (c_S_Disk v38)])) kL (F33_33_1 n v35 v36 v38 m v37) K := by
 intro m
 induction m with
 | zero => intros; exact .nn
 | succ m ih =>
  intro v37
  refine .lp (e33_1 ..) ?_
  unfold F33_33_1
  refine .s (A.ptr 0 1) (.s (A.imm (List.map c_S_Write v38.Pending) false) ?_)
  refine .st (v := (iA ((v38.Pending.length : Int)))) (len_imm (e := 76) (h1 := by kernel_rfl) ..) ?_
  refine .st (v := (bA (decide (v37 < ((v38.Pending.length : Int)))))) (aBin_lss ..) ?_
  refine .biHN (fun hk39 => ?_) (fun hk39 => ?_)
  ·refine .s (A.ptr 0 1) (.s (A.imm (List.map c_S_Write v38.Pending) false) ?_)
   refine .bd (g := fun (y : S_Write) => A.ip (c_S_Write y)) (idx_imm (e := 76) (es := 2) (h1 := by kernel_rfl) (h2 := by kernel_rfl) (h3 := fun _ => rfl) ..) fun y40 => ?_
   refine .s (A.agg [(iA y40.At), (A.imm (List.map c8 y40.Data) false)]) (.s ((A.ptr 1 0), [Blk.box (c_S_Disk v38), Blk.box [(iA 0), (A.imm [] true)]]) (.s [Blk.box (c_S_Disk v38), Blk.box [(iA y40.At), (A.imm (List.map c8 y40.Data) false)]] (.s (A.ptr 1 0) (.s (iA y40.At) ?_))))
   refine .st (v := (bA (decide (y40.At < 0)))) (aBin_lss ..) ?_
   refine .bg (fun t (y : Bool) => ∃ j43 j44 j45 j46 : A, t = [(bA y), j43, j44, j45, j46]) ?_ ?_
   ·refine .biH (fun hk41 => ?_) (fun hk41 => ?_)
    ·exact .lg ⟨_, _, _, _, rfl⟩
    refine .s (A.ptr 1 0) (.s (iA y40.At) ?_)
    refine .st (v := (bA (decide (v36 <= y40.At)))) (aBin_geq ..) ?_
    exact .lg ⟨_, _, _, _, rfl⟩
   rintro _ y42 ⟨j43, j44, j45, j46, rfl⟩
   iterate 5 refine .uc ?_
   refine .bg (fun t (y : Bool) => ∃ j49 j50 j51 j52 : A, t = [(bA y), j49, j50, j51, j52]) ?_ ?_
   ·refine .biH (fun hk47 => ?_) (fun hk47 => ?_)
    ·exact .lg ⟨_, _, _, _, rfl⟩
    refine .s (A.ptr 1 1) (.s (A.imm (List.map c8 y40.Data) false) ?_)
    refine .st (v := (iA ((y40.Data.length : Int)))) (len_imm (e := 5) (h1 := by kernel_rfl) ..) ?_
    refine .st (v := (bA (((y40.Data.length : Int)) != 128))) (aBin_neq ..) ?_
    exact .lg ⟨_, _, _, _, rfl⟩
   rintro _ y48 ⟨j49, j50, j51, j52, rfl⟩
   iterate 5 refine .uc ?_
   refine .biHN (fun hk53 => ?_) (fun hk53 => ?_)
   ·exact .ex (x0 _ _ _ _ _ _)
   refine .st (v := (iA (wr .i64 (v37 + 1)))) (aBin_add ..) ?_
   refine .st (v := [Blk.box (c_S_Disk v38)]) ((by kernel_rfl : _ = (bif ((((underss 1 (List.map (cL c8) v38.Sectors)) && ((underss 1 (List.map c_S_Write v38.Pending)) && true))) && true) then some [Blk.box (c_S_Disk v38)] else none)).trans (by simp only [un0, unS])) ?_
   refine .cT (by kernel_rfl) ?_
   exact ih _
  exact .ex (x1 _ _ _ _)
def F33 (n : Nat) (a0 : S_Disk) : Option Int :=
 (bif (decide (((a0.Sectors.length : Int)) < 1)) then (some true) else (some (decide (4096 < ((a0.Sectors.length : Int)))))).bind fun y2 => (bif y2 then (some true) else (some (decide (4096 < ((a0.Pending.length : Int)))))).bind fun y6 => (bif y6 then (some true) else (some (decide (a0.Left < (-1))))).bind fun y12 => (bif y12 then (some true) else (some (decide (65536 < a0.Left)))).bind fun y17 => bif y17 then (some 40) else ((F33_33_0 n 0 ((a0.Sectors.length : Int)) a0 (n+8) 0).bind fun o29 => match o29 with | (Sum.inl y30) => some y30 | (Sum.inr _) => (F33_33_1 n 0 ((a0.Sectors.length : Int)) a0 (n+8) 0).bind fun o54 => match o54 with | (Sum.inl ((y55, y56, y57))) => some y55 | (Sum.inr _) => some 0)
theorem T33 (C : Nat -> List A -> Option A) (n : Nat) (a0 : S_Disk) : J (fun (o : R) y => ∃ v, o.1 = .ret v /\ snapE o.2 v = (iA y)) (evCall1 (cx C) (ec C n 8) (ey C n 8) (n+8) 33 [(A.agg (c_S_Disk a0))] [] 0) some (F33 n a0) some := by
 refine .lp (e33 ..) ?_
 unfold F33
 refine .s ((A.ptr 0 0), [Blk.box (c_S_Disk a0)]) (.s (A.ptr 0 0) (.s (A.imm (List.map (cL c8) a0.Sectors) false) ?_))
 refine .st (v := (iA ((a0.Sectors.length : Int)))) (len_imm (e := 35) (h1 := by kernel_rfl) ..) ?_
 refine .st (v := (bA (decide (((a0.Sectors.length : Int)) < 1)))) (aBin_lss ..) ?_
 refine .bg (fun t (y : Bool) => ∃ j3 j4 : A, t = [(bA y), j3, j4]) ?_ ?_
 ·refine .biH (fun hk1 => ?_) (fun hk1 => ?_)
  ·exact .lg ⟨_, _, rfl⟩
  refine .st (v := (bA (decide (4096 < ((a0.Sectors.length : Int)))))) (aBin_gtr ..) ?_
  exact .lg ⟨_, _, rfl⟩
 rintro _ y2 ⟨j3, j4, rfl⟩
 iterate 3 refine .uc ?_
 refine .bg (fun t (y : Bool) => ∃ j7 j8 j9 j10 : A, t = [(bA y), j7, j8, j9, j10]) ?_ ?_
 ·refine .biH (fun hk5 => ?_) (fun hk5 => ?_)
  ·exact .lg ⟨_, _, _, _, rfl⟩
  refine .s (A.ptr 0 1) (.s (A.imm (List.map c_S_Write a0.Pending) false) ?_)
  refine .st (v := (iA ((a0.Pending.length : Int)))) (len_imm (e := 76) (h1 := by kernel_rfl) ..) ?_
  refine .st (v := (bA (decide (4096 < ((a0.Pending.length : Int)))))) (aBin_gtr ..) ?_
  exact .lg ⟨_, _, _, _, rfl⟩
 rintro _ y6 ⟨j7, j8, j9, j10, rfl⟩
 iterate 5 refine .uc ?_
 refine .bg (fun t (y : Bool) => ∃ j13 j14 j15 : A, t = [(bA y), j13, j14, j15]) ?_ ?_
 ·refine .biH (fun hk11 => ?_) (fun hk11 => ?_)
  ·exact .lg ⟨_, _, _, rfl⟩
  refine .s (A.ptr 0 2) (.s (iA a0.Left) ?_)
  refine .st (v := (bA (decide (a0.Left < (-1))))) (aBin_lss ..) ?_
  exact .lg ⟨_, _, _, rfl⟩
 rintro _ y12 ⟨j13, j14, j15, rfl⟩
 iterate 4 refine .uc ?_
 refine .bg (fun t (y : Bool) => ∃ j18 j19 j20 : A, t = [(bA y), j18, j19, j20]) ?_ ?_
 ·refine .biH (fun hk16 => ?_) (fun hk16 => ?_)
  ·exact .lg ⟨_, _, _, rfl⟩
  refine .s (A.ptr 0 2) (.s (iA a0.Left) ?_)
  refine .st (v := (bA (decide (65536 < a0.Left)))) (aBin_gtr ..) ?_
  exact .lg ⟨_, _, _, rfl⟩
 rintro _ y17 ⟨j18, j19, j20, rfl⟩
 iterate 4 refine .uc ?_
 refine .biHN (fun hk21 => ?_) (fun hk21 => ?_)
 ·exact .lf rfl rfl ⟨_, rfl, rfl⟩
 refine .as (T33_33_0 C n  0 ((a0.Sectors.length : Int)) a0 _ _ _ _ ?_ ?_ _ 0)
 ·intro y30 j31 j32 j33
  refine .un rfl ?_
  exact .lf rfl rfl ⟨_, rfl, rfl⟩
 ·intro j34
  refine .un rfl ?_
  refine .cT (by kernel_rfl) ?_
  refine .as (T33_33_1 C n  0 ((a0.Sectors.length : Int)) a0 _ _ _ _ ?_ ?_ _ 0)
  ·intro y55 y56 y57 j58 j59 j60
   refine .un rfl ?_
   exact .lf rfl rfl ⟨_, rfl, rfl⟩
  ·intro j61 j62 j63 j64
   refine .un rfl ?_
   refine .cT (by kernel_rfl) ?_
   exact .lf rfl rfl ⟨_, rfl, rfl⟩
def G33 (a0 : S_Disk) : Option Int := F33 fuel0 a0
def Orc33 (C : Nat -> List A -> Option A) : Prop := ∀ (a0 : S_Disk), C 33 [(A.agg (c_S_Disk a0))] = (G33 a0).map fun y => (iA y)
def F63_63_0 (n : Nat) (v1 : (List UInt8)) (v2 : Int) : Nat -> Int -> Int -> Option (Int)
 | 0, _, _ => none
 | m + 1, v3, v4 => bif (decide (v4 < ((v1.length : Int)))) then ((getI v1 v4).bind fun y6 => F63_63_0 n v1 v2 m (wr .u64 ((wr .u64 (256 * v3)) + (wr .u64 ((y6.toNat : Int))))) (wr .i64 (v4 + 1))) else (some v3)
theorem T63_63_0 (C : Nat -> List A -> Option A) (n : Nat) (v1 : (List UInt8)) (v2 : Int) {ρ γ : Type} {φ : ρ -> γ -> Prop} {kL : R -> Option ρ} {K : (Int) -> Option γ} (kx kg : Nat -> St -> Option R) (kr : St -> Option R) (kp : A -> St -> Option R) (x0 : ∀ (o0 : Int) (s0 : A) (s2 : A) (s4 : A), J φ (kx 0 (St.mk [(0, s0), (2, s2), (3, (A.v (.int .u64 o0))), (4, s4)] [])) kL (K o0) some) :
  ∀ (m : Nat) (v3 : Int) (v4 : Int), J φ (loopR (cx C) (ec C n 8) (ey C n 8) (n+8) 63 0 0 0 kx kg kr kp m (St.mk [(0, (A.imm (List.map c8 v1) false)), (2, (A.v (.int .u64 v2))), (3, (A.v (.int .u64 v3))), (4, (iA v4))] [])) kL (F63_63_0 n v1 v2 m v3 v4) K := by
 intro m
 induction m with
 | zero => intros; exact .nn
 | succ m ih =>
  intro v3 v4
  refine .lp (e63_0 ..) ?_
  unfold F63_63_0
  refine .st (v := (iA ((v1.length : Int)))) (len_imm (e := 5) (h1 := by kernel_rfl) ..) ?_
  refine .st (v := (bA (decide (v4 < ((v1.length : Int)))))) (aBin_lss ..) ?_
  refine .biHN (fun hk5 => ?_) (fun hk5 => ?_)
  ·refine .st (v := (A.v (.int .u64 (wr .u64 (256 * v3))))) (aBin_mul ..) ?_
   refine .bd (g := fun (y : UInt8) => A.ip (c8 y)) (idx_imm (e := 5) (es := 1) (h1 := by kernel_rfl) (h2 := by kernel_rfl) (h3 := fun _ => rfl) ..) fun y6 => ?_
   refine .s (uA ((y6.toNat : Int))) ?_
   refine .st (v := (A.v (.int .u64 (wr .u64 ((y6.toNat : Int)))))) (aConvert_int (hs := by kernel_rfl) (hd := by kernel_rfl) ..) ?_
   refine .st (v := (A.v (.int .u64 (wr .u64 ((wr .u64 (256 * v3)) + (wr .u64 ((y6.toNat : Int)))))))) (aBin_add ..) ?_
   refine .st (v := (iA (wr .i64 (v4 + 1)))) (aBin_add ..) ?_
   refine .s [] ?_
   refine .cT (by kernel_rfl) ?_
   exact ih _ _
  exact .ex (x0 _ _ _ _)
def F63 (n : Nat) (a0 : (List UInt8)) : Option Int :=
 (F63_63_0 n a0 0 (n+8) 0 0).bind fun o7 => match o7 with | y8 => some y8
theorem T63 (C : Nat -> List A -> Option A) (n : Nat) (a0 : (List UInt8)) : J (fun (o : R) y => ∃ v, o.1 = .ret v /\ snapE o.2 v = (A.v (.int .u64 y))) (evCall1 (cx C) (ec C n 8) (ey C n 8) (n+8) 63 [(A.imm (List.map c8 a0) false)] [] 0) some (F63 n a0) some := by
 refine .lp (e63 ..) ?_
 unfold F63
 refine .as (T63_63_0 C n  a0 0 _ _ _ _ ?_ _ 0 0)
 ·intro y8 j9 j10 j11
  refine .un rfl ?_
  refine .cT (by kernel_rfl) ?_
  exact .lf rfl rfl ⟨_, rfl, rfl⟩
def G63 (a0 : (List UInt8)) : Option Int := F63 fuel0 a0
def Orc63 (C : Nat -> List A -> Option A) : Prop := ∀ (a0 : (List UInt8)), C 63 [(A.imm (List.map c8 a0) false)] = (G63 a0).map fun y => (A.v (.int .u64 y))
def F45_45_0 (n : Nat) (v1 : (List (List UInt8))) (v2 : Int) : Nat -> Int -> Int -> Option (Int)
 | 0, _, _ => none
 | m + 1, v3, v4 => bif (decide (v4 < ((v1.length : Int)))) then ((getI v1 v4).bind fun y6 => (subI y6 0 4).bind fun y7 => (G63 y7).bind fun y8 => (getI v1 v4).bind fun y9 => (subI y9 124 ((y9.length : Int))).bind fun y10 => (G63 y10).bind fun y11 => F45_45_0 n v1 v2 m ((if (if v3 < y8 then y8 else v3) < y11 then y11 else (if v3 < y8 then y8 else v3))) (wr .i64 (v4 + 1))) else (some v3)
theorem T45_45_0 (C : Nat -> List A -> Option A) (n : Nat) (h63 : Orc63 C) (v1 : (List (List UInt8))) (v2 : Int) {ρ γ : Type} {φ : ρ -> γ -> Prop} {kL : R -> Option ρ} {K : (Int) -> Option γ} (kx kg : Nat -> St -> Option R) (kr : St -> Option R) (kp : A -> St -> Option R) (x0 : ∀ (o0 : Int) (s0 : A) (s2 : A) (s4 : A), J φ (kx 0 (St.mk [(0, s0), (2, s2), (3, (A.v (.int .u64 o0))), (4, s4)] [])) kL (K o0) some) :
  ∀ (m : Nat) (v3 : Int) (v4 : Int), J φ (loopR (cx C) (ec C n 8) (ey C n 8) (n+8) 45 0 0 0 kx kg kr kp m (St.mk [(0, (A.imm (List.map (cL c8) v1) false)), (2, (A.v (.int .u64 v2))), (3, (A.v (.int .u64 v3))), (4, (iA v4))] [])) kL (F45_45_0 n v1 v2 m v3 v4) K := by
 intro m
 induction m with
 | zero => intros; exact .nn
 | succ m ih =>
  intro v3 v4
  refine .lp (e45_0 ..) ?_
  unfold F45_45_0
  refine .st (v := (iA ((v1.length : Int)))) (len_imm (e := 35) (h1 := by kernel_rfl) ..) ?_
  refine .st (v := (bA (decide (v4 < ((v1.length : Int)))))) (aBin_lss ..) ?_
  refine .biHN (fun hk5 => ?_) (fun hk5 => ?_)
  ·refine .bd (g := fun (y : (List UInt8)) => A.ip ((cL c8) y)) (idx_imm (e := 35) (es := 1) (h1 := by kernel_rfl) (h2 := by kernel_rfl) (h3 := fun _ => rfl) ..) fun y6 => ?_
   refine .s (A.imm (List.map c8 y6) false) ?_
   refine .bd (g := fun (y : List UInt8) => (A.imm (List.map c8 y) false)) (cut_imm (e := 5) (es := 1) (f := c8) (l := y6) (a := 0) (b := 4) (by kernel_rfl) (by kernel_rfl) (fun _ => rfl) (.inl ⟨rfl, rfl⟩) (.inr ⟨_, rfl⟩)) fun y7 => ?_
   refine .bd (g := fun (y : Int) => (A.v (.int .u64 y))) (by show C 63 [snap _ (A.imm (List.map c8 y7) false)] = _; simp only [sn0, snM]; exact h63 y7) fun y8 => ?_
   refine .bd (g := fun (y : (List UInt8)) => A.ip ((cL c8) y)) (idx_imm (e := 35) (es := 1) (h1 := by kernel_rfl) (h2 := by kernel_rfl) (h3 := fun _ => rfl) ..) fun y9 => ?_
   refine .s (A.imm (List.map c8 y9) false) ?_
   refine .bd (g := fun (y : List UInt8) => (A.imm (List.map c8 y) false)) (cut_imm (e := 5) (es := 1) (f := c8) (l := y9) (a := 124) (b := (y9.length : Int)) (by kernel_rfl) (by kernel_rfl) (fun _ => rfl) (.inr ⟨_, rfl⟩) (.inl ⟨rfl, rfl⟩)) fun y10 => ?_
   refine .bd (g := fun (y : Int) => (A.v (.int .u64 y))) (by show C 63 [snap _ (A.imm (List.map c8 y10) false)] = _; simp only [sn0, snM]; exact h63 y10) fun y11 => ?_
   refine .s (A.v (.int .u64 ((if (if v3 < y8 then y8 else v3) < y11 then y11 else (if v3 < y8 then y8 else v3))))) ?_
   refine .st (v := (iA (wr .i64 (v4 + 1)))) (aBin_add ..) ?_
   refine .s [] ?_
   refine .cT (by kernel_rfl) ?_
   exact ih _ _
  exact .ex (x0 _ _ _ _)
def F45 (n : Nat) (a0 : (List (List UInt8))) : Option Int :=
 (F45_45_0 n a0 0 (n+8) 0 0).bind fun o12 => match o12 with | y13 => some (wr .u64 (y13 + 1))
theorem T45 (C : Nat -> List A -> Option A) (n : Nat) (h63 : Orc63 C) (a0 : (List (List UInt8))) : J (fun (o : R) y => ∃ v, o.1 = .ret v /\ snapE o.2 v = (A.v (.int .u64 y))) (evCall1 (cx C) (ec C n 8) (ey C n 8) (n+8) 45 [(A.imm (List.map (cL c8) a0) false)] [] 0) some (F45 n a0) some := by
 refine .lp (e45 ..) ?_
 unfold F45
 refine .as (T45_45_0 C n h63 a0 0 _ _ _ _ ?_ _ 0 0)
 ·intro y13 j14 j15 j16
  refine .un rfl ?_
  refine .cT (by kernel_rfl) ?_
  refine .st (v := (A.v (.int .u64 (wr .u64 (y13 + 1))))) (aBin_add ..) ?_
  exact .lf rfl rfl ⟨_, rfl, rfl⟩
def G45 (a0 : (List (List UInt8))) : Option Int := F45 fuel0 a0
def Orc45 (C : Nat -> List A -> Option A) : Prop := ∀ (a0 : (List (List UInt8))), C 45 [(A.imm (List.map (cL c8) a0) false)] = (G45 a0).map fun y => (A.v (.int .u64 y))
def F67_67_1 (n : Nat) (v7 : (List UInt8)) (v8 : Int) (v10 : Int) : Nat -> Int -> Int -> Option (Int)
 | 0, _, _ => none
 | m + 1, v9, v11 => bif (decide (v11 < 8)) then (bif ((Int.tmod v9 2) == 1) then (F67_67_1 n v7 v8 v10 m (xorI .u32 (shrI .u32 v9 1) 3988292384) (wr .i64 (v11 + 1))) else (F67_67_1 n v7 v8 v10 m (shrI .u32 v9 1) (wr .i64 (v11 + 1)))) else (some v9)
theorem T67_67_1 (C : Nat -> List A -> Option A) (n : Nat) (v7 : (List UInt8)) (v8 : Int) (v10 : Int) {ρ γ : Type} {φ : ρ -> γ -> Prop} {kL : R -> Option ρ} {K : (Int) -> Option γ} (kx kg : Nat -> St -> Option R) (kr : St -> Option R) (kp : A -> St -> Option R) (x0 : ∀ (o0 : Int) (s5 : A), J φ (kx 2 (St.mk [(0, (A.imm (List.map c8 v7) false)), (2, (A.v (.int .u32 v8))), (3, (A.v (.int .u32 o0))), (4, (iA v10)), (5, s5)] [])) kL (K o0) some) :
  ∀ (m : Nat) (v9 : Int) (v11 : Int), J φ (loopR (cx C) (ec C n 8) (ey C n 8) (n+8) 67 0 1 0 kx kg kr kp m (St.mk [(0, (A.imm (List.map c8 v7) false)), (2, (A.v (.int .u32 v8))), (3, (A.v (.int .u32 v9))), (4, (iA v10)), (5, (iA v11))] [])) kL (F67_67_1 n v7 v8 v10 m v9 v11) K := by
 intro m
 induction m with
 | zero => intros; exact .nn
 | succ m ih =>
  intro v9 v11
  refine .lp (e67_1 ..) ?_
  unfold F67_67_1
  refine .st (v := (bA (decide (v11 < 8)))) (aBin_lss ..) ?_
  refine .biHN (fun hk12 => ?_) (fun hk12 => ?_)
  ·refine .st (v := (A.v (.int .u32 (Int.tmod v9 2)))) (aBin_rem (hb := by decide) ..) ?_
   refine .st (v := (bA ((Int.tmod v9 2) == 1))) (aBin_eql ..) ?_
   refine .biHN (fun hk13 => ?_) (fun hk13 => ?_)
   ·refine .st (v := (A.v (.int .u32 (shrI .u32 v9 1)))) (aBin_shr (hb := by decide) ..) ?_
    refine .st (v := (A.v (.int .u32 (xorI .u32 (shrI .u32 v9 1) 3988292384)))) (aBin_bits_xor ..) ?_
    refine .st (v := (iA (wr .i64 (v11 + 1)))) (aBin_add ..) ?_
    refine .s [] ?_
    refine .cT (by kernel_rfl) ?_
    exact ih _ _
   refine .st (v := (A.v (.int .u32 (shrI .u32 v9 1)))) (aBin_shr (hb := by decide) ..) ?_
   refine .st (v := (iA (wr .i64 (v11 + 1)))) (aBin_add ..) ?_
   refine .s [] ?_
   refine .cT (by kernel_rfl) ?_
   exact ih _ _
  exact .ex (x0 _ _)
def F67_67_0 (n : Nat) (v1 : (List UInt8)) (v2 : Int) : Nat -> Int -> Int -> Option (Int)
 | 0, _, _ => none
 | m + 1, v3, v4 => bif (decide (v4 < ((v1.length : Int)))) then ((getI v1 v4).bind fun y6 => (F67_67_1 n v1 v2 v4 (n+8) (xorI .u32 v3 (wr .u32 ((y6.toNat : Int)))) 0).bind fun o14 => match o14 with | y15 => F67_67_0 n v1 v2 m y15 (wr .i64 (v4 + 1))) else (some v3)
theorem T67_67_0 (C : Nat -> List A -> Option A) (n : Nat) (v1 : (List UInt8)) (v2 : Int) {ρ γ : Type} {φ : ρ -> γ -> Prop} {kL : R -> Option ρ} {K : (Int) -> Option γ} (kx kg : Nat -> St -> Option R) (kr : St -> Option R) (kp : A -> St -> Option R) (x0 : ∀ (o0 : Int) (s0 : A) (s2 : A) (s4 : A), J φ (kx 0 (St.mk [(0, s0), (2, s2), (3, (A.v (.int .u32 o0))), (4, s4)] [])) kL (K o0) some) :
  ∀ (m : Nat) (v3 : Int) (v4 : Int), J φ (loopR (cx C) (ec C n 8) (ey C n 8) (n+8) 67 0 0 0 kx kg kr kp m (St.mk [(0, (A.imm (List.map c8 v1) false)), (2, (A.v (.int .u32 v2))), (3, (A.v (.int .u32 v3))), (4, (iA v4))] [])) kL (F67_67_0 n v1 v2 m v3 v4) K := by
 intro m
 induction m with
 | zero => intros; exact .nn
 | succ m ih =>
  intro v3 v4
  refine .lp (e67_0 ..) ?_
  unfold F67_67_0
  refine .st (v := (iA ((v1.length : Int)))) (len_imm (e := 5) (h1 := by kernel_rfl) ..) ?_
  refine .st (v := (bA (decide (v4 < ((v1.length : Int)))))) (aBin_lss ..) ?_
  refine .biHN (fun hk5 => ?_) (fun hk5 => ?_)
  ·refine .bd (g := fun (y : UInt8) => A.ip (c8 y)) (idx_imm (e := 5) (es := 1) (h1 := by kernel_rfl) (h2 := by kernel_rfl) (h3 := fun _ => rfl) ..) fun y6 => ?_
   refine .s (uA ((y6.toNat : Int))) ?_
   refine .st (v := (A.v (.int .u32 (wr .u32 ((y6.toNat : Int)))))) (aConvert_int (hs := by kernel_rfl) (hd := by kernel_rfl) ..) ?_
   refine .st (v := (A.v (.int .u32 (xorI .u32 v3 (wr .u32 ((y6.toNat : Int))))))) (aBin_bits_xor ..) ?_
   refine .as (T67_67_1 C n  v1 v2 v4 _ _ _ _ ?_ _ (xorI .u32 v3 (wr .u32 ((y6.toNat : Int)))) 0)
   ·intro y15 j16
    refine .un rfl ?_
    refine .cT (by kernel_rfl) ?_
    refine .st (v := (iA (wr .i64 (v4 + 1)))) (aBin_add ..) ?_
    refine .s [] ?_
    refine .cT (by kernel_rfl) ?_
    exact ih _ _
  exact .ex (x0 _ _ _ _)
def F67 (n : Nat) (a0 : (List UInt8)) : Option Int :=
 (F67_67_0 n a0 0 (n+8) 4294967295 0).bind fun o17 => match o17 with | y18 => some (xorI .u32 y18 4294967295)
theorem T67 (C : Nat -> List A -> Option A) (n : Nat) (a0 : (List UInt8)) : J (fun (o : R) y => ∃ v, o.1 = .ret v /\ snapE o.2 v = (A.v (.int .u32 y))) (evCall1 (cx C) (ec C n 8) (ey C n 8) (n+8) 67 [(A.imm (List.map c8 a0) false)] [] 0) some (F67 n a0) some := by
 refine .lp (e67 ..) ?_
 unfold F67
 refine .as (T67_67_0 C n  a0 0 _ _ _ _ ?_ _ 4294967295 0)
 ·intro y18 j19 j20 j21
  refine .un rfl ?_
  refine .cT (by kernel_rfl) ?_
  refine .st (v := (A.v (.int .u32 (xorI .u32 y18 4294967295)))) (aBin_bits_xor ..) ?_
  exact .lf rfl rfl ⟨_, rfl, rfl⟩
def G67 (a0 : (List UInt8)) : Option Int := F67 fuel0 a0
def Orc67 (C : Nat -> List A -> Option A) : Prop := ∀ (a0 : (List UInt8)), C 67 [(A.imm (List.map c8 a0) false)] = (G67 a0).map fun y => (A.v (.int .u32 y))
def F72_72_0 (n : Nat) (v79 : (List UInt8)) (v80 : Bool) : Nat -> Int -> Option ((Bool) ⊕ (Unit))
 | 0, _ => none
 | m + 1, v81 => bif (decide (v81 < 124)) then ((getI v79 v81).bind fun y83 => bif (((y83.toNat : Int)) != 0) then (some ((Sum.inl false))) else (F72_72_0 n v79 v80 m (wr .i64 (v81 + 1)))) else (some ((Sum.inr (()))))
theorem T72_72_0 (C : Nat -> List A -> Option A) (n : Nat) (h63 : Orc63 C) (h67 : Orc67 C) (v79 : (List UInt8)) (v80 : Bool) {ρ γ : Type} {φ : ρ -> γ -> Prop} {kL : R -> Option ρ} {K : ((Bool) ⊕ (Unit)) -> Option γ} (kx kg : Nat -> St -> Option R) (kr : St -> Option R) (kp : A -> St -> Option R) (x0 : ∀ (o0 : Bool) (s0 : A) (s6 : A), J φ (kr (St.mk [(0, s0), (4, (bA o0)), (6, s6)] [])) kL (K (Sum.inl o0)) some) (x1 : ∀ (s0 : A) (s4 : A) (s6 : A), J φ (kx 0 (St.mk [(0, s0), (4, s4), (6, s6)] [])) kL (K (Sum.inr (()))) some) :
  ∀ (m : Nat) (v81 : Int), J φ (loopR (cx C) (ec C n 8) (ey C n 8) (n+8) 72 0 0 0 kx kg kr kp m (St.mk [(0, (A.imm (List.map c8 v79) false)), (4, (bA v80)), (6, (iA v81))] [])) kL (F72_72_0 n v79 v80 m v81) K := by
 intro m
 induction m with
 | zero => intros; exact .nn
 | succ m ih =>
  intro v81
  refine .lp (e72_0 ..) ?_
  unfold F72_72_0
  refine .st (v := (bA (decide (v81 < 124)))) (aBin_lss ..) ?_
  refine .biHN (fun hk82 => ?_) (fun hk82 => ?_)
  ·refine .bd (g := fun (y : UInt8) => A.ip (c8 y)) (idx_imm (e := 5) (es := 1) (h1 := by kernel_rfl) (h2 := by kernel_rfl) (h3 := fun _ => rfl) ..) fun y83 => ?_
   refine .s (uA ((y83.toNat : Int))) ?_
   refine .st (v := (bA (((y83.toNat : Int)) != 0))) (aBin_neq ..) ?_
   refine .biHN (fun hk84 => ?_) (fun hk84 => ?_)
   ·exact .ex (x0 _ _ _)
   refine .st (v := (iA (wr .i64 (v81 + 1)))) (aBin_add ..) ?_
   refine .s [] ?_
   refine .cT (by kernel_rfl) ?_
   exact ih _
  exact .ex (x1 _ _ _)
def F72 (n : Nat) (a0 : (List UInt8)) (a1 : Int) : Option Bool :=
 (getI a0 11).bind fun y1 => (subI a0 0 4).bind fun y2 => (G63 y2).bind fun y3 => (bif (y3 == 0) then (some true) else ((subI a0 0 4).bind fun y5 => (G63 y5).bind fun y6 => (subI a0 124 ((a0.length : Int))).bind fun y7 => (G63 y7).bind fun y8 => some (y6 != y8))).bind fun y9 => (bif y9 then (some true) else ((subI a0 4 8).bind fun y18 => (G63 y18).bind fun y19 => (subI a0 8 124).bind fun y20 => (G67 y20).bind fun y21 => some ((wr .u32 (y19)) != y21))).bind fun y22 => bif y22 then ((some true).bind fun y92 => (bif y92 then (some true) else ((getI a0 10).bind fun y95 => some (decide (3 < ((y95.toNat : Int)))))).bind fun y96 => (bif y96 then (some true) else (some (decide (112 < (wr .i64 ((y1.toNat : Int))))))).bind fun y102 => (bif y102 then (some true) else ((getI a0 10).bind fun y106 => (bif (decide (((y106.toNat : Int)) < 2)) then (some ((wr .i64 ((y1.toNat : Int))) != 112)) else (some false)).bind fun y108 => some y108)).bind fun y111 => (bif y111 then (some true) else ((getI a0 10).bind fun y121 => (bif ((Int.tmod ((y121.toNat : Int)) 2) == 0) then (some ((wr .i64 ((y1.toNat : Int))) == 0)) else (some false)).bind fun y123 => some y123)).bind fun y126 => bif y126 then (some false) else ((F72_72_0 n a0 false (n+8) (wr .i64 (12 + (wr .i64 ((y1.toNat : Int)))))).bind fun o143 => match o143 with | (Sum.inl y144) => some y144 | (Sum.inr _) => some true)) else ((subI a0 8 10).bind fun y32 => (G63 y32).bind fun y33 => (some (y33 != (wr .u64 (a1)))).bind fun y34 => (bif y34 then (some true) else ((getI a0 10).bind fun y37 => some (decide (3 < ((y37.toNat : Int)))))).bind fun y38 => (bif y38 then (some true) else (some (decide (112 < (wr .i64 ((y1.toNat : Int))))))).bind fun y44 => (bif y44 then (some true) else ((getI a0 10).bind fun y48 => (bif (decide (((y48.toNat : Int)) < 2)) then (some ((wr .i64 ((y1.toNat : Int))) != 112)) else (some false)).bind fun y50 => some y50)).bind fun y53 => (bif y53 then (some true) else ((getI a0 10).bind fun y63 => (bif ((Int.tmod ((y63.toNat : Int)) 2) == 0) then (some ((wr .i64 ((y1.toNat : Int))) == 0)) else (some false)).bind fun y65 => some y65)).bind fun y68 => bif y68 then (some false) else ((F72_72_0 n a0 false (n+8) (wr .i64 (12 + (wr .i64 ((y1.toNat : Int)))))).bind fun o85 => match o85 with | (Sum.inl y86) => some y86 | (Sum.inr _) => some true))
theorem T72 (C : Nat -> List A -> Option A) (n : Nat) (h63 : Orc63 C) (h67 : Orc67 C) (a0 : (List UInt8)) (a1 : Int) : J (fun (o : R) y => ∃ v, o.1 = .ret v /\ snapE o.2 v = (bA y)) (evCall1 (cx C) (ec C n 8) (ey C n 8) (n+8) 72 [(A.imm (List.map c8 a0) false), (iA a1)] [] 0) some (F72 n a0 a1) some := by
 refine .lp (e72 ..) ?_
 unfold F72
 refine .bd (g := fun (y : UInt8) => A.ip (c8 y)) (idx_imm (e := 5) (es := 1) (h1 := by kernel_rfl) (h2 := by kernel_rfl) (h3 := fun _ => rfl) ..) fun y1 => ?_
 refine .s (uA ((y1.toNat : Int))) ?_
 refine .st (v := (iA (wr .i64 ((y1.toNat : Int))))) (aConvert_int (hs := by kernel_rfl) (hd := by kernel_rfl) ..) ?_
 refine .bd (g := fun (y : List UInt8) => (A.imm (List.map c8 y) false)) (cut_imm (e := 5) (es := 1) (f := c8) (l := a0) (a := 0) (b := 4) (by kernel_rfl) (by kernel_rfl) (fun _ => rfl) (.inl ⟨rfl, rfl⟩) (.inr ⟨_, rfl⟩)) fun y2 => ?_
 refine .bd (g := fun (y : Int) => (A.v (.int .u64 y))) (by show C 63 [snap _ (A.imm (List.map c8 y2) false)] = _; simp only [sn0, snM]; exact h63 y2) fun y3 => ?_
 refine .st (v := (bA (y3 == 0))) (aBin_eql ..) ?_
 refine .bg (fun t (y : Bool) => ∃ j10 j11 j12 j13 j14 j15 j16 : A, t = [(bA y), j10, j11, j12, j13, j14, j15, j16]) ?_ ?_
 ·refine .biH (fun hk4 => ?_) (fun hk4 => ?_)
  ·exact .lg ⟨_, _, _, _, _, _, _, rfl⟩
  refine .bd (g := fun (y : List UInt8) => (A.imm (List.map c8 y) false)) (cut_imm (e := 5) (es := 1) (f := c8) (l := a0) (a := 0) (b := 4) (by kernel_rfl) (by kernel_rfl) (fun _ => rfl) (.inl ⟨rfl, rfl⟩) (.inr ⟨_, rfl⟩)) fun y5 => ?_
  refine .bd (g := fun (y : Int) => (A.v (.int .u64 y))) (by show C 63 [snap _ (A.imm (List.map c8 y5) false)] = _; simp only [sn0, snM]; exact h63 y5) fun y6 => ?_
  refine .bd (g := fun (y : List UInt8) => (A.imm (List.map c8 y) false)) (cut_imm (e := 5) (es := 1) (f := c8) (l := a0) (a := 124) (b := (a0.length : Int)) (by kernel_rfl) (by kernel_rfl) (fun _ => rfl) (.inr ⟨_, rfl⟩) (.inl ⟨rfl, rfl⟩)) fun y7 => ?_
  refine .bd (g := fun (y : Int) => (A.v (.int .u64 y))) (by show C 63 [snap _ (A.imm (List.map c8 y7) false)] = _; simp only [sn0, snM]; exact h63 y7) fun y8 => ?_
  refine .st (v := (bA (y6 != y8))) (aBin_neq ..) ?_
  exact .lg ⟨_, _, _, _, _, _, _, rfl⟩
 rintro _ y9 ⟨j10, j11, j12, j13, j14, j15, j16, rfl⟩
 iterate 8 refine .uc ?_
 refine .bg (fun t (y : Bool) => ∃ j23 j24 j25 j26 j27 j28 j29 j30 : A, t = [(bA y), j23, j24, j25, j26, j27, j28, j29, j30]) ?_ ?_
 ·refine .biH (fun hk17 => ?_) (fun hk17 => ?_)
  ·exact .lg ⟨_, _, _, _, _, _, _, _, rfl⟩
  refine .bd (g := fun (y : List UInt8) => (A.imm (List.map c8 y) false)) (cut_imm (e := 5) (es := 1) (f := c8) (l := a0) (a := 4) (b := 8) (by kernel_rfl) (by kernel_rfl) (fun _ => rfl) (.inr ⟨_, rfl⟩) (.inr ⟨_, rfl⟩)) fun y18 => ?_
  refine .bd (g := fun (y : Int) => (A.v (.int .u64 y))) (by show C 63 [snap _ (A.imm (List.map c8 y18) false)] = _; simp only [sn0, snM]; exact h63 y18) fun y19 => ?_
  refine .st (v := (A.v (.int .u32 (wr .u32 (y19))))) (aConvert_int (hs := by kernel_rfl) (hd := by kernel_rfl) ..) ?_
  refine .bd (g := fun (y : List UInt8) => (A.imm (List.map c8 y) false)) (cut_imm (e := 5) (es := 1) (f := c8) (l := a0) (a := 8) (b := 124) (by kernel_rfl) (by kernel_rfl) (fun _ => rfl) (.inr ⟨_, rfl⟩) (.inr ⟨_, rfl⟩)) fun y20 => ?_
  refine .bd (g := fun (y : Int) => (A.v (.int .u32 y))) (by show C 67 [snap _ (A.imm (List.map c8 y20) false)] = _; simp only [sn0, snM]; exact h67 y20) fun y21 => ?_
  refine .st (v := (bA ((wr .u32 (y19)) != y21))) (aBin_neq ..) ?_
  exact .lg ⟨_, _, _, _, _, _, _, _, rfl⟩
 rintro _ y22 ⟨j23, j24, j25, j26, j27, j28, j29, j30, rfl⟩
 iterate 9 refine .uc ?_
 refine .gsf (fun hc31 => ?_) (fun hc31 => ?_)
 ·refine .bb ?_
  refine .bd (g := fun (y : List UInt8) => (A.imm (List.map c8 y) false)) (cut_imm (e := 5) (es := 1) (f := c8) (l := a0) (a := 8) (b := 10) (by kernel_rfl) (by kernel_rfl) (fun _ => rfl) (.inr ⟨_, rfl⟩) (.inr ⟨_, rfl⟩)) fun y32 => ?_
  refine .bd (g := fun (y : Int) => (A.v (.int .u64 y))) (by show C 63 [snap _ (A.imm (List.map c8 y32) false)] = _; simp only [sn0, snM]; exact h63 y32) fun y33 => ?_
  refine .st (v := (A.v (.int .u64 (wr .u64 (a1))))) (aConvert_int (hs := by kernel_rfl) (hd := by kernel_rfl) ..) ?_
  refine .cr ?_
  iterate 5 refine .uc ?_
  refine .bg (fun t (y : Bool) => ∃ j35 : A, t = [(bA y), j35]) ?_ ?_
  ·refine .bKF hc31 ?_
   refine .st (v := (bA (y33 != (wr .u64 (a1))))) (aBin_neq ..) ?_
   exact .lg ⟨_, rfl⟩
  rintro _ y34 ⟨j35, rfl⟩
  iterate 2 refine .uc ?_
  refine .bg (fun t (y : Bool) => ∃ j39 j40 j41 j42 : A, t = [(bA y), j39, j40, j41, j42]) ?_ ?_
  ·refine .biH (fun hk36 => ?_) (fun hk36 => ?_)
   ·exact .lg ⟨_, _, _, _, rfl⟩
   refine .bd (g := fun (y : UInt8) => A.ip (c8 y)) (idx_imm (e := 5) (es := 1) (h1 := by kernel_rfl) (h2 := by kernel_rfl) (h3 := fun _ => rfl) ..) fun y37 => ?_
   refine .s (uA ((y37.toNat : Int))) ?_
   refine .st (v := (bA (decide (3 < ((y37.toNat : Int)))))) (aBin_gtr ..) ?_
   exact .lg ⟨_, _, _, _, rfl⟩
  rintro _ y38 ⟨j39, j40, j41, j42, rfl⟩
  iterate 5 refine .uc ?_
  refine .bg (fun t (y : Bool) => ∃ j45 j46 : A, t = [(bA y), j45, j46]) ?_ ?_
  ·refine .biH (fun hk43 => ?_) (fun hk43 => ?_)
   ·exact .lg ⟨_, _, rfl⟩
   refine .st (v := (bA (decide (112 < (wr .i64 ((y1.toNat : Int))))))) (aBin_gtr ..) ?_
   exact .lg ⟨_, _, rfl⟩
  rintro _ y44 ⟨j45, j46, rfl⟩
  iterate 3 refine .uc ?_
  refine .bg (fun t (y : Bool) => ∃ j54 j55 j56 j57 j58 j59 j60 j61 : A, t = [(bA y), j54, j55, j56, j57, j58, j59, j60, j61]) ?_ ?_
  ·refine .biH (fun hk47 => ?_) (fun hk47 => ?_)
   ·exact .lg ⟨_, _, _, _, _, _, _, _, rfl⟩
   refine .bd (g := fun (y : UInt8) => A.ip (c8 y)) (idx_imm (e := 5) (es := 1) (h1 := by kernel_rfl) (h2 := by kernel_rfl) (h3 := fun _ => rfl) ..) fun y48 => ?_
   refine .s (uA ((y48.toNat : Int))) ?_
   refine .st (v := (bA (decide (((y48.toNat : Int)) < 2)))) (aBin_lss ..) ?_
   refine .bg (fun t (y : Bool) => ∃ j51 j52 : A, t = [(bA y), j51, j52]) ?_ ?_
   ·refine .biH (fun hk49 => ?_) (fun hk49 => ?_)
    ·refine .st (v := (bA ((wr .i64 ((y1.toNat : Int))) != 112))) (aBin_neq ..) ?_
     exact .lg ⟨_, _, rfl⟩
    exact .lg ⟨_, _, rfl⟩
   rintro _ y50 ⟨j51, j52, rfl⟩
   iterate 3 refine .uc ?_
   exact .lg ⟨_, _, _, _, _, _, _, _, rfl⟩
  rintro _ y53 ⟨j54, j55, j56, j57, j58, j59, j60, j61, rfl⟩
  iterate 9 refine .uc ?_
  refine .bg (fun t (y : Bool) => ∃ j69 j70 j71 j72 j73 j74 j75 j76 j77 : A, t = [(bA y), j69, j70, j71, j72, j73, j74, j75, j76, j77]) ?_ ?_
  ·refine .biH (fun hk62 => ?_) (fun hk62 => ?_)
   ·exact .lg ⟨_, _, _, _, _, _, _, _, _, rfl⟩
   refine .bd (g := fun (y : UInt8) => A.ip (c8 y)) (idx_imm (e := 5) (es := 1) (h1 := by kernel_rfl) (h2 := by kernel_rfl) (h3 := fun _ => rfl) ..) fun y63 => ?_
   refine .s (uA ((y63.toNat : Int))) ?_
   refine .st (v := (uA (Int.tmod ((y63.toNat : Int)) 2))) (aBin_rem (hb := by decide) ..) ?_
   refine .st (v := (bA ((Int.tmod ((y63.toNat : Int)) 2) == 0))) (aBin_eql ..) ?_
   refine .bg (fun t (y : Bool) => ∃ j66 j67 : A, t = [(bA y), j66, j67]) ?_ ?_
   ·refine .biH (fun hk64 => ?_) (fun hk64 => ?_)
    ·refine .st (v := (bA ((wr .i64 ((y1.toNat : Int))) == 0))) (aBin_eql ..) ?_
     exact .lg ⟨_, _, rfl⟩
    exact .lg ⟨_, _, rfl⟩
   rintro _ y65 ⟨j66, j67, rfl⟩
   iterate 3 refine .uc ?_
   exact .lg ⟨_, _, _, _, _, _, _, _, _, rfl⟩
  rintro _ y68 ⟨j69, j70, j71, j72, j73, j74, j75, j76, j77, rfl⟩
  iterate 10 refine .uc ?_
  refine .biHN (fun hk78 => ?_) (fun hk78 => ?_)
  ·exact .lf rfl rfl ⟨_, rfl, rfl⟩
  refine .st (v := (iA (wr .i64 (12 + (wr .i64 ((y1.toNat : Int))))))) (aBin_add ..) ?_
  refine .as (T72_72_0 C n h63 h67 a0 false _ _ _ _ ?_ ?_ _ (wr .i64 (12 + (wr .i64 ((y1.toNat : Int))))))
  ·intro y86 j87 j88
   refine .un rfl ?_
   exact .lf rfl rfl ⟨_, rfl, rfl⟩
  ·intro j89 j90 j91
   refine .un rfl ?_
   refine .cT (by kernel_rfl) ?_
   exact .lf rfl rfl ⟨_, rfl, rfl⟩
 refine .bb ?_
 refine .cr ?_
 iterate 5 refine .uc ?_
 refine .bg (fun t (y : Bool) => ∃ j93 : A, t = [(bA y), j93]) ?_ ?_
 ·refine .bKT hc31 ?_
  exact .lg ⟨_, rfl⟩
 rintro _ y92 ⟨j93, rfl⟩
 iterate 2 refine .uc ?_
 refine .bg (fun t (y : Bool) => ∃ j97 j98 j99 j100 : A, t = [(bA y), j97, j98, j99, j100]) ?_ ?_
 ·refine .biH (fun hk94 => ?_) (fun hk94 => ?_)
  ·exact .lg ⟨_, _, _, _, rfl⟩
  refine .bd (g := fun (y : UInt8) => A.ip (c8 y)) (idx_imm (e := 5) (es := 1) (h1 := by kernel_rfl) (h2 := by kernel_rfl) (h3 := fun _ => rfl) ..) fun y95 => ?_
  refine .s (uA ((y95.toNat : Int))) ?_
  refine .st (v := (bA (decide (3 < ((y95.toNat : Int)))))) (aBin_gtr ..) ?_
  exact .lg ⟨_, _, _, _, rfl⟩
 rintro _ y96 ⟨j97, j98, j99, j100, rfl⟩
 iterate 5 refine .uc ?_
 refine .bg (fun t (y : Bool) => ∃ j103 j104 : A, t = [(bA y), j103, j104]) ?_ ?_
 ·refine .biH (fun hk101 => ?_) (fun hk101 => ?_)
  ·exact .lg ⟨_, _, rfl⟩
  refine .st (v := (bA (decide (112 < (wr .i64 ((y1.toNat : Int))))))) (aBin_gtr ..) ?_
  exact .lg ⟨_, _, rfl⟩
 rintro _ y102 ⟨j103, j104, rfl⟩
 iterate 3 refine .uc ?_
 refine .bg (fun t (y : Bool) => ∃ j112 j113 j114 j115 j116 j117 j118 j119 : A, t = [(bA y), j112, j113, j114, j115, j116, j117, j118, j119]) ?_ ?_
 ·refine .biH (fun hk105 => ?_) (fun hk105 => ?_)
  ·exact .lg ⟨_, _, _, _, _, _, _, _, rfl⟩
  refine .bd (g := fun (y : UInt8) => A.ip (c8 y)) (idx_imm (e := 5) (es := 1) (h1 := by kernel_rfl) (h2 := by kernel_rfl) (h3 := fun _ => rfl) ..) fun y106 => ?_
  refine .s (uA ((y106.toNat : Int))) ?_
  refine .st (v := (bA (decide (((y106.toNat : Int)) < 2)))) (aBin_lss ..) ?_
  refine .bg (fun t (y : Bool) => ∃ j109 j110 : A, t = [(bA y), j109, j110]) ?_ ?_
  ·refine .biH (fun hk107 => ?_) (fun hk107 => ?_)
   ·refine .st (v := (bA ((wr .i64 ((y1.toNat : Int))) != 112))) (aBin_neq ..) ?_
    exact .lg ⟨_, _, rfl⟩
   exact .lg ⟨_, _, rfl⟩
  rintro _ y108 ⟨j109, j110, rfl⟩
  iterate 3 refine .uc ?_
  exact .lg ⟨_, _, _, _, _, _, _, _, rfl⟩
 rintro _ y111 ⟨j112, j113, j114, j115, j116, j117, j118, j119, rfl⟩
 iterate 9 refine .uc ?_
 refine .bg (fun t (y : Bool) => ∃ j127 j128 j129 j130 j131 j132 j133 j134 j135 : A, t = [(bA y), j127, j128, j129, j130, j131, j132, j133, j134, j135]) ?_ ?_
 ·refine .biH (fun hk120 => ?_) (fun hk120 => ?_)
  ·exact .lg ⟨_, _, _, _, _, _, _, _, _, rfl⟩
  refine .bd (g := fun (y : UInt8) => A.ip (c8 y)) (idx_imm (e := 5) (es := 1) (h1 := by kernel_rfl) (h2 := by kernel_rfl) (h3 := fun _ => rfl) ..) fun y121 => ?_
  refine .s (uA ((y121.toNat : Int))) ?_
  refine .st (v := (uA (Int.tmod ((y121.toNat : Int)) 2))) (aBin_rem (hb := by decide) ..) ?_
  refine .st (v := (bA ((Int.tmod ((y121.toNat : Int)) 2) == 0))) (aBin_eql ..) ?_
  refine .bg (fun t (y : Bool) => ∃ j124 j125 : A, t = [(bA y), j124, j125]) ?_ ?_
  ·refine .biH (fun hk122 => ?_) (fun hk122 => ?_)
   ·refine .st (v := (bA ((wr .i64 ((y1.toNat : Int))) == 0))) (aBin_eql ..) ?_
    exact .lg ⟨_, _, rfl⟩
   exact .lg ⟨_, _, rfl⟩
  rintro _ y123 ⟨j124, j125, rfl⟩
  iterate 3 refine .uc ?_
  exact .lg ⟨_, _, _, _, _, _, _, _, _, rfl⟩
 rintro _ y126 ⟨j127, j128, j129, j130, j131, j132, j133, j134, j135, rfl⟩
 iterate 10 refine .uc ?_
 refine .biHN (fun hk136 => ?_) (fun hk136 => ?_)
 ·exact .lf rfl rfl ⟨_, rfl, rfl⟩
 refine .st (v := (iA (wr .i64 (12 + (wr .i64 ((y1.toNat : Int))))))) (aBin_add ..) ?_
 refine .as (T72_72_0 C n h63 h67 a0 false _ _ _ _ ?_ ?_ _ (wr .i64 (12 + (wr .i64 ((y1.toNat : Int))))))
 ·intro y144 j145 j146
  refine .un rfl ?_
  exact .lf rfl rfl ⟨_, rfl, rfl⟩
 ·intro j147 j148 j149
  refine .un rfl ?_
  refine .cT (by kernel_rfl) ?_
  exact .lf rfl rfl ⟨_, rfl, rfl⟩
def G72 (a0 : (List UInt8)) (a1 : Int) : Option Bool := F72 fuel0 a0 a1
def Orc72 (C : Nat -> List A -> Option A) : Prop := ∀ (a0 : (List UInt8)) (a1 : Int), C 72 [(A.imm (List.map c8 a0) false), (iA a1)] = (G72 a0 a1).map fun y => (bA y)
def F62_62_0 (n : Nat) (v1 : (List (List UInt8))) (v2 : Int) (v3 : (List UInt8)) (v4 : Int) : Nat -> Int -> (List UInt8) -> Option ((Int × (List UInt8)) ⊕ ((Int × (List UInt8)) ⊕ ((List UInt8))))
 | 0, _, _ => none
 | m + 1, v5, v6 => bif (decide ((wr .i64 (v2 + v5)) < ((v1.length : Int)))) then ((getI v1 (wr .i64 (v2 + v5))).bind fun y8 => (G72 y8 (wr .i64 (v2 + v5))).bind fun y9 => (bif (!y9) then (some true) else ((getI y8 10).bind fun y11 => some (((Int.tmod ((y11.toNat : Int)) 2) == 1) != (v5 == 0)))).bind fun y12 => bif y12 then ((some (())).bind fun y46 => (some true).bind fun y48 => bif y48 then (some ((Sum.inl ((0, v6))))) else ((getI y8 11).bind fun y51 => (subI y8 12 (wr .i64 (12 + (wr .i64 ((y51.toNat : Int)))))).bind fun y52 => (appI 1 v6 y52).bind fun y53 => (getI y8 10).bind fun y54 => bif (decide (2 <= ((y54.toNat : Int)))) then (some ((Sum.inr ((Sum.inl ((wr .i64 (v5 + 1), y53))))))) else (F62_62_0 n v1 v2 v3 v4 m (wr .i64 (v5 + 1)) y53))) else (bif (decide (0 < v5)) then ((subI y8 0 4).bind fun y23 => (G63 y23).bind fun y24 => (getI v1 v2).bind fun y25 => (subI y25 0 4).bind fun y26 => (G63 y26).bind fun y27 => ((some (y24 != y27)).bind fun y28 => some y28).bind fun y29 => bif y29 then (some ((Sum.inl ((0, v6))))) else ((getI y8 11).bind fun y32 => (subI y8 12 (wr .i64 (12 + (wr .i64 ((y32.toNat : Int)))))).bind fun y33 => (appI 1 v6 y33).bind fun y34 => (getI y8 10).bind fun y35 => bif (decide (2 <= ((y35.toNat : Int)))) then (some ((Sum.inr ((Sum.inl ((wr .i64 (v5 + 1), y34))))))) else (F62_62_0 n v1 v2 v3 v4 m (wr .i64 (v5 + 1)) y34))) else (((some false).bind fun y37 => some y37).bind fun y38 => bif y38 then (some ((Sum.inl ((0, v6))))) else ((getI y8 11).bind fun y41 => (subI y8 12 (wr .i64 (12 + (wr .i64 ((y41.toNat : Int)))))).bind fun y42 => (appI 1 v6 y42).bind fun y43 => (getI y8 10).bind fun y44 => bif (decide (2 <= ((y44.toNat : Int)))) then (some ((Sum.inr ((Sum.inl ((wr .i64 (v5 + 1), y43))))))) else (F62_62_0 n v1 v2 v3 v4 m (wr .i64 (v5 + 1)) y43))))) else (some ((Sum.inr ((Sum.inr v6)))))
theorem T62_62_0 (C : Nat -> List A -> Option A) (n : Nat) (h63 : Orc63 C) (h72 : Orc72 C) (v1 : (List (List UInt8))) (v2 : Int) (v3 : (List UInt8)) (v4 : Int) {ρ γ : Type} {φ : ρ -> γ -> Prop} {kL : R -> Option ρ} {K : ((Int × (List UInt8)) ⊕ ((Int × (List UInt8)) ⊕ ((List UInt8)))) -> Option γ} (kx kg : Nat -> St -> Option R) (kr : St -> Option R) (kp : A -> St -> Option R) (x0 : ∀ (o0 : Int) (o1 : (List UInt8)) (s0 : A) (s1 : A) (s6 : A) (s7 : A), J φ (kr (St.mk [(0, s0), (1, s1), (4, (A.imm [] true)), (5, (iA o0)), (6, s6), (7, s7)] [Blk.row false 1 (List.map c8 o1)])) kL (K (Sum.inl ((o0, o1)))) some) (x1 : ∀ (o0 : Int) (o1 : (List UInt8)) (s0 : A) (s1 : A) (s6 : A) (s7 : A), J φ (kr (St.mk [(0, s0), (1, s1), (4, (A.sl 0 0 o1.length false)), (5, (iA o0)), (6, s6), (7, s7)] [Blk.row false 1 (List.map c8 o1)])) kL (K (Sum.inr ((Sum.inl ((o0, o1)))))) some) (x2 : ∀ (o0 : (List UInt8)) (s0 : A) (s1 : A) (s4 : A) (s5 : A) (s6 : A) (s7 : A), J φ (kx 0 (St.mk [(0, s0), (1, s1), (4, s4), (5, s5), (6, s6), (7, s7)] [Blk.row false 1 (List.map c8 o0)])) kL (K (Sum.inr ((Sum.inr o0)))) some) :
  ∀ (m : Nat) (v5 : Int) (v6 : (List UInt8)), J φ (loopR (cx C) (ec C n 8) (ey C n 8) (n+8) 62 0 0 1 kx kg kr kp m (St.mk [(0, (A.imm (List.map (cL c8) v1) false)), (1, (iA v2)), (4, (A.imm (List.map c8 v3) true)), (5, (iA v4)), (6, (A.sl 0 0 v6.length false)), (7, (iA v5))] [Blk.row false 1 (List.map c8 v6)])) kL (F62_62_0 n v1 v2 v3 v4 m v5 v6) K := by
 intro m
 induction m with
 | zero => intros; exact .nn
 | succ m ih =>
  intro v5 v6
  refine .lp (e62_0 ..) ?_
  unfold F62_62_0
  refine .st (v := (iA (wr .i64 (v2 + v5)))) (aBin_add ..) ?_
  refine .st (v := (iA ((v1.length : Int)))) (len_imm (e := 35) (h1 := by kernel_rfl) ..) ?_
  refine .st (v := (bA (decide ((wr .i64 (v2 + v5)) < ((v1.length : Int)))))) (aBin_lss ..) ?_
  refine .biHN (fun hk7 => ?_) (fun hk7 => ?_)
  ·refine .st (v := (iA (wr .i64 (v2 + v5)))) (aBin_add ..) ?_
   refine .bd (g := fun (y : (List UInt8)) => A.ip ((cL c8) y)) (idx_imm (e := 35) (es := 1) (h1 := by kernel_rfl) (h2 := by kernel_rfl) (h3 := fun _ => rfl) ..) fun y8 => ?_
   refine .s (A.imm (List.map c8 y8) false) ?_
   refine .st (v := (iA (wr .i64 (v2 + v5)))) (aBin_add ..) ?_
   refine .bd (g := fun (y : Bool) => (bA y)) (by show C 72 [snap _ (A.imm (List.map c8 y8) false), snap _ (iA (wr .i64 (v2 + v5)))] = _; simp only [sn0, snM, snapG_row (H := [Blk.row false 1 (List.map c8 v6)]) (b := 0) (es := 1) (l := v6) fl_c8 rfl]; exact h72 y8 (wr .i64 (v2 + v5))) fun y9 => ?_
   refine .s (bA (!y9)) ?_
   refine .bg (fun t (y : Bool) => ∃ j13 j14 j15 j16 j17 j18 j19 j20 : A, t = [(bA y), j13, j14, j15, j16, j17, j18, j19, j20]) ?_ ?_
   ·refine .biH (fun hk10 => ?_) (fun hk10 => ?_)
    ·exact .lg ⟨_, _, _, _, _, _, _, _, rfl⟩
    refine .bd (g := fun (y : UInt8) => A.ip (c8 y)) (idx_imm (e := 5) (es := 1) (h1 := by kernel_rfl) (h2 := by kernel_rfl) (h3 := fun _ => rfl) ..) fun y11 => ?_
    refine .s (uA ((y11.toNat : Int))) ?_
    refine .st (v := (uA (Int.tmod ((y11.toNat : Int)) 2))) (aBin_rem (hb := by decide) ..) ?_
    refine .st (v := (bA ((Int.tmod ((y11.toNat : Int)) 2) == 1))) (aBin_eql ..) ?_
    refine .st (v := (bA (v5 == 0))) (aBin_eql ..) ?_
    refine .s (bA (((Int.tmod ((y11.toNat : Int)) 2) == 1) != (v5 == 0))) ?_
    exact .lg ⟨_, _, _, _, _, _, _, _, rfl⟩
   rintro _ y12 ⟨j13, j14, j15, j16, j17, j18, j19, j20, rfl⟩
   iterate 9 refine .uc ?_
   refine .gsf (fun hc21 => ?_) (fun hc21 => ?_)
   ·refine .bb ?_
    refine .st (v := (bA (decide (0 < v5)))) (aBin_gtr ..) ?_
    refine .gst (fun hc22 => ?_) (fun hc22 => ?_)
    ·refine .bb ?_
     refine .bd (g := fun (y : List UInt8) => (A.imm (List.map c8 y) false)) (cut_imm (e := 5) (es := 1) (f := c8) (l := y8) (a := 0) (b := 4) (by kernel_rfl) (by kernel_rfl) (fun _ => rfl) (.inl ⟨rfl, rfl⟩) (.inr ⟨_, rfl⟩)) fun y23 => ?_
     refine .bd (g := fun (y : Int) => (A.v (.int .u64 y))) (by show C 63 [snap _ (A.imm (List.map c8 y23) false)] = _; simp only [sn0, snM, snapG_row (H := [Blk.row false 1 (List.map c8 v6)]) (b := 0) (es := 1) (l := v6) fl_c8 rfl]; exact h63 y23) fun y24 => ?_
     refine .bd (g := fun (y : (List UInt8)) => A.ip ((cL c8) y)) (idx_imm (e := 35) (es := 1) (h1 := by kernel_rfl) (h2 := by kernel_rfl) (h3 := fun _ => rfl) ..) fun y25 => ?_
     refine .s (A.imm (List.map c8 y25) false) ?_
     refine .bd (g := fun (y : List UInt8) => (A.imm (List.map c8 y) false)) (cut_imm (e := 5) (es := 1) (f := c8) (l := y25) (a := 0) (b := 4) (by kernel_rfl) (by kernel_rfl) (fun _ => rfl) (.inl ⟨rfl, rfl⟩) (.inr ⟨_, rfl⟩)) fun y26 => ?_
     refine .cr ?_
     iterate 8 refine .uc ?_
     refine .cr ?_
     iterate 11 refine .uc ?_
     refine .lp (congrArg (fun z => Option.bind z _) (gIf_knownTT hc22)) ?_
     refine .bb ?_
     refine .bd (g := fun (y : Int) => (A.v (.int .u64 y))) (by show C 63 [snap _ (A.imm (List.map c8 y26) false)] = _; simp only [sn0, snM, snapG_row (H := [Blk.row false 1 (List.map c8 v6)]) (b := 0) (es := 1) (l := v6) fl_c8 rfl]; exact h63 y26) fun y27 => ?_
     refine .st (v := (bA (y24 != y27))) (aBin_neq ..) ?_
     refine .cr ?_
     iterate 2 refine .uc ?_
     refine .bg (fun t (y : Bool) => ∃ j30 : A, t = [(bA y), j30]) ?_ ?_
     ·refine .bKF hc21 ?_
      refine .bg (fun t (y : Bool) =>  t = (bA y)) ?_ ?_
      ·refine .bKT hc22 ?_
       exact .lg rfl
      rintro _ y28 rfl
      exact .lg ⟨_, rfl⟩
     rintro _ y29 ⟨j30, rfl⟩
     iterate 2 refine .uc ?_
     refine .biHN (fun hk31 => ?_) (fun hk31 => ?_)
     ·exact .ex (x0 _ _ _ _ _ _)
     refine .bd (g := fun (y : UInt8) => A.ip (c8 y)) (idx_imm (e := 5) (es := 1) (h1 := by kernel_rfl) (h2 := by kernel_rfl) (h3 := fun _ => rfl) ..) fun y32 => ?_
     refine .s (uA ((y32.toNat : Int))) ?_
     refine .st (v := (iA (wr .i64 ((y32.toNat : Int))))) (aConvert_int (hs := by kernel_rfl) (hd := by kernel_rfl) ..) ?_
     refine .st (v := (iA (wr .i64 (12 + (wr .i64 ((y32.toNat : Int))))))) (aBin_add ..) ?_
     refine .bd (g := fun (y : List UInt8) => (A.imm (List.map c8 y) false)) (cut_imm (e := 5) (es := 1) (f := c8) (l := y8) (a := 12) (b := wr .i64 (12 + (wr .i64 ((y32.toNat : Int))))) (by kernel_rfl) (by kernel_rfl) (fun _ => rfl) (.inr ⟨_, rfl⟩) (.inr ⟨_, rfl⟩)) fun y33 => ?_
     refine .bd (g := fun (y : List UInt8) => ((A.sl 0 0 y.length false), [Blk.row false 1 (List.map c8 y)])) (app_row (e := 5) (es := 1) (by_ := 1) (z := [(uA 0)]) (by kernel_rfl) (by kernel_rfl) (by kernel_rfl) (by kernel_rfl) rfl (by decide) (by decide) (by kernel_rfl) (f := c8) (fun _ => rfl) ce_c8 (l := v6) (l2 := y33) (b := 0) rfl (by decide) (els_imm ..)) fun y34 => ?_
     refine .bd (g := fun (y : UInt8) => A.ip (c8 y)) (idx_imm (e := 5) (es := 1) (h1 := by kernel_rfl) (h2 := by kernel_rfl) (h3 := fun _ => rfl) ..) fun y35 => ?_
     refine .s (uA ((y35.toNat : Int))) ?_
     refine .st (v := (bA (decide (2 <= ((y35.toNat : Int)))))) (aBin_geq ..) ?_
     refine .biHN (fun hk36 => ?_) (fun hk36 => ?_)
     ·refine .st (v := (iA (wr .i64 (v5 + 1)))) (aBin_add ..) ?_
      exact .ex (x1 _ _ _ _ _ _)
     refine .st (v := (iA (wr .i64 (v5 + 1)))) (aBin_add ..) ?_
     refine .s [Blk.row false 1 (List.map c8 y34)] ?_
     refine .cT (by kernel_rfl) ?_
     exact ih _ _
    refine .bb ?_
    refine .cr ?_
    iterate 8 refine .uc ?_
    refine .cr ?_
    iterate 11 refine .uc ?_
    refine .lp (congrArg (fun z => Option.bind z _) (gIf_knownTF hc22)) ?_
    refine .bb ?_
    refine .cr ?_
    iterate 2 refine .uc ?_
    refine .bg (fun t (y : Bool) => ∃ j39 : A, t = [(bA y), j39]) ?_ ?_
    ·refine .bKF hc21 ?_
     refine .bg (fun t (y : Bool) =>  t = (bA y)) ?_ ?_
     ·refine .bKF hc22 ?_
      exact .lg rfl
     rintro _ y37 rfl
     exact .lg ⟨_, rfl⟩
    rintro _ y38 ⟨j39, rfl⟩
    iterate 2 refine .uc ?_
    refine .biHN (fun hk40 => ?_) (fun hk40 => ?_)
    ·exact .ex (x0 _ _ _ _ _ _)
    refine .bd (g := fun (y : UInt8) => A.ip (c8 y)) (idx_imm (e := 5) (es := 1) (h1 := by kernel_rfl) (h2 := by kernel_rfl) (h3 := fun _ => rfl) ..) fun y41 => ?_
    refine .s (uA ((y41.toNat : Int))) ?_
    refine .st (v := (iA (wr .i64 ((y41.toNat : Int))))) (aConvert_int (hs := by kernel_rfl) (hd := by kernel_rfl) ..) ?_
    refine .st (v := (iA (wr .i64 (12 + (wr .i64 ((y41.toNat : Int))))))) (aBin_add ..) ?_
    refine .bd (g := fun (y : List UInt8) => (A.imm (List.map c8 y) false)) (cut_imm (e := 5) (es := 1) (f := c8) (l := y8) (a := 12) (b := wr .i64 (12 + (wr .i64 ((y41.toNat : Int))))) (by kernel_rfl) (by kernel_rfl) (fun _ => rfl) (.inr ⟨_, rfl⟩) (.inr ⟨_, rfl⟩)) fun y42 => ?_
    refine .bd (g := fun (y : List UInt8) => ((A.sl 0 0 y.length false), [Blk.row false 1 (List.map c8 y)])) (app_row (e := 5) (es := 1) (by_ := 1) (z := [(uA 0)]) (by kernel_rfl) (by kernel_rfl) (by kernel_rfl) (by kernel_rfl) rfl (by decide) (by decide) (by kernel_rfl) (f := c8) (fun _ => rfl) ce_c8 (l := v6) (l2 := y42) (b := 0) rfl (by decide) (els_imm ..)) fun y43 => ?_
    refine .bd (g := fun (y : UInt8) => A.ip (c8 y)) (idx_imm (e := 5) (es := 1) (h1 := by kernel_rfl) (h2 := by kernel_rfl) (h3 := fun _ => rfl) ..) fun y44 => ?_
    refine .s (uA ((y44.toNat : Int))) ?_
    refine .st (v := (bA (decide (2 <= ((y44.toNat : Int)))))) (aBin_geq ..) ?_
    refine .biHN (fun hk45 => ?_) (fun hk45 => ?_)
    ·refine .st (v := (iA (wr .i64 (v5 + 1)))) (aBin_add ..) ?_
     exact .ex (x1 _ _ _ _ _ _)
    refine .st (v := (iA (wr .i64 (v5 + 1)))) (aBin_add ..) ?_
    refine .s [Blk.row false 1 (List.map c8 y43)] ?_
    refine .cT (by kernel_rfl) ?_
    exact ih _ _
   refine .bb ?_
   refine .cr ?_
   iterate 11 refine .uc ?_
   refine .bg (fun t (y : Unit) => ∃ j47 : A, t = [(A.v undef), j47]) ?_ ?_
   ·refine .gU ?_
    exact .lg ⟨_, rfl⟩
   rintro _ y46 ⟨j47, rfl⟩
   iterate 2 refine .uc ?_
   refine .bg (fun t (y : Bool) => ∃ j49 : A, t = [(bA y), j49]) ?_ ?_
   ·refine .bKT hc21 ?_
    exact .lg ⟨_, rfl⟩
   rintro _ y48 ⟨j49, rfl⟩
   iterate 2 refine .uc ?_
   refine .biHN (fun hk50 => ?_) (fun hk50 => ?_)
   ·exact .ex (x0 _ _ _ _ _ _)
   refine .bd (g := fun (y : UInt8) => A.ip (c8 y)) (idx_imm (e := 5) (es := 1) (h1 := by kernel_rfl) (h2 := by kernel_rfl) (h3 := fun _ => rfl) ..) fun y51 => ?_
   refine .s (uA ((y51.toNat : Int))) ?_
   refine .st (v := (iA (wr .i64 ((y51.toNat : Int))))) (aConvert_int (hs := by kernel_rfl) (hd := by kernel_rfl) ..) ?_
   refine .st (v := (iA (wr .i64 (12 + (wr .i64 ((y51.toNat : Int))))))) (aBin_add ..) ?_
   refine .bd (g := fun (y : List UInt8) => (A.imm (List.map c8 y) false)) (cut_imm (e := 5) (es := 1) (f := c8) (l := y8) (a := 12) (b := wr .i64 (12 + (wr .i64 ((y51.toNat : Int))))) (by kernel_rfl) (by kernel_rfl) (fun _ => rfl) (.inr ⟨_, rfl⟩) (.inr ⟨_, rfl⟩)) fun y52 => ?_
   refine .bd (g := fun (y : List UInt8) => ((A.sl 0 0 y.length false), [Blk.row false 1 (List.map c8 y)])) (app_row (e := 5) (es := 1) (by_ := 1) (z := [(uA 0)]) (by kernel_rfl) (by kernel_rfl) (by kernel_rfl) (by kernel_rfl) rfl (by decide) (by decide) (by kernel_rfl) (f := c8) (fun _ => rfl) ce_c8 (l := v6) (l2 := y52) (b := 0) rfl (by decide) (els_imm ..)) fun y53 => ?_
   refine .bd (g := fun (y : UInt8) => A.ip (c8 y)) (idx_imm (e := 5) (es := 1) (h1 := by kernel_rfl) (h2 := by kernel_rfl) (h3 := fun _ => rfl) ..) fun y54 => ?_
   refine .s (uA ((y54.toNat : Int))) ?_
   refine .st (v := (bA (decide (2 <= ((y54.toNat : Int)))))) (aBin_geq ..) ?_
   refine .biHN (fun hk55 => ?_) (fun hk55 => ?_)
   ·refine .st (v := (iA (wr .i64 (v5 + 1)))) (aBin_add ..) ?_
    exact .ex (x1 _ _ _ _ _ _)
   refine .st (v := (iA (wr .i64 (v5 + 1)))) (aBin_add ..) ?_
   refine .s [Blk.row false 1 (List.map c8 y53)] ?_
   refine .cT (by kernel_rfl) ?_
   exact ih _ _
  exact .ex (x2 _ _ _ _ _ _ _)
def F62 (n : Nat) (a0 : (List (List UInt8))) (a1 : Int) : Option ((List UInt8) × Int) :=
 (F62_62_0 n a0 a1 ([]) 0 (n+8) 0 (([] : List UInt8))).bind fun o56 => match o56 with | (Sum.inl ((y57, y58))) => some (([], y57)) | (Sum.inr ((Sum.inl ((y63, y64))))) => some ((y64, y63)) | (Sum.inr ((Sum.inr y69))) => some (([], 0))
theorem T62 (C : Nat -> List A -> Option A) (n : Nat) (h63 : Orc63 C) (h72 : Orc72 C) (a0 : (List (List UInt8))) (a1 : Int) : J (fun (o : R) y => ∃ v, o.1 = .ret v /\ snapE o.2 v = (A.tup [(A.imm (List.map c8 y.1) false), (iA y.2)])) (evCall1 (cx C) (ec C n 8) (ey C n 8) (n+8) 62 [(A.imm (List.map (cL c8) a0) false), (iA a1)] [] 0) some (F62 n a0 a1) some := by
 refine .lp (e62 ..) ?_
 unfold F62
 refine .s (A.imm [] true) ?_
 refine .as (T62_62_0 C n h63 h72 a0 a1 ([]) 0 _ _ _ _ ?_ ?_ ?_ _ 0 (([] : List UInt8)))
 ·intro y57 y58 j59 j60 j61 j62
  refine .un rfl ?_
  exact .lf rfl rfl ⟨_, rfl, by show snapE _ (A.tup [(A.imm [] true), (iA y57)]) = _; first | (simp only [sn0, snM, snapE]; done) | (simp only [sn0, snS, snapE]; first | done | rfl)⟩
 ·intro y63 y64 j65 j66 j67 j68
  refine .un rfl ?_
  exact .lf rfl rfl ⟨_, rfl, by show snapE [Blk.row false 1 (List.map c8 y64)] (A.tup [(A.sl 0 0 y64.length false), (iA y63)]) = _; first | (simp only [sn0, snM, snapE, snapGE_row (H := [Blk.row false 1 (List.map c8 y64)]) (b := 0) (es := 1) (wr := false) (l := y64) fl_c8 rfl]; done) | (simp only [sn0, snS, snapE, snapGE_row (H := [Blk.row false 1 (List.map c8 y64)]) (b := 0) (es := 1) (wr := false) (l := y64) fl_c8 rfl]; first | done | rfl)⟩
 ·intro y69 j70 j71 j72 j73 j74 j75
  refine .un rfl ?_
  refine .cT (by kernel_rfl) ?_
  exact .lf rfl rfl ⟨_, rfl, by show snapE _ (A.tup [(A.imm [] true), (iA 0)]) = _; first | (simp only [sn0, snM, snapE]; done) | (simp only [sn0, snS, snapE]; first | done | rfl)⟩
def G62 (a0 : (List (List UInt8))) (a1 : Int) : Option ((List UInt8) × Int) := F62 fuel0 a0 a1
def Orc62 (C : Nat -> List A -> Option A) : Prop := ∀ (a0 : (List (List UInt8))) (a1 : Int), C 62 [(A.imm (List.map (cL c8) a0) false), (iA a1)] = (G62 a0 a1).map fun y => (A.tup [(A.imm (List.map c8 y.1) false), (iA y.2)])
def F34_34_0 (n : Nat) (v1 : (List (List UInt8))) (v2 : (List (List UInt8))) : Nat -> Int -> Int -> (List (List UInt8)) -> Option ((List (List UInt8)))
 | 0, _, _, _ => none
 | m + 1, v3, v4, v5 => (G62 v1 v3).bind fun y6 => (bif (y6.2 == 0) then (some true) else ((getI v1 v3).bind fun y8 => (subI y8 0 4).bind fun y9 => (G63 y9).bind fun y10 => some (decide (y10 < v4)))).bind fun y11 => bif y11 then (some v5) else ((getI v1 v3).bind fun y21 => (subI y21 0 4).bind fun y22 => (G63 y22).bind fun y23 => (appI 24 v5 ([y6.1])).bind fun y24 => F34_34_0 n v1 v2 m (wr .i64 (v3 + y6.2)) y23 y24)
theorem T34_34_0 (C : Nat -> List A -> Option A) (n : Nat) (h62 : Orc62 C) (h63 : Orc63 C) (v1 : (List (List UInt8))) (v2 : (List (List UInt8))) {ρ γ : Type} {φ : ρ -> γ -> Prop} {kL : R -> Option ρ} {K : ((List (List UInt8))) -> Option γ} (kx kg : Nat -> St -> Option R) (kr : St -> Option R) (kp : A -> St -> Option R) (x0 : ∀ (o0 : (List (List UInt8))) (s0 : A) (s3 : A) (s4 : A) (s5 : A), J φ (kr (St.mk [(0, s0), (2, (A.sl 0 0 o0.length false)), (3, s3), (4, s4), (5, s5)] [Blk.row false 1 (List.map (cL c8) o0)])) kL (K o0) some) :
  ∀ (m : Nat) (v3 : Int) (v4 : Int) (v5 : (List (List UInt8))), J φ (loopR (cx C) (ec C n 8) (ey C n 8) (n+8) 34 0 0 1 kx kg kr kp m (St.mk [(0, (A.imm (List.map (cL c8) v1) false)), (2, (A.imm (List.map (cL c8) v2) true)), (3, (A.sl 0 0 v5.length false)), (4, (iA v3)), (5, (A.v (.int .u64 v4)))] [Blk.row false 1 (List.map (cL c8) v5)])) kL (F34_34_0 n v1 v2 m v3 v4 v5) K := by
 intro m
 induction m with
 | zero => intros; exact .nn
 | succ m ih =>
  intro v3 v4 v5
  refine .lp (e34_0 ..) ?_
  unfold F34_34_0
  refine .bd (g := fun (y : ((List UInt8) × Int)) => (A.tup [(A.imm (List.map c8 y.1) false), (iA y.2)])) (by show C 62 [snap _ (A.imm (List.map (cL c8) v1) false), snap _ (iA v3)] = _; simp only [sn0, snM, snapG_row (H := [Blk.row false 1 (List.map (cL c8) v5)]) (b := 0) (es := 1) (l := v5) (fl_cL fl_c8) rfl]; exact h62 v1 v3) fun y6 => ?_
  refine .s (A.imm (List.map c8 y6.1) false) (.s (iA y6.2) ?_)
  refine .st (v := (bA (y6.2 == 0))) (aBin_eql ..) ?_
  refine .bg (fun t (y : Bool) => ∃ j12 j13 j14 j15 j16 j17 j18 j19 : A, t = [(bA y), j12, j13, j14, j15, j16, j17, j18, j19]) ?_ ?_
  ·refine .biH (fun hk7 => ?_) (fun hk7 => ?_)
   ·exact .lg ⟨_, _, _, _, _, _, _, _, rfl⟩
   refine .bd (g := fun (y : (List UInt8)) => A.ip ((cL c8) y)) (idx_imm (e := 35) (es := 1) (h1 := by kernel_rfl) (h2 := by kernel_rfl) (h3 := fun _ => rfl) ..) fun y8 => ?_
   refine .s (A.imm (List.map c8 y8) false) ?_
   refine .bd (g := fun (y : List UInt8) => (A.imm (List.map c8 y) false)) (cut_imm (e := 5) (es := 1) (f := c8) (l := y8) (a := 0) (b := 4) (by kernel_rfl) (by kernel_rfl) (fun _ => rfl) (.inl ⟨rfl, rfl⟩) (.inr ⟨_, rfl⟩)) fun y9 => ?_
   refine .bd (g := fun (y : Int) => (A.v (.int .u64 y))) (by show C 63 [snap _ (A.imm (List.map c8 y9) false)] = _; simp only [sn0, snM, snapG_row (H := [Blk.row false 1 (List.map (cL c8) v5)]) (b := 0) (es := 1) (l := v5) (fl_cL fl_c8) rfl]; exact h63 y9) fun y10 => ?_
   refine .st (v := (bA (decide (y10 < v4)))) (aBin_lss ..) ?_
   exact .lg ⟨_, _, _, _, _, _, _, _, rfl⟩
  rintro _ y11 ⟨j12, j13, j14, j15, j16, j17, j18, j19, rfl⟩
  iterate 9 refine .uc ?_
  refine .biHN (fun hk20 => ?_) (fun hk20 => ?_)
  ·exact .ex (x0 _ _ _ _ _)
  refine .bd (g := fun (y : (List UInt8)) => A.ip ((cL c8) y)) (idx_imm (e := 35) (es := 1) (h1 := by kernel_rfl) (h2 := by kernel_rfl) (h3 := fun _ => rfl) ..) fun y21 => ?_
  refine .s (A.imm (List.map c8 y21) false) ?_
  refine .bd (g := fun (y : List UInt8) => (A.imm (List.map c8 y) false)) (cut_imm (e := 5) (es := 1) (f := c8) (l := y21) (a := 0) (b := 4) (by kernel_rfl) (by kernel_rfl) (fun _ => rfl) (.inl ⟨rfl, rfl⟩) (.inr ⟨_, rfl⟩)) fun y22 => ?_
  refine .bd (g := fun (y : Int) => (A.v (.int .u64 y))) (by show C 63 [snap _ (A.imm (List.map c8 y22) false)] = _; simp only [sn0, snM, snapG_row (H := [Blk.row false 1 (List.map (cL c8) v5)]) (b := 0) (es := 1) (l := v5) (fl_cL fl_c8) rfl]; exact h63 y22) fun y23 => ?_
  refine .s (A.imm [[(A.imm (List.map c8 y6.1) false)]] true) ?_
  refine .bd (g := fun (y : List (List UInt8)) => ((A.sl 0 0 y.length false), [Blk.row false 1 (List.map (cL c8) y)])) (app_row (e := 35) (es := 1) (by_ := 24) (z := [(A.imm [] true)]) (by kernel_rfl) (by kernel_rfl) (by kernel_rfl) (by kernel_rfl) rfl (by decide) (by decide) (by kernel_rfl) (f := (cL c8)) (fun _ => rfl) ce_cL (l := v5) (l2 := [y6.1]) (b := 0) rfl (by decide) (els_imm (f := (cL c8)) ([y6.1] : List (List UInt8)) _ _)) fun y24 => ?_
  refine .st (v := (iA (wr .i64 (v3 + y6.2)))) (aBin_add ..) ?_
  refine .s [Blk.row false 1 (List.map (cL c8) y24)] ?_
  refine .cT (by kernel_rfl) ?_
  exact ih _ _ _
def F34 (n : Nat) (a0 : (List (List UInt8))) : Option (List (List UInt8)) :=
 (F34_34_0 n a0 ([]) (n+8) 0 0 (([] : List (List UInt8)))).bind fun o25 => match o25 with | y26 => some y26
theorem T34 (C : Nat -> List A -> Option A) (n : Nat) (h62 : Orc62 C) (h63 : Orc63 C) (a0 : (List (List UInt8))) : J (fun (o : R) y => ∃ v, o.1 = .ret v /\ snapE o.2 v = (A.imm (List.map (cL c8) y) false)) (evCall1 (cx C) (ec C n 8) (ey C n 8) (n+8) 34 [(A.imm (List.map (cL c8) a0) false)] [] 0) some (F34 n a0) some := by
 refine .lp (e34 ..) ?_
 unfold F34
 refine .s (A.imm [] true) ?_
 refine .as (T34_34_0 C n h62 h63 a0 ([]) _ _ _ _ ?_ _ 0 0 (([] : List (List UInt8))))
 ·intro y26 j27 j28 j29 j30
  refine .un rfl ?_
  exact .lf rfl rfl ⟨_, rfl, by show snapE [Blk.row false 1 (List.map (cL c8) y26)] (A.sl 0 0 y26.length false) = _; first | (simp only [sn0, snM, snapE, snapGE_row (H := [Blk.row false 1 (List.map (cL c8) y26)]) (b := 0) (es := 1) (wr := false) (l := y26) (fl_cL fl_c8) rfl]; done) | (simp only [sn0, snS, snapE, snapGE_row (H := [Blk.row false 1 (List.map (cL c8) y26)]) (b := 0) (es := 1) (wr := false) (l := y26) (fl_cL fl_c8) rfl]; first | done | rfl)⟩
def G34 (a0 : (List (List UInt8))) : Option (List (List UInt8)) := F34 fuel0 a0
def Orc34 (C : Nat -> List A -> Option A) : Prop := ∀ (a0 : (List (List UInt8))), C 34 [(A.imm (List.map (cL c8) a0) false)] = (G34 a0).map fun y => (A.imm (List.map (cL c8) y) false)
def F24_24_0 (n : Nat) (v2 : (List (List UInt8))) (v3 : (List (List UInt8))) (v4 : Bool) : Nat -> Int -> Option ((Bool) ⊕ (Unit))
 | 0, _ => none
 | m + 1, v5 => bif (decide (v5 < ((v2.length : Int)))) then ((getI v2 v5).bind fun y7 => (getI v3 v5).bind fun y8 => bif (!strEq (bstr y7) (bstr y8)) then (some ((Sum.inl false))) else (F24_24_0 n v2 v3 v4 m (wr .i64 (v5 + 1)))) else (some ((Sum.inr (()))))
theorem T24_24_0 (C : Nat -> List A -> Option A) (n : Nat) (v2 : (List (List UInt8))) (v3 : (List (List UInt8))) (v4 : Bool) {ρ γ : Type} {φ : ρ -> γ -> Prop} {kL : R -> Option ρ} {K : ((Bool) ⊕ (Unit)) -> Option γ} (kx kg : Nat -> St -> Option R) (kr : St -> Option R) (kp : A -> St -> Option R) (x0 : ∀ (o0 : Bool) (s0 : A) (s1 : A) (s5 : A), J φ (kr (St.mk [(0, s0), (1, s1), (4, (bA o0)), (5, s5)] [])) kL (K (Sum.inl o0)) some) (x1 : ∀ (s0 : A) (s1 : A) (s4 : A) (s5 : A), J φ (kx 0 (St.mk [(0, s0), (1, s1), (4, s4), (5, s5)] [])) kL (K (Sum.inr (()))) some) :
  ∀ (m : Nat) (v5 : Int), J φ (loopR (cx C) (ec C n 8) (ey C n 8) (n+8) 24 0 0 0 kx kg kr kp m (St.mk [(0, (A.imm (List.map (cL c8) v2) false)), (1, (A.imm (List.map (cL c8) v3) false)), (4, (bA v4)), (5, (iA v5))] [])) kL (F24_24_0 n v2 v3 v4 m v5) K := by
 intro m
 induction m with
 | zero => intros; exact .nn
 | succ m ih =>
  intro v5
  refine .lp (e24_0 ..) ?_
  unfold F24_24_0
  refine .st (v := (iA ((v2.length : Int)))) (len_imm (e := 35) (h1 := by kernel_rfl) ..) ?_
  refine .st (v := (bA (decide (v5 < ((v2.length : Int)))))) (aBin_lss ..) ?_
  refine .biHN (fun hk6 => ?_) (fun hk6 => ?_)
  ·refine .bd (g := fun (y : (List UInt8)) => A.ip ((cL c8) y)) (idx_imm (e := 35) (es := 1) (h1 := by kernel_rfl) (h2 := by kernel_rfl) (h3 := fun _ => rfl) ..) fun y7 => ?_
   refine .s (A.imm (List.map c8 y7) false) ?_
   refine .st (v := (A.v (Value.string (bstr y7)))) (conv_bs (e := 5) (l := y7) (by kernel_rfl) (by kernel_rfl) (by kernel_rfl) (by kernel_rfl) (els_imm ..) rfl) ?_
   refine .bd (g := fun (y : (List UInt8)) => A.ip ((cL c8) y)) (idx_imm (e := 35) (es := 1) (h1 := by kernel_rfl) (h2 := by kernel_rfl) (h3 := fun _ => rfl) ..) fun y8 => ?_
   refine .s (A.imm (List.map c8 y8) false) ?_
   refine .st (v := (A.v (Value.string (bstr y8)))) (conv_bs (e := 5) (l := y8) (by kernel_rfl) (by kernel_rfl) (by kernel_rfl) (by kernel_rfl) (els_imm ..) rfl) ?_
   refine .st (v := (bA (!strEq (bstr y7) (bstr y8)))) (aBin_neq_s ..) ?_
   refine .biHN (fun hk9 => ?_) (fun hk9 => ?_)
   ·exact .ex (x0 _ _ _ _)
   refine .st (v := (iA (wr .i64 (v5 + 1)))) (aBin_add ..) ?_
   refine .s [] ?_
   refine .cT (by kernel_rfl) ?_
   exact ih _
  exact .ex (x1 _ _ _ _)
def F24 (n : Nat) (a0 : (List (List UInt8))) (a1 : (List (List UInt8))) : Option Bool :=
 bif (((a0.length : Int)) != ((a1.length : Int))) then (some false) else ((F24_24_0 n a0 a1 false (n+8) 0).bind fun o10 => match o10 with | (Sum.inl y11) => some y11 | (Sum.inr _) => some true)
theorem T24 (C : Nat -> List A -> Option A) (n : Nat) (a0 : (List (List UInt8))) (a1 : (List (List UInt8))) : J (fun (o : R) y => ∃ v, o.1 = .ret v /\ snapE o.2 v = (bA y)) (evCall1 (cx C) (ec C n 8) (ey C n 8) (n+8) 24 [(A.imm (List.map (cL c8) a0) false), (A.imm (List.map (cL c8) a1) false)] [] 0) some (F24 n a0 a1) some := by
 refine .lp (e24 ..) ?_
 unfold F24
 refine .st (v := (iA ((a0.length : Int)))) (len_imm (e := 35) (h1 := by kernel_rfl) ..) ?_
 refine .st (v := (iA ((a1.length : Int)))) (len_imm (e := 35) (h1 := by kernel_rfl) ..) ?_
 refine .st (v := (bA (((a0.length : Int)) != ((a1.length : Int))))) (aBin_neq ..) ?_
 refine .biHN (fun hk1 => ?_) (fun hk1 => ?_)
 ·exact .lf rfl rfl ⟨_, rfl, rfl⟩
 refine .as (T24_24_0 C n  a0 a1 false _ _ _ _ ?_ ?_ _ 0)
 ·intro y11 j12 j13 j14
  refine .un rfl ?_
  exact .lf rfl rfl ⟨_, rfl, rfl⟩
 ·intro j15 j16 j17 j18
  refine .un rfl ?_
  refine .cT (by kernel_rfl) ?_
  exact .lf rfl rfl ⟨_, rfl, rfl⟩
def G24 (a0 : (List (List UInt8))) (a1 : (List (List UInt8))) : Option Bool := F24 fuel0 a0 a1
def Orc24 (C : Nat -> List A -> Option A) : Prop := ∀ (a0 : (List (List UInt8))) (a1 : (List (List UInt8))), C 24 [(A.imm (List.map (cL c8) a0) false), (A.imm (List.map (cL c8) a1) false)] = (G24 a0 a1).map fun y => (bA y)
def F66_66_0 (n : Nat) (v3 : (List UInt8)) (v4 : Nat) : Nat -> Int -> Int -> (List UInt8) -> Option (Nat × (List UInt8))
 | 0, _, _, _ => none
 | m + 1, v2, v5, v6 => bif (decide (0 <= v5)) then ((idxN v4 v5).bind fun k8 => bif (decide (0 <= (wr .u8 (Int.tmod v2 256))) && decide ((wr .u8 (Int.tmod v2 256)) < 256)) then ((modI v6 k8 (fun (y : UInt8) => (UInt8.ofNat (Int.toNat (wr .u8 (Int.tmod v2 256)))))).bind fun y9 => F66_66_0 n v3 v4 m (wr .u64 (Int.tdiv v2 256)) (wr .i64 (v5 - 1)) y9) else none) else (some ((v4, v6)))
theorem T66_66_0 (C : Nat -> List A -> Option A) (n : Nat) (v3 : (List UInt8)) (v4 : Nat) {ρ γ : Type} {φ : ρ -> γ -> Prop} {kL : R -> Option ρ} {K : (Nat × (List UInt8)) -> Option γ} (kx kg : Nat -> St -> Option R) (kr : St -> Option R) (kp : A -> St -> Option R) (x0 : ∀ (o0 : Nat) (o1 : (List UInt8)) (s0 : A) (s4 : A) (s6 : A), J φ (kx 0 (St.mk [(0, s0), (4, s4), (5, (A.sl 0 0 o0 true)), (6, s6)] [Blk.row true 1 (List.map c8 o1)])) kL (K (o0, o1)) some) :
  ∀ (m : Nat) (v2 : Int) (v5 : Int) (v6 : (List UInt8)), J φ (loopR (cx C) (ec C n 8) (ey C n 8) (n+8) 66 0 0 1 kx kg kr kp m (St.mk [(0, (A.v (.int .u64 v2))), (4, (A.imm (List.map c8 v3) true)), (5, (A.sl 0 0 v4 true)), (6, (iA v5))] [Blk.row true 1 (List.map c8 v6)])) kL (F66_66_0 n v3 v4 m v2 v5 v6) K := by
 intro m
 induction m with
 | zero => intros; exact .nn
 | succ m ih =>
  intro v2 v5 v6
  refine .lp (e66_0 ..) ?_
  unfold F66_66_0
  refine .st (v := (bA (decide (0 <= v5)))) (aBin_geq ..) ?_
  refine .biHN (fun hk7 => ?_) (fun hk7 => ?_)
  ·refine .st (v := (A.v (.int .u64 (Int.tmod v2 256)))) (aBin_rem (hb := by decide) ..) ?_
   refine .st (v := (uA (wr .u8 (Int.tmod v2 256)))) (aConvert_int (hs := by kernel_rfl) (hd := by kernel_rfl) ..) ?_
   refine .bd (g := fun (y : Nat) => A.ep 0 y 0) (wrow_idx0 (e := 5) (es := 1) (l := v6) (by kernel_rfl) (by kernel_rfl) rfl) fun k8 => ?_
   refine .gd fun hg => ?_
   refine .bd (g := fun (y : List UInt8) => [Blk.row true 1 (List.map c8 y)]) ((congrArg (fun z => aStore _ _ _ (A.v (.int .u8 z)) _ _) (u8_back hg).symm).trans ((wrow_store (es := 1) (n := 1) (l := v6) (xs := [(uA (((UInt8.ofNat (Int.toNat (wr .u8 (Int.tmod v2 256)))).toNat : Int)))]) (u := fun (y : UInt8) => (UInt8.ofNat (Int.toNat (wr .u8 (Int.tmod v2 256))))) (by kernel_rfl) (by kernel_rfl) (by decide) rfl (fun _ => rfl) (by decide) (by decide) rfl (fun _ => rfl)))) fun y9 => ?_
   refine .st (v := (A.v (.int .u64 (wr .u64 (Int.tdiv v2 256))))) (aBin_quo (hb := by decide) ..) ?_
   refine .st (v := (iA (wr .i64 (v5 - 1)))) (aBin_sub ..) ?_
   refine .s [Blk.row true 1 (List.map c8 y9)] ?_
   refine .cT (by kernel_rfl) ?_
   exact ih _ _ _
  exact .ex (x0 _ _ _ _ _)
def F66 (n : Nat) (a0 : Int) (a1 : Int) : Option (List UInt8) :=
 (mkI 1 a1 ((0 : UInt8))).bind fun y1 => (F66_66_0 n ([]) y1.length (n+8) a0 (wr .i64 (a1 - 1)) y1).bind fun o10 => match o10 with | (y11, y12) => some (List.take y11 (List.drop 0 y12))
theorem T66 (C : Nat -> List A -> Option A) (n : Nat) (a0 : Int) (a1 : Int) : J (fun (o : R) y => ∃ v, o.1 = .ret v /\ snapC o.2 v = (A.imm (List.map c8 y) true)) (evCall1 (cx C) (ec C n 8) (ey C n 8) (n+8) 66 [(A.v (.int .u64 a0)), (iA a1)] [] 0) some (F66 n a0 a1) some := by
 refine .lp (e66 ..) ?_
 unfold F66
 refine .bd (g := fun (y : List UInt8) => ((A.sl 0 0 y.length true), [Blk.row true 1 (List.map c8 y)])) (wrow_makeC (e := 5) (es := 1) (f := c8) (z := (0 : UInt8)) (z' := [(uA 0)]) (by kernel_rfl) (by kernel_rfl) (by kernel_rfl) (by kernel_rfl) rfl (by decide) (fun _ => rfl)) fun y1 => ?_
 refine .st (v := (iA (wr .i64 (a1 - 1)))) (aBin_sub ..) ?_
 refine .as (T66_66_0 C n  ([]) y1.length _ _ _ _ ?_ _ a0 (wr .i64 (a1 - 1)) y1)
 ·intro y11 y12 j13 j14 j15
  refine .un rfl ?_
  refine .cT (by kernel_rfl) ?_
  exact .lf rfl rfl ⟨_, rfl, snapC_sub (H := [Blk.row true 1 (List.map c8 y12)]) (es := 1) fl_c8 rfl⟩
def G66 (a0 : Int) (a1 : Int) : Option (List UInt8) := F66 fuel0 a0 a1
def Orc66 (C : Nat -> List A -> Option A) : Prop := ∀ (a0 : Int) (a1 : Int), C 66 [(A.v (.int .u64 a0)), (iA a1)] = (G66 a0 a1).map fun y => (A.imm (List.map c8 y) true)
def F47 (n : Nat) (a0 : Int) (a1 : Int) (a2 : Bool) (a3 : Bool) (a4 : (List UInt8)) : Option (List UInt8) :=
 bif a2 then (bif a3 then ((G66 (wr .u64 (a1)) 2).bind fun y3 => bif (decide (0 <= (wr .u8 ((a4.length : Int)))) && decide ((wr .u8 ((a4.length : Int))) < 256)) then ((appI 1 y3 ([(3 : UInt8), (UInt8.ofNat (Int.toNat (wr .u8 ((a4.length : Int)))))])).bind fun y4 => (appI 1 y4 a4).bind fun y5 => (appZ 1 y5 (wr .i64 (112 - ((a4.length : Int)))) (0 : UInt8)).bind fun y6 => (G66 a0 4).bind fun y7 => (G67 y6).bind fun y8 => (G66 (wr .u64 (y8)) 4).bind fun y9 => (appI 1 y7 y9).bind fun y10 => (appI 1 y10 y6).bind fun y11 => (G66 a0 4).bind fun y12 => (appI 1 y11 y12).bind fun y13 => some y13) else none) else ((G66 (wr .u64 (a1)) 2).bind fun y14 => bif (decide (0 <= (wr .u8 ((a4.length : Int)))) && decide ((wr .u8 ((a4.length : Int))) < 256)) then ((appI 1 y14 ([(1 : UInt8), (UInt8.ofNat (Int.toNat (wr .u8 ((a4.length : Int)))))])).bind fun y15 => (appI 1 y15 a4).bind fun y16 => (appZ 1 y16 (wr .i64 (112 - ((a4.length : Int)))) (0 : UInt8)).bind fun y17 => (G66 a0 4).bind fun y18 => (G67 y17).bind fun y19 => (G66 (wr .u64 (y19)) 4).bind fun y20 => (appI 1 y18 y20).bind fun y21 => (appI 1 y21 y17).bind fun y22 => (G66 a0 4).bind fun y23 => (appI 1 y22 y23).bind fun y24 => some y24) else none)) else (bif a3 then ((G66 (wr .u64 (a1)) 2).bind fun y26 => bif (decide (0 <= (wr .u8 ((a4.length : Int)))) && decide ((wr .u8 ((a4.length : Int))) < 256)) then ((appI 1 y26 ([(2 : UInt8), (UInt8.ofNat (Int.toNat (wr .u8 ((a4.length : Int)))))])).bind fun y27 => (appI 1 y27 a4).bind fun y28 => (appZ 1 y28 (wr .i64 (112 - ((a4.length : Int)))) (0 : UInt8)).bind fun y29 => (G66 a0 4).bind fun y30 => (G67 y29).bind fun y31 => (G66 (wr .u64 (y31)) 4).bind fun y32 => (appI 1 y30 y32).bind fun y33 => (appI 1 y33 y29).bind fun y34 => (G66 a0 4).bind fun y35 => (appI 1 y34 y35).bind fun y36 => some y36) else none) else ((G66 (wr .u64 (a1)) 2).bind fun y37 => bif (decide (0 <= (wr .u8 ((a4.length : Int)))) && decide ((wr .u8 ((a4.length : Int))) < 256)) then ((appI 1 y37 ([(0 : UInt8), (UInt8.ofNat (Int.toNat (wr .u8 ((a4.length : Int)))))])).bind fun y38 => (appI 1 y38 a4).bind fun y39 => (appZ 1 y39 (wr .i64 (112 - ((a4.length : Int)))) (0 : UInt8)).bind fun y40 => (G66 a0 4).bind fun y41 => (G67 y40).bind fun y42 => (G66 (wr .u64 (y42)) 4).bind fun y43 => (appI 1 y41 y43).bind fun y44 => (appI 1 y44 y40).bind fun y45 => (G66 a0 4).bind fun y46 => (appI 1 y45 y46).bind fun y47 => some y47) else none))
theorem T47 (C : Nat -> List A -> Option A) (n : Nat) (h66 : Orc66 C) (h67 : Orc67 C) (a0 : Int) (a1 : Int) (a2 : Bool) (a3 : Bool) (a4 : (List UInt8)) : J (fun (o : R) y => ∃ v, o.1 = .ret v /\ snapE o.2 v = (A.imm (List.map c8 y) false)) (evCall1 (cx C) (ec C n 8) (ey C n 8) (n+8) 47 [(A.v (.int .u64 a0)), (iA a1), (bA a2), (bA a3), (A.imm (List.map c8 a4) false)] [] 0) some (F47 n a0 a1 a2 a3 a4) some := by
 refine .lp (e47 ..) ?_
 unfold F47
 refine .biHN (fun hk1 => ?_) (fun hk1 => ?_)
 ·refine .s (uA 1) ?_
  refine .biHN (fun hk2 => ?_) (fun hk2 => ?_)
  ·refine .s (uA 3) ?_
   refine .st (v := (A.v (.int .u64 (wr .u64 (a1))))) (aConvert_int (hs := by kernel_rfl) (hd := by kernel_rfl) ..) ?_
   refine .bd (g := fun (y : (List UInt8)) => (A.imm (List.map c8 y) true)) (h66 (wr .u64 (a1)) 2) fun y3 => ?_
   refine .st (v := (iA ((a4.length : Int)))) (len_imm (e := 5) (h1 := by kernel_rfl) ..) ?_
   refine .st (v := (uA (wr .u8 ((a4.length : Int))))) (aConvert_int (hs := by kernel_rfl) (hd := by kernel_rfl) ..) ?_
   refine .gd fun hg => ?_
   refine .st (v := (A.imm [[(uA 3)], [(uA (((UInt8.ofNat (Int.toNat (wr .u8 ((a4.length : Int))))).toNat : Int)))]] true)) (by rw [u8_back hg]; kernel_rfl) ?_
   refine .bd (g := fun (y : List UInt8) => ((A.sl 0 0 y.length false), [Blk.row false 1 (List.map c8 y)])) (app_imm (e := 5) (es := 1) (by_ := 1) (z := [(uA 0)]) (by kernel_rfl) (by kernel_rfl) (by kernel_rfl) (by kernel_rfl) rfl (by decide) (by decide) (by kernel_rfl) (f := c8) (fun _ => rfl) ce_c8 (l := y3) (l2 := [(3 : UInt8), (UInt8.ofNat (Int.toNat (wr .u8 ((a4.length : Int)))))]) (els_imm (f := c8) ([(3 : UInt8), (UInt8.ofNat (Int.toNat (wr .u8 ((a4.length : Int)))))] : List UInt8) _ _)) fun y4 => ?_
   refine .bd (g := fun (y : List UInt8) => ((A.sl 0 0 y.length false), [Blk.row false 1 (List.map c8 y)])) (app_row (e := 5) (es := 1) (by_ := 1) (z := [(uA 0)]) (by kernel_rfl) (by kernel_rfl) (by kernel_rfl) (by kernel_rfl) rfl (by decide) (by decide) (by kernel_rfl) (f := c8) (fun _ => rfl) ce_c8 (l := y4) (l2 := a4) (b := 0) rfl (by decide) (els_imm ..)) fun y5 => ?_
   refine .st (v := (iA ((a4.length : Int)))) (len_imm (e := 5) (h1 := by kernel_rfl) ..) ?_
   refine .st (v := (iA (wr .i64 (112 - ((a4.length : Int)))))) (aBin_sub ..) ?_
   refine .bd (g := fun (y : List UInt8) => ((A.sl 0 0 y.length false), [Blk.row false 1 (List.map c8 y)])) (zapp_row (e := 5) (es := 1) (by_ := 1) (z := [(uA 0)]) (by kernel_rfl) (by kernel_rfl) (by kernel_rfl) (by kernel_rfl) rfl (by decide) (by decide) (by kernel_rfl) (by kernel_rfl) (f := c8) (fun _ => rfl) ce_c8 (l := y5) (b := 0) (z0 := (0 : UInt8)) rfl rfl (by decide)) fun y6 => ?_
   refine .bd (g := fun (y : (List UInt8)) => (A.imm (List.map c8 y) true)) (h66 a0 4) fun y7 => ?_
   refine .bd (g := fun (y : Int) => (A.v (.int .u32 y))) (by show C 67 [snap [Blk.row false 1 (List.map c8 y6)] (A.sl 0 0 y6.length false)] = _; simp only [sn0, snM, snapG_row (H := [Blk.row false 1 (List.map c8 y6)]) (b := 0) (es := 1) (l := y6) fl_c8 rfl]; exact h67 y6) fun y8 => ?_
   refine .st (v := (A.v (.int .u64 (wr .u64 (y8))))) (aConvert_int (hs := by kernel_rfl) (hd := by kernel_rfl) ..) ?_
   refine .bd (g := fun (y : (List UInt8)) => (A.imm (List.map c8 y) true)) (h66 (wr .u64 (y8)) 4) fun y9 => ?_
   refine .bd (g := fun (y : List UInt8) => ((A.sl 1 0 y.length false), [Blk.row false 1 (List.map c8 y6), Blk.row false 1 (List.map c8 y)])) (app_imm (e := 5) (es := 1) (by_ := 1) (z := [(uA 0)]) (by kernel_rfl) (by kernel_rfl) (by kernel_rfl) (by kernel_rfl) rfl (by decide) (by decide) (by kernel_rfl) (f := c8) (fun _ => rfl) ce_c8 (l := y7) (l2 := y9) (els_imm ..)) fun y10 => ?_
   refine .bd (g := fun (y : List UInt8) => ((A.sl 1 0 y.length false), [Blk.row false 1 (List.map c8 y6), Blk.row false 1 (List.map c8 y)])) (app_row (e := 5) (es := 1) (by_ := 1) (z := [(uA 0)]) (by kernel_rfl) (by kernel_rfl) (by kernel_rfl) (by kernel_rfl) rfl (by decide) (by decide) (by kernel_rfl) (f := c8) (fun _ => rfl) ce_c8 (l := y10) (l2 := y6) (b := 1) rfl (by decide) (els_row _ rfl)) fun y11 => ?_
   refine .bd (g := fun (y : (List UInt8)) => (A.imm (List.map c8 y) true)) (h66 a0 4) fun y12 => ?_
   refine .bd (g := fun (y : List UInt8) => ((A.sl 1 0 y.length false), [Blk.row false 1 (List.map c8 y6), Blk.row false 1 (List.map c8 y)])) (app_row (e := 5) (es := 1) (by_ := 1) (z := [(uA 0)]) (by kernel_rfl) (by kernel_rfl) (by kernel_rfl) (by kernel_rfl) rfl (by decide) (by decide) (by kernel_rfl) (f := c8) (fun _ => rfl) ce_c8 (l := y11) (l2 := y12) (b := 1) rfl (by decide) (els_imm ..)) fun y13 => ?_
   exact .lf rfl rfl ⟨_, rfl, by show snapE [Blk.row false 1 (List.map c8 y6), Blk.row false 1 (List.map c8 y13)] (A.sl 1 0 y13.length false) = _; first | (simp only [sn0, snM, snapE, snapGE_row (H := [Blk.row false 1 (List.map c8 y6), Blk.row false 1 (List.map c8 y13)]) (b := 1) (es := 1) (wr := false) (l := y13) fl_c8 rfl]; done) | (simp only [sn0, snS, snapE, snapGE_row (H := [Blk.row false 1 (List.map c8 y6), Blk.row false 1 (List.map c8 y13)]) (b := 1) (es := 1) (wr := false) (l := y13) fl_c8 rfl]; first | done | rfl)⟩
  refine .st (v := (A.v (.int .u64 (wr .u64 (a1))))) (aConvert_int (hs := by kernel_rfl) (hd := by kernel_rfl) ..) ?_
  refine .bd (g := fun (y : (List UInt8)) => (A.imm (List.map c8 y) true)) (h66 (wr .u64 (a1)) 2) fun y14 => ?_
  refine .st (v := (iA ((a4.length : Int)))) (len_imm (e := 5) (h1 := by kernel_rfl) ..) ?_
  refine .st (v := (uA (wr .u8 ((a4.length : Int))))) (aConvert_int (hs := by kernel_rfl) (hd := by kernel_rfl) ..) ?_
  refine .gd fun hg => ?_
  refine .st (v := (A.imm [[(uA 1)], [(uA (((UInt8.ofNat (Int.toNat (wr .u8 ((a4.length : Int))))).toNat : Int)))]] true)) (by rw [u8_back hg]; kernel_rfl) ?_
  refine .bd (g := fun (y : List UInt8) => ((A.sl 0 0 y.length false), [Blk.row false 1 (List.map c8 y)])) (app_imm (e := 5) (es := 1) (by_ := 1) (z := [(uA 0)]) (by kernel_rfl) (by kernel_rfl) (by kernel_rfl) (by kernel_rfl) rfl (by decide) (by decide) (by kernel_rfl) (f := c8) (fun _ => rfl) ce_c8 (l := y14) (l2 := [(1 : UInt8), (UInt8.ofNat (Int.toNat (wr .u8 ((a4.length : Int)))))]) (els_imm (f := c8) ([(1 : UInt8), (UInt8.ofNat (Int.toNat (wr .u8 ((a4.length : Int)))))] : List UInt8) _ _)) fun y15 => ?_
  refine .bd (g := fun (y : List UInt8) => ((A.sl 0 0 y.length false), [Blk.row false 1 (List.map c8 y)])) (app_row (e := 5) (es := 1) (by_ := 1) (z := [(uA 0)]) (by kernel_rfl) (by kernel_rfl) (by kernel_rfl) (by kernel_rfl) rfl (by decide) (by decide) (by kernel_rfl) (f := c8) (fun _ => rfl) ce_c8 (l := y15) (l2 := a4) (b := 0) rfl (by decide) (els_imm ..)) fun y16 => ?_
  refine .st (v := (iA ((a4.length : Int)))) (len_imm (e := 5) (h1 := by kernel_rfl) ..) ?_
  refine .st (v := (iA (wr .i64 (112 - ((a4.length : Int)))))) (aBin_sub ..) ?_
  refine .bd (g := fun (y : List UInt8) => ((A.sl 0 0 y.length false), [Blk.row false 1 (List.map c8 y)])) (zapp_row (e := 5) (es := 1) (by_ := 1) (z := [(uA 0)]) (by kernel_rfl) (by kernel_rfl) (by kernel_rfl) (by kernel_rfl) rfl (by decide) (by decide) (by kernel_rfl) (by kernel_rfl) (f := c8) (fun _ => rfl) ce_c8 (l := y16) (b := 0) (z0 := (0 : UInt8)) rfl rfl (by decide)) fun y17 => ?_
  refine .bd (g := fun (y : (List UInt8)) => (A.imm (List.map c8 y) true)) (h66 a0 4) fun y18 => ?_
  refine .bd (g := fun (y : Int) => (A.v (.int .u32 y))) (by show C 67 [snap [Blk.row false 1 (List.map c8 y17)] (A.sl 0 0 y17.length false)] = _; simp only [sn0, snM, snapG_row (H := [Blk.row false 1 (List.map c8 y17)]) (b := 0) (es := 1) (l := y17) fl_c8 rfl]; exact h67 y17) fun y19 => ?_
  refine .st (v := (A.v (.int .u64 (wr .u64 (y19))))) (aConvert_int (hs := by kernel_rfl) (hd := by kernel_rfl) ..) ?_
  refine .bd (g := fun (y : (List UInt8)) => (A.imm (List.map c8 y) true)) (h66 (wr .u64 (y19)) 4) fun y20 => ?_
  refine .bd (g := fun (y : List UInt8) => ((A.sl 1 0 y.length false), [Blk.row false 1 (List.map c8 y17), Blk.row false 1 (List.map c8 y)])) (app_imm (e := 5) (es := 1) (by_ := 1) (z := [(uA 0)]) (by kernel_rfl) (by kernel_rfl) (by kernel_rfl) (by kernel_rfl) rfl (by decide) (by decide) (by kernel_rfl) (f := c8) (fun _ => rfl) ce_c8 (l := y18) (l2 := y20) (els_imm ..)) fun y21 => ?_
  refine .bd (g := fun (y : List UInt8) => ((A.sl 1 0 y.length false), [Blk.row false 1 (List.map c8 y17), Blk.row false 1 (List.map c8 y)])) (app_row (e := 5) (es := 1) (by_ := 1) (z := [(uA 0)]) (by kernel_rfl) (by kernel_rfl) (by kernel_rfl) (by kernel_rfl) rfl (by decide) (by decide) (by kernel_rfl) (f := c8) (fun _ => rfl) ce_c8 (l := y21) (l2 := y17) (b := 1) rfl (by decide) (els_row _ rfl)) fun y22 => ?_
  refine .bd (g := fun (y : (List UInt8)) => (A.imm (List.map c8 y) true)) (h66 a0 4) fun y23 => ?_
  refine .bd (g := fun (y : List UInt8) => ((A.sl 1 0 y.length false), [Blk.row false 1 (List.map c8 y17), Blk.row false 1 (List.map c8 y)])) (app_row (e := 5) (es := 1) (by_ := 1) (z := [(uA 0)]) (by kernel_rfl) (by kernel_rfl) (by kernel_rfl) (by kernel_rfl) rfl (by decide) (by decide) (by kernel_rfl) (f := c8) (fun _ => rfl) ce_c8 (l := y22) (l2 := y23) (b := 1) rfl (by decide) (els_imm ..)) fun y24 => ?_
  exact .lf rfl rfl ⟨_, rfl, by show snapE [Blk.row false 1 (List.map c8 y17), Blk.row false 1 (List.map c8 y24)] (A.sl 1 0 y24.length false) = _; first | (simp only [sn0, snM, snapE, snapGE_row (H := [Blk.row false 1 (List.map c8 y17), Blk.row false 1 (List.map c8 y24)]) (b := 1) (es := 1) (wr := false) (l := y24) fl_c8 rfl]; done) | (simp only [sn0, snS, snapE, snapGE_row (H := [Blk.row false 1 (List.map c8 y17), Blk.row false 1 (List.map c8 y24)]) (b := 1) (es := 1) (wr := false) (l := y24) fl_c8 rfl]; first | done | rfl)⟩
 refine .biHN (fun hk25 => ?_) (fun hk25 => ?_)
 ·refine .s (uA 2) ?_
  refine .st (v := (A.v (.int .u64 (wr .u64 (a1))))) (aConvert_int (hs := by kernel_rfl) (hd := by kernel_rfl) ..) ?_
  refine .bd (g := fun (y : (List UInt8)) => (A.imm (List.map c8 y) true)) (h66 (wr .u64 (a1)) 2) fun y26 => ?_
  refine .st (v := (iA ((a4.length : Int)))) (len_imm (e := 5) (h1 := by kernel_rfl) ..) ?_
  refine .st (v := (uA (wr .u8 ((a4.length : Int))))) (aConvert_int (hs := by kernel_rfl) (hd := by kernel_rfl) ..) ?_
  refine .gd fun hg => ?_
  refine .st (v := (A.imm [[(uA 2)], [(uA (((UInt8.ofNat (Int.toNat (wr .u8 ((a4.length : Int))))).toNat : Int)))]] true)) (by rw [u8_back hg]; kernel_rfl) ?_
  refine .bd (g := fun (y : List UInt8) => ((A.sl 0 0 y.length false), [Blk.row false 1 (List.map c8 y)])) (app_imm (e := 5) (es := 1) (by_ := 1) (z := [(uA 0)]) (by kernel_rfl) (by kernel_rfl) (by kernel_rfl) (by kernel_rfl) rfl (by decide) (by decide) (by kernel_rfl) (f := c8) (fun _ => rfl) ce_c8 (l := y26) (l2 := [(2 : UInt8), (UInt8.ofNat (Int.toNat (wr .u8 ((a4.length : Int)))))]) (els_imm (f := c8) ([(2 : UInt8), (UInt8.ofNat (Int.toNat (wr .u8 ((a4.length : Int)))))] : List UInt8) _ _)) fun y27 => ?_
  refine .bd (g := fun (y : List UInt8) => ((A.sl 0 0 y.length false), [Blk.row false 1 (List.map c8 y)])) (app_row (e := 5) (es := 1) (by_ := 1) (z := [(uA 0)]) (by kernel_rfl) (by kernel_rfl) (by kernel_rfl) (by kernel_rfl) rfl (by decide) (by decide) (by kernel_rfl) (f := c8) (fun _ => rfl) ce_c8 (l := y27) (l2 := a4) (b := 0) rfl (by decide) (els_imm ..)) fun y28 => ?_
  refine .st (v := (iA ((a4.length : Int)))) (len_imm (e := 5) (h1 := by kernel_rfl) ..) ?_
  refine .st (v := (iA (wr .i64 (112 - ((a4.length : Int)))))) (aBin_sub ..) ?_
  refine .bd (g := fun (y : List UInt8) => ((A.sl 0 0 y.length false), [Blk.row false 1 (List.map c8 y)])) (zapp_row (e := 5) (es := 1) (by_ := 1) (z := [(uA 0)]) (by kernel_rfl) (by kernel_rfl) (by kernel_rfl) (by kernel_rfl) rfl (by decide) (by decide) (by kernel_rfl) (by kernel_rfl) (f := c8) (fun _ => rfl) ce_c8 (l := y28) (b := 0) (z0 := (0 : UInt8)) rfl rfl (by decide)) fun y29 => ?_
  refine .bd (g := fun (y : (List UInt8)) => (A.imm (List.map c8 y) true)) (h66 a0 4) fun y30 => ?_
  refine .bd (g := fun (y : Int) => (A.v (.int .u32 y))) (by show C 67 [snap [Blk.row false 1 (List.map c8 y29)] (A.sl 0 0 y29.length false)] = _; simp only [sn0, snM, snapG_row (H := [Blk.row false 1 (List.map c8 y29)]) (b := 0) (es := 1) (l := y29) fl_c8 rfl]; exact h67 y29) fun y31 => ?_
  refine .st (v := (A.v (.int .u64 (wr .u64 (y31))))) (aConvert_int (hs := by kernel_rfl) (hd := by kernel_rfl) ..) ?_
  refine .bd (g := fun (y : (List UInt8)) => (A.imm (List.map c8 y) true)) (h66 (wr .u64 (y31)) 4) fun y32 => ?_
  refine .bd (g := fun (y : List UInt8) => ((A.sl 1 0 y.length false), [Blk.row false 1 (List.map c8 y29), Blk.row false 1 (List.map c8 y)])) (app_imm (e := 5) (es := 1) (by_ := 1) (z := [(uA 0)]) (by kernel_rfl) (by kernel_rfl) (by kernel_rfl) (by kernel_rfl) rfl (by decide) (by decide) (by kernel_rfl) (f := c8) (fun _ => rfl) ce_c8 (l := y30) (l2 := y32) (els_imm ..)) fun y33 => ?_
  refine .bd (g := fun (y : List UInt8) => ((A.sl 1 0 y.length false), [Blk.row false 1 (List.map c8 y29), Blk.row false 1 (List.map c8 y)])) (app_row (e := 5) (es := 1) (by_ := 1) (z := [(uA 0)]) (by kernel_rfl) (by kernel_rfl) (by kernel_rfl) (by kernel_rfl) rfl (by decide) (by decide) (by kernel_rfl) (f := c8) (fun _ => rfl) ce_c8 (l := y33) (l2 := y29) (b := 1) rfl (by decide) (els_row _ rfl)) fun y34 => ?_
  refine .bd (g := fun (y : (List UInt8)) => (A.imm (List.map c8 y) true)) (h66 a0 4) fun y35 => ?_
  refine .bd (g := fun (y : List UInt8) => ((A.sl 1 0 y.length false), [Blk.row false 1 (List.map c8 y29), Blk.row false 1 (List.map c8 y)])) (app_row (e := 5) (es := 1) (by_ := 1) (z := [(uA 0)]) (by kernel_rfl) (by kernel_rfl) (by kernel_rfl) (by kernel_rfl) rfl (by decide) (by decide) (by kernel_rfl) (f := c8) (fun _ => rfl) ce_c8 (l := y34) (l2 := y35) (b := 1) rfl (by decide) (els_imm ..)) fun y36 => ?_
  exact .lf rfl rfl ⟨_, rfl, by show snapE [Blk.row false 1 (List.map c8 y29), Blk.row false 1 (List.map c8 y36)] (A.sl 1 0 y36.length false) = _; first | (simp only [sn0, snM, snapE, snapGE_row (H := [Blk.row false 1 (List.map c8 y29), Blk.row false 1 (List.map c8 y36)]) (b := 1) (es := 1) (wr := false) (l := y36) fl_c8 rfl]; done) | (simp only [sn0, snS, snapE, snapGE_row (H := [Blk.row false 1 (List.map c8 y29), Blk.row false 1 (List.map c8 y36)]) (b := 1) (es := 1) (wr := false) (l := y36) fl_c8 rfl]; first | done | rfl)⟩
 refine .st (v := (A.v (.int .u64 (wr .u64 (a1))))) (aConvert_int (hs := by kernel_rfl) (hd := by kernel_rfl) ..) ?_
 refine .bd (g := fun (y : (List UInt8)) => (A.imm (List.map c8 y) true)) (h66 (wr .u64 (a1)) 2) fun y37 => ?_
 refine .st (v := (iA ((a4.length : Int)))) (len_imm (e := 5) (h1 := by kernel_rfl) ..) ?_
 refine .st (v := (uA (wr .u8 ((a4.length : Int))))) (aConvert_int (hs := by kernel_rfl) (hd := by kernel_rfl) ..) ?_
 refine .gd fun hg => ?_
 refine .st (v := (A.imm [[(uA 0)], [(uA (((UInt8.ofNat (Int.toNat (wr .u8 ((a4.length : Int))))).toNat : Int)))]] true)) (by rw [u8_back hg]; kernel_rfl) ?_
 refine .bd (g := fun (y : List UInt8) => ((A.sl 0 0 y.length false), [Blk.row false 1 (List.map c8 y)])) (app_imm (e := 5) (es := 1) (by_ := 1) (z := [(uA 0)]) (by kernel_rfl) (by kernel_rfl) (by kernel_rfl) (by kernel_rfl) rfl (by decide) (by decide) (by kernel_rfl) (f := c8) (fun _ => rfl) ce_c8 (l := y37) (l2 := [(0 : UInt8), (UInt8.ofNat (Int.toNat (wr .u8 ((a4.length : Int)))))]) (els_imm (f := c8) ([(0 : UInt8), (UInt8.ofNat (Int.toNat (wr .u8 ((a4.length : Int)))))] : List UInt8) _ _)) fun y38 => ?_
 refine .bd (g := fun (y : List UInt8) => ((A.sl 0 0 y.length false), [Blk.row false 1 (List.map c8 y)])) (app_row (e := 5) (es := 1) (by_ := 1) (z := [(uA 0)]) (by kernel_rfl) (by kernel_rfl) (by kernel_rfl) (by kernel_rfl) rfl (by decide) (by decide) (by kernel_rfl) (f := c8) (fun _ => rfl) ce_c8 (l := y38) (l2 := a4) (b := 0) rfl (by decide) (els_imm ..)) fun y39 => ?_
 refine .st (v := (iA ((a4.length : Int)))) (len_imm (e := 5) (h1 := by kernel_rfl) ..) ?_
 refine .st (v := (iA (wr .i64 (112 - ((a4.length : Int)))))) (aBin_sub ..) ?_
 refine .bd (g := fun (y : List UInt8) => ((A.sl 0 0 y.length false), [Blk.row false 1 (List.map c8 y)])) (zapp_row (e := 5) (es := 1) (by_ := 1) (z := [(uA 0)]) (by kernel_rfl) (by kernel_rfl) (by kernel_rfl) (by kernel_rfl) rfl (by decide) (by decide) (by kernel_rfl) (by kernel_rfl) (f := c8) (fun _ => rfl) ce_c8 (l := y39) (b := 0) (z0 := (0 : UInt8)) rfl rfl (by decide)) fun y40 => ?_
 refine .bd (g := fun (y : (List UInt8)) => (A.imm (List.map c8 y) true)) (h66 a0 4) fun y41 => ?_
 refine .bd (g := fun (y : Int) => (A.v (.int .u32 y))) (by show C 67 [snap [Blk.row false 1 (List.map c8 y40)] (A.sl 0 0 y40.length false)] = _; simp only [sn0, snM, snapG_row (H := [Blk.row false 1 (List.map c8 y40)]) (b := 0) (es := 1) (l := y40) fl_c8 rfl]; exact h67 y40) fun y42 => ?_
 refine .st (v := (A.v (.int .u64 (wr .u64 (y42))))) (aConvert_int (hs := by kernel_rfl) (hd := by kernel_rfl) ..) ?_
 refine .bd (g := fun (y : (List UInt8)) => (A.imm (List.map c8 y) true)) (h66 (wr .u64 (y42)) 4) fun y43 => ?_
 refine .bd (g := fun (y : List UInt8) => ((A.sl 1 0 y.length false), [Blk.row false 1 (List.map c8 y40), Blk.row false 1 (List.map c8 y)])) (app_imm (e := 5) (es := 1) (by_ := 1) (z := [(uA 0)]) (by kernel_rfl) (by kernel_rfl) (by kernel_rfl) (by kernel_rfl) rfl (by decide) (by decide) (by kernel_rfl) (f := c8) (fun _ => rfl) ce_c8 (l := y41) (l2 := y43) (els_imm ..)) fun y44 => ?_
 refine .bd (g := fun (y : List UInt8) => ((A.sl 1 0 y.length false), [Blk.row false 1 (List.map c8 y40), Blk.row false 1 (List.map c8 y)])) (app_row (e := 5) (es := 1) (by_ := 1) (z := [(uA 0)]) (by kernel_rfl) (by kernel_rfl) (by kernel_rfl) (by kernel_rfl) rfl (by decide) (by decide) (by kernel_rfl) (f := c8) (fun _ => rfl) ce_c8 (l := y44) (l2 := y40) (b := 1) rfl (by decide) (els_row _ rfl)) fun y45 => ?_
 refine .bd (g := fun (y : (List UInt8)) => (A.imm (List.map c8 y) true)) (h66 a0 4) fun y46 => ?_
 refine .bd (g := fun (y : List UInt8) => ((A.sl 1 0 y.length false), [Blk.row false 1 (List.map c8 y40), Blk.row false 1 (List.map c8 y)])) (app_row (e := 5) (es := 1) (by_ := 1) (z := [(uA 0)]) (by kernel_rfl) (by kernel_rfl) (by kernel_rfl) (by kernel_rfl) rfl (by decide) (by decide) (by kernel_rfl) (f := c8) (fun _ => rfl) ce_c8 (l := y45) (l2 := y46) (b := 1) rfl (by decide) (els_imm ..)) fun y47 => ?_
 exact .lf rfl rfl ⟨_, rfl, by show snapE [Blk.row false 1 (List.map c8 y40), Blk.row false 1 (List.map c8 y47)] (A.sl 1 0 y47.length false) = _; first | (simp only [sn0, snM, snapE, snapGE_row (H := [Blk.row false 1 (List.map c8 y40), Blk.row false 1 (List.map c8 y47)]) (b := 1) (es := 1) (wr := false) (l := y47) fl_c8 rfl]; done) | (simp only [sn0, snS, snapE, snapGE_row (H := [Blk.row false 1 (List.map c8 y40), Blk.row false 1 (List.map c8 y47)]) (b := 1) (es := 1) (wr := false) (l := y47) fl_c8 rfl]; first | done | rfl)⟩
def G47 (a0 : Int) (a1 : Int) (a2 : Bool) (a3 : Bool) (a4 : (List UInt8)) : Option (List UInt8) := F47 fuel0 a0 a1 a2 a3 a4
def Orc47 (C : Nat -> List A -> Option A) : Prop := ∀ (a0 : Int) (a1 : Int) (a2 : Bool) (a3 : Bool) (a4 : (List UInt8)), C 47 [(A.v (.int .u64 a0)), (iA a1), (bA a2), (bA a3), (A.imm (List.map c8 a4) false)] = (G47 a0 a1 a2 a3 a4).map fun y => (A.imm (List.map c8 y) false)
def F46_46_0 (n : Nat) (v21 : Int) (v22 : Int) (v23 : S_Disk) (v24 : (List (List UInt8))) (v25 : (List S_Write)) (v26 : Int) (v27 : Bool) : Nat -> (List UInt8) -> Option ((List UInt8))
 | 0, _ => none
 | m + 1, v28 => bif (decide (((v28.length : Int)) < 128)) then ((appI 1 v28 ([(0 : UInt8)])).bind fun y30 => F46_46_0 n v21 v22 v23 v24 v25 v26 v27 m y30) else (some v28)
theorem T46_46_0 (C : Nat -> List A -> Option A) (n : Nat) (h33 : Orc33 C) (v21 : Int) (v22 : Int) (v23 : S_Disk) (v24 : (List (List UInt8))) (v25 : (List S_Write)) (v26 : Int) (v27 : Bool) {ρ γ : Type} {φ : ρ -> γ -> Prop} {kL : R -> Option ρ} {K : ((List UInt8)) -> Option γ} (kx kg : Nat -> St -> Option R) (kr : St -> Option R) (kp : A -> St -> Option R) (x0 : ∀ (o0 : (List UInt8)) (s7 : A), J φ (kx 0 (St.mk [(1, (iA v21)), (3, (A.ptr 0 0)), (6, (A.ptr 1 0)), (7, s7), (8, (A.sl 2 0 o0.length false))] [Blk.box (c_S_Disk v23), Blk.box [(A.imm (List.map (cL c8) v24) true), (A.imm (List.map c_S_Write v25) true), (iA v26), (bA v27)], Blk.row false 1 (List.map c8 o0)])) kL (K o0) some) :
  ∀ (m : Nat) (v28 : (List UInt8)), J φ (loopR (cx C) (ec C n 8) (ey C n 8) (n+8) 46 0 0 3 kx kg kr kp m (St.mk [(1, (iA v21)), (3, (A.ptr 0 0)), (6, (A.ptr 1 0)), (7, (iA v22)), (8, (A.sl 2 0 v28.length false))] [Blk.box (c_S_Disk v23), Blk.box [(A.imm (List.map (cL c8) v24) true), (A.imm (List.map c_S_Write v25) true), (iA v26), (bA v27)], Blk.row false 1 (List.map c8 v28)])) kL (F46_46_0 n v21 v22 v23 v24 v25 v26 v27 m v28) K := by
 intro m
 induction m with
 | zero => intros; exact .nn
 | succ m ih =>
  intro v28
  refine .lp (e46_0 ..) ?_
  unfold F46_46_0
  refine .st (v := (iA ((v28.length : Int)))) (row_len (e := 5) (by kernel_rfl) rfl rfl) ?_
  refine .st (v := (bA (decide (((v28.length : Int)) < 128)))) (aBin_lss ..) ?_
  refine .biHN (fun hk29 => ?_) (fun hk29 => ?_)
  ·refine .s (A.imm [[(uA 0)]] true) ?_
   refine .bd (g := fun (y : List UInt8) => ((A.sl 2 0 y.length false), [Blk.box (c_S_Disk v23), Blk.box [(A.imm (List.map (cL c8) v24) true), (A.imm (List.map c_S_Write v25) true), (iA v26), (bA v27)], Blk.row false 1 (List.map c8 y)])) (app_row (e := 5) (es := 1) (by_ := 1) (z := [(uA 0)]) (by kernel_rfl) (by kernel_rfl) (by kernel_rfl) (by kernel_rfl) rfl (by decide) (by decide) (by kernel_rfl) (f := c8) (fun _ => rfl) ce_c8 (l := v28) (l2 := [(0 : UInt8)]) (b := 2) rfl (by decide) (els_imm (f := c8) ([(0 : UInt8)] : List UInt8) _ _)) fun y30 => ?_
   refine .s [Blk.box (c_S_Disk v23), Blk.box [(A.imm (List.map (cL c8) v24) true), (A.imm (List.map c_S_Write v25) true), (iA v26), (bA v27)], Blk.row false 1 (List.map c8 y30)] ?_
   refine .cT (by kernel_rfl) ?_
   exact ih _
  exact .ex (x0 _ _)
def F46 (n : Nat) (a0 : S_Disk) (a1 : Int) (a2 : (List UInt8)) : Option (S_Disk × Int) :=
 (G33 a0).bind fun y1 => (bif (y1 != 0) then (some true) else (some a0.Stopped)).bind fun y3 => (bif y3 then (some true) else (some (decide (a1 < 0)))).bind fun y7 => (bif y7 then (some true) else (some (decide (((a0.Sectors.length : Int)) <= a1)))).bind fun y11 => bif y11 then (some (((S_Disk.mk ([]) ([]) 0 false), 40))) else (bif (decide (128 < ((a2.length : Int)))) then (some (((S_Disk.mk ([]) ([]) 0 false), 1))) else (bif (((a0.Pending.length : Int)) == 4096) then (some (((S_Disk.mk ([]) ([]) 0 false), 2))) else ((appI 1 ([]) a2).bind fun y20 => (F46_46_0 n a1 0 a0 ([]) ([]) 0 false (n+8) y20).bind fun o31 => match o31 with | y32 => (appI 32 ([]) a0.Pending).bind fun y34 => (appI 32 y34 ([(S_Write.mk a1 y32)])).bind fun y35 => some (((S_Disk.mk a0.Sectors y35 a0.Left a0.Stopped), 0)))))
theorem T46 (C : Nat -> List A -> Option A) (n : Nat) (h33 : Orc33 C) (a0 : S_Disk) (a1 : Int) (a2 : (List UInt8)) : J (fun (o : R) y => ∃ v, o.1 = .ret v /\ snapE o.2 v = (A.tup [(A.agg [(A.imm (List.map (cL c8) y.1.Sectors) false), (A.imm (List.map c_S_Write y.1.Pending) false), (iA y.1.Left), (bA y.1.Stopped)]), (iA y.2)])) (evCall1 (cx C) (ec C n 8) (ey C n 8) (n+8) 46 [(A.agg (c_S_Disk a0)), (iA a1), (A.imm (List.map c8 a2) false)] [] 0) some (F46 n a0 a1 a2) some := by
 refine .lp (e46 ..) ?_
 unfold F46
 refine .s ((A.ptr 0 0), [Blk.box (c_S_Disk a0)]) (.s ((A.ptr 1 0), [Blk.box (c_S_Disk a0), bz4]) (.s (A.agg (c_S_Disk a0)) ?_))
 refine .bd (g := fun (y : Int) => (iA y)) (by show C 33 [snap _ (A.agg (c_S_Disk a0))] = _; simp only [sn0, snM]; exact h33 a0) fun y1 => ?_
 refine .st (v := (bA (y1 != 0))) (aBin_neq ..) ?_
 refine .bg (fun t (y : Bool) => ∃ j4 j5 : A, t = [(bA y), j4, j5]) ?_ ?_
 ·refine .biH (fun hk2 => ?_) (fun hk2 => ?_)
  ·exact .lg ⟨_, _, rfl⟩
  refine .s (A.ptr 0 3) (.s (bA a0.Stopped) ?_)
  exact .lg ⟨_, _, rfl⟩
 rintro _ y3 ⟨j4, j5, rfl⟩
 iterate 3 refine .uc ?_
 refine .bg (fun t (y : Bool) => ∃ j8 j9 : A, t = [(bA y), j8, j9]) ?_ ?_
 ·refine .biH (fun hk6 => ?_) (fun hk6 => ?_)
  ·exact .lg ⟨_, _, rfl⟩
  refine .st (v := (bA (decide (a1 < 0)))) (aBin_lss ..) ?_
  exact .lg ⟨_, _, rfl⟩
 rintro _ y7 ⟨j8, j9, rfl⟩
 iterate 3 refine .uc ?_
 refine .bg (fun t (y : Bool) => ∃ j12 j13 j14 j15 j16 : A, t = [(bA y), j12, j13, j14, j15, j16]) ?_ ?_
 ·refine .biH (fun hk10 => ?_) (fun hk10 => ?_)
  ·exact .lg ⟨_, _, _, _, _, rfl⟩
  refine .s (A.ptr 0 0) (.s (A.imm (List.map (cL c8) a0.Sectors) false) ?_)
  refine .st (v := (iA ((a0.Sectors.length : Int)))) (len_imm (e := 35) (h1 := by kernel_rfl) ..) ?_
  refine .st (v := (bA (decide (((a0.Sectors.length : Int)) <= a1)))) (aBin_geq ..) ?_
  exact .lg ⟨_, _, _, _, _, rfl⟩
 rintro _ y11 ⟨j12, j13, j14, j15, j16, rfl⟩
 iterate 6 refine .uc ?_
 refine .biHN (fun hk17 => ?_) (fun hk17 => ?_)
 ·refine .s (A.agg [(A.imm [] true), (A.imm [] true), (iA 0), (bA false)]) (.s [Blk.box (c_S_Disk a0), bz4] (.s (A.agg [(A.imm [] true), (A.imm [] true), (iA 0), (bA false)]) ?_))
  exact .lf rfl rfl ⟨_, rfl, by show snapE _ (A.tup [(A.agg [(A.imm [] true), (A.imm [] true), (iA 0), (bA false)]), (iA 40)]) = _; first | (simp only [sn0, snM, snapE]; done) | (simp only [sn0, snS, snapE]; first | done | rfl)⟩
 refine .st (v := (iA ((a2.length : Int)))) (len_imm (e := 5) (h1 := by kernel_rfl) ..) ?_
 refine .st (v := (bA (decide (128 < ((a2.length : Int)))))) (aBin_gtr ..) ?_
 refine .biHN (fun hk18 => ?_) (fun hk18 => ?_)
 ·refine .s (A.agg [(A.imm [] true), (A.imm [] true), (iA 0), (bA false)]) (.s [Blk.box (c_S_Disk a0), bz4] (.s (A.agg [(A.imm [] true), (A.imm [] true), (iA 0), (bA false)]) ?_))
  exact .lf rfl rfl ⟨_, rfl, by show snapE _ (A.tup [(A.agg [(A.imm [] true), (A.imm [] true), (iA 0), (bA false)]), (iA 1)]) = _; first | (simp only [sn0, snM, snapE]; done) | (simp only [sn0, snS, snapE]; first | done | rfl)⟩
 refine .s (A.ptr 0 1) (.s (A.imm (List.map c_S_Write a0.Pending) false) ?_)
 refine .st (v := (iA ((a0.Pending.length : Int)))) (len_imm (e := 76) (h1 := by kernel_rfl) ..) ?_
 refine .st (v := (bA (((a0.Pending.length : Int)) == 4096))) (aBin_eql ..) ?_
 refine .biHN (fun hk19 => ?_) (fun hk19 => ?_)
 ·refine .s (A.agg [(A.imm [] true), (A.imm [] true), (iA 0), (bA false)]) (.s [Blk.box (c_S_Disk a0), bz4] (.s (A.agg [(A.imm [] true), (A.imm [] true), (iA 0), (bA false)]) ?_))
  exact .lf rfl rfl ⟨_, rfl, by show snapE _ (A.tup [(A.agg [(A.imm [] true), (A.imm [] true), (iA 0), (bA false)]), (iA 2)]) = _; first | (simp only [sn0, snM, snapE]; done) | (simp only [sn0, snS, snapE]; first | done | rfl)⟩
 refine .s (A.imm [] true) ?_
 refine .bd (g := fun (y : List UInt8) => ((A.sl 2 0 y.length false), [Blk.box (c_S_Disk a0), bz4, Blk.row false 1 (List.map c8 y)])) (app_imm (e := 5) (es := 1) (by_ := 1) (z := [(uA 0)]) (by kernel_rfl) (by kernel_rfl) (by kernel_rfl) (by kernel_rfl) rfl (by decide) (by decide) (by kernel_rfl) (f := c8) (fun _ => rfl) ce_c8 (l := []) (l2 := a2) (els_imm ..)) fun y20 => ?_
 refine .as (T46_46_0 C n h33 a1 0 a0 ([]) ([]) 0 false _ _ _ _ ?_ _ y20)
 ·intro y32 j33
  refine .un rfl ?_
  refine .cT (by kernel_rfl) ?_
  refine .s (A.imm [] true) (.s (A.ptr 0 1) (.s (A.imm (List.map c_S_Write a0.Pending) false) ?_))
  refine .bd (g := fun (y : List S_Write) => ((A.sl 3 0 y.length false), [Blk.box (c_S_Disk a0), bz4, Blk.row false 1 (List.map c8 y32), Blk.row false 2 (List.map c_S_Write y)])) (app_imm (e := 76) (es := 2) (by_ := 32) (z := [(iA 0), (A.imm [] true)]) (by kernel_rfl) (by kernel_rfl) (by kernel_rfl) (by kernel_rfl) rfl (by decide) (by decide) (by kernel_rfl) (f := c_S_Write) (fun _ => rfl) ce_S_Write (l := []) (l2 := a0.Pending) (els_imm ..)) fun y34 => ?_
  refine .s (A.agg [(iA a1), (A.sl 2 0 y32.length false)]) ?_
  refine .st (v := (A.imm [[(iA a1), (A.imm (List.map c8 y32) false)]] true)) (by show aBuildSlice prog 23 1 [(0, frzA [Blk.box (c_S_Disk a0), bz4, Blk.row false 1 (List.map c8 y32), Blk.row false 2 (List.map c_S_Write y34)] (A.agg [(iA a1), (A.sl 2 0 y32.length false)]))] = _; simp only [frzA, frz1, sn0, snM, snapG_row (H := [Blk.box (c_S_Disk a0), bz4, Blk.row false 1 (List.map c8 y32), Blk.row false 2 (List.map c_S_Write y34)]) (b := 2) (es := 1) (l := y32) fl_c8 rfl, snapG_row (H := [Blk.box (c_S_Disk a0), bz4, Blk.row false 1 (List.map c8 y32), Blk.row false 2 (List.map c_S_Write y34)]) (b := 3) (es := 2) (l := y34) fl_S_Write rfl]; kernel_rfl) ?_
  refine .bd (g := fun (y : List S_Write) => ((A.sl 3 0 y.length false), [Blk.box (c_S_Disk a0), bz4, Blk.row false 1 (List.map c8 y32), Blk.row false 2 (List.map c_S_Write y)])) (app_row (e := 76) (es := 2) (by_ := 32) (z := [(iA 0), (A.imm [] true)]) (by kernel_rfl) (by kernel_rfl) (by kernel_rfl) (by kernel_rfl) rfl (by decide) (by decide) (by kernel_rfl) (f := c_S_Write) (fun _ => rfl) ce_S_Write (l := y34) (l2 := [(S_Write.mk a1 y32)]) (b := 3) rfl (by decide) (els_imm (f := c_S_Write) ([(S_Write.mk a1 y32)] : List S_Write) _ _)) fun y35 => ?_
  refine .s (A.ptr 0 1) (.s [(hk26_1 a0 y35), bz4, Blk.row false 1 (List.map c8 y32), Blk.row false 2 (List.map c_S_Write y35)] (.s (A.agg [(A.imm (List.map (cL c8) a0.Sectors) false), (A.sl 3 0 y35.length false), (iA a0.Left), (bA a0.Stopped)]) (.s [(hk26_1 a0 y35), (hk26_1 a0 y35), Blk.row false 1 (List.map c8 y32), Blk.row false 2 (List.map c_S_Write y35)] (.s (A.agg [(A.imm (List.map (cL c8) a0.Sectors) false), (A.sl 3 0 y35.length false), (iA a0.Left), (bA a0.Stopped)]) ?_))))
  exact .lf rfl rfl ⟨_, rfl, by show snapE [(hk26_1 a0 y35), (hk26_1 a0 y35), Blk.row false 1 (List.map c8 y32), Blk.row false 2 (List.map c_S_Write y35)] (A.tup [(A.agg [(A.imm (List.map (cL c8) a0.Sectors) false), (A.sl 3 0 y35.length false), (iA a0.Left), (bA a0.Stopped)]), (iA 0)]) = _; first | (simp only [sn0, snM, snapE, snapGE_row (H := [(hk26_1 a0 y35), (hk26_1 a0 y35), Blk.row false 1 (List.map c8 y32), Blk.row false 2 (List.map c_S_Write y35)]) (b := 3) (es := 2) (wr := false) (l := y35) fl_S_Write rfl]; done) | (simp only [sn0, snS, snapE, snapGE_row (H := [(hk26_1 a0 y35), (hk26_1 a0 y35), Blk.row false 1 (List.map c8 y32), Blk.row false 2 (List.map c_S_Write y35)]) (b := 3) (es := 2) (wr := false) (l := y35) fl_S_Write rfl]; first | done | rfl)⟩
def G46 (a0 : S_Disk) (a1 : Int) (a2 : (List UInt8)) : Option (S_Disk × Int) := F46 fuel0 a0 a1 a2
def Orc46 (C : Nat -> List A -> Option A) : Prop := ∀ (a0 : S_Disk) (a1 : Int) (a2 : (List UInt8)), C 46 [(A.agg (c_S_Disk a0)), (iA a1), (A.imm (List.map c8 a2) false)] = (G46 a0 a1 a2).map fun y => (A.tup [(A.agg [(A.imm (List.map (cL c8) y.1.Sectors) false), (A.imm (List.map c_S_Write y.1.Pending) false), (iA y.1.Left), (bA y.1.Stopped)]), (iA y.2)])
end Go.Proofs.Ytobjniabioaefaa
