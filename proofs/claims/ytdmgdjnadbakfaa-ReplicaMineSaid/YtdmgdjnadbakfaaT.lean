/-
 The program's functions as plain functions: by a tool; each follows the interpreter.
-/
import Derived.Test.YtdmgdjnadbakfaaT1
import Derived.KernelRfl
namespace Go.Proofs.Ytdmgdjnadbakfaa
open Go.Proofs.Try (prog)
set_option linter.unusedVariables false
set_option linter.unusedSimpArgs false
set_option maxHeartbeats 4000000
set_option maxRecDepth 100000
def F6_23_0 (n : Nat) (v20 : Int) (v21 : Int) (v23 : (List S_Lease)) (v24 : Int) (v26 : S_Replica) (v27 : Int) (v28 : Int) : Nat -> Int -> Int -> Option ((Int × Int × Int × Int) ⊕ (Unit))
 | 0, _, _ => none
 | m + 1, v22, v25 => bif (decide (v25 < v24)) then ((getI v23 v25).bind fun y30 => (bif (decide (v22 <= v20)) then (some (decide (v20 < y30.Until))) else (some false)).bind fun y32 => bif y32 then (some ((Sum.inl ((y30.Holder, y30.No, y30.Holder, y30.Until))))) else (F6_23_0 n v20 v21 v23 v24 v26 v27 v28 m y30.Until (wr .i64 (v25 + 1)))) else (some ((Sum.inr (()))))
theorem T6_23_0 (C : Nat -> List A -> Option A) (n : Nat) (h14 : Orc14 C) (h20 : Orc20 C) (h24 : Orc24 C) (h7 : Orc7 C) (h8 : Orc8 C) (v20 : Int) (v21 : Int) (v23 : (List S_Lease)) (v24 : Int) (v26 : S_Replica) (v27 : Int) (v28 : Int) {ρ γ : Type} {φ : ρ -> γ -> Prop} {kL : R -> Option ρ} {K : ((Int × Int × Int × Int) ⊕ (Unit)) -> Option γ} (kx kg : Nat -> St -> Option R) (kr : St -> Option R) (kp : A -> St -> Option R) (x0 : ∀ (o0 : Int) (o1 : Int) (o2 : Int) (o3 : Int) (s0 : A) (s4 : A) (s8 : A) (s9 : A) (s10 : A), J φ (kr (St.mk [(0, s0), (3, (iA o0)), (4, s4), (8, s8), (9, s9), (10, s10)] [Blk.box (c_S_Replica v26), Blk.box [(iA v27), (iA v28)], Blk.box [(iA o1), (iA o2), (iA o3)]])) kL (K (Sum.inl ((o0, o1, o2, o3)))) some) (x1 : ∀ (s0 : A) (s3 : A) (s4 : A) (s8 : A) (s9 : A) (s10 : A), J φ (kx 0 (St.mk [(0, s0), (3, s3), (4, s4), (8, s8), (9, s9), (10, s10)] [Blk.box (c_S_Replica v26), Blk.box [(iA v27), (iA v28)]])) kL (K (Sum.inr (()))) some) :
  ∀ (m : Nat) (v22 : Int) (v25 : Int), J φ (loopR (cx C) (ec C n 7) (ey C n 7) (n+7) 23 2 0 2 kx kg kr kp m (St.mk [(0, (iA v20)), (3, (iA v21)), (4, (iA v22)), (8, (A.imm (List.map c_S_Lease v23) false)), (9, (iA v24)), (10, (iA v25))] [Blk.box (c_S_Replica v26), Blk.box [(iA v27), (iA v28)]])) kL (F6_23_0 n v20 v21 v23 v24 v26 v27 v28 m v22 v25) K := by
 intro m
 induction m with
 | zero => intros; exact .nn
 | succ m ih =>
  intro v22 v25
  refine .lp (e23_0 ..) ?_
  unfold F6_23_0
  refine .st (v := (bA (decide (v25 < v24)))) (aBin_lss ..) ?_
  refine .biHN (fun hk29 => ?_) (fun hk29 => ?_)
  ·refine .bd (g := fun (y : S_Lease) => A.ip (c_S_Lease y)) (idx_imm (e := 59) (es := 3) (h1 := by kernel_rfl) (h2 := by kernel_rfl) (h3 := fun _ => rfl) ..) fun y30 => ?_
   refine .s (A.agg (c_S_Lease y30)) (.s ((A.ptr 2 0), [Blk.box (c_S_Replica v26), Blk.box [(iA v27), (iA v28)], Blk.box [(iA 0), (iA 0), (iA 0)]]) (.s [Blk.box (c_S_Replica v26), Blk.box [(iA v27), (iA v28)], Blk.box (c_S_Lease y30)] ?_))
   refine .st (v := (bA (decide (v22 <= v20)))) (aBin_geq ..) ?_
   refine .bg (fun t (y : Bool) => ∃ j33 j34 j35 j36 : A, t = [(bA y), j33, j34, j35, j36]) ?_ ?_
   ·refine .biH (fun hk31 => ?_) (fun hk31 => ?_)
    ·refine .s (A.ptr 2 2) (.s (iA y30.Until) ?_)
     refine .st (v := (bA (decide (v20 < y30.Until)))) (aBin_lss ..) ?_
     exact .lg ⟨_, _, _, _, rfl⟩
    exact .lg ⟨_, _, _, _, rfl⟩
   rintro _ y32 ⟨j33, j34, j35, j36, rfl⟩
   iterate 5 refine .uc ?_
   refine .biHN (fun hk37 => ?_) (fun hk37 => ?_)
   ·refine .s (A.ptr 2 1) (.s (iA y30.Holder) ?_)
    exact .ex (x0 _ _ _ _ _ _ _ _ _)
   refine .s (A.ptr 2 2) (.s (iA y30.Until) ?_)
   refine .st (v := (iA (wr .i64 (v25 + 1)))) (aBin_add ..) ?_
   refine .st (v := [Blk.box (c_S_Replica v26), Blk.box [(iA v27), (iA v28)]]) ((by kernel_rfl : _ = (bif ((((underss 2 (List.map c_S_Lease v26.Leases)) && ((underss 2 (List.map c_S_Call v26.Calls)) && ((underss 2 (List.map cB v26.Order)) && true)))) && true) then some [Blk.box (c_S_Replica v26), Blk.box [(iA v27), (iA v28)]] else none)).trans (by simp only [un0, unS])) ?_
   refine .cT ((by kernel_rfl : _ = (bif underss 2 (List.map c_S_Lease v23) then true else false)).trans (by simp only [un0, unS])) ?_
   exact ih _ _
  exact .ex (x1 _ _ _ _ _ _)
def F6_6_0 (n : Nat) (v11 : Int) (v12 : Bool) (v14 : (List S_Call)) (v15 : Int) (v17 : S_Replica) : Nat -> Int -> Int -> Option ((Bool × Int × Int) ⊕ (Int))
 | 0, _, _ => none
 | m + 1, v13, v16 => bif (decide (v16 < v15)) then ((getI v14 v16).bind fun y19 => (F6_23_0 n y19.Bar 0 v17.Leases ((v17.Leases.length : Int)) v17 y19.Bar y19.Program (n+7) 0 0).bind fun o38 => match o38 with | (Sum.inl ((y39, y40, y41, y42))) => bif (y39 != v17.Self) then ((some true).bind fun y52 => bif y52 then (some ((Sum.inl ((false, y19.Bar, y19.Program))))) else (F6_6_0 n v11 v12 v14 v15 v17 m y19.Bar (wr .i64 (v16 + 1)))) else ((some (decide (y19.Bar <= v13))).bind fun y49 => bif y49 then (some ((Sum.inl ((false, y19.Bar, y19.Program))))) else (F6_6_0 n v11 v12 v14 v15 v17 m y19.Bar (wr .i64 (v16 + 1)))) | (Sum.inr _) => bif ((-1) != v17.Self) then ((some true).bind fun y65 => bif y65 then (some ((Sum.inl ((false, y19.Bar, y19.Program))))) else (F6_6_0 n v11 v12 v14 v15 v17 m y19.Bar (wr .i64 (v16 + 1)))) else ((some (decide (y19.Bar <= v13))).bind fun y62 => bif y62 then (some ((Sum.inl ((false, y19.Bar, y19.Program))))) else (F6_6_0 n v11 v12 v14 v15 v17 m y19.Bar (wr .i64 (v16 + 1))))) else (some ((Sum.inr v13)))
theorem T6_6_0 (C : Nat -> List A -> Option A) (n : Nat) (h14 : Orc14 C) (h20 : Orc20 C) (h24 : Orc24 C) (h7 : Orc7 C) (h8 : Orc8 C) (v11 : Int) (v12 : Bool) (v14 : (List S_Call)) (v15 : Int) (v17 : S_Replica) {ρ γ : Type} {φ : ρ -> γ -> Prop} {kL : R -> Option ρ} {K : ((Bool × Int × Int) ⊕ (Int)) -> Option γ} (kx kg : Nat -> St -> Option R) (kr : St -> Option R) (kp : A -> St -> Option R) (x0 : ∀ (o0 : Bool) (o1 : Int) (o2 : Int) (s1 : A) (s2 : A) (s5 : A) (s6 : A) (s23 : A) (s24 : A) (s25 : A), J φ (kr (St.mk [(1, s1), (2, s2), (4, (bA o0)), (5, s5), (6, s6), (23, s23), (24, s24), (25, s25)] [Blk.box (c_S_Replica v17), Blk.box [(iA o1), (iA o2)]])) kL (K (Sum.inl ((o0, o1, o2)))) some) (x1 : ∀ (o0 : Int) (s4 : A) (s23 : A) (s24 : A) (s25 : A), J φ (kx 0 (St.mk [(1, (iA v11)), (2, (A.ptr 0 0)), (4, s4), (5, (A.fn (Fn.func 23) [] [(A.ptr 0 0)])), (6, (iA o0)), (23, s23), (24, s24), (25, s25)] [Blk.box (c_S_Replica v17)])) kL (K (Sum.inr o0)) some) :
  ∀ (m : Nat) (v13 : Int) (v16 : Int), J φ (loopR (cx C) (ec C n 8) (ey C n 8) (n+8) 6 0 0 1 kx kg kr kp m (St.mk [(1, (iA v11)), (2, (A.ptr 0 0)), (4, (bA v12)), (5, (A.fn (Fn.func 23) [] [(A.ptr 0 0)])), (6, (iA v13)), (23, (A.imm (List.map c_S_Call v14) false)), (24, (iA v15)), (25, (iA v16))] [Blk.box (c_S_Replica v17)])) kL (F6_6_0 n v11 v12 v14 v15 v17 m v13 v16) K := by
 intro m
 induction m with
 | zero => intros; exact .nn
 | succ m ih =>
  intro v13 v16
  refine .lp (e6_0 ..) ?_
  unfold F6_6_0
  refine .st (v := (bA (decide (v16 < v15)))) (aBin_lss ..) ?_
  refine .biHN (fun hk18 => ?_) (fun hk18 => ?_)
  ·refine .bd (g := fun (y : S_Call) => A.ip (c_S_Call y)) (idx_imm (e := 62) (es := 2) (h1 := by kernel_rfl) (h2 := by kernel_rfl) (h3 := fun _ => rfl) ..) fun y19 => ?_
   refine .s (A.agg [(iA y19.Bar), (iA y19.Program)]) (.s ((A.ptr 1 0), [Blk.box (c_S_Replica v17), Blk.box [(iA 0), (iA 0)]]) (.s [Blk.box (c_S_Replica v17), Blk.box [(iA y19.Bar), (iA y19.Program)]] (.s (A.ptr 1 0) (.s (iA y19.Bar) ?_))))
   refine .vC (by kernel_rfl) (by kernel_rfl) ?_
   refine .bb ?_
   refine .cl ((evCall_in lt_23).trans (e23 C (ec C n 7) (ey C n 7) (n+7) _ _ _ _)) ?_
   refine .s (A.ptr 0 1) (.s (A.imm (List.map c_S_Lease v17.Leases) false) ?_)
   refine .st (v := (iA ((v17.Leases.length : Int)))) (len_imm (e := 59) (h1 := by kernel_rfl) ..) ?_
   refine .as (T6_23_0 C n h14 h20 h24 h7 h8 y19.Bar 0 v17.Leases ((v17.Leases.length : Int)) v17 y19.Bar y19.Program _ _ _ _ ?_ ?_ _ 0 0)
   ·intro y39 y40 y41 y42 j43 j44 j45 j46 j47
    refine .un rfl ?_
    refine .cr ?_
    refine .lp (by kernel_rfl : _ = some (iA y39)) ?_
    refine .cr ?_
    refine .s (A.ptr 0 0) (.s (iA v17.Self) ?_)
    refine .st (v := (bA (y39 != v17.Self))) (aBin_neq ..) ?_
    refine .gsf (fun hc48 => ?_) (fun hc48 => ?_)
    ·refine .bb ?_
     refine .s (A.ptr 1 0) (.s (iA y19.Bar) ?_)
     refine .cr ?_
     iterate 3 refine .uc ?_
     refine .bg (fun t (y : Bool) => ∃ j50 : A, t = [(bA y), j50]) ?_ ?_
     ·refine .bKF hc48 ?_
      refine .st (v := (bA (decide (y19.Bar <= v13)))) (aBin_leq ..) ?_
      exact .lg ⟨_, rfl⟩
     rintro _ y49 ⟨j50, rfl⟩
     iterate 2 refine .uc ?_
     refine .biHN (fun hk51 => ?_) (fun hk51 => ?_)
     ·exact .ex (x0 _ _ _ _ _ _ _ _ _ _)
     refine .s (A.ptr 1 0) (.s (iA y19.Bar) ?_)
     refine .st (v := (iA (wr .i64 (v16 + 1)))) (aBin_add ..) ?_
     refine .st (v := [Blk.box (c_S_Replica v17)]) ((by kernel_rfl : _ = (bif ((((underss 1 (List.map c_S_Lease v17.Leases)) && ((underss 1 (List.map c_S_Call v17.Calls)) && ((underss 1 (List.map cB v17.Order)) && true)))) && true) then some [Blk.box (c_S_Replica v17)] else none)).trans (by simp only [un0, unS])) ?_
     refine .cT ((by kernel_rfl : _ = (bif underss 1 (List.map c_S_Call v14) then true else false)).trans (by simp only [un0, unS])) ?_
     exact ih _ _
    refine .bb ?_
    refine .cr ?_
    iterate 3 refine .uc ?_
    refine .bg (fun t (y : Bool) => ∃ j53 : A, t = [(bA y), j53]) ?_ ?_
    ·refine .bKT hc48 ?_
     exact .lg ⟨_, rfl⟩
    rintro _ y52 ⟨j53, rfl⟩
    iterate 2 refine .uc ?_
    refine .biHN (fun hk54 => ?_) (fun hk54 => ?_)
    ·exact .ex (x0 _ _ _ _ _ _ _ _ _ _)
    refine .s (A.ptr 1 0) (.s (iA y19.Bar) ?_)
    refine .st (v := (iA (wr .i64 (v16 + 1)))) (aBin_add ..) ?_
    refine .st (v := [Blk.box (c_S_Replica v17)]) ((by kernel_rfl : _ = (bif ((((underss 1 (List.map c_S_Lease v17.Leases)) && ((underss 1 (List.map c_S_Call v17.Calls)) && ((underss 1 (List.map cB v17.Order)) && true)))) && true) then some [Blk.box (c_S_Replica v17)] else none)).trans (by simp only [un0, unS])) ?_
    refine .cT ((by kernel_rfl : _ = (bif underss 1 (List.map c_S_Call v14) then true else false)).trans (by simp only [un0, unS])) ?_
    exact ih _ _
   ·intro j55 j56 j57 j58 j59 j60
    refine .un rfl ?_
    refine .cT (by kernel_rfl) ?_
    refine .cr ?_
    refine .lp (by kernel_rfl : _ = some (iA (-1))) ?_
    refine .cr ?_
    refine .s (A.ptr 0 0) (.s (iA v17.Self) ?_)
    refine .st (v := (bA ((-1) != v17.Self))) (aBin_neq ..) ?_
    refine .gsf (fun hc61 => ?_) (fun hc61 => ?_)
    ·refine .bb ?_
     refine .s (A.ptr 1 0) (.s (iA y19.Bar) ?_)
     refine .cr ?_
     iterate 3 refine .uc ?_
     refine .bg (fun t (y : Bool) => ∃ j63 : A, t = [(bA y), j63]) ?_ ?_
     ·refine .bKF hc61 ?_
      refine .st (v := (bA (decide (y19.Bar <= v13)))) (aBin_leq ..) ?_
      exact .lg ⟨_, rfl⟩
     rintro _ y62 ⟨j63, rfl⟩
     iterate 2 refine .uc ?_
     refine .biHN (fun hk64 => ?_) (fun hk64 => ?_)
     ·exact .ex (x0 _ _ _ _ _ _ _ _ _ _)
     refine .s (A.ptr 1 0) (.s (iA y19.Bar) ?_)
     refine .st (v := (iA (wr .i64 (v16 + 1)))) (aBin_add ..) ?_
     refine .st (v := [Blk.box (c_S_Replica v17)]) ((by kernel_rfl : _ = (bif ((((underss 1 (List.map c_S_Lease v17.Leases)) && ((underss 1 (List.map c_S_Call v17.Calls)) && ((underss 1 (List.map cB v17.Order)) && true)))) && true) then some [Blk.box (c_S_Replica v17)] else none)).trans (by simp only [un0, unS])) ?_
     refine .cT ((by kernel_rfl : _ = (bif underss 1 (List.map c_S_Call v14) then true else false)).trans (by simp only [un0, unS])) ?_
     exact ih _ _
    refine .bb ?_
    refine .cr ?_
    iterate 3 refine .uc ?_
    refine .bg (fun t (y : Bool) => ∃ j66 : A, t = [(bA y), j66]) ?_ ?_
    ·refine .bKT hc61 ?_
     exact .lg ⟨_, rfl⟩
    rintro _ y65 ⟨j66, rfl⟩
    iterate 2 refine .uc ?_
    refine .biHN (fun hk67 => ?_) (fun hk67 => ?_)
    ·exact .ex (x0 _ _ _ _ _ _ _ _ _ _)
    refine .s (A.ptr 1 0) (.s (iA y19.Bar) ?_)
    refine .st (v := (iA (wr .i64 (v16 + 1)))) (aBin_add ..) ?_
    refine .st (v := [Blk.box (c_S_Replica v17)]) ((by kernel_rfl : _ = (bif ((((underss 1 (List.map c_S_Lease v17.Leases)) && ((underss 1 (List.map c_S_Call v17.Calls)) && ((underss 1 (List.map cB v17.Order)) && true)))) && true) then some [Blk.box (c_S_Replica v17)] else none)).trans (by simp only [un0, unS])) ?_
    refine .cT ((by kernel_rfl : _ = (bif underss 1 (List.map c_S_Call v14) then true else false)).trans (by simp only [un0, unS])) ?_
    exact ih _ _
  exact .ex (x1 _ _ _ _ _)
def F6_23_0a (n : Nat) (v85 : Int) (v86 : Int) (v88 : (List S_Lease)) (v89 : Int) (v91 : S_Replica) (v92 : S_Replica) : Nat -> Int -> Int -> Option ((Int × Int × Int × Int) ⊕ (Unit))
 | 0, _, _ => none
 | m + 1, v87, v90 => bif (decide (v90 < v89)) then ((getI v88 v90).bind fun y94 => (bif (decide (v87 <= v85)) then (some (decide (v85 < y94.Until))) else (some false)).bind fun y96 => bif y96 then (some ((Sum.inl ((y94.Holder, y94.No, y94.Holder, y94.Until))))) else (F6_23_0a n v85 v86 v88 v89 v91 v92 m y94.Until (wr .i64 (v90 + 1)))) else (some ((Sum.inr (()))))
theorem T6_23_0a (C : Nat -> List A -> Option A) (n : Nat) (h14 : Orc14 C) (h20 : Orc20 C) (h24 : Orc24 C) (h7 : Orc7 C) (h8 : Orc8 C) (v85 : Int) (v86 : Int) (v88 : (List S_Lease)) (v89 : Int) (v91 : S_Replica) (v92 : S_Replica) {ρ γ : Type} {φ : ρ -> γ -> Prop} {kL : R -> Option ρ} {K : ((Int × Int × Int × Int) ⊕ (Unit)) -> Option γ} (kx kg : Nat -> St -> Option R) (kr : St -> Option R) (kp : A -> St -> Option R) (x0 : ∀ (o0 : Int) (o1 : Int) (o2 : Int) (o3 : Int) (s0 : A) (s4 : A) (s8 : A) (s9 : A) (s10 : A), J φ (kr (St.mk [(0, s0), (3, (iA o0)), (4, s4), (8, s8), (9, s9), (10, s10)] [Blk.box (c_S_Replica v91), Blk.box (c_S_Replica v92), Blk.box [(iA o1), (iA o2), (iA o3)]])) kL (K (Sum.inl ((o0, o1, o2, o3)))) some) (x1 : ∀ (s0 : A) (s3 : A) (s4 : A) (s8 : A) (s9 : A) (s10 : A), J φ (kx 0 (St.mk [(0, s0), (3, s3), (4, s4), (8, s8), (9, s9), (10, s10)] [Blk.box (c_S_Replica v91), Blk.box (c_S_Replica v92)])) kL (K (Sum.inr (()))) some) :
  ∀ (m : Nat) (v87 : Int) (v90 : Int), J φ (loopR (cx C) (ec C n 7) (ey C n 7) (n+7) 23 2 0 2 kx kg kr kp m (St.mk [(0, (iA v85)), (3, (iA v86)), (4, (iA v87)), (8, (A.imm (List.map c_S_Lease v88) false)), (9, (iA v89)), (10, (iA v90))] [Blk.box (c_S_Replica v91), Blk.box (c_S_Replica v92)])) kL (F6_23_0a n v85 v86 v88 v89 v91 v92 m v87 v90) K := by
 intro m
 induction m with
 | zero => intros; exact .nn
 | succ m ih =>
  intro v87 v90
  refine .lp (e23_0 ..) ?_
  unfold F6_23_0a
  refine .st (v := (bA (decide (v90 < v89)))) (aBin_lss ..) ?_
  refine .biHN (fun hk93 => ?_) (fun hk93 => ?_)
  ·refine .bd (g := fun (y : S_Lease) => A.ip (c_S_Lease y)) (idx_imm (e := 59) (es := 3) (h1 := by kernel_rfl) (h2 := by kernel_rfl) (h3 := fun _ => rfl) ..) fun y94 => ?_
   refine .s (A.agg (c_S_Lease y94)) (.s ((A.ptr 2 0), [Blk.box (c_S_Replica v91), Blk.box (c_S_Replica v92), Blk.box [(iA 0), (iA 0), (iA 0)]]) (.s [Blk.box (c_S_Replica v91), Blk.box (c_S_Replica v92), Blk.box (c_S_Lease y94)] ?_))
   refine .st (v := (bA (decide (v87 <= v85)))) (aBin_geq ..) ?_
   refine .bg (fun t (y : Bool) => ∃ j97 j98 j99 j100 : A, t = [(bA y), j97, j98, j99, j100]) ?_ ?_
   ·refine .biH (fun hk95 => ?_) (fun hk95 => ?_)
    ·refine .s (A.ptr 2 2) (.s (iA y94.Until) ?_)
     refine .st (v := (bA (decide (v85 < y94.Until)))) (aBin_lss ..) ?_
     exact .lg ⟨_, _, _, _, rfl⟩
    exact .lg ⟨_, _, _, _, rfl⟩
   rintro _ y96 ⟨j97, j98, j99, j100, rfl⟩
   iterate 5 refine .uc ?_
   refine .biHN (fun hk101 => ?_) (fun hk101 => ?_)
   ·refine .s (A.ptr 2 1) (.s (iA y94.Holder) ?_)
    exact .ex (x0 _ _ _ _ _ _ _ _ _)
   refine .s (A.ptr 2 2) (.s (iA y94.Until) ?_)
   refine .st (v := (iA (wr .i64 (v90 + 1)))) (aBin_add ..) ?_
   refine .st (v := [Blk.box (c_S_Replica v91), Blk.box (c_S_Replica v92)]) ((by kernel_rfl : _ = (bif ((((underss 2 (List.map c_S_Lease v91.Leases)) && ((underss 2 (List.map c_S_Call v91.Calls)) && ((underss 2 (List.map cB v91.Order)) && true)))) && ((((underss 2 (List.map c_S_Lease v92.Leases)) && ((underss 2 (List.map c_S_Call v92.Calls)) && ((underss 2 (List.map cB v92.Order)) && true)))) && true)) then some [Blk.box (c_S_Replica v91), Blk.box (c_S_Replica v92)] else none)).trans (by simp only [un0, unS])) ?_
   refine .cT ((by kernel_rfl : _ = (bif underss 2 (List.map c_S_Lease v88) then true else false)).trans (by simp only [un0, unS])) ?_
   exact ih _ _
  exact .ex (x1 _ _ _ _ _ _)
def F6 (n : Nat) (a0 : S_Replica) (a1 : Int) : Option Bool :=
 (G7 ).bind fun y1 => bif (!y1) then (some false) else ((G8 a0).bind fun y3 => (bif (!y3) then (some true) else ((G20 a0).bind fun y5 => some (y5 != 0))).bind fun y6 => bif y6 then (some true) else ((F6_6_0 n a1 false a0.Calls ((a0.Calls.length : Int)) a0 (n+8) (-1) 0).bind fun o68 => match o68 with | (Sum.inl ((y69, y70, y71))) => some y69 | (Sum.inr y79) => (G24 a0 a1 1).bind fun y84 => (F6_23_0a n a1 0 a0.Leases ((a0.Leases.length : Int)) a0 y84.1 (n+7) 0 0).bind fun o102 => match o102 with | (Sum.inl ((y103, y104, y105, y106))) => bif (y103 != a0.Self) then ((some true).bind fun y145 => bif y145 then ((bif (y84.2 == 530) then ((G14 y84.1 ((S_Replica.mk 0 ([]) ([]) ([])))).bind fun y149 => some y149) else (some false)).bind fun y150 => some y150) else ((bif (y84.2 == 0) then (some (((y84.1.Calls.length : Int)) == (wr .i64 (((a0.Calls.length : Int)) + 1)))) else (some false)).bind fun y155 => (bif y155 then ((getI y84.1.Calls ((a0.Calls.length : Int))).bind fun y165 => some (((y165.Bar == a1) && (y165.Program == 1)))) else (some false)).bind fun y166 => some y166)) else ((some (decide (a1 <= y79))).bind fun y113 => bif y113 then ((bif (y84.2 == 530) then ((G14 y84.1 ((S_Replica.mk 0 ([]) ([]) ([])))).bind fun y117 => some y117) else (some false)).bind fun y118 => some y118) else ((bif (y84.2 == 0) then (some (((y84.1.Calls.length : Int)) == (wr .i64 (((a0.Calls.length : Int)) + 1)))) else (some false)).bind fun y123 => (bif y123 then ((getI y84.1.Calls ((a0.Calls.length : Int))).bind fun y133 => some (((y133.Bar == a1) && (y133.Program == 1)))) else (some false)).bind fun y134 => some y134)) | (Sum.inr _) => bif ((-1) != a0.Self) then ((some true).bind fun y216 => bif y216 then ((bif (y84.2 == 530) then ((G14 y84.1 ((S_Replica.mk 0 ([]) ([]) ([])))).bind fun y220 => some y220) else (some false)).bind fun y221 => some y221) else ((bif (y84.2 == 0) then (some (((y84.1.Calls.length : Int)) == (wr .i64 (((a0.Calls.length : Int)) + 1)))) else (some false)).bind fun y226 => (bif y226 then ((getI y84.1.Calls ((a0.Calls.length : Int))).bind fun y236 => some (((y236.Bar == a1) && (y236.Program == 1)))) else (some false)).bind fun y237 => some y237)) else ((some (decide (a1 <= y79))).bind fun y184 => bif y184 then ((bif (y84.2 == 530) then ((G14 y84.1 ((S_Replica.mk 0 ([]) ([]) ([])))).bind fun y188 => some y188) else (some false)).bind fun y189 => some y189) else ((bif (y84.2 == 0) then (some (((y84.1.Calls.length : Int)) == (wr .i64 (((a0.Calls.length : Int)) + 1)))) else (some false)).bind fun y194 => (bif y194 then ((getI y84.1.Calls ((a0.Calls.length : Int))).bind fun y204 => some (((y204.Bar == a1) && (y204.Program == 1)))) else (some false)).bind fun y205 => some y205))))
theorem T6 (C : Nat -> List A -> Option A) (n : Nat) (h14 : Orc14 C) (h20 : Orc20 C) (h24 : Orc24 C) (h7 : Orc7 C) (h8 : Orc8 C) (a0 : S_Replica) (a1 : Int) : J (fun (o : R) y => ∃ v, o.1 = .ret v /\ snapE o.2 v = (bA y)) (evCall1 (cx C) (ec C n 8) (ey C n 8) (n+8) 6 [(A.agg (c_S_Replica a0)), (iA a1)] [] 0) some (F6 n a0 a1) some := by
 refine .lp (e6 ..) ?_
 unfold F6
 refine .s ((A.ptr 0 0), [Blk.box (c_S_Replica a0)]) ?_
 refine .bd (g := fun (y : Bool) => (bA y)) (h7 ()) fun y1 => ?_
 refine .s (bA (!y1)) ?_
 refine .biHN (fun hk2 => ?_) (fun hk2 => ?_)
 ·exact .lf rfl rfl ⟨_, rfl, rfl⟩
 refine .s (A.agg (c_S_Replica a0)) ?_
 refine .bd (g := fun (y : Bool) => (bA y)) (by show C 8 [snap _ (A.agg (c_S_Replica a0))] = _; simp only [sn0, snM]; exact h8 a0) fun y3 => ?_
 refine .s (bA (!y3)) ?_
 refine .bg (fun t (y : Bool) => ∃ j7 j8 j9 : A, t = [(bA y), j7, j8, j9]) ?_ ?_
 ·refine .biH (fun hk4 => ?_) (fun hk4 => ?_)
  ·exact .lg ⟨_, _, _, rfl⟩
  refine .s (A.agg (c_S_Replica a0)) ?_
  refine .bd (g := fun (y : Int) => (iA y)) (by show C 20 [snap _ (A.agg (c_S_Replica a0))] = _; simp only [sn0, snM]; exact h20 a0) fun y5 => ?_
  refine .st (v := (bA (y5 != 0))) (aBin_neq ..) ?_
  exact .lg ⟨_, _, _, rfl⟩
 rintro _ y6 ⟨j7, j8, j9, rfl⟩
 iterate 4 refine .uc ?_
 refine .biHN (fun hk10 => ?_) (fun hk10 => ?_)
 ·exact .lf rfl rfl ⟨_, rfl, rfl⟩
 refine .s (A.ptr 0 2) (.s (A.imm (List.map c_S_Call a0.Calls) false) ?_)
 refine .st (v := (iA ((a0.Calls.length : Int)))) (len_imm (e := 62) (h1 := by kernel_rfl) ..) ?_
 refine .as (T6_6_0 C n h14 h20 h24 h7 h8 a1 false a0.Calls ((a0.Calls.length : Int)) a0 _ _ _ _ ?_ ?_ _ (-1) 0)
 ·intro y69 y70 y71 j72 j73 j74 j75 j76 j77 j78
  refine .un rfl ?_
  exact .lf rfl rfl ⟨_, rfl, rfl⟩
 ·intro y79 j80 j81 j82 j83
  refine .un rfl ?_
  refine .cT (by kernel_rfl) ?_
  refine .s (A.agg (c_S_Replica a0)) ?_
  refine .bd (g := fun (y : (S_Replica × Int)) => (A.tup [(A.agg [(iA y.1.Self), (A.imm (List.map c_S_Lease y.1.Leases) false), (A.imm (List.map c_S_Call y.1.Calls) false), (A.imm (List.map cB y.1.Order) false)]), (iA y.2)])) (by show C 24 [snap _ (A.agg (c_S_Replica a0)), snap _ (iA a1), snap _ (iA 1)] = _; simp only [sn0, snM]; exact h24 a0 a1 1) fun y84 => ?_
  refine .s (A.agg (c_S_Replica y84.1)) (.s (iA y84.2) (.s ((A.ptr 1 0), [Blk.box (c_S_Replica a0), Blk.box [(iA 0), (A.imm [] true), (A.imm [] true), (A.imm [] true)]]) (.s [Blk.box (c_S_Replica a0), Blk.box (c_S_Replica y84.1)] ?_)))
  refine .vC (by kernel_rfl) (by kernel_rfl) ?_
  refine .bb ?_
  refine .cl ((evCall_in lt_23).trans (e23 C (ec C n 7) (ey C n 7) (n+7) _ _ _ _)) ?_
  refine .s (A.ptr 0 1) (.s (A.imm (List.map c_S_Lease a0.Leases) false) ?_)
  refine .st (v := (iA ((a0.Leases.length : Int)))) (len_imm (e := 59) (h1 := by kernel_rfl) ..) ?_
  refine .as (T6_23_0a C n h14 h20 h24 h7 h8 a1 0 a0.Leases ((a0.Leases.length : Int)) a0 y84.1 _ _ _ _ ?_ ?_ _ 0 0)
  ·intro y103 y104 y105 y106 j107 j108 j109 j110 j111
   refine .un rfl ?_
   refine .cr ?_
   refine .lp (by kernel_rfl : _ = some (iA y103)) ?_
   refine .cr ?_
   refine .s (A.ptr 0 0) (.s (iA a0.Self) ?_)
   refine .st (v := (bA (y103 != a0.Self))) (aBin_neq ..) ?_
   refine .gsf (fun hc112 => ?_) (fun hc112 => ?_)
   ·refine .bb ?_
    refine .cr ?_
    iterate 2 refine .uc ?_
    refine .bg (fun t (y : Bool) => ∃ j114 : A, t = [(bA y), j114]) ?_ ?_
    ·refine .bKF hc112 ?_
     refine .st (v := (bA (decide (a1 <= y79)))) (aBin_leq ..) ?_
     exact .lg ⟨_, rfl⟩
    rintro _ y113 ⟨j114, rfl⟩
    iterate 2 refine .uc ?_
    refine .biHN (fun hk115 => ?_) (fun hk115 => ?_)
    ·refine .st (v := (bA (y84.2 == 530))) (aBin_eql ..) ?_
     refine .bg (fun t (y : Bool) => ∃ j119 j120 j121 : A, t = [(bA y), j119, j120, j121]) ?_ ?_
     ·refine .biH (fun hk116 => ?_) (fun hk116 => ?_)
      ·refine .s (A.agg (c_S_Replica y84.1)) (.s (A.agg [(iA 0), (A.imm [] true), (A.imm [] true), (A.imm [] true)]) ?_)
       refine .bd (g := fun (y : Bool) => (bA y)) (by show C 14 [snap _ (A.agg (c_S_Replica y84.1)), snap _ (A.agg [(iA 0), (A.imm [] true), (A.imm [] true), (A.imm [] true)])] = _; simp only [sn0, snM]; exact h14 y84.1 ((S_Replica.mk 0 ([]) ([]) ([])))) fun y117 => ?_
       exact .lg ⟨_, _, _, rfl⟩
      exact .lg ⟨_, _, _, rfl⟩
     rintro _ y118 ⟨j119, j120, j121, rfl⟩
     iterate 4 refine .uc ?_
     exact .lf rfl rfl ⟨_, rfl, rfl⟩
    refine .st (v := (bA (y84.2 == 0))) (aBin_eql ..) ?_
    refine .bg (fun t (y : Bool) => ∃ j124 j125 j126 j127 j128 j129 j130 j131 : A, t = [(bA y), j124, j125, j126, j127, j128, j129, j130, j131]) ?_ ?_
    ·refine .biH (fun hk122 => ?_) (fun hk122 => ?_)
     ·refine .s (A.ptr 1 2) (.s (A.imm (List.map c_S_Call y84.1.Calls) false) ?_)
      refine .st (v := (iA ((y84.1.Calls.length : Int)))) (len_imm (e := 62) (h1 := by kernel_rfl) ..) ?_
      refine .s (A.ptr 0 2) (.s (A.imm (List.map c_S_Call a0.Calls) false) ?_)
      refine .st (v := (iA ((a0.Calls.length : Int)))) (len_imm (e := 62) (h1 := by kernel_rfl) ..) ?_
      refine .st (v := (iA (wr .i64 (((a0.Calls.length : Int)) + 1)))) (aBin_add ..) ?_
      refine .st (v := (bA (((y84.1.Calls.length : Int)) == (wr .i64 (((a0.Calls.length : Int)) + 1))))) (aBin_eql ..) ?_
      exact .lg ⟨_, _, _, _, _, _, _, _, rfl⟩
     exact .lg ⟨_, _, _, _, _, _, _, _, rfl⟩
    rintro _ y123 ⟨j124, j125, j126, j127, j128, j129, j130, j131, rfl⟩
    iterate 9 refine .uc ?_
    refine .bg (fun t (y : Bool) => ∃ j135 j136 j137 j138 j139 j140 j141 j142 j143 j144 : A, t = [(bA y), j135, j136, j137, j138, j139, j140, j141, j142, j143, j144]) ?_ ?_
    ·refine .biH (fun hk132 => ?_) (fun hk132 => ?_)
     ·refine .s (A.ptr 1 2) (.s (A.imm (List.map c_S_Call y84.1.Calls) false) (.s (A.ptr 0 2) (.s (A.imm (List.map c_S_Call a0.Calls) false) ?_)))
      refine .st (v := (iA ((a0.Calls.length : Int)))) (len_imm (e := 62) (h1 := by kernel_rfl) ..) ?_
      refine .bd (g := fun (y : S_Call) => A.ip (c_S_Call y)) (idx_imm (e := 62) (es := 2) (h1 := by kernel_rfl) (h2 := by kernel_rfl) (h3 := fun _ => rfl) ..) fun y133 => ?_
      refine .s (A.agg [(iA y133.Bar), (iA y133.Program)]) (.s (A.agg [(iA a1), (iA 1)]) (.s (bA (((y133.Bar == a1) && (y133.Program == 1)))) ?_))
      exact .lg ⟨_, _, _, _, _, _, _, _, _, _, rfl⟩
     exact .lg ⟨_, _, _, _, _, _, _, _, _, _, rfl⟩
    rintro _ y134 ⟨j135, j136, j137, j138, j139, j140, j141, j142, j143, j144, rfl⟩
    iterate 11 refine .uc ?_
    exact .lf rfl rfl ⟨_, rfl, rfl⟩
   refine .bb ?_
   refine .cr ?_
   iterate 2 refine .uc ?_
   refine .bg (fun t (y : Bool) => ∃ j146 : A, t = [(bA y), j146]) ?_ ?_
   ·refine .bKT hc112 ?_
    exact .lg ⟨_, rfl⟩
   rintro _ y145 ⟨j146, rfl⟩
   iterate 2 refine .uc ?_
   refine .biHN (fun hk147 => ?_) (fun hk147 => ?_)
   ·refine .st (v := (bA (y84.2 == 530))) (aBin_eql ..) ?_
    refine .bg (fun t (y : Bool) => ∃ j151 j152 j153 : A, t = [(bA y), j151, j152, j153]) ?_ ?_
    ·refine .biH (fun hk148 => ?_) (fun hk148 => ?_)
     ·refine .s (A.agg (c_S_Replica y84.1)) (.s (A.agg [(iA 0), (A.imm [] true), (A.imm [] true), (A.imm [] true)]) ?_)
      refine .bd (g := fun (y : Bool) => (bA y)) (by show C 14 [snap _ (A.agg (c_S_Replica y84.1)), snap _ (A.agg [(iA 0), (A.imm [] true), (A.imm [] true), (A.imm [] true)])] = _; simp only [sn0, snM]; exact h14 y84.1 ((S_Replica.mk 0 ([]) ([]) ([])))) fun y149 => ?_
      exact .lg ⟨_, _, _, rfl⟩
     exact .lg ⟨_, _, _, rfl⟩
    rintro _ y150 ⟨j151, j152, j153, rfl⟩
    iterate 4 refine .uc ?_
    exact .lf rfl rfl ⟨_, rfl, rfl⟩
   refine .st (v := (bA (y84.2 == 0))) (aBin_eql ..) ?_
   refine .bg (fun t (y : Bool) => ∃ j156 j157 j158 j159 j160 j161 j162 j163 : A, t = [(bA y), j156, j157, j158, j159, j160, j161, j162, j163]) ?_ ?_
   ·refine .biH (fun hk154 => ?_) (fun hk154 => ?_)
    ·refine .s (A.ptr 1 2) (.s (A.imm (List.map c_S_Call y84.1.Calls) false) ?_)
     refine .st (v := (iA ((y84.1.Calls.length : Int)))) (len_imm (e := 62) (h1 := by kernel_rfl) ..) ?_
     refine .s (A.ptr 0 2) (.s (A.imm (List.map c_S_Call a0.Calls) false) ?_)
     refine .st (v := (iA ((a0.Calls.length : Int)))) (len_imm (e := 62) (h1 := by kernel_rfl) ..) ?_
     refine .st (v := (iA (wr .i64 (((a0.Calls.length : Int)) + 1)))) (aBin_add ..) ?_
     refine .st (v := (bA (((y84.1.Calls.length : Int)) == (wr .i64 (((a0.Calls.length : Int)) + 1))))) (aBin_eql ..) ?_
     exact .lg ⟨_, _, _, _, _, _, _, _, rfl⟩
    exact .lg ⟨_, _, _, _, _, _, _, _, rfl⟩
   rintro _ y155 ⟨j156, j157, j158, j159, j160, j161, j162, j163, rfl⟩
   iterate 9 refine .uc ?_
   refine .bg (fun t (y : Bool) => ∃ j167 j168 j169 j170 j171 j172 j173 j174 j175 j176 : A, t = [(bA y), j167, j168, j169, j170, j171, j172, j173, j174, j175, j176]) ?_ ?_
   ·refine .biH (fun hk164 => ?_) (fun hk164 => ?_)
    ·refine .s (A.ptr 1 2) (.s (A.imm (List.map c_S_Call y84.1.Calls) false) (.s (A.ptr 0 2) (.s (A.imm (List.map c_S_Call a0.Calls) false) ?_)))
     refine .st (v := (iA ((a0.Calls.length : Int)))) (len_imm (e := 62) (h1 := by kernel_rfl) ..) ?_
     refine .bd (g := fun (y : S_Call) => A.ip (c_S_Call y)) (idx_imm (e := 62) (es := 2) (h1 := by kernel_rfl) (h2 := by kernel_rfl) (h3 := fun _ => rfl) ..) fun y165 => ?_
     refine .s (A.agg [(iA y165.Bar), (iA y165.Program)]) (.s (A.agg [(iA a1), (iA 1)]) (.s (bA (((y165.Bar == a1) && (y165.Program == 1)))) ?_))
     exact .lg ⟨_, _, _, _, _, _, _, _, _, _, rfl⟩
    exact .lg ⟨_, _, _, _, _, _, _, _, _, _, rfl⟩
   rintro _ y166 ⟨j167, j168, j169, j170, j171, j172, j173, j174, j175, j176, rfl⟩
   iterate 11 refine .uc ?_
   exact .lf rfl rfl ⟨_, rfl, rfl⟩
  ·intro j177 j178 j179 j180 j181 j182
   refine .un rfl ?_
   refine .cT (by kernel_rfl) ?_
   refine .cr ?_
   refine .lp (by kernel_rfl : _ = some (iA (-1))) ?_
   refine .cr ?_
   refine .s (A.ptr 0 0) (.s (iA a0.Self) ?_)
   refine .st (v := (bA ((-1) != a0.Self))) (aBin_neq ..) ?_
   refine .gsf (fun hc183 => ?_) (fun hc183 => ?_)
   ·refine .bb ?_
    refine .cr ?_
    iterate 2 refine .uc ?_
    refine .bg (fun t (y : Bool) => ∃ j185 : A, t = [(bA y), j185]) ?_ ?_
    ·refine .bKF hc183 ?_
     refine .st (v := (bA (decide (a1 <= y79)))) (aBin_leq ..) ?_
     exact .lg ⟨_, rfl⟩
    rintro _ y184 ⟨j185, rfl⟩
    iterate 2 refine .uc ?_
    refine .biHN (fun hk186 => ?_) (fun hk186 => ?_)
    ·refine .st (v := (bA (y84.2 == 530))) (aBin_eql ..) ?_
     refine .bg (fun t (y : Bool) => ∃ j190 j191 j192 : A, t = [(bA y), j190, j191, j192]) ?_ ?_
     ·refine .biH (fun hk187 => ?_) (fun hk187 => ?_)
      ·refine .s (A.agg (c_S_Replica y84.1)) (.s (A.agg [(iA 0), (A.imm [] true), (A.imm [] true), (A.imm [] true)]) ?_)
       refine .bd (g := fun (y : Bool) => (bA y)) (by show C 14 [snap _ (A.agg (c_S_Replica y84.1)), snap _ (A.agg [(iA 0), (A.imm [] true), (A.imm [] true), (A.imm [] true)])] = _; simp only [sn0, snM]; exact h14 y84.1 ((S_Replica.mk 0 ([]) ([]) ([])))) fun y188 => ?_
       exact .lg ⟨_, _, _, rfl⟩
      exact .lg ⟨_, _, _, rfl⟩
     rintro _ y189 ⟨j190, j191, j192, rfl⟩
     iterate 4 refine .uc ?_
     exact .lf rfl rfl ⟨_, rfl, rfl⟩
    refine .st (v := (bA (y84.2 == 0))) (aBin_eql ..) ?_
    refine .bg (fun t (y : Bool) => ∃ j195 j196 j197 j198 j199 j200 j201 j202 : A, t = [(bA y), j195, j196, j197, j198, j199, j200, j201, j202]) ?_ ?_
    ·refine .biH (fun hk193 => ?_) (fun hk193 => ?_)
     ·refine .s (A.ptr 1 2) (.s (A.imm (List.map c_S_Call y84.1.Calls) false) ?_)
      refine .st (v := (iA ((y84.1.Calls.length : Int)))) (len_imm (e := 62) (h1 := by kernel_rfl) ..) ?_
      refine .s (A.ptr 0 2) (.s (A.imm (List.map c_S_Call a0.Calls) false) ?_)
      refine .st (v := (iA ((a0.Calls.length : Int)))) (len_imm (e := 62) (h1 := by kernel_rfl) ..) ?_
      refine .st (v := (iA (wr .i64 (((a0.Calls.length : Int)) + 1)))) (aBin_add ..) ?_
      refine .st (v := (bA (((y84.1.Calls.length : Int)) == (wr .i64 (((a0.Calls.length : Int)) + 1))))) (aBin_eql ..) ?_
      exact .lg ⟨_, _, _, _, _, _, _, _, rfl⟩
     exact .lg ⟨_, _, _, _, _, _, _, _, rfl⟩
    rintro _ y194 ⟨j195, j196, j197, j198, j199, j200, j201, j202, rfl⟩
    iterate 9 refine .uc ?_
    refine .bg (fun t (y : Bool) => ∃ j206 j207 j208 j209 j210 j211 j212 j213 j214 j215 : A, t = [(bA y), j206, j207, j208, j209, j210, j211, j212, j213, j214, j215]) ?_ ?_
    ·refine .biH (fun hk203 => ?_) (fun hk203 => ?_)
     ·refine .s (A.ptr 1 2) (.s (A.imm (List.map c_S_Call y84.1.Calls) false) (.s (A.ptr 0 2) (.s (A.imm (List.map c_S_Call a0.Calls) false) ?_)))
      refine .st (v := (iA ((a0.Calls.length : Int)))) (len_imm (e := 62) (h1 := by kernel_rfl) ..) ?_
      refine .bd (g := fun (y : S_Call) => A.ip (c_S_Call y)) (idx_imm (e := 62) (es := 2) (h1 := by kernel_rfl) (h2 := by kernel_rfl) (h3 := fun _ => rfl) ..) fun y204 => ?_
      refine .s (A.agg [(iA y204.Bar), (iA y204.Program)]) (.s (A.agg [(iA a1), (iA 1)]) (.s (bA (((y204.Bar == a1) && (y204.Program == 1)))) ?_))
      exact .lg ⟨_, _, _, _, _, _, _, _, _, _, rfl⟩
     exact .lg ⟨_, _, _, _, _, _, _, _, _, _, rfl⟩
    rintro _ y205 ⟨j206, j207, j208, j209, j210, j211, j212, j213, j214, j215, rfl⟩
    iterate 11 refine .uc ?_
    exact .lf rfl rfl ⟨_, rfl, rfl⟩
   refine .bb ?_
   refine .cr ?_
   iterate 2 refine .uc ?_
   refine .bg (fun t (y : Bool) => ∃ j217 : A, t = [(bA y), j217]) ?_ ?_
   ·refine .bKT hc183 ?_
    exact .lg ⟨_, rfl⟩
   rintro _ y216 ⟨j217, rfl⟩
   iterate 2 refine .uc ?_
   refine .biHN (fun hk218 => ?_) (fun hk218 => ?_)
   ·refine .st (v := (bA (y84.2 == 530))) (aBin_eql ..) ?_
    refine .bg (fun t (y : Bool) => ∃ j222 j223 j224 : A, t = [(bA y), j222, j223, j224]) ?_ ?_
    ·refine .biH (fun hk219 => ?_) (fun hk219 => ?_)
     ·refine .s (A.agg (c_S_Replica y84.1)) (.s (A.agg [(iA 0), (A.imm [] true), (A.imm [] true), (A.imm [] true)]) ?_)
      refine .bd (g := fun (y : Bool) => (bA y)) (by show C 14 [snap _ (A.agg (c_S_Replica y84.1)), snap _ (A.agg [(iA 0), (A.imm [] true), (A.imm [] true), (A.imm [] true)])] = _; simp only [sn0, snM]; exact h14 y84.1 ((S_Replica.mk 0 ([]) ([]) ([])))) fun y220 => ?_
      exact .lg ⟨_, _, _, rfl⟩
     exact .lg ⟨_, _, _, rfl⟩
    rintro _ y221 ⟨j222, j223, j224, rfl⟩
    iterate 4 refine .uc ?_
    exact .lf rfl rfl ⟨_, rfl, rfl⟩
   refine .st (v := (bA (y84.2 == 0))) (aBin_eql ..) ?_
   refine .bg (fun t (y : Bool) => ∃ j227 j228 j229 j230 j231 j232 j233 j234 : A, t = [(bA y), j227, j228, j229, j230, j231, j232, j233, j234]) ?_ ?_
   ·refine .biH (fun hk225 => ?_) (fun hk225 => ?_)
    ·refine .s (A.ptr 1 2) (.s (A.imm (List.map c_S_Call y84.1.Calls) false) ?_)
     refine .st (v := (iA ((y84.1.Calls.length : Int)))) (len_imm (e := 62) (h1 := by kernel_rfl) ..) ?_
     refine .s (A.ptr 0 2) (.s (A.imm (List.map c_S_Call a0.Calls) false) ?_)
     refine .st (v := (iA ((a0.Calls.length : Int)))) (len_imm (e := 62) (h1 := by kernel_rfl) ..) ?_
     refine .st (v := (iA (wr .i64 (((a0.Calls.length : Int)) + 1)))) (aBin_add ..) ?_
     refine .st (v := (bA (((y84.1.Calls.length : Int)) == (wr .i64 (((a0.Calls.length : Int)) + 1))))) (aBin_eql ..) ?_
     exact .lg ⟨_, _, _, _, _, _, _, _, rfl⟩
    exact .lg ⟨_, _, _, _, _, _, _, _, rfl⟩
   rintro _ y226 ⟨j227, j228, j229, j230, j231, j232, j233, j234, rfl⟩
   iterate 9 refine .uc ?_
   refine .bg (fun t (y : Bool) => ∃ j238 j239 j240 j241 j242 j243 j244 j245 j246 j247 : A, t = [(bA y), j238, j239, j240, j241, j242, j243, j244, j245, j246, j247]) ?_ ?_
   ·refine .biH (fun hk235 => ?_) (fun hk235 => ?_)
    ·refine .s (A.ptr 1 2) (.s (A.imm (List.map c_S_Call y84.1.Calls) false) (.s (A.ptr 0 2) (.s (A.imm (List.map c_S_Call a0.Calls) false) ?_)))
     refine .st (v := (iA ((a0.Calls.length : Int)))) (len_imm (e := 62) (h1 := by kernel_rfl) ..) ?_
     refine .bd (g := fun (y : S_Call) => A.ip (c_S_Call y)) (idx_imm (e := 62) (es := 2) (h1 := by kernel_rfl) (h2 := by kernel_rfl) (h3 := fun _ => rfl) ..) fun y236 => ?_
     refine .s (A.agg [(iA y236.Bar), (iA y236.Program)]) (.s (A.agg [(iA a1), (iA 1)]) (.s (bA (((y236.Bar == a1) && (y236.Program == 1)))) ?_))
     exact .lg ⟨_, _, _, _, _, _, _, _, _, _, rfl⟩
    exact .lg ⟨_, _, _, _, _, _, _, _, _, _, rfl⟩
   rintro _ y237 ⟨j238, j239, j240, j241, j242, j243, j244, j245, j246, j247, rfl⟩
   iterate 11 refine .uc ?_
   exact .lf rfl rfl ⟨_, rfl, rfl⟩
def G6 (a0 : S_Replica) (a1 : Int) : Option Bool := F6 fuel0 a0 a1
end Go.Proofs.Ytdmgdjnadbakfaa
