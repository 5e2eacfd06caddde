/-
  The program's functions as plain functions: by a tool; each follows the interpreter.
-/
import Derived.Test.YtooamdacfhfjoaaDoorT3
import Derived.KernelRfl
import Derived.Lib.Strings
import Derived.Lib.Bytealg
namespace Go.Proofs.YtooamdacfhfjoaaDoor
set_option linter.unusedVariables false
set_option linter.unusedSimpArgs false
set_option maxHeartbeats 4000000
set_option maxRecDepth 100000
def F9_9_0 (n : Nat) (v21 : Bool) (v22 : Int) (v23 : Int) (v24 : Int) (v25 : Int) (v26 : Int) (v27 : Int) (v28 : Int) (v29 : Int) (v30 : Int) (v31 : Int) (v32 : Int) (v33 : Int) (v35 : S_State) (v36 : S_Body) (v37 : S_Box) : Nat → Int → (List (Int × Int)) → Option ((Bool × (List (Int × Int)) × Int × Int × Int × Int × Int) ⊕ ((List (Int × Int))))
  | 0, _, _ => none
  | m + 1, v34, v38 => bif (decide (v34 < 5)) then (Option.bind (bif decide (v34 = 0) then (some ((v24, v25))) else bif decide (v34 = 1) then (some ((v26, v27))) else bif decide (v34 = 2) then (some ((v28, v29))) else bif decide (v34 = 3) then (some ((v30, v31))) else bif decide (v34 = 4) then (some ((v32, v33))) else none) fun y40 => bif (y40.2 == 0) then (F9_9_0 n v21 v22 v23 v24 v25 v26 v27 v28 v29 v30 v31 v32 v33 v35 v36 v37 m (wr .i64 (v34 + 1)) v38) else (Option.bind (G24 y40.1 v35.Face) fun y47 => Option.bind (G25 y47.1 y40.2) fun y48 => Option.bind (bif (y47.2 != 0) then (some true) else (some (y48.2 != 0))) fun y50 => bif y50 then (some ((Sum.inl ((false, v38, y40.1, y40.2, y48.1.X, y48.1.Y, y48.1.Z))))) else (bif decide ((wr .i64 (Int.tdiv v34 2)) = 0) then (Option.bind (appI 16 v38 ([(wr .i64 (v22 + (wr .i64 (v36.Reach.1 * y48.1.X))), wr .i64 (v23 + (wr .i64 (v36.Reach.1 * y48.1.Y))))])) fun y55 => F9_9_0 n v21 v22 v23 v24 v25 v26 v27 v28 v29 v30 v31 v32 v33 v35 v36 v37 m (wr .i64 (v34 + 1)) y55) else bif decide ((wr .i64 (Int.tdiv v34 2)) = 1) then (Option.bind (appI 16 v38 ([(wr .i64 (v22 + (wr .i64 (v36.Reach.2.1 * y48.1.X))), wr .i64 (v23 + (wr .i64 (v36.Reach.2.1 * y48.1.Y))))])) fun y57 => F9_9_0 n v21 v22 v23 v24 v25 v26 v27 v28 v29 v30 v31 v32 v33 v35 v36 v37 m (wr .i64 (v34 + 1)) y57) else bif decide ((wr .i64 (Int.tdiv v34 2)) = 2) then (Option.bind (appI 16 v38 ([(wr .i64 (v22 + (wr .i64 (v36.Reach.2.2 * y48.1.X))), wr .i64 (v23 + (wr .i64 (v36.Reach.2.2 * y48.1.Y))))])) fun y59 => F9_9_0 n v21 v22 v23 v24 v25 v26 v27 v28 v29 v30 v31 v32 v33 v35 v36 v37 m (wr .i64 (v34 + 1)) y59) else none))) else (some ((Sum.inr v38)))
theorem T9_9_0 (C : Nat → List A → Option A) (n : Nat) (h11 : Orc11 C) (h16 : Orc16 C) (h20 : Orc20 C) (h23 : Orc23 C) (h24 : Orc24 C) (h25 : Orc25 C) (v21 : Bool) (v22 : Int) (v23 : Int) (v24 : Int) (v25 : Int) (v26 : Int) (v27 : Int) (v28 : Int) (v29 : Int) (v30 : Int) (v31 : Int) (v32 : Int) (v33 : Int) (v35 : S_State) (v36 : S_Body) (v37 : S_Box) {ρ γ : Type} {φ : ρ → γ → Prop} {kL : R → Option ρ} {K : ((Bool × (List (Int × Int)) × Int × Int × Int × Int × Int) ⊕ ((List (Int × Int)))) → Option γ} (kx kg : Nat → St → Option R) (kr : St → Option R) (kp : A → St → Option R) (x0 : ∀ (o0 : Bool) (o1 : (List (Int × Int))) (o2 : Int) (o3 : Int) (o4 : Int) (o5 : Int) (o6 : Int) (s2 : A) (s3 : A) (s5 : A) (s7 : A) (s8 : A) (s10 : A) (s75 : A) (s76 : A), J φ (kr (St.mk [(2, s2), (3, s3), (4, (bA o0)), (5, s5), (7, s7), (8, s8), (10, s10), (75, s75), (76, s76)] [Blk.box (c_S_State v35), Blk.box (c_S_Body v36), Blk.box (c_S_Box v37), Blk.row false 2 (List.map c_A2_int_i64 o1), Blk.box [(iA o2), (iA o3)], Blk.box [(iA o4), (iA o5), (iA o6)]])) kL (K (Sum.inl ((o0, o1, o2, o3, o4, o5, o6)))) some) (x1 : ∀ (o0 : (List (Int × Int))) (s2 : A) (s3 : A) (s7 : A) (s8 : A) (s75 : A) (s76 : A), J φ (kx 0 (St.mk [(2, s2), (3, s3), (4, (bA v21)), (5, (A.ptr 2 0)), (7, s7), (8, s8), (10, (A.sl 3 0 o0.length false)), (75, s75), (76, s76)] [Blk.box (c_S_State v35), Blk.box (c_S_Body v36), Blk.box (c_S_Box v37), Blk.row false 2 (List.map c_A2_int_i64 o0)])) kL (K (Sum.inr o0)) some) :
    ∀ (m : Nat) (v34 : Int) (v38 : (List (Int × Int))), J φ (loopR (cx C) (evCall (cx C) (n+8)) (evCallY (cx C) (n+8)) (n+8) 9 0 0 4 kx kg kr kp m (St.mk [(2, (A.ptr 0 0)), (3, (A.ptr 1 0)), (4, (bA v21)), (5, (A.ptr 2 0)), (7, (iA v22)), (8, (iA v23)), (10, (A.sl 3 0 v38.length false)), (75, (A.agg [(iA v24), (iA v25), (iA v26), (iA v27), (iA v28), (iA v29), (iA v30), (iA v31), (iA v32), (iA v33)])), (76, (iA v34))] [Blk.box (c_S_State v35), Blk.box (c_S_Body v36), Blk.box (c_S_Box v37), Blk.row false 2 (List.map c_A2_int_i64 v38)])) kL (F9_9_0 n v21 v22 v23 v24 v25 v26 v27 v28 v29 v30 v31 v32 v33 v35 v36 v37 m v34 v38) K := by
  intro m
  induction m with
  | zero => intros; exact .nn
  | succ m ih =>
    intro v34 v38
    refine .lp (e9_0 ..) ?_
    unfold F9_9_0
    refine .st (v := (bA (decide (v34 < 5)))) (aBin_lss ..) ?_
    refine .biHN (fun hk39 => ?_) (fun hk39 => ?_)
    · refine .bg (fun t (y : Int × Int) => t = (A.agg [(iA y.1), (iA y.2)])) ?_ ?_
      · refine .sp (fun hb41 => ?_) (fun _ => ?_)
        · exact .lp (by rw [of_decide_eq_true hb41]; kernel_rfl : _ = some (A.agg [(iA v24), (iA v25)])) (.lg rfl)
        refine .sp (fun hb42 => ?_) (fun _ => ?_)
        · exact .lp (by rw [of_decide_eq_true hb42]; kernel_rfl : _ = some (A.agg [(iA v26), (iA v27)])) (.lg rfl)
        refine .sp (fun hb43 => ?_) (fun _ => ?_)
        · exact .lp (by rw [of_decide_eq_true hb43]; kernel_rfl : _ = some (A.agg [(iA v28), (iA v29)])) (.lg rfl)
        refine .sp (fun hb44 => ?_) (fun _ => ?_)
        · exact .lp (by rw [of_decide_eq_true hb44]; kernel_rfl : _ = some (A.agg [(iA v30), (iA v31)])) (.lg rfl)
        refine .sp (fun hb45 => ?_) (fun _ => ?_)
        · exact .lp (by rw [of_decide_eq_true hb45]; kernel_rfl : _ = some (A.agg [(iA v32), (iA v33)])) (.lg rfl)
        exact .nn
      rintro _ y40 rfl
      refine .s ((A.ptr 4 0), [Blk.box (c_S_State v35), Blk.box (c_S_Body v36), Blk.box (c_S_Box v37), Blk.row false 2 (List.map c_A2_int_i64 v38), Blk.box [(iA 0), (iA 0)]]) (.s [Blk.box (c_S_State v35), Blk.box (c_S_Body v36), Blk.box (c_S_Box v37), Blk.row false 2 (List.map c_A2_int_i64 v38), Blk.box [(iA y40.1), (iA y40.2)]] (.s (A.ptr 4 1) (.s (iA y40.2) ?_)))
      refine .st (v := (bA (y40.2 == 0))) (aBin_eql ..) ?_
      refine .biHN (fun hk46 => ?_) (fun hk46 => ?_)
      · refine .st (v := (iA (wr .i64 (v34 + 1)))) (aBin_add ..) ?_
        refine .st (v := [Blk.box (c_S_State v35), Blk.box (c_S_Body v36), Blk.box (c_S_Box v37), Blk.row false 2 (List.map c_A2_int_i64 v38)]) ((by kernel_rfl : _ = (bif ((underss 4 (List.map c_A2_int_i64 v38)) && true) then some [Blk.box (c_S_State v35), Blk.box (c_S_Body v36), Blk.box (c_S_Box v37), Blk.row false 2 (List.map c_A2_int_i64 v38)] else none)).trans (by simp only [under_selF, underss_map, fu_cI, fu_c8, fu_cB, fu_cS, fu_cL, fu_S_Limb, fu_A5_struct_S_Limb, fu_S_State, fu_A3_int_i64, fu_S_Body, fu_S_Role, fu_S_Ratio, fu_S_Sign, fu_S_Real, fu_A2_int_i64, fu_A4_arr_2_int_i64, fu_A2_arr_2_int_i64, fu_A4_int_i64, fu_S_pose_change, fu_S_Range, fu_S_Box, fu_S_body_contract, fu_S_Vec, fu_A5_int_i64, fu_A4_bool,  Bool.and_true, Bool.true_and, cond_true])) ?_
        refine .cT (by kernel_rfl) ?_
        exact ih _ _
      refine .s (A.ptr 4 0) (.s (iA y40.1) (.s (A.ptr 0 2) (.s (iA v35.Face) ?_)))
      refine .bd (g := fun (y : (Int × Int)) => (A.tup [(iA y.1), (iA y.2)])) (h24 y40.1 v35.Face) fun y47 => ?_
      refine .s (iA y47.1) (.s (iA y47.2) (.s (A.ptr 4 1) (.s (iA y40.2) ?_)))
      refine .bd (g := fun (y : (S_Vec × Int)) => (A.tup [(A.agg [(iA y.1.X), (iA y.1.Y), (iA y.1.Z)]), (iA y.2)])) (h25 y47.1 y40.2) fun y48 => ?_
      refine .s (A.agg (c_S_Vec y48.1)) (.s (iA y48.2) (.s ((A.ptr 5 0), [Blk.box (c_S_State v35), Blk.box (c_S_Body v36), Blk.box (c_S_Box v37), Blk.row false 2 (List.map c_A2_int_i64 v38), Blk.box [(iA y40.1), (iA y40.2)], Blk.box [(iA 0), (iA 0), (iA 0)]]) (.s [Blk.box (c_S_State v35), Blk.box (c_S_Body v36), Blk.box (c_S_Box v37), Blk.row false 2 (List.map c_A2_int_i64 v38), Blk.box [(iA y40.1), (iA y40.2)], Blk.box (c_S_Vec y48.1)] ?_)))
      refine .st (v := (bA (y47.2 != 0))) (aBin_neq ..) ?_
      refine .bg (fun t (y : Bool) => ∃ j51 j52 : A, t = [(bA y), j51, j52]) ?_ ?_
      · refine .biH (fun hk49 => ?_) (fun hk49 => ?_)
        · exact .lg ⟨_, _, rfl⟩
        refine .st (v := (bA (y48.2 != 0))) (aBin_neq ..) ?_
        exact .lg ⟨_, _, rfl⟩
      rintro _ y50 ⟨j51, j52, rfl⟩
      iterate 3 refine .uc ?_
      refine .biHN (fun hk53 => ?_) (fun hk53 => ?_)
      · exact .ex (x0 _ _ _ _ _ _ _ _ _ _ _ _ _ _ _)
      refine .st (v := (iA (wr .i64 (Int.tdiv v34 2)))) (aBin_quo (hb := by decide) ..) ?_
      refine .s (A.ptr 1 6) ?_
      refine .sp (fun hb54 => ?_) (fun _ => ?_)
      · refine .st (v := (A.ptr 1 6)) (by rw [of_decide_eq_true hb54]; kernel_rfl) ?_
        refine .s (iA v36.Reach.1) (.s (A.ptr 5 0) (.s (iA y48.1.X) ?_))
        refine .st (v := (iA (wr .i64 (v36.Reach.1 * y48.1.X)))) (aBin_mul ..) ?_
        refine .st (v := (iA (wr .i64 (v22 + (wr .i64 (v36.Reach.1 * y48.1.X)))))) (aBin_add ..) ?_
        refine .st (v := (iA (wr .i64 (Int.tdiv v34 2)))) (aBin_quo (hb := by decide) ..) ?_
        refine .s (A.ptr 1 6) ?_
        refine .st (v := (A.ptr 1 6)) (by rw [of_decide_eq_true hb54]; kernel_rfl) ?_
        refine .s (iA v36.Reach.1) (.s (A.ptr 5 1) (.s (iA y48.1.Y) ?_))
        refine .st (v := (iA (wr .i64 (v36.Reach.1 * y48.1.Y)))) (aBin_mul ..) ?_
        refine .st (v := (iA (wr .i64 (v23 + (wr .i64 (v36.Reach.1 * y48.1.Y)))))) (aBin_add ..) ?_
        refine .s (A.agg [(iA (wr .i64 (v22 + (wr .i64 (v36.Reach.1 * y48.1.X))))), (iA (wr .i64 (v23 + (wr .i64 (v36.Reach.1 * y48.1.Y)))))]) (.s (A.imm [[(iA (wr .i64 (v22 + (wr .i64 (v36.Reach.1 * y48.1.X))))), (iA (wr .i64 (v23 + (wr .i64 (v36.Reach.1 * y48.1.Y)))))]] true) ?_)
        refine .bd (g := fun (y : List (Int × Int)) => ((A.sl 3 0 y.length false), [Blk.box (c_S_State v35), Blk.box (c_S_Body v36), Blk.box (c_S_Box v37), Blk.row false 2 (List.map c_A2_int_i64 y), Blk.box [(iA y40.1), (iA y40.2)], Blk.box (c_S_Vec y48.1)])) (app_row (e := 58) (es := 2) (by_ := 16) (z := [(iA 0), (iA 0)]) (by kernel_rfl) (by kernel_rfl) (by kernel_rfl) (by kernel_rfl) rfl (by decide) (by decide) (by kernel_rfl) (f := c_A2_int_i64) (fun _ => rfl) ce_A2_int_i64 (l := v38) (l2 := [(wr .i64 (v22 + (wr .i64 (v36.Reach.1 * y48.1.X))), wr .i64 (v23 + (wr .i64 (v36.Reach.1 * y48.1.Y))))]) (b := 3) rfl (by decide) (els_imm (f := c_A2_int_i64) ([(wr .i64 (v22 + (wr .i64 (v36.Reach.1 * y48.1.X))), wr .i64 (v23 + (wr .i64 (v36.Reach.1 * y48.1.Y))))] : List (Int × Int)) _ _)) fun y55 => ?_
        refine .st (v := (iA (wr .i64 (v34 + 1)))) (aBin_add ..) ?_
        refine .st (v := [Blk.box (c_S_State v35), Blk.box (c_S_Body v36), Blk.box (c_S_Box v37), Blk.row false 2 (List.map c_A2_int_i64 y55)]) ((by kernel_rfl : _ = (bif ((underss 4 (List.map c_A2_int_i64 y55)) && true) then some [Blk.box (c_S_State v35), Blk.box (c_S_Body v36), Blk.box (c_S_Box v37), Blk.row false 2 (List.map c_A2_int_i64 y55)] else none)).trans (by simp only [under_selF, underss_map, fu_cI, fu_c8, fu_cB, fu_cS, fu_cL, fu_S_Limb, fu_A5_struct_S_Limb, fu_S_State, fu_A3_int_i64, fu_S_Body, fu_S_Role, fu_S_Ratio, fu_S_Sign, fu_S_Real, fu_A2_int_i64, fu_A4_arr_2_int_i64, fu_A2_arr_2_int_i64, fu_A4_int_i64, fu_S_pose_change, fu_S_Range, fu_S_Box, fu_S_body_contract, fu_S_Vec, fu_A5_int_i64, fu_A4_bool,  Bool.and_true, Bool.true_and, cond_true])) ?_
        refine .cT (by kernel_rfl) ?_
        exact ih _ _
      refine .sp (fun hb56 => ?_) (fun _ => ?_)
      · refine .st (v := (A.ptr 1 7)) (by rw [of_decide_eq_true hb56]; kernel_rfl) ?_
        refine .s (iA v36.Reach.2.1) (.s (A.ptr 5 0) (.s (iA y48.1.X) ?_))
        refine .st (v := (iA (wr .i64 (v36.Reach.2.1 * y48.1.X)))) (aBin_mul ..) ?_
        refine .st (v := (iA (wr .i64 (v22 + (wr .i64 (v36.Reach.2.1 * y48.1.X)))))) (aBin_add ..) ?_
        refine .st (v := (iA (wr .i64 (Int.tdiv v34 2)))) (aBin_quo (hb := by decide) ..) ?_
        refine .s (A.ptr 1 6) ?_
        refine .st (v := (A.ptr 1 7)) (by rw [of_decide_eq_true hb56]; kernel_rfl) ?_
        refine .s (iA v36.Reach.2.1) (.s (A.ptr 5 1) (.s (iA y48.1.Y) ?_))
        refine .st (v := (iA (wr .i64 (v36.Reach.2.1 * y48.1.Y)))) (aBin_mul ..) ?_
        refine .st (v := (iA (wr .i64 (v23 + (wr .i64 (v36.Reach.2.1 * y48.1.Y)))))) (aBin_add ..) ?_
        refine .s (A.agg [(iA (wr .i64 (v22 + (wr .i64 (v36.Reach.2.1 * y48.1.X))))), (iA (wr .i64 (v23 + (wr .i64 (v36.Reach.2.1 * y48.1.Y)))))]) (.s (A.imm [[(iA (wr .i64 (v22 + (wr .i64 (v36.Reach.2.1 * y48.1.X))))), (iA (wr .i64 (v23 + (wr .i64 (v36.Reach.2.1 * y48.1.Y)))))]] true) ?_)
        refine .bd (g := fun (y : List (Int × Int)) => ((A.sl 3 0 y.length false), [Blk.box (c_S_State v35), Blk.box (c_S_Body v36), Blk.box (c_S_Box v37), Blk.row false 2 (List.map c_A2_int_i64 y), Blk.box [(iA y40.1), (iA y40.2)], Blk.box (c_S_Vec y48.1)])) (app_row (e := 58) (es := 2) (by_ := 16) (z := [(iA 0), (iA 0)]) (by kernel_rfl) (by kernel_rfl) (by kernel_rfl) (by kernel_rfl) rfl (by decide) (by decide) (by kernel_rfl) (f := c_A2_int_i64) (fun _ => rfl) ce_A2_int_i64 (l := v38) (l2 := [(wr .i64 (v22 + (wr .i64 (v36.Reach.2.1 * y48.1.X))), wr .i64 (v23 + (wr .i64 (v36.Reach.2.1 * y48.1.Y))))]) (b := 3) rfl (by decide) (els_imm (f := c_A2_int_i64) ([(wr .i64 (v22 + (wr .i64 (v36.Reach.2.1 * y48.1.X))), wr .i64 (v23 + (wr .i64 (v36.Reach.2.1 * y48.1.Y))))] : List (Int × Int)) _ _)) fun y57 => ?_
        refine .st (v := (iA (wr .i64 (v34 + 1)))) (aBin_add ..) ?_
        refine .st (v := [Blk.box (c_S_State v35), Blk.box (c_S_Body v36), Blk.box (c_S_Box v37), Blk.row false 2 (List.map c_A2_int_i64 y57)]) ((by kernel_rfl : _ = (bif ((underss 4 (List.map c_A2_int_i64 y57)) && true) then some [Blk.box (c_S_State v35), Blk.box (c_S_Body v36), Blk.box (c_S_Box v37), Blk.row false 2 (List.map c_A2_int_i64 y57)] else none)).trans (by simp only [under_selF, underss_map, fu_cI, fu_c8, fu_cB, fu_cS, fu_cL, fu_S_Limb, fu_A5_struct_S_Limb, fu_S_State, fu_A3_int_i64, fu_S_Body, fu_S_Role, fu_S_Ratio, fu_S_Sign, fu_S_Real, fu_A2_int_i64, fu_A4_arr_2_int_i64, fu_A2_arr_2_int_i64, fu_A4_int_i64, fu_S_pose_change, fu_S_Range, fu_S_Box, fu_S_body_contract, fu_S_Vec, fu_A5_int_i64, fu_A4_bool,  Bool.and_true, Bool.true_and, cond_true])) ?_
        refine .cT (by kernel_rfl) ?_
        exact ih _ _
      refine .sp (fun hb58 => ?_) (fun _ => ?_)
      · refine .st (v := (A.ptr 1 8)) (by rw [of_decide_eq_true hb58]; kernel_rfl) ?_
        refine .s (iA v36.Reach.2.2) (.s (A.ptr 5 0) (.s (iA y48.1.X) ?_))
        refine .st (v := (iA (wr .i64 (v36.Reach.2.2 * y48.1.X)))) (aBin_mul ..) ?_
        refine .st (v := (iA (wr .i64 (v22 + (wr .i64 (v36.Reach.2.2 * y48.1.X)))))) (aBin_add ..) ?_
        refine .st (v := (iA (wr .i64 (Int.tdiv v34 2)))) (aBin_quo (hb := by decide) ..) ?_
        refine .s (A.ptr 1 6) ?_
        refine .st (v := (A.ptr 1 8)) (by rw [of_decide_eq_true hb58]; kernel_rfl) ?_
        refine .s (iA v36.Reach.2.2) (.s (A.ptr 5 1) (.s (iA y48.1.Y) ?_))
        refine .st (v := (iA (wr .i64 (v36.Reach.2.2 * y48.1.Y)))) (aBin_mul ..) ?_
        refine .st (v := (iA (wr .i64 (v23 + (wr .i64 (v36.Reach.2.2 * y48.1.Y)))))) (aBin_add ..) ?_
        refine .s (A.agg [(iA (wr .i64 (v22 + (wr .i64 (v36.Reach.2.2 * y48.1.X))))), (iA (wr .i64 (v23 + (wr .i64 (v36.Reach.2.2 * y48.1.Y)))))]) (.s (A.imm [[(iA (wr .i64 (v22 + (wr .i64 (v36.Reach.2.2 * y48.1.X))))), (iA (wr .i64 (v23 + (wr .i64 (v36.Reach.2.2 * y48.1.Y)))))]] true) ?_)
        refine .bd (g := fun (y : List (Int × Int)) => ((A.sl 3 0 y.length false), [Blk.box (c_S_State v35), Blk.box (c_S_Body v36), Blk.box (c_S_Box v37), Blk.row false 2 (List.map c_A2_int_i64 y), Blk.box [(iA y40.1), (iA y40.2)], Blk.box (c_S_Vec y48.1)])) (app_row (e := 58) (es := 2) (by_ := 16) (z := [(iA 0), (iA 0)]) (by kernel_rfl) (by kernel_rfl) (by kernel_rfl) (by kernel_rfl) rfl (by decide) (by decide) (by kernel_rfl) (f := c_A2_int_i64) (fun _ => rfl) ce_A2_int_i64 (l := v38) (l2 := [(wr .i64 (v22 + (wr .i64 (v36.Reach.2.2 * y48.1.X))), wr .i64 (v23 + (wr .i64 (v36.Reach.2.2 * y48.1.Y))))]) (b := 3) rfl (by decide) (els_imm (f := c_A2_int_i64) ([(wr .i64 (v22 + (wr .i64 (v36.Reach.2.2 * y48.1.X))), wr .i64 (v23 + (wr .i64 (v36.Reach.2.2 * y48.1.Y))))] : List (Int × Int)) _ _)) fun y59 => ?_
        refine .st (v := (iA (wr .i64 (v34 + 1)))) (aBin_add ..) ?_
        refine .st (v := [Blk.box (c_S_State v35), Blk.box (c_S_Body v36), Blk.box (c_S_Box v37), Blk.row false 2 (List.map c_A2_int_i64 y59)]) ((by kernel_rfl : _ = (bif ((underss 4 (List.map c_A2_int_i64 y59)) && true) then some [Blk.box (c_S_State v35), Blk.box (c_S_Body v36), Blk.box (c_S_Box v37), Blk.row false 2 (List.map c_A2_int_i64 y59)] else none)).trans (by simp only [under_selF, underss_map, fu_cI, fu_c8, fu_cB, fu_cS, fu_cL, fu_S_Limb, fu_A5_struct_S_Limb, fu_S_State, fu_A3_int_i64, fu_S_Body, fu_S_Role, fu_S_Ratio, fu_S_Sign, fu_S_Real, fu_A2_int_i64, fu_A4_arr_2_int_i64, fu_A2_arr_2_int_i64, fu_A4_int_i64, fu_S_pose_change, fu_S_Range, fu_S_Box, fu_S_body_contract, fu_S_Vec, fu_A5_int_i64, fu_A4_bool,  Bool.and_true, Bool.true_and, cond_true])) ?_
        refine .cT (by kernel_rfl) ?_
        exact ih _ _
      exact .nn
    exact .ex (x1 _ _ _ _ _ _ _)
def F9_9_2 (n : Nat) (v122 : Bool) (v123 : (List (Int × Int))) (v124 : Int) (v125 : Int) (v126 : (List Bool)) (v127 : Int) (v129 : S_State) (v130 : S_Body) (v131 : S_Box) (v132 : (List (Int × Int))) (v137 : Int) (v138 : Int) : Nat → Int → Bool → Bool → Bool → Bool → Option (Bool × Bool × Bool × Bool)
  | 0, _, _, _, _, _ => none
  | m + 1, v128, v133, v134, v135, v136 => bif (decide (v128 < v127)) then (Option.bind (getI v126 v128) fun y140 => bif decide (v128 = 0) then (Option.bind (bif v133 then (some true) else (some y140)) fun y143 => F9_9_2 n v122 v123 v124 v125 v126 v127 v129 v130 v131 v132 v137 v138 m (wr .i64 (v128 + 1)) y143 v134 v135 v136) else bif decide (v128 = 1) then (Option.bind (bif v134 then (some true) else (some y140)) fun y147 => F9_9_2 n v122 v123 v124 v125 v126 v127 v129 v130 v131 v132 v137 v138 m (wr .i64 (v128 + 1)) v133 y147 v135 v136) else bif decide (v128 = 2) then (Option.bind (bif v135 then (some true) else (some y140)) fun y151 => F9_9_2 n v122 v123 v124 v125 v126 v127 v129 v130 v131 v132 v137 v138 m (wr .i64 (v128 + 1)) v133 v134 y151 v136) else bif decide (v128 = 3) then (Option.bind (bif v136 then (some true) else (some y140)) fun y155 => F9_9_2 n v122 v123 v124 v125 v126 v127 v129 v130 v131 v132 v137 v138 m (wr .i64 (v128 + 1)) v133 v134 v135 y155) else none) else (some ((v133, v134, v135, v136)))
theorem T9_9_2 (C : Nat → List A → Option A) (n : Nat) (h11 : Orc11 C) (h16 : Orc16 C) (h20 : Orc20 C) (h23 : Orc23 C) (h24 : Orc24 C) (h25 : Orc25 C) (v122 : Bool) (v123 : (List (Int × Int))) (v124 : Int) (v125 : Int) (v126 : (List Bool)) (v127 : Int) (v129 : S_State) (v130 : S_Body) (v131 : S_Box) (v132 : (List (Int × Int))) (v137 : Int) (v138 : Int) {ρ γ : Type} {φ : ρ → γ → Prop} {kL : R → Option ρ} {K : (Bool × Bool × Bool × Bool) → Option γ} (kx kg : Nat → St → Option R) (kr : St → Option R) (kp : A → St → Option R) (x0 : ∀ (o0 : Bool) (o1 : Bool) (o2 : Bool) (o3 : Bool) (s189 : A) (s190 : A) (s191 : A), J φ (kx 4 (St.mk [(4, (bA v122)), (5, (A.ptr 2 0)), (17, (A.ptr 4 0)), (129, (A.imm (List.map c_A2_int_i64 v123) false)), (130, (iA v124)), (131, (iA v125)), (189, s189), (190, s190), (191, s191)] [Blk.box (c_S_State v129), Blk.box (c_S_Body v130), Blk.box (c_S_Box v131), Blk.row false 2 (List.map c_A2_int_i64 v132), Blk.box [(bA o0), (bA o1), (bA o2), (bA o3)], Blk.box [(iA v137), (iA v138)]])) kL (K (o0, o1, o2, o3)) some) :
    ∀ (m : Nat) (v128 : Int) (v133 : Bool) (v134 : Bool) (v135 : Bool) (v136 : Bool), J φ (loopR (cx C) (evCall (cx C) (n+8)) (evCallY (cx C) (n+8)) (n+8) 9 0 2 6 kx kg kr kp m (St.mk [(4, (bA v122)), (5, (A.ptr 2 0)), (17, (A.ptr 4 0)), (129, (A.imm (List.map c_A2_int_i64 v123) false)), (130, (iA v124)), (131, (iA v125)), (189, (A.imm (List.map cB v126) true)), (190, (iA v127)), (191, (iA v128))] [Blk.box (c_S_State v129), Blk.box (c_S_Body v130), Blk.box (c_S_Box v131), Blk.row false 2 (List.map c_A2_int_i64 v132), Blk.box [(bA v133), (bA v134), (bA v135), (bA v136)], Blk.box [(iA v137), (iA v138)]])) kL (F9_9_2 n v122 v123 v124 v125 v126 v127 v129 v130 v131 v132 v137 v138 m v128 v133 v134 v135 v136) K := by
  intro m
  induction m with
  | zero => intros; exact .nn
  | succ m ih =>
    intro v128 v133 v134 v135 v136
    refine .lp (e9_2 ..) ?_
    unfold F9_9_2
    refine .st (v := (bA (decide (v128 < v127)))) (aBin_lss ..) ?_
    refine .biHN (fun hk139 => ?_) (fun hk139 => ?_)
    · refine .bd (g := fun (y : Bool) => A.ip (cB y)) (idx_imm (e := 4) (es := 1) (h1 := by kernel_rfl) (h2 := by kernel_rfl) (h3 := fun _ => rfl) ..) fun y140 => ?_
      refine .s (bA y140) ?_
      refine .sp (fun hb141 => ?_) (fun _ => ?_)
      · refine .st (v := (A.ptr 4 0)) (by rw [of_decide_eq_true hb141]; kernel_rfl) ?_
        refine .s (bA v133) ?_
        refine .bg (fun t (y : Bool) => ∃ j144 : A, t = [(bA y), j144]) ?_ ?_
        · refine .biH (fun hk142 => ?_) (fun hk142 => ?_)
          · exact .lg ⟨_, rfl⟩
          exact .lg ⟨_, rfl⟩
        rintro _ y143 ⟨j144, rfl⟩
        iterate 2 refine .uc ?_
        refine .st (v := (A.ptr 4 0)) (by rw [of_decide_eq_true hb141]; kernel_rfl) ?_
        refine .s [Blk.box (c_S_State v129), Blk.box (c_S_Body v130), Blk.box (c_S_Box v131), Blk.row false 2 (List.map c_A2_int_i64 v132), Blk.box [(bA y143), (bA v134), (bA v135), (bA v136)], Blk.box [(iA v137), (iA v138)]] ?_
        refine .st (v := (iA (wr .i64 (v128 + 1)))) (aBin_add ..) ?_
        refine .s [Blk.box (c_S_State v129), Blk.box (c_S_Body v130), Blk.box (c_S_Box v131), Blk.row false 2 (List.map c_A2_int_i64 v132), Blk.box [(bA y143), (bA v134), (bA v135), (bA v136)], Blk.box [(iA v137), (iA v138)]] ?_
        refine .cT (by kernel_rfl) ?_
        exact ih _ _ _ _ _
      refine .sp (fun hb145 => ?_) (fun _ => ?_)
      · refine .st (v := (A.ptr 4 1)) (by rw [of_decide_eq_true hb145]; kernel_rfl) ?_
        refine .s (bA v134) ?_
        refine .bg (fun t (y : Bool) => ∃ j148 : A, t = [(bA y), j148]) ?_ ?_
        · refine .biH (fun hk146 => ?_) (fun hk146 => ?_)
          · exact .lg ⟨_, rfl⟩
          exact .lg ⟨_, rfl⟩
        rintro _ y147 ⟨j148, rfl⟩
        iterate 2 refine .uc ?_
        refine .st (v := (A.ptr 4 1)) (by rw [of_decide_eq_true hb145]; kernel_rfl) ?_
        refine .s [Blk.box (c_S_State v129), Blk.box (c_S_Body v130), Blk.box (c_S_Box v131), Blk.row false 2 (List.map c_A2_int_i64 v132), Blk.box [(bA v133), (bA y147), (bA v135), (bA v136)], Blk.box [(iA v137), (iA v138)]] ?_
        refine .st (v := (iA (wr .i64 (v128 + 1)))) (aBin_add ..) ?_
        refine .s [Blk.box (c_S_State v129), Blk.box (c_S_Body v130), Blk.box (c_S_Box v131), Blk.row false 2 (List.map c_A2_int_i64 v132), Blk.box [(bA v133), (bA y147), (bA v135), (bA v136)], Blk.box [(iA v137), (iA v138)]] ?_
        refine .cT (by kernel_rfl) ?_
        exact ih _ _ _ _ _
      refine .sp (fun hb149 => ?_) (fun _ => ?_)
      · refine .st (v := (A.ptr 4 2)) (by rw [of_decide_eq_true hb149]; kernel_rfl) ?_
        refine .s (bA v135) ?_
        refine .bg (fun t (y : Bool) => ∃ j152 : A, t = [(bA y), j152]) ?_ ?_
        · refine .biH (fun hk150 => ?_) (fun hk150 => ?_)
          · exact .lg ⟨_, rfl⟩
          exact .lg ⟨_, rfl⟩
        rintro _ y151 ⟨j152, rfl⟩
        iterate 2 refine .uc ?_
        refine .st (v := (A.ptr 4 2)) (by rw [of_decide_eq_true hb149]; kernel_rfl) ?_
        refine .s [Blk.box (c_S_State v129), Blk.box (c_S_Body v130), Blk.box (c_S_Box v131), Blk.row false 2 (List.map c_A2_int_i64 v132), Blk.box [(bA v133), (bA v134), (bA y151), (bA v136)], Blk.box [(iA v137), (iA v138)]] ?_
        refine .st (v := (iA (wr .i64 (v128 + 1)))) (aBin_add ..) ?_
        refine .s [Blk.box (c_S_State v129), Blk.box (c_S_Body v130), Blk.box (c_S_Box v131), Blk.row false 2 (List.map c_A2_int_i64 v132), Blk.box [(bA v133), (bA v134), (bA y151), (bA v136)], Blk.box [(iA v137), (iA v138)]] ?_
        refine .cT (by kernel_rfl) ?_
        exact ih _ _ _ _ _
      refine .sp (fun hb153 => ?_) (fun _ => ?_)
      · refine .st (v := (A.ptr 4 3)) (by rw [of_decide_eq_true hb153]; kernel_rfl) ?_
        refine .s (bA v136) ?_
        refine .bg (fun t (y : Bool) => ∃ j156 : A, t = [(bA y), j156]) ?_ ?_
        · refine .biH (fun hk154 => ?_) (fun hk154 => ?_)
          · exact .lg ⟨_, rfl⟩
          exact .lg ⟨_, rfl⟩
        rintro _ y155 ⟨j156, rfl⟩
        iterate 2 refine .uc ?_
        refine .st (v := (A.ptr 4 3)) (by rw [of_decide_eq_true hb153]; kernel_rfl) ?_
        refine .s [Blk.box (c_S_State v129), Blk.box (c_S_Body v130), Blk.box (c_S_Box v131), Blk.row false 2 (List.map c_A2_int_i64 v132), Blk.box [(bA v133), (bA v134), (bA v135), (bA y155)], Blk.box [(iA v137), (iA v138)]] ?_
        refine .st (v := (iA (wr .i64 (v128 + 1)))) (aBin_add ..) ?_
        refine .s [Blk.box (c_S_State v129), Blk.box (c_S_Body v130), Blk.box (c_S_Box v131), Blk.row false 2 (List.map c_A2_int_i64 v132), Blk.box [(bA v133), (bA v134), (bA v135), (bA y155)], Blk.box [(iA v137), (iA v138)]] ?_
        refine .cT (by kernel_rfl) ?_
        exact ih _ _ _ _ _
      exact .nn
    exact .ex (x0 _ _ _ _ _ _ _)
def F9_9_1 (n : Nat) (v83 : Bool) (v84 : (List (Int × Int))) (v85 : Int) (v87 : S_State) (v88 : S_Body) (v89 : S_Box) (v90 : (List (Int × Int))) : Nat → Int → Bool → Bool → Bool → Bool → Option ((Bool × Bool × Bool × Bool × Bool × Int × Int) ⊕ (Bool × Bool × Bool × Bool))
  | 0, _, _, _, _, _ => none
  | m + 1, v86, v91, v92, v93, v94 => bif (decide (v86 < v85)) then (Option.bind (getI v84 v86) fun y96 => Option.bind (bif (decide (y96.1 < v89.X.Lo)) then (some true) else (some (decide (v89.X.Hi < y96.1)))) fun y98 => Option.bind (bif y98 then (some true) else (some (decide (y96.2 < v89.Y.Lo)))) fun y106 => Option.bind (bif y106 then (some true) else (some (decide (v89.Y.Hi < y96.2)))) fun y114 => bif y114 then (some ((Sum.inl ((false, v91, v92, v93, v94, y96.1, y96.2))))) else (Option.bind (F9_9_2 n v83 v84 v85 v86 ([y96.1 == v89.X.Lo, y96.1 == v89.X.Hi, y96.2 == v89.Y.Lo, y96.2 == v89.Y.Hi]) 4 v87 v88 v89 v90 y96.1 y96.2 (n+8) 0 v91 v92 v93 v94) fun o157 => match o157 with | (y158, y159, y160, y161) => F9_9_1 n v83 v84 v85 v87 v88 v89 v90 m (wr .i64 (v86 + 1)) y158 y159 y160 y161)) else (some ((Sum.inr ((v91, v92, v93, v94)))))
theorem T9_9_1 (C : Nat → List A → Option A) (n : Nat) (h11 : Orc11 C) (h16 : Orc16 C) (h20 : Orc20 C) (h23 : Orc23 C) (h24 : Orc24 C) (h25 : Orc25 C) (v83 : Bool) (v84 : (List (Int × Int))) (v85 : Int) (v87 : S_State) (v88 : S_Body) (v89 : S_Box) (v90 : (List (Int × Int))) {ρ γ : Type} {φ : ρ → γ → Prop} {kL : R → Option ρ} {K : ((Bool × Bool × Bool × Bool × Bool × Int × Int) ⊕ (Bool × Bool × Bool × Bool)) → Option γ} (kx kg : Nat → St → Option R) (kr : St → Option R) (kp : A → St → Option R) (x0 : ∀ (o0 : Bool) (o1 : Bool) (o2 : Bool) (o3 : Bool) (o4 : Bool) (o5 : Int) (o6 : Int) (s5 : A) (s17 : A) (s129 : A) (s130 : A) (s131 : A), J φ (kr (St.mk [(4, (bA o0)), (5, s5), (17, s17), (129, s129), (130, s130), (131, s131)] [Blk.box (c_S_State v87), Blk.box (c_S_Body v88), Blk.box (c_S_Box v89), Blk.row false 2 (List.map c_A2_int_i64 v90), Blk.box [(bA o1), (bA o2), (bA o3), (bA o4)], Blk.box [(iA o5), (iA o6)]])) kL (K (Sum.inl ((o0, o1, o2, o3, o4, o5, o6)))) some) (x1 : ∀ (o0 : Bool) (o1 : Bool) (o2 : Bool) (o3 : Bool) (s4 : A) (s5 : A) (s129 : A) (s130 : A) (s131 : A), J φ (kx 2 (St.mk [(4, s4), (5, s5), (17, (A.ptr 4 0)), (129, s129), (130, s130), (131, s131)] [Blk.box (c_S_State v87), Blk.box (c_S_Body v88), Blk.box (c_S_Box v89), Blk.row false 2 (List.map c_A2_int_i64 v90), Blk.box [(bA o0), (bA o1), (bA o2), (bA o3)]])) kL (K (Sum.inr ((o0, o1, o2, o3)))) some) :
    ∀ (m : Nat) (v86 : Int) (v91 : Bool) (v92 : Bool) (v93 : Bool) (v94 : Bool), J φ (loopR (cx C) (evCall (cx C) (n+8)) (evCallY (cx C) (n+8)) (n+8) 9 0 1 5 kx kg kr kp m (St.mk [(4, (bA v83)), (5, (A.ptr 2 0)), (17, (A.ptr 4 0)), (129, (A.imm (List.map c_A2_int_i64 v84) false)), (130, (iA v85)), (131, (iA v86))] [Blk.box (c_S_State v87), Blk.box (c_S_Body v88), Blk.box (c_S_Box v89), Blk.row false 2 (List.map c_A2_int_i64 v90), Blk.box [(bA v91), (bA v92), (bA v93), (bA v94)]])) kL (F9_9_1 n v83 v84 v85 v87 v88 v89 v90 m v86 v91 v92 v93 v94) K := by
  intro m
  induction m with
  | zero => intros; exact .nn
  | succ m ih =>
    intro v86 v91 v92 v93 v94
    refine .lp (e9_1 ..) ?_
    unfold F9_9_1
    refine .st (v := (bA (decide (v86 < v85)))) (aBin_lss ..) ?_
    refine .biHN (fun hk95 => ?_) (fun hk95 => ?_)
    · refine .bd (g := fun (y : (Int × Int)) => A.ip (c_A2_int_i64 y)) (idx_imm (e := 58) (es := 2) (h1 := by kernel_rfl) (h2 := by kernel_rfl) (h3 := fun _ => rfl) ..) fun y96 => ?_
      refine .s (A.agg [(iA y96.1), (iA y96.2)]) (.s ((A.ptr 5 0), [Blk.box (c_S_State v87), Blk.box (c_S_Body v88), Blk.box (c_S_Box v89), Blk.row false 2 (List.map c_A2_int_i64 v90), Blk.box [(bA v91), (bA v92), (bA v93), (bA v94)], Blk.box [(iA 0), (iA 0)]]) (.s [Blk.box (c_S_State v87), Blk.box (c_S_Body v88), Blk.box (c_S_Box v89), Blk.row false 2 (List.map c_A2_int_i64 v90), Blk.box [(bA v91), (bA v92), (bA v93), (bA v94)], Blk.box [(iA y96.1), (iA y96.2)]] (.s (A.ptr 5 0) (.s (iA y96.1) (.s (A.ptr 2 0) (.s (A.ptr 2 0) (.s (iA v89.X.Lo) ?_)))))))
      refine .st (v := (bA (decide (y96.1 < v89.X.Lo)))) (aBin_lss ..) ?_
      refine .bg (fun t (y : Bool) => ∃ j99 j100 j101 j102 j103 j104 : A, t = [(bA y), j99, j100, j101, j102, j103, j104]) ?_ ?_
      · refine .biH (fun hk97 => ?_) (fun hk97 => ?_)
        · exact .lg ⟨_, _, _, _, _, _, rfl⟩
        refine .s (A.ptr 5 0) (.s (iA y96.1) (.s (A.ptr 2 0) (.s (A.ptr 2 1) (.s (iA v89.X.Hi) ?_))))
        refine .st (v := (bA (decide (v89.X.Hi < y96.1)))) (aBin_gtr ..) ?_
        exact .lg ⟨_, _, _, _, _, _, rfl⟩
      rintro _ y98 ⟨j99, j100, j101, j102, j103, j104, rfl⟩
      iterate 7 refine .uc ?_
      refine .bg (fun t (y : Bool) => ∃ j107 j108 j109 j110 j111 j112 : A, t = [(bA y), j107, j108, j109, j110, j111, j112]) ?_ ?_
      · refine .biH (fun hk105 => ?_) (fun hk105 => ?_)
        · exact .lg ⟨_, _, _, _, _, _, rfl⟩
        refine .s (A.ptr 5 1) (.s (iA y96.2) (.s (A.ptr 2 2) (.s (A.ptr 2 2) (.s (iA v89.Y.Lo) ?_))))
        refine .st (v := (bA (decide (y96.2 < v89.Y.Lo)))) (aBin_lss ..) ?_
        exact .lg ⟨_, _, _, _, _, _, rfl⟩
      rintro _ y106 ⟨j107, j108, j109, j110, j111, j112, rfl⟩
      iterate 7 refine .uc ?_
      refine .bg (fun t (y : Bool) => ∃ j115 j116 j117 j118 j119 j120 : A, t = [(bA y), j115, j116, j117, j118, j119, j120]) ?_ ?_
      · refine .biH (fun hk113 => ?_) (fun hk113 => ?_)
        · exact .lg ⟨_, _, _, _, _, _, rfl⟩
        refine .s (A.ptr 5 1) (.s (iA y96.2) (.s (A.ptr 2 2) (.s (A.ptr 2 3) (.s (iA v89.Y.Hi) ?_))))
        refine .st (v := (bA (decide (v89.Y.Hi < y96.2)))) (aBin_gtr ..) ?_
        exact .lg ⟨_, _, _, _, _, _, rfl⟩
      rintro _ y114 ⟨j115, j116, j117, j118, j119, j120, rfl⟩
      iterate 7 refine .uc ?_
      refine .biHN (fun hk121 => ?_) (fun hk121 => ?_)
      · exact .ex (x0 _ _ _ _ _ _ _ _ _ _ _ _)
      refine .s (A.ptr 5 0) (.s (iA y96.1) (.s (A.ptr 2 0) (.s (A.ptr 2 0) (.s (iA v89.X.Lo) ?_))))
      refine .st (v := (bA (y96.1 == v89.X.Lo))) (aBin_eql ..) ?_
      refine .s (A.ptr 5 0) (.s (iA y96.1) (.s (A.ptr 2 0) (.s (A.ptr 2 1) (.s (iA v89.X.Hi) ?_))))
      refine .st (v := (bA (y96.1 == v89.X.Hi))) (aBin_eql ..) ?_
      refine .s (A.ptr 5 1) (.s (iA y96.2) (.s (A.ptr 2 2) (.s (A.ptr 2 2) (.s (iA v89.Y.Lo) ?_))))
      refine .st (v := (bA (y96.2 == v89.Y.Lo))) (aBin_eql ..) ?_
      refine .s (A.ptr 5 1) (.s (iA y96.2) (.s (A.ptr 2 2) (.s (A.ptr 2 3) (.s (iA v89.Y.Hi) ?_))))
      refine .st (v := (bA (y96.2 == v89.Y.Hi))) (aBin_eql ..) ?_
      refine .s (A.imm [[(bA (y96.1 == v89.X.Lo))], [(bA (y96.1 == v89.X.Hi))], [(bA (y96.2 == v89.Y.Lo))], [(bA (y96.2 == v89.Y.Hi))]] true) (.s (iA 4) ?_)
      refine .as (T9_9_2 C n h11 h16 h20 h23 h24 h25 v83 v84 v85 v86 ([y96.1 == v89.X.Lo, y96.1 == v89.X.Hi, y96.2 == v89.Y.Lo, y96.2 == v89.Y.Hi]) 4 v87 v88 v89 v90 y96.1 y96.2 _ _ _ _ ?_ _ 0 v91 v92 v93 v94)
      · intro y158 y159 y160 y161 j162 j163 j164
        refine .un rfl ?_
        refine .cT (by kernel_rfl) ?_
        refine .st (v := (iA (wr .i64 (v86 + 1)))) (aBin_add ..) ?_
        refine .st (v := [Blk.box (c_S_State v87), Blk.box (c_S_Body v88), Blk.box (c_S_Box v89), Blk.row false 2 (List.map c_A2_int_i64 v90), Blk.box [(bA y158), (bA y159), (bA y160), (bA y161)]]) ((by kernel_rfl : _ = (bif ((underss 5 (List.map c_A2_int_i64 v90)) && true) then some [Blk.box (c_S_State v87), Blk.box (c_S_Body v88), Blk.box (c_S_Box v89), Blk.row false 2 (List.map c_A2_int_i64 v90), Blk.box [(bA y158), (bA y159), (bA y160), (bA y161)]] else none)).trans (by simp only [under_selF, underss_map, fu_cI, fu_c8, fu_cB, fu_cS, fu_cL, fu_S_Limb, fu_A5_struct_S_Limb, fu_S_State, fu_A3_int_i64, fu_S_Body, fu_S_Role, fu_S_Ratio, fu_S_Sign, fu_S_Real, fu_A2_int_i64, fu_A4_arr_2_int_i64, fu_A2_arr_2_int_i64, fu_A4_int_i64, fu_S_pose_change, fu_S_Range, fu_S_Box, fu_S_body_contract, fu_S_Vec, fu_A5_int_i64, fu_A4_bool,  Bool.and_true, Bool.true_and, cond_true])) ?_
        refine .cT ((by kernel_rfl : _ = (bif underss 5 (List.map c_A2_int_i64 v84) then true else false)).trans (by simp only [under_selF, underss_map, fu_cI, fu_c8, fu_cB, fu_cS, fu_cL, fu_S_Limb, fu_A5_struct_S_Limb, fu_S_State, fu_A3_int_i64, fu_S_Body, fu_S_Role, fu_S_Ratio, fu_S_Sign, fu_S_Real, fu_A2_int_i64, fu_A4_arr_2_int_i64, fu_A2_arr_2_int_i64, fu_A4_int_i64, fu_S_pose_change, fu_S_Range, fu_S_Box, fu_S_body_contract, fu_S_Vec, fu_A5_int_i64, fu_A4_bool,  Bool.and_true, Bool.true_and, cond_true])) ?_
        exact ih _ _ _ _ _
    exact .ex (x1 _ _ _ _ _ _ _ _ _)
def F9 (n : Nat) (a0 : S_State) (a1 : S_Body) : Option Bool :=
  Option.bind (G11 ) fun y1 => bif (!y1) then (some false) else (Option.bind (G20 a0 a1) fun y3 => bif (y3.2 != 0) then (Option.bind (G16 a0) fun y5 => Option.bind (bif (y3.2 == y5) then (some true) else (Option.bind (G23 a1) fun y7 => some (y3.2 == y7))) fun y8 => some y8) else (Option.bind (G16 a0) fun y13 => Option.bind (bif (y13 != 0) then (some true) else (Option.bind (G23 a1) fun y15 => some (y15 != 0))) fun y16 => bif y16 then (some false) else (Option.bind (F9_9_0 n false (wr .i64 (29 * a0.X)) (wr .i64 (29 * a0.Y)) a0.Limbs.1.Dir a0.Limbs.1.Level a0.Limbs.2.1.Dir a0.Limbs.2.1.Level a0.Limbs.2.2.1.Dir a0.Limbs.2.2.1.Level a0.Limbs.2.2.2.1.Dir a0.Limbs.2.2.2.1.Level a0.Limbs.2.2.2.2.Dir a0.Limbs.2.2.2.2.Level a0 a1 y3.1 (n+8) 0 (([(wr .i64 ((wr .i64 (29 * a0.X)) - (wr .i64 (841 * a1.Girth))), wr .i64 ((wr .i64 (29 * a0.Y)) - (wr .i64 (841 * a1.Girth)))), (wr .i64 ((wr .i64 (29 * a0.X)) + (wr .i64 (841 * a1.Girth))), wr .i64 ((wr .i64 (29 * a0.Y)) + (wr .i64 (841 * a1.Girth))))] : List (Int × Int)))) fun o60 => match o60 with | (Sum.inl ((y61, y62, y63, y64, y65, y66, y67))) => some y61 | (Sum.inr y76) => Option.bind (F9_9_1 n false y76 ((y76.length : Int)) a0 a1 y3.1 y76 (n+8) 0 false false false false) fun o165 => match o165 with | (Sum.inl ((y166, y167, y168, y169, y170, y171, y172))) => some y166 | (Sum.inr ((y178, y179, y180, y181))) => some (((y178 == true) && ((y179 == true) && ((y180 == true) && (y181 == true))))))))
theorem T9 (C : Nat → List A → Option A) (n : Nat) (h11 : Orc11 C) (h16 : Orc16 C) (h20 : Orc20 C) (h23 : Orc23 C) (h24 : Orc24 C) (h25 : Orc25 C) (a0 : S_State) (a1 : S_Body) : J (fun (o : R) y => ∃ v, o.1 = .ret v ∧ snapE o.2 v = (bA y)) (evCall1 (cx C) (evCall (cx C) (n+8)) (evCallY (cx C) (n+8)) (n+8) 9 [(A.agg (c_S_State a0)), (A.agg (c_S_Body a1))] [] 0) some (F9 n a0 a1) some := by
  refine .lp (e9 ..) ?_
  unfold F9
  refine .s ((A.ptr 0 0), [Blk.box (c_S_State a0)]) (.s ((A.ptr 1 0), [Blk.box (c_S_State a0), Blk.box (c_S_Body a1)]) ?_)
  refine .bd (g := fun (y : Bool) => (bA y)) (h11 ()) fun y1 => ?_
  refine .s (bA (!y1)) ?_
  refine .biHN (fun hk2 => ?_) (fun hk2 => ?_)
  · exact .lf rfl rfl ⟨_, rfl, rfl⟩
  refine .s (A.agg (c_S_State a0)) (.s (A.agg (c_S_Body a1)) ?_)
  refine .bd (g := fun (y : (S_Box × Int)) => (A.tup [(A.agg [(iA y.1.X.Lo), (iA y.1.X.Hi), (iA y.1.Y.Lo), (iA y.1.Y.Hi)]), (iA y.2)])) (h20 a0 a1) fun y3 => ?_
  refine .s (A.agg (c_S_Box y3.1)) (.s (iA y3.2) (.s ((A.ptr 2 0), [Blk.box (c_S_State a0), Blk.box (c_S_Body a1), Blk.box [(iA 0), (iA 0), (iA 0), (iA 0)]]) (.s [Blk.box (c_S_State a0), Blk.box (c_S_Body a1), Blk.box (c_S_Box y3.1)] ?_)))
  refine .st (v := (bA (y3.2 != 0))) (aBin_neq ..) ?_
  refine .biHN (fun hk4 => ?_) (fun hk4 => ?_)
  · refine .s (A.agg (c_S_State a0)) ?_
    refine .bd (g := fun (y : Int) => (iA y)) (h16 a0) fun y5 => ?_
    refine .st (v := (bA (y3.2 == y5))) (aBin_eql ..) ?_
    refine .bg (fun t (y : Bool) => ∃ j9 j10 j11 j12 : A, t = [(bA y), j9, j10, j11, j12]) ?_ ?_
    · refine .biH (fun hk6 => ?_) (fun hk6 => ?_)
      · exact .lg ⟨_, _, _, _, rfl⟩
      refine .s (A.agg (c_S_Body a1)) ?_
      refine .bd (g := fun (y : Int) => (iA y)) (h23 a1) fun y7 => ?_
      refine .st (v := (bA (y3.2 == y7))) (aBin_eql ..) ?_
      exact .lg ⟨_, _, _, _, rfl⟩
    rintro _ y8 ⟨j9, j10, j11, j12, rfl⟩
    iterate 5 refine .uc ?_
    exact .lf rfl rfl ⟨_, rfl, rfl⟩
  refine .s (A.agg (c_S_State a0)) ?_
  refine .bd (g := fun (y : Int) => (iA y)) (h16 a0) fun y13 => ?_
  refine .st (v := (bA (y13 != 0))) (aBin_neq ..) ?_
  refine .bg (fun t (y : Bool) => ∃ j17 j18 j19 : A, t = [(bA y), j17, j18, j19]) ?_ ?_
  · refine .biH (fun hk14 => ?_) (fun hk14 => ?_)
    · exact .lg ⟨_, _, _, rfl⟩
    refine .s (A.agg (c_S_Body a1)) ?_
    refine .bd (g := fun (y : Int) => (iA y)) (h23 a1) fun y15 => ?_
    refine .st (v := (bA (y15 != 0))) (aBin_neq ..) ?_
    exact .lg ⟨_, _, _, rfl⟩
  rintro _ y16 ⟨j17, j18, j19, rfl⟩
  iterate 4 refine .uc ?_
  refine .biHN (fun hk20 => ?_) (fun hk20 => ?_)
  · exact .lf rfl rfl ⟨_, rfl, rfl⟩
  refine .s (A.ptr 0 0) (.s (iA a0.X) ?_)
  refine .st (v := (iA (wr .i64 (29 * a0.X)))) (aBin_mul ..) ?_
  refine .s (A.ptr 0 1) (.s (iA a0.Y) ?_)
  refine .st (v := (iA (wr .i64 (29 * a0.Y)))) (aBin_mul ..) ?_
  refine .s (A.ptr 1 3) (.s (iA a1.Girth) ?_)
  refine .st (v := (iA (wr .i64 (841 * a1.Girth)))) (aBin_mul ..) ?_
  refine .st (v := (iA (wr .i64 ((wr .i64 (29 * a0.X)) - (wr .i64 (841 * a1.Girth)))))) (aBin_sub ..) ?_
  refine .st (v := (iA (wr .i64 ((wr .i64 (29 * a0.Y)) - (wr .i64 (841 * a1.Girth)))))) (aBin_sub ..) ?_
  refine .s (A.agg [(iA (wr .i64 ((wr .i64 (29 * a0.X)) - (wr .i64 (841 * a1.Girth))))), (iA (wr .i64 ((wr .i64 (29 * a0.Y)) - (wr .i64 (841 * a1.Girth)))))]) ?_
  refine .st (v := (iA (wr .i64 ((wr .i64 (29 * a0.X)) + (wr .i64 (841 * a1.Girth)))))) (aBin_add ..) ?_
  refine .st (v := (iA (wr .i64 ((wr .i64 (29 * a0.Y)) + (wr .i64 (841 * a1.Girth)))))) (aBin_add ..) ?_
  refine .s (A.agg [(iA (wr .i64 ((wr .i64 (29 * a0.X)) + (wr .i64 (841 * a1.Girth))))), (iA (wr .i64 ((wr .i64 (29 * a0.Y)) + (wr .i64 (841 * a1.Girth)))))]) (.s (A.imm [[(iA (wr .i64 ((wr .i64 (29 * a0.X)) - (wr .i64 (841 * a1.Girth))))), (iA (wr .i64 ((wr .i64 (29 * a0.Y)) - (wr .i64 (841 * a1.Girth)))))], [(iA (wr .i64 ((wr .i64 (29 * a0.X)) + (wr .i64 (841 * a1.Girth))))), (iA (wr .i64 ((wr .i64 (29 * a0.Y)) + (wr .i64 (841 * a1.Girth)))))]] true) (.s (A.ptr 0 3) (.s (A.agg [(iA a0.Limbs.1.Dir), (iA a0.Limbs.1.Level), (iA a0.Limbs.2.1.Dir), (iA a0.Limbs.2.1.Level), (iA a0.Limbs.2.2.1.Dir), (iA a0.Limbs.2.2.1.Level), (iA a0.Limbs.2.2.2.1.Dir), (iA a0.Limbs.2.2.2.1.Level), (iA a0.Limbs.2.2.2.2.Dir), (iA a0.Limbs.2.2.2.2.Level)]) ?_)))
  refine .as (T9_9_0 C n h11 h16 h20 h23 h24 h25 false (wr .i64 (29 * a0.X)) (wr .i64 (29 * a0.Y)) a0.Limbs.1.Dir a0.Limbs.1.Level a0.Limbs.2.1.Dir a0.Limbs.2.1.Level a0.Limbs.2.2.1.Dir a0.Limbs.2.2.1.Level a0.Limbs.2.2.2.1.Dir a0.Limbs.2.2.2.1.Level a0.Limbs.2.2.2.2.Dir a0.Limbs.2.2.2.2.Level a0 a1 y3.1 _ _ _ _ ?_ ?_ _ 0 (([(wr .i64 ((wr .i64 (29 * a0.X)) - (wr .i64 (841 * a1.Girth))), wr .i64 ((wr .i64 (29 * a0.Y)) - (wr .i64 (841 * a1.Girth)))), (wr .i64 ((wr .i64 (29 * a0.X)) + (wr .i64 (841 * a1.Girth))), wr .i64 ((wr .i64 (29 * a0.Y)) + (wr .i64 (841 * a1.Girth))))] : List (Int × Int))))
  · intro y61 y62 y63 y64 y65 y66 y67 j68 j69 j70 j71 j72 j73 j74 j75
    refine .un rfl ?_
    exact .lf rfl rfl ⟨_, rfl, rfl⟩
  · intro y76 j77 j78 j79 j80 j81 j82
    refine .un rfl ?_
    refine .cT (by kernel_rfl) ?_
    refine .s ((A.ptr 4 0), [Blk.box (c_S_State a0), Blk.box (c_S_Body a1), Blk.box (c_S_Box y3.1), Blk.row false 2 (List.map c_A2_int_i64 y76), Blk.box [(bA false), (bA false), (bA false), (bA false)]]) ?_
    refine .st (v := (iA ((y76.length : Int)))) (row_len (e := 58) (by kernel_rfl) rfl rfl) ?_
    refine .lp (congrArg (fun z => loopR (cx C) _ _ _ _ _ _ _ _ _ _ _ _ (St.mk [(4, (bA false)), (5, (A.ptr 2 0)), (17, (A.ptr 4 0)), (129, z), (130, (iA ((y76.length : Int)))), (131, (iA 0))] _)) (show frz [Blk.box (c_S_State a0), Blk.box (c_S_Body a1), Blk.box (c_S_Box y3.1), Blk.row false 2 (List.map c_A2_int_i64 y76), Blk.box [(bA false), (bA false), (bA false), (bA false)]] (A.sl 3 0 y76.length false) = (A.imm (List.map c_A2_int_i64 y76) false) from by simp only [frz, frzC, snap, snapW, snapWs, snapWss, snapWss_map, trim, List.map_cons, List.map_nil, fl_cI, fl_c8, fl_cB, fl_cS, fl_cL, fl_S_Limb, fl_A5_struct_S_Limb, fl_S_State, fl_A3_int_i64, fl_S_Body, fl_S_Role, fl_S_Ratio, fl_S_Sign, fl_S_Real, fl_A2_int_i64, fl_A4_arr_2_int_i64, fl_A2_arr_2_int_i64, fl_A4_int_i64, fl_S_pose_change, fl_S_Range, fl_S_Box, fl_S_body_contract, fl_S_Vec, fl_A5_int_i64, fl_A4_bool, snapG_row (H := [Blk.box (c_S_State a0), Blk.box (c_S_Body a1), Blk.box (c_S_Box y3.1), Blk.row false 2 (List.map c_A2_int_i64 y76), Blk.box [(bA false), (bA false), (bA false), (bA false)]]) (b := 3) (es := 2) (l := y76) fl_A2_int_i64 rfl])) ?_
    refine .as (T9_9_1 C n h11 h16 h20 h23 h24 h25 false y76 ((y76.length : Int)) a0 a1 y3.1 y76 _ _ _ _ ?_ ?_ _ 0 false false false false)
    · intro y166 y167 y168 y169 y170 y171 y172 j173 j174 j175 j176 j177
      refine .un rfl ?_
      exact .lf rfl rfl ⟨_, rfl, rfl⟩
    · intro y178 y179 y180 y181 j182 j183 j184 j185 j186
      refine .un rfl ?_
      refine .cT (by kernel_rfl) ?_
      refine .s (A.agg [(bA y178), (bA y179), (bA y180), (bA y181)]) (.s (A.agg [(bA true), (bA true), (bA true), (bA true)]) (.s (bA (((y178 == true) && ((y179 == true) && ((y180 == true) && (y181 == true)))))) ?_))
      exact .lf rfl rfl ⟨_, rfl, rfl⟩
def G9 (a0 : S_State) (a1 : S_Body) : Option Bool := F9 fuel0 a0 a1
end Go.Proofs.YtooamdacfhfjoaaDoor
