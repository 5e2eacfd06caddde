/-
  The program's functions as plain functions: by a tool; each follows the interpreter.
-/
import Derived.Test.YtooamdacfhfjoaaDoorT2
import Derived.KernelRfl
import Derived.Lib.Strings
import Derived.Lib.Bytealg
namespace Go.Proofs.YtooamdacfhfjoaaDoor
set_option linter.unusedVariables false
set_option linter.unusedSimpArgs false
set_option maxHeartbeats 4000000
set_option maxRecDepth 100000
def F23_23_1 (n : Nat) (v47 : Int) (v48 : Int) (v49 : Int) (v50 : Int) (v52 : S_Body) (v53 : Nat) (v54 : Int) (v55 : Int) (v56 : Int) : Nat → Int → Option ((Int × Nat) ⊕ (Nat))
  | 0, _ => none
  | m + 1, v51 => bif (decide (v51 < v50)) then (bif decide (v53 = 73) then (bif decide (v51 = 0) then (Option.bind (G44 v54 v55 ([v52.Top.1])) fun y60 => bif (!y60) then (some ((Sum.inl ((250, v53))))) else (F23_23_1 n v47 v48 v49 v50 v52 v53 v54 v55 v56 m (wr .i64 (v51 + 1)))) else bif decide (v51 = 1) then (Option.bind (G44 v54 v55 ([v52.Top.2.1])) fun y63 => bif (!y63) then (some ((Sum.inl ((250, v53))))) else (F23_23_1 n v47 v48 v49 v50 v52 v53 v54 v55 v56 m (wr .i64 (v51 + 1)))) else bif decide (v51 = 2) then (Option.bind (G44 v54 v55 ([v52.Top.2.2])) fun y66 => bif (!y66) then (some ((Sum.inl ((250, v53))))) else (F23_23_1 n v47 v48 v49 v50 v52 v53 v54 v55 v56 m (wr .i64 (v51 + 1)))) else none) else bif decide (v53 = 74) then (bif decide (v51 = 0) then (Option.bind (G44 v54 v55 ([v52.Speed.1])) fun y70 => bif (!y70) then (some ((Sum.inl ((250, v53))))) else (F23_23_1 n v47 v48 v49 v50 v52 v53 v54 v55 v56 m (wr .i64 (v51 + 1)))) else bif decide (v51 = 1) then (Option.bind (G44 v54 v55 ([v52.Speed.2.1])) fun y73 => bif (!y73) then (some ((Sum.inl ((250, v53))))) else (F23_23_1 n v47 v48 v49 v50 v52 v53 v54 v55 v56 m (wr .i64 (v51 + 1)))) else bif decide (v51 = 2) then (Option.bind (G44 v54 v55 ([v52.Speed.2.2])) fun y76 => bif (!y76) then (some ((Sum.inl ((250, v53))))) else (F23_23_1 n v47 v48 v49 v50 v52 v53 v54 v55 v56 m (wr .i64 (v51 + 1)))) else none) else bif decide (v53 = 75) then (Option.bind (G44 v54 v55 ([v52.Step])) fun y79 => bif (!y79) then (some ((Sum.inl ((250, v53))))) else (F23_23_1 n v47 v48 v49 v50 v52 v53 v54 v55 v56 m (wr .i64 (v51 + 1)))) else bif decide (v53 = 76) then (Option.bind (G44 v54 v55 ([v52.Jump])) fun y82 => bif (!y82) then (some ((Sum.inl ((250, v53))))) else (F23_23_1 n v47 v48 v49 v50 v52 v53 v54 v55 v56 m (wr .i64 (v51 + 1)))) else bif decide (v53 = 77) then (Option.bind (G44 v54 v55 ([v52.Lift])) fun y85 => bif (!y85) then (some ((Sum.inl ((250, v53))))) else (F23_23_1 n v47 v48 v49 v50 v52 v53 v54 v55 v56 m (wr .i64 (v51 + 1)))) else bif decide (v53 = 78) then (Option.bind (G44 v54 v55 ([v52.Effort])) fun y88 => bif (!y88) then (some ((Sum.inl ((250, v53))))) else (F23_23_1 n v47 v48 v49 v50 v52 v53 v54 v55 v56 m (wr .i64 (v51 + 1)))) else none) else (some ((Sum.inr v53)))
theorem T23_23_1 (C : Nat → List A → Option A) (n : Nat) (h43 : Orc43 C) (h44 : Orc44 C) (h45 : Orc45 C) (v47 : Int) (v48 : Int) (v49 : Int) (v50 : Int) (v52 : S_Body) (v53 : Nat) (v54 : Int) (v55 : Int) (v56 : Int) {ρ γ : Type} {φ : ρ → γ → Prop} {kL : R → Option ρ} {K : ((Int × Nat) ⊕ (Nat)) → Option γ} (kx kg : Nat → St → Option R) (kr : St → Option R) (kp : A → St → Option R) (x0 : ∀ (o0 : Int) (o1 : Nat) (s6 : A) (s50 : A) (s51 : A), J φ (kr (St.mk [(2, (iA o0)), (3, (A.ptr 1 0)), (6, s6), (42, (A.imm [[(A.fn (Fn.func 73) [] []), (iA 1), (iA 3), (iA 2)], [(A.fn (Fn.func 74) [] []), (iA 1), (iA 1048576), (iA 2)], [(A.fn (Fn.func 75) [] []), (iA 1), (iA 16), (iA 0)], [(A.fn (Fn.func 76) [] []), (iA 0), (iA 16), (iA 0)], [(A.fn (Fn.func 77) [] []), (iA 0), (iA 500), (iA 0)], [(A.fn (Fn.func 78) [] []), (iA 0), (iA 1048576), (iA 0)]] true)), (43, (iA v48)), (44, (iA v49)), (50, s50), (51, s51)] [Blk.dead, Blk.box (c_S_Body v52), Blk.dead, Blk.box [(selF o1), (iA v54), (iA v55), (iA v56)]])) kL (K (Sum.inl ((o0, o1)))) some) (x1 : ∀ (o0 : Nat) (s6 : A) (s50 : A) (s51 : A), J φ (kx 2 (St.mk [(2, (iA v47)), (3, (A.ptr 1 0)), (6, s6), (42, (A.imm [[(A.fn (Fn.func 73) [] []), (iA 1), (iA 3), (iA 2)], [(A.fn (Fn.func 74) [] []), (iA 1), (iA 1048576), (iA 2)], [(A.fn (Fn.func 75) [] []), (iA 1), (iA 16), (iA 0)], [(A.fn (Fn.func 76) [] []), (iA 0), (iA 16), (iA 0)], [(A.fn (Fn.func 77) [] []), (iA 0), (iA 500), (iA 0)], [(A.fn (Fn.func 78) [] []), (iA 0), (iA 1048576), (iA 0)]] true)), (43, (iA v48)), (44, (iA v49)), (50, s50), (51, s51)] [Blk.dead, Blk.box (c_S_Body v52), Blk.dead, Blk.box [(selF o0), (iA v54), (iA v55), (iA v56)]])) kL (K (Sum.inr o0)) some) :
    ∀ (m : Nat) (v51 : Int), J φ (loopR (cx C) (evCall (cx C) (n+8)) (evCallY (cx C) (n+8)) (n+8) 23 0 1 4 kx kg kr kp m (St.mk [(2, (iA v47)), (3, (A.ptr 1 0)), (6, (A.ptr 3 0)), (42, (A.imm [[(A.fn (Fn.func 73) [] []), (iA 1), (iA 3), (iA 2)], [(A.fn (Fn.func 74) [] []), (iA 1), (iA 1048576), (iA 2)], [(A.fn (Fn.func 75) [] []), (iA 1), (iA 16), (iA 0)], [(A.fn (Fn.func 76) [] []), (iA 0), (iA 16), (iA 0)], [(A.fn (Fn.func 77) [] []), (iA 0), (iA 500), (iA 0)], [(A.fn (Fn.func 78) [] []), (iA 0), (iA 1048576), (iA 0)]] true)), (43, (iA v48)), (44, (iA v49)), (50, (iA v50)), (51, (iA v51))] [Blk.dead, Blk.box (c_S_Body v52), Blk.dead, Blk.box [(selF v53), (iA v54), (iA v55), (iA v56)]])) kL (F23_23_1 n v47 v48 v49 v50 v52 v53 v54 v55 v56 m v51) K := by
  intro m
  induction m with
  | zero => intros; exact .nn
  | succ m ih =>
    intro v51
    refine .lp (e23_1 ..) ?_
    unfold F23_23_1
    refine .st (v := (bA (decide (v51 < v50)))) (aBin_lss ..) ?_
    refine .biHN (fun hk57 => ?_) (fun hk57 => ?_)
    · refine .s (A.ptr 3 1) (.s (iA v54) (.s (A.ptr 3 2) (.s (iA v55) (.s (A.ptr 3 0) (.s (selF v53) ?_)))))
      refine .sp (fun hb58 => ?_) (fun _ => ?_)
      · refine .dsV 73 hb58 (by kernel_rfl) ?_
        refine .vC (by kernel_rfl) (by kernel_rfl) ?_
        refine .bb ?_
        refine .cl ((evCall_in lt_73).trans (e73 C (evCall (cx C) (n+7)) (evCallY (cx C) (n+7)) (n+7) _ _ _ _)) ?_
        refine .s (A.ptr 1 0) (.s (A.ptr 1 0) (.s (A.ptr 1 12) ?_))
        refine .sp (fun hb59 => ?_) (fun _ => ?_)
        · refine .st (v := (A.ptr 1 12)) (by rw [of_decide_eq_true hb59]; kernel_rfl) ?_
          refine .cr ?_
          refine .lp (by kernel_rfl : _ = some (A.ptr 1 12)) ?_
          refine .cr ?_
          refine .s (A.ptr 1 12) (.s (iA v52.Top.1) (.s (A.imm [[(iA v52.Top.1)]] true) ?_))
          refine .bd (g := fun (y : Bool) => (bA y)) (by show C 44 [snap [Blk.dead, Blk.box (c_S_Body v52), Blk.dead, Blk.box [(selF v53), (iA v54), (iA v55), (iA v56)]] (iA v54), snap [Blk.dead, Blk.box (c_S_Body v52), Blk.dead, Blk.box [(selF v53), (iA v54), (iA v55), (iA v56)]] (iA v55), snap [Blk.dead, Blk.box (c_S_Body v52), Blk.dead, Blk.box [(selF v53), (iA v54), (iA v55), (iA v56)]] (A.imm [[(iA v52.Top.1)]] true)] = _; simp only [snap, snapW, snapWs, snapWss, snapWss_map, trim, List.map_cons, List.map_nil, fl_cI, fl_c8, fl_cB, fl_cS, fl_cL, fl_S_Limb, fl_A5_struct_S_Limb, fl_S_State, fl_A3_int_i64, fl_S_Body, fl_S_Role, fl_S_Ratio, fl_S_Sign, fl_S_Real, fl_A2_int_i64, fl_A4_arr_2_int_i64, fl_A2_arr_2_int_i64, fl_A4_int_i64, fl_S_pose_change, fl_S_Range, fl_S_Box, fl_S_body_contract, fl_S_Vec, fl_A5_int_i64, fl_A4_bool]; exact h44 v54 v55 ([v52.Top.1])) fun y60 => ?_
          refine .s (bA (!y60)) ?_
          refine .biHN (fun hk61 => ?_) (fun hk61 => ?_)
          · exact .ex (x0 _ _ _ _ _)
          refine .st (v := (iA (wr .i64 (v51 + 1)))) (aBin_add ..) ?_
          refine .s [Blk.dead, Blk.box (c_S_Body v52), Blk.dead, Blk.box [(selF v53), (iA v54), (iA v55), (iA v56)]] ?_
          refine .cT (by kernel_rfl) ?_
          exact ih _
        refine .sp (fun hb62 => ?_) (fun _ => ?_)
        · refine .st (v := (A.ptr 1 13)) (by rw [of_decide_eq_true hb62]; kernel_rfl) ?_
          refine .cr ?_
          refine .lp (by kernel_rfl : _ = some (A.ptr 1 13)) ?_
          refine .cr ?_
          refine .s (A.ptr 1 13) (.s (iA v52.Top.2.1) (.s (A.imm [[(iA v52.Top.2.1)]] true) ?_))
          refine .bd (g := fun (y : Bool) => (bA y)) (by show C 44 [snap [Blk.dead, Blk.box (c_S_Body v52), Blk.dead, Blk.box [(selF v53), (iA v54), (iA v55), (iA v56)]] (iA v54), snap [Blk.dead, Blk.box (c_S_Body v52), Blk.dead, Blk.box [(selF v53), (iA v54), (iA v55), (iA v56)]] (iA v55), snap [Blk.dead, Blk.box (c_S_Body v52), Blk.dead, Blk.box [(selF v53), (iA v54), (iA v55), (iA v56)]] (A.imm [[(iA v52.Top.2.1)]] true)] = _; simp only [snap, snapW, snapWs, snapWss, snapWss_map, trim, List.map_cons, List.map_nil, fl_cI, fl_c8, fl_cB, fl_cS, fl_cL, fl_S_Limb, fl_A5_struct_S_Limb, fl_S_State, fl_A3_int_i64, fl_S_Body, fl_S_Role, fl_S_Ratio, fl_S_Sign, fl_S_Real, fl_A2_int_i64, fl_A4_arr_2_int_i64, fl_A2_arr_2_int_i64, fl_A4_int_i64, fl_S_pose_change, fl_S_Range, fl_S_Box, fl_S_body_contract, fl_S_Vec, fl_A5_int_i64, fl_A4_bool]; exact h44 v54 v55 ([v52.Top.2.1])) fun y63 => ?_
          refine .s (bA (!y63)) ?_
          refine .biHN (fun hk64 => ?_) (fun hk64 => ?_)
          · exact .ex (x0 _ _ _ _ _)
          refine .st (v := (iA (wr .i64 (v51 + 1)))) (aBin_add ..) ?_
          refine .s [Blk.dead, Blk.box (c_S_Body v52), Blk.dead, Blk.box [(selF v53), (iA v54), (iA v55), (iA v56)]] ?_
          refine .cT (by kernel_rfl) ?_
          exact ih _
        refine .sp (fun hb65 => ?_) (fun _ => ?_)
        · refine .st (v := (A.ptr 1 14)) (by rw [of_decide_eq_true hb65]; kernel_rfl) ?_
          refine .cr ?_
          refine .lp (by kernel_rfl : _ = some (A.ptr 1 14)) ?_
          refine .cr ?_
          refine .s (A.ptr 1 14) (.s (iA v52.Top.2.2) (.s (A.imm [[(iA v52.Top.2.2)]] true) ?_))
          refine .bd (g := fun (y : Bool) => (bA y)) (by show C 44 [snap [Blk.dead, Blk.box (c_S_Body v52), Blk.dead, Blk.box [(selF v53), (iA v54), (iA v55), (iA v56)]] (iA v54), snap [Blk.dead, Blk.box (c_S_Body v52), Blk.dead, Blk.box [(selF v53), (iA v54), (iA v55), (iA v56)]] (iA v55), snap [Blk.dead, Blk.box (c_S_Body v52), Blk.dead, Blk.box [(selF v53), (iA v54), (iA v55), (iA v56)]] (A.imm [[(iA v52.Top.2.2)]] true)] = _; simp only [snap, snapW, snapWs, snapWss, snapWss_map, trim, List.map_cons, List.map_nil, fl_cI, fl_c8, fl_cB, fl_cS, fl_cL, fl_S_Limb, fl_A5_struct_S_Limb, fl_S_State, fl_A3_int_i64, fl_S_Body, fl_S_Role, fl_S_Ratio, fl_S_Sign, fl_S_Real, fl_A2_int_i64, fl_A4_arr_2_int_i64, fl_A2_arr_2_int_i64, fl_A4_int_i64, fl_S_pose_change, fl_S_Range, fl_S_Box, fl_S_body_contract, fl_S_Vec, fl_A5_int_i64, fl_A4_bool]; exact h44 v54 v55 ([v52.Top.2.2])) fun y66 => ?_
          refine .s (bA (!y66)) ?_
          refine .biHN (fun hk67 => ?_) (fun hk67 => ?_)
          · exact .ex (x0 _ _ _ _ _)
          refine .st (v := (iA (wr .i64 (v51 + 1)))) (aBin_add ..) ?_
          refine .s [Blk.dead, Blk.box (c_S_Body v52), Blk.dead, Blk.box [(selF v53), (iA v54), (iA v55), (iA v56)]] ?_
          refine .cT (by kernel_rfl) ?_
          exact ih _
        exact .nn
      refine .sp (fun hb68 => ?_) (fun _ => ?_)
      · refine .dsV 74 hb68 (by kernel_rfl) ?_
        refine .vC (by kernel_rfl) (by kernel_rfl) ?_
        refine .bb ?_
        refine .cl ((evCall_in lt_74).trans (e74 C (evCall (cx C) (n+7)) (evCallY (cx C) (n+7)) (n+7) _ _ _ _)) ?_
        refine .s (A.ptr 1 0) (.s (A.ptr 1 0) (.s (A.ptr 1 9) ?_))
        refine .sp (fun hb69 => ?_) (fun _ => ?_)
        · refine .st (v := (A.ptr 1 9)) (by rw [of_decide_eq_true hb69]; kernel_rfl) ?_
          refine .cr ?_
          refine .lp (by kernel_rfl : _ = some (A.ptr 1 9)) ?_
          refine .cr ?_
          refine .s (A.ptr 1 9) (.s (iA v52.Speed.1) (.s (A.imm [[(iA v52.Speed.1)]] true) ?_))
          refine .bd (g := fun (y : Bool) => (bA y)) (by show C 44 [snap [Blk.dead, Blk.box (c_S_Body v52), Blk.dead, Blk.box [(selF v53), (iA v54), (iA v55), (iA v56)]] (iA v54), snap [Blk.dead, Blk.box (c_S_Body v52), Blk.dead, Blk.box [(selF v53), (iA v54), (iA v55), (iA v56)]] (iA v55), snap [Blk.dead, Blk.box (c_S_Body v52), Blk.dead, Blk.box [(selF v53), (iA v54), (iA v55), (iA v56)]] (A.imm [[(iA v52.Speed.1)]] true)] = _; simp only [snap, snapW, snapWs, snapWss, snapWss_map, trim, List.map_cons, List.map_nil, fl_cI, fl_c8, fl_cB, fl_cS, fl_cL, fl_S_Limb, fl_A5_struct_S_Limb, fl_S_State, fl_A3_int_i64, fl_S_Body, fl_S_Role, fl_S_Ratio, fl_S_Sign, fl_S_Real, fl_A2_int_i64, fl_A4_arr_2_int_i64, fl_A2_arr_2_int_i64, fl_A4_int_i64, fl_S_pose_change, fl_S_Range, fl_S_Box, fl_S_body_contract, fl_S_Vec, fl_A5_int_i64, fl_A4_bool]; exact h44 v54 v55 ([v52.Speed.1])) fun y70 => ?_
          refine .s (bA (!y70)) ?_
          refine .biHN (fun hk71 => ?_) (fun hk71 => ?_)
          · exact .ex (x0 _ _ _ _ _)
          refine .st (v := (iA (wr .i64 (v51 + 1)))) (aBin_add ..) ?_
          refine .s [Blk.dead, Blk.box (c_S_Body v52), Blk.dead, Blk.box [(selF v53), (iA v54), (iA v55), (iA v56)]] ?_
          refine .cT (by kernel_rfl) ?_
          exact ih _
        refine .sp (fun hb72 => ?_) (fun _ => ?_)
        · refine .st (v := (A.ptr 1 10)) (by rw [of_decide_eq_true hb72]; kernel_rfl) ?_
          refine .cr ?_
          refine .lp (by kernel_rfl : _ = some (A.ptr 1 10)) ?_
          refine .cr ?_
          refine .s (A.ptr 1 10) (.s (iA v52.Speed.2.1) (.s (A.imm [[(iA v52.Speed.2.1)]] true) ?_))
          refine .bd (g := fun (y : Bool) => (bA y)) (by show C 44 [snap [Blk.dead, Blk.box (c_S_Body v52), Blk.dead, Blk.box [(selF v53), (iA v54), (iA v55), (iA v56)]] (iA v54), snap [Blk.dead, Blk.box (c_S_Body v52), Blk.dead, Blk.box [(selF v53), (iA v54), (iA v55), (iA v56)]] (iA v55), snap [Blk.dead, Blk.box (c_S_Body v52), Blk.dead, Blk.box [(selF v53), (iA v54), (iA v55), (iA v56)]] (A.imm [[(iA v52.Speed.2.1)]] true)] = _; simp only [snap, snapW, snapWs, snapWss, snapWss_map, trim, List.map_cons, List.map_nil, fl_cI, fl_c8, fl_cB, fl_cS, fl_cL, fl_S_Limb, fl_A5_struct_S_Limb, fl_S_State, fl_A3_int_i64, fl_S_Body, fl_S_Role, fl_S_Ratio, fl_S_Sign, fl_S_Real, fl_A2_int_i64, fl_A4_arr_2_int_i64, fl_A2_arr_2_int_i64, fl_A4_int_i64, fl_S_pose_change, fl_S_Range, fl_S_Box, fl_S_body_contract, fl_S_Vec, fl_A5_int_i64, fl_A4_bool]; exact h44 v54 v55 ([v52.Speed.2.1])) fun y73 => ?_
          refine .s (bA (!y73)) ?_
          refine .biHN (fun hk74 => ?_) (fun hk74 => ?_)
          · exact .ex (x0 _ _ _ _ _)
          refine .st (v := (iA (wr .i64 (v51 + 1)))) (aBin_add ..) ?_
          refine .s [Blk.dead, Blk.box (c_S_Body v52), Blk.dead, Blk.box [(selF v53), (iA v54), (iA v55), (iA v56)]] ?_
          refine .cT (by kernel_rfl) ?_
          exact ih _
        refine .sp (fun hb75 => ?_) (fun _ => ?_)
        · refine .st (v := (A.ptr 1 11)) (by rw [of_decide_eq_true hb75]; kernel_rfl) ?_
          refine .cr ?_
          refine .lp (by kernel_rfl : _ = some (A.ptr 1 11)) ?_
          refine .cr ?_
          refine .s (A.ptr 1 11) (.s (iA v52.Speed.2.2) (.s (A.imm [[(iA v52.Speed.2.2)]] true) ?_))
          refine .bd (g := fun (y : Bool) => (bA y)) (by show C 44 [snap [Blk.dead, Blk.box (c_S_Body v52), Blk.dead, Blk.box [(selF v53), (iA v54), (iA v55), (iA v56)]] (iA v54), snap [Blk.dead, Blk.box (c_S_Body v52), Blk.dead, Blk.box [(selF v53), (iA v54), (iA v55), (iA v56)]] (iA v55), snap [Blk.dead, Blk.box (c_S_Body v52), Blk.dead, Blk.box [(selF v53), (iA v54), (iA v55), (iA v56)]] (A.imm [[(iA v52.Speed.2.2)]] true)] = _; simp only [snap, snapW, snapWs, snapWss, snapWss_map, trim, List.map_cons, List.map_nil, fl_cI, fl_c8, fl_cB, fl_cS, fl_cL, fl_S_Limb, fl_A5_struct_S_Limb, fl_S_State, fl_A3_int_i64, fl_S_Body, fl_S_Role, fl_S_Ratio, fl_S_Sign, fl_S_Real, fl_A2_int_i64, fl_A4_arr_2_int_i64, fl_A2_arr_2_int_i64, fl_A4_int_i64, fl_S_pose_change, fl_S_Range, fl_S_Box, fl_S_body_contract, fl_S_Vec, fl_A5_int_i64, fl_A4_bool]; exact h44 v54 v55 ([v52.Speed.2.2])) fun y76 => ?_
          refine .s (bA (!y76)) ?_
          refine .biHN (fun hk77 => ?_) (fun hk77 => ?_)
          · exact .ex (x0 _ _ _ _ _)
          refine .st (v := (iA (wr .i64 (v51 + 1)))) (aBin_add ..) ?_
          refine .s [Blk.dead, Blk.box (c_S_Body v52), Blk.dead, Blk.box [(selF v53), (iA v54), (iA v55), (iA v56)]] ?_
          refine .cT (by kernel_rfl) ?_
          exact ih _
        exact .nn
      refine .sp (fun hb78 => ?_) (fun _ => ?_)
      · refine .dsV 75 hb78 (by kernel_rfl) ?_
        refine .vC (by kernel_rfl) (by kernel_rfl) ?_
        refine .bb ?_
        refine .cl ((evCall_in lt_75).trans (e75 C (evCall (cx C) (n+7)) (evCallY (cx C) (n+7)) (n+7) _ _ _ _)) ?_
        refine .s (A.ptr 1 0) (.s (A.ptr 1 0) (.s (A.ptr 1 4) ?_))
        refine .cr ?_
        refine .lp (by kernel_rfl : _ = some (A.ptr 1 4)) ?_
        refine .cr ?_
        refine .s (A.ptr 1 4) (.s (iA v52.Step) (.s (A.imm [[(iA v52.Step)]] true) ?_))
        refine .bd (g := fun (y : Bool) => (bA y)) (by show C 44 [snap [Blk.dead, Blk.box (c_S_Body v52), Blk.dead, Blk.box [(selF v53), (iA v54), (iA v55), (iA v56)]] (iA v54), snap [Blk.dead, Blk.box (c_S_Body v52), Blk.dead, Blk.box [(selF v53), (iA v54), (iA v55), (iA v56)]] (iA v55), snap [Blk.dead, Blk.box (c_S_Body v52), Blk.dead, Blk.box [(selF v53), (iA v54), (iA v55), (iA v56)]] (A.imm [[(iA v52.Step)]] true)] = _; simp only [snap, snapW, snapWs, snapWss, snapWss_map, trim, List.map_cons, List.map_nil, fl_cI, fl_c8, fl_cB, fl_cS, fl_cL, fl_S_Limb, fl_A5_struct_S_Limb, fl_S_State, fl_A3_int_i64, fl_S_Body, fl_S_Role, fl_S_Ratio, fl_S_Sign, fl_S_Real, fl_A2_int_i64, fl_A4_arr_2_int_i64, fl_A2_arr_2_int_i64, fl_A4_int_i64, fl_S_pose_change, fl_S_Range, fl_S_Box, fl_S_body_contract, fl_S_Vec, fl_A5_int_i64, fl_A4_bool]; exact h44 v54 v55 ([v52.Step])) fun y79 => ?_
        refine .s (bA (!y79)) ?_
        refine .biHN (fun hk80 => ?_) (fun hk80 => ?_)
        · exact .ex (x0 _ _ _ _ _)
        refine .st (v := (iA (wr .i64 (v51 + 1)))) (aBin_add ..) ?_
        refine .s [Blk.dead, Blk.box (c_S_Body v52), Blk.dead, Blk.box [(selF v53), (iA v54), (iA v55), (iA v56)]] ?_
        refine .cT (by kernel_rfl) ?_
        exact ih _
      refine .sp (fun hb81 => ?_) (fun _ => ?_)
      · refine .dsV 76 hb81 (by kernel_rfl) ?_
        refine .vC (by kernel_rfl) (by kernel_rfl) ?_
        refine .bb ?_
        refine .cl ((evCall_in lt_76).trans (e76 C (evCall (cx C) (n+7)) (evCallY (cx C) (n+7)) (n+7) _ _ _ _)) ?_
        refine .s (A.ptr 1 0) (.s (A.ptr 1 0) (.s (A.ptr 1 5) ?_))
        refine .cr ?_
        refine .lp (by kernel_rfl : _ = some (A.ptr 1 5)) ?_
        refine .cr ?_
        refine .s (A.ptr 1 5) (.s (iA v52.Jump) (.s (A.imm [[(iA v52.Jump)]] true) ?_))
        refine .bd (g := fun (y : Bool) => (bA y)) (by show C 44 [snap [Blk.dead, Blk.box (c_S_Body v52), Blk.dead, Blk.box [(selF v53), (iA v54), (iA v55), (iA v56)]] (iA v54), snap [Blk.dead, Blk.box (c_S_Body v52), Blk.dead, Blk.box [(selF v53), (iA v54), (iA v55), (iA v56)]] (iA v55), snap [Blk.dead, Blk.box (c_S_Body v52), Blk.dead, Blk.box [(selF v53), (iA v54), (iA v55), (iA v56)]] (A.imm [[(iA v52.Jump)]] true)] = _; simp only [snap, snapW, snapWs, snapWss, snapWss_map, trim, List.map_cons, List.map_nil, fl_cI, fl_c8, fl_cB, fl_cS, fl_cL, fl_S_Limb, fl_A5_struct_S_Limb, fl_S_State, fl_A3_int_i64, fl_S_Body, fl_S_Role, fl_S_Ratio, fl_S_Sign, fl_S_Real, fl_A2_int_i64, fl_A4_arr_2_int_i64, fl_A2_arr_2_int_i64, fl_A4_int_i64, fl_S_pose_change, fl_S_Range, fl_S_Box, fl_S_body_contract, fl_S_Vec, fl_A5_int_i64, fl_A4_bool]; exact h44 v54 v55 ([v52.Jump])) fun y82 => ?_
        refine .s (bA (!y82)) ?_
        refine .biHN (fun hk83 => ?_) (fun hk83 => ?_)
        · exact .ex (x0 _ _ _ _ _)
        refine .st (v := (iA (wr .i64 (v51 + 1)))) (aBin_add ..) ?_
        refine .s [Blk.dead, Blk.box (c_S_Body v52), Blk.dead, Blk.box [(selF v53), (iA v54), (iA v55), (iA v56)]] ?_
        refine .cT (by kernel_rfl) ?_
        exact ih _
      refine .sp (fun hb84 => ?_) (fun _ => ?_)
      · refine .dsV 77 hb84 (by kernel_rfl) ?_
        refine .vC (by kernel_rfl) (by kernel_rfl) ?_
        refine .bb ?_
        refine .cl ((evCall_in lt_77).trans (e77 C (evCall (cx C) (n+7)) (evCallY (cx C) (n+7)) (n+7) _ _ _ _)) ?_
        refine .s (A.ptr 1 0) (.s (A.ptr 1 0) (.s (A.ptr 1 2) ?_))
        refine .cr ?_
        refine .lp (by kernel_rfl : _ = some (A.ptr 1 2)) ?_
        refine .cr ?_
        refine .s (A.ptr 1 2) (.s (iA v52.Lift) (.s (A.imm [[(iA v52.Lift)]] true) ?_))
        refine .bd (g := fun (y : Bool) => (bA y)) (by show C 44 [snap [Blk.dead, Blk.box (c_S_Body v52), Blk.dead, Blk.box [(selF v53), (iA v54), (iA v55), (iA v56)]] (iA v54), snap [Blk.dead, Blk.box (c_S_Body v52), Blk.dead, Blk.box [(selF v53), (iA v54), (iA v55), (iA v56)]] (iA v55), snap [Blk.dead, Blk.box (c_S_Body v52), Blk.dead, Blk.box [(selF v53), (iA v54), (iA v55), (iA v56)]] (A.imm [[(iA v52.Lift)]] true)] = _; simp only [snap, snapW, snapWs, snapWss, snapWss_map, trim, List.map_cons, List.map_nil, fl_cI, fl_c8, fl_cB, fl_cS, fl_cL, fl_S_Limb, fl_A5_struct_S_Limb, fl_S_State, fl_A3_int_i64, fl_S_Body, fl_S_Role, fl_S_Ratio, fl_S_Sign, fl_S_Real, fl_A2_int_i64, fl_A4_arr_2_int_i64, fl_A2_arr_2_int_i64, fl_A4_int_i64, fl_S_pose_change, fl_S_Range, fl_S_Box, fl_S_body_contract, fl_S_Vec, fl_A5_int_i64, fl_A4_bool]; exact h44 v54 v55 ([v52.Lift])) fun y85 => ?_
        refine .s (bA (!y85)) ?_
        refine .biHN (fun hk86 => ?_) (fun hk86 => ?_)
        · exact .ex (x0 _ _ _ _ _)
        refine .st (v := (iA (wr .i64 (v51 + 1)))) (aBin_add ..) ?_
        refine .s [Blk.dead, Blk.box (c_S_Body v52), Blk.dead, Blk.box [(selF v53), (iA v54), (iA v55), (iA v56)]] ?_
        refine .cT (by kernel_rfl) ?_
        exact ih _
      refine .sp (fun hb87 => ?_) (fun _ => ?_)
      · refine .dsV 78 hb87 (by kernel_rfl) ?_
        refine .vC (by kernel_rfl) (by kernel_rfl) ?_
        refine .bb ?_
        refine .cl ((evCall_in lt_78).trans (e78 C (evCall (cx C) (n+7)) (evCallY (cx C) (n+7)) (n+7) _ _ _ _)) ?_
        refine .s (A.ptr 1 0) (.s (A.ptr 1 0) (.s (A.ptr 1 15) ?_))
        refine .cr ?_
        refine .lp (by kernel_rfl : _ = some (A.ptr 1 15)) ?_
        refine .cr ?_
        refine .s (A.ptr 1 15) (.s (iA v52.Effort) (.s (A.imm [[(iA v52.Effort)]] true) ?_))
        refine .bd (g := fun (y : Bool) => (bA y)) (by show C 44 [snap [Blk.dead, Blk.box (c_S_Body v52), Blk.dead, Blk.box [(selF v53), (iA v54), (iA v55), (iA v56)]] (iA v54), snap [Blk.dead, Blk.box (c_S_Body v52), Blk.dead, Blk.box [(selF v53), (iA v54), (iA v55), (iA v56)]] (iA v55), snap [Blk.dead, Blk.box (c_S_Body v52), Blk.dead, Blk.box [(selF v53), (iA v54), (iA v55), (iA v56)]] (A.imm [[(iA v52.Effort)]] true)] = _; simp only [snap, snapW, snapWs, snapWss, snapWss_map, trim, List.map_cons, List.map_nil, fl_cI, fl_c8, fl_cB, fl_cS, fl_cL, fl_S_Limb, fl_A5_struct_S_Limb, fl_S_State, fl_A3_int_i64, fl_S_Body, fl_S_Role, fl_S_Ratio, fl_S_Sign, fl_S_Real, fl_A2_int_i64, fl_A4_arr_2_int_i64, fl_A2_arr_2_int_i64, fl_A4_int_i64, fl_S_pose_change, fl_S_Range, fl_S_Box, fl_S_body_contract, fl_S_Vec, fl_A5_int_i64, fl_A4_bool]; exact h44 v54 v55 ([v52.Effort])) fun y88 => ?_
        refine .s (bA (!y88)) ?_
        refine .biHN (fun hk89 => ?_) (fun hk89 => ?_)
        · exact .ex (x0 _ _ _ _ _)
        refine .st (v := (iA (wr .i64 (v51 + 1)))) (aBin_add ..) ?_
        refine .s [Blk.dead, Blk.box (c_S_Body v52), Blk.dead, Blk.box [(selF v53), (iA v54), (iA v55), (iA v56)]] ?_
        refine .cT (by kernel_rfl) ?_
        exact ih _
      exact .nn
    exact .ex (x1 _ _ _ _)
def F23_23_0 (n : Nat) (v35 : Int) (v36 : Int) (v38 : S_Body) : Nat → Int → Option ((Int × Nat × Int × Int × Int) ⊕ (Unit))
  | 0, _ => none
  | m + 1, v37 => bif (decide (v37 < v36)) then (Option.bind (bif decide (v37 = 0) then (some ((73, 1, 3, 2))) else bif decide (v37 = 1) then (some ((74, 1, 1048576, 2))) else bif decide (v37 = 2) then (some ((75, 1, 16, 0))) else bif decide (v37 = 3) then (some ((76, 0, 16, 0))) else bif decide (v37 = 4) then (some ((77, 0, 500, 0))) else bif decide (v37 = 5) then (some ((78, 0, 1048576, 0))) else none) fun y40 => Option.bind (F23_23_1 n v35 v36 v37 (wr .i64 (y40.2.2.2 + 1)) v38 y40.1 y40.2.1 y40.2.2.1 y40.2.2.2 (n+8) 0) fun o90 => match o90 with | (Sum.inl ((y91, y92))) => some ((Sum.inl ((y91, y92, y40.2.1, y40.2.2.1, y40.2.2.2)))) | (Sum.inr y96) => F23_23_0 n v35 v36 v38 m (wr .i64 (v37 + 1))) else (some ((Sum.inr (()))))
theorem T23_23_0 (C : Nat → List A → Option A) (n : Nat) (h43 : Orc43 C) (h44 : Orc44 C) (h45 : Orc45 C) (v35 : Int) (v36 : Int) (v38 : S_Body) {ρ γ : Type} {φ : ρ → γ → Prop} {kL : R → Option ρ} {K : ((Int × Nat × Int × Int × Int) ⊕ (Unit)) → Option γ} (kx kg : Nat → St → Option R) (kr : St → Option R) (kp : A → St → Option R) (x0 : ∀ (o0 : Int) (o1 : Nat) (o2 : Int) (o3 : Int) (o4 : Int) (s3 : A) (s42 : A) (s43 : A) (s44 : A), J φ (kr (St.mk [(2, (iA o0)), (3, s3), (42, s42), (43, s43), (44, s44)] [Blk.dead, Blk.box (c_S_Body v38), Blk.dead, Blk.box [(selF o1), (iA o2), (iA o3), (iA o4)]])) kL (K (Sum.inl ((o0, o1, o2, o3, o4)))) some) (x1 : ∀ (s2 : A) (s3 : A) (s42 : A) (s43 : A) (s44 : A), J φ (kx 0 (St.mk [(2, s2), (3, s3), (42, s42), (43, s43), (44, s44)] [Blk.dead, Blk.box (c_S_Body v38), Blk.dead])) kL (K (Sum.inr (()))) some) :
    ∀ (m : Nat) (v37 : Int), J φ (loopR (cx C) (evCall (cx C) (n+8)) (evCallY (cx C) (n+8)) (n+8) 23 0 0 3 kx kg kr kp m (St.mk [(2, (iA v35)), (3, (A.ptr 1 0)), (42, (A.imm [[(A.fn (Fn.func 73) [] []), (iA 1), (iA 3), (iA 2)], [(A.fn (Fn.func 74) [] []), (iA 1), (iA 1048576), (iA 2)], [(A.fn (Fn.func 75) [] []), (iA 1), (iA 16), (iA 0)], [(A.fn (Fn.func 76) [] []), (iA 0), (iA 16), (iA 0)], [(A.fn (Fn.func 77) [] []), (iA 0), (iA 500), (iA 0)], [(A.fn (Fn.func 78) [] []), (iA 0), (iA 1048576), (iA 0)]] true)), (43, (iA v36)), (44, (iA v37))] [Blk.dead, Blk.box (c_S_Body v38), Blk.dead])) kL (F23_23_0 n v35 v36 v38 m v37) K := by
  intro m
  induction m with
  | zero => intros; exact .nn
  | succ m ih =>
    intro v37
    refine .lp (e23_0 ..) ?_
    unfold F23_23_0
    refine .st (v := (bA (decide (v37 < v36)))) (aBin_lss ..) ?_
    refine .biHN (fun hk39 => ?_) (fun hk39 => ?_)
    · refine .bg (fun t (y : Nat × Int × Int × Int) => t = (A.ip [(selF y.1), (iA y.2.1), (iA y.2.2.1), (iA y.2.2.2)])) ?_ ?_
      · refine .sp (fun hb41 => ?_) (fun _ => ?_)
        · exact .lp (by rw [of_decide_eq_true hb41]; kernel_rfl : _ = some (A.ip [(A.fn (Fn.func 73) [] []), (iA 1), (iA 3), (iA 2)])) (.lg rfl)
        refine .sp (fun hb42 => ?_) (fun _ => ?_)
        · exact .lp (by rw [of_decide_eq_true hb42]; kernel_rfl : _ = some (A.ip [(A.fn (Fn.func 74) [] []), (iA 1), (iA 1048576), (iA 2)])) (.lg rfl)
        refine .sp (fun hb43 => ?_) (fun _ => ?_)
        · exact .lp (by rw [of_decide_eq_true hb43]; kernel_rfl : _ = some (A.ip [(A.fn (Fn.func 75) [] []), (iA 1), (iA 16), (iA 0)])) (.lg rfl)
        refine .sp (fun hb44 => ?_) (fun _ => ?_)
        · exact .lp (by rw [of_decide_eq_true hb44]; kernel_rfl : _ = some (A.ip [(A.fn (Fn.func 76) [] []), (iA 0), (iA 16), (iA 0)])) (.lg rfl)
        refine .sp (fun hb45 => ?_) (fun _ => ?_)
        · exact .lp (by rw [of_decide_eq_true hb45]; kernel_rfl : _ = some (A.ip [(A.fn (Fn.func 77) [] []), (iA 0), (iA 500), (iA 0)])) (.lg rfl)
        refine .sp (fun hb46 => ?_) (fun _ => ?_)
        · exact .lp (by rw [of_decide_eq_true hb46]; kernel_rfl : _ = some (A.ip [(A.fn (Fn.func 78) [] []), (iA 0), (iA 1048576), (iA 0)])) (.lg rfl)
        exact .nn
      rintro _ y40 rfl
      refine .s (A.agg [(selF y40.1), (iA y40.2.1), (iA y40.2.2.1), (iA y40.2.2.2)]) (.s ((A.ptr 3 0), [Blk.dead, Blk.box (c_S_Body v38), Blk.dead, Blk.box [(A.v Value.nilFunc), (iA 0), (iA 0), (iA 0)]]) ?_)
      refine .st (v := [Blk.dead, Blk.box (c_S_Body v38), Blk.dead, Blk.box [(selF y40.1), (iA y40.2.1), (iA y40.2.2.1), (iA y40.2.2.2)]]) (by unfold selF; cases Nat.beq y40.1 0 <;> kernel_rfl) ?_
      refine .s (A.ptr 3 3) (.s (iA y40.2.2.2) ?_)
      refine .st (v := (iA (wr .i64 (y40.2.2.2 + 1)))) (aBin_add ..) ?_
      refine .as (T23_23_1 C n h43 h44 h45 v35 v36 v37 (wr .i64 (y40.2.2.2 + 1)) v38 y40.1 y40.2.1 y40.2.2.1 y40.2.2.2 _ _ _ _ ?_ ?_ _ 0)
      · intro y91 y92 j93 j94 j95
        refine .un rfl ?_
        exact .ex (x0 _ _ _ _ _ _ _ _ _)
      · intro y96 j97 j98 j99
        refine .un rfl ?_
        refine .cT (by kernel_rfl) ?_
        refine .st (v := (iA (wr .i64 (v37 + 1)))) (aBin_add ..) ?_
        refine .s [Blk.dead, Blk.box (c_S_Body v38), Blk.dead] ?_
        refine .cT (by kernel_rfl) ?_
        exact ih _
    exact .ex (x1 _ _ _ _ _)
def F23 (n : Nat) (a0 : S_Body) : Option Int :=
  Option.bind (G43 a0.Name) fun y1 => Option.bind (bif (!y1) then (some true) else (Option.bind (G44 1 500 ([a0.Weight])) fun y3 => some (!y3))) fun y4 => Option.bind (bif y4 then (some true) else (Option.bind (G44 1 4 ([a0.Girth])) fun y11 => some (!y11))) fun y12 => Option.bind (bif y12 then (some true) else (Option.bind (G44 1 8 ([a0.Reach.1, a0.Reach.2.1, a0.Reach.2.2])) fun y19 => some (!y19))) fun y20 => Option.bind (bif y20 then (some true) else (Option.bind (G44 0 1048576 ([a0.Recover])) fun y26 => some (!y26))) fun y27 => bif y27 then (some 250) else (Option.bind (G45 ) fun y34 => Option.bind (F23_23_0 n 0 6 a0 (n+8) 0) fun o100 => match o100 with | (Sum.inl ((y101, y102, y103, y104, y105))) => some y101 | (Sum.inr _) => some 0)
theorem T23 (C : Nat → List A → Option A) (n : Nat) (h43 : Orc43 C) (h44 : Orc44 C) (h45 : Orc45 C) (a0 : S_Body) : J (fun (o : R) y => ∃ v, o.1 = .ret v ∧ snapE o.2 v = (iA y)) (evCall1 (cx C) (evCall (cx C) (n+8)) (evCallY (cx C) (n+8)) (n+8) 23 [(A.agg (c_S_Body a0))] [] 0) some (F23 n a0) some := by
  refine .lp (e23 ..) ?_
  unfold F23
  refine .s ((A.ptr 0 0), [Blk.box (c_S_Body a0)]) (.s (A.agg (c_S_Body a0)) (.s (A.agg (c_S_Body a0)) (.s ((A.ptr 1 0), [Blk.box (c_S_Body a0), Blk.box [(A.v (Value.string ByteArray.empty)), (iA 0), (iA 0), (iA 0), (iA 0), (iA 0), (iA 0), (iA 0), (iA 0), (iA 0), (iA 0), (iA 0), (iA 0), (iA 0), (iA 0), (iA 0), (iA 0)]]) (.s [Blk.box (c_S_Body a0), Blk.box (c_S_Body a0)] (.s ((A.ip (c_S_Body a0)), [Blk.dead, Blk.box (c_S_Body a0)]) (.s (A.ip (c_S_Body a0)) (.s (A.v (Value.string a0.Name)) ?_)))))))
  refine .bd (g := fun (y : Bool) => (bA y)) (h43 a0.Name) fun y1 => ?_
  refine .s (bA (!y1)) ?_
  refine .bg (fun t (y : Bool) => ∃ j5 j6 j7 j8 j9 : A, t = [(bA y), j5, j6, j7, j8, j9]) ?_ ?_
  · refine .biH (fun hk2 => ?_) (fun hk2 => ?_)
    · exact .lg ⟨_, _, _, _, _, rfl⟩
    refine .s (A.ip [(iA a0.Weight), (iA a0.Lift), (iA a0.Girth), (iA a0.Step), (iA a0.Jump), (iA a0.Reach.1), (iA a0.Reach.2.1), (iA a0.Reach.2.2), (iA a0.Speed.1), (iA a0.Speed.2.1), (iA a0.Speed.2.2), (iA a0.Top.1), (iA a0.Top.2.1), (iA a0.Top.2.2), (iA a0.Effort), (iA a0.Recover)]) (.s (iA a0.Weight) (.s (A.imm [[(iA a0.Weight)]] true) ?_))
    refine .bd (g := fun (y : Bool) => (bA y)) (by show C 44 [snap [Blk.dead, Blk.box (c_S_Body a0)] (iA 1), snap [Blk.dead, Blk.box (c_S_Body a0)] (iA 500), snap [Blk.dead, Blk.box (c_S_Body a0)] (A.imm [[(iA a0.Weight)]] true)] = _; simp only [snap, snapW, snapWs, snapWss, snapWss_map, trim, List.map_cons, List.map_nil, fl_cI, fl_c8, fl_cB, fl_cS, fl_cL, fl_S_Limb, fl_A5_struct_S_Limb, fl_S_State, fl_A3_int_i64, fl_S_Body, fl_S_Role, fl_S_Ratio, fl_S_Sign, fl_S_Real, fl_A2_int_i64, fl_A4_arr_2_int_i64, fl_A2_arr_2_int_i64, fl_A4_int_i64, fl_S_pose_change, fl_S_Range, fl_S_Box, fl_S_body_contract, fl_S_Vec, fl_A5_int_i64, fl_A4_bool]; exact h44 1 500 ([a0.Weight])) fun y3 => ?_
    refine .s (bA (!y3)) ?_
    exact .lg ⟨_, _, _, _, _, rfl⟩
  rintro _ y4 ⟨j5, j6, j7, j8, j9, rfl⟩
  iterate 6 refine .uc ?_
  refine .bg (fun t (y : Bool) => ∃ j13 j14 j15 j16 j17 : A, t = [(bA y), j13, j14, j15, j16, j17]) ?_ ?_
  · refine .biH (fun hk10 => ?_) (fun hk10 => ?_)
    · exact .lg ⟨_, _, _, _, _, rfl⟩
    refine .s (A.ip [(iA a0.Girth), (iA a0.Step), (iA a0.Jump), (iA a0.Reach.1), (iA a0.Reach.2.1), (iA a0.Reach.2.2), (iA a0.Speed.1), (iA a0.Speed.2.1), (iA a0.Speed.2.2), (iA a0.Top.1), (iA a0.Top.2.1), (iA a0.Top.2.2), (iA a0.Effort), (iA a0.Recover)]) (.s (iA a0.Girth) (.s (A.imm [[(iA a0.Girth)]] true) ?_))
    refine .bd (g := fun (y : Bool) => (bA y)) (by show C 44 [snap [Blk.dead, Blk.box (c_S_Body a0)] (iA 1), snap [Blk.dead, Blk.box (c_S_Body a0)] (iA 4), snap [Blk.dead, Blk.box (c_S_Body a0)] (A.imm [[(iA a0.Girth)]] true)] = _; simp only [snap, snapW, snapWs, snapWss, snapWss_map, trim, List.map_cons, List.map_nil, fl_cI, fl_c8, fl_cB, fl_cS, fl_cL, fl_S_Limb, fl_A5_struct_S_Limb, fl_S_State, fl_A3_int_i64, fl_S_Body, fl_S_Role, fl_S_Ratio, fl_S_Sign, fl_S_Real, fl_A2_int_i64, fl_A4_arr_2_int_i64, fl_A2_arr_2_int_i64, fl_A4_int_i64, fl_S_pose_change, fl_S_Range, fl_S_Box, fl_S_body_contract, fl_S_Vec, fl_A5_int_i64, fl_A4_bool]; exact h44 1 4 ([a0.Girth])) fun y11 => ?_
    refine .s (bA (!y11)) ?_
    exact .lg ⟨_, _, _, _, _, rfl⟩
  rintro _ y12 ⟨j13, j14, j15, j16, j17, rfl⟩
  iterate 6 refine .uc ?_
  refine .bg (fun t (y : Bool) => ∃ j21 j22 j23 j24 : A, t = [(bA y), j21, j22, j23, j24]) ?_ ?_
  · refine .biH (fun hk18 => ?_) (fun hk18 => ?_)
    · exact .lg ⟨_, _, _, _, rfl⟩
    refine .s (A.ip [(iA a0.Reach.1), (iA a0.Reach.2.1), (iA a0.Reach.2.2), (iA a0.Speed.1), (iA a0.Speed.2.1), (iA a0.Speed.2.2), (iA a0.Top.1), (iA a0.Top.2.1), (iA a0.Top.2.2), (iA a0.Effort), (iA a0.Recover)]) (.s (A.imm [[(iA a0.Reach.1)], [(iA a0.Reach.2.1)], [(iA a0.Reach.2.2)]] true) ?_)
    refine .bd (g := fun (y : Bool) => (bA y)) (by show C 44 [snap [Blk.dead, Blk.box (c_S_Body a0)] (iA 1), snap [Blk.dead, Blk.box (c_S_Body a0)] (iA 8), snap [Blk.dead, Blk.box (c_S_Body a0)] (A.imm [[(iA a0.Reach.1)], [(iA a0.Reach.2.1)], [(iA a0.Reach.2.2)]] true)] = _; simp only [snap, snapW, snapWs, snapWss, snapWss_map, trim, List.map_cons, List.map_nil, fl_cI, fl_c8, fl_cB, fl_cS, fl_cL, fl_S_Limb, fl_A5_struct_S_Limb, fl_S_State, fl_A3_int_i64, fl_S_Body, fl_S_Role, fl_S_Ratio, fl_S_Sign, fl_S_Real, fl_A2_int_i64, fl_A4_arr_2_int_i64, fl_A2_arr_2_int_i64, fl_A4_int_i64, fl_S_pose_change, fl_S_Range, fl_S_Box, fl_S_body_contract, fl_S_Vec, fl_A5_int_i64, fl_A4_bool]; exact h44 1 8 ([a0.Reach.1, a0.Reach.2.1, a0.Reach.2.2])) fun y19 => ?_
    refine .s (bA (!y19)) ?_
    exact .lg ⟨_, _, _, _, rfl⟩
  rintro _ y20 ⟨j21, j22, j23, j24, rfl⟩
  iterate 5 refine .uc ?_
  refine .bg (fun t (y : Bool) => ∃ j28 j29 j30 j31 j32 : A, t = [(bA y), j28, j29, j30, j31, j32]) ?_ ?_
  · refine .biH (fun hk25 => ?_) (fun hk25 => ?_)
    · exact .lg ⟨_, _, _, _, _, rfl⟩
    refine .s (A.ip [(iA a0.Recover)]) (.s (iA a0.Recover) (.s (A.imm [[(iA a0.Recover)]] true) ?_))
    refine .bd (g := fun (y : Bool) => (bA y)) (by show C 44 [snap [Blk.dead, Blk.box (c_S_Body a0)] (iA 0), snap [Blk.dead, Blk.box (c_S_Body a0)] (iA 1048576), snap [Blk.dead, Blk.box (c_S_Body a0)] (A.imm [[(iA a0.Recover)]] true)] = _; simp only [snap, snapW, snapWs, snapWss, snapWss_map, trim, List.map_cons, List.map_nil, fl_cI, fl_c8, fl_cB, fl_cS, fl_cL, fl_S_Limb, fl_A5_struct_S_Limb, fl_S_State, fl_A3_int_i64, fl_S_Body, fl_S_Role, fl_S_Ratio, fl_S_Sign, fl_S_Real, fl_A2_int_i64, fl_A4_arr_2_int_i64, fl_A2_arr_2_int_i64, fl_A4_int_i64, fl_S_pose_change, fl_S_Range, fl_S_Box, fl_S_body_contract, fl_S_Vec, fl_A5_int_i64, fl_A4_bool]; exact h44 0 1048576 ([a0.Recover])) fun y26 => ?_
    refine .s (bA (!y26)) ?_
    exact .lg ⟨_, _, _, _, _, rfl⟩
  rintro _ y27 ⟨j28, j29, j30, j31, j32, rfl⟩
  iterate 6 refine .uc ?_
  refine .biHN (fun hk33 => ?_) (fun hk33 => ?_)
  · exact .lf rfl rfl ⟨_, rfl, rfl⟩
  refine .bd (g := fun (y : Unit) => (A.agg [(A.v Value.nilFunc), (iA 0), (iA 0), (iA 0), (A.fn (Fn.func 73) [] []), (iA 1), (iA 3), (iA 2), (A.fn (Fn.func 74) [] []), (iA 1), (iA 1048576), (iA 2), (A.fn (Fn.func 75) [] []), (iA 1), (iA 16), (iA 0), (A.fn (Fn.func 76) [] []), (iA 0), (iA 16), (iA 0), (A.fn (Fn.func 77) [] []), (iA 0), (iA 500), (iA 0), (A.fn (Fn.func 78) [] []), (iA 0), (iA 1048576), (iA 0)])) (h45 ()) fun y34 => ?_
  refine .s ((A.ptr 2 0), [Blk.dead, Blk.box (c_S_Body a0), Blk.box [(A.v Value.nilFunc), (iA 0), (iA 0), (iA 0), (A.v Value.nilFunc), (iA 0), (iA 0), (iA 0), (A.v Value.nilFunc), (iA 0), (iA 0), (iA 0), (A.v Value.nilFunc), (iA 0), (iA 0), (iA 0), (A.v Value.nilFunc), (iA 0), (iA 0), (iA 0), (A.v Value.nilFunc), (iA 0), (iA 0), (iA 0), (A.v Value.nilFunc), (iA 0), (iA 0), (iA 0)]]) (.s [Blk.dead, Blk.box (c_S_Body a0), Blk.box [(A.v Value.nilFunc), (iA 0), (iA 0), (iA 0), (A.fn (Fn.func 73) [] []), (iA 1), (iA 3), (iA 2), (A.fn (Fn.func 74) [] []), (iA 1), (iA 1048576), (iA 2), (A.fn (Fn.func 75) [] []), (iA 1), (iA 16), (iA 0), (A.fn (Fn.func 76) [] []), (iA 0), (iA 16), (iA 0), (A.fn (Fn.func 77) [] []), (iA 0), (iA 500), (iA 0), (A.fn (Fn.func 78) [] []), (iA 0), (iA 1048576), (iA 0)]] (.s ((A.ip [(A.v Value.nilFunc), (iA 0), (iA 0), (iA 0), (A.fn (Fn.func 73) [] []), (iA 1), (iA 3), (iA 2), (A.fn (Fn.func 74) [] []), (iA 1), (iA 1048576), (iA 2), (A.fn (Fn.func 75) [] []), (iA 1), (iA 16), (iA 0), (A.fn (Fn.func 76) [] []), (iA 0), (iA 16), (iA 0), (A.fn (Fn.func 77) [] []), (iA 0), (iA 500), (iA 0), (A.fn (Fn.func 78) [] []), (iA 0), (iA 1048576), (iA 0)]), [Blk.dead, Blk.box (c_S_Body a0), Blk.dead]) ?_))
  refine .s (A.imm [[(A.fn (Fn.func 73) [] []), (iA 1), (iA 3), (iA 2)], [(A.fn (Fn.func 74) [] []), (iA 1), (iA 1048576), (iA 2)], [(A.fn (Fn.func 75) [] []), (iA 1), (iA 16), (iA 0)], [(A.fn (Fn.func 76) [] []), (iA 0), (iA 16), (iA 0)], [(A.fn (Fn.func 77) [] []), (iA 0), (iA 500), (iA 0)], [(A.fn (Fn.func 78) [] []), (iA 0), (iA 1048576), (iA 0)]] true) (.s (iA 6) ?_)
  refine .as (T23_23_0 C n h43 h44 h45 0 6 a0 _ _ _ _ ?_ ?_ _ 0)
  · intro y101 y102 y103 y104 y105 j106 j107 j108 j109
    refine .un rfl ?_
    exact .lf rfl rfl ⟨_, rfl, rfl⟩
  · intro j110 j111 j112 j113 j114
    refine .un rfl ?_
    refine .cT (by kernel_rfl) ?_
    exact .lf rfl rfl ⟨_, rfl, rfl⟩
def G23 (a0 : S_Body) : Option Int := F23 fuel0 a0
def Orc23 (C : Nat → List A → Option A) : Prop := ∀ (a0 : S_Body), C 23 [(A.agg (c_S_Body a0))] = (G23 a0).map fun y => (iA y)
def F25 (n : Nat) (a0 : Int) (a1 : Int) : Option (S_Vec × Int) :=
  Option.bind (bif (decide (a0 < 0)) then (some true) else (some (decide (8 < a0)))) fun y2 => Option.bind (bif y2 then (some true) else (some (decide (a1 < 1)))) fun y6 => Option.bind (bif y6 then (some true) else (some (decide (3 < a1)))) fun y10 => bif y10 then (some (((S_Vec.mk 0 0 0), 150))) else (bif (a0 == 0) then (some (((S_Vec.mk 0 0 (wr .i64 (841 * (wr .i64 (a1 - 2))))), 0))) else (bif decide ((wr .i64 (a0 - 1)) = 0) then (Option.bind (bif ((wr .i64 (a1 - 2)) == 0) then (some 0) else (some 0)) fun y17 => Option.bind (bif ((wr .i64 (a1 - 2)) == 0) then (some 841) else (some 580)) fun y19 => some (((S_Vec.mk y17 y19 (wr .i64 (609 * (wr .i64 (a1 - 2))))), 0))) else bif decide ((wr .i64 (a0 - 1)) = 1) then (Option.bind (bif ((wr .i64 (a1 - 2)) == 0) then (some 580) else (some 400)) fun y22 => Option.bind (bif ((wr .i64 (a1 - 2)) == 0) then (some 609) else (some 420)) fun y24 => some (((S_Vec.mk y22 y24 (wr .i64 (609 * (wr .i64 (a1 - 2))))), 0))) else bif decide ((wr .i64 (a0 - 1)) = 2) then (Option.bind (bif ((wr .i64 (a1 - 2)) == 0) then (some 841) else (some 580)) fun y27 => Option.bind (bif ((wr .i64 (a1 - 2)) == 0) then (some 0) else (some 0)) fun y29 => some (((S_Vec.mk y27 y29 (wr .i64 (609 * (wr .i64 (a1 - 2))))), 0))) else bif decide ((wr .i64 (a0 - 1)) = 3) then (Option.bind (bif ((wr .i64 (a1 - 2)) == 0) then (some 580) else (some 400)) fun y32 => Option.bind (bif ((wr .i64 (a1 - 2)) == 0) then (some (-609)) else (some (-420))) fun y34 => some (((S_Vec.mk y32 y34 (wr .i64 (609 * (wr .i64 (a1 - 2))))), 0))) else bif decide ((wr .i64 (a0 - 1)) = 4) then (Option.bind (bif ((wr .i64 (a1 - 2)) == 0) then (some 0) else (some 0)) fun y37 => Option.bind (bif ((wr .i64 (a1 - 2)) == 0) then (some (-841)) else (some (-580))) fun y39 => some (((S_Vec.mk y37 y39 (wr .i64 (609 * (wr .i64 (a1 - 2))))), 0))) else bif decide ((wr .i64 (a0 - 1)) = 5) then (Option.bind (bif ((wr .i64 (a1 - 2)) == 0) then (some (-580)) else (some (-400))) fun y42 => Option.bind (bif ((wr .i64 (a1 - 2)) == 0) then (some (-609)) else (some (-420))) fun y44 => some (((S_Vec.mk y42 y44 (wr .i64 (609 * (wr .i64 (a1 - 2))))), 0))) else bif decide ((wr .i64 (a0 - 1)) = 6) then (Option.bind (bif ((wr .i64 (a1 - 2)) == 0) then (some (-841)) else (some (-580))) fun y47 => Option.bind (bif ((wr .i64 (a1 - 2)) == 0) then (some 0) else (some 0)) fun y49 => some (((S_Vec.mk y47 y49 (wr .i64 (609 * (wr .i64 (a1 - 2))))), 0))) else bif decide ((wr .i64 (a0 - 1)) = 7) then (Option.bind (bif ((wr .i64 (a1 - 2)) == 0) then (some (-580)) else (some (-400))) fun y52 => Option.bind (bif ((wr .i64 (a1 - 2)) == 0) then (some 609) else (some 420)) fun y54 => some (((S_Vec.mk y52 y54 (wr .i64 (609 * (wr .i64 (a1 - 2))))), 0))) else none))
theorem T25 (C : Nat → List A → Option A) (n : Nat) (a0 : Int) (a1 : Int) : J (fun (o : R) y => ∃ v, o.1 = .ret v ∧ snapE o.2 v = (A.tup [(A.agg [(iA y.1.X), (iA y.1.Y), (iA y.1.Z)]), (iA y.2)])) (evCall1 (cx C) (evCall (cx C) (n+8)) (evCallY (cx C) (n+8)) (n+8) 25 [(iA a0), (iA a1)] [] 0) some (F25 n a0 a1) some := by
  refine .lp (e25 ..) ?_
  unfold F25
  refine .s ((A.ptr 0 0), [Blk.box [(iA 0), (iA 0), (iA 0)]]) ?_
  refine .st (v := (bA (decide (a0 < 0)))) (aBin_lss ..) ?_
  refine .bg (fun t (y : Bool) => ∃ j3 j4 : A, t = [(bA y), j3, j4]) ?_ ?_
  · refine .biH (fun hk1 => ?_) (fun hk1 => ?_)
    · exact .lg ⟨_, _, rfl⟩
    refine .st (v := (bA (decide (8 < a0)))) (aBin_gtr ..) ?_
    exact .lg ⟨_, _, rfl⟩
  rintro _ y2 ⟨j3, j4, rfl⟩
  iterate 3 refine .uc ?_
  refine .bg (fun t (y : Bool) => ∃ j7 j8 : A, t = [(bA y), j7, j8]) ?_ ?_
  · refine .biH (fun hk5 => ?_) (fun hk5 => ?_)
    · exact .lg ⟨_, _, rfl⟩
    refine .st (v := (bA (decide (a1 < 1)))) (aBin_lss ..) ?_
    exact .lg ⟨_, _, rfl⟩
  rintro _ y6 ⟨j7, j8, rfl⟩
  iterate 3 refine .uc ?_
  refine .bg (fun t (y : Bool) => ∃ j11 j12 : A, t = [(bA y), j11, j12]) ?_ ?_
  · refine .biH (fun hk9 => ?_) (fun hk9 => ?_)
    · exact .lg ⟨_, _, rfl⟩
    refine .st (v := (bA (decide (3 < a1)))) (aBin_gtr ..) ?_
    exact .lg ⟨_, _, rfl⟩
  rintro _ y10 ⟨j11, j12, rfl⟩
  iterate 3 refine .uc ?_
  refine .biHN (fun hk13 => ?_) (fun hk13 => ?_)
  · refine .s (A.agg [(iA 0), (iA 0), (iA 0)]) (.s [Blk.box [(iA 0), (iA 0), (iA 0)]] (.s (A.agg [(iA 0), (iA 0), (iA 0)]) ?_))
    exact .lf rfl rfl ⟨_, rfl, rfl⟩
  refine .st (v := (iA (wr .i64 (a1 - 2)))) (aBin_sub ..) ?_
  refine .s ((A.ptr 1 0), [Blk.box [(iA 0), (iA 0), (iA 0)], Blk.box [(iA 0)]]) (.s [Blk.box [(iA 0), (iA 0), (iA 0)], Blk.box [(iA (wr .i64 (a1 - 2)))]] ?_)
  refine .st (v := (bA (a0 == 0))) (aBin_eql ..) ?_
  refine .biHN (fun hk14 => ?_) (fun hk14 => ?_)
  · refine .s (iA (wr .i64 (a1 - 2))) ?_
    refine .st (v := (iA (wr .i64 (841 * (wr .i64 (a1 - 2)))))) (aBin_mul ..) ?_
    refine .s (A.ptr 0 2) (.s [Blk.box [(iA 0), (iA 0), (iA (wr .i64 (841 * (wr .i64 (a1 - 2)))))], Blk.box [(iA (wr .i64 (a1 - 2)))]] (.s (A.agg [(iA 0), (iA 0), (iA (wr .i64 (841 * (wr .i64 (a1 - 2)))))]) (.s [Blk.box [(iA 0), (iA 0), (iA (wr .i64 (841 * (wr .i64 (a1 - 2)))))], Blk.box [(iA (wr .i64 (a1 - 2)))]] (.s (A.agg [(iA 0), (iA 0), (iA (wr .i64 (841 * (wr .i64 (a1 - 2)))))]) ?_))))
    exact .lf rfl rfl ⟨_, rfl, rfl⟩
  refine .st (v := (iA (wr .i64 (a0 - 1)))) (aBin_sub ..) ?_
  refine .sp (fun hb15 => ?_) (fun _ => ?_)
  · refine .st (v := (A.ip [(iA 0), (iA 29), (iA 20), (iA 21), (iA 29), (iA 0), (iA 20), (iA (-21)), (iA 0), (iA (-29)), (iA (-20)), (iA (-21)), (iA (-29)), (iA 0), (iA (-20)), (iA 21)])) (by rw [of_decide_eq_true hb15]; kernel_rfl) ?_
    refine .s (A.agg [(iA 0), (iA 29)]) (.s ((A.ptr 2 0), [Blk.box [(iA 0), (iA 0), (iA 0)], Blk.box [(iA (wr .i64 (a1 - 2)))], Blk.box [(iA 0), (iA 0)]]) (.s [Blk.box [(iA 0), (iA 0), (iA 0)], Blk.box [(iA (wr .i64 (a1 - 2)))], Blk.box [(iA 0), (iA 29)]] (.s (A.ptr 2 0) (.s (iA 0) ?_))))
    refine .bg (fun t (y : Int) =>  t = (iA y)) ?_ ?_
    · refine .cl ((evCall_in lt_46).trans (e46 C (evCall (cx C) (n+7)) (evCallY (cx C) (n+7)) (n+7) _ _ _ _)) ?_
      refine .s (iA (wr .i64 (a1 - 2))) ?_
      refine .st (v := (bA ((wr .i64 (a1 - 2)) == 0))) (aBin_eql ..) ?_
      refine .biHN (fun hk16 => ?_) (fun hk16 => ?_)
      · refine .s (iA 0) ?_
        refine .cr ?_
        exact .lg rfl
      refine .s (iA 0) ?_
      refine .cr ?_
      exact .lg rfl
    rintro _ y17 rfl
    refine .s (A.ptr 2 1) (.s (iA 29) ?_)
    refine .bg (fun t (y : Int) =>  t = (iA y)) ?_ ?_
    · refine .cl ((evCall_in lt_46).trans (e46 C (evCall (cx C) (n+7)) (evCallY (cx C) (n+7)) (n+7) _ _ _ _)) ?_
      refine .s (iA (wr .i64 (a1 - 2))) ?_
      refine .st (v := (bA ((wr .i64 (a1 - 2)) == 0))) (aBin_eql ..) ?_
      refine .biHN (fun hk18 => ?_) (fun hk18 => ?_)
      · refine .s (iA 841) ?_
        refine .cr ?_
        exact .lg rfl
      refine .s (iA 580) ?_
      refine .cr ?_
      exact .lg rfl
    rintro _ y19 rfl
    refine .s (iA (wr .i64 (a1 - 2))) ?_
    refine .st (v := (iA (wr .i64 (609 * (wr .i64 (a1 - 2)))))) (aBin_mul ..) ?_
    refine .s (A.agg [(iA y17), (iA y19), (iA (wr .i64 (609 * (wr .i64 (a1 - 2)))))]) (.s [Blk.box [(iA y17), (iA y19), (iA (wr .i64 (609 * (wr .i64 (a1 - 2)))))], Blk.box [(iA (wr .i64 (a1 - 2)))], Blk.box [(iA 0), (iA 29)]] (.s (A.agg [(iA y17), (iA y19), (iA (wr .i64 (609 * (wr .i64 (a1 - 2)))))]) ?_))
    exact .lf rfl rfl ⟨_, rfl, rfl⟩
  refine .sp (fun hb20 => ?_) (fun _ => ?_)
  · refine .st (v := (A.ip [(iA 20), (iA 21), (iA 29), (iA 0), (iA 20), (iA (-21)), (iA 0), (iA (-29)), (iA (-20)), (iA (-21)), (iA (-29)), (iA 0), (iA (-20)), (iA 21)])) (by rw [of_decide_eq_true hb20]; kernel_rfl) ?_
    refine .s (A.agg [(iA 20), (iA 21)]) (.s ((A.ptr 2 0), [Blk.box [(iA 0), (iA 0), (iA 0)], Blk.box [(iA (wr .i64 (a1 - 2)))], Blk.box [(iA 0), (iA 0)]]) (.s [Blk.box [(iA 0), (iA 0), (iA 0)], Blk.box [(iA (wr .i64 (a1 - 2)))], Blk.box [(iA 20), (iA 21)]] (.s (A.ptr 2 0) (.s (iA 20) ?_))))
    refine .bg (fun t (y : Int) =>  t = (iA y)) ?_ ?_
    · refine .cl ((evCall_in lt_46).trans (e46 C (evCall (cx C) (n+7)) (evCallY (cx C) (n+7)) (n+7) _ _ _ _)) ?_
      refine .s (iA (wr .i64 (a1 - 2))) ?_
      refine .st (v := (bA ((wr .i64 (a1 - 2)) == 0))) (aBin_eql ..) ?_
      refine .biHN (fun hk21 => ?_) (fun hk21 => ?_)
      · refine .s (iA 580) ?_
        refine .cr ?_
        exact .lg rfl
      refine .s (iA 400) ?_
      refine .cr ?_
      exact .lg rfl
    rintro _ y22 rfl
    refine .s (A.ptr 2 1) (.s (iA 21) ?_)
    refine .bg (fun t (y : Int) =>  t = (iA y)) ?_ ?_
    · refine .cl ((evCall_in lt_46).trans (e46 C (evCall (cx C) (n+7)) (evCallY (cx C) (n+7)) (n+7) _ _ _ _)) ?_
      refine .s (iA (wr .i64 (a1 - 2))) ?_
      refine .st (v := (bA ((wr .i64 (a1 - 2)) == 0))) (aBin_eql ..) ?_
      refine .biHN (fun hk23 => ?_) (fun hk23 => ?_)
      · refine .s (iA 609) ?_
        refine .cr ?_
        exact .lg rfl
      refine .s (iA 420) ?_
      refine .cr ?_
      exact .lg rfl
    rintro _ y24 rfl
    refine .s (iA (wr .i64 (a1 - 2))) ?_
    refine .st (v := (iA (wr .i64 (609 * (wr .i64 (a1 - 2)))))) (aBin_mul ..) ?_
    refine .s (A.agg [(iA y22), (iA y24), (iA (wr .i64 (609 * (wr .i64 (a1 - 2)))))]) (.s [Blk.box [(iA y22), (iA y24), (iA (wr .i64 (609 * (wr .i64 (a1 - 2)))))], Blk.box [(iA (wr .i64 (a1 - 2)))], Blk.box [(iA 20), (iA 21)]] (.s (A.agg [(iA y22), (iA y24), (iA (wr .i64 (609 * (wr .i64 (a1 - 2)))))]) ?_))
    exact .lf rfl rfl ⟨_, rfl, rfl⟩
  refine .sp (fun hb25 => ?_) (fun _ => ?_)
  · refine .st (v := (A.ip [(iA 29), (iA 0), (iA 20), (iA (-21)), (iA 0), (iA (-29)), (iA (-20)), (iA (-21)), (iA (-29)), (iA 0), (iA (-20)), (iA 21)])) (by rw [of_decide_eq_true hb25]; kernel_rfl) ?_
    refine .s (A.agg [(iA 29), (iA 0)]) (.s ((A.ptr 2 0), [Blk.box [(iA 0), (iA 0), (iA 0)], Blk.box [(iA (wr .i64 (a1 - 2)))], Blk.box [(iA 0), (iA 0)]]) (.s [Blk.box [(iA 0), (iA 0), (iA 0)], Blk.box [(iA (wr .i64 (a1 - 2)))], Blk.box [(iA 29), (iA 0)]] (.s (A.ptr 2 0) (.s (iA 29) ?_))))
    refine .bg (fun t (y : Int) =>  t = (iA y)) ?_ ?_
    · refine .cl ((evCall_in lt_46).trans (e46 C (evCall (cx C) (n+7)) (evCallY (cx C) (n+7)) (n+7) _ _ _ _)) ?_
      refine .s (iA (wr .i64 (a1 - 2))) ?_
      refine .st (v := (bA ((wr .i64 (a1 - 2)) == 0))) (aBin_eql ..) ?_
      refine .biHN (fun hk26 => ?_) (fun hk26 => ?_)
      · refine .s (iA 841) ?_
        refine .cr ?_
        exact .lg rfl
      refine .s (iA 580) ?_
      refine .cr ?_
      exact .lg rfl
    rintro _ y27 rfl
    refine .s (A.ptr 2 1) (.s (iA 0) ?_)
    refine .bg (fun t (y : Int) =>  t = (iA y)) ?_ ?_
    · refine .cl ((evCall_in lt_46).trans (e46 C (evCall (cx C) (n+7)) (evCallY (cx C) (n+7)) (n+7) _ _ _ _)) ?_
      refine .s (iA (wr .i64 (a1 - 2))) ?_
      refine .st (v := (bA ((wr .i64 (a1 - 2)) == 0))) (aBin_eql ..) ?_
      refine .biHN (fun hk28 => ?_) (fun hk28 => ?_)
      · refine .s (iA 0) ?_
        refine .cr ?_
        exact .lg rfl
      refine .s (iA 0) ?_
      refine .cr ?_
      exact .lg rfl
    rintro _ y29 rfl
    refine .s (iA (wr .i64 (a1 - 2))) ?_
    refine .st (v := (iA (wr .i64 (609 * (wr .i64 (a1 - 2)))))) (aBin_mul ..) ?_
    refine .s (A.agg [(iA y27), (iA y29), (iA (wr .i64 (609 * (wr .i64 (a1 - 2)))))]) (.s [Blk.box [(iA y27), (iA y29), (iA (wr .i64 (609 * (wr .i64 (a1 - 2)))))], Blk.box [(iA (wr .i64 (a1 - 2)))], Blk.box [(iA 29), (iA 0)]] (.s (A.agg [(iA y27), (iA y29), (iA (wr .i64 (609 * (wr .i64 (a1 - 2)))))]) ?_))
    exact .lf rfl rfl ⟨_, rfl, rfl⟩
  refine .sp (fun hb30 => ?_) (fun _ => ?_)
  · refine .st (v := (A.ip [(iA 20), (iA (-21)), (iA 0), (iA (-29)), (iA (-20)), (iA (-21)), (iA (-29)), (iA 0), (iA (-20)), (iA 21)])) (by rw [of_decide_eq_true hb30]; kernel_rfl) ?_
    refine .s (A.agg [(iA 20), (iA (-21))]) (.s ((A.ptr 2 0), [Blk.box [(iA 0), (iA 0), (iA 0)], Blk.box [(iA (wr .i64 (a1 - 2)))], Blk.box [(iA 0), (iA 0)]]) (.s [Blk.box [(iA 0), (iA 0), (iA 0)], Blk.box [(iA (wr .i64 (a1 - 2)))], Blk.box [(iA 20), (iA (-21))]] (.s (A.ptr 2 0) (.s (iA 20) ?_))))
    refine .bg (fun t (y : Int) =>  t = (iA y)) ?_ ?_
    · refine .cl ((evCall_in lt_46).trans (e46 C (evCall (cx C) (n+7)) (evCallY (cx C) (n+7)) (n+7) _ _ _ _)) ?_
      refine .s (iA (wr .i64 (a1 - 2))) ?_
      refine .st (v := (bA ((wr .i64 (a1 - 2)) == 0))) (aBin_eql ..) ?_
      refine .biHN (fun hk31 => ?_) (fun hk31 => ?_)
      · refine .s (iA 580) ?_
        refine .cr ?_
        exact .lg rfl
      refine .s (iA 400) ?_
      refine .cr ?_
      exact .lg rfl
    rintro _ y32 rfl
    refine .s (A.ptr 2 1) (.s (iA (-21)) ?_)
    refine .bg (fun t (y : Int) =>  t = (iA y)) ?_ ?_
    · refine .cl ((evCall_in lt_46).trans (e46 C (evCall (cx C) (n+7)) (evCallY (cx C) (n+7)) (n+7) _ _ _ _)) ?_
      refine .s (iA (wr .i64 (a1 - 2))) ?_
      refine .st (v := (bA ((wr .i64 (a1 - 2)) == 0))) (aBin_eql ..) ?_
      refine .biHN (fun hk33 => ?_) (fun hk33 => ?_)
      · refine .s (iA (-609)) ?_
        refine .cr ?_
        exact .lg rfl
      refine .s (iA (-420)) ?_
      refine .cr ?_
      exact .lg rfl
    rintro _ y34 rfl
    refine .s (iA (wr .i64 (a1 - 2))) ?_
    refine .st (v := (iA (wr .i64 (609 * (wr .i64 (a1 - 2)))))) (aBin_mul ..) ?_
    refine .s (A.agg [(iA y32), (iA y34), (iA (wr .i64 (609 * (wr .i64 (a1 - 2)))))]) (.s [Blk.box [(iA y32), (iA y34), (iA (wr .i64 (609 * (wr .i64 (a1 - 2)))))], Blk.box [(iA (wr .i64 (a1 - 2)))], Blk.box [(iA 20), (iA (-21))]] (.s (A.agg [(iA y32), (iA y34), (iA (wr .i64 (609 * (wr .i64 (a1 - 2)))))]) ?_))
    exact .lf rfl rfl ⟨_, rfl, rfl⟩
  refine .sp (fun hb35 => ?_) (fun _ => ?_)
  · refine .st (v := (A.ip [(iA 0), (iA (-29)), (iA (-20)), (iA (-21)), (iA (-29)), (iA 0), (iA (-20)), (iA 21)])) (by rw [of_decide_eq_true hb35]; kernel_rfl) ?_
    refine .s (A.agg [(iA 0), (iA (-29))]) (.s ((A.ptr 2 0), [Blk.box [(iA 0), (iA 0), (iA 0)], Blk.box [(iA (wr .i64 (a1 - 2)))], Blk.box [(iA 0), (iA 0)]]) (.s [Blk.box [(iA 0), (iA 0), (iA 0)], Blk.box [(iA (wr .i64 (a1 - 2)))], Blk.box [(iA 0), (iA (-29))]] (.s (A.ptr 2 0) (.s (iA 0) ?_))))
    refine .bg (fun t (y : Int) =>  t = (iA y)) ?_ ?_
    · refine .cl ((evCall_in lt_46).trans (e46 C (evCall (cx C) (n+7)) (evCallY (cx C) (n+7)) (n+7) _ _ _ _)) ?_
      refine .s (iA (wr .i64 (a1 - 2))) ?_
      refine .st (v := (bA ((wr .i64 (a1 - 2)) == 0))) (aBin_eql ..) ?_
      refine .biHN (fun hk36 => ?_) (fun hk36 => ?_)
      · refine .s (iA 0) ?_
        refine .cr ?_
        exact .lg rfl
      refine .s (iA 0) ?_
      refine .cr ?_
      exact .lg rfl
    rintro _ y37 rfl
    refine .s (A.ptr 2 1) (.s (iA (-29)) ?_)
    refine .bg (fun t (y : Int) =>  t = (iA y)) ?_ ?_
    · refine .cl ((evCall_in lt_46).trans (e46 C (evCall (cx C) (n+7)) (evCallY (cx C) (n+7)) (n+7) _ _ _ _)) ?_
      refine .s (iA (wr .i64 (a1 - 2))) ?_
      refine .st (v := (bA ((wr .i64 (a1 - 2)) == 0))) (aBin_eql ..) ?_
      refine .biHN (fun hk38 => ?_) (fun hk38 => ?_)
      · refine .s (iA (-841)) ?_
        refine .cr ?_
        exact .lg rfl
      refine .s (iA (-580)) ?_
      refine .cr ?_
      exact .lg rfl
    rintro _ y39 rfl
    refine .s (iA (wr .i64 (a1 - 2))) ?_
    refine .st (v := (iA (wr .i64 (609 * (wr .i64 (a1 - 2)))))) (aBin_mul ..) ?_
    refine .s (A.agg [(iA y37), (iA y39), (iA (wr .i64 (609 * (wr .i64 (a1 - 2)))))]) (.s [Blk.box [(iA y37), (iA y39), (iA (wr .i64 (609 * (wr .i64 (a1 - 2)))))], Blk.box [(iA (wr .i64 (a1 - 2)))], Blk.box [(iA 0), (iA (-29))]] (.s (A.agg [(iA y37), (iA y39), (iA (wr .i64 (609 * (wr .i64 (a1 - 2)))))]) ?_))
    exact .lf rfl rfl ⟨_, rfl, rfl⟩
  refine .sp (fun hb40 => ?_) (fun _ => ?_)
  · refine .st (v := (A.ip [(iA (-20)), (iA (-21)), (iA (-29)), (iA 0), (iA (-20)), (iA 21)])) (by rw [of_decide_eq_true hb40]; kernel_rfl) ?_
    refine .s (A.agg [(iA (-20)), (iA (-21))]) (.s ((A.ptr 2 0), [Blk.box [(iA 0), (iA 0), (iA 0)], Blk.box [(iA (wr .i64 (a1 - 2)))], Blk.box [(iA 0), (iA 0)]]) (.s [Blk.box [(iA 0), (iA 0), (iA 0)], Blk.box [(iA (wr .i64 (a1 - 2)))], Blk.box [(iA (-20)), (iA (-21))]] (.s (A.ptr 2 0) (.s (iA (-20)) ?_))))
    refine .bg (fun t (y : Int) =>  t = (iA y)) ?_ ?_
    · refine .cl ((evCall_in lt_46).trans (e46 C (evCall (cx C) (n+7)) (evCallY (cx C) (n+7)) (n+7) _ _ _ _)) ?_
      refine .s (iA (wr .i64 (a1 - 2))) ?_
      refine .st (v := (bA ((wr .i64 (a1 - 2)) == 0))) (aBin_eql ..) ?_
      refine .biHN (fun hk41 => ?_) (fun hk41 => ?_)
      · refine .s (iA (-580)) ?_
        refine .cr ?_
        exact .lg rfl
      refine .s (iA (-400)) ?_
      refine .cr ?_
      exact .lg rfl
    rintro _ y42 rfl
    refine .s (A.ptr 2 1) (.s (iA (-21)) ?_)
    refine .bg (fun t (y : Int) =>  t = (iA y)) ?_ ?_
    · refine .cl ((evCall_in lt_46).trans (e46 C (evCall (cx C) (n+7)) (evCallY (cx C) (n+7)) (n+7) _ _ _ _)) ?_
      refine .s (iA (wr .i64 (a1 - 2))) ?_
      refine .st (v := (bA ((wr .i64 (a1 - 2)) == 0))) (aBin_eql ..) ?_
      refine .biHN (fun hk43 => ?_) (fun hk43 => ?_)
      · refine .s (iA (-609)) ?_
        refine .cr ?_
        exact .lg rfl
      refine .s (iA (-420)) ?_
      refine .cr ?_
      exact .lg rfl
    rintro _ y44 rfl
    refine .s (iA (wr .i64 (a1 - 2))) ?_
    refine .st (v := (iA (wr .i64 (609 * (wr .i64 (a1 - 2)))))) (aBin_mul ..) ?_
    refine .s (A.agg [(iA y42), (iA y44), (iA (wr .i64 (609 * (wr .i64 (a1 - 2)))))]) (.s [Blk.box [(iA y42), (iA y44), (iA (wr .i64 (609 * (wr .i64 (a1 - 2)))))], Blk.box [(iA (wr .i64 (a1 - 2)))], Blk.box [(iA (-20)), (iA (-21))]] (.s (A.agg [(iA y42), (iA y44), (iA (wr .i64 (609 * (wr .i64 (a1 - 2)))))]) ?_))
    exact .lf rfl rfl ⟨_, rfl, rfl⟩
  refine .sp (fun hb45 => ?_) (fun _ => ?_)
  · refine .st (v := (A.ip [(iA (-29)), (iA 0), (iA (-20)), (iA 21)])) (by rw [of_decide_eq_true hb45]; kernel_rfl) ?_
    refine .s (A.agg [(iA (-29)), (iA 0)]) (.s ((A.ptr 2 0), [Blk.box [(iA 0), (iA 0), (iA 0)], Blk.box [(iA (wr .i64 (a1 - 2)))], Blk.box [(iA 0), (iA 0)]]) (.s [Blk.box [(iA 0), (iA 0), (iA 0)], Blk.box [(iA (wr .i64 (a1 - 2)))], Blk.box [(iA (-29)), (iA 0)]] (.s (A.ptr 2 0) (.s (iA (-29)) ?_))))
    refine .bg (fun t (y : Int) =>  t = (iA y)) ?_ ?_
    · refine .cl ((evCall_in lt_46).trans (e46 C (evCall (cx C) (n+7)) (evCallY (cx C) (n+7)) (n+7) _ _ _ _)) ?_
      refine .s (iA (wr .i64 (a1 - 2))) ?_
      refine .st (v := (bA ((wr .i64 (a1 - 2)) == 0))) (aBin_eql ..) ?_
      refine .biHN (fun hk46 => ?_) (fun hk46 => ?_)
      · refine .s (iA (-841)) ?_
        refine .cr ?_
        exact .lg rfl
      refine .s (iA (-580)) ?_
      refine .cr ?_
      exact .lg rfl
    rintro _ y47 rfl
    refine .s (A.ptr 2 1) (.s (iA 0) ?_)
    refine .bg (fun t (y : Int) =>  t = (iA y)) ?_ ?_
    · refine .cl ((evCall_in lt_46).trans (e46 C (evCall (cx C) (n+7)) (evCallY (cx C) (n+7)) (n+7) _ _ _ _)) ?_
      refine .s (iA (wr .i64 (a1 - 2))) ?_
      refine .st (v := (bA ((wr .i64 (a1 - 2)) == 0))) (aBin_eql ..) ?_
      refine .biHN (fun hk48 => ?_) (fun hk48 => ?_)
      · refine .s (iA 0) ?_
        refine .cr ?_
        exact .lg rfl
      refine .s (iA 0) ?_
      refine .cr ?_
      exact .lg rfl
    rintro _ y49 rfl
    refine .s (iA (wr .i64 (a1 - 2))) ?_
    refine .st (v := (iA (wr .i64 (609 * (wr .i64 (a1 - 2)))))) (aBin_mul ..) ?_
    refine .s (A.agg [(iA y47), (iA y49), (iA (wr .i64 (609 * (wr .i64 (a1 - 2)))))]) (.s [Blk.box [(iA y47), (iA y49), (iA (wr .i64 (609 * (wr .i64 (a1 - 2)))))], Blk.box [(iA (wr .i64 (a1 - 2)))], Blk.box [(iA (-29)), (iA 0)]] (.s (A.agg [(iA y47), (iA y49), (iA (wr .i64 (609 * (wr .i64 (a1 - 2)))))]) ?_))
    exact .lf rfl rfl ⟨_, rfl, rfl⟩
  refine .sp (fun hb50 => ?_) (fun _ => ?_)
  · refine .st (v := (A.ip [(iA (-20)), (iA 21)])) (by rw [of_decide_eq_true hb50]; kernel_rfl) ?_
    refine .s (A.agg [(iA (-20)), (iA 21)]) (.s ((A.ptr 2 0), [Blk.box [(iA 0), (iA 0), (iA 0)], Blk.box [(iA (wr .i64 (a1 - 2)))], Blk.box [(iA 0), (iA 0)]]) (.s [Blk.box [(iA 0), (iA 0), (iA 0)], Blk.box [(iA (wr .i64 (a1 - 2)))], Blk.box [(iA (-20)), (iA 21)]] (.s (A.ptr 2 0) (.s (iA (-20)) ?_))))
    refine .bg (fun t (y : Int) =>  t = (iA y)) ?_ ?_
    · refine .cl ((evCall_in lt_46).trans (e46 C (evCall (cx C) (n+7)) (evCallY (cx C) (n+7)) (n+7) _ _ _ _)) ?_
      refine .s (iA (wr .i64 (a1 - 2))) ?_
      refine .st (v := (bA ((wr .i64 (a1 - 2)) == 0))) (aBin_eql ..) ?_
      refine .biHN (fun hk51 => ?_) (fun hk51 => ?_)
      · refine .s (iA (-580)) ?_
        refine .cr ?_
        exact .lg rfl
      refine .s (iA (-400)) ?_
      refine .cr ?_
      exact .lg rfl
    rintro _ y52 rfl
    refine .s (A.ptr 2 1) (.s (iA 21) ?_)
    refine .bg (fun t (y : Int) =>  t = (iA y)) ?_ ?_
    · refine .cl ((evCall_in lt_46).trans (e46 C (evCall (cx C) (n+7)) (evCallY (cx C) (n+7)) (n+7) _ _ _ _)) ?_
      refine .s (iA (wr .i64 (a1 - 2))) ?_
      refine .st (v := (bA ((wr .i64 (a1 - 2)) == 0))) (aBin_eql ..) ?_
      refine .biHN (fun hk53 => ?_) (fun hk53 => ?_)
      · refine .s (iA 609) ?_
        refine .cr ?_
        exact .lg rfl
      refine .s (iA 420) ?_
      refine .cr ?_
      exact .lg rfl
    rintro _ y54 rfl
    refine .s (iA (wr .i64 (a1 - 2))) ?_
    refine .st (v := (iA (wr .i64 (609 * (wr .i64 (a1 - 2)))))) (aBin_mul ..) ?_
    refine .s (A.agg [(iA y52), (iA y54), (iA (wr .i64 (609 * (wr .i64 (a1 - 2)))))]) (.s [Blk.box [(iA y52), (iA y54), (iA (wr .i64 (609 * (wr .i64 (a1 - 2)))))], Blk.box [(iA (wr .i64 (a1 - 2)))], Blk.box [(iA (-20)), (iA 21)]] (.s (A.agg [(iA y52), (iA y54), (iA (wr .i64 (609 * (wr .i64 (a1 - 2)))))]) ?_))
    exact .lf rfl rfl ⟨_, rfl, rfl⟩
  exact .nn
def G25 (a0 : Int) (a1 : Int) : Option (S_Vec × Int) := F25 fuel0 a0 a1
def Orc25 (C : Nat → List A → Option A) : Prop := ∀ (a0 : Int) (a1 : Int), C 25 [(iA a0), (iA a1)] = (G25 a0 a1).map fun y => (A.tup [(A.agg [(iA y.1.X), (iA y.1.Y), (iA y.1.Z)]), (iA y.2)])
def hk20_1 (a0 : S_State) (a1 : S_Body) : Blk := Blk.box [(iA (wr .i64 ((wr .i64 (29 * a0.X)) - (wr .i64 (841 * a1.Girth))))), (iA (wr .i64 ((wr .i64 (29 * a0.X)) + (wr .i64 (841 * a1.Girth))))), (iA (wr .i64 ((wr .i64 (29 * a0.Y)) - (wr .i64 (841 * a1.Girth))))), (iA (wr .i64 ((wr .i64 (29 * a0.Y)) + (wr .i64 (841 * a1.Girth)))))]
def F20_64_0 (n : Nat) (v5 : Int) (v6 : Int) (v7 : Int) (v8 : Int) (v9 : Int) (v10 : Int) (v11 : Int) (v12 : Int) (v13 : Int) (v14 : Int) (v16 : S_State) (v17 : S_Body) (v22 : S_State) (v23 : S_Body) : Nat → Int → Int → Int → Int → Int → Option (Int × Int × Int × Int)
  | 0, _, _, _, _, _ => none
  | m + 1, v15, v18, v19, v20, v21 => bif (decide (v15 < 5)) then (Option.bind (bif decide (v15 = 0) then (some ((v5, v6))) else bif decide (v15 = 1) then (some ((v7, v8))) else bif decide (v15 = 2) then (some ((v9, v10))) else bif decide (v15 = 3) then (some ((v11, v12))) else bif decide (v15 = 4) then (some ((v13, v14))) else none) fun y25 => bif (y25.2 == 0) then (F20_64_0 n v5 v6 v7 v8 v9 v10 v11 v12 v13 v14 v16 v17 v22 v23 m (wr .i64 (v15 + 1)) v18 v19 v20 v21) else (Option.bind (G24 y25.1 v22.Face) fun y32 => Option.bind (G25 y32.1 y25.2) fun y33 => bif decide ((wr .i64 (Int.tdiv v15 2)) = 0) then (F20_64_0 n v5 v6 v7 v8 v9 v10 v11 v12 v13 v14 v16 v17 v22 v23 m (wr .i64 (v15 + 1)) ((if wr .i64 ((wr .i64 (29 * v22.X)) + (wr .i64 (v23.Reach.1 * y33.1.X))) < v18 then wr .i64 ((wr .i64 (29 * v22.X)) + (wr .i64 (v23.Reach.1 * y33.1.X))) else v18)) ((if v19 < wr .i64 ((wr .i64 (29 * v22.X)) + (wr .i64 (v23.Reach.1 * y33.1.X))) then wr .i64 ((wr .i64 (29 * v22.X)) + (wr .i64 (v23.Reach.1 * y33.1.X))) else v19)) ((if wr .i64 ((wr .i64 (29 * v22.Y)) + (wr .i64 (v23.Reach.1 * y33.1.Y))) < v20 then wr .i64 ((wr .i64 (29 * v22.Y)) + (wr .i64 (v23.Reach.1 * y33.1.Y))) else v20)) ((if v21 < wr .i64 ((wr .i64 (29 * v22.Y)) + (wr .i64 (v23.Reach.1 * y33.1.Y))) then wr .i64 ((wr .i64 (29 * v22.Y)) + (wr .i64 (v23.Reach.1 * y33.1.Y))) else v21))) else bif decide ((wr .i64 (Int.tdiv v15 2)) = 1) then (F20_64_0 n v5 v6 v7 v8 v9 v10 v11 v12 v13 v14 v16 v17 v22 v23 m (wr .i64 (v15 + 1)) ((if wr .i64 ((wr .i64 (29 * v22.X)) + (wr .i64 (v23.Reach.2.1 * y33.1.X))) < v18 then wr .i64 ((wr .i64 (29 * v22.X)) + (wr .i64 (v23.Reach.2.1 * y33.1.X))) else v18)) ((if v19 < wr .i64 ((wr .i64 (29 * v22.X)) + (wr .i64 (v23.Reach.2.1 * y33.1.X))) then wr .i64 ((wr .i64 (29 * v22.X)) + (wr .i64 (v23.Reach.2.1 * y33.1.X))) else v19)) ((if wr .i64 ((wr .i64 (29 * v22.Y)) + (wr .i64 (v23.Reach.2.1 * y33.1.Y))) < v20 then wr .i64 ((wr .i64 (29 * v22.Y)) + (wr .i64 (v23.Reach.2.1 * y33.1.Y))) else v20)) ((if v21 < wr .i64 ((wr .i64 (29 * v22.Y)) + (wr .i64 (v23.Reach.2.1 * y33.1.Y))) then wr .i64 ((wr .i64 (29 * v22.Y)) + (wr .i64 (v23.Reach.2.1 * y33.1.Y))) else v21))) else bif decide ((wr .i64 (Int.tdiv v15 2)) = 2) then (F20_64_0 n v5 v6 v7 v8 v9 v10 v11 v12 v13 v14 v16 v17 v22 v23 m (wr .i64 (v15 + 1)) ((if wr .i64 ((wr .i64 (29 * v22.X)) + (wr .i64 (v23.Reach.2.2 * y33.1.X))) < v18 then wr .i64 ((wr .i64 (29 * v22.X)) + (wr .i64 (v23.Reach.2.2 * y33.1.X))) else v18)) ((if v19 < wr .i64 ((wr .i64 (29 * v22.X)) + (wr .i64 (v23.Reach.2.2 * y33.1.X))) then wr .i64 ((wr .i64 (29 * v22.X)) + (wr .i64 (v23.Reach.2.2 * y33.1.X))) else v19)) ((if wr .i64 ((wr .i64 (29 * v22.Y)) + (wr .i64 (v23.Reach.2.2 * y33.1.Y))) < v20 then wr .i64 ((wr .i64 (29 * v22.Y)) + (wr .i64 (v23.Reach.2.2 * y33.1.Y))) else v20)) ((if v21 < wr .i64 ((wr .i64 (29 * v22.Y)) + (wr .i64 (v23.Reach.2.2 * y33.1.Y))) then wr .i64 ((wr .i64 (29 * v22.Y)) + (wr .i64 (v23.Reach.2.2 * y33.1.Y))) else v21))) else none)) else (some ((v18, v19, v20, v21)))
theorem T20_64_0 (C : Nat → List A → Option A) (n : Nat) (h16 : Orc16 C) (h23 : Orc23 C) (h24 : Orc24 C) (h25 : Orc25 C) (v5 : Int) (v6 : Int) (v7 : Int) (v8 : Int) (v9 : Int) (v10 : Int) (v11 : Int) (v12 : Int) (v13 : Int) (v14 : Int) (v16 : S_State) (v17 : S_Body) (v22 : S_State) (v23 : S_Body) {ρ γ : Type} {φ : ρ → γ → Prop} {kL : R → Option ρ} {K : (Int × Int × Int × Int) → Option γ} (kx kg : Nat → St → Option R) (kr : St → Option R) (kp : A → St → Option R) (x0 : ∀ (o0 : Int) (o1 : Int) (o2 : Int) (o3 : Int) (s0 : A) (s1 : A) (s2 : A) (s12 : A) (s13 : A), J φ (kx 0 (St.mk [(0, s0), (1, s1), (2, s2), (12, s12), (13, s13)] [Blk.box (c_S_State v16), Blk.box (c_S_Body v17), Blk.box [(iA o0), (iA o1), (iA o2), (iA o3)], Blk.box (c_S_State v22), Blk.box (c_S_Body v23), Blk.rng RSt.ready])) kL (K (o0, o1, o2, o3)) some) :
    ∀ (m : Nat) (v15 : Int) (v18 : Int) (v19 : Int) (v20 : Int) (v21 : Int), J φ (loopR (cx C) (evCallY (cx C) (n+7) (yext 110 (evCall (cx C) (n+8)) 5 (roundR (cx C) (evCall (cx C) (n+8)) (evCallY (cx C) (n+8)) (n+8) 20 0 0 5 [(4, (A.ptr 2 0))]))) (evCallY (cx C) (n+7)) (n+7) 64 0 0 6 kx kg kr kp m (St.mk [(0, (A.yld 5)), (1, (A.ptr 3 0)), (2, (A.ptr 4 0)), (12, (A.agg [(iA v5), (iA v6), (iA v7), (iA v8), (iA v9), (iA v10), (iA v11), (iA v12), (iA v13), (iA v14)])), (13, (iA v15))] [Blk.box (c_S_State v16), Blk.box (c_S_Body v17), Blk.box [(iA v18), (iA v19), (iA v20), (iA v21)], Blk.box (c_S_State v22), Blk.box (c_S_Body v23), Blk.rng RSt.ready])) kL (F20_64_0 n v5 v6 v7 v8 v9 v10 v11 v12 v13 v14 v16 v17 v22 v23 m v15 v18 v19 v20 v21) K := by
  intro m
  induction m with
  | zero => intros; exact .nn
  | succ m ih =>
    intro v15 v18 v19 v20 v21
    refine .lp (e64_0 ..) ?_
    unfold F20_64_0
    refine .st (v := (bA (decide (v15 < 5)))) (aBin_lss ..) ?_
    refine .biHN (fun hk24 => ?_) (fun hk24 => ?_)
    · refine .bg (fun t (y : Int × Int) => t = (A.agg [(iA y.1), (iA y.2)])) ?_ ?_
      · refine .sp (fun hb26 => ?_) (fun _ => ?_)
        · exact .lp (by rw [of_decide_eq_true hb26]; kernel_rfl : _ = some (A.agg [(iA v5), (iA v6)])) (.lg rfl)
        refine .sp (fun hb27 => ?_) (fun _ => ?_)
        · exact .lp (by rw [of_decide_eq_true hb27]; kernel_rfl : _ = some (A.agg [(iA v7), (iA v8)])) (.lg rfl)
        refine .sp (fun hb28 => ?_) (fun _ => ?_)
        · exact .lp (by rw [of_decide_eq_true hb28]; kernel_rfl : _ = some (A.agg [(iA v9), (iA v10)])) (.lg rfl)
        refine .sp (fun hb29 => ?_) (fun _ => ?_)
        · exact .lp (by rw [of_decide_eq_true hb29]; kernel_rfl : _ = some (A.agg [(iA v11), (iA v12)])) (.lg rfl)
        refine .sp (fun hb30 => ?_) (fun _ => ?_)
        · exact .lp (by rw [of_decide_eq_true hb30]; kernel_rfl : _ = some (A.agg [(iA v13), (iA v14)])) (.lg rfl)
        exact .nn
      rintro _ y25 rfl
      refine .s ((A.ptr 6 0), [Blk.box (c_S_State v16), Blk.box (c_S_Body v17), Blk.box [(iA v18), (iA v19), (iA v20), (iA v21)], Blk.box (c_S_State v22), Blk.box (c_S_Body v23), Blk.rng RSt.ready, Blk.box [(iA 0), (iA 0)]]) (.s [Blk.box (c_S_State v16), Blk.box (c_S_Body v17), Blk.box [(iA v18), (iA v19), (iA v20), (iA v21)], Blk.box (c_S_State v22), Blk.box (c_S_Body v23), Blk.rng RSt.ready, Blk.box [(iA y25.1), (iA y25.2)]] (.s (A.ptr 6 1) (.s (iA y25.2) ?_)))
      refine .st (v := (bA (y25.2 == 0))) (aBin_eql ..) ?_
      refine .biHN (fun hk31 => ?_) (fun hk31 => ?_)
      · refine .st (v := (iA (wr .i64 (v15 + 1)))) (aBin_add ..) ?_
        refine .s [Blk.box (c_S_State v16), Blk.box (c_S_Body v17), Blk.box [(iA v18), (iA v19), (iA v20), (iA v21)], Blk.box (c_S_State v22), Blk.box (c_S_Body v23), Blk.rng RSt.ready] ?_
        refine .cT (by kernel_rfl) ?_
        exact ih _ _ _ _ _
      refine .s (A.ptr 6 0) (.s (iA y25.1) (.s (A.ptr 3 2) (.s (iA v22.Face) ?_)))
      refine .bd (g := fun (y : (Int × Int)) => (A.tup [(iA y.1), (iA y.2)])) (h24 y25.1 v22.Face) fun y32 => ?_
      refine .s (iA y32.1) (.s (iA y32.2) (.s (A.ptr 6 1) (.s (iA y25.2) ?_)))
      refine .bd (g := fun (y : (S_Vec × Int)) => (A.tup [(A.agg [(iA y.1.X), (iA y.1.Y), (iA y.1.Z)]), (iA y.2)])) (h25 y32.1 y25.2) fun y33 => ?_
      refine .s (A.agg (c_S_Vec y33.1)) (.s (iA y33.2) (.s ((A.ptr 7 0), [Blk.box (c_S_State v16), Blk.box (c_S_Body v17), Blk.box [(iA v18), (iA v19), (iA v20), (iA v21)], Blk.box (c_S_State v22), Blk.box (c_S_Body v23), Blk.rng RSt.ready, Blk.box [(iA y25.1), (iA y25.2)], Blk.box [(iA 0), (iA 0), (iA 0)]]) (.s [Blk.box (c_S_State v16), Blk.box (c_S_Body v17), Blk.box [(iA v18), (iA v19), (iA v20), (iA v21)], Blk.box (c_S_State v22), Blk.box (c_S_Body v23), Blk.rng RSt.ready, Blk.box [(iA y25.1), (iA y25.2)], Blk.box (c_S_Vec y33.1)] ?_)))
      refine .st (v := (iA (wr .i64 (Int.tdiv v15 2)))) (aBin_quo (hb := by decide) ..) ?_
      refine .s (A.ptr 4 6) ?_
      refine .sp (fun hb34 => ?_) (fun _ => ?_)
      · refine .st (v := (A.ptr 4 6)) (by rw [of_decide_eq_true hb34]; kernel_rfl) ?_
        refine .s (iA v23.Reach.1) (.s (A.ptr 3 0) (.s (iA v22.X) ?_))
        refine .st (v := (iA (wr .i64 (29 * v22.X)))) (aBin_mul ..) ?_
        refine .s (A.ptr 7 0) (.s (iA y33.1.X) ?_)
        refine .st (v := (iA (wr .i64 (v23.Reach.1 * y33.1.X)))) (aBin_mul ..) ?_
        refine .st (v := (iA (wr .i64 ((wr .i64 (29 * v22.X)) + (wr .i64 (v23.Reach.1 * y33.1.X)))))) (aBin_add ..) ?_
        refine .s (A.ptr 3 1) (.s (iA v22.Y) ?_)
        refine .st (v := (iA (wr .i64 (29 * v22.Y)))) (aBin_mul ..) ?_
        refine .s (A.ptr 7 1) (.s (iA y33.1.Y) ?_)
        refine .st (v := (iA (wr .i64 (v23.Reach.1 * y33.1.Y)))) (aBin_mul ..) ?_
        refine .st (v := (iA (wr .i64 ((wr .i64 (29 * v22.Y)) + (wr .i64 (v23.Reach.1 * y33.1.Y)))))) (aBin_add ..) ?_
        refine .dY rfl ?_
        refine .cl (yq.trans (yext_at.trans (e20_r0 C (evCall (cx C) (n+8)) (evCallY (cx C) (n+8)) (n+8) _ _ _ _ _ _ _))) ?_
        refine .cT (by kernel_rfl) ?_
        refine .lp (rdy_at rfl) ?_
        refine .lp (rdy_at rfl) ?_
        refine .s (A.ptr 2 0) (.s (A.ptr 2 0) (.s (iA v18) (.s (iA ((if wr .i64 ((wr .i64 (29 * v22.X)) + (wr .i64 (v23.Reach.1 * y33.1.X))) < v18 then wr .i64 ((wr .i64 (29 * v22.X)) + (wr .i64 (v23.Reach.1 * y33.1.X))) else v18))) (.s (A.ptr 2 0) (.s (A.ptr 2 1) (.s (iA v19) (.s (iA ((if v19 < wr .i64 ((wr .i64 (29 * v22.X)) + (wr .i64 (v23.Reach.1 * y33.1.X))) then wr .i64 ((wr .i64 (29 * v22.X)) + (wr .i64 (v23.Reach.1 * y33.1.X))) else v19))) (.s (A.agg [(iA ((if wr .i64 ((wr .i64 (29 * v22.X)) + (wr .i64 (v23.Reach.1 * y33.1.X))) < v18 then wr .i64 ((wr .i64 (29 * v22.X)) + (wr .i64 (v23.Reach.1 * y33.1.X))) else v18))), (iA ((if v19 < wr .i64 ((wr .i64 (29 * v22.X)) + (wr .i64 (v23.Reach.1 * y33.1.X))) then wr .i64 ((wr .i64 (29 * v22.X)) + (wr .i64 (v23.Reach.1 * y33.1.X))) else v19)))]) (.s (A.ptr 2 0) (.s [Blk.box (c_S_State v16), Blk.box (c_S_Body v17), Blk.box [(iA ((if wr .i64 ((wr .i64 (29 * v22.X)) + (wr .i64 (v23.Reach.1 * y33.1.X))) < v18 then wr .i64 ((wr .i64 (29 * v22.X)) + (wr .i64 (v23.Reach.1 * y33.1.X))) else v18))), (iA ((if v19 < wr .i64 ((wr .i64 (29 * v22.X)) + (wr .i64 (v23.Reach.1 * y33.1.X))) then wr .i64 ((wr .i64 (29 * v22.X)) + (wr .i64 (v23.Reach.1 * y33.1.X))) else v19))), (iA v20), (iA v21)], Blk.box (c_S_State v22), Blk.box (c_S_Body v23), Blk.rng RSt.busy, Blk.box [(iA y25.1), (iA y25.2)], Blk.box (c_S_Vec y33.1)] ?_))))))))))
        refine .s (A.ptr 2 2) (.s (A.ptr 2 2) (.s (iA v20) (.s (iA ((if wr .i64 ((wr .i64 (29 * v22.Y)) + (wr .i64 (v23.Reach.1 * y33.1.Y))) < v20 then wr .i64 ((wr .i64 (29 * v22.Y)) + (wr .i64 (v23.Reach.1 * y33.1.Y))) else v20))) (.s (A.ptr 2 2) (.s (A.ptr 2 3) (.s (iA v21) (.s (iA ((if v21 < wr .i64 ((wr .i64 (29 * v22.Y)) + (wr .i64 (v23.Reach.1 * y33.1.Y))) then wr .i64 ((wr .i64 (29 * v22.Y)) + (wr .i64 (v23.Reach.1 * y33.1.Y))) else v21))) (.s (A.agg [(iA ((if wr .i64 ((wr .i64 (29 * v22.Y)) + (wr .i64 (v23.Reach.1 * y33.1.Y))) < v20 then wr .i64 ((wr .i64 (29 * v22.Y)) + (wr .i64 (v23.Reach.1 * y33.1.Y))) else v20))), (iA ((if v21 < wr .i64 ((wr .i64 (29 * v22.Y)) + (wr .i64 (v23.Reach.1 * y33.1.Y))) then wr .i64 ((wr .i64 (29 * v22.Y)) + (wr .i64 (v23.Reach.1 * y33.1.Y))) else v21)))]) (.s (A.ptr 2 2) (.s [Blk.box (c_S_State v16), Blk.box (c_S_Body v17), Blk.box [(iA ((if wr .i64 ((wr .i64 (29 * v22.X)) + (wr .i64 (v23.Reach.1 * y33.1.X))) < v18 then wr .i64 ((wr .i64 (29 * v22.X)) + (wr .i64 (v23.Reach.1 * y33.1.X))) else v18))), (iA ((if v19 < wr .i64 ((wr .i64 (29 * v22.X)) + (wr .i64 (v23.Reach.1 * y33.1.X))) then wr .i64 ((wr .i64 (29 * v22.X)) + (wr .i64 (v23.Reach.1 * y33.1.X))) else v19))), (iA ((if wr .i64 ((wr .i64 (29 * v22.Y)) + (wr .i64 (v23.Reach.1 * y33.1.Y))) < v20 then wr .i64 ((wr .i64 (29 * v22.Y)) + (wr .i64 (v23.Reach.1 * y33.1.Y))) else v20))), (iA ((if v21 < wr .i64 ((wr .i64 (29 * v22.Y)) + (wr .i64 (v23.Reach.1 * y33.1.Y))) then wr .i64 ((wr .i64 (29 * v22.Y)) + (wr .i64 (v23.Reach.1 * y33.1.Y))) else v21)))], Blk.box (c_S_State v22), Blk.box (c_S_Body v23), Blk.rng RSt.busy, Blk.box [(iA y25.1), (iA y25.2)], Blk.box (c_S_Vec y33.1)] ?_))))))))))
        refine .lp (bsy_at rfl) ?_
        refine .cr ?_
        refine .ok ?_
        refine .s (bA false) ?_
        refine .bFN ?_
        refine .st (v := (iA (wr .i64 (v15 + 1)))) (aBin_add ..) ?_
        refine .s [Blk.box (c_S_State v16), Blk.box (c_S_Body v17), Blk.box [(iA ((if wr .i64 ((wr .i64 (29 * v22.X)) + (wr .i64 (v23.Reach.1 * y33.1.X))) < v18 then wr .i64 ((wr .i64 (29 * v22.X)) + (wr .i64 (v23.Reach.1 * y33.1.X))) else v18))), (iA ((if v19 < wr .i64 ((wr .i64 (29 * v22.X)) + (wr .i64 (v23.Reach.1 * y33.1.X))) then wr .i64 ((wr .i64 (29 * v22.X)) + (wr .i64 (v23.Reach.1 * y33.1.X))) else v19))), (iA ((if wr .i64 ((wr .i64 (29 * v22.Y)) + (wr .i64 (v23.Reach.1 * y33.1.Y))) < v20 then wr .i64 ((wr .i64 (29 * v22.Y)) + (wr .i64 (v23.Reach.1 * y33.1.Y))) else v20))), (iA ((if v21 < wr .i64 ((wr .i64 (29 * v22.Y)) + (wr .i64 (v23.Reach.1 * y33.1.Y))) then wr .i64 ((wr .i64 (29 * v22.Y)) + (wr .i64 (v23.Reach.1 * y33.1.Y))) else v21)))], Blk.box (c_S_State v22), Blk.box (c_S_Body v23), Blk.rng RSt.ready] ?_
        refine .cT (by kernel_rfl) ?_
        exact ih _ _ _ _ _
      refine .sp (fun hb35 => ?_) (fun _ => ?_)
      · refine .st (v := (A.ptr 4 7)) (by rw [of_decide_eq_true hb35]; kernel_rfl) ?_
        refine .s (iA v23.Reach.2.1) (.s (A.ptr 3 0) (.s (iA v22.X) ?_))
        refine .st (v := (iA (wr .i64 (29 * v22.X)))) (aBin_mul ..) ?_
        refine .s (A.ptr 7 0) (.s (iA y33.1.X) ?_)
        refine .st (v := (iA (wr .i64 (v23.Reach.2.1 * y33.1.X)))) (aBin_mul ..) ?_
        refine .st (v := (iA (wr .i64 ((wr .i64 (29 * v22.X)) + (wr .i64 (v23.Reach.2.1 * y33.1.X)))))) (aBin_add ..) ?_
        refine .s (A.ptr 3 1) (.s (iA v22.Y) ?_)
        refine .st (v := (iA (wr .i64 (29 * v22.Y)))) (aBin_mul ..) ?_
        refine .s (A.ptr 7 1) (.s (iA y33.1.Y) ?_)
        refine .st (v := (iA (wr .i64 (v23.Reach.2.1 * y33.1.Y)))) (aBin_mul ..) ?_
        refine .st (v := (iA (wr .i64 ((wr .i64 (29 * v22.Y)) + (wr .i64 (v23.Reach.2.1 * y33.1.Y)))))) (aBin_add ..) ?_
        refine .dY rfl ?_
        refine .cl (yq.trans (yext_at.trans (e20_r0 C (evCall (cx C) (n+8)) (evCallY (cx C) (n+8)) (n+8) _ _ _ _ _ _ _))) ?_
        refine .cT (by kernel_rfl) ?_
        refine .lp (rdy_at rfl) ?_
        refine .lp (rdy_at rfl) ?_
        refine .s (A.ptr 2 0) (.s (A.ptr 2 0) (.s (iA v18) (.s (iA ((if wr .i64 ((wr .i64 (29 * v22.X)) + (wr .i64 (v23.Reach.2.1 * y33.1.X))) < v18 then wr .i64 ((wr .i64 (29 * v22.X)) + (wr .i64 (v23.Reach.2.1 * y33.1.X))) else v18))) (.s (A.ptr 2 0) (.s (A.ptr 2 1) (.s (iA v19) (.s (iA ((if v19 < wr .i64 ((wr .i64 (29 * v22.X)) + (wr .i64 (v23.Reach.2.1 * y33.1.X))) then wr .i64 ((wr .i64 (29 * v22.X)) + (wr .i64 (v23.Reach.2.1 * y33.1.X))) else v19))) (.s (A.agg [(iA ((if wr .i64 ((wr .i64 (29 * v22.X)) + (wr .i64 (v23.Reach.2.1 * y33.1.X))) < v18 then wr .i64 ((wr .i64 (29 * v22.X)) + (wr .i64 (v23.Reach.2.1 * y33.1.X))) else v18))), (iA ((if v19 < wr .i64 ((wr .i64 (29 * v22.X)) + (wr .i64 (v23.Reach.2.1 * y33.1.X))) then wr .i64 ((wr .i64 (29 * v22.X)) + (wr .i64 (v23.Reach.2.1 * y33.1.X))) else v19)))]) (.s (A.ptr 2 0) (.s [Blk.box (c_S_State v16), Blk.box (c_S_Body v17), Blk.box [(iA ((if wr .i64 ((wr .i64 (29 * v22.X)) + (wr .i64 (v23.Reach.2.1 * y33.1.X))) < v18 then wr .i64 ((wr .i64 (29 * v22.X)) + (wr .i64 (v23.Reach.2.1 * y33.1.X))) else v18))), (iA ((if v19 < wr .i64 ((wr .i64 (29 * v22.X)) + (wr .i64 (v23.Reach.2.1 * y33.1.X))) then wr .i64 ((wr .i64 (29 * v22.X)) + (wr .i64 (v23.Reach.2.1 * y33.1.X))) else v19))), (iA v20), (iA v21)], Blk.box (c_S_State v22), Blk.box (c_S_Body v23), Blk.rng RSt.busy, Blk.box [(iA y25.1), (iA y25.2)], Blk.box (c_S_Vec y33.1)] ?_))))))))))
        refine .s (A.ptr 2 2) (.s (A.ptr 2 2) (.s (iA v20) (.s (iA ((if wr .i64 ((wr .i64 (29 * v22.Y)) + (wr .i64 (v23.Reach.2.1 * y33.1.Y))) < v20 then wr .i64 ((wr .i64 (29 * v22.Y)) + (wr .i64 (v23.Reach.2.1 * y33.1.Y))) else v20))) (.s (A.ptr 2 2) (.s (A.ptr 2 3) (.s (iA v21) (.s (iA ((if v21 < wr .i64 ((wr .i64 (29 * v22.Y)) + (wr .i64 (v23.Reach.2.1 * y33.1.Y))) then wr .i64 ((wr .i64 (29 * v22.Y)) + (wr .i64 (v23.Reach.2.1 * y33.1.Y))) else v21))) (.s (A.agg [(iA ((if wr .i64 ((wr .i64 (29 * v22.Y)) + (wr .i64 (v23.Reach.2.1 * y33.1.Y))) < v20 then wr .i64 ((wr .i64 (29 * v22.Y)) + (wr .i64 (v23.Reach.2.1 * y33.1.Y))) else v20))), (iA ((if v21 < wr .i64 ((wr .i64 (29 * v22.Y)) + (wr .i64 (v23.Reach.2.1 * y33.1.Y))) then wr .i64 ((wr .i64 (29 * v22.Y)) + (wr .i64 (v23.Reach.2.1 * y33.1.Y))) else v21)))]) (.s (A.ptr 2 2) (.s [Blk.box (c_S_State v16), Blk.box (c_S_Body v17), Blk.box [(iA ((if wr .i64 ((wr .i64 (29 * v22.X)) + (wr .i64 (v23.Reach.2.1 * y33.1.X))) < v18 then wr .i64 ((wr .i64 (29 * v22.X)) + (wr .i64 (v23.Reach.2.1 * y33.1.X))) else v18))), (iA ((if v19 < wr .i64 ((wr .i64 (29 * v22.X)) + (wr .i64 (v23.Reach.2.1 * y33.1.X))) then wr .i64 ((wr .i64 (29 * v22.X)) + (wr .i64 (v23.Reach.2.1 * y33.1.X))) else v19))), (iA ((if wr .i64 ((wr .i64 (29 * v22.Y)) + (wr .i64 (v23.Reach.2.1 * y33.1.Y))) < v20 then wr .i64 ((wr .i64 (29 * v22.Y)) + (wr .i64 (v23.Reach.2.1 * y33.1.Y))) else v20))), (iA ((if v21 < wr .i64 ((wr .i64 (29 * v22.Y)) + (wr .i64 (v23.Reach.2.1 * y33.1.Y))) then wr .i64 ((wr .i64 (29 * v22.Y)) + (wr .i64 (v23.Reach.2.1 * y33.1.Y))) else v21)))], Blk.box (c_S_State v22), Blk.box (c_S_Body v23), Blk.rng RSt.busy, Blk.box [(iA y25.1), (iA y25.2)], Blk.box (c_S_Vec y33.1)] ?_))))))))))
        refine .lp (bsy_at rfl) ?_
        refine .cr ?_
        refine .ok ?_
        refine .s (bA false) ?_
        refine .bFN ?_
        refine .st (v := (iA (wr .i64 (v15 + 1)))) (aBin_add ..) ?_
        refine .s [Blk.box (c_S_State v16), Blk.box (c_S_Body v17), Blk.box [(iA ((if wr .i64 ((wr .i64 (29 * v22.X)) + (wr .i64 (v23.Reach.2.1 * y33.1.X))) < v18 then wr .i64 ((wr .i64 (29 * v22.X)) + (wr .i64 (v23.Reach.2.1 * y33.1.X))) else v18))), (iA ((if v19 < wr .i64 ((wr .i64 (29 * v22.X)) + (wr .i64 (v23.Reach.2.1 * y33.1.X))) then wr .i64 ((wr .i64 (29 * v22.X)) + (wr .i64 (v23.Reach.2.1 * y33.1.X))) else v19))), (iA ((if wr .i64 ((wr .i64 (29 * v22.Y)) + (wr .i64 (v23.Reach.2.1 * y33.1.Y))) < v20 then wr .i64 ((wr .i64 (29 * v22.Y)) + (wr .i64 (v23.Reach.2.1 * y33.1.Y))) else v20))), (iA ((if v21 < wr .i64 ((wr .i64 (29 * v22.Y)) + (wr .i64 (v23.Reach.2.1 * y33.1.Y))) then wr .i64 ((wr .i64 (29 * v22.Y)) + (wr .i64 (v23.Reach.2.1 * y33.1.Y))) else v21)))], Blk.box (c_S_State v22), Blk.box (c_S_Body v23), Blk.rng RSt.ready] ?_
        refine .cT (by kernel_rfl) ?_
        exact ih _ _ _ _ _
      refine .sp (fun hb36 => ?_) (fun _ => ?_)
      · refine .st (v := (A.ptr 4 8)) (by rw [of_decide_eq_true hb36]; kernel_rfl) ?_
        refine .s (iA v23.Reach.2.2) (.s (A.ptr 3 0) (.s (iA v22.X) ?_))
        refine .st (v := (iA (wr .i64 (29 * v22.X)))) (aBin_mul ..) ?_
        refine .s (A.ptr 7 0) (.s (iA y33.1.X) ?_)
        refine .st (v := (iA (wr .i64 (v23.Reach.2.2 * y33.1.X)))) (aBin_mul ..) ?_
        refine .st (v := (iA (wr .i64 ((wr .i64 (29 * v22.X)) + (wr .i64 (v23.Reach.2.2 * y33.1.X)))))) (aBin_add ..) ?_
        refine .s (A.ptr 3 1) (.s (iA v22.Y) ?_)
        refine .st (v := (iA (wr .i64 (29 * v22.Y)))) (aBin_mul ..) ?_
        refine .s (A.ptr 7 1) (.s (iA y33.1.Y) ?_)
        refine .st (v := (iA (wr .i64 (v23.Reach.2.2 * y33.1.Y)))) (aBin_mul ..) ?_
        refine .st (v := (iA (wr .i64 ((wr .i64 (29 * v22.Y)) + (wr .i64 (v23.Reach.2.2 * y33.1.Y)))))) (aBin_add ..) ?_
        refine .dY rfl ?_
        refine .cl (yq.trans (yext_at.trans (e20_r0 C (evCall (cx C) (n+8)) (evCallY (cx C) (n+8)) (n+8) _ _ _ _ _ _ _))) ?_
        refine .cT (by kernel_rfl) ?_
        refine .lp (rdy_at rfl) ?_
        refine .lp (rdy_at rfl) ?_
        refine .s (A.ptr 2 0) (.s (A.ptr 2 0) (.s (iA v18) (.s (iA ((if wr .i64 ((wr .i64 (29 * v22.X)) + (wr .i64 (v23.Reach.2.2 * y33.1.X))) < v18 then wr .i64 ((wr .i64 (29 * v22.X)) + (wr .i64 (v23.Reach.2.2 * y33.1.X))) else v18))) (.s (A.ptr 2 0) (.s (A.ptr 2 1) (.s (iA v19) (.s (iA ((if v19 < wr .i64 ((wr .i64 (29 * v22.X)) + (wr .i64 (v23.Reach.2.2 * y33.1.X))) then wr .i64 ((wr .i64 (29 * v22.X)) + (wr .i64 (v23.Reach.2.2 * y33.1.X))) else v19))) (.s (A.agg [(iA ((if wr .i64 ((wr .i64 (29 * v22.X)) + (wr .i64 (v23.Reach.2.2 * y33.1.X))) < v18 then wr .i64 ((wr .i64 (29 * v22.X)) + (wr .i64 (v23.Reach.2.2 * y33.1.X))) else v18))), (iA ((if v19 < wr .i64 ((wr .i64 (29 * v22.X)) + (wr .i64 (v23.Reach.2.2 * y33.1.X))) then wr .i64 ((wr .i64 (29 * v22.X)) + (wr .i64 (v23.Reach.2.2 * y33.1.X))) else v19)))]) (.s (A.ptr 2 0) (.s [Blk.box (c_S_State v16), Blk.box (c_S_Body v17), Blk.box [(iA ((if wr .i64 ((wr .i64 (29 * v22.X)) + (wr .i64 (v23.Reach.2.2 * y33.1.X))) < v18 then wr .i64 ((wr .i64 (29 * v22.X)) + (wr .i64 (v23.Reach.2.2 * y33.1.X))) else v18))), (iA ((if v19 < wr .i64 ((wr .i64 (29 * v22.X)) + (wr .i64 (v23.Reach.2.2 * y33.1.X))) then wr .i64 ((wr .i64 (29 * v22.X)) + (wr .i64 (v23.Reach.2.2 * y33.1.X))) else v19))), (iA v20), (iA v21)], Blk.box (c_S_State v22), Blk.box (c_S_Body v23), Blk.rng RSt.busy, Blk.box [(iA y25.1), (iA y25.2)], Blk.box (c_S_Vec y33.1)] ?_))))))))))
        refine .s (A.ptr 2 2) (.s (A.ptr 2 2) (.s (iA v20) (.s (iA ((if wr .i64 ((wr .i64 (29 * v22.Y)) + (wr .i64 (v23.Reach.2.2 * y33.1.Y))) < v20 then wr .i64 ((wr .i64 (29 * v22.Y)) + (wr .i64 (v23.Reach.2.2 * y33.1.Y))) else v20))) (.s (A.ptr 2 2) (.s (A.ptr 2 3) (.s (iA v21) (.s (iA ((if v21 < wr .i64 ((wr .i64 (29 * v22.Y)) + (wr .i64 (v23.Reach.2.2 * y33.1.Y))) then wr .i64 ((wr .i64 (29 * v22.Y)) + (wr .i64 (v23.Reach.2.2 * y33.1.Y))) else v21))) (.s (A.agg [(iA ((if wr .i64 ((wr .i64 (29 * v22.Y)) + (wr .i64 (v23.Reach.2.2 * y33.1.Y))) < v20 then wr .i64 ((wr .i64 (29 * v22.Y)) + (wr .i64 (v23.Reach.2.2 * y33.1.Y))) else v20))), (iA ((if v21 < wr .i64 ((wr .i64 (29 * v22.Y)) + (wr .i64 (v23.Reach.2.2 * y33.1.Y))) then wr .i64 ((wr .i64 (29 * v22.Y)) + (wr .i64 (v23.Reach.2.2 * y33.1.Y))) else v21)))]) (.s (A.ptr 2 2) (.s [Blk.box (c_S_State v16), Blk.box (c_S_Body v17), Blk.box [(iA ((if wr .i64 ((wr .i64 (29 * v22.X)) + (wr .i64 (v23.Reach.2.2 * y33.1.X))) < v18 then wr .i64 ((wr .i64 (29 * v22.X)) + (wr .i64 (v23.Reach.2.2 * y33.1.X))) else v18))), (iA ((if v19 < wr .i64 ((wr .i64 (29 * v22.X)) + (wr .i64 (v23.Reach.2.2 * y33.1.X))) then wr .i64 ((wr .i64 (29 * v22.X)) + (wr .i64 (v23.Reach.2.2 * y33.1.X))) else v19))), (iA ((if wr .i64 ((wr .i64 (29 * v22.Y)) + (wr .i64 (v23.Reach.2.2 * y33.1.Y))) < v20 then wr .i64 ((wr .i64 (29 * v22.Y)) + (wr .i64 (v23.Reach.2.2 * y33.1.Y))) else v20))), (iA ((if v21 < wr .i64 ((wr .i64 (29 * v22.Y)) + (wr .i64 (v23.Reach.2.2 * y33.1.Y))) then wr .i64 ((wr .i64 (29 * v22.Y)) + (wr .i64 (v23.Reach.2.2 * y33.1.Y))) else v21)))], Blk.box (c_S_State v22), Blk.box (c_S_Body v23), Blk.rng RSt.busy, Blk.box [(iA y25.1), (iA y25.2)], Blk.box (c_S_Vec y33.1)] ?_))))))))))
        refine .lp (bsy_at rfl) ?_
        refine .cr ?_
        refine .ok ?_
        refine .s (bA false) ?_
        refine .bFN ?_
        refine .st (v := (iA (wr .i64 (v15 + 1)))) (aBin_add ..) ?_
        refine .s [Blk.box (c_S_State v16), Blk.box (c_S_Body v17), Blk.box [(iA ((if wr .i64 ((wr .i64 (29 * v22.X)) + (wr .i64 (v23.Reach.2.2 * y33.1.X))) < v18 then wr .i64 ((wr .i64 (29 * v22.X)) + (wr .i64 (v23.Reach.2.2 * y33.1.X))) else v18))), (iA ((if v19 < wr .i64 ((wr .i64 (29 * v22.X)) + (wr .i64 (v23.Reach.2.2 * y33.1.X))) then wr .i64 ((wr .i64 (29 * v22.X)) + (wr .i64 (v23.Reach.2.2 * y33.1.X))) else v19))), (iA ((if wr .i64 ((wr .i64 (29 * v22.Y)) + (wr .i64 (v23.Reach.2.2 * y33.1.Y))) < v20 then wr .i64 ((wr .i64 (29 * v22.Y)) + (wr .i64 (v23.Reach.2.2 * y33.1.Y))) else v20))), (iA ((if v21 < wr .i64 ((wr .i64 (29 * v22.Y)) + (wr .i64 (v23.Reach.2.2 * y33.1.Y))) then wr .i64 ((wr .i64 (29 * v22.Y)) + (wr .i64 (v23.Reach.2.2 * y33.1.Y))) else v21)))], Blk.box (c_S_State v22), Blk.box (c_S_Body v23), Blk.rng RSt.ready] ?_
        refine .cT (by kernel_rfl) ?_
        exact ih _ _ _ _ _
      exact .nn
    exact .ex (x0 _ _ _ _ _ _ _ _ _)
def F20 (n : Nat) (a0 : S_State) (a1 : S_Body) : Option (S_Box × Int) :=
  Option.bind (G16 a0) fun y1 => bif (y1 != 0) then (some (((S_Box.mk ((S_Range.mk 0 0)) ((S_Range.mk 0 0))), y1))) else (Option.bind (G23 a1) fun y3 => bif (y3 != 0) then (some (((S_Box.mk ((S_Range.mk 0 0)) ((S_Range.mk 0 0))), y3))) else (Option.bind (F20_64_0 n a0.Limbs.1.Dir a0.Limbs.1.Level a0.Limbs.2.1.Dir a0.Limbs.2.1.Level a0.Limbs.2.2.1.Dir a0.Limbs.2.2.1.Level a0.Limbs.2.2.2.1.Dir a0.Limbs.2.2.2.1.Level a0.Limbs.2.2.2.2.Dir a0.Limbs.2.2.2.2.Level a0 a1 a0 a1 (n+7) 0 (wr .i64 ((wr .i64 (29 * a0.X)) - (wr .i64 (841 * a1.Girth)))) (wr .i64 ((wr .i64 (29 * a0.X)) + (wr .i64 (841 * a1.Girth)))) (wr .i64 ((wr .i64 (29 * a0.Y)) - (wr .i64 (841 * a1.Girth)))) (wr .i64 ((wr .i64 (29 * a0.Y)) + (wr .i64 (841 * a1.Girth))))) fun o37 => match o37 with | (y38, y39, y40, y41) => some (((S_Box.mk ((S_Range.mk y38 y39)) ((S_Range.mk y40 y41))), 0))))
theorem T20 (C : Nat → List A → Option A) (n : Nat) (h16 : Orc16 C) (h23 : Orc23 C) (h24 : Orc24 C) (h25 : Orc25 C) (a0 : S_State) (a1 : S_Body) : J (fun (o : R) y => ∃ v, o.1 = .ret v ∧ snapE o.2 v = (A.tup [(A.agg [(iA y.1.X.Lo), (iA y.1.X.Hi), (iA y.1.Y.Lo), (iA y.1.Y.Hi)]), (iA y.2)])) (evCall1 (cx C) (evCall (cx C) (n+8)) (evCallY (cx C) (n+8)) (n+8) 20 [(A.agg (c_S_State a0)), (A.agg (c_S_Body a1))] [] 0) some (F20 n a0 a1) some := by
  refine .lp (e20 ..) ?_
  unfold F20
  refine .s ((A.ptr 0 0), [Blk.box (c_S_State a0)]) (.s ((A.ptr 1 0), [Blk.box (c_S_State a0), Blk.box (c_S_Body a1)]) (.s ((A.ptr 2 0), [Blk.box (c_S_State a0), Blk.box (c_S_Body a1), Blk.box [(iA 0), (iA 0), (iA 0), (iA 0)]]) (.s (A.agg (c_S_State a0)) ?_)))
  refine .bd (g := fun (y : Int) => (iA y)) (h16 a0) fun y1 => ?_
  refine .st (v := (bA (y1 != 0))) (aBin_neq ..) ?_
  refine .biHN (fun hk2 => ?_) (fun hk2 => ?_)
  · refine .s (A.agg [(iA 0), (iA 0), (iA 0), (iA 0)]) (.s [Blk.box (c_S_State a0), Blk.box (c_S_Body a1), Blk.box [(iA 0), (iA 0), (iA 0), (iA 0)]] (.s (A.agg [(iA 0), (iA 0), (iA 0), (iA 0)]) ?_))
    exact .lf rfl rfl ⟨_, rfl, rfl⟩
  refine .s (A.agg (c_S_Body a1)) ?_
  refine .bd (g := fun (y : Int) => (iA y)) (h23 a1) fun y3 => ?_
  refine .st (v := (bA (y3 != 0))) (aBin_neq ..) ?_
  refine .biHN (fun hk4 => ?_) (fun hk4 => ?_)
  · refine .s (A.agg [(iA 0), (iA 0), (iA 0), (iA 0)]) (.s [Blk.box (c_S_State a0), Blk.box (c_S_Body a1), Blk.box [(iA 0), (iA 0), (iA 0), (iA 0)]] (.s (A.agg [(iA 0), (iA 0), (iA 0), (iA 0)]) ?_))
    exact .lf rfl rfl ⟨_, rfl, rfl⟩
  refine .s (A.ptr 1 3) (.s (iA a1.Girth) ?_)
  refine .st (v := (iA (wr .i64 (841 * a1.Girth)))) (aBin_mul ..) ?_
  refine .s (A.ptr 0 0) (.s (iA a0.X) ?_)
  refine .st (v := (iA (wr .i64 (29 * a0.X)))) (aBin_mul ..) ?_
  refine .st (v := (iA (wr .i64 ((wr .i64 (29 * a0.X)) - (wr .i64 (841 * a1.Girth)))))) (aBin_sub ..) ?_
  refine .s (A.ptr 0 0) (.s (iA a0.X) ?_)
  refine .st (v := (iA (wr .i64 (29 * a0.X)))) (aBin_mul ..) ?_
  refine .st (v := (iA (wr .i64 ((wr .i64 (29 * a0.X)) + (wr .i64 (841 * a1.Girth)))))) (aBin_add ..) ?_
  refine .s (A.agg [(iA (wr .i64 ((wr .i64 (29 * a0.X)) - (wr .i64 (841 * a1.Girth))))), (iA (wr .i64 ((wr .i64 (29 * a0.X)) + (wr .i64 (841 * a1.Girth)))))]) (.s (A.ptr 0 1) (.s (iA a0.Y) ?_))
  refine .st (v := (iA (wr .i64 (29 * a0.Y)))) (aBin_mul ..) ?_
  refine .st (v := (iA (wr .i64 ((wr .i64 (29 * a0.Y)) - (wr .i64 (841 * a1.Girth)))))) (aBin_sub ..) ?_
  refine .s (A.ptr 0 1) (.s (iA a0.Y) ?_)
  refine .st (v := (iA (wr .i64 (29 * a0.Y)))) (aBin_mul ..) ?_
  refine .st (v := (iA (wr .i64 ((wr .i64 (29 * a0.Y)) + (wr .i64 (841 * a1.Girth)))))) (aBin_add ..) ?_
  refine .s (A.agg [(iA (wr .i64 ((wr .i64 (29 * a0.Y)) - (wr .i64 (841 * a1.Girth))))), (iA (wr .i64 ((wr .i64 (29 * a0.Y)) + (wr .i64 (841 * a1.Girth)))))]) (.s (A.agg [(iA (wr .i64 ((wr .i64 (29 * a0.X)) - (wr .i64 (841 * a1.Girth))))), (iA (wr .i64 ((wr .i64 (29 * a0.X)) + (wr .i64 (841 * a1.Girth))))), (iA (wr .i64 ((wr .i64 (29 * a0.Y)) - (wr .i64 (841 * a1.Girth))))), (iA (wr .i64 ((wr .i64 (29 * a0.Y)) + (wr .i64 (841 * a1.Girth)))))]) (.s [Blk.box (c_S_State a0), Blk.box (c_S_Body a1), (hk20_1 a0 a1)] (.s (A.agg (c_S_State a0)) (.s (A.agg (c_S_Body a1)) ?_))))
  refine .cl ((evCall_in lt_38).trans (e38 C (evCall (cx C) (n+7)) (evCallY (cx C) (n+7)) (n+7) _ _ _ _)) ?_
  refine .s ((A.ptr 3 0), [Blk.box (c_S_State a0), Blk.box (c_S_Body a1), (hk20_1 a0 a1), Blk.box (c_S_State a0)]) (.s ((A.ptr 4 0), [Blk.box (c_S_State a0), Blk.box (c_S_Body a1), (hk20_1 a0 a1), Blk.box (c_S_State a0), Blk.box (c_S_Body a1)]) ?_)
  refine .cr ?_
  refine .ok ?_
  refine .s (64, [(A.ptr 3 0), (A.ptr 4 0)]) ?_
  refine .cT (by kernel_rfl) ?_
  refine .cl ((evCallY_in lt_64).trans (e64 C (evCallY (cx C) (n+7) (yext 110 (evCall (cx C) (n+8)) 5 (roundR (cx C) (evCall (cx C) (n+8)) (evCallY (cx C) (n+8)) (n+8) 20 0 0 5 [(4, (A.ptr 2 0))]))) (evCallY (cx C) (n+7)) (n+7) _ _ _ _ _)) ?_
  refine .s (A.ptr 3 3) (.s (A.agg [(iA a0.Limbs.1.Dir), (iA a0.Limbs.1.Level), (iA a0.Limbs.2.1.Dir), (iA a0.Limbs.2.1.Level), (iA a0.Limbs.2.2.1.Dir), (iA a0.Limbs.2.2.1.Level), (iA a0.Limbs.2.2.2.1.Dir), (iA a0.Limbs.2.2.2.1.Level), (iA a0.Limbs.2.2.2.2.Dir), (iA a0.Limbs.2.2.2.2.Level)]) ?_)
  refine .as (T20_64_0 C n h16 h23 h24 h25 a0.Limbs.1.Dir a0.Limbs.1.Level a0.Limbs.2.1.Dir a0.Limbs.2.1.Level a0.Limbs.2.2.1.Dir a0.Limbs.2.2.1.Level a0.Limbs.2.2.2.1.Dir a0.Limbs.2.2.2.1.Level a0.Limbs.2.2.2.2.Dir a0.Limbs.2.2.2.2.Level a0 a1 a0 a1 _ _ _ _ ?_ _ 0 (wr .i64 ((wr .i64 (29 * a0.X)) - (wr .i64 (841 * a1.Girth)))) (wr .i64 ((wr .i64 (29 * a0.X)) + (wr .i64 (841 * a1.Girth)))) (wr .i64 ((wr .i64 (29 * a0.Y)) - (wr .i64 (841 * a1.Girth)))) (wr .i64 ((wr .i64 (29 * a0.Y)) + (wr .i64 (841 * a1.Girth)))))
  · intro y38 y39 y40 y41 j42 j43 j44 j45 j46
    refine .un rfl ?_
    refine .cT (by kernel_rfl) ?_
    refine .cr ?_
    refine .ok ?_
    refine .lp (rs_n rfl) ?_
    refine .s (A.agg [(iA y38), (iA y39), (iA y40), (iA y41)]) (.s [Blk.box (c_S_State a0), Blk.box (c_S_Body a1), Blk.box [(iA y38), (iA y39), (iA y40), (iA y41)], Blk.box (c_S_State a0), Blk.box (c_S_Body a1), Blk.dead] (.s (A.agg [(iA y38), (iA y39), (iA y40), (iA y41)]) ?_))
    exact .lf rfl rfl ⟨_, rfl, rfl⟩
def G20 (a0 : S_State) (a1 : S_Body) : Option (S_Box × Int) := F20 fuel0 a0 a1
def Orc20 (C : Nat → List A → Option A) : Prop := ∀ (a0 : S_State) (a1 : S_Body), C 20 [(A.agg (c_S_State a0)), (A.agg (c_S_Body a1))] = (G20 a0 a1).map fun y => (A.tup [(A.agg [(iA y.1.X.Lo), (iA y.1.X.Hi), (iA y.1.Y.Lo), (iA y.1.Y.Hi)]), (iA y.2)])
def F31 (n : Nat) (a0 : Int) : Option (Int × Int) :=
  Option.bind (bif (decide (a0 < 0)) then (some true) else (some (decide (8 < a0)))) fun y2 => bif y2 then (some ((0, 150))) else (bif (decide (a0 ≤ 1)) then (some ((a0, 0))) else (some ((wr .i64 (10 - a0), 0))))
theorem T31 (C : Nat → List A → Option A) (n : Nat) (a0 : Int) : J (fun (o : R) y => ∃ v, o.1 = .ret v ∧ snapE o.2 v = (A.tup [(iA y.1), (iA y.2)])) (evCall1 (cx C) (evCall (cx C) (n+8)) (evCallY (cx C) (n+8)) (n+8) 31 [(iA a0)] [] 0) some (F31 n a0) some := by
  refine .lp (e31 ..) ?_
  unfold F31
  refine .st (v := (bA (decide (a0 < 0)))) (aBin_lss ..) ?_
  refine .bg (fun t (y : Bool) => ∃ j3 j4 : A, t = [(bA y), j3, j4]) ?_ ?_
  · refine .biH (fun hk1 => ?_) (fun hk1 => ?_)
    · exact .lg ⟨_, _, rfl⟩
    refine .st (v := (bA (decide (8 < a0)))) (aBin_gtr ..) ?_
    exact .lg ⟨_, _, rfl⟩
  rintro _ y2 ⟨j3, j4, rfl⟩
  iterate 3 refine .uc ?_
  refine .biHN (fun hk5 => ?_) (fun hk5 => ?_)
  · exact .lf rfl rfl ⟨_, rfl, rfl⟩
  refine .st (v := (bA (decide (a0 ≤ 1)))) (aBin_leq ..) ?_
  refine .biHN (fun hk6 => ?_) (fun hk6 => ?_)
  · exact .lf rfl rfl ⟨_, rfl, rfl⟩
  refine .st (v := (iA (wr .i64 (10 - a0)))) (aBin_sub ..) ?_
  exact .lf rfl rfl ⟨_, rfl, rfl⟩
def G31 (a0 : Int) : Option (Int × Int) := F31 fuel0 a0
def Orc31 (C : Nat → List A → Option A) : Prop := ∀ (a0 : Int), C 31 [(iA a0)] = (G31 a0).map fun y => (A.tup [(iA y.1), (iA y.2)])
def F14_14_0 (n : Nat) (v5 : Int) (v6 : Int) (v7 : Int) (v8 : Int) (v9 : Int) (v10 : Int) (v12 : S_State) (v13 : Int) (v14 : Int) (v15 : Int) : Nat → Int → Int → Int → Int → Int → Int → Int → Int → Int → Int → Int → Option (Int × Int × Int × Int × Int × Int × Int × Int × Int × Int)
  | 0, _, _, _, _, _, _, _, _, _, _, _ => none
  | m + 1, v11, v16, v17, v18, v19, v20, v21, v22, v23, v24, v25 => bif (decide (v11 < 5)) then (Option.bind (bif decide (v11 = 0) then (some v6) else bif decide (v11 = 1) then (some v7) else bif decide (v11 = 2) then (some v8) else bif decide (v11 = 3) then (some v9) else bif decide (v11 = 4) then (some v10) else none) fun y27 => bif decide (y27 = 0) then (bif decide (v11 = 0) then (Option.bind (G31 v12.Limbs.1.Dir) fun y35 => F14_14_0 n v5 v6 v7 v8 v9 v10 v12 v13 v14 v15 m (wr .i64 (v11 + 1)) y35.1 v12.Limbs.1.Level v18 v19 v20 v21 v22 v23 v24 v25) else bif decide (v11 = 1) then (Option.bind (G31 v12.Limbs.1.Dir) fun y37 => F14_14_0 n v5 v6 v7 v8 v9 v10 v12 v13 v14 v15 m (wr .i64 (v11 + 1)) v16 v17 y37.1 v12.Limbs.1.Level v20 v21 v22 v23 v24 v25) else bif decide (v11 = 2) then (Option.bind (G31 v12.Limbs.1.Dir) fun y39 => F14_14_0 n v5 v6 v7 v8 v9 v10 v12 v13 v14 v15 m (wr .i64 (v11 + 1)) v16 v17 v18 v19 y39.1 v12.Limbs.1.Level v22 v23 v24 v25) else bif decide (v11 = 3) then (Option.bind (G31 v12.Limbs.1.Dir) fun y41 => F14_14_0 n v5 v6 v7 v8 v9 v10 v12 v13 v14 v15 m (wr .i64 (v11 + 1)) v16 v17 v18 v19 v20 v21 y41.1 v12.Limbs.1.Level v24 v25) else bif decide (v11 = 4) then (Option.bind (G31 v12.Limbs.1.Dir) fun y43 => F14_14_0 n v5 v6 v7 v8 v9 v10 v12 v13 v14 v15 m (wr .i64 (v11 + 1)) v16 v17 v18 v19 v20 v21 v22 v23 y43.1 v12.Limbs.1.Level) else none) else bif decide (y27 = 1) then (bif decide (v11 = 0) then (Option.bind (G31 v12.Limbs.2.1.Dir) fun y46 => F14_14_0 n v5 v6 v7 v8 v9 v10 v12 v13 v14 v15 m (wr .i64 (v11 + 1)) y46.1 v12.Limbs.2.1.Level v18 v19 v20 v21 v22 v23 v24 v25) else bif decide (v11 = 1) then (Option.bind (G31 v12.Limbs.2.1.Dir) fun y48 => F14_14_0 n v5 v6 v7 v8 v9 v10 v12 v13 v14 v15 m (wr .i64 (v11 + 1)) v16 v17 y48.1 v12.Limbs.2.1.Level v20 v21 v22 v23 v24 v25) else bif decide (v11 = 2) then (Option.bind (G31 v12.Limbs.2.1.Dir) fun y50 => F14_14_0 n v5 v6 v7 v8 v9 v10 v12 v13 v14 v15 m (wr .i64 (v11 + 1)) v16 v17 v18 v19 y50.1 v12.Limbs.2.1.Level v22 v23 v24 v25) else bif decide (v11 = 3) then (Option.bind (G31 v12.Limbs.2.1.Dir) fun y52 => F14_14_0 n v5 v6 v7 v8 v9 v10 v12 v13 v14 v15 m (wr .i64 (v11 + 1)) v16 v17 v18 v19 v20 v21 y52.1 v12.Limbs.2.1.Level v24 v25) else bif decide (v11 = 4) then (Option.bind (G31 v12.Limbs.2.1.Dir) fun y54 => F14_14_0 n v5 v6 v7 v8 v9 v10 v12 v13 v14 v15 m (wr .i64 (v11 + 1)) v16 v17 v18 v19 v20 v21 v22 v23 y54.1 v12.Limbs.2.1.Level) else none) else bif decide (y27 = 2) then (bif decide (v11 = 0) then (Option.bind (G31 v12.Limbs.2.2.1.Dir) fun y57 => F14_14_0 n v5 v6 v7 v8 v9 v10 v12 v13 v14 v15 m (wr .i64 (v11 + 1)) y57.1 v12.Limbs.2.2.1.Level v18 v19 v20 v21 v22 v23 v24 v25) else bif decide (v11 = 1) then (Option.bind (G31 v12.Limbs.2.2.1.Dir) fun y59 => F14_14_0 n v5 v6 v7 v8 v9 v10 v12 v13 v14 v15 m (wr .i64 (v11 + 1)) v16 v17 y59.1 v12.Limbs.2.2.1.Level v20 v21 v22 v23 v24 v25) else bif decide (v11 = 2) then (Option.bind (G31 v12.Limbs.2.2.1.Dir) fun y61 => F14_14_0 n v5 v6 v7 v8 v9 v10 v12 v13 v14 v15 m (wr .i64 (v11 + 1)) v16 v17 v18 v19 y61.1 v12.Limbs.2.2.1.Level v22 v23 v24 v25) else bif decide (v11 = 3) then (Option.bind (G31 v12.Limbs.2.2.1.Dir) fun y63 => F14_14_0 n v5 v6 v7 v8 v9 v10 v12 v13 v14 v15 m (wr .i64 (v11 + 1)) v16 v17 v18 v19 v20 v21 y63.1 v12.Limbs.2.2.1.Level v24 v25) else bif decide (v11 = 4) then (Option.bind (G31 v12.Limbs.2.2.1.Dir) fun y65 => F14_14_0 n v5 v6 v7 v8 v9 v10 v12 v13 v14 v15 m (wr .i64 (v11 + 1)) v16 v17 v18 v19 v20 v21 v22 v23 y65.1 v12.Limbs.2.2.1.Level) else none) else bif decide (y27 = 3) then (bif decide (v11 = 0) then (Option.bind (G31 v12.Limbs.2.2.2.1.Dir) fun y68 => F14_14_0 n v5 v6 v7 v8 v9 v10 v12 v13 v14 v15 m (wr .i64 (v11 + 1)) y68.1 v12.Limbs.2.2.2.1.Level v18 v19 v20 v21 v22 v23 v24 v25) else bif decide (v11 = 1) then (Option.bind (G31 v12.Limbs.2.2.2.1.Dir) fun y70 => F14_14_0 n v5 v6 v7 v8 v9 v10 v12 v13 v14 v15 m (wr .i64 (v11 + 1)) v16 v17 y70.1 v12.Limbs.2.2.2.1.Level v20 v21 v22 v23 v24 v25) else bif decide (v11 = 2) then (Option.bind (G31 v12.Limbs.2.2.2.1.Dir) fun y72 => F14_14_0 n v5 v6 v7 v8 v9 v10 v12 v13 v14 v15 m (wr .i64 (v11 + 1)) v16 v17 v18 v19 y72.1 v12.Limbs.2.2.2.1.Level v22 v23 v24 v25) else bif decide (v11 = 3) then (Option.bind (G31 v12.Limbs.2.2.2.1.Dir) fun y74 => F14_14_0 n v5 v6 v7 v8 v9 v10 v12 v13 v14 v15 m (wr .i64 (v11 + 1)) v16 v17 v18 v19 v20 v21 y74.1 v12.Limbs.2.2.2.1.Level v24 v25) else bif decide (v11 = 4) then (Option.bind (G31 v12.Limbs.2.2.2.1.Dir) fun y76 => F14_14_0 n v5 v6 v7 v8 v9 v10 v12 v13 v14 v15 m (wr .i64 (v11 + 1)) v16 v17 v18 v19 v20 v21 v22 v23 y76.1 v12.Limbs.2.2.2.1.Level) else none) else bif decide (y27 = 4) then (bif decide (v11 = 0) then (Option.bind (G31 v12.Limbs.2.2.2.2.Dir) fun y79 => F14_14_0 n v5 v6 v7 v8 v9 v10 v12 v13 v14 v15 m (wr .i64 (v11 + 1)) y79.1 v12.Limbs.2.2.2.2.Level v18 v19 v20 v21 v22 v23 v24 v25) else bif decide (v11 = 1) then (Option.bind (G31 v12.Limbs.2.2.2.2.Dir) fun y81 => F14_14_0 n v5 v6 v7 v8 v9 v10 v12 v13 v14 v15 m (wr .i64 (v11 + 1)) v16 v17 y81.1 v12.Limbs.2.2.2.2.Level v20 v21 v22 v23 v24 v25) else bif decide (v11 = 2) then (Option.bind (G31 v12.Limbs.2.2.2.2.Dir) fun y83 => F14_14_0 n v5 v6 v7 v8 v9 v10 v12 v13 v14 v15 m (wr .i64 (v11 + 1)) v16 v17 v18 v19 y83.1 v12.Limbs.2.2.2.2.Level v22 v23 v24 v25) else bif decide (v11 = 3) then (Option.bind (G31 v12.Limbs.2.2.2.2.Dir) fun y85 => F14_14_0 n v5 v6 v7 v8 v9 v10 v12 v13 v14 v15 m (wr .i64 (v11 + 1)) v16 v17 v18 v19 v20 v21 y85.1 v12.Limbs.2.2.2.2.Level v24 v25) else bif decide (v11 = 4) then (Option.bind (G31 v12.Limbs.2.2.2.2.Dir) fun y87 => F14_14_0 n v5 v6 v7 v8 v9 v10 v12 v13 v14 v15 m (wr .i64 (v11 + 1)) v16 v17 v18 v19 v20 v21 v22 v23 y87.1 v12.Limbs.2.2.2.2.Level) else none) else none) else (some ((v16, v17, v18, v19, v20, v21, v22, v23, v24, v25)))
theorem T14_14_0 (C : Nat → List A → Option A) (n : Nat) (h16 : Orc16 C) (h29 : Orc29 C) (h31 : Orc31 C) (v5 : Int) (v6 : Int) (v7 : Int) (v8 : Int) (v9 : Int) (v10 : Int) (v12 : S_State) (v13 : Int) (v14 : Int) (v15 : Int) {ρ γ : Type} {φ : ρ → γ → Prop} {kL : R → Option ρ} {K : (Int × Int × Int × Int × Int × Int × Int × Int × Int × Int) → Option γ} (kx kg : Nat → St → Option R) (kr : St → Option R) (kp : A → St → Option R) (x0 : ∀ (o0 : Int) (o1 : Int) (o2 : Int) (o3 : Int) (o4 : Int) (o5 : Int) (o6 : Int) (o7 : Int) (o8 : Int) (o9 : Int) (s2 : A) (s5 : A) (s30 : A) (s31 : A), J φ (kx 0 (St.mk [(2, s2), (4, (A.ptr 1 0)), (5, s5), (30, s30), (31, s31)] [Blk.box (c_S_State v12), Blk.box [(iA v13), (iA v14), (iA v15), (iA o0), (iA o1), (iA o2), (iA o3), (iA o4), (iA o5), (iA o6), (iA o7), (iA o8), (iA o9)]])) kL (K (o0, o1, o2, o3, o4, o5, o6, o7, o8, o9)) some) :
    ∀ (m : Nat) (v11 : Int) (v16 : Int) (v17 : Int) (v18 : Int) (v19 : Int) (v20 : Int) (v21 : Int) (v22 : Int) (v23 : Int) (v24 : Int) (v25 : Int), J φ (loopR (cx C) (evCall (cx C) (n+8)) (evCallY (cx C) (n+8)) (n+8) 14 0 0 2 kx kg kr kp m (St.mk [(2, (A.ptr 0 0)), (4, (A.ptr 1 0)), (5, (iA v5)), (30, (A.agg [(iA v6), (iA v7), (iA v8), (iA v9), (iA v10)])), (31, (iA v11))] [Blk.box (c_S_State v12), Blk.box [(iA v13), (iA v14), (iA v15), (iA v16), (iA v17), (iA v18), (iA v19), (iA v20), (iA v21), (iA v22), (iA v23), (iA v24), (iA v25)]])) kL (F14_14_0 n v5 v6 v7 v8 v9 v10 v12 v13 v14 v15 m v11 v16 v17 v18 v19 v20 v21 v22 v23 v24 v25) K := by
  intro m
  induction m with
  | zero => intros; exact .nn
  | succ m ih =>
    intro v11 v16 v17 v18 v19 v20 v21 v22 v23 v24 v25
    refine .lp (e14_0 ..) ?_
    unfold F14_14_0
    refine .st (v := (bA (decide (v11 < 5)))) (aBin_lss ..) ?_
    refine .biHN (fun hk26 => ?_) (fun hk26 => ?_)
    · refine .bg (fun t (y : Int) => t = (iA y)) ?_ ?_
      · refine .sp (fun hb28 => ?_) (fun _ => ?_)
        · exact .lp (by rw [of_decide_eq_true hb28]; kernel_rfl : _ = some (iA v6)) (.lg rfl)
        refine .sp (fun hb29 => ?_) (fun _ => ?_)
        · exact .lp (by rw [of_decide_eq_true hb29]; kernel_rfl : _ = some (iA v7)) (.lg rfl)
        refine .sp (fun hb30 => ?_) (fun _ => ?_)
        · exact .lp (by rw [of_decide_eq_true hb30]; kernel_rfl : _ = some (iA v8)) (.lg rfl)
        refine .sp (fun hb31 => ?_) (fun _ => ?_)
        · exact .lp (by rw [of_decide_eq_true hb31]; kernel_rfl : _ = some (iA v9)) (.lg rfl)
        refine .sp (fun hb32 => ?_) (fun _ => ?_)
        · exact .lp (by rw [of_decide_eq_true hb32]; kernel_rfl : _ = some (iA v10)) (.lg rfl)
        exact .nn
      rintro _ y27 rfl
      refine .s (A.ptr 0 3) ?_
      refine .sp (fun hb33 => ?_) (fun _ => ?_)
      · refine .st (v := (A.ptr 0 3)) (by rw [of_decide_eq_true hb33]; kernel_rfl) ?_
        refine .s (A.agg [(iA v12.Limbs.1.Dir), (iA v12.Limbs.1.Level)]) (.s (A.ptr 1 3) ?_)
        refine .sp (fun hb34 => ?_) (fun _ => ?_)
        · refine .st (v := (A.ptr 1 3)) (by rw [of_decide_eq_true hb34]; kernel_rfl) ?_
          refine .s [Blk.box (c_S_State v12), Blk.box [(iA v13), (iA v14), (iA v15), (iA v12.Limbs.1.Dir), (iA v12.Limbs.1.Level), (iA v18), (iA v19), (iA v20), (iA v21), (iA v22), (iA v23), (iA v24), (iA v25)]] (.s (A.ptr 0 3) ?_)
          refine .st (v := (A.ptr 0 3)) (by rw [of_decide_eq_true hb33]; kernel_rfl) ?_
          refine .s (A.ptr 0 3) (.s (iA v12.Limbs.1.Dir) ?_)
          refine .bd (g := fun (y : (Int × Int)) => (A.tup [(iA y.1), (iA y.2)])) (h31 v12.Limbs.1.Dir) fun y35 => ?_
          refine .s (iA y35.1) (.s (iA y35.2) (.s (A.ptr 1 3) ?_))
          refine .st (v := (A.ptr 1 3)) (by rw [of_decide_eq_true hb34]; kernel_rfl) ?_
          refine .s (A.ptr 1 3) (.s [Blk.box (c_S_State v12), Blk.box [(iA v13), (iA v14), (iA v15), (iA y35.1), (iA v12.Limbs.1.Level), (iA v18), (iA v19), (iA v20), (iA v21), (iA v22), (iA v23), (iA v24), (iA v25)]] ?_)
          refine .st (v := (iA (wr .i64 (v11 + 1)))) (aBin_add ..) ?_
          refine .s [Blk.box (c_S_State v12), Blk.box [(iA v13), (iA v14), (iA v15), (iA y35.1), (iA v12.Limbs.1.Level), (iA v18), (iA v19), (iA v20), (iA v21), (iA v22), (iA v23), (iA v24), (iA v25)]] ?_
          refine .cT (by kernel_rfl) ?_
          exact ih _ _ _ _ _ _ _ _ _ _ _
        refine .sp (fun hb36 => ?_) (fun _ => ?_)
        · refine .st (v := (A.ptr 1 5)) (by rw [of_decide_eq_true hb36]; kernel_rfl) ?_
          refine .s [Blk.box (c_S_State v12), Blk.box [(iA v13), (iA v14), (iA v15), (iA v16), (iA v17), (iA v12.Limbs.1.Dir), (iA v12.Limbs.1.Level), (iA v20), (iA v21), (iA v22), (iA v23), (iA v24), (iA v25)]] (.s (A.ptr 0 3) ?_)
          refine .st (v := (A.ptr 0 3)) (by rw [of_decide_eq_true hb33]; kernel_rfl) ?_
          refine .s (A.ptr 0 3) (.s (iA v12.Limbs.1.Dir) ?_)
          refine .bd (g := fun (y : (Int × Int)) => (A.tup [(iA y.1), (iA y.2)])) (h31 v12.Limbs.1.Dir) fun y37 => ?_
          refine .s (iA y37.1) (.s (iA y37.2) (.s (A.ptr 1 3) ?_))
          refine .st (v := (A.ptr 1 5)) (by rw [of_decide_eq_true hb36]; kernel_rfl) ?_
          refine .s (A.ptr 1 5) (.s [Blk.box (c_S_State v12), Blk.box [(iA v13), (iA v14), (iA v15), (iA v16), (iA v17), (iA y37.1), (iA v12.Limbs.1.Level), (iA v20), (iA v21), (iA v22), (iA v23), (iA v24), (iA v25)]] ?_)
          refine .st (v := (iA (wr .i64 (v11 + 1)))) (aBin_add ..) ?_
          refine .s [Blk.box (c_S_State v12), Blk.box [(iA v13), (iA v14), (iA v15), (iA v16), (iA v17), (iA y37.1), (iA v12.Limbs.1.Level), (iA v20), (iA v21), (iA v22), (iA v23), (iA v24), (iA v25)]] ?_
          refine .cT (by kernel_rfl) ?_
          exact ih _ _ _ _ _ _ _ _ _ _ _
        refine .sp (fun hb38 => ?_) (fun _ => ?_)
        · refine .st (v := (A.ptr 1 7)) (by rw [of_decide_eq_true hb38]; kernel_rfl) ?_
          refine .s [Blk.box (c_S_State v12), Blk.box [(iA v13), (iA v14), (iA v15), (iA v16), (iA v17), (iA v18), (iA v19), (iA v12.Limbs.1.Dir), (iA v12.Limbs.1.Level), (iA v22), (iA v23), (iA v24), (iA v25)]] (.s (A.ptr 0 3) ?_)
          refine .st (v := (A.ptr 0 3)) (by rw [of_decide_eq_true hb33]; kernel_rfl) ?_
          refine .s (A.ptr 0 3) (.s (iA v12.Limbs.1.Dir) ?_)
          refine .bd (g := fun (y : (Int × Int)) => (A.tup [(iA y.1), (iA y.2)])) (h31 v12.Limbs.1.Dir) fun y39 => ?_
          refine .s (iA y39.1) (.s (iA y39.2) (.s (A.ptr 1 3) ?_))
          refine .st (v := (A.ptr 1 7)) (by rw [of_decide_eq_true hb38]; kernel_rfl) ?_
          refine .s (A.ptr 1 7) (.s [Blk.box (c_S_State v12), Blk.box [(iA v13), (iA v14), (iA v15), (iA v16), (iA v17), (iA v18), (iA v19), (iA y39.1), (iA v12.Limbs.1.Level), (iA v22), (iA v23), (iA v24), (iA v25)]] ?_)
          refine .st (v := (iA (wr .i64 (v11 + 1)))) (aBin_add ..) ?_
          refine .s [Blk.box (c_S_State v12), Blk.box [(iA v13), (iA v14), (iA v15), (iA v16), (iA v17), (iA v18), (iA v19), (iA y39.1), (iA v12.Limbs.1.Level), (iA v22), (iA v23), (iA v24), (iA v25)]] ?_
          refine .cT (by kernel_rfl) ?_
          exact ih _ _ _ _ _ _ _ _ _ _ _
        refine .sp (fun hb40 => ?_) (fun _ => ?_)
        · refine .st (v := (A.ptr 1 9)) (by rw [of_decide_eq_true hb40]; kernel_rfl) ?_
          refine .s [Blk.box (c_S_State v12), Blk.box [(iA v13), (iA v14), (iA v15), (iA v16), (iA v17), (iA v18), (iA v19), (iA v20), (iA v21), (iA v12.Limbs.1.Dir), (iA v12.Limbs.1.Level), (iA v24), (iA v25)]] (.s (A.ptr 0 3) ?_)
          refine .st (v := (A.ptr 0 3)) (by rw [of_decide_eq_true hb33]; kernel_rfl) ?_
          refine .s (A.ptr 0 3) (.s (iA v12.Limbs.1.Dir) ?_)
          refine .bd (g := fun (y : (Int × Int)) => (A.tup [(iA y.1), (iA y.2)])) (h31 v12.Limbs.1.Dir) fun y41 => ?_
          refine .s (iA y41.1) (.s (iA y41.2) (.s (A.ptr 1 3) ?_))
          refine .st (v := (A.ptr 1 9)) (by rw [of_decide_eq_true hb40]; kernel_rfl) ?_
          refine .s (A.ptr 1 9) (.s [Blk.box (c_S_State v12), Blk.box [(iA v13), (iA v14), (iA v15), (iA v16), (iA v17), (iA v18), (iA v19), (iA v20), (iA v21), (iA y41.1), (iA v12.Limbs.1.Level), (iA v24), (iA v25)]] ?_)
          refine .st (v := (iA (wr .i64 (v11 + 1)))) (aBin_add ..) ?_
          refine .s [Blk.box (c_S_State v12), Blk.box [(iA v13), (iA v14), (iA v15), (iA v16), (iA v17), (iA v18), (iA v19), (iA v20), (iA v21), (iA y41.1), (iA v12.Limbs.1.Level), (iA v24), (iA v25)]] ?_
          refine .cT (by kernel_rfl) ?_
          exact ih _ _ _ _ _ _ _ _ _ _ _
        refine .sp (fun hb42 => ?_) (fun _ => ?_)
        · refine .st (v := (A.ptr 1 11)) (by rw [of_decide_eq_true hb42]; kernel_rfl) ?_
          refine .s [Blk.box (c_S_State v12), Blk.box [(iA v13), (iA v14), (iA v15), (iA v16), (iA v17), (iA v18), (iA v19), (iA v20), (iA v21), (iA v22), (iA v23), (iA v12.Limbs.1.Dir), (iA v12.Limbs.1.Level)]] (.s (A.ptr 0 3) ?_)
          refine .st (v := (A.ptr 0 3)) (by rw [of_decide_eq_true hb33]; kernel_rfl) ?_
          refine .s (A.ptr 0 3) (.s (iA v12.Limbs.1.Dir) ?_)
          refine .bd (g := fun (y : (Int × Int)) => (A.tup [(iA y.1), (iA y.2)])) (h31 v12.Limbs.1.Dir) fun y43 => ?_
          refine .s (iA y43.1) (.s (iA y43.2) (.s (A.ptr 1 3) ?_))
          refine .st (v := (A.ptr 1 11)) (by rw [of_decide_eq_true hb42]; kernel_rfl) ?_
          refine .s (A.ptr 1 11) (.s [Blk.box (c_S_State v12), Blk.box [(iA v13), (iA v14), (iA v15), (iA v16), (iA v17), (iA v18), (iA v19), (iA v20), (iA v21), (iA v22), (iA v23), (iA y43.1), (iA v12.Limbs.1.Level)]] ?_)
          refine .st (v := (iA (wr .i64 (v11 + 1)))) (aBin_add ..) ?_
          refine .s [Blk.box (c_S_State v12), Blk.box [(iA v13), (iA v14), (iA v15), (iA v16), (iA v17), (iA v18), (iA v19), (iA v20), (iA v21), (iA v22), (iA v23), (iA y43.1), (iA v12.Limbs.1.Level)]] ?_
          refine .cT (by kernel_rfl) ?_
          exact ih _ _ _ _ _ _ _ _ _ _ _
        exact .nn
      refine .sp (fun hb44 => ?_) (fun _ => ?_)
      · refine .st (v := (A.ptr 0 5)) (by rw [of_decide_eq_true hb44]; kernel_rfl) ?_
        refine .s (A.agg [(iA v12.Limbs.2.1.Dir), (iA v12.Limbs.2.1.Level)]) (.s (A.ptr 1 3) ?_)
        refine .sp (fun hb45 => ?_) (fun _ => ?_)
        · refine .st (v := (A.ptr 1 3)) (by rw [of_decide_eq_true hb45]; kernel_rfl) ?_
          refine .s [Blk.box (c_S_State v12), Blk.box [(iA v13), (iA v14), (iA v15), (iA v12.Limbs.2.1.Dir), (iA v12.Limbs.2.1.Level), (iA v18), (iA v19), (iA v20), (iA v21), (iA v22), (iA v23), (iA v24), (iA v25)]] (.s (A.ptr 0 3) ?_)
          refine .st (v := (A.ptr 0 5)) (by rw [of_decide_eq_true hb44]; kernel_rfl) ?_
          refine .s (A.ptr 0 5) (.s (iA v12.Limbs.2.1.Dir) ?_)
          refine .bd (g := fun (y : (Int × Int)) => (A.tup [(iA y.1), (iA y.2)])) (h31 v12.Limbs.2.1.Dir) fun y46 => ?_
          refine .s (iA y46.1) (.s (iA y46.2) (.s (A.ptr 1 3) ?_))
          refine .st (v := (A.ptr 1 3)) (by rw [of_decide_eq_true hb45]; kernel_rfl) ?_
          refine .s (A.ptr 1 3) (.s [Blk.box (c_S_State v12), Blk.box [(iA v13), (iA v14), (iA v15), (iA y46.1), (iA v12.Limbs.2.1.Level), (iA v18), (iA v19), (iA v20), (iA v21), (iA v22), (iA v23), (iA v24), (iA v25)]] ?_)
          refine .st (v := (iA (wr .i64 (v11 + 1)))) (aBin_add ..) ?_
          refine .s [Blk.box (c_S_State v12), Blk.box [(iA v13), (iA v14), (iA v15), (iA y46.1), (iA v12.Limbs.2.1.Level), (iA v18), (iA v19), (iA v20), (iA v21), (iA v22), (iA v23), (iA v24), (iA v25)]] ?_
          refine .cT (by kernel_rfl) ?_
          exact ih _ _ _ _ _ _ _ _ _ _ _
        refine .sp (fun hb47 => ?_) (fun _ => ?_)
        · refine .st (v := (A.ptr 1 5)) (by rw [of_decide_eq_true hb47]; kernel_rfl) ?_
          refine .s [Blk.box (c_S_State v12), Blk.box [(iA v13), (iA v14), (iA v15), (iA v16), (iA v17), (iA v12.Limbs.2.1.Dir), (iA v12.Limbs.2.1.Level), (iA v20), (iA v21), (iA v22), (iA v23), (iA v24), (iA v25)]] (.s (A.ptr 0 3) ?_)
          refine .st (v := (A.ptr 0 5)) (by rw [of_decide_eq_true hb44]; kernel_rfl) ?_
          refine .s (A.ptr 0 5) (.s (iA v12.Limbs.2.1.Dir) ?_)
          refine .bd (g := fun (y : (Int × Int)) => (A.tup [(iA y.1), (iA y.2)])) (h31 v12.Limbs.2.1.Dir) fun y48 => ?_
          refine .s (iA y48.1) (.s (iA y48.2) (.s (A.ptr 1 3) ?_))
          refine .st (v := (A.ptr 1 5)) (by rw [of_decide_eq_true hb47]; kernel_rfl) ?_
          refine .s (A.ptr 1 5) (.s [Blk.box (c_S_State v12), Blk.box [(iA v13), (iA v14), (iA v15), (iA v16), (iA v17), (iA y48.1), (iA v12.Limbs.2.1.Level), (iA v20), (iA v21), (iA v22), (iA v23), (iA v24), (iA v25)]] ?_)
          refine .st (v := (iA (wr .i64 (v11 + 1)))) (aBin_add ..) ?_
          refine .s [Blk.box (c_S_State v12), Blk.box [(iA v13), (iA v14), (iA v15), (iA v16), (iA v17), (iA y48.1), (iA v12.Limbs.2.1.Level), (iA v20), (iA v21), (iA v22), (iA v23), (iA v24), (iA v25)]] ?_
          refine .cT (by kernel_rfl) ?_
          exact ih _ _ _ _ _ _ _ _ _ _ _
        refine .sp (fun hb49 => ?_) (fun _ => ?_)
        · refine .st (v := (A.ptr 1 7)) (by rw [of_decide_eq_true hb49]; kernel_rfl) ?_
          refine .s [Blk.box (c_S_State v12), Blk.box [(iA v13), (iA v14), (iA v15), (iA v16), (iA v17), (iA v18), (iA v19), (iA v12.Limbs.2.1.Dir), (iA v12.Limbs.2.1.Level), (iA v22), (iA v23), (iA v24), (iA v25)]] (.s (A.ptr 0 3) ?_)
          refine .st (v := (A.ptr 0 5)) (by rw [of_decide_eq_true hb44]; kernel_rfl) ?_
          refine .s (A.ptr 0 5) (.s (iA v12.Limbs.2.1.Dir) ?_)
          refine .bd (g := fun (y : (Int × Int)) => (A.tup [(iA y.1), (iA y.2)])) (h31 v12.Limbs.2.1.Dir) fun y50 => ?_
          refine .s (iA y50.1) (.s (iA y50.2) (.s (A.ptr 1 3) ?_))
          refine .st (v := (A.ptr 1 7)) (by rw [of_decide_eq_true hb49]; kernel_rfl) ?_
          refine .s (A.ptr 1 7) (.s [Blk.box (c_S_State v12), Blk.box [(iA v13), (iA v14), (iA v15), (iA v16), (iA v17), (iA v18), (iA v19), (iA y50.1), (iA v12.Limbs.2.1.Level), (iA v22), (iA v23), (iA v24), (iA v25)]] ?_)
          refine .st (v := (iA (wr .i64 (v11 + 1)))) (aBin_add ..) ?_
          refine .s [Blk.box (c_S_State v12), Blk.box [(iA v13), (iA v14), (iA v15), (iA v16), (iA v17), (iA v18), (iA v19), (iA y50.1), (iA v12.Limbs.2.1.Level), (iA v22), (iA v23), (iA v24), (iA v25)]] ?_
          refine .cT (by kernel_rfl) ?_
          exact ih _ _ _ _ _ _ _ _ _ _ _
        refine .sp (fun hb51 => ?_) (fun _ => ?_)
        · refine .st (v := (A.ptr 1 9)) (by rw [of_decide_eq_true hb51]; kernel_rfl) ?_
          refine .s [Blk.box (c_S_State v12), Blk.box [(iA v13), (iA v14), (iA v15), (iA v16), (iA v17), (iA v18), (iA v19), (iA v20), (iA v21), (iA v12.Limbs.2.1.Dir), (iA v12.Limbs.2.1.Level), (iA v24), (iA v25)]] (.s (A.ptr 0 3) ?_)
          refine .st (v := (A.ptr 0 5)) (by rw [of_decide_eq_true hb44]; kernel_rfl) ?_
          refine .s (A.ptr 0 5) (.s (iA v12.Limbs.2.1.Dir) ?_)
          refine .bd (g := fun (y : (Int × Int)) => (A.tup [(iA y.1), (iA y.2)])) (h31 v12.Limbs.2.1.Dir) fun y52 => ?_
          refine .s (iA y52.1) (.s (iA y52.2) (.s (A.ptr 1 3) ?_))
          refine .st (v := (A.ptr 1 9)) (by rw [of_decide_eq_true hb51]; kernel_rfl) ?_
          refine .s (A.ptr 1 9) (.s [Blk.box (c_S_State v12), Blk.box [(iA v13), (iA v14), (iA v15), (iA v16), (iA v17), (iA v18), (iA v19), (iA v20), (iA v21), (iA y52.1), (iA v12.Limbs.2.1.Level), (iA v24), (iA v25)]] ?_)
          refine .st (v := (iA (wr .i64 (v11 + 1)))) (aBin_add ..) ?_
          refine .s [Blk.box (c_S_State v12), Blk.box [(iA v13), (iA v14), (iA v15), (iA v16), (iA v17), (iA v18), (iA v19), (iA v20), (iA v21), (iA y52.1), (iA v12.Limbs.2.1.Level), (iA v24), (iA v25)]] ?_
          refine .cT (by kernel_rfl) ?_
          exact ih _ _ _ _ _ _ _ _ _ _ _
        refine .sp (fun hb53 => ?_) (fun _ => ?_)
        · refine .st (v := (A.ptr 1 11)) (by rw [of_decide_eq_true hb53]; kernel_rfl) ?_
          refine .s [Blk.box (c_S_State v12), Blk.box [(iA v13), (iA v14), (iA v15), (iA v16), (iA v17), (iA v18), (iA v19), (iA v20), (iA v21), (iA v22), (iA v23), (iA v12.Limbs.2.1.Dir), (iA v12.Limbs.2.1.Level)]] (.s (A.ptr 0 3) ?_)
          refine .st (v := (A.ptr 0 5)) (by rw [of_decide_eq_true hb44]; kernel_rfl) ?_
          refine .s (A.ptr 0 5) (.s (iA v12.Limbs.2.1.Dir) ?_)
          refine .bd (g := fun (y : (Int × Int)) => (A.tup [(iA y.1), (iA y.2)])) (h31 v12.Limbs.2.1.Dir) fun y54 => ?_
          refine .s (iA y54.1) (.s (iA y54.2) (.s (A.ptr 1 3) ?_))
          refine .st (v := (A.ptr 1 11)) (by rw [of_decide_eq_true hb53]; kernel_rfl) ?_
          refine .s (A.ptr 1 11) (.s [Blk.box (c_S_State v12), Blk.box [(iA v13), (iA v14), (iA v15), (iA v16), (iA v17), (iA v18), (iA v19), (iA v20), (iA v21), (iA v22), (iA v23), (iA y54.1), (iA v12.Limbs.2.1.Level)]] ?_)
          refine .st (v := (iA (wr .i64 (v11 + 1)))) (aBin_add ..) ?_
          refine .s [Blk.box (c_S_State v12), Blk.box [(iA v13), (iA v14), (iA v15), (iA v16), (iA v17), (iA v18), (iA v19), (iA v20), (iA v21), (iA v22), (iA v23), (iA y54.1), (iA v12.Limbs.2.1.Level)]] ?_
          refine .cT (by kernel_rfl) ?_
          exact ih _ _ _ _ _ _ _ _ _ _ _
        exact .nn
      refine .sp (fun hb55 => ?_) (fun _ => ?_)
      · refine .st (v := (A.ptr 0 7)) (by rw [of_decide_eq_true hb55]; kernel_rfl) ?_
        refine .s (A.agg [(iA v12.Limbs.2.2.1.Dir), (iA v12.Limbs.2.2.1.Level)]) (.s (A.ptr 1 3) ?_)
        refine .sp (fun hb56 => ?_) (fun _ => ?_)
        · refine .st (v := (A.ptr 1 3)) (by rw [of_decide_eq_true hb56]; kernel_rfl) ?_
          refine .s [Blk.box (c_S_State v12), Blk.box [(iA v13), (iA v14), (iA v15), (iA v12.Limbs.2.2.1.Dir), (iA v12.Limbs.2.2.1.Level), (iA v18), (iA v19), (iA v20), (iA v21), (iA v22), (iA v23), (iA v24), (iA v25)]] (.s (A.ptr 0 3) ?_)
          refine .st (v := (A.ptr 0 7)) (by rw [of_decide_eq_true hb55]; kernel_rfl) ?_
          refine .s (A.ptr 0 7) (.s (iA v12.Limbs.2.2.1.Dir) ?_)
          refine .bd (g := fun (y : (Int × Int)) => (A.tup [(iA y.1), (iA y.2)])) (h31 v12.Limbs.2.2.1.Dir) fun y57 => ?_
          refine .s (iA y57.1) (.s (iA y57.2) (.s (A.ptr 1 3) ?_))
          refine .st (v := (A.ptr 1 3)) (by rw [of_decide_eq_true hb56]; kernel_rfl) ?_
          refine .s (A.ptr 1 3) (.s [Blk.box (c_S_State v12), Blk.box [(iA v13), (iA v14), (iA v15), (iA y57.1), (iA v12.Limbs.2.2.1.Level), (iA v18), (iA v19), (iA v20), (iA v21), (iA v22), (iA v23), (iA v24), (iA v25)]] ?_)
          refine .st (v := (iA (wr .i64 (v11 + 1)))) (aBin_add ..) ?_
          refine .s [Blk.box (c_S_State v12), Blk.box [(iA v13), (iA v14), (iA v15), (iA y57.1), (iA v12.Limbs.2.2.1.Level), (iA v18), (iA v19), (iA v20), (iA v21), (iA v22), (iA v23), (iA v24), (iA v25)]] ?_
          refine .cT (by kernel_rfl) ?_
          exact ih _ _ _ _ _ _ _ _ _ _ _
        refine .sp (fun hb58 => ?_) (fun _ => ?_)
        · refine .st (v := (A.ptr 1 5)) (by rw [of_decide_eq_true hb58]; kernel_rfl) ?_
          refine .s [Blk.box (c_S_State v12), Blk.box [(iA v13), (iA v14), (iA v15), (iA v16), (iA v17), (iA v12.Limbs.2.2.1.Dir), (iA v12.Limbs.2.2.1.Level), (iA v20), (iA v21), (iA v22), (iA v23), (iA v24), (iA v25)]] (.s (A.ptr 0 3) ?_)
          refine .st (v := (A.ptr 0 7)) (by rw [of_decide_eq_true hb55]; kernel_rfl) ?_
          refine .s (A.ptr 0 7) (.s (iA v12.Limbs.2.2.1.Dir) ?_)
          refine .bd (g := fun (y : (Int × Int)) => (A.tup [(iA y.1), (iA y.2)])) (h31 v12.Limbs.2.2.1.Dir) fun y59 => ?_
          refine .s (iA y59.1) (.s (iA y59.2) (.s (A.ptr 1 3) ?_))
          refine .st (v := (A.ptr 1 5)) (by rw [of_decide_eq_true hb58]; kernel_rfl) ?_
          refine .s (A.ptr 1 5) (.s [Blk.box (c_S_State v12), Blk.box [(iA v13), (iA v14), (iA v15), (iA v16), (iA v17), (iA y59.1), (iA v12.Limbs.2.2.1.Level), (iA v20), (iA v21), (iA v22), (iA v23), (iA v24), (iA v25)]] ?_)
          refine .st (v := (iA (wr .i64 (v11 + 1)))) (aBin_add ..) ?_
          refine .s [Blk.box (c_S_State v12), Blk.box [(iA v13), (iA v14), (iA v15), (iA v16), (iA v17), (iA y59.1), (iA v12.Limbs.2.2.1.Level), (iA v20), (iA v21), (iA v22), (iA v23), (iA v24), (iA v25)]] ?_
          refine .cT (by kernel_rfl) ?_
          exact ih _ _ _ _ _ _ _ _ _ _ _
        refine .sp (fun hb60 => ?_) (fun _ => ?_)
        · refine .st (v := (A.ptr 1 7)) (by rw [of_decide_eq_true hb60]; kernel_rfl) ?_
          refine .s [Blk.box (c_S_State v12), Blk.box [(iA v13), (iA v14), (iA v15), (iA v16), (iA v17), (iA v18), (iA v19), (iA v12.Limbs.2.2.1.Dir), (iA v12.Limbs.2.2.1.Level), (iA v22), (iA v23), (iA v24), (iA v25)]] (.s (A.ptr 0 3) ?_)
          refine .st (v := (A.ptr 0 7)) (by rw [of_decide_eq_true hb55]; kernel_rfl) ?_
          refine .s (A.ptr 0 7) (.s (iA v12.Limbs.2.2.1.Dir) ?_)
          refine .bd (g := fun (y : (Int × Int)) => (A.tup [(iA y.1), (iA y.2)])) (h31 v12.Limbs.2.2.1.Dir) fun y61 => ?_
          refine .s (iA y61.1) (.s (iA y61.2) (.s (A.ptr 1 3) ?_))
          refine .st (v := (A.ptr 1 7)) (by rw [of_decide_eq_true hb60]; kernel_rfl) ?_
          refine .s (A.ptr 1 7) (.s [Blk.box (c_S_State v12), Blk.box [(iA v13), (iA v14), (iA v15), (iA v16), (iA v17), (iA v18), (iA v19), (iA y61.1), (iA v12.Limbs.2.2.1.Level), (iA v22), (iA v23), (iA v24), (iA v25)]] ?_)
          refine .st (v := (iA (wr .i64 (v11 + 1)))) (aBin_add ..) ?_
          refine .s [Blk.box (c_S_State v12), Blk.box [(iA v13), (iA v14), (iA v15), (iA v16), (iA v17), (iA v18), (iA v19), (iA y61.1), (iA v12.Limbs.2.2.1.Level), (iA v22), (iA v23), (iA v24), (iA v25)]] ?_
          refine .cT (by kernel_rfl) ?_
          exact ih _ _ _ _ _ _ _ _ _ _ _
        refine .sp (fun hb62 => ?_) (fun _ => ?_)
        · refine .st (v := (A.ptr 1 9)) (by rw [of_decide_eq_true hb62]; kernel_rfl) ?_
          refine .s [Blk.box (c_S_State v12), Blk.box [(iA v13), (iA v14), (iA v15), (iA v16), (iA v17), (iA v18), (iA v19), (iA v20), (iA v21), (iA v12.Limbs.2.2.1.Dir), (iA v12.Limbs.2.2.1.Level), (iA v24), (iA v25)]] (.s (A.ptr 0 3) ?_)
          refine .st (v := (A.ptr 0 7)) (by rw [of_decide_eq_true hb55]; kernel_rfl) ?_
          refine .s (A.ptr 0 7) (.s (iA v12.Limbs.2.2.1.Dir) ?_)
          refine .bd (g := fun (y : (Int × Int)) => (A.tup [(iA y.1), (iA y.2)])) (h31 v12.Limbs.2.2.1.Dir) fun y63 => ?_
          refine .s (iA y63.1) (.s (iA y63.2) (.s (A.ptr 1 3) ?_))
          refine .st (v := (A.ptr 1 9)) (by rw [of_decide_eq_true hb62]; kernel_rfl) ?_
          refine .s (A.ptr 1 9) (.s [Blk.box (c_S_State v12), Blk.box [(iA v13), (iA v14), (iA v15), (iA v16), (iA v17), (iA v18), (iA v19), (iA v20), (iA v21), (iA y63.1), (iA v12.Limbs.2.2.1.Level), (iA v24), (iA v25)]] ?_)
          refine .st (v := (iA (wr .i64 (v11 + 1)))) (aBin_add ..) ?_
          refine .s [Blk.box (c_S_State v12), Blk.box [(iA v13), (iA v14), (iA v15), (iA v16), (iA v17), (iA v18), (iA v19), (iA v20), (iA v21), (iA y63.1), (iA v12.Limbs.2.2.1.Level), (iA v24), (iA v25)]] ?_
          refine .cT (by kernel_rfl) ?_
          exact ih _ _ _ _ _ _ _ _ _ _ _
        refine .sp (fun hb64 => ?_) (fun _ => ?_)
        · refine .st (v := (A.ptr 1 11)) (by rw [of_decide_eq_true hb64]; kernel_rfl) ?_
          refine .s [Blk.box (c_S_State v12), Blk.box [(iA v13), (iA v14), (iA v15), (iA v16), (iA v17), (iA v18), (iA v19), (iA v20), (iA v21), (iA v22), (iA v23), (iA v12.Limbs.2.2.1.Dir), (iA v12.Limbs.2.2.1.Level)]] (.s (A.ptr 0 3) ?_)
          refine .st (v := (A.ptr 0 7)) (by rw [of_decide_eq_true hb55]; kernel_rfl) ?_
          refine .s (A.ptr 0 7) (.s (iA v12.Limbs.2.2.1.Dir) ?_)
          refine .bd (g := fun (y : (Int × Int)) => (A.tup [(iA y.1), (iA y.2)])) (h31 v12.Limbs.2.2.1.Dir) fun y65 => ?_
          refine .s (iA y65.1) (.s (iA y65.2) (.s (A.ptr 1 3) ?_))
          refine .st (v := (A.ptr 1 11)) (by rw [of_decide_eq_true hb64]; kernel_rfl) ?_
          refine .s (A.ptr 1 11) (.s [Blk.box (c_S_State v12), Blk.box [(iA v13), (iA v14), (iA v15), (iA v16), (iA v17), (iA v18), (iA v19), (iA v20), (iA v21), (iA v22), (iA v23), (iA y65.1), (iA v12.Limbs.2.2.1.Level)]] ?_)
          refine .st (v := (iA (wr .i64 (v11 + 1)))) (aBin_add ..) ?_
          refine .s [Blk.box (c_S_State v12), Blk.box [(iA v13), (iA v14), (iA v15), (iA v16), (iA v17), (iA v18), (iA v19), (iA v20), (iA v21), (iA v22), (iA v23), (iA y65.1), (iA v12.Limbs.2.2.1.Level)]] ?_
          refine .cT (by kernel_rfl) ?_
          exact ih _ _ _ _ _ _ _ _ _ _ _
        exact .nn
      refine .sp (fun hb66 => ?_) (fun _ => ?_)
      · refine .st (v := (A.ptr 0 9)) (by rw [of_decide_eq_true hb66]; kernel_rfl) ?_
        refine .s (A.agg [(iA v12.Limbs.2.2.2.1.Dir), (iA v12.Limbs.2.2.2.1.Level)]) (.s (A.ptr 1 3) ?_)
        refine .sp (fun hb67 => ?_) (fun _ => ?_)
        · refine .st (v := (A.ptr 1 3)) (by rw [of_decide_eq_true hb67]; kernel_rfl) ?_
          refine .s [Blk.box (c_S_State v12), Blk.box [(iA v13), (iA v14), (iA v15), (iA v12.Limbs.2.2.2.1.Dir), (iA v12.Limbs.2.2.2.1.Level), (iA v18), (iA v19), (iA v20), (iA v21), (iA v22), (iA v23), (iA v24), (iA v25)]] (.s (A.ptr 0 3) ?_)
          refine .st (v := (A.ptr 0 9)) (by rw [of_decide_eq_true hb66]; kernel_rfl) ?_
          refine .s (A.ptr 0 9) (.s (iA v12.Limbs.2.2.2.1.Dir) ?_)
          refine .bd (g := fun (y : (Int × Int)) => (A.tup [(iA y.1), (iA y.2)])) (h31 v12.Limbs.2.2.2.1.Dir) fun y68 => ?_
          refine .s (iA y68.1) (.s (iA y68.2) (.s (A.ptr 1 3) ?_))
          refine .st (v := (A.ptr 1 3)) (by rw [of_decide_eq_true hb67]; kernel_rfl) ?_
          refine .s (A.ptr 1 3) (.s [Blk.box (c_S_State v12), Blk.box [(iA v13), (iA v14), (iA v15), (iA y68.1), (iA v12.Limbs.2.2.2.1.Level), (iA v18), (iA v19), (iA v20), (iA v21), (iA v22), (iA v23), (iA v24), (iA v25)]] ?_)
          refine .st (v := (iA (wr .i64 (v11 + 1)))) (aBin_add ..) ?_
          refine .s [Blk.box (c_S_State v12), Blk.box [(iA v13), (iA v14), (iA v15), (iA y68.1), (iA v12.Limbs.2.2.2.1.Level), (iA v18), (iA v19), (iA v20), (iA v21), (iA v22), (iA v23), (iA v24), (iA v25)]] ?_
          refine .cT (by kernel_rfl) ?_
          exact ih _ _ _ _ _ _ _ _ _ _ _
        refine .sp (fun hb69 => ?_) (fun _ => ?_)
        · refine .st (v := (A.ptr 1 5)) (by rw [of_decide_eq_true hb69]; kernel_rfl) ?_
          refine .s [Blk.box (c_S_State v12), Blk.box [(iA v13), (iA v14), (iA v15), (iA v16), (iA v17), (iA v12.Limbs.2.2.2.1.Dir), (iA v12.Limbs.2.2.2.1.Level), (iA v20), (iA v21), (iA v22), (iA v23), (iA v24), (iA v25)]] (.s (A.ptr 0 3) ?_)
          refine .st (v := (A.ptr 0 9)) (by rw [of_decide_eq_true hb66]; kernel_rfl) ?_
          refine .s (A.ptr 0 9) (.s (iA v12.Limbs.2.2.2.1.Dir) ?_)
          refine .bd (g := fun (y : (Int × Int)) => (A.tup [(iA y.1), (iA y.2)])) (h31 v12.Limbs.2.2.2.1.Dir) fun y70 => ?_
          refine .s (iA y70.1) (.s (iA y70.2) (.s (A.ptr 1 3) ?_))
          refine .st (v := (A.ptr 1 5)) (by rw [of_decide_eq_true hb69]; kernel_rfl) ?_
          refine .s (A.ptr 1 5) (.s [Blk.box (c_S_State v12), Blk.box [(iA v13), (iA v14), (iA v15), (iA v16), (iA v17), (iA y70.1), (iA v12.Limbs.2.2.2.1.Level), (iA v20), (iA v21), (iA v22), (iA v23), (iA v24), (iA v25)]] ?_)
          refine .st (v := (iA (wr .i64 (v11 + 1)))) (aBin_add ..) ?_
          refine .s [Blk.box (c_S_State v12), Blk.box [(iA v13), (iA v14), (iA v15), (iA v16), (iA v17), (iA y70.1), (iA v12.Limbs.2.2.2.1.Level), (iA v20), (iA v21), (iA v22), (iA v23), (iA v24), (iA v25)]] ?_
          refine .cT (by kernel_rfl) ?_
          exact ih _ _ _ _ _ _ _ _ _ _ _
        refine .sp (fun hb71 => ?_) (fun _ => ?_)
        · refine .st (v := (A.ptr 1 7)) (by rw [of_decide_eq_true hb71]; kernel_rfl) ?_
          refine .s [Blk.box (c_S_State v12), Blk.box [(iA v13), (iA v14), (iA v15), (iA v16), (iA v17), (iA v18), (iA v19), (iA v12.Limbs.2.2.2.1.Dir), (iA v12.Limbs.2.2.2.1.Level), (iA v22), (iA v23), (iA v24), (iA v25)]] (.s (A.ptr 0 3) ?_)
          refine .st (v := (A.ptr 0 9)) (by rw [of_decide_eq_true hb66]; kernel_rfl) ?_
          refine .s (A.ptr 0 9) (.s (iA v12.Limbs.2.2.2.1.Dir) ?_)
          refine .bd (g := fun (y : (Int × Int)) => (A.tup [(iA y.1), (iA y.2)])) (h31 v12.Limbs.2.2.2.1.Dir) fun y72 => ?_
          refine .s (iA y72.1) (.s (iA y72.2) (.s (A.ptr 1 3) ?_))
          refine .st (v := (A.ptr 1 7)) (by rw [of_decide_eq_true hb71]; kernel_rfl) ?_
          refine .s (A.ptr 1 7) (.s [Blk.box (c_S_State v12), Blk.box [(iA v13), (iA v14), (iA v15), (iA v16), (iA v17), (iA v18), (iA v19), (iA y72.1), (iA v12.Limbs.2.2.2.1.Level), (iA v22), (iA v23), (iA v24), (iA v25)]] ?_)
          refine .st (v := (iA (wr .i64 (v11 + 1)))) (aBin_add ..) ?_
          refine .s [Blk.box (c_S_State v12), Blk.box [(iA v13), (iA v14), (iA v15), (iA v16), (iA v17), (iA v18), (iA v19), (iA y72.1), (iA v12.Limbs.2.2.2.1.Level), (iA v22), (iA v23), (iA v24), (iA v25)]] ?_
          refine .cT (by kernel_rfl) ?_
          exact ih _ _ _ _ _ _ _ _ _ _ _
        refine .sp (fun hb73 => ?_) (fun _ => ?_)
        · refine .st (v := (A.ptr 1 9)) (by rw [of_decide_eq_true hb73]; kernel_rfl) ?_
          refine .s [Blk.box (c_S_State v12), Blk.box [(iA v13), (iA v14), (iA v15), (iA v16), (iA v17), (iA v18), (iA v19), (iA v20), (iA v21), (iA v12.Limbs.2.2.2.1.Dir), (iA v12.Limbs.2.2.2.1.Level), (iA v24), (iA v25)]] (.s (A.ptr 0 3) ?_)
          refine .st (v := (A.ptr 0 9)) (by rw [of_decide_eq_true hb66]; kernel_rfl) ?_
          refine .s (A.ptr 0 9) (.s (iA v12.Limbs.2.2.2.1.Dir) ?_)
          refine .bd (g := fun (y : (Int × Int)) => (A.tup [(iA y.1), (iA y.2)])) (h31 v12.Limbs.2.2.2.1.Dir) fun y74 => ?_
          refine .s (iA y74.1) (.s (iA y74.2) (.s (A.ptr 1 3) ?_))
          refine .st (v := (A.ptr 1 9)) (by rw [of_decide_eq_true hb73]; kernel_rfl) ?_
          refine .s (A.ptr 1 9) (.s [Blk.box (c_S_State v12), Blk.box [(iA v13), (iA v14), (iA v15), (iA v16), (iA v17), (iA v18), (iA v19), (iA v20), (iA v21), (iA y74.1), (iA v12.Limbs.2.2.2.1.Level), (iA v24), (iA v25)]] ?_)
          refine .st (v := (iA (wr .i64 (v11 + 1)))) (aBin_add ..) ?_
          refine .s [Blk.box (c_S_State v12), Blk.box [(iA v13), (iA v14), (iA v15), (iA v16), (iA v17), (iA v18), (iA v19), (iA v20), (iA v21), (iA y74.1), (iA v12.Limbs.2.2.2.1.Level), (iA v24), (iA v25)]] ?_
          refine .cT (by kernel_rfl) ?_
          exact ih _ _ _ _ _ _ _ _ _ _ _
        refine .sp (fun hb75 => ?_) (fun _ => ?_)
        · refine .st (v := (A.ptr 1 11)) (by rw [of_decide_eq_true hb75]; kernel_rfl) ?_
          refine .s [Blk.box (c_S_State v12), Blk.box [(iA v13), (iA v14), (iA v15), (iA v16), (iA v17), (iA v18), (iA v19), (iA v20), (iA v21), (iA v22), (iA v23), (iA v12.Limbs.2.2.2.1.Dir), (iA v12.Limbs.2.2.2.1.Level)]] (.s (A.ptr 0 3) ?_)
          refine .st (v := (A.ptr 0 9)) (by rw [of_decide_eq_true hb66]; kernel_rfl) ?_
          refine .s (A.ptr 0 9) (.s (iA v12.Limbs.2.2.2.1.Dir) ?_)
          refine .bd (g := fun (y : (Int × Int)) => (A.tup [(iA y.1), (iA y.2)])) (h31 v12.Limbs.2.2.2.1.Dir) fun y76 => ?_
          refine .s (iA y76.1) (.s (iA y76.2) (.s (A.ptr 1 3) ?_))
          refine .st (v := (A.ptr 1 11)) (by rw [of_decide_eq_true hb75]; kernel_rfl) ?_
          refine .s (A.ptr 1 11) (.s [Blk.box (c_S_State v12), Blk.box [(iA v13), (iA v14), (iA v15), (iA v16), (iA v17), (iA v18), (iA v19), (iA v20), (iA v21), (iA v22), (iA v23), (iA y76.1), (iA v12.Limbs.2.2.2.1.Level)]] ?_)
          refine .st (v := (iA (wr .i64 (v11 + 1)))) (aBin_add ..) ?_
          refine .s [Blk.box (c_S_State v12), Blk.box [(iA v13), (iA v14), (iA v15), (iA v16), (iA v17), (iA v18), (iA v19), (iA v20), (iA v21), (iA v22), (iA v23), (iA y76.1), (iA v12.Limbs.2.2.2.1.Level)]] ?_
          refine .cT (by kernel_rfl) ?_
          exact ih _ _ _ _ _ _ _ _ _ _ _
        exact .nn
      refine .sp (fun hb77 => ?_) (fun _ => ?_)
      · refine .st (v := (A.ptr 0 11)) (by rw [of_decide_eq_true hb77]; kernel_rfl) ?_
        refine .s (A.agg [(iA v12.Limbs.2.2.2.2.Dir), (iA v12.Limbs.2.2.2.2.Level)]) (.s (A.ptr 1 3) ?_)
        refine .sp (fun hb78 => ?_) (fun _ => ?_)
        · refine .st (v := (A.ptr 1 3)) (by rw [of_decide_eq_true hb78]; kernel_rfl) ?_
          refine .s [Blk.box (c_S_State v12), Blk.box [(iA v13), (iA v14), (iA v15), (iA v12.Limbs.2.2.2.2.Dir), (iA v12.Limbs.2.2.2.2.Level), (iA v18), (iA v19), (iA v20), (iA v21), (iA v22), (iA v23), (iA v24), (iA v25)]] (.s (A.ptr 0 3) ?_)
          refine .st (v := (A.ptr 0 11)) (by rw [of_decide_eq_true hb77]; kernel_rfl) ?_
          refine .s (A.ptr 0 11) (.s (iA v12.Limbs.2.2.2.2.Dir) ?_)
          refine .bd (g := fun (y : (Int × Int)) => (A.tup [(iA y.1), (iA y.2)])) (h31 v12.Limbs.2.2.2.2.Dir) fun y79 => ?_
          refine .s (iA y79.1) (.s (iA y79.2) (.s (A.ptr 1 3) ?_))
          refine .st (v := (A.ptr 1 3)) (by rw [of_decide_eq_true hb78]; kernel_rfl) ?_
          refine .s (A.ptr 1 3) (.s [Blk.box (c_S_State v12), Blk.box [(iA v13), (iA v14), (iA v15), (iA y79.1), (iA v12.Limbs.2.2.2.2.Level), (iA v18), (iA v19), (iA v20), (iA v21), (iA v22), (iA v23), (iA v24), (iA v25)]] ?_)
          refine .st (v := (iA (wr .i64 (v11 + 1)))) (aBin_add ..) ?_
          refine .s [Blk.box (c_S_State v12), Blk.box [(iA v13), (iA v14), (iA v15), (iA y79.1), (iA v12.Limbs.2.2.2.2.Level), (iA v18), (iA v19), (iA v20), (iA v21), (iA v22), (iA v23), (iA v24), (iA v25)]] ?_
          refine .cT (by kernel_rfl) ?_
          exact ih _ _ _ _ _ _ _ _ _ _ _
        refine .sp (fun hb80 => ?_) (fun _ => ?_)
        · refine .st (v := (A.ptr 1 5)) (by rw [of_decide_eq_true hb80]; kernel_rfl) ?_
          refine .s [Blk.box (c_S_State v12), Blk.box [(iA v13), (iA v14), (iA v15), (iA v16), (iA v17), (iA v12.Limbs.2.2.2.2.Dir), (iA v12.Limbs.2.2.2.2.Level), (iA v20), (iA v21), (iA v22), (iA v23), (iA v24), (iA v25)]] (.s (A.ptr 0 3) ?_)
          refine .st (v := (A.ptr 0 11)) (by rw [of_decide_eq_true hb77]; kernel_rfl) ?_
          refine .s (A.ptr 0 11) (.s (iA v12.Limbs.2.2.2.2.Dir) ?_)
          refine .bd (g := fun (y : (Int × Int)) => (A.tup [(iA y.1), (iA y.2)])) (h31 v12.Limbs.2.2.2.2.Dir) fun y81 => ?_
          refine .s (iA y81.1) (.s (iA y81.2) (.s (A.ptr 1 3) ?_))
          refine .st (v := (A.ptr 1 5)) (by rw [of_decide_eq_true hb80]; kernel_rfl) ?_
          refine .s (A.ptr 1 5) (.s [Blk.box (c_S_State v12), Blk.box [(iA v13), (iA v14), (iA v15), (iA v16), (iA v17), (iA y81.1), (iA v12.Limbs.2.2.2.2.Level), (iA v20), (iA v21), (iA v22), (iA v23), (iA v24), (iA v25)]] ?_)
          refine .st (v := (iA (wr .i64 (v11 + 1)))) (aBin_add ..) ?_
          refine .s [Blk.box (c_S_State v12), Blk.box [(iA v13), (iA v14), (iA v15), (iA v16), (iA v17), (iA y81.1), (iA v12.Limbs.2.2.2.2.Level), (iA v20), (iA v21), (iA v22), (iA v23), (iA v24), (iA v25)]] ?_
          refine .cT (by kernel_rfl) ?_
          exact ih _ _ _ _ _ _ _ _ _ _ _
        refine .sp (fun hb82 => ?_) (fun _ => ?_)
        · refine .st (v := (A.ptr 1 7)) (by rw [of_decide_eq_true hb82]; kernel_rfl) ?_
          refine .s [Blk.box (c_S_State v12), Blk.box [(iA v13), (iA v14), (iA v15), (iA v16), (iA v17), (iA v18), (iA v19), (iA v12.Limbs.2.2.2.2.Dir), (iA v12.Limbs.2.2.2.2.Level), (iA v22), (iA v23), (iA v24), (iA v25)]] (.s (A.ptr 0 3) ?_)
          refine .st (v := (A.ptr 0 11)) (by rw [of_decide_eq_true hb77]; kernel_rfl) ?_
          refine .s (A.ptr 0 11) (.s (iA v12.Limbs.2.2.2.2.Dir) ?_)
          refine .bd (g := fun (y : (Int × Int)) => (A.tup [(iA y.1), (iA y.2)])) (h31 v12.Limbs.2.2.2.2.Dir) fun y83 => ?_
          refine .s (iA y83.1) (.s (iA y83.2) (.s (A.ptr 1 3) ?_))
          refine .st (v := (A.ptr 1 7)) (by rw [of_decide_eq_true hb82]; kernel_rfl) ?_
          refine .s (A.ptr 1 7) (.s [Blk.box (c_S_State v12), Blk.box [(iA v13), (iA v14), (iA v15), (iA v16), (iA v17), (iA v18), (iA v19), (iA y83.1), (iA v12.Limbs.2.2.2.2.Level), (iA v22), (iA v23), (iA v24), (iA v25)]] ?_)
          refine .st (v := (iA (wr .i64 (v11 + 1)))) (aBin_add ..) ?_
          refine .s [Blk.box (c_S_State v12), Blk.box [(iA v13), (iA v14), (iA v15), (iA v16), (iA v17), (iA v18), (iA v19), (iA y83.1), (iA v12.Limbs.2.2.2.2.Level), (iA v22), (iA v23), (iA v24), (iA v25)]] ?_
          refine .cT (by kernel_rfl) ?_
          exact ih _ _ _ _ _ _ _ _ _ _ _
        refine .sp (fun hb84 => ?_) (fun _ => ?_)
        · refine .st (v := (A.ptr 1 9)) (by rw [of_decide_eq_true hb84]; kernel_rfl) ?_
          refine .s [Blk.box (c_S_State v12), Blk.box [(iA v13), (iA v14), (iA v15), (iA v16), (iA v17), (iA v18), (iA v19), (iA v20), (iA v21), (iA v12.Limbs.2.2.2.2.Dir), (iA v12.Limbs.2.2.2.2.Level), (iA v24), (iA v25)]] (.s (A.ptr 0 3) ?_)
          refine .st (v := (A.ptr 0 11)) (by rw [of_decide_eq_true hb77]; kernel_rfl) ?_
          refine .s (A.ptr 0 11) (.s (iA v12.Limbs.2.2.2.2.Dir) ?_)
          refine .bd (g := fun (y : (Int × Int)) => (A.tup [(iA y.1), (iA y.2)])) (h31 v12.Limbs.2.2.2.2.Dir) fun y85 => ?_
          refine .s (iA y85.1) (.s (iA y85.2) (.s (A.ptr 1 3) ?_))
          refine .st (v := (A.ptr 1 9)) (by rw [of_decide_eq_true hb84]; kernel_rfl) ?_
          refine .s (A.ptr 1 9) (.s [Blk.box (c_S_State v12), Blk.box [(iA v13), (iA v14), (iA v15), (iA v16), (iA v17), (iA v18), (iA v19), (iA v20), (iA v21), (iA y85.1), (iA v12.Limbs.2.2.2.2.Level), (iA v24), (iA v25)]] ?_)
          refine .st (v := (iA (wr .i64 (v11 + 1)))) (aBin_add ..) ?_
          refine .s [Blk.box (c_S_State v12), Blk.box [(iA v13), (iA v14), (iA v15), (iA v16), (iA v17), (iA v18), (iA v19), (iA v20), (iA v21), (iA y85.1), (iA v12.Limbs.2.2.2.2.Level), (iA v24), (iA v25)]] ?_
          refine .cT (by kernel_rfl) ?_
          exact ih _ _ _ _ _ _ _ _ _ _ _
        refine .sp (fun hb86 => ?_) (fun _ => ?_)
        · refine .st (v := (A.ptr 1 11)) (by rw [of_decide_eq_true hb86]; kernel_rfl) ?_
          refine .s [Blk.box (c_S_State v12), Blk.box [(iA v13), (iA v14), (iA v15), (iA v16), (iA v17), (iA v18), (iA v19), (iA v20), (iA v21), (iA v22), (iA v23), (iA v12.Limbs.2.2.2.2.Dir), (iA v12.Limbs.2.2.2.2.Level)]] (.s (A.ptr 0 3) ?_)
          refine .st (v := (A.ptr 0 11)) (by rw [of_decide_eq_true hb77]; kernel_rfl) ?_
          refine .s (A.ptr 0 11) (.s (iA v12.Limbs.2.2.2.2.Dir) ?_)
          refine .bd (g := fun (y : (Int × Int)) => (A.tup [(iA y.1), (iA y.2)])) (h31 v12.Limbs.2.2.2.2.Dir) fun y87 => ?_
          refine .s (iA y87.1) (.s (iA y87.2) (.s (A.ptr 1 3) ?_))
          refine .st (v := (A.ptr 1 11)) (by rw [of_decide_eq_true hb86]; kernel_rfl) ?_
          refine .s (A.ptr 1 11) (.s [Blk.box (c_S_State v12), Blk.box [(iA v13), (iA v14), (iA v15), (iA v16), (iA v17), (iA v18), (iA v19), (iA v20), (iA v21), (iA v22), (iA v23), (iA y87.1), (iA v12.Limbs.2.2.2.2.Level)]] ?_)
          refine .st (v := (iA (wr .i64 (v11 + 1)))) (aBin_add ..) ?_
          refine .s [Blk.box (c_S_State v12), Blk.box [(iA v13), (iA v14), (iA v15), (iA v16), (iA v17), (iA v18), (iA v19), (iA v20), (iA v21), (iA v22), (iA v23), (iA y87.1), (iA v12.Limbs.2.2.2.2.Level)]] ?_
          refine .cT (by kernel_rfl) ?_
          exact ih _ _ _ _ _ _ _ _ _ _ _
        exact .nn
      exact .nn
    exact .ex (x0 _ _ _ _ _ _ _ _ _ _ _ _ _ _)
def F14 (n : Nat) (a0 : S_State) (a1 : Int) : Option (S_State × Int) :=
  Option.bind (G16 a0) fun y1 => bif (y1 != 0) then (some (((S_State.mk 0 0 0 (((S_Limb.mk 0 0), (S_Limb.mk 0 0), (S_Limb.mk 0 0), (S_Limb.mk 0 0), (S_Limb.mk 0 0)))), y1))) else (Option.bind (G29 a1 1 1000) fun y3 => bif (!y3) then (some (((S_State.mk 0 0 0 (((S_Limb.mk 0 0), (S_Limb.mk 0 0), (S_Limb.mk 0 0), (S_Limb.mk 0 0), (S_Limb.mk 0 0)))), 1))) else (Option.bind (F14_14_0 n y1 1 0 3 2 4 a0 (wr .i64 ((wr .i64 (29 * a1)) - a0.X)) a0.Y (Int.tmod (wr .i64 (8 - a0.Face)) 8) (n+8) 0 0 0 0 0 0 0 0 0 0 0) fun o88 => match o88 with | (y89, y90, y91, y92, y93, y94, y95, y96, y97, y98) => Option.bind (G16 ((S_State.mk (wr .i64 ((wr .i64 (29 * a1)) - a0.X)) a0.Y (Int.tmod (wr .i64 (8 - a0.Face)) 8) (((S_Limb.mk y89 y90), (S_Limb.mk y91 y92), (S_Limb.mk y93 y94), (S_Limb.mk y95 y96), (S_Limb.mk y97 y98)))))) fun y103 => bif (y103 != 0) then (some (((S_State.mk 0 0 0 (((S_Limb.mk 0 0), (S_Limb.mk 0 0), (S_Limb.mk 0 0), (S_Limb.mk 0 0), (S_Limb.mk 0 0)))), 2))) else (some (((S_State.mk (wr .i64 ((wr .i64 (29 * a1)) - a0.X)) a0.Y (Int.tmod (wr .i64 (8 - a0.Face)) 8) (((S_Limb.mk y89 y90), (S_Limb.mk y91 y92), (S_Limb.mk y93 y94), (S_Limb.mk y95 y96), (S_Limb.mk y97 y98)))), 0)))))
theorem T14 (C : Nat → List A → Option A) (n : Nat) (h16 : Orc16 C) (h29 : Orc29 C) (h31 : Orc31 C) (a0 : S_State) (a1 : Int) : J (fun (o : R) y => ∃ v, o.1 = .ret v ∧ snapE o.2 v = (A.tup [(A.agg [(iA y.1.X), (iA y.1.Y), (iA y.1.Face), (iA y.1.Limbs.1.Dir), (iA y.1.Limbs.1.Level), (iA y.1.Limbs.2.1.Dir), (iA y.1.Limbs.2.1.Level), (iA y.1.Limbs.2.2.1.Dir), (iA y.1.Limbs.2.2.1.Level), (iA y.1.Limbs.2.2.2.1.Dir), (iA y.1.Limbs.2.2.2.1.Level), (iA y.1.Limbs.2.2.2.2.Dir), (iA y.1.Limbs.2.2.2.2.Level)]), (iA y.2)])) (evCall1 (cx C) (evCall (cx C) (n+8)) (evCallY (cx C) (n+8)) (n+8) 14 [(A.agg (c_S_State a0)), (iA a1)] [] 0) some (F14 n a0 a1) some := by
  refine .lp (e14 ..) ?_
  unfold F14
  refine .s ((A.ptr 0 0), [Blk.box (c_S_State a0)]) (.s ((A.ptr 1 0), [Blk.box (c_S_State a0), Blk.box [(iA 0), (iA 0), (iA 0), (iA 0), (iA 0), (iA 0), (iA 0), (iA 0), (iA 0), (iA 0), (iA 0), (iA 0), (iA 0)]]) (.s (A.agg (c_S_State a0)) ?_))
  refine .bd (g := fun (y : Int) => (iA y)) (h16 a0) fun y1 => ?_
  refine .st (v := (bA (y1 != 0))) (aBin_neq ..) ?_
  refine .biHN (fun hk2 => ?_) (fun hk2 => ?_)
  · refine .s (A.agg [(iA 0), (iA 0), (iA 0), (iA 0), (iA 0), (iA 0), (iA 0), (iA 0), (iA 0), (iA 0), (iA 0), (iA 0), (iA 0)]) (.s [Blk.box (c_S_State a0), Blk.box [(iA 0), (iA 0), (iA 0), (iA 0), (iA 0), (iA 0), (iA 0), (iA 0), (iA 0), (iA 0), (iA 0), (iA 0), (iA 0)]] (.s (A.agg [(iA 0), (iA 0), (iA 0), (iA 0), (iA 0), (iA 0), (iA 0), (iA 0), (iA 0), (iA 0), (iA 0), (iA 0), (iA 0)]) ?_))
    exact .lf rfl rfl ⟨_, rfl, rfl⟩
  refine .bd (g := fun (y : Bool) => (bA y)) (h29 a1 1 1000) fun y3 => ?_
  refine .s (bA (!y3)) ?_
  refine .biHN (fun hk4 => ?_) (fun hk4 => ?_)
  · refine .s (A.agg [(iA 0), (iA 0), (iA 0), (iA 0), (iA 0), (iA 0), (iA 0), (iA 0), (iA 0), (iA 0), (iA 0), (iA 0), (iA 0)]) (.s [Blk.box (c_S_State a0), Blk.box [(iA 0), (iA 0), (iA 0), (iA 0), (iA 0), (iA 0), (iA 0), (iA 0), (iA 0), (iA 0), (iA 0), (iA 0), (iA 0)]] (.s (A.agg [(iA 0), (iA 0), (iA 0), (iA 0), (iA 0), (iA 0), (iA 0), (iA 0), (iA 0), (iA 0), (iA 0), (iA 0), (iA 0)]) ?_))
    exact .lf rfl rfl ⟨_, rfl, rfl⟩
  refine .st (v := (iA (wr .i64 (29 * a1)))) (aBin_mul ..) ?_
  refine .s (A.ptr 0 0) (.s (iA a0.X) ?_)
  refine .st (v := (iA (wr .i64 ((wr .i64 (29 * a1)) - a0.X)))) (aBin_sub ..) ?_
  refine .s (A.ptr 0 1) (.s (iA a0.Y) (.s (A.ptr 0 2) (.s (iA a0.Face) ?_)))
  refine .st (v := (iA (wr .i64 (8 - a0.Face)))) (aBin_sub ..) ?_
  refine .st (v := (iA (Int.tmod (wr .i64 (8 - a0.Face)) 8))) (aBin_rem (hb := by decide) ..) ?_
  refine .s (A.agg [(iA (wr .i64 ((wr .i64 (29 * a1)) - a0.X))), (iA a0.Y), (iA (Int.tmod (wr .i64 (8 - a0.Face)) 8)), (iA 0), (iA 0), (iA 0), (iA 0), (iA 0), (iA 0), (iA 0), (iA 0), (iA 0), (iA 0)]) (.s [Blk.box (c_S_State a0), Blk.box [(iA (wr .i64 ((wr .i64 (29 * a1)) - a0.X))), (iA a0.Y), (iA (Int.tmod (wr .i64 (8 - a0.Face)) 8)), (iA 0), (iA 0), (iA 0), (iA 0), (iA 0), (iA 0), (iA 0), (iA 0), (iA 0), (iA 0)]] (.s (A.agg [(iA 1), (iA 0), (iA 3), (iA 2), (iA 4)]) ?_))
  refine .as (T14_14_0 C n h16 h29 h31 y1 1 0 3 2 4 a0 (wr .i64 ((wr .i64 (29 * a1)) - a0.X)) a0.Y (Int.tmod (wr .i64 (8 - a0.Face)) 8) _ _ _ _ ?_ _ 0 0 0 0 0 0 0 0 0 0 0)
  · intro y89 y90 y91 y92 y93 y94 y95 y96 y97 y98 j99 j100 j101 j102
    refine .un rfl ?_
    refine .cT (by kernel_rfl) ?_
    refine .s (A.agg [(iA (wr .i64 ((wr .i64 (29 * a1)) - a0.X))), (iA a0.Y), (iA (Int.tmod (wr .i64 (8 - a0.Face)) 8)), (iA y89), (iA y90), (iA y91), (iA y92), (iA y93), (iA y94), (iA y95), (iA y96), (iA y97), (iA y98)]) ?_
    refine .bd (g := fun (y : Int) => (iA y)) (h16 ((S_State.mk (wr .i64 ((wr .i64 (29 * a1)) - a0.X)) a0.Y (Int.tmod (wr .i64 (8 - a0.Face)) 8) (((S_Limb.mk y89 y90), (S_Limb.mk y91 y92), (S_Limb.mk y93 y94), (S_Limb.mk y95 y96), (S_Limb.mk y97 y98)))))) fun y103 => ?_
    refine .st (v := (bA (y103 != 0))) (aBin_neq ..) ?_
    refine .biHN (fun hk104 => ?_) (fun hk104 => ?_)
    · refine .s (A.agg [(iA 0), (iA 0), (iA 0), (iA 0), (iA 0), (iA 0), (iA 0), (iA 0), (iA 0), (iA 0), (iA 0), (iA 0), (iA 0)]) (.s [Blk.box (c_S_State a0), Blk.box [(iA 0), (iA 0), (iA 0), (iA 0), (iA 0), (iA 0), (iA 0), (iA 0), (iA 0), (iA 0), (iA 0), (iA 0), (iA 0)]] (.s (A.agg [(iA 0), (iA 0), (iA 0), (iA 0), (iA 0), (iA 0), (iA 0), (iA 0), (iA 0), (iA 0), (iA 0), (iA 0), (iA 0)]) ?_))
      exact .lf rfl rfl ⟨_, rfl, rfl⟩
    refine .s (A.agg [(iA (wr .i64 ((wr .i64 (29 * a1)) - a0.X))), (iA a0.Y), (iA (Int.tmod (wr .i64 (8 - a0.Face)) 8)), (iA y89), (iA y90), (iA y91), (iA y92), (iA y93), (iA y94), (iA y95), (iA y96), (iA y97), (iA y98)]) (.s [Blk.box (c_S_State a0), Blk.box [(iA (wr .i64 ((wr .i64 (29 * a1)) - a0.X))), (iA a0.Y), (iA (Int.tmod (wr .i64 (8 - a0.Face)) 8)), (iA y89), (iA y90), (iA y91), (iA y92), (iA y93), (iA y94), (iA y95), (iA y96), (iA y97), (iA y98)]] (.s (A.agg [(iA (wr .i64 ((wr .i64 (29 * a1)) - a0.X))), (iA a0.Y), (iA (Int.tmod (wr .i64 (8 - a0.Face)) 8)), (iA y89), (iA y90), (iA y91), (iA y92), (iA y93), (iA y94), (iA y95), (iA y96), (iA y97), (iA y98)]) ?_))
    exact .lf rfl rfl ⟨_, rfl, rfl⟩
def G14 (a0 : S_State) (a1 : Int) : Option (S_State × Int) := F14 fuel0 a0 a1
def Orc14 (C : Nat → List A → Option A) : Prop := ∀ (a0 : S_State) (a1 : Int), C 14 [(A.agg (c_S_State a0)), (iA a1)] = (G14 a0 a1).map fun y => (A.tup [(A.agg [(iA y.1.X), (iA y.1.Y), (iA y.1.Face), (iA y.1.Limbs.1.Dir), (iA y.1.Limbs.1.Level), (iA y.1.Limbs.2.1.Dir), (iA y.1.Limbs.2.1.Level), (iA y.1.Limbs.2.2.1.Dir), (iA y.1.Limbs.2.2.1.Level), (iA y.1.Limbs.2.2.2.1.Dir), (iA y.1.Limbs.2.2.2.1.Level), (iA y.1.Limbs.2.2.2.2.Dir), (iA y.1.Limbs.2.2.2.2.Level)]), (iA y.2)])
def hk11_1 : Blk := Blk.box [(iA 0), (iA 0), (iA 0), (iA 1), (iA 1), (iA 1), (iA 1), (iA 0), (iA 2), (iA 0), (iA 0), (iA 0), (iA 0), (iA 0)]
def hk11_2 : Blk := Blk.box [(iA 1), (iA 0), (iA 0), (iA 1), (iA 4), (iA 2), (iA 1), (iA 2), (iA 0), (iA 0), (iA 0), (iA 0), (iA 0), (iA 0)]
def hk11_3 (y2 : (S_State × Int)) : Blk := Blk.box [(iA y2.1.X), (iA y2.1.Y), (iA y2.1.Face), (iA y2.1.Limbs.1.Dir), (iA y2.1.Limbs.1.Level), (iA y2.1.Limbs.2.1.Dir), (iA y2.1.Limbs.2.1.Level), (iA y2.1.Limbs.2.2.1.Dir), (iA y2.1.Limbs.2.2.1.Level), (iA 1), (iA 2), (iA y2.1.Limbs.2.2.2.2.Dir), (iA y2.1.Limbs.2.2.2.2.Level)]
def F11 (n : Nat)  : Option Bool :=
  Option.bind (G12 ((S_Role.mk ByteArray.empty 2 3 2))) fun y1 => Option.bind (G18 y1.1 ((S_Sign.mk 0 0 0 1 1 1 1 0 2 0 ((S_Ratio.mk 0 0)) ((S_Ratio.mk 0 0)))) ((S_Real.mk 0 0 0 false))) fun y2 => Option.bind (G18 y2.1 ((S_Sign.mk 1 0 0 1 4 2 1 2 0 0 ((S_Ratio.mk 0 0)) ((S_Ratio.mk 0 0)))) ((S_Real.mk 1 1 2 false))) fun y3 => Option.bind (G28 ) fun y4 => Option.bind (G20 y1.1 y4) fun y5 => Option.bind (G28 ) fun y6 => Option.bind (G20 y3.1 y6) fun y7 => Option.bind (G14 ((S_State.mk 0 0 0 (((S_Limb.mk 0 0), (S_Limb.mk 0 0), (S_Limb.mk 0 0), (S_Limb.mk 0 0), (S_Limb.mk 0 0))))) 10) fun y8 => Option.bind (G18 ((S_State.mk 0 0 0 (((S_Limb.mk 0 0), (S_Limb.mk 0 0), (S_Limb.mk 0 0), (S_Limb.mk 0 0), (S_Limb.mk 0 0))))) ((S_Sign.mk 0 0 0 0 0 0 0 0 0 0 ((S_Ratio.mk 0 0)) ((S_Ratio.mk 0 0)))) ((S_Real.mk 0 0 0 false))) fun y9 => Option.bind (G12 ((S_Role.mk ByteArray.empty 1001 0 0))) fun y10 => Option.bind (G18 y1.1 ((S_Sign.mk 0 0 0 1 1 1 1 0 2 0 ((S_Ratio.mk 0 0)) ((S_Ratio.mk 0 0)))) ((S_Real.mk 0 0 0 true))) fun y11 => Option.bind (bif (y1.2 != 0) then (some true) else (some (y2.2 != 0))) fun y13 => Option.bind (bif y13 then (some true) else (some (y3.2 != 0))) fun y17 => Option.bind (bif y17 then (some true) else (some (y5.2 != 0))) fun y21 => Option.bind (bif y21 then (some true) else (some (y7.2 != 0))) fun y25 => Option.bind (bif y25 then (some true) else (some (y8.2 != 0))) fun y29 => Option.bind (bif y29 then (some true) else (some (y9.2 != 1))) fun y33 => Option.bind (bif y33 then (some true) else (some (y10.2 != 1))) fun y37 => Option.bind (bif y37 then (some true) else (some (y11.2 != 0))) fun y41 => Option.bind (bif y41 then (some true) else (some (!((y11.1.X == y1.1.X) && ((y11.1.Y == y1.1.Y) && ((y11.1.Face == y1.1.Face) && (((y11.1.Limbs.1.Dir == y1.1.Limbs.1.Dir) && (y11.1.Limbs.1.Level == y1.1.Limbs.1.Level)) && (((y11.1.Limbs.2.1.Dir == y1.1.Limbs.2.1.Dir) && (y11.1.Limbs.2.1.Level == y1.1.Limbs.2.1.Level)) && (((y11.1.Limbs.2.2.1.Dir == y1.1.Limbs.2.2.1.Dir) && (y11.1.Limbs.2.2.1.Level == y1.1.Limbs.2.2.1.Level)) && (((y11.1.Limbs.2.2.2.1.Dir == y1.1.Limbs.2.2.2.1.Dir) && (y11.1.Limbs.2.2.2.1.Level == y1.1.Limbs.2.2.2.1.Level)) && ((y11.1.Limbs.2.2.2.2.Dir == y1.1.Limbs.2.2.2.2.Dir) && (y11.1.Limbs.2.2.2.2.Level == y1.1.Limbs.2.2.2.2.Level)))))))))))) fun y45 => bif y45 then (some false) else (Option.bind (bif (!((y1.1.X == 58) && ((y1.1.Y == 87) && ((y1.1.Face == 2) && (((y1.1.Limbs.1.Dir == 0) && (y1.1.Limbs.1.Level == 0)) && (((y1.1.Limbs.2.1.Dir == 0) && (y1.1.Limbs.2.1.Level == 0)) && (((y1.1.Limbs.2.2.1.Dir == 0) && (y1.1.Limbs.2.2.1.Level == 0)) && (((y1.1.Limbs.2.2.2.1.Dir == 0) && (y1.1.Limbs.2.2.2.1.Level == 0)) && ((y1.1.Limbs.2.2.2.2.Dir == 0) && (y1.1.Limbs.2.2.2.2.Level == 0)))))))))) then (some true) else (some (!((y2.1.X == 116) && ((y2.1.Y == 87) && ((y2.1.Face == 2) && (((y2.1.Limbs.1.Dir == 0) && (y2.1.Limbs.1.Level == 0)) && (((y2.1.Limbs.2.1.Dir == 0) && (y2.1.Limbs.2.1.Level == 0)) && (((y2.1.Limbs.2.2.1.Dir == 0) && (y2.1.Limbs.2.2.1.Level == 0)) && (((y2.1.Limbs.2.2.2.1.Dir == 0) && (y2.1.Limbs.2.2.2.1.Level == 0)) && ((y2.1.Limbs.2.2.2.2.Dir == 0) && (y2.1.Limbs.2.2.2.2.Level == 0)))))))))))) fun y51 => Option.bind (bif y51 then (some true) else (some (!((y8.1.X == 290) && ((y8.1.Y == 0) && ((y8.1.Face == 0) && (((y8.1.Limbs.1.Dir == 0) && (y8.1.Limbs.1.Level == 0)) && (((y8.1.Limbs.2.1.Dir == 0) && (y8.1.Limbs.2.1.Level == 0)) && (((y8.1.Limbs.2.2.1.Dir == 0) && (y8.1.Limbs.2.2.1.Level == 0)) && (((y8.1.Limbs.2.2.2.1.Dir == 0) && (y8.1.Limbs.2.2.2.1.Level == 0)) && ((y8.1.Limbs.2.2.2.2.Dir == 0) && (y8.1.Limbs.2.2.2.2.Level == 0)))))))))))) fun y56 => Option.bind (bif y56 then (some true) else (Option.bind (G16 ((S_State.mk 0 0 8 (((S_Limb.mk 0 0), (S_Limb.mk 0 0), (S_Limb.mk 0 0), (S_Limb.mk 0 0), (S_Limb.mk 0 0)))))) fun y61 => some (y61 != 260))) fun y62 => Option.bind (bif y62 then (some true) else (Option.bind (G16 y3.1) fun y67 => some (y67 != 0))) fun y68 => bif y68 then (some false) else (Option.bind (bif (((y3.1.X == y2.1.X) && ((y3.1.Y == y2.1.Y) && ((y3.1.Face == y2.1.Face) && (((y3.1.Limbs.1.Dir == y2.1.Limbs.1.Dir) && (y3.1.Limbs.1.Level == y2.1.Limbs.1.Level)) && (((y3.1.Limbs.2.1.Dir == y2.1.Limbs.2.1.Dir) && (y3.1.Limbs.2.1.Level == y2.1.Limbs.2.1.Level)) && (((y3.1.Limbs.2.2.1.Dir == y2.1.Limbs.2.2.1.Dir) && (y3.1.Limbs.2.2.1.Level == y2.1.Limbs.2.2.1.Level)) && (((y3.1.Limbs.2.2.2.1.Dir == 1) && (y3.1.Limbs.2.2.2.1.Level == 2)) && ((y3.1.Limbs.2.2.2.2.Dir == y2.1.Limbs.2.2.2.2.Dir) && (y3.1.Limbs.2.2.2.2.Level == y2.1.Limbs.2.2.2.2.Level)))))))))) then (some ((((y5.1.X.Lo == 841) && (y5.1.X.Hi == 2523)) && ((y5.1.Y.Lo == 1682) && (y5.1.Y.Hi == 3364))))) else (some false)) fun y74 => Option.bind (bif y74 then (some ((((y7.1.X.Lo == 2523) && (y7.1.X.Hi == 5887)) && ((y7.1.Y.Lo == 1682) && (y7.1.Y.Hi == 3364))))) else (some false)) fun y79 => some y79))
theorem T11 (C : Nat → List A → Option A) (n : Nat) (h12 : Orc12 C) (h14 : Orc14 C) (h16 : Orc16 C) (h18 : Orc18 C) (h20 : Orc20 C) (h28 : Orc28 C) : J (fun (o : R) y => ∃ v, o.1 = .ret v ∧ snapE o.2 v = (bA y)) (evCall1 (cx C) (evCall (cx C) (n+8)) (evCallY (cx C) (n+8)) (n+8) 11 [] [] 0) some (F11 n ) some := by
  refine .lp (e11 ..) ?_
  unfold F11
  refine .s (A.agg [(A.v (Value.string ByteArray.empty)), (iA 2), (iA 3), (iA 2)]) ?_
  refine .bd (g := fun (y : (S_State × Int)) => (A.tup [(A.agg [(iA y.1.X), (iA y.1.Y), (iA y.1.Face), (iA y.1.Limbs.1.Dir), (iA y.1.Limbs.1.Level), (iA y.1.Limbs.2.1.Dir), (iA y.1.Limbs.2.1.Level), (iA y.1.Limbs.2.2.1.Dir), (iA y.1.Limbs.2.2.1.Level), (iA y.1.Limbs.2.2.2.1.Dir), (iA y.1.Limbs.2.2.2.1.Level), (iA y.1.Limbs.2.2.2.2.Dir), (iA y.1.Limbs.2.2.2.2.Level)]), (iA y.2)])) (h12 ((S_Role.mk ByteArray.empty 2 3 2))) fun y1 => ?_
  refine .s (A.agg (c_S_State y1.1)) (.s (iA y1.2) (.s ((A.ptr 0 0), [hk18_2]) (.s [Blk.box (c_S_State y1.1)] (.s (A.agg [(iA 0), (iA 0), (iA 0), (iA 1), (iA 1), (iA 1), (iA 1), (iA 0), (iA 2), (iA 0), (iA 0), (iA 0), (iA 0), (iA 0)]) (.s ((A.ptr 1 0), [Blk.box (c_S_State y1.1), Blk.box [(iA 0), (iA 0), (iA 0), (iA 0), (iA 0), (iA 0), (iA 0), (iA 0), (iA 0), (iA 0), (iA 0), (iA 0), (iA 0), (iA 0)]]) (.s [Blk.box (c_S_State y1.1), hk11_1] (.s (A.agg (c_S_State y1.1)) (.s (A.agg [(iA 0), (iA 0), (iA 0), (iA 1), (iA 1), (iA 1), (iA 1), (iA 0), (iA 2), (iA 0), (iA 0), (iA 0), (iA 0), (iA 0)]) (.s (A.agg [(iA 0), (iA 0), (iA 0), (bA false)]) ?_)))))))))
  refine .bd (g := fun (y : (S_State × Int)) => (A.tup [(A.agg [(iA y.1.X), (iA y.1.Y), (iA y.1.Face), (iA y.1.Limbs.1.Dir), (iA y.1.Limbs.1.Level), (iA y.1.Limbs.2.1.Dir), (iA y.1.Limbs.2.1.Level), (iA y.1.Limbs.2.2.1.Dir), (iA y.1.Limbs.2.2.1.Level), (iA y.1.Limbs.2.2.2.1.Dir), (iA y.1.Limbs.2.2.2.1.Level), (iA y.1.Limbs.2.2.2.2.Dir), (iA y.1.Limbs.2.2.2.2.Level)]), (iA y.2)])) (h18 y1.1 ((S_Sign.mk 0 0 0 1 1 1 1 0 2 0 ((S_Ratio.mk 0 0)) ((S_Ratio.mk 0 0)))) ((S_Real.mk 0 0 0 false))) fun y2 => ?_
  refine .s (A.agg (c_S_State y2.1)) (.s (iA y2.2) (.s ((A.ptr 2 0), [Blk.box (c_S_State y1.1), hk11_1, hk18_2]) (.s [Blk.box (c_S_State y1.1), hk11_1, Blk.box (c_S_State y2.1)] (.s (A.agg [(iA 1), (iA 0), (iA 0), (iA 1), (iA 4), (iA 2), (iA 1), (iA 2), (iA 0), (iA 0), (iA 0), (iA 0), (iA 0), (iA 0)]) (.s ((A.ptr 3 0), [Blk.box (c_S_State y1.1), hk11_1, Blk.box (c_S_State y2.1), Blk.box [(iA 0), (iA 0), (iA 0), (iA 0), (iA 0), (iA 0), (iA 0), (iA 0), (iA 0), (iA 0), (iA 0), (iA 0), (iA 0), (iA 0)]]) (.s [Blk.box (c_S_State y1.1), hk11_1, Blk.box (c_S_State y2.1), hk11_2] (.s (A.agg (c_S_State y2.1)) (.s (A.agg [(iA 1), (iA 0), (iA 0), (iA 1), (iA 4), (iA 2), (iA 1), (iA 2), (iA 0), (iA 0), (iA 0), (iA 0), (iA 0), (iA 0)]) (.s (A.agg [(iA 1), (iA 1), (iA 2), (bA false)]) ?_)))))))))
  refine .bd (g := fun (y : (S_State × Int)) => (A.tup [(A.agg [(iA y.1.X), (iA y.1.Y), (iA y.1.Face), (iA y.1.Limbs.1.Dir), (iA y.1.Limbs.1.Level), (iA y.1.Limbs.2.1.Dir), (iA y.1.Limbs.2.1.Level), (iA y.1.Limbs.2.2.1.Dir), (iA y.1.Limbs.2.2.1.Level), (iA y.1.Limbs.2.2.2.1.Dir), (iA y.1.Limbs.2.2.2.1.Level), (iA y.1.Limbs.2.2.2.2.Dir), (iA y.1.Limbs.2.2.2.2.Level)]), (iA y.2)])) (h18 y2.1 ((S_Sign.mk 1 0 0 1 4 2 1 2 0 0 ((S_Ratio.mk 0 0)) ((S_Ratio.mk 0 0)))) ((S_Real.mk 1 1 2 false))) fun y3 => ?_
  refine .s (A.agg (c_S_State y3.1)) (.s (iA y3.2) (.s ((A.ptr 4 0), [Blk.box (c_S_State y1.1), hk11_1, Blk.box (c_S_State y2.1), hk11_2, hk18_2]) (.s [Blk.box (c_S_State y1.1), hk11_1, Blk.box (c_S_State y2.1), hk11_2, Blk.box (c_S_State y3.1)] (.s (A.agg (c_S_State y1.1)) ?_))))
  refine .bd (g := fun (y : S_Body) => (A.agg [(A.v (Value.string y.Name)), (iA y.Weight), (iA y.Lift), (iA y.Girth), (iA y.Step), (iA y.Jump), (iA y.Reach.1), (iA y.Reach.2.1), (iA y.Reach.2.2), (iA y.Speed.1), (iA y.Speed.2.1), (iA y.Speed.2.2), (iA y.Top.1), (iA y.Top.2.1), (iA y.Top.2.2), (iA y.Effort), (iA y.Recover)])) (h28 ()) fun y4 => ?_
  refine .bd (g := fun (y : (S_Box × Int)) => (A.tup [(A.agg [(iA y.1.X.Lo), (iA y.1.X.Hi), (iA y.1.Y.Lo), (iA y.1.Y.Hi)]), (iA y.2)])) (h20 y1.1 y4) fun y5 => ?_
  refine .s (A.agg (c_S_Box y5.1)) (.s (iA y5.2) ?_)
  refine .cT (by kernel_rfl) ?_
  refine .s ((A.ptr 5 0), [Blk.box (c_S_State y1.1), hk11_1, Blk.box (c_S_State y2.1), hk11_2, Blk.box (c_S_State y3.1), Blk.box [(iA 0), (iA 0), (iA 0), (iA 0)]]) (.s [Blk.box (c_S_State y1.1), hk11_1, Blk.box (c_S_State y2.1), hk11_2, Blk.box (c_S_State y3.1), Blk.box (c_S_Box y5.1)] (.s (A.agg (c_S_State y3.1)) ?_))
  refine .bd (g := fun (y : S_Body) => (A.agg [(A.v (Value.string y.Name)), (iA y.Weight), (iA y.Lift), (iA y.Girth), (iA y.Step), (iA y.Jump), (iA y.Reach.1), (iA y.Reach.2.1), (iA y.Reach.2.2), (iA y.Speed.1), (iA y.Speed.2.1), (iA y.Speed.2.2), (iA y.Top.1), (iA y.Top.2.1), (iA y.Top.2.2), (iA y.Effort), (iA y.Recover)])) (h28 ()) fun y6 => ?_
  refine .bd (g := fun (y : (S_Box × Int)) => (A.tup [(A.agg [(iA y.1.X.Lo), (iA y.1.X.Hi), (iA y.1.Y.Lo), (iA y.1.Y.Hi)]), (iA y.2)])) (h20 y3.1 y6) fun y7 => ?_
  refine .s (A.agg (c_S_Box y7.1)) (.s (iA y7.2) ?_)
  refine .cT (by kernel_rfl) ?_
  refine .s ((A.ptr 6 0), [Blk.box (c_S_State y1.1), hk11_1, Blk.box (c_S_State y2.1), hk11_2, Blk.box (c_S_State y3.1), Blk.box (c_S_Box y5.1), Blk.box [(iA 0), (iA 0), (iA 0), (iA 0)]]) (.s [Blk.box (c_S_State y1.1), hk11_1, Blk.box (c_S_State y2.1), hk11_2, Blk.box (c_S_State y3.1), Blk.box (c_S_Box y5.1), Blk.box (c_S_Box y7.1)] (.s (A.agg [(iA 0), (iA 0), (iA 0), (iA 0), (iA 0), (iA 0), (iA 0), (iA 0), (iA 0), (iA 0), (iA 0), (iA 0), (iA 0)]) ?_))
  refine .bd (g := fun (y : (S_State × Int)) => (A.tup [(A.agg [(iA y.1.X), (iA y.1.Y), (iA y.1.Face), (iA y.1.Limbs.1.Dir), (iA y.1.Limbs.1.Level), (iA y.1.Limbs.2.1.Dir), (iA y.1.Limbs.2.1.Level), (iA y.1.Limbs.2.2.1.Dir), (iA y.1.Limbs.2.2.1.Level), (iA y.1.Limbs.2.2.2.1.Dir), (iA y.1.Limbs.2.2.2.1.Level), (iA y.1.Limbs.2.2.2.2.Dir), (iA y.1.Limbs.2.2.2.2.Level)]), (iA y.2)])) (h14 ((S_State.mk 0 0 0 (((S_Limb.mk 0 0), (S_Limb.mk 0 0), (S_Limb.mk 0 0), (S_Limb.mk 0 0), (S_Limb.mk 0 0))))) 10) fun y8 => ?_
  refine .s (A.agg (c_S_State y8.1)) (.s (iA y8.2) (.s ((A.ptr 7 0), [Blk.box (c_S_State y1.1), hk11_1, Blk.box (c_S_State y2.1), hk11_2, Blk.box (c_S_State y3.1), Blk.box (c_S_Box y5.1), Blk.box (c_S_Box y7.1), hk18_2]) (.s [Blk.box (c_S_State y1.1), hk11_1, Blk.box (c_S_State y2.1), hk11_2, Blk.box (c_S_State y3.1), Blk.box (c_S_Box y5.1), Blk.box (c_S_Box y7.1), Blk.box (c_S_State y8.1)] (.s (A.agg [(iA 0), (iA 0), (iA 0), (iA 0), (iA 0), (iA 0), (iA 0), (iA 0), (iA 0), (iA 0), (iA 0), (iA 0), (iA 0)]) (.s (A.agg [(iA 0), (iA 0), (iA 0), (iA 0), (iA 0), (iA 0), (iA 0), (iA 0), (iA 0), (iA 0), (iA 0), (iA 0), (iA 0), (iA 0)]) (.s (A.agg [(iA 0), (iA 0), (iA 0), (bA false)]) ?_))))))
  refine .bd (g := fun (y : (S_State × Int)) => (A.tup [(A.agg [(iA y.1.X), (iA y.1.Y), (iA y.1.Face), (iA y.1.Limbs.1.Dir), (iA y.1.Limbs.1.Level), (iA y.1.Limbs.2.1.Dir), (iA y.1.Limbs.2.1.Level), (iA y.1.Limbs.2.2.1.Dir), (iA y.1.Limbs.2.2.1.Level), (iA y.1.Limbs.2.2.2.1.Dir), (iA y.1.Limbs.2.2.2.1.Level), (iA y.1.Limbs.2.2.2.2.Dir), (iA y.1.Limbs.2.2.2.2.Level)]), (iA y.2)])) (h18 ((S_State.mk 0 0 0 (((S_Limb.mk 0 0), (S_Limb.mk 0 0), (S_Limb.mk 0 0), (S_Limb.mk 0 0), (S_Limb.mk 0 0))))) ((S_Sign.mk 0 0 0 0 0 0 0 0 0 0 ((S_Ratio.mk 0 0)) ((S_Ratio.mk 0 0)))) ((S_Real.mk 0 0 0 false))) fun y9 => ?_
  refine .s (A.agg (c_S_State y9.1)) (.s (iA y9.2) (.s ((A.ptr 8 0), [Blk.box (c_S_State y1.1), hk11_1, Blk.box (c_S_State y2.1), hk11_2, Blk.box (c_S_State y3.1), Blk.box (c_S_Box y5.1), Blk.box (c_S_Box y7.1), Blk.box (c_S_State y8.1), hk18_2]) (.s [Blk.box (c_S_State y1.1), hk11_1, Blk.box (c_S_State y2.1), hk11_2, Blk.box (c_S_State y3.1), Blk.box (c_S_Box y5.1), Blk.box (c_S_Box y7.1), Blk.box (c_S_State y8.1), Blk.box (c_S_State y9.1)] (.s (A.agg [(A.v (Value.string ByteArray.empty)), (iA 1001), (iA 0), (iA 0)]) ?_))))
  refine .bd (g := fun (y : (S_State × Int)) => (A.tup [(A.agg [(iA y.1.X), (iA y.1.Y), (iA y.1.Face), (iA y.1.Limbs.1.Dir), (iA y.1.Limbs.1.Level), (iA y.1.Limbs.2.1.Dir), (iA y.1.Limbs.2.1.Level), (iA y.1.Limbs.2.2.1.Dir), (iA y.1.Limbs.2.2.1.Level), (iA y.1.Limbs.2.2.2.1.Dir), (iA y.1.Limbs.2.2.2.1.Level), (iA y.1.Limbs.2.2.2.2.Dir), (iA y.1.Limbs.2.2.2.2.Level)]), (iA y.2)])) (h12 ((S_Role.mk ByteArray.empty 1001 0 0))) fun y10 => ?_
  refine .s (A.agg (c_S_State y10.1)) (.s (iA y10.2) (.s ((A.ptr 9 0), [Blk.box (c_S_State y1.1), hk11_1, Blk.box (c_S_State y2.1), hk11_2, Blk.box (c_S_State y3.1), Blk.box (c_S_Box y5.1), Blk.box (c_S_Box y7.1), Blk.box (c_S_State y8.1), Blk.box (c_S_State y9.1), hk18_2]) (.s [Blk.box (c_S_State y1.1), hk11_1, Blk.box (c_S_State y2.1), hk11_2, Blk.box (c_S_State y3.1), Blk.box (c_S_Box y5.1), Blk.box (c_S_Box y7.1), Blk.box (c_S_State y8.1), Blk.box (c_S_State y9.1), Blk.box (c_S_State y10.1)] (.s (A.agg (c_S_State y1.1)) (.s (A.agg [(iA 0), (iA 0), (iA 0), (iA 1), (iA 1), (iA 1), (iA 1), (iA 0), (iA 2), (iA 0), (iA 0), (iA 0), (iA 0), (iA 0)]) (.s (A.agg [(iA 0), (iA 0), (iA 0), (bA true)]) ?_))))))
  refine .bd (g := fun (y : (S_State × Int)) => (A.tup [(A.agg [(iA y.1.X), (iA y.1.Y), (iA y.1.Face), (iA y.1.Limbs.1.Dir), (iA y.1.Limbs.1.Level), (iA y.1.Limbs.2.1.Dir), (iA y.1.Limbs.2.1.Level), (iA y.1.Limbs.2.2.1.Dir), (iA y.1.Limbs.2.2.1.Level), (iA y.1.Limbs.2.2.2.1.Dir), (iA y.1.Limbs.2.2.2.1.Level), (iA y.1.Limbs.2.2.2.2.Dir), (iA y.1.Limbs.2.2.2.2.Level)]), (iA y.2)])) (h18 y1.1 ((S_Sign.mk 0 0 0 1 1 1 1 0 2 0 ((S_Ratio.mk 0 0)) ((S_Ratio.mk 0 0)))) ((S_Real.mk 0 0 0 true))) fun y11 => ?_
  refine .s (A.agg (c_S_State y11.1)) (.s (iA y11.2) (.s ((A.ptr 10 0), [Blk.box (c_S_State y1.1), hk11_1, Blk.box (c_S_State y2.1), hk11_2, Blk.box (c_S_State y3.1), Blk.box (c_S_Box y5.1), Blk.box (c_S_Box y7.1), Blk.box (c_S_State y8.1), Blk.box (c_S_State y9.1), Blk.box (c_S_State y10.1), hk18_2]) (.s [Blk.box (c_S_State y1.1), hk11_1, Blk.box (c_S_State y2.1), hk11_2, Blk.box (c_S_State y3.1), Blk.box (c_S_Box y5.1), Blk.box (c_S_Box y7.1), Blk.box (c_S_State y8.1), Blk.box (c_S_State y9.1), Blk.box (c_S_State y10.1), Blk.box (c_S_State y11.1)] ?_)))
  refine .st (v := (bA (y1.2 != 0))) (aBin_neq ..) ?_
  refine .bg (fun t (y : Bool) => ∃ j14 j15 : A, t = [(bA y), j14, j15]) ?_ ?_
  · refine .biH (fun hk12 => ?_) (fun hk12 => ?_)
    · exact .lg ⟨_, _, rfl⟩
    refine .st (v := (bA (y2.2 != 0))) (aBin_neq ..) ?_
    exact .lg ⟨_, _, rfl⟩
  rintro _ y13 ⟨j14, j15, rfl⟩
  iterate 3 refine .uc ?_
  refine .bg (fun t (y : Bool) => ∃ j18 j19 : A, t = [(bA y), j18, j19]) ?_ ?_
  · refine .biH (fun hk16 => ?_) (fun hk16 => ?_)
    · exact .lg ⟨_, _, rfl⟩
    refine .st (v := (bA (y3.2 != 0))) (aBin_neq ..) ?_
    exact .lg ⟨_, _, rfl⟩
  rintro _ y17 ⟨j18, j19, rfl⟩
  iterate 3 refine .uc ?_
  refine .bg (fun t (y : Bool) => ∃ j22 j23 : A, t = [(bA y), j22, j23]) ?_ ?_
  · refine .biH (fun hk20 => ?_) (fun hk20 => ?_)
    · exact .lg ⟨_, _, rfl⟩
    refine .st (v := (bA (y5.2 != 0))) (aBin_neq ..) ?_
    exact .lg ⟨_, _, rfl⟩
  rintro _ y21 ⟨j22, j23, rfl⟩
  iterate 3 refine .uc ?_
  refine .bg (fun t (y : Bool) => ∃ j26 j27 : A, t = [(bA y), j26, j27]) ?_ ?_
  · refine .biH (fun hk24 => ?_) (fun hk24 => ?_)
    · exact .lg ⟨_, _, rfl⟩
    refine .st (v := (bA (y7.2 != 0))) (aBin_neq ..) ?_
    exact .lg ⟨_, _, rfl⟩
  rintro _ y25 ⟨j26, j27, rfl⟩
  iterate 3 refine .uc ?_
  refine .bg (fun t (y : Bool) => ∃ j30 j31 : A, t = [(bA y), j30, j31]) ?_ ?_
  · refine .biH (fun hk28 => ?_) (fun hk28 => ?_)
    · exact .lg ⟨_, _, rfl⟩
    refine .st (v := (bA (y8.2 != 0))) (aBin_neq ..) ?_
    exact .lg ⟨_, _, rfl⟩
  rintro _ y29 ⟨j30, j31, rfl⟩
  iterate 3 refine .uc ?_
  refine .bg (fun t (y : Bool) => ∃ j34 j35 : A, t = [(bA y), j34, j35]) ?_ ?_
  · refine .biH (fun hk32 => ?_) (fun hk32 => ?_)
    · exact .lg ⟨_, _, rfl⟩
    refine .st (v := (bA (y9.2 != 1))) (aBin_neq ..) ?_
    exact .lg ⟨_, _, rfl⟩
  rintro _ y33 ⟨j34, j35, rfl⟩
  iterate 3 refine .uc ?_
  refine .bg (fun t (y : Bool) => ∃ j38 j39 : A, t = [(bA y), j38, j39]) ?_ ?_
  · refine .biH (fun hk36 => ?_) (fun hk36 => ?_)
    · exact .lg ⟨_, _, rfl⟩
    refine .st (v := (bA (y10.2 != 1))) (aBin_neq ..) ?_
    exact .lg ⟨_, _, rfl⟩
  rintro _ y37 ⟨j38, j39, rfl⟩
  iterate 3 refine .uc ?_
  refine .bg (fun t (y : Bool) => ∃ j42 j43 : A, t = [(bA y), j42, j43]) ?_ ?_
  · refine .biH (fun hk40 => ?_) (fun hk40 => ?_)
    · exact .lg ⟨_, _, rfl⟩
    refine .st (v := (bA (y11.2 != 0))) (aBin_neq ..) ?_
    exact .lg ⟨_, _, rfl⟩
  rintro _ y41 ⟨j42, j43, rfl⟩
  iterate 3 refine .uc ?_
  refine .bg (fun t (y : Bool) => ∃ j46 j47 j48 : A, t = [(bA y), j46, j47, j48]) ?_ ?_
  · refine .biH (fun hk44 => ?_) (fun hk44 => ?_)
    · exact .lg ⟨_, _, _, rfl⟩
    refine .s (A.agg (c_S_State y11.1)) (.s (A.agg (c_S_State y1.1)) (.s (bA (!((y11.1.X == y1.1.X) && ((y11.1.Y == y1.1.Y) && ((y11.1.Face == y1.1.Face) && (((y11.1.Limbs.1.Dir == y1.1.Limbs.1.Dir) && (y11.1.Limbs.1.Level == y1.1.Limbs.1.Level)) && (((y11.1.Limbs.2.1.Dir == y1.1.Limbs.2.1.Dir) && (y11.1.Limbs.2.1.Level == y1.1.Limbs.2.1.Level)) && (((y11.1.Limbs.2.2.1.Dir == y1.1.Limbs.2.2.1.Dir) && (y11.1.Limbs.2.2.1.Level == y1.1.Limbs.2.2.1.Level)) && (((y11.1.Limbs.2.2.2.1.Dir == y1.1.Limbs.2.2.2.1.Dir) && (y11.1.Limbs.2.2.2.1.Level == y1.1.Limbs.2.2.2.1.Level)) && ((y11.1.Limbs.2.2.2.2.Dir == y1.1.Limbs.2.2.2.2.Dir) && (y11.1.Limbs.2.2.2.2.Level == y1.1.Limbs.2.2.2.2.Level))))))))))) ?_))
    exact .lg ⟨_, _, _, rfl⟩
  rintro _ y45 ⟨j46, j47, j48, rfl⟩
  iterate 4 refine .uc ?_
  refine .biHN (fun hk49 => ?_) (fun hk49 => ?_)
  · exact .lf rfl rfl ⟨_, rfl, rfl⟩
  refine .s (A.agg (c_S_State y1.1)) (.s (A.agg [(iA 58), (iA 87), (iA 2), (iA 0), (iA 0), (iA 0), (iA 0), (iA 0), (iA 0), (iA 0), (iA 0), (iA 0), (iA 0)]) (.s (bA (!((y1.1.X == 58) && ((y1.1.Y == 87) && ((y1.1.Face == 2) && (((y1.1.Limbs.1.Dir == 0) && (y1.1.Limbs.1.Level == 0)) && (((y1.1.Limbs.2.1.Dir == 0) && (y1.1.Limbs.2.1.Level == 0)) && (((y1.1.Limbs.2.2.1.Dir == 0) && (y1.1.Limbs.2.2.1.Level == 0)) && (((y1.1.Limbs.2.2.2.1.Dir == 0) && (y1.1.Limbs.2.2.2.1.Level == 0)) && ((y1.1.Limbs.2.2.2.2.Dir == 0) && (y1.1.Limbs.2.2.2.2.Level == 0))))))))))) ?_))
  refine .bg (fun t (y : Bool) => ∃ j52 j53 j54 : A, t = [(bA y), j52, j53, j54]) ?_ ?_
  · refine .biH (fun hk50 => ?_) (fun hk50 => ?_)
    · exact .lg ⟨_, _, _, rfl⟩
    refine .s (A.agg (c_S_State y2.1)) (.s (A.agg [(iA 116), (iA 87), (iA 2), (iA 0), (iA 0), (iA 0), (iA 0), (iA 0), (iA 0), (iA 0), (iA 0), (iA 0), (iA 0)]) (.s (bA (!((y2.1.X == 116) && ((y2.1.Y == 87) && ((y2.1.Face == 2) && (((y2.1.Limbs.1.Dir == 0) && (y2.1.Limbs.1.Level == 0)) && (((y2.1.Limbs.2.1.Dir == 0) && (y2.1.Limbs.2.1.Level == 0)) && (((y2.1.Limbs.2.2.1.Dir == 0) && (y2.1.Limbs.2.2.1.Level == 0)) && (((y2.1.Limbs.2.2.2.1.Dir == 0) && (y2.1.Limbs.2.2.2.1.Level == 0)) && ((y2.1.Limbs.2.2.2.2.Dir == 0) && (y2.1.Limbs.2.2.2.2.Level == 0))))))))))) ?_))
    exact .lg ⟨_, _, _, rfl⟩
  rintro _ y51 ⟨j52, j53, j54, rfl⟩
  iterate 4 refine .uc ?_
  refine .bg (fun t (y : Bool) => ∃ j57 j58 j59 : A, t = [(bA y), j57, j58, j59]) ?_ ?_
  · refine .biH (fun hk55 => ?_) (fun hk55 => ?_)
    · exact .lg ⟨_, _, _, rfl⟩
    refine .s (A.agg (c_S_State y8.1)) (.s (A.agg [(iA 290), (iA 0), (iA 0), (iA 0), (iA 0), (iA 0), (iA 0), (iA 0), (iA 0), (iA 0), (iA 0), (iA 0), (iA 0)]) (.s (bA (!((y8.1.X == 290) && ((y8.1.Y == 0) && ((y8.1.Face == 0) && (((y8.1.Limbs.1.Dir == 0) && (y8.1.Limbs.1.Level == 0)) && (((y8.1.Limbs.2.1.Dir == 0) && (y8.1.Limbs.2.1.Level == 0)) && (((y8.1.Limbs.2.2.1.Dir == 0) && (y8.1.Limbs.2.2.1.Level == 0)) && (((y8.1.Limbs.2.2.2.1.Dir == 0) && (y8.1.Limbs.2.2.2.1.Level == 0)) && ((y8.1.Limbs.2.2.2.2.Dir == 0) && (y8.1.Limbs.2.2.2.2.Level == 0))))))))))) ?_))
    exact .lg ⟨_, _, _, rfl⟩
  rintro _ y56 ⟨j57, j58, j59, rfl⟩
  iterate 4 refine .uc ?_
  refine .bg (fun t (y : Bool) => ∃ j63 j64 j65 : A, t = [(bA y), j63, j64, j65]) ?_ ?_
  · refine .biH (fun hk60 => ?_) (fun hk60 => ?_)
    · exact .lg ⟨_, _, _, rfl⟩
    refine .s (A.agg [(iA 0), (iA 0), (iA 8), (iA 0), (iA 0), (iA 0), (iA 0), (iA 0), (iA 0), (iA 0), (iA 0), (iA 0), (iA 0)]) ?_
    refine .bd (g := fun (y : Int) => (iA y)) (h16 ((S_State.mk 0 0 8 (((S_Limb.mk 0 0), (S_Limb.mk 0 0), (S_Limb.mk 0 0), (S_Limb.mk 0 0), (S_Limb.mk 0 0)))))) fun y61 => ?_
    refine .st (v := (bA (y61 != 260))) (aBin_neq ..) ?_
    exact .lg ⟨_, _, _, rfl⟩
  rintro _ y62 ⟨j63, j64, j65, rfl⟩
  iterate 4 refine .uc ?_
  refine .bg (fun t (y : Bool) => ∃ j69 j70 j71 : A, t = [(bA y), j69, j70, j71]) ?_ ?_
  · refine .biH (fun hk66 => ?_) (fun hk66 => ?_)
    · exact .lg ⟨_, _, _, rfl⟩
    refine .s (A.agg (c_S_State y3.1)) ?_
    refine .bd (g := fun (y : Int) => (iA y)) (h16 y3.1) fun y67 => ?_
    refine .st (v := (bA (y67 != 0))) (aBin_neq ..) ?_
    exact .lg ⟨_, _, _, rfl⟩
  rintro _ y68 ⟨j69, j70, j71, rfl⟩
  iterate 4 refine .uc ?_
  refine .biHN (fun hk72 => ?_) (fun hk72 => ?_)
  · exact .lf rfl rfl ⟨_, rfl, rfl⟩
  refine .s (A.agg [(iA 1), (iA 2)]) (.s (A.ptr 2 3) (.s (A.ptr 2 9) (.s [Blk.box (c_S_State y1.1), hk11_1, (hk11_3 y2), hk11_2, Blk.box (c_S_State y3.1), Blk.box (c_S_Box y5.1), Blk.box (c_S_Box y7.1), Blk.box (c_S_State y8.1), Blk.box (c_S_State y9.1), Blk.box (c_S_State y10.1), Blk.box (c_S_State y11.1)] (.s (A.agg [(iA 841), (iA 2523)]) (.s (A.agg [(iA 1682), (iA 3364)]) (.s (A.agg [(iA 841), (iA 2523), (iA 1682), (iA 3364)]) (.s ((A.ptr 11 0), [Blk.box (c_S_State y1.1), hk11_1, (hk11_3 y2), hk11_2, Blk.box (c_S_State y3.1), Blk.box (c_S_Box y5.1), Blk.box (c_S_Box y7.1), Blk.box (c_S_State y8.1), Blk.box (c_S_State y9.1), Blk.box (c_S_State y10.1), Blk.box (c_S_State y11.1), Blk.box [(iA 0), (iA 0), (iA 0), (iA 0)]]) (.s [Blk.box (c_S_State y1.1), hk11_1, (hk11_3 y2), hk11_2, Blk.box (c_S_State y3.1), Blk.box (c_S_Box y5.1), Blk.box (c_S_Box y7.1), Blk.box (c_S_State y8.1), Blk.box (c_S_State y9.1), Blk.box (c_S_State y10.1), Blk.box (c_S_State y11.1), Blk.box [(iA 841), (iA 2523), (iA 1682), (iA 3364)]] (.s (A.agg [(iA 2523), (iA 5887)]) (.s (A.ptr 11 2) (.s (A.agg [(iA 1682), (iA 3364)]) (.s (A.agg [(iA 2523), (iA 5887), (iA 1682), (iA 3364)]) ?_))))))))))))
  refine .s ((A.ptr 12 0), [Blk.box (c_S_State y1.1), hk11_1, (hk11_3 y2), hk11_2, Blk.box (c_S_State y3.1), Blk.box (c_S_Box y5.1), Blk.box (c_S_Box y7.1), Blk.box (c_S_State y8.1), Blk.box (c_S_State y9.1), Blk.box (c_S_State y10.1), Blk.box (c_S_State y11.1), Blk.box [(iA 841), (iA 2523), (iA 1682), (iA 3364)], Blk.box [(iA 0), (iA 0), (iA 0), (iA 0)]]) (.s [Blk.box (c_S_State y1.1), hk11_1, (hk11_3 y2), hk11_2, Blk.box (c_S_State y3.1), Blk.box (c_S_Box y5.1), Blk.box (c_S_Box y7.1), Blk.box (c_S_State y8.1), Blk.box (c_S_State y9.1), Blk.box (c_S_State y10.1), Blk.box (c_S_State y11.1), Blk.box [(iA 841), (iA 2523), (iA 1682), (iA 3364)], Blk.box [(iA 2523), (iA 5887), (iA 1682), (iA 3364)]] (.s (A.agg (c_S_State y3.1)) (.s (A.agg [(iA y2.1.X), (iA y2.1.Y), (iA y2.1.Face), (iA y2.1.Limbs.1.Dir), (iA y2.1.Limbs.1.Level), (iA y2.1.Limbs.2.1.Dir), (iA y2.1.Limbs.2.1.Level), (iA y2.1.Limbs.2.2.1.Dir), (iA y2.1.Limbs.2.2.1.Level), (iA 1), (iA 2), (iA y2.1.Limbs.2.2.2.2.Dir), (iA y2.1.Limbs.2.2.2.2.Level)]) (.s (bA (((y3.1.X == y2.1.X) && ((y3.1.Y == y2.1.Y) && ((y3.1.Face == y2.1.Face) && (((y3.1.Limbs.1.Dir == y2.1.Limbs.1.Dir) && (y3.1.Limbs.1.Level == y2.1.Limbs.1.Level)) && (((y3.1.Limbs.2.1.Dir == y2.1.Limbs.2.1.Dir) && (y3.1.Limbs.2.1.Level == y2.1.Limbs.2.1.Level)) && (((y3.1.Limbs.2.2.1.Dir == y2.1.Limbs.2.2.1.Dir) && (y3.1.Limbs.2.2.1.Level == y2.1.Limbs.2.2.1.Level)) && (((y3.1.Limbs.2.2.2.1.Dir == 1) && (y3.1.Limbs.2.2.2.1.Level == 2)) && ((y3.1.Limbs.2.2.2.2.Dir == y2.1.Limbs.2.2.2.2.Dir) && (y3.1.Limbs.2.2.2.2.Level == y2.1.Limbs.2.2.2.2.Level))))))))))) ?_))))
  refine .bg (fun t (y : Bool) => ∃ j75 j76 j77 : A, t = [(bA y), j75, j76, j77]) ?_ ?_
  · refine .biH (fun hk73 => ?_) (fun hk73 => ?_)
    · refine .s (A.agg (c_S_Box y5.1)) (.s (A.agg [(iA 841), (iA 2523), (iA 1682), (iA 3364)]) (.s (bA ((((y5.1.X.Lo == 841) && (y5.1.X.Hi == 2523)) && ((y5.1.Y.Lo == 1682) && (y5.1.Y.Hi == 3364))))) ?_))
      exact .lg ⟨_, _, _, rfl⟩
    exact .lg ⟨_, _, _, rfl⟩
  rintro _ y74 ⟨j75, j76, j77, rfl⟩
  iterate 4 refine .uc ?_
  refine .bg (fun t (y : Bool) => ∃ j80 j81 j82 : A, t = [(bA y), j80, j81, j82]) ?_ ?_
  · refine .biH (fun hk78 => ?_) (fun hk78 => ?_)
    · refine .s (A.agg (c_S_Box y7.1)) (.s (A.agg [(iA 2523), (iA 5887), (iA 1682), (iA 3364)]) (.s (bA ((((y7.1.X.Lo == 2523) && (y7.1.X.Hi == 5887)) && ((y7.1.Y.Lo == 1682) && (y7.1.Y.Hi == 3364))))) ?_))
      exact .lg ⟨_, _, _, rfl⟩
    exact .lg ⟨_, _, _, rfl⟩
  rintro _ y79 ⟨j80, j81, j82, rfl⟩
  iterate 4 refine .uc ?_
  exact .lf rfl rfl ⟨_, rfl, rfl⟩
def G11  : Option Bool := F11 fuel0
def Orc11 (C : Nat → List A → Option A) : Prop := ∀ (_ : Unit), C 11 [] = (G11 ).map fun y => (bA y)
end Go.Proofs.YtooamdacfhfjoaaDoor
