/-
  The program's functions as plain functions: by a tool; each follows the interpreter.
-/
import Derived.Test.YtooamdacfhfjoaaDoorT1
import Derived.KernelRfl
import Derived.Lib.Strings
import Derived.Lib.Bytealg
namespace Go.Proofs.YtooamdacfhfjoaaDoor
set_option linter.unusedVariables false
set_option linter.unusedSimpArgs false
set_option maxHeartbeats 4000000
set_option maxRecDepth 100000
def hk18_1 (y4 : Int × Int × Int × Int × Int × Int × Int × Int × Int × Int × Int × Int × Nat × Bool) (z0 : A) : Blk := Blk.box [(iA y4.1), (iA y4.2.1), (iA y4.2.2.1), (iA y4.2.2.2.1), (iA y4.2.2.2.2.1), (iA y4.2.2.2.2.2.1), (iA y4.2.2.2.2.2.2.1), (iA y4.2.2.2.2.2.2.2.1), (iA y4.2.2.2.2.2.2.2.2.1), (iA y4.2.2.2.2.2.2.2.2.2.1), (iA y4.2.2.2.2.2.2.2.2.2.2.1), (iA y4.2.2.2.2.2.2.2.2.2.2.2.1), z0]
def hk18_2 : Blk := Blk.box [(iA 0), (iA 0), (iA 0), (iA 0), (iA 0), (iA 0), (iA 0), (iA 0), (iA 0), (iA 0), (iA 0), (iA 0), (iA 0)]
def hk18_3 (y4 : Int × Int × Int × Int × Int × Int × Int × Int × Int × Int × Int × Int × Nat × Bool) : Blk := Blk.box [(iA y4.2.2.2.2.2.2.2.2.2.2.1), (iA y4.2.2.2.2.2.2.2.2.2.2.2.1)]
def hk18_4 (a0 : S_State) (a2 : S_Real) (a1 : S_Sign) : Blk := Blk.box ([(iA a0.X), (iA a0.Y), (iA a0.Face), (iA a0.Limbs.1.Dir), (iA a0.Limbs.1.Level), (iA a0.Limbs.2.1.Dir), (iA a0.Limbs.2.1.Level), (iA a0.Limbs.2.2.1.Dir), (iA a0.Limbs.2.2.1.Level), (iA a0.Limbs.2.2.2.1.Dir), (iA a0.Limbs.2.2.2.1.Level), (iA a2.Dir), (iA a2.Level)] ++ c_S_Sign a1 ++ c_S_Real a2)
def hk18_5 (v41 : Int) (v42 : Int) (v43 : Int) (v44 : Int) (v45 : Int) (v46 : Int) (v47 : Int) (v48 : Int) (v49 : Int) (v50 : Int) (v51 : Int) (v52 : Int) (v53 : Int) : Blk := Blk.box [(iA v41), (iA v42), (iA v43), (iA v44), (iA v45), (iA v46), (iA v47), (iA v48), (iA v49), (iA v50), (iA v51), (iA v52), (iA v53)]
def hk18_6 (v54 : Int) (v55 : Int) (v56 : Int) (v57 : Int) (v58 : Int) (v59 : Int) (v60 : Int) (v61 : Int) (v62 : Int) (v63 : Int) (v64 : Int) (v65 : Int) (z0 : A) : Blk := Blk.box [(iA v54), (iA v55), (iA v56), (iA v57), (iA v58), (iA v59), (iA v60), (iA v61), (iA v62), (iA v63), (iA v64), (iA v65), z0]
def hk18_7 (a0 : S_State) (a2 : S_Real) (a1 : S_Sign) : Blk := Blk.box ([(iA a0.X), (iA a0.Y), (iA a0.Face), (iA a2.Dir), (iA a2.Level), (iA a0.Limbs.2.1.Dir), (iA a0.Limbs.2.1.Level), (iA a0.Limbs.2.2.1.Dir), (iA a0.Limbs.2.2.1.Level), (iA a0.Limbs.2.2.2.1.Dir), (iA a0.Limbs.2.2.2.1.Level), (iA a0.Limbs.2.2.2.2.Dir), (iA a0.Limbs.2.2.2.2.Level)] ++ c_S_Sign a1 ++ c_S_Real a2)
def hk18_8 (a0 : S_State) (a2 : S_Real) (a1 : S_Sign) : Blk := Blk.box ([(iA a0.X), (iA a0.Y), (iA a0.Face), (iA a0.Limbs.1.Dir), (iA a0.Limbs.1.Level), (iA a2.Dir), (iA a2.Level), (iA a0.Limbs.2.2.1.Dir), (iA a0.Limbs.2.2.1.Level), (iA a0.Limbs.2.2.2.1.Dir), (iA a0.Limbs.2.2.2.1.Level), (iA a0.Limbs.2.2.2.2.Dir), (iA a0.Limbs.2.2.2.2.Level)] ++ c_S_Sign a1 ++ c_S_Real a2)
def hk18_9 (a0 : S_State) (a2 : S_Real) (a1 : S_Sign) : Blk := Blk.box ([(iA a0.X), (iA a0.Y), (iA a0.Face), (iA a0.Limbs.1.Dir), (iA a0.Limbs.1.Level), (iA a0.Limbs.2.1.Dir), (iA a0.Limbs.2.1.Level), (iA a2.Dir), (iA a2.Level), (iA a0.Limbs.2.2.2.1.Dir), (iA a0.Limbs.2.2.2.1.Level), (iA a0.Limbs.2.2.2.2.Dir), (iA a0.Limbs.2.2.2.2.Level)] ++ c_S_Sign a1 ++ c_S_Real a2)
def hk18_10 (a0 : S_State) (a2 : S_Real) (a1 : S_Sign) : Blk := Blk.box ([(iA a0.X), (iA a0.Y), (iA a0.Face), (iA a0.Limbs.1.Dir), (iA a0.Limbs.1.Level), (iA a0.Limbs.2.1.Dir), (iA a0.Limbs.2.1.Level), (iA a0.Limbs.2.2.1.Dir), (iA a0.Limbs.2.2.1.Level), (iA a2.Dir), (iA a2.Level), (iA a0.Limbs.2.2.2.2.Dir), (iA a0.Limbs.2.2.2.2.Level)] ++ c_S_Sign a1 ++ c_S_Real a2)
def hk18_21 (y4 : Int × Int × Int × Int × Int × Int × Int × Int × Int × Int × Int × Int × Nat × Bool) (z0 : A) : Blk := Blk.box [(iA y4.1), (iA y4.2.1), (iA y4.2.2.1), (iA y4.2.2.2.1), (iA y4.2.2.2.2.1), (iA y4.2.2.2.2.2.1), (iA y4.2.2.2.2.2.2.1), (iA y4.2.2.2.2.2.2.2.1), (iA 0), (iA 0), (iA 0), (iA 0), z0]
def hk18_23 (a0 : S_State) (a1 : S_Sign) (a2 : S_Real) : Blk := Blk.box ([(iA a0.X), (iA a0.Y), (iA (Int.tmod (wr .i64 (a0.Face + a1.Size)) 8)), (iA a0.Limbs.1.Dir), (iA a0.Limbs.1.Level), (iA a0.Limbs.2.1.Dir), (iA a0.Limbs.2.1.Level), (iA a0.Limbs.2.2.1.Dir), (iA a0.Limbs.2.2.1.Level), (iA a0.Limbs.2.2.2.1.Dir), (iA a0.Limbs.2.2.2.1.Level), (iA a0.Limbs.2.2.2.2.Dir), (iA a0.Limbs.2.2.2.2.Level)] ++ c_S_Sign a1 ++ c_S_Real a2)
def hk18_24 (a0 : S_State) (a2 : S_Real) : Blk := Blk.box [(iA a0.X), (iA a0.Y), (iA a0.Face), (iA a0.Limbs.1.Dir), (iA a0.Limbs.1.Level), (iA a0.Limbs.2.1.Dir), (iA a0.Limbs.2.1.Level), (iA a0.Limbs.2.2.1.Dir), (iA a0.Limbs.2.2.1.Level), (iA a0.Limbs.2.2.2.1.Dir), (iA a0.Limbs.2.2.2.1.Level), (iA a2.Dir), (iA a2.Level)]
def F18_18_0 (n : Nat) (v32 : Int) (v33 : Int) (v34 : Int) (v35 : Int) (v36 : Int) (v38 : S_State) (v39 : S_Sign) (v40 : S_Real) (v41 : Int) (v42 : Int) (v43 : Int) (v44 : Int) (v45 : Int) (v46 : Int) (v47 : Int) (v48 : Int) (v49 : Int) (v50 : Int) (v51 : Int) (v52 : Int) (v53 : Int) (v54 : Int) (v55 : Int) (v56 : Int) (v57 : Int) (v58 : Int) (v59 : Int) (v60 : Int) (v61 : Int) (v62 : Int) (v63 : Int) (v64 : Int) (v65 : Int) (v66 : Nat) (v68 : Int) (v69 : Int) : Nat → Int → Bool → Option (Nat × Bool)
  | 0, _, _ => none
  | m + 1, v37, v67 => bif (decide (v37 < 4)) then (Option.bind (bif decide (v37 = 0) then (some v33) else bif decide (v37 = 1) then (some v34) else bif decide (v37 = 2) then (some v35) else bif decide (v37 = 3) then (some v36) else none) fun y71 => bif decide (v37 = 0) then (Option.bind (bif v67 then (Option.bind (G29 y71 v54 v55) fun y78 => some y78) else (some false)) fun y79 => F18_18_0 n v32 v33 v34 v35 v36 v38 v39 v40 v41 v42 v43 v44 v45 v46 v47 v48 v49 v50 v51 v52 v53 v54 v55 v56 v57 v58 v59 v60 v61 v62 v63 v64 v65 v66 v68 v69 m (wr .i64 (v37 + 1)) y79) else bif decide (v37 = 1) then (Option.bind (bif v67 then (Option.bind (G29 y71 v56 v57) fun y88 => some y88) else (some false)) fun y89 => F18_18_0 n v32 v33 v34 v35 v36 v38 v39 v40 v41 v42 v43 v44 v45 v46 v47 v48 v49 v50 v51 v52 v53 v54 v55 v56 v57 v58 v59 v60 v61 v62 v63 v64 v65 v66 v68 v69 m (wr .i64 (v37 + 1)) y89) else bif decide (v37 = 2) then (Option.bind (bif v67 then (Option.bind (G29 y71 v58 v59) fun y98 => some y98) else (some false)) fun y99 => F18_18_0 n v32 v33 v34 v35 v36 v38 v39 v40 v41 v42 v43 v44 v45 v46 v47 v48 v49 v50 v51 v52 v53 v54 v55 v56 v57 v58 v59 v60 v61 v62 v63 v64 v65 v66 v68 v69 m (wr .i64 (v37 + 1)) y99) else bif decide (v37 = 3) then (Option.bind (bif v67 then (Option.bind (G29 y71 v60 v61) fun y108 => some y108) else (some false)) fun y109 => F18_18_0 n v32 v33 v34 v35 v36 v38 v39 v40 v41 v42 v43 v44 v45 v46 v47 v48 v49 v50 v51 v52 v53 v54 v55 v56 v57 v58 v59 v60 v61 v62 v63 v64 v65 v66 v68 v69 m (wr .i64 (v37 + 1)) y109) else none) else (some ((v66, v67)))
theorem T18_18_0 (C : Nat → List A → Option A) (n : Nat) (h16 : Orc16 C) (h24 : Orc24 C) (h29 : Orc29 C) (h33 : Orc33 C) (h86 : Orc86 C) (v32 : Int) (v33 : Int) (v34 : Int) (v35 : Int) (v36 : Int) (v38 : S_State) (v39 : S_Sign) (v40 : S_Real) (v41 : Int) (v42 : Int) (v43 : Int) (v44 : Int) (v45 : Int) (v46 : Int) (v47 : Int) (v48 : Int) (v49 : Int) (v50 : Int) (v51 : Int) (v52 : Int) (v53 : Int) (v54 : Int) (v55 : Int) (v56 : Int) (v57 : Int) (v58 : Int) (v59 : Int) (v60 : Int) (v61 : Int) (v62 : Int) (v63 : Int) (v64 : Int) (v65 : Int) (v66 : Nat) (v68 : Int) (v69 : Int) {ρ γ : Type} {φ : ρ → γ → Prop} {kL : R → Option ρ} {K : (Nat × Bool) → Option γ} (kx kg : Nat → St → Option R) (kr : St → Option R) (kp : A → St → Option R) (x0 : ∀ (o0 : Nat) (o1 : Bool) (s7 : A) (s41 : A) (s42 : A), J φ (kx 0 (St.mk [(3, (A.ptr 0 0)), (4, (A.ptr 1 0)), (5, (A.ptr 2 0)), (6, (A.ptr 3 0)), (7, s7), (8, (A.ptr 4 0)), (9, (A.ptr 5 0)), (10, (A.fn (Fn.func 34) [] [(A.ptr 5 0)])), (41, s41), (42, s42)] [Blk.box (c_S_State v38), Blk.box (c_S_Sign v39), Blk.box (c_S_Real v40), (hk18_5 v41 v42 v43 v44 v45 v46 v47 v48 v49 v50 v51 v52 v53), Blk.box [(iA v54), (iA v55), (iA v56), (iA v57), (iA v58), (iA v59), (iA v60), (iA v61), (iA v62), (iA v63), (iA v64), (iA v65), (selF o0)], Blk.box [(bA o1)], Blk.box [(iA v68), (iA v69)]])) kL (K (o0, o1)) some) :
    ∀ (m : Nat) (v37 : Int) (v67 : Bool), J φ (loopR (cx C) (evCall (cx C) (n+8)) (evCallY (cx C) (n+8)) (n+8) 18 0 0 7 kx kg kr kp m (St.mk [(3, (A.ptr 0 0)), (4, (A.ptr 1 0)), (5, (A.ptr 2 0)), (6, (A.ptr 3 0)), (7, (iA v32)), (8, (A.ptr 4 0)), (9, (A.ptr 5 0)), (10, (A.fn (Fn.func 34) [] [(A.ptr 5 0)])), (41, (A.agg [(iA v33), (iA v34), (iA v35), (iA v36)])), (42, (iA v37))] [Blk.box (c_S_State v38), Blk.box (c_S_Sign v39), Blk.box (c_S_Real v40), (hk18_5 v41 v42 v43 v44 v45 v46 v47 v48 v49 v50 v51 v52 v53), (hk18_6 v54 v55 v56 v57 v58 v59 v60 v61 v62 v63 v64 v65 (selF v66)), Blk.box [(bA v67)], Blk.box [(iA v68), (iA v69)]])) kL (F18_18_0 n v32 v33 v34 v35 v36 v38 v39 v40 v41 v42 v43 v44 v45 v46 v47 v48 v49 v50 v51 v52 v53 v54 v55 v56 v57 v58 v59 v60 v61 v62 v63 v64 v65 v66 v68 v69 m v37 v67) K := by
  intro m
  induction m with
  | zero => intros; exact .nn
  | succ m ih =>
    intro v37 v67
    refine .lp (e18_0 ..) ?_
    unfold F18_18_0
    refine .st (v := (bA (decide (v37 < 4)))) (aBin_lss ..) ?_
    refine .biHN (fun hk70 => ?_) (fun hk70 => ?_)
    · refine .bg (fun t (y : Int) => t = (iA y)) ?_ ?_
      · refine .sp (fun hb72 => ?_) (fun _ => ?_)
        · exact .lp (by rw [of_decide_eq_true hb72]; kernel_rfl : _ = some (iA v33)) (.lg rfl)
        refine .sp (fun hb73 => ?_) (fun _ => ?_)
        · exact .lp (by rw [of_decide_eq_true hb73]; kernel_rfl : _ = some (iA v34)) (.lg rfl)
        refine .sp (fun hb74 => ?_) (fun _ => ?_)
        · exact .lp (by rw [of_decide_eq_true hb74]; kernel_rfl : _ = some (iA v35)) (.lg rfl)
        refine .sp (fun hb75 => ?_) (fun _ => ?_)
        · exact .lp (by rw [of_decide_eq_true hb75]; kernel_rfl : _ = some (iA v36)) (.lg rfl)
        exact .nn
      rintro _ y71 rfl
      refine .s (A.ptr 4 0) ?_
      refine .sp (fun hb76 => ?_) (fun _ => ?_)
      · refine .st (v := (A.ptr 4 0)) (by rw [of_decide_eq_true hb76]; kernel_rfl) ?_
        refine .s (A.agg [(iA v54), (iA v55)]) ?_
        refine .dC (by kernel_rfl) (by kernel_rfl) ?_
        refine .cl ((evCall_in lt_34).trans (e34 C (evCall (cx C) (n+7)) (evCallY (cx C) (n+7)) (n+7) _ _ _ _ _)) ?_
        refine .s ((A.ptr 7 0), [Blk.box (c_S_State v38), Blk.box (c_S_Sign v39), Blk.box (c_S_Real v40), (hk18_5 v41 v42 v43 v44 v45 v46 v47 v48 v49 v50 v51 v52 v53), (hk18_6 v54 v55 v56 v57 v58 v59 v60 v61 v62 v63 v64 v65 (selF v66)), Blk.box [(bA v67)], Blk.box [(iA v68), (iA v69)], Blk.box [(iA v54), (iA v55)]]) (.s (bA v67) ?_)
        refine .bg (fun t (y : Bool) => ∃ j80 j81 j82 j83 j84 j85 : A, t = [(bA y), j80, j81, j82, j83, j84, j85]) ?_ ?_
        · refine .biH (fun hk77 => ?_) (fun hk77 => ?_)
          · refine .s (A.ptr 7 0) (.s (iA v54) (.s (A.ptr 7 1) (.s (iA v55) ?_)))
            refine .bd (g := fun (y : Bool) => (bA y)) (h29 y71 v54 v55) fun y78 => ?_
            exact .lg ⟨_, _, _, _, _, _, rfl⟩
          exact .lg ⟨_, _, _, _, _, _, rfl⟩
        rintro _ y79 ⟨j80, j81, j82, j83, j84, j85, rfl⟩
        iterate 7 refine .uc ?_
        refine .s [Blk.box (c_S_State v38), Blk.box (c_S_Sign v39), Blk.box (c_S_Real v40), (hk18_5 v41 v42 v43 v44 v45 v46 v47 v48 v49 v50 v51 v52 v53), (hk18_6 v54 v55 v56 v57 v58 v59 v60 v61 v62 v63 v64 v65 (selF v66)), Blk.box [(bA y79)], Blk.box [(iA v68), (iA v69)], Blk.box [(iA v54), (iA v55)]] ?_
        refine .cr ?_
        refine .ok ?_
        refine .st (v := (iA (wr .i64 (v37 + 1)))) (aBin_add ..) ?_
        refine .st (v := [Blk.box (c_S_State v38), Blk.box (c_S_Sign v39), Blk.box (c_S_Real v40), (hk18_5 v41 v42 v43 v44 v45 v46 v47 v48 v49 v50 v51 v52 v53), (hk18_6 v54 v55 v56 v57 v58 v59 v60 v61 v62 v63 v64 v65 (selF v66)), Blk.box [(bA y79)], Blk.box [(iA v68), (iA v69)]]) ((by kernel_rfl : _ = (bif ((((A.under 7 (selF v66)) && true)) && true) then some [Blk.box (c_S_State v38), Blk.box (c_S_Sign v39), Blk.box (c_S_Real v40), (hk18_5 v41 v42 v43 v44 v45 v46 v47 v48 v49 v50 v51 v52 v53), (hk18_6 v54 v55 v56 v57 v58 v59 v60 v61 v62 v63 v64 v65 (selF v66)), Blk.box [(bA y79)], Blk.box [(iA v68), (iA v69)]] else none)).trans (by simp only [under_selF, underss_map, fu_cI, fu_c8, fu_cB, fu_cS, fu_cL, fu_S_Limb, fu_A5_struct_S_Limb, fu_S_State, fu_A3_int_i64, fu_S_Body, fu_S_Role, fu_S_Ratio, fu_S_Sign, fu_S_Real, fu_A2_int_i64, fu_A4_arr_2_int_i64, fu_A2_arr_2_int_i64, fu_A4_int_i64, fu_S_pose_change, fu_S_Range, fu_S_Box, fu_S_body_contract, fu_S_Vec, fu_A5_int_i64, fu_A4_bool,  Bool.and_true, Bool.true_and, cond_true])) ?_
        refine .cT (by kernel_rfl) ?_
        exact ih _ _
      refine .sp (fun hb86 => ?_) (fun _ => ?_)
      · refine .st (v := (A.ptr 4 2)) (by rw [of_decide_eq_true hb86]; kernel_rfl) ?_
        refine .s (A.agg [(iA v56), (iA v57)]) ?_
        refine .dC (by kernel_rfl) (by kernel_rfl) ?_
        refine .cl ((evCall_in lt_34).trans (e34 C (evCall (cx C) (n+7)) (evCallY (cx C) (n+7)) (n+7) _ _ _ _ _)) ?_
        refine .s ((A.ptr 7 0), [Blk.box (c_S_State v38), Blk.box (c_S_Sign v39), Blk.box (c_S_Real v40), (hk18_5 v41 v42 v43 v44 v45 v46 v47 v48 v49 v50 v51 v52 v53), (hk18_6 v54 v55 v56 v57 v58 v59 v60 v61 v62 v63 v64 v65 (selF v66)), Blk.box [(bA v67)], Blk.box [(iA v68), (iA v69)], Blk.box [(iA v56), (iA v57)]]) (.s (bA v67) ?_)
        refine .bg (fun t (y : Bool) => ∃ j90 j91 j92 j93 j94 j95 : A, t = [(bA y), j90, j91, j92, j93, j94, j95]) ?_ ?_
        · refine .biH (fun hk87 => ?_) (fun hk87 => ?_)
          · refine .s (A.ptr 7 0) (.s (iA v56) (.s (A.ptr 7 1) (.s (iA v57) ?_)))
            refine .bd (g := fun (y : Bool) => (bA y)) (h29 y71 v56 v57) fun y88 => ?_
            exact .lg ⟨_, _, _, _, _, _, rfl⟩
          exact .lg ⟨_, _, _, _, _, _, rfl⟩
        rintro _ y89 ⟨j90, j91, j92, j93, j94, j95, rfl⟩
        iterate 7 refine .uc ?_
        refine .s [Blk.box (c_S_State v38), Blk.box (c_S_Sign v39), Blk.box (c_S_Real v40), (hk18_5 v41 v42 v43 v44 v45 v46 v47 v48 v49 v50 v51 v52 v53), (hk18_6 v54 v55 v56 v57 v58 v59 v60 v61 v62 v63 v64 v65 (selF v66)), Blk.box [(bA y89)], Blk.box [(iA v68), (iA v69)], Blk.box [(iA v56), (iA v57)]] ?_
        refine .cr ?_
        refine .ok ?_
        refine .st (v := (iA (wr .i64 (v37 + 1)))) (aBin_add ..) ?_
        refine .st (v := [Blk.box (c_S_State v38), Blk.box (c_S_Sign v39), Blk.box (c_S_Real v40), (hk18_5 v41 v42 v43 v44 v45 v46 v47 v48 v49 v50 v51 v52 v53), (hk18_6 v54 v55 v56 v57 v58 v59 v60 v61 v62 v63 v64 v65 (selF v66)), Blk.box [(bA y89)], Blk.box [(iA v68), (iA v69)]]) ((by kernel_rfl : _ = (bif ((((A.under 7 (selF v66)) && true)) && true) then some [Blk.box (c_S_State v38), Blk.box (c_S_Sign v39), Blk.box (c_S_Real v40), (hk18_5 v41 v42 v43 v44 v45 v46 v47 v48 v49 v50 v51 v52 v53), (hk18_6 v54 v55 v56 v57 v58 v59 v60 v61 v62 v63 v64 v65 (selF v66)), Blk.box [(bA y89)], Blk.box [(iA v68), (iA v69)]] else none)).trans (by simp only [under_selF, underss_map, fu_cI, fu_c8, fu_cB, fu_cS, fu_cL, fu_S_Limb, fu_A5_struct_S_Limb, fu_S_State, fu_A3_int_i64, fu_S_Body, fu_S_Role, fu_S_Ratio, fu_S_Sign, fu_S_Real, fu_A2_int_i64, fu_A4_arr_2_int_i64, fu_A2_arr_2_int_i64, fu_A4_int_i64, fu_S_pose_change, fu_S_Range, fu_S_Box, fu_S_body_contract, fu_S_Vec, fu_A5_int_i64, fu_A4_bool,  Bool.and_true, Bool.true_and, cond_true])) ?_
        refine .cT (by kernel_rfl) ?_
        exact ih _ _
      refine .sp (fun hb96 => ?_) (fun _ => ?_)
      · refine .st (v := (A.ptr 4 4)) (by rw [of_decide_eq_true hb96]; kernel_rfl) ?_
        refine .s (A.agg [(iA v58), (iA v59)]) ?_
        refine .dC (by kernel_rfl) (by kernel_rfl) ?_
        refine .cl ((evCall_in lt_34).trans (e34 C (evCall (cx C) (n+7)) (evCallY (cx C) (n+7)) (n+7) _ _ _ _ _)) ?_
        refine .s ((A.ptr 7 0), [Blk.box (c_S_State v38), Blk.box (c_S_Sign v39), Blk.box (c_S_Real v40), (hk18_5 v41 v42 v43 v44 v45 v46 v47 v48 v49 v50 v51 v52 v53), (hk18_6 v54 v55 v56 v57 v58 v59 v60 v61 v62 v63 v64 v65 (selF v66)), Blk.box [(bA v67)], Blk.box [(iA v68), (iA v69)], Blk.box [(iA v58), (iA v59)]]) (.s (bA v67) ?_)
        refine .bg (fun t (y : Bool) => ∃ j100 j101 j102 j103 j104 j105 : A, t = [(bA y), j100, j101, j102, j103, j104, j105]) ?_ ?_
        · refine .biH (fun hk97 => ?_) (fun hk97 => ?_)
          · refine .s (A.ptr 7 0) (.s (iA v58) (.s (A.ptr 7 1) (.s (iA v59) ?_)))
            refine .bd (g := fun (y : Bool) => (bA y)) (h29 y71 v58 v59) fun y98 => ?_
            exact .lg ⟨_, _, _, _, _, _, rfl⟩
          exact .lg ⟨_, _, _, _, _, _, rfl⟩
        rintro _ y99 ⟨j100, j101, j102, j103, j104, j105, rfl⟩
        iterate 7 refine .uc ?_
        refine .s [Blk.box (c_S_State v38), Blk.box (c_S_Sign v39), Blk.box (c_S_Real v40), (hk18_5 v41 v42 v43 v44 v45 v46 v47 v48 v49 v50 v51 v52 v53), (hk18_6 v54 v55 v56 v57 v58 v59 v60 v61 v62 v63 v64 v65 (selF v66)), Blk.box [(bA y99)], Blk.box [(iA v68), (iA v69)], Blk.box [(iA v58), (iA v59)]] ?_
        refine .cr ?_
        refine .ok ?_
        refine .st (v := (iA (wr .i64 (v37 + 1)))) (aBin_add ..) ?_
        refine .st (v := [Blk.box (c_S_State v38), Blk.box (c_S_Sign v39), Blk.box (c_S_Real v40), (hk18_5 v41 v42 v43 v44 v45 v46 v47 v48 v49 v50 v51 v52 v53), (hk18_6 v54 v55 v56 v57 v58 v59 v60 v61 v62 v63 v64 v65 (selF v66)), Blk.box [(bA y99)], Blk.box [(iA v68), (iA v69)]]) ((by kernel_rfl : _ = (bif ((((A.under 7 (selF v66)) && true)) && true) then some [Blk.box (c_S_State v38), Blk.box (c_S_Sign v39), Blk.box (c_S_Real v40), (hk18_5 v41 v42 v43 v44 v45 v46 v47 v48 v49 v50 v51 v52 v53), (hk18_6 v54 v55 v56 v57 v58 v59 v60 v61 v62 v63 v64 v65 (selF v66)), Blk.box [(bA y99)], Blk.box [(iA v68), (iA v69)]] else none)).trans (by simp only [under_selF, underss_map, fu_cI, fu_c8, fu_cB, fu_cS, fu_cL, fu_S_Limb, fu_A5_struct_S_Limb, fu_S_State, fu_A3_int_i64, fu_S_Body, fu_S_Role, fu_S_Ratio, fu_S_Sign, fu_S_Real, fu_A2_int_i64, fu_A4_arr_2_int_i64, fu_A2_arr_2_int_i64, fu_A4_int_i64, fu_S_pose_change, fu_S_Range, fu_S_Box, fu_S_body_contract, fu_S_Vec, fu_A5_int_i64, fu_A4_bool,  Bool.and_true, Bool.true_and, cond_true])) ?_
        refine .cT (by kernel_rfl) ?_
        exact ih _ _
      refine .sp (fun hb106 => ?_) (fun _ => ?_)
      · refine .st (v := (A.ptr 4 6)) (by rw [of_decide_eq_true hb106]; kernel_rfl) ?_
        refine .s (A.agg [(iA v60), (iA v61)]) ?_
        refine .dC (by kernel_rfl) (by kernel_rfl) ?_
        refine .cl ((evCall_in lt_34).trans (e34 C (evCall (cx C) (n+7)) (evCallY (cx C) (n+7)) (n+7) _ _ _ _ _)) ?_
        refine .s ((A.ptr 7 0), [Blk.box (c_S_State v38), Blk.box (c_S_Sign v39), Blk.box (c_S_Real v40), (hk18_5 v41 v42 v43 v44 v45 v46 v47 v48 v49 v50 v51 v52 v53), (hk18_6 v54 v55 v56 v57 v58 v59 v60 v61 v62 v63 v64 v65 (selF v66)), Blk.box [(bA v67)], Blk.box [(iA v68), (iA v69)], Blk.box [(iA v60), (iA v61)]]) (.s (bA v67) ?_)
        refine .bg (fun t (y : Bool) => ∃ j110 j111 j112 j113 j114 j115 : A, t = [(bA y), j110, j111, j112, j113, j114, j115]) ?_ ?_
        · refine .biH (fun hk107 => ?_) (fun hk107 => ?_)
          · refine .s (A.ptr 7 0) (.s (iA v60) (.s (A.ptr 7 1) (.s (iA v61) ?_)))
            refine .bd (g := fun (y : Bool) => (bA y)) (h29 y71 v60 v61) fun y108 => ?_
            exact .lg ⟨_, _, _, _, _, _, rfl⟩
          exact .lg ⟨_, _, _, _, _, _, rfl⟩
        rintro _ y109 ⟨j110, j111, j112, j113, j114, j115, rfl⟩
        iterate 7 refine .uc ?_
        refine .s [Blk.box (c_S_State v38), Blk.box (c_S_Sign v39), Blk.box (c_S_Real v40), (hk18_5 v41 v42 v43 v44 v45 v46 v47 v48 v49 v50 v51 v52 v53), (hk18_6 v54 v55 v56 v57 v58 v59 v60 v61 v62 v63 v64 v65 (selF v66)), Blk.box [(bA y109)], Blk.box [(iA v68), (iA v69)], Blk.box [(iA v60), (iA v61)]] ?_
        refine .cr ?_
        refine .ok ?_
        refine .st (v := (iA (wr .i64 (v37 + 1)))) (aBin_add ..) ?_
        refine .st (v := [Blk.box (c_S_State v38), Blk.box (c_S_Sign v39), Blk.box (c_S_Real v40), (hk18_5 v41 v42 v43 v44 v45 v46 v47 v48 v49 v50 v51 v52 v53), (hk18_6 v54 v55 v56 v57 v58 v59 v60 v61 v62 v63 v64 v65 (selF v66)), Blk.box [(bA y109)], Blk.box [(iA v68), (iA v69)]]) ((by kernel_rfl : _ = (bif ((((A.under 7 (selF v66)) && true)) && true) then some [Blk.box (c_S_State v38), Blk.box (c_S_Sign v39), Blk.box (c_S_Real v40), (hk18_5 v41 v42 v43 v44 v45 v46 v47 v48 v49 v50 v51 v52 v53), (hk18_6 v54 v55 v56 v57 v58 v59 v60 v61 v62 v63 v64 v65 (selF v66)), Blk.box [(bA y109)], Blk.box [(iA v68), (iA v69)]] else none)).trans (by simp only [under_selF, underss_map, fu_cI, fu_c8, fu_cB, fu_cS, fu_cL, fu_S_Limb, fu_A5_struct_S_Limb, fu_S_State, fu_A3_int_i64, fu_S_Body, fu_S_Role, fu_S_Ratio, fu_S_Sign, fu_S_Real, fu_A2_int_i64, fu_A4_arr_2_int_i64, fu_A2_arr_2_int_i64, fu_A4_int_i64, fu_S_pose_change, fu_S_Range, fu_S_Box, fu_S_body_contract, fu_S_Vec, fu_A5_int_i64, fu_A4_bool,  Bool.and_true, Bool.true_and, cond_true])) ?_
        refine .cT (by kernel_rfl) ?_
        exact ih _ _
      exact .nn
    exact .ex (x0 _ _ _ _ _)
def F18_80_0 (n : Nat) (v178 : (List Int)) (v179 : Int) (v181 : S_State) (v182 : S_Sign) (v183 : S_Real) (v184 : Int) (v185 : Int) (v186 : Int) (v187 : Int) (v188 : Int) (v189 : Int) (v190 : Int) (v191 : Int) (v192 : Int) (v193 : Int) (v194 : Int) (v195 : Int) (v196 : Int) (v197 : Int) (v198 : Int) (v199 : Int) (v200 : Int) (v201 : Int) (v202 : Int) (v203 : Int) (v204 : Int) (v205 : Int) (v206 : Int) (v207 : Int) (v208 : Int) (v209 : Nat) (v210 : Bool) (v211 : Int) (v212 : Int) (v213 : Int) (v214 : Int) (v215 : Int) (v216 : Int) (v217 : Int) (v218 : Int) (v219 : Int) (v230 : S_Sign) (v231 : S_Real) : Nat → Int → Int → Int → Int → Int → Int → Int → Int → Int → Int → Int → Option (Nat × Int × Int × Int × Int × Int × Int × Int × Int × Int × Int)
  | 0, _, _, _, _, _, _, _, _, _, _, _ => none
  | m + 1, v180, v220, v221, v222, v223, v224, v225, v226, v227, v228, v229 => bif (decide (v180 < v179)) then (Option.bind (getI v178 v180) fun y233 => bif decide (y233 = 0) then (F18_80_0 n v178 v179 v181 v182 v183 v184 v185 v186 v187 v188 v189 v190 v191 v192 v193 v194 v195 v196 v197 v198 v199 v200 v201 v202 v203 v204 v205 v206 v207 v208 v209 v210 v211 v212 v213 v214 v215 v216 v217 v218 v219 v230 v231 m (wr .i64 (v180 + 1)) 0 0 v222 v223 v224 v225 v226 v227 v228 v229) else bif decide (y233 = 1) then (F18_80_0 n v178 v179 v181 v182 v183 v184 v185 v186 v187 v188 v189 v190 v191 v192 v193 v194 v195 v196 v197 v198 v199 v200 v201 v202 v203 v204 v205 v206 v207 v208 v209 v210 v211 v212 v213 v214 v215 v216 v217 v218 v219 v230 v231 m (wr .i64 (v180 + 1)) v220 v221 0 0 v224 v225 v226 v227 v228 v229) else bif decide (y233 = 2) then (F18_80_0 n v178 v179 v181 v182 v183 v184 v185 v186 v187 v188 v189 v190 v191 v192 v193 v194 v195 v196 v197 v198 v199 v200 v201 v202 v203 v204 v205 v206 v207 v208 v209 v210 v211 v212 v213 v214 v215 v216 v217 v218 v219 v230 v231 m (wr .i64 (v180 + 1)) v220 v221 v222 v223 0 0 v226 v227 v228 v229) else bif decide (y233 = 3) then (F18_80_0 n v178 v179 v181 v182 v183 v184 v185 v186 v187 v188 v189 v190 v191 v192 v193 v194 v195 v196 v197 v198 v199 v200 v201 v202 v203 v204 v205 v206 v207 v208 v209 v210 v211 v212 v213 v214 v215 v216 v217 v218 v219 v230 v231 m (wr .i64 (v180 + 1)) v220 v221 v222 v223 v224 v225 0 0 v228 v229) else bif decide (y233 = 4) then (F18_80_0 n v178 v179 v181 v182 v183 v184 v185 v186 v187 v188 v189 v190 v191 v192 v193 v194 v195 v196 v197 v198 v199 v200 v201 v202 v203 v204 v205 v206 v207 v208 v209 v210 v211 v212 v213 v214 v215 v216 v217 v218 v219 v230 v231 m (wr .i64 (v180 + 1)) v220 v221 v222 v223 v224 v225 v226 v227 0 0) else none) else (some ((v209, v220, v221, v222, v223, v224, v225, v226, v227, v228, v229)))
theorem T18_80_0 (C : Nat → List A → Option A) (n : Nat) (h16 : Orc16 C) (h24 : Orc24 C) (h29 : Orc29 C) (h33 : Orc33 C) (h86 : Orc86 C) (v178 : (List Int)) (v179 : Int) (v181 : S_State) (v182 : S_Sign) (v183 : S_Real) (v184 : Int) (v185 : Int) (v186 : Int) (v187 : Int) (v188 : Int) (v189 : Int) (v190 : Int) (v191 : Int) (v192 : Int) (v193 : Int) (v194 : Int) (v195 : Int) (v196 : Int) (v197 : Int) (v198 : Int) (v199 : Int) (v200 : Int) (v201 : Int) (v202 : Int) (v203 : Int) (v204 : Int) (v205 : Int) (v206 : Int) (v207 : Int) (v208 : Int) (v209 : Nat) (v210 : Bool) (v211 : Int) (v212 : Int) (v213 : Int) (v214 : Int) (v215 : Int) (v216 : Int) (v217 : Int) (v218 : Int) (v219 : Int) (v230 : S_Sign) (v231 : S_Real) {ρ γ : Type} {φ : ρ → γ → Prop} {kL : R → Option ρ} {K : (Nat × Int × Int × Int × Int × Int × Int × Int × Int × Int × Int) → Option γ} (kx kg : Nat → St → Option R) (kr : St → Option R) (kp : A → St → Option R) (x0 : ∀ (o0 : Nat) (o1 : Int) (o2 : Int) (o3 : Int) (o4 : Int) (o5 : Int) (o6 : Int) (o7 : Int) (o8 : Int) (o9 : Int) (o10 : Int) (s0 : A) (s6 : A) (s7 : A) (s8 : A), J φ (kx 0 (St.mk [(0, s0), (6, s6), (7, s7), (8, s8)] [Blk.box (c_S_State v181), Blk.box (c_S_Sign v182), Blk.box (c_S_Real v183), (hk18_5 v184 v185 v186 v187 v188 v189 v190 v191 v192 v193 v194 v195 v196), Blk.box [(iA v197), (iA v198), (iA v199), (iA v200), (iA v201), (iA v202), (iA v203), (iA v204), (iA v205), (iA v206), (iA v207), (iA v208), (selF o0)], Blk.box [(bA v210)], Blk.box [(iA v211), (iA v212)], Blk.box [(iA v213), (iA v214)], Blk.box [(iA v215), (iA v216)], Blk.box ([(iA v217), (iA v218), (iA v219), (iA o1), (iA o2), (iA o3), (iA o4), (iA o5), (iA o6), (iA o7), (iA o8), (iA o9), (iA o10)] ++ c_S_Sign v230 ++ c_S_Real v231)])) kL (K (o0, o1, o2, o3, o4, o5, o6, o7, o8, o9, o10)) some) :
    ∀ (m : Nat) (v180 : Int) (v220 : Int) (v221 : Int) (v222 : Int) (v223 : Int) (v224 : Int) (v225 : Int) (v226 : Int) (v227 : Int) (v228 : Int) (v229 : Int), J φ (loopR (cx C) (evCall (cx C) (n+6)) (evCallY (cx C) (n+6)) (n+6) 80 0 0 10 kx kg kr kp m (St.mk [(0, (A.ptr 9 0)), (6, (A.imm (List.map (cI .i64) v178) true)), (7, (iA v179)), (8, (iA v180))] [Blk.box (c_S_State v181), Blk.box (c_S_Sign v182), Blk.box (c_S_Real v183), (hk18_5 v184 v185 v186 v187 v188 v189 v190 v191 v192 v193 v194 v195 v196), (hk18_6 v197 v198 v199 v200 v201 v202 v203 v204 v205 v206 v207 v208 (selF v209)), Blk.box [(bA v210)], Blk.box [(iA v211), (iA v212)], Blk.box [(iA v213), (iA v214)], Blk.box [(iA v215), (iA v216)], Blk.box ([(iA v217), (iA v218), (iA v219), (iA v220), (iA v221), (iA v222), (iA v223), (iA v224), (iA v225), (iA v226), (iA v227), (iA v228), (iA v229)] ++ c_S_Sign v230 ++ c_S_Real v231)])) kL (F18_80_0 n v178 v179 v181 v182 v183 v184 v185 v186 v187 v188 v189 v190 v191 v192 v193 v194 v195 v196 v197 v198 v199 v200 v201 v202 v203 v204 v205 v206 v207 v208 v209 v210 v211 v212 v213 v214 v215 v216 v217 v218 v219 v230 v231 m v180 v220 v221 v222 v223 v224 v225 v226 v227 v228 v229) K := by
  intro m
  induction m with
  | zero => intros; exact .nn
  | succ m ih =>
    intro v180 v220 v221 v222 v223 v224 v225 v226 v227 v228 v229
    refine .lp (e80_0 ..) ?_
    unfold F18_80_0
    refine .st (v := (bA (decide (v180 < v179)))) (aBin_lss ..) ?_
    refine .biHN (fun hk232 => ?_) (fun hk232 => ?_)
    · refine .bd (g := fun (y : Int) => A.ip ((cI .i64) y)) (idx_imm (e := 3) (es := 1) (h1 := by kernel_rfl) (h2 := by kernel_rfl) (h3 := fun _ => rfl) ..) fun y233 => ?_
      refine .s (iA y233) (.s (A.agg [(iA 0), (iA 0)]) (.s (A.ptr 9 0) (.s (A.ptr 9 0) (.s (A.ptr 9 3) ?_))))
      refine .sp (fun hb234 => ?_) (fun _ => ?_)
      · refine .st (v := (A.ptr 9 3)) (by rw [of_decide_eq_true hb234]; kernel_rfl) ?_
        refine .s [Blk.box (c_S_State v181), Blk.box (c_S_Sign v182), Blk.box (c_S_Real v183), (hk18_5 v184 v185 v186 v187 v188 v189 v190 v191 v192 v193 v194 v195 v196), (hk18_6 v197 v198 v199 v200 v201 v202 v203 v204 v205 v206 v207 v208 (selF v209)), Blk.box [(bA v210)], Blk.box [(iA v211), (iA v212)], Blk.box [(iA v213), (iA v214)], Blk.box [(iA v215), (iA v216)], Blk.box ([(iA v217), (iA v218), (iA v219), (iA 0), (iA 0), (iA v222), (iA v223), (iA v224), (iA v225), (iA v226), (iA v227), (iA v228), (iA v229)] ++ c_S_Sign v230 ++ c_S_Real v231)] ?_
        refine .st (v := (iA (wr .i64 (v180 + 1)))) (aBin_add ..) ?_
        refine .s [Blk.box (c_S_State v181), Blk.box (c_S_Sign v182), Blk.box (c_S_Real v183), (hk18_5 v184 v185 v186 v187 v188 v189 v190 v191 v192 v193 v194 v195 v196), (hk18_6 v197 v198 v199 v200 v201 v202 v203 v204 v205 v206 v207 v208 (selF v209)), Blk.box [(bA v210)], Blk.box [(iA v211), (iA v212)], Blk.box [(iA v213), (iA v214)], Blk.box [(iA v215), (iA v216)], Blk.box ([(iA v217), (iA v218), (iA v219), (iA 0), (iA 0), (iA v222), (iA v223), (iA v224), (iA v225), (iA v226), (iA v227), (iA v228), (iA v229)] ++ c_S_Sign v230 ++ c_S_Real v231)] ?_
        refine .cT (by kernel_rfl) ?_
        exact ih _ _ _ _ _ _ _ _ _ _ _
      refine .sp (fun hb235 => ?_) (fun _ => ?_)
      · refine .st (v := (A.ptr 9 5)) (by rw [of_decide_eq_true hb235]; kernel_rfl) ?_
        refine .s [Blk.box (c_S_State v181), Blk.box (c_S_Sign v182), Blk.box (c_S_Real v183), (hk18_5 v184 v185 v186 v187 v188 v189 v190 v191 v192 v193 v194 v195 v196), (hk18_6 v197 v198 v199 v200 v201 v202 v203 v204 v205 v206 v207 v208 (selF v209)), Blk.box [(bA v210)], Blk.box [(iA v211), (iA v212)], Blk.box [(iA v213), (iA v214)], Blk.box [(iA v215), (iA v216)], Blk.box ([(iA v217), (iA v218), (iA v219), (iA v220), (iA v221), (iA 0), (iA 0), (iA v224), (iA v225), (iA v226), (iA v227), (iA v228), (iA v229)] ++ c_S_Sign v230 ++ c_S_Real v231)] ?_
        refine .st (v := (iA (wr .i64 (v180 + 1)))) (aBin_add ..) ?_
        refine .s [Blk.box (c_S_State v181), Blk.box (c_S_Sign v182), Blk.box (c_S_Real v183), (hk18_5 v184 v185 v186 v187 v188 v189 v190 v191 v192 v193 v194 v195 v196), (hk18_6 v197 v198 v199 v200 v201 v202 v203 v204 v205 v206 v207 v208 (selF v209)), Blk.box [(bA v210)], Blk.box [(iA v211), (iA v212)], Blk.box [(iA v213), (iA v214)], Blk.box [(iA v215), (iA v216)], Blk.box ([(iA v217), (iA v218), (iA v219), (iA v220), (iA v221), (iA 0), (iA 0), (iA v224), (iA v225), (iA v226), (iA v227), (iA v228), (iA v229)] ++ c_S_Sign v230 ++ c_S_Real v231)] ?_
        refine .cT (by kernel_rfl) ?_
        exact ih _ _ _ _ _ _ _ _ _ _ _
      refine .sp (fun hb236 => ?_) (fun _ => ?_)
      · refine .st (v := (A.ptr 9 7)) (by rw [of_decide_eq_true hb236]; kernel_rfl) ?_
        refine .s [Blk.box (c_S_State v181), Blk.box (c_S_Sign v182), Blk.box (c_S_Real v183), (hk18_5 v184 v185 v186 v187 v188 v189 v190 v191 v192 v193 v194 v195 v196), (hk18_6 v197 v198 v199 v200 v201 v202 v203 v204 v205 v206 v207 v208 (selF v209)), Blk.box [(bA v210)], Blk.box [(iA v211), (iA v212)], Blk.box [(iA v213), (iA v214)], Blk.box [(iA v215), (iA v216)], Blk.box ([(iA v217), (iA v218), (iA v219), (iA v220), (iA v221), (iA v222), (iA v223), (iA 0), (iA 0), (iA v226), (iA v227), (iA v228), (iA v229)] ++ c_S_Sign v230 ++ c_S_Real v231)] ?_
        refine .st (v := (iA (wr .i64 (v180 + 1)))) (aBin_add ..) ?_
        refine .s [Blk.box (c_S_State v181), Blk.box (c_S_Sign v182), Blk.box (c_S_Real v183), (hk18_5 v184 v185 v186 v187 v188 v189 v190 v191 v192 v193 v194 v195 v196), (hk18_6 v197 v198 v199 v200 v201 v202 v203 v204 v205 v206 v207 v208 (selF v209)), Blk.box [(bA v210)], Blk.box [(iA v211), (iA v212)], Blk.box [(iA v213), (iA v214)], Blk.box [(iA v215), (iA v216)], Blk.box ([(iA v217), (iA v218), (iA v219), (iA v220), (iA v221), (iA v222), (iA v223), (iA 0), (iA 0), (iA v226), (iA v227), (iA v228), (iA v229)] ++ c_S_Sign v230 ++ c_S_Real v231)] ?_
        refine .cT (by kernel_rfl) ?_
        exact ih _ _ _ _ _ _ _ _ _ _ _
      refine .sp (fun hb237 => ?_) (fun _ => ?_)
      · refine .st (v := (A.ptr 9 9)) (by rw [of_decide_eq_true hb237]; kernel_rfl) ?_
        refine .s [Blk.box (c_S_State v181), Blk.box (c_S_Sign v182), Blk.box (c_S_Real v183), (hk18_5 v184 v185 v186 v187 v188 v189 v190 v191 v192 v193 v194 v195 v196), (hk18_6 v197 v198 v199 v200 v201 v202 v203 v204 v205 v206 v207 v208 (selF v209)), Blk.box [(bA v210)], Blk.box [(iA v211), (iA v212)], Blk.box [(iA v213), (iA v214)], Blk.box [(iA v215), (iA v216)], Blk.box ([(iA v217), (iA v218), (iA v219), (iA v220), (iA v221), (iA v222), (iA v223), (iA v224), (iA v225), (iA 0), (iA 0), (iA v228), (iA v229)] ++ c_S_Sign v230 ++ c_S_Real v231)] ?_
        refine .st (v := (iA (wr .i64 (v180 + 1)))) (aBin_add ..) ?_
        refine .s [Blk.box (c_S_State v181), Blk.box (c_S_Sign v182), Blk.box (c_S_Real v183), (hk18_5 v184 v185 v186 v187 v188 v189 v190 v191 v192 v193 v194 v195 v196), (hk18_6 v197 v198 v199 v200 v201 v202 v203 v204 v205 v206 v207 v208 (selF v209)), Blk.box [(bA v210)], Blk.box [(iA v211), (iA v212)], Blk.box [(iA v213), (iA v214)], Blk.box [(iA v215), (iA v216)], Blk.box ([(iA v217), (iA v218), (iA v219), (iA v220), (iA v221), (iA v222), (iA v223), (iA v224), (iA v225), (iA 0), (iA 0), (iA v228), (iA v229)] ++ c_S_Sign v230 ++ c_S_Real v231)] ?_
        refine .cT (by kernel_rfl) ?_
        exact ih _ _ _ _ _ _ _ _ _ _ _
      refine .sp (fun hb238 => ?_) (fun _ => ?_)
      · refine .st (v := (A.ptr 9 11)) (by rw [of_decide_eq_true hb238]; kernel_rfl) ?_
        refine .s [Blk.box (c_S_State v181), Blk.box (c_S_Sign v182), Blk.box (c_S_Real v183), (hk18_5 v184 v185 v186 v187 v188 v189 v190 v191 v192 v193 v194 v195 v196), (hk18_6 v197 v198 v199 v200 v201 v202 v203 v204 v205 v206 v207 v208 (selF v209)), Blk.box [(bA v210)], Blk.box [(iA v211), (iA v212)], Blk.box [(iA v213), (iA v214)], Blk.box [(iA v215), (iA v216)], Blk.box ([(iA v217), (iA v218), (iA v219), (iA v220), (iA v221), (iA v222), (iA v223), (iA v224), (iA v225), (iA v226), (iA v227), (iA 0), (iA 0)] ++ c_S_Sign v230 ++ c_S_Real v231)] ?_
        refine .st (v := (iA (wr .i64 (v180 + 1)))) (aBin_add ..) ?_
        refine .s [Blk.box (c_S_State v181), Blk.box (c_S_Sign v182), Blk.box (c_S_Real v183), (hk18_5 v184 v185 v186 v187 v188 v189 v190 v191 v192 v193 v194 v195 v196), (hk18_6 v197 v198 v199 v200 v201 v202 v203 v204 v205 v206 v207 v208 (selF v209)), Blk.box [(bA v210)], Blk.box [(iA v211), (iA v212)], Blk.box [(iA v213), (iA v214)], Blk.box [(iA v215), (iA v216)], Blk.box ([(iA v217), (iA v218), (iA v219), (iA v220), (iA v221), (iA v222), (iA v223), (iA v224), (iA v225), (iA v226), (iA v227), (iA 0), (iA 0)] ++ c_S_Sign v230 ++ c_S_Real v231)] ?_
        refine .cT (by kernel_rfl) ?_
        exact ih _ _ _ _ _ _ _ _ _ _ _
      exact .nn
    exact .ex (x0 _ _ _ _ _ _ _ _ _ _ _ _ _ _ _)
def F18_80_0b (n : Nat) (v378 : (List Int)) (v379 : Int) (v381 : S_State) (v382 : S_Sign) (v383 : S_Real) (v384 : Int) (v385 : Int) (v386 : Int) (v387 : Int) (v388 : Int) (v389 : Int) (v390 : Int) (v391 : Int) (v392 : Int) (v393 : Int) (v394 : Int) (v395 : Int) (v396 : Int) (v397 : Int) (v398 : Int) (v399 : Int) (v400 : Int) (v401 : Int) (v402 : Int) (v403 : Int) (v404 : Int) (v405 : Int) (v406 : Int) (v407 : Int) (v408 : Int) (v409 : Nat) (v410 : Bool) (v411 : Int) (v412 : Int) (v413 : Int) (v414 : Int) (v415 : Int) (v416 : Int) (v418 : S_Sign) (v419 : S_Real) : Nat → Int → S_State → Option (Nat × Int × Int × Int × Int × Int × Int × Int × Int × Int × Int × Int × Int × Int)
  | 0, _, _ => none
  | m + 1, v380, v417 => bif (decide (v380 < v379)) then (Option.bind (getI v378 v380) fun y421 => bif decide (y421 = 0) then (F18_80_0b n v378 v379 v381 v382 v383 v384 v385 v386 v387 v388 v389 v390 v391 v392 v393 v394 v395 v396 v397 v398 v399 v400 v401 v402 v403 v404 v405 v406 v407 v408 v409 v410 v411 v412 v413 v414 v415 v416 v418 v419 m (wr .i64 (v380 + 1)) ((S_State.mk v417.X v417.Y v417.Face (((S_Limb.mk 0 0), v417.Limbs.2.1, v417.Limbs.2.2.1, v417.Limbs.2.2.2.1, v417.Limbs.2.2.2.2))))) else bif decide (y421 = 1) then (F18_80_0b n v378 v379 v381 v382 v383 v384 v385 v386 v387 v388 v389 v390 v391 v392 v393 v394 v395 v396 v397 v398 v399 v400 v401 v402 v403 v404 v405 v406 v407 v408 v409 v410 v411 v412 v413 v414 v415 v416 v418 v419 m (wr .i64 (v380 + 1)) ((S_State.mk v417.X v417.Y v417.Face ((v417.Limbs.1, (S_Limb.mk 0 0), v417.Limbs.2.2.1, v417.Limbs.2.2.2.1, v417.Limbs.2.2.2.2))))) else bif decide (y421 = 2) then (F18_80_0b n v378 v379 v381 v382 v383 v384 v385 v386 v387 v388 v389 v390 v391 v392 v393 v394 v395 v396 v397 v398 v399 v400 v401 v402 v403 v404 v405 v406 v407 v408 v409 v410 v411 v412 v413 v414 v415 v416 v418 v419 m (wr .i64 (v380 + 1)) ((S_State.mk v417.X v417.Y v417.Face ((v417.Limbs.1, v417.Limbs.2.1, (S_Limb.mk 0 0), v417.Limbs.2.2.2.1, v417.Limbs.2.2.2.2))))) else bif decide (y421 = 3) then (F18_80_0b n v378 v379 v381 v382 v383 v384 v385 v386 v387 v388 v389 v390 v391 v392 v393 v394 v395 v396 v397 v398 v399 v400 v401 v402 v403 v404 v405 v406 v407 v408 v409 v410 v411 v412 v413 v414 v415 v416 v418 v419 m (wr .i64 (v380 + 1)) ((S_State.mk v417.X v417.Y v417.Face ((v417.Limbs.1, v417.Limbs.2.1, v417.Limbs.2.2.1, (S_Limb.mk 0 0), v417.Limbs.2.2.2.2))))) else bif decide (y421 = 4) then (F18_80_0b n v378 v379 v381 v382 v383 v384 v385 v386 v387 v388 v389 v390 v391 v392 v393 v394 v395 v396 v397 v398 v399 v400 v401 v402 v403 v404 v405 v406 v407 v408 v409 v410 v411 v412 v413 v414 v415 v416 v418 v419 m (wr .i64 (v380 + 1)) ((S_State.mk v417.X v417.Y v417.Face ((v417.Limbs.1, v417.Limbs.2.1, v417.Limbs.2.2.1, v417.Limbs.2.2.2.1, (S_Limb.mk 0 0)))))) else none) else (some ((v409, v417.X, v417.Y, v417.Face, v417.Limbs.1.Dir, v417.Limbs.1.Level, v417.Limbs.2.1.Dir, v417.Limbs.2.1.Level, v417.Limbs.2.2.1.Dir, v417.Limbs.2.2.1.Level, v417.Limbs.2.2.2.1.Dir, v417.Limbs.2.2.2.1.Level, v417.Limbs.2.2.2.2.Dir, v417.Limbs.2.2.2.2.Level)))
theorem T18_80_0b (C : Nat → List A → Option A) (n : Nat) (h16 : Orc16 C) (h24 : Orc24 C) (h29 : Orc29 C) (h33 : Orc33 C) (h86 : Orc86 C) (v378 : (List Int)) (v379 : Int) (v381 : S_State) (v382 : S_Sign) (v383 : S_Real) (v384 : Int) (v385 : Int) (v386 : Int) (v387 : Int) (v388 : Int) (v389 : Int) (v390 : Int) (v391 : Int) (v392 : Int) (v393 : Int) (v394 : Int) (v395 : Int) (v396 : Int) (v397 : Int) (v398 : Int) (v399 : Int) (v400 : Int) (v401 : Int) (v402 : Int) (v403 : Int) (v404 : Int) (v405 : Int) (v406 : Int) (v407 : Int) (v408 : Int) (v409 : Nat) (v410 : Bool) (v411 : Int) (v412 : Int) (v413 : Int) (v414 : Int) (v415 : Int) (v416 : Int) (v418 : S_Sign) (v419 : S_Real) {ρ γ : Type} {φ : ρ → γ → Prop} {kL : R → Option ρ} {K : (Nat × Int × Int × Int × Int × Int × Int × Int × Int × Int × Int × Int × Int × Int) → Option γ} (kx kg : Nat → St → Option R) (kr : St → Option R) (kp : A → St → Option R) (x0 : ∀ (o0 : Nat) (o1 : Int) (o2 : Int) (o3 : Int) (o4 : Int) (o5 : Int) (o6 : Int) (o7 : Int) (o8 : Int) (o9 : Int) (o10 : Int) (o11 : Int) (o12 : Int) (o13 : Int) (s0 : A) (s6 : A) (s7 : A) (s8 : A), J φ (kx 0 (St.mk [(0, s0), (6, s6), (7, s7), (8, s8)] [Blk.box (c_S_State v381), Blk.box (c_S_Sign v382), Blk.box (c_S_Real v383), (hk18_5 v384 v385 v386 v387 v388 v389 v390 v391 v392 v393 v394 v395 v396), Blk.box [(iA v397), (iA v398), (iA v399), (iA v400), (iA v401), (iA v402), (iA v403), (iA v404), (iA v405), (iA v406), (iA v407), (iA v408), (selF o0)], Blk.box [(bA v410)], Blk.box [(iA v411), (iA v412)], Blk.box [(iA v413), (iA v414)], Blk.box [(iA v415), (iA v416)], Blk.box ([(iA o1), (iA o2), (iA o3), (iA o4), (iA o5), (iA o6), (iA o7), (iA o8), (iA o9), (iA o10), (iA o11), (iA o12), (iA o13)] ++ c_S_Sign v418 ++ c_S_Real v419)])) kL (K (o0, o1, o2, o3, o4, o5, o6, o7, o8, o9, o10, o11, o12, o13)) some) :
    ∀ (m : Nat) (v380 : Int) (v417 : S_State), J φ (loopR (cx C) (evCall (cx C) (n+6)) (evCallY (cx C) (n+6)) (n+6) 80 0 0 10 kx kg kr kp m (St.mk [(0, (A.ptr 9 0)), (6, (A.imm (List.map (cI .i64) v378) true)), (7, (iA v379)), (8, (iA v380))] [Blk.box (c_S_State v381), Blk.box (c_S_Sign v382), Blk.box (c_S_Real v383), (hk18_5 v384 v385 v386 v387 v388 v389 v390 v391 v392 v393 v394 v395 v396), (hk18_6 v397 v398 v399 v400 v401 v402 v403 v404 v405 v406 v407 v408 (selF v409)), Blk.box [(bA v410)], Blk.box [(iA v411), (iA v412)], Blk.box [(iA v413), (iA v414)], Blk.box [(iA v415), (iA v416)], Blk.box (c_S_State v417 ++ c_S_Sign v418 ++ c_S_Real v419)])) kL (F18_80_0b n v378 v379 v381 v382 v383 v384 v385 v386 v387 v388 v389 v390 v391 v392 v393 v394 v395 v396 v397 v398 v399 v400 v401 v402 v403 v404 v405 v406 v407 v408 v409 v410 v411 v412 v413 v414 v415 v416 v418 v419 m v380 v417) K := by
  intro m
  induction m with
  | zero => intros; exact .nn
  | succ m ih =>
    intro v380 v417
    refine .lp (e80_0 ..) ?_
    unfold F18_80_0b
    refine .st (v := (bA (decide (v380 < v379)))) (aBin_lss ..) ?_
    refine .biHN (fun hk420 => ?_) (fun hk420 => ?_)
    · refine .bd (g := fun (y : Int) => A.ip ((cI .i64) y)) (idx_imm (e := 3) (es := 1) (h1 := by kernel_rfl) (h2 := by kernel_rfl) (h3 := fun _ => rfl) ..) fun y421 => ?_
      refine .s (iA y421) (.s (A.agg [(iA 0), (iA 0)]) (.s (A.ptr 9 0) (.s (A.ptr 9 0) (.s (A.ptr 9 3) ?_))))
      refine .sp (fun hb422 => ?_) (fun _ => ?_)
      · refine .st (v := (A.ptr 9 3)) (by rw [of_decide_eq_true hb422]; kernel_rfl) ?_
        refine .s [Blk.box (c_S_State v381), Blk.box (c_S_Sign v382), Blk.box (c_S_Real v383), (hk18_5 v384 v385 v386 v387 v388 v389 v390 v391 v392 v393 v394 v395 v396), (hk18_6 v397 v398 v399 v400 v401 v402 v403 v404 v405 v406 v407 v408 (selF v409)), Blk.box [(bA v410)], Blk.box [(iA v411), (iA v412)], Blk.box [(iA v413), (iA v414)], Blk.box [(iA v415), (iA v416)], Blk.box ([(iA v417.X), (iA v417.Y), (iA v417.Face), (iA 0), (iA 0), (iA v417.Limbs.2.1.Dir), (iA v417.Limbs.2.1.Level), (iA v417.Limbs.2.2.1.Dir), (iA v417.Limbs.2.2.1.Level), (iA v417.Limbs.2.2.2.1.Dir), (iA v417.Limbs.2.2.2.1.Level), (iA v417.Limbs.2.2.2.2.Dir), (iA v417.Limbs.2.2.2.2.Level)] ++ c_S_Sign v418 ++ c_S_Real v419)] ?_
        refine .st (v := (iA (wr .i64 (v380 + 1)))) (aBin_add ..) ?_
        refine .s [Blk.box (c_S_State v381), Blk.box (c_S_Sign v382), Blk.box (c_S_Real v383), (hk18_5 v384 v385 v386 v387 v388 v389 v390 v391 v392 v393 v394 v395 v396), (hk18_6 v397 v398 v399 v400 v401 v402 v403 v404 v405 v406 v407 v408 (selF v409)), Blk.box [(bA v410)], Blk.box [(iA v411), (iA v412)], Blk.box [(iA v413), (iA v414)], Blk.box [(iA v415), (iA v416)], Blk.box ([(iA v417.X), (iA v417.Y), (iA v417.Face), (iA 0), (iA 0), (iA v417.Limbs.2.1.Dir), (iA v417.Limbs.2.1.Level), (iA v417.Limbs.2.2.1.Dir), (iA v417.Limbs.2.2.1.Level), (iA v417.Limbs.2.2.2.1.Dir), (iA v417.Limbs.2.2.2.1.Level), (iA v417.Limbs.2.2.2.2.Dir), (iA v417.Limbs.2.2.2.2.Level)] ++ c_S_Sign v418 ++ c_S_Real v419)] ?_
        refine .cT (by kernel_rfl) ?_
        exact ih _ _
      refine .sp (fun hb423 => ?_) (fun _ => ?_)
      · refine .st (v := (A.ptr 9 5)) (by rw [of_decide_eq_true hb423]; kernel_rfl) ?_
        refine .s [Blk.box (c_S_State v381), Blk.box (c_S_Sign v382), Blk.box (c_S_Real v383), (hk18_5 v384 v385 v386 v387 v388 v389 v390 v391 v392 v393 v394 v395 v396), (hk18_6 v397 v398 v399 v400 v401 v402 v403 v404 v405 v406 v407 v408 (selF v409)), Blk.box [(bA v410)], Blk.box [(iA v411), (iA v412)], Blk.box [(iA v413), (iA v414)], Blk.box [(iA v415), (iA v416)], Blk.box ([(iA v417.X), (iA v417.Y), (iA v417.Face), (iA v417.Limbs.1.Dir), (iA v417.Limbs.1.Level), (iA 0), (iA 0), (iA v417.Limbs.2.2.1.Dir), (iA v417.Limbs.2.2.1.Level), (iA v417.Limbs.2.2.2.1.Dir), (iA v417.Limbs.2.2.2.1.Level), (iA v417.Limbs.2.2.2.2.Dir), (iA v417.Limbs.2.2.2.2.Level)] ++ c_S_Sign v418 ++ c_S_Real v419)] ?_
        refine .st (v := (iA (wr .i64 (v380 + 1)))) (aBin_add ..) ?_
        refine .s [Blk.box (c_S_State v381), Blk.box (c_S_Sign v382), Blk.box (c_S_Real v383), (hk18_5 v384 v385 v386 v387 v388 v389 v390 v391 v392 v393 v394 v395 v396), (hk18_6 v397 v398 v399 v400 v401 v402 v403 v404 v405 v406 v407 v408 (selF v409)), Blk.box [(bA v410)], Blk.box [(iA v411), (iA v412)], Blk.box [(iA v413), (iA v414)], Blk.box [(iA v415), (iA v416)], Blk.box ([(iA v417.X), (iA v417.Y), (iA v417.Face), (iA v417.Limbs.1.Dir), (iA v417.Limbs.1.Level), (iA 0), (iA 0), (iA v417.Limbs.2.2.1.Dir), (iA v417.Limbs.2.2.1.Level), (iA v417.Limbs.2.2.2.1.Dir), (iA v417.Limbs.2.2.2.1.Level), (iA v417.Limbs.2.2.2.2.Dir), (iA v417.Limbs.2.2.2.2.Level)] ++ c_S_Sign v418 ++ c_S_Real v419)] ?_
        refine .cT (by kernel_rfl) ?_
        exact ih _ _
      refine .sp (fun hb424 => ?_) (fun _ => ?_)
      · refine .st (v := (A.ptr 9 7)) (by rw [of_decide_eq_true hb424]; kernel_rfl) ?_
        refine .s [Blk.box (c_S_State v381), Blk.box (c_S_Sign v382), Blk.box (c_S_Real v383), (hk18_5 v384 v385 v386 v387 v388 v389 v390 v391 v392 v393 v394 v395 v396), (hk18_6 v397 v398 v399 v400 v401 v402 v403 v404 v405 v406 v407 v408 (selF v409)), Blk.box [(bA v410)], Blk.box [(iA v411), (iA v412)], Blk.box [(iA v413), (iA v414)], Blk.box [(iA v415), (iA v416)], Blk.box ([(iA v417.X), (iA v417.Y), (iA v417.Face), (iA v417.Limbs.1.Dir), (iA v417.Limbs.1.Level), (iA v417.Limbs.2.1.Dir), (iA v417.Limbs.2.1.Level), (iA 0), (iA 0), (iA v417.Limbs.2.2.2.1.Dir), (iA v417.Limbs.2.2.2.1.Level), (iA v417.Limbs.2.2.2.2.Dir), (iA v417.Limbs.2.2.2.2.Level)] ++ c_S_Sign v418 ++ c_S_Real v419)] ?_
        refine .st (v := (iA (wr .i64 (v380 + 1)))) (aBin_add ..) ?_
        refine .s [Blk.box (c_S_State v381), Blk.box (c_S_Sign v382), Blk.box (c_S_Real v383), (hk18_5 v384 v385 v386 v387 v388 v389 v390 v391 v392 v393 v394 v395 v396), (hk18_6 v397 v398 v399 v400 v401 v402 v403 v404 v405 v406 v407 v408 (selF v409)), Blk.box [(bA v410)], Blk.box [(iA v411), (iA v412)], Blk.box [(iA v413), (iA v414)], Blk.box [(iA v415), (iA v416)], Blk.box ([(iA v417.X), (iA v417.Y), (iA v417.Face), (iA v417.Limbs.1.Dir), (iA v417.Limbs.1.Level), (iA v417.Limbs.2.1.Dir), (iA v417.Limbs.2.1.Level), (iA 0), (iA 0), (iA v417.Limbs.2.2.2.1.Dir), (iA v417.Limbs.2.2.2.1.Level), (iA v417.Limbs.2.2.2.2.Dir), (iA v417.Limbs.2.2.2.2.Level)] ++ c_S_Sign v418 ++ c_S_Real v419)] ?_
        refine .cT (by kernel_rfl) ?_
        exact ih _ _
      refine .sp (fun hb425 => ?_) (fun _ => ?_)
      · refine .st (v := (A.ptr 9 9)) (by rw [of_decide_eq_true hb425]; kernel_rfl) ?_
        refine .s [Blk.box (c_S_State v381), Blk.box (c_S_Sign v382), Blk.box (c_S_Real v383), (hk18_5 v384 v385 v386 v387 v388 v389 v390 v391 v392 v393 v394 v395 v396), (hk18_6 v397 v398 v399 v400 v401 v402 v403 v404 v405 v406 v407 v408 (selF v409)), Blk.box [(bA v410)], Blk.box [(iA v411), (iA v412)], Blk.box [(iA v413), (iA v414)], Blk.box [(iA v415), (iA v416)], Blk.box ([(iA v417.X), (iA v417.Y), (iA v417.Face), (iA v417.Limbs.1.Dir), (iA v417.Limbs.1.Level), (iA v417.Limbs.2.1.Dir), (iA v417.Limbs.2.1.Level), (iA v417.Limbs.2.2.1.Dir), (iA v417.Limbs.2.2.1.Level), (iA 0), (iA 0), (iA v417.Limbs.2.2.2.2.Dir), (iA v417.Limbs.2.2.2.2.Level)] ++ c_S_Sign v418 ++ c_S_Real v419)] ?_
        refine .st (v := (iA (wr .i64 (v380 + 1)))) (aBin_add ..) ?_
        refine .s [Blk.box (c_S_State v381), Blk.box (c_S_Sign v382), Blk.box (c_S_Real v383), (hk18_5 v384 v385 v386 v387 v388 v389 v390 v391 v392 v393 v394 v395 v396), (hk18_6 v397 v398 v399 v400 v401 v402 v403 v404 v405 v406 v407 v408 (selF v409)), Blk.box [(bA v410)], Blk.box [(iA v411), (iA v412)], Blk.box [(iA v413), (iA v414)], Blk.box [(iA v415), (iA v416)], Blk.box ([(iA v417.X), (iA v417.Y), (iA v417.Face), (iA v417.Limbs.1.Dir), (iA v417.Limbs.1.Level), (iA v417.Limbs.2.1.Dir), (iA v417.Limbs.2.1.Level), (iA v417.Limbs.2.2.1.Dir), (iA v417.Limbs.2.2.1.Level), (iA 0), (iA 0), (iA v417.Limbs.2.2.2.2.Dir), (iA v417.Limbs.2.2.2.2.Level)] ++ c_S_Sign v418 ++ c_S_Real v419)] ?_
        refine .cT (by kernel_rfl) ?_
        exact ih _ _
      refine .sp (fun hb426 => ?_) (fun _ => ?_)
      · refine .st (v := (A.ptr 9 11)) (by rw [of_decide_eq_true hb426]; kernel_rfl) ?_
        refine .s [Blk.box (c_S_State v381), Blk.box (c_S_Sign v382), Blk.box (c_S_Real v383), (hk18_5 v384 v385 v386 v387 v388 v389 v390 v391 v392 v393 v394 v395 v396), (hk18_6 v397 v398 v399 v400 v401 v402 v403 v404 v405 v406 v407 v408 (selF v409)), Blk.box [(bA v410)], Blk.box [(iA v411), (iA v412)], Blk.box [(iA v413), (iA v414)], Blk.box [(iA v415), (iA v416)], Blk.box ([(iA v417.X), (iA v417.Y), (iA v417.Face), (iA v417.Limbs.1.Dir), (iA v417.Limbs.1.Level), (iA v417.Limbs.2.1.Dir), (iA v417.Limbs.2.1.Level), (iA v417.Limbs.2.2.1.Dir), (iA v417.Limbs.2.2.1.Level), (iA v417.Limbs.2.2.2.1.Dir), (iA v417.Limbs.2.2.2.1.Level), (iA 0), (iA 0)] ++ c_S_Sign v418 ++ c_S_Real v419)] ?_
        refine .st (v := (iA (wr .i64 (v380 + 1)))) (aBin_add ..) ?_
        refine .s [Blk.box (c_S_State v381), Blk.box (c_S_Sign v382), Blk.box (c_S_Real v383), (hk18_5 v384 v385 v386 v387 v388 v389 v390 v391 v392 v393 v394 v395 v396), (hk18_6 v397 v398 v399 v400 v401 v402 v403 v404 v405 v406 v407 v408 (selF v409)), Blk.box [(bA v410)], Blk.box [(iA v411), (iA v412)], Blk.box [(iA v413), (iA v414)], Blk.box [(iA v415), (iA v416)], Blk.box ([(iA v417.X), (iA v417.Y), (iA v417.Face), (iA v417.Limbs.1.Dir), (iA v417.Limbs.1.Level), (iA v417.Limbs.2.1.Dir), (iA v417.Limbs.2.1.Level), (iA v417.Limbs.2.2.1.Dir), (iA v417.Limbs.2.2.1.Level), (iA v417.Limbs.2.2.2.1.Dir), (iA v417.Limbs.2.2.2.1.Level), (iA 0), (iA 0)] ++ c_S_Sign v418 ++ c_S_Real v419)] ?_
        refine .cT (by kernel_rfl) ?_
        exact ih _ _
      exact .nn
    exact .ex (x0 _ _ _ _ _ _ _ _ _ _ _ _ _ _ _ _ _ _)
def F18 (n : Nat) (a0 : S_State) (a1 : S_Sign) (a2 : S_Real) : Option (S_State × Int) :=
  Option.bind (G16 a0) fun y1 => bif (y1 != 0) then (some (((S_State.mk 0 0 0 (((S_Limb.mk 0 0), (S_Limb.mk 0 0), (S_Limb.mk 0 0), (S_Limb.mk 0 0), (S_Limb.mk 0 0)))), y1))) else (Option.bind (G33 ) fun y3 => Option.bind (bif decide (a1.Kind = 1) then (some ((1, 2, 1, 8, 0, 0, 1, 16, 0, 0, 0, 0, 52, true))) else bif decide (a1.Kind = 2) then (some ((0, 0, 1, 8, 0, 0, 1, 16, 0, 0, 0, 0, 53, true))) else bif decide (a1.Kind = 3) then (some ((1, 2, 0, 8, 1, 3, 0, 0, 0, 8, 1, 3, 54, true))) else bif decide (a1.Kind = 4) then (some ((1, 2, 0, 8, 1, 3, 0, 0, 0, 8, 1, 3, 55, true))) else bif decide (a1.Kind = 5) then (some ((0, 0, 0, 8, 1, 3, 0, 0, 0, 8, 1, 3, 56, true))) else bif decide (a1.Kind = 6) then (some ((0, 0, 0, 0, 0, 0, 1, 7, 0, 0, 0, 0, 57, true))) else bif decide (a1.Kind = 7) then (some ((0, 0, 0, 0, 0, 0, 0, 0, 0, 0, 0, 0, 58, true))) else bif decide (a1.Kind = 8) then (some ((0, 0, 0, 0, 0, 0, 0, 0, 0, 0, 0, 0, 59, true))) else bif decide (a1.Kind = 9) then (some ((1, 2, 0, 0, 1, 3, 0, 0, 0, 0, 1, 3, 60, true))) else (some ((0, 0, 0, 0, 0, 0, 0, 0, 0, 0, 0, 0, 0, false)))) fun y4 => Option.bind (bif y4.2.2.2.2.2.2.2.2.2.2.2.2.2 then (Option.bind (G29 a1.Mark 1 3) fun y24 => some y24) else (some false)) fun y25 => Option.bind (F18_18_0 n y1 a1.Side a1.Dir a1.Level a1.Size a0 a1 a2 0 0 0 0 0 0 0 0 0 0 0 0 0 y4.1 y4.2.1 y4.2.2.1 y4.2.2.2.1 y4.2.2.2.2.1 y4.2.2.2.2.2.1 y4.2.2.2.2.2.2.1 y4.2.2.2.2.2.2.2.1 y4.2.2.2.2.2.2.2.2.1 y4.2.2.2.2.2.2.2.2.2.1 y4.2.2.2.2.2.2.2.2.2.2.1 y4.2.2.2.2.2.2.2.2.2.2.2.1 y4.2.2.2.2.2.2.2.2.2.2.2.2.1 1 3 (n+8) 0 y25) fun o116 => match o116 with | (y117, y118) => bif a2.Drop then (Option.bind (bif y118 then (Option.bind (G29 a2.Dir 0 0) fun y124 => some y124) else (some false)) fun y125 => Option.bind (bif y125 then (Option.bind (G29 a2.Level 0 0) fun y133 => some y133) else (some false)) fun y134 => Option.bind (bif (!y134) then (some true) else (some (a2.Sign != a1.ID))) fun y142 => bif y142 then (some (((S_State.mk 0 0 0 (((S_Limb.mk 0 0), (S_Limb.mk 0 0), (S_Limb.mk 0 0), (S_Limb.mk 0 0), (S_Limb.mk 0 0)))), 1))) else (some ((a0, 0)))) else (Option.bind (bif y118 then (Option.bind (G29 a2.Dir y4.2.2.2.2.2.2.2.2.1 y4.2.2.2.2.2.2.2.2.2.1) fun y150 => some y150) else (some false)) fun y151 => Option.bind (bif y151 then (Option.bind (G29 a2.Level y4.2.2.2.2.2.2.2.2.2.2.1 y4.2.2.2.2.2.2.2.2.2.2.2.1) fun y159 => some y159) else (some false)) fun y160 => Option.bind (bif (!y160) then (some true) else (some (a2.Sign != a1.ID))) fun y168 => bif y168 then (some (((S_State.mk 0 0 0 (((S_Limb.mk 0 0), (S_Limb.mk 0 0), (S_Limb.mk 0 0), (S_Limb.mk 0 0), (S_Limb.mk 0 0)))), 1))) else (bif decide (y117 = 52) then (Option.bind (G24 a1.Dir a0.Face) fun y176 => Option.bind (G86 y176.1) fun y177 => Option.bind (F18_80_0 n ([wr .i64 (a1.Side - 1)]) 1 a0 a1 a2 0 0 0 0 0 0 0 0 0 0 0 0 0 y4.1 y4.2.1 y4.2.2.1 y4.2.2.2.1 y4.2.2.2.2.1 y4.2.2.2.2.2.1 y4.2.2.2.2.2.2.1 y4.2.2.2.2.2.2.2.1 y4.2.2.2.2.2.2.2.2.1 y4.2.2.2.2.2.2.2.2.2.1 y4.2.2.2.2.2.2.2.2.2.2.1 y4.2.2.2.2.2.2.2.2.2.2.2.1 y117 y160 1 3 y4.2.2.2.2.2.2.2.2.1 y4.2.2.2.2.2.2.2.2.2.1 y4.2.2.2.2.2.2.2.2.2.2.1 y4.2.2.2.2.2.2.2.2.2.2.2.1 (wr .i64 (a0.X + (wr .i64 (a1.Size * y177.1)))) (wr .i64 (a0.Y + (wr .i64 (a1.Size * y177.2.1)))) a0.Face a1 a2 (n+6) 0 a0.Limbs.1.Dir a0.Limbs.1.Level a0.Limbs.2.1.Dir a0.Limbs.2.1.Level a0.Limbs.2.2.1.Dir a0.Limbs.2.2.1.Level a0.Limbs.2.2.2.1.Dir a0.Limbs.2.2.2.1.Level a0.Limbs.2.2.2.2.Dir a0.Limbs.2.2.2.2.Level) fun o239 => match o239 with | (y240, y241, y242, y243, y244, y245, y246, y247, y248, y249, y250) => Option.bind (G16 ((S_State.mk (wr .i64 (a0.X + (wr .i64 (a1.Size * y177.1)))) (wr .i64 (a0.Y + (wr .i64 (a1.Size * y177.2.1)))) a0.Face (((S_Limb.mk y241 y242), (S_Limb.mk y243 y244), (S_Limb.mk y245 y246), (S_Limb.mk y247 y248), (S_Limb.mk y249 y250)))))) fun y255 => bif (y255 != 0) then (some (((S_State.mk 0 0 0 (((S_Limb.mk 0 0), (S_Limb.mk 0 0), (S_Limb.mk 0 0), (S_Limb.mk 0 0), (S_Limb.mk 0 0)))), 2))) else (some (((S_State.mk (wr .i64 (a0.X + (wr .i64 (a1.Size * y177.1)))) (wr .i64 (a0.Y + (wr .i64 (a1.Size * y177.2.1)))) a0.Face (((S_Limb.mk y241 y242), (S_Limb.mk y243 y244), (S_Limb.mk y245 y246), (S_Limb.mk y247 y248), (S_Limb.mk y249 y250)))), 0)))) else bif decide (y117 = 53) then (Option.bind (G24 a1.Dir a0.Face) fun y258 => Option.bind (G86 y258.1) fun y259 => Option.bind (F18_80_0 n ([0, 1]) 2 a0 a1 a2 0 0 0 0 0 0 0 0 0 0 0 0 0 y4.1 y4.2.1 y4.2.2.1 y4.2.2.2.1 y4.2.2.2.2.1 y4.2.2.2.2.2.1 y4.2.2.2.2.2.2.1 y4.2.2.2.2.2.2.2.1 y4.2.2.2.2.2.2.2.2.1 y4.2.2.2.2.2.2.2.2.2.1 y4.2.2.2.2.2.2.2.2.2.2.1 y4.2.2.2.2.2.2.2.2.2.2.2.1 y117 y160 1 3 y4.2.2.2.2.2.2.2.2.1 y4.2.2.2.2.2.2.2.2.2.1 y4.2.2.2.2.2.2.2.2.2.2.1 y4.2.2.2.2.2.2.2.2.2.2.2.1 (wr .i64 (a0.X + (wr .i64 (a1.Size * y259.1)))) (wr .i64 (a0.Y + (wr .i64 (a1.Size * y259.2.1)))) a0.Face a1 a2 (n+6) 0 a0.Limbs.1.Dir a0.Limbs.1.Level a0.Limbs.2.1.Dir a0.Limbs.2.1.Level a0.Limbs.2.2.1.Dir a0.Limbs.2.2.1.Level a0.Limbs.2.2.2.1.Dir a0.Limbs.2.2.2.1.Level a0.Limbs.2.2.2.2.Dir a0.Limbs.2.2.2.2.Level) fun o321 => match o321 with | (y322, y323, y324, y325, y326, y327, y328, y329, y330, y331, y332) => Option.bind (G16 ((S_State.mk (wr .i64 (a0.X + (wr .i64 (a1.Size * y259.1)))) (wr .i64 (a0.Y + (wr .i64 (a1.Size * y259.2.1)))) a0.Face (((S_Limb.mk y323 y324), (S_Limb.mk y325 y326), (S_Limb.mk y327 y328), (S_Limb.mk y329 y330), (S_Limb.mk y331 y332)))))) fun y337 => bif (y337 != 0) then (some (((S_State.mk 0 0 0 (((S_Limb.mk 0 0), (S_Limb.mk 0 0), (S_Limb.mk 0 0), (S_Limb.mk 0 0), (S_Limb.mk 0 0)))), 2))) else (some (((S_State.mk (wr .i64 (a0.X + (wr .i64 (a1.Size * y259.1)))) (wr .i64 (a0.Y + (wr .i64 (a1.Size * y259.2.1)))) a0.Face (((S_Limb.mk y323 y324), (S_Limb.mk y325 y326), (S_Limb.mk y327 y328), (S_Limb.mk y329 y330), (S_Limb.mk y331 y332)))), 0)))) else bif decide (y117 = 54) then (bif decide ((wr .i64 (a1.Side - 1)) = 0) then (Option.bind (G16 ((S_State.mk a0.X a0.Y a0.Face (((S_Limb.mk a2.Dir a2.Level), a0.Limbs.2.1, a0.Limbs.2.2.1, a0.Limbs.2.2.2.1, a0.Limbs.2.2.2.2))))) fun y341 => bif (y341 != 0) then (some (((S_State.mk 0 0 0 (((S_Limb.mk 0 0), (S_Limb.mk 0 0), (S_Limb.mk 0 0), (S_Limb.mk 0 0), (S_Limb.mk 0 0)))), 2))) else (some (((S_State.mk a0.X a0.Y a0.Face (((S_Limb.mk a2.Dir a2.Level), a0.Limbs.2.1, a0.Limbs.2.2.1, a0.Limbs.2.2.2.1, a0.Limbs.2.2.2.2))), 0)))) else bif decide ((wr .i64 (a1.Side - 1)) = 1) then (Option.bind (G16 ((S_State.mk a0.X a0.Y a0.Face ((a0.Limbs.1, (S_Limb.mk a2.Dir a2.Level), a0.Limbs.2.2.1, a0.Limbs.2.2.2.1, a0.Limbs.2.2.2.2))))) fun y344 => bif (y344 != 0) then (some (((S_State.mk 0 0 0 (((S_Limb.mk 0 0), (S_Limb.mk 0 0), (S_Limb.mk 0 0), (S_Limb.mk 0 0), (S_Limb.mk 0 0)))), 2))) else (some (((S_State.mk a0.X a0.Y a0.Face ((a0.Limbs.1, (S_Limb.mk a2.Dir a2.Level), a0.Limbs.2.2.1, a0.Limbs.2.2.2.1, a0.Limbs.2.2.2.2))), 0)))) else bif decide ((wr .i64 (a1.Side - 1)) = 2) then (Option.bind (G16 ((S_State.mk a0.X a0.Y a0.Face ((a0.Limbs.1, a0.Limbs.2.1, (S_Limb.mk a2.Dir a2.Level), a0.Limbs.2.2.2.1, a0.Limbs.2.2.2.2))))) fun y347 => bif (y347 != 0) then (some (((S_State.mk 0 0 0 (((S_Limb.mk 0 0), (S_Limb.mk 0 0), (S_Limb.mk 0 0), (S_Limb.mk 0 0), (S_Limb.mk 0 0)))), 2))) else (some (((S_State.mk a0.X a0.Y a0.Face ((a0.Limbs.1, a0.Limbs.2.1, (S_Limb.mk a2.Dir a2.Level), a0.Limbs.2.2.2.1, a0.Limbs.2.2.2.2))), 0)))) else bif decide ((wr .i64 (a1.Side - 1)) = 3) then (Option.bind (G16 ((S_State.mk a0.X a0.Y a0.Face ((a0.Limbs.1, a0.Limbs.2.1, a0.Limbs.2.2.1, (S_Limb.mk a2.Dir a2.Level), a0.Limbs.2.2.2.2))))) fun y350 => bif (y350 != 0) then (some (((S_State.mk 0 0 0 (((S_Limb.mk 0 0), (S_Limb.mk 0 0), (S_Limb.mk 0 0), (S_Limb.mk 0 0), (S_Limb.mk 0 0)))), 2))) else (some (((S_State.mk a0.X a0.Y a0.Face ((a0.Limbs.1, a0.Limbs.2.1, a0.Limbs.2.2.1, (S_Limb.mk a2.Dir a2.Level), a0.Limbs.2.2.2.2))), 0)))) else bif decide ((wr .i64 (a1.Side - 1)) = 4) then (Option.bind (G16 ((S_State.mk a0.X a0.Y a0.Face ((a0.Limbs.1, a0.Limbs.2.1, a0.Limbs.2.2.1, a0.Limbs.2.2.2.1, (S_Limb.mk a2.Dir a2.Level)))))) fun y353 => bif (y353 != 0) then (some (((S_State.mk 0 0 0 (((S_Limb.mk 0 0), (S_Limb.mk 0 0), (S_Limb.mk 0 0), (S_Limb.mk 0 0), (S_Limb.mk 0 0)))), 2))) else (some (((S_State.mk a0.X a0.Y a0.Face ((a0.Limbs.1, a0.Limbs.2.1, a0.Limbs.2.2.1, a0.Limbs.2.2.2.1, (S_Limb.mk a2.Dir a2.Level)))), 0)))) else none) else bif decide (y117 = 55) then (bif decide ((wr .i64 (a1.Side + 1)) = 0) then (Option.bind (G16 ((S_State.mk a0.X a0.Y a0.Face (((S_Limb.mk a2.Dir a2.Level), a0.Limbs.2.1, a0.Limbs.2.2.1, a0.Limbs.2.2.2.1, a0.Limbs.2.2.2.2))))) fun y357 => bif (y357 != 0) then (some (((S_State.mk 0 0 0 (((S_Limb.mk 0 0), (S_Limb.mk 0 0), (S_Limb.mk 0 0), (S_Limb.mk 0 0), (S_Limb.mk 0 0)))), 2))) else (some (((S_State.mk a0.X a0.Y a0.Face (((S_Limb.mk a2.Dir a2.Level), a0.Limbs.2.1, a0.Limbs.2.2.1, a0.Limbs.2.2.2.1, a0.Limbs.2.2.2.2))), 0)))) else bif decide ((wr .i64 (a1.Side + 1)) = 1) then (Option.bind (G16 ((S_State.mk a0.X a0.Y a0.Face ((a0.Limbs.1, (S_Limb.mk a2.Dir a2.Level), a0.Limbs.2.2.1, a0.Limbs.2.2.2.1, a0.Limbs.2.2.2.2))))) fun y360 => bif (y360 != 0) then (some (((S_State.mk 0 0 0 (((S_Limb.mk 0 0), (S_Limb.mk 0 0), (S_Limb.mk 0 0), (S_Limb.mk 0 0), (S_Limb.mk 0 0)))), 2))) else (some (((S_State.mk a0.X a0.Y a0.Face ((a0.Limbs.1, (S_Limb.mk a2.Dir a2.Level), a0.Limbs.2.2.1, a0.Limbs.2.2.2.1, a0.Limbs.2.2.2.2))), 0)))) else bif decide ((wr .i64 (a1.Side + 1)) = 2) then (Option.bind (G16 ((S_State.mk a0.X a0.Y a0.Face ((a0.Limbs.1, a0.Limbs.2.1, (S_Limb.mk a2.Dir a2.Level), a0.Limbs.2.2.2.1, a0.Limbs.2.2.2.2))))) fun y363 => bif (y363 != 0) then (some (((S_State.mk 0 0 0 (((S_Limb.mk 0 0), (S_Limb.mk 0 0), (S_Limb.mk 0 0), (S_Limb.mk 0 0), (S_Limb.mk 0 0)))), 2))) else (some (((S_State.mk a0.X a0.Y a0.Face ((a0.Limbs.1, a0.Limbs.2.1, (S_Limb.mk a2.Dir a2.Level), a0.Limbs.2.2.2.1, a0.Limbs.2.2.2.2))), 0)))) else bif decide ((wr .i64 (a1.Side + 1)) = 3) then (Option.bind (G16 ((S_State.mk a0.X a0.Y a0.Face ((a0.Limbs.1, a0.Limbs.2.1, a0.Limbs.2.2.1, (S_Limb.mk a2.Dir a2.Level), a0.Limbs.2.2.2.2))))) fun y366 => bif (y366 != 0) then (some (((S_State.mk 0 0 0 (((S_Limb.mk 0 0), (S_Limb.mk 0 0), (S_Limb.mk 0 0), (S_Limb.mk 0 0), (S_Limb.mk 0 0)))), 2))) else (some (((S_State.mk a0.X a0.Y a0.Face ((a0.Limbs.1, a0.Limbs.2.1, a0.Limbs.2.2.1, (S_Limb.mk a2.Dir a2.Level), a0.Limbs.2.2.2.2))), 0)))) else bif decide ((wr .i64 (a1.Side + 1)) = 4) then (Option.bind (G16 ((S_State.mk a0.X a0.Y a0.Face ((a0.Limbs.1, a0.Limbs.2.1, a0.Limbs.2.2.1, a0.Limbs.2.2.2.1, (S_Limb.mk a2.Dir a2.Level)))))) fun y369 => bif (y369 != 0) then (some (((S_State.mk 0 0 0 (((S_Limb.mk 0 0), (S_Limb.mk 0 0), (S_Limb.mk 0 0), (S_Limb.mk 0 0), (S_Limb.mk 0 0)))), 2))) else (some (((S_State.mk a0.X a0.Y a0.Face ((a0.Limbs.1, a0.Limbs.2.1, a0.Limbs.2.2.1, a0.Limbs.2.2.2.1, (S_Limb.mk a2.Dir a2.Level)))), 0)))) else none) else bif decide (y117 = 56) then (Option.bind (G16 ((S_State.mk a0.X a0.Y a0.Face ((a0.Limbs.1, a0.Limbs.2.1, a0.Limbs.2.2.1, a0.Limbs.2.2.2.1, (S_Limb.mk a2.Dir a2.Level)))))) fun y372 => bif (y372 != 0) then (some (((S_State.mk 0 0 0 (((S_Limb.mk 0 0), (S_Limb.mk 0 0), (S_Limb.mk 0 0), (S_Limb.mk 0 0), (S_Limb.mk 0 0)))), 2))) else (some (((S_State.mk a0.X a0.Y a0.Face ((a0.Limbs.1, a0.Limbs.2.1, a0.Limbs.2.2.1, a0.Limbs.2.2.2.1, (S_Limb.mk a2.Dir a2.Level)))), 0)))) else bif decide (y117 = 57) then (Option.bind (G16 ((S_State.mk a0.X a0.Y (Int.tmod (wr .i64 (a0.Face + a1.Size)) 8) a0.Limbs))) fun y375 => bif (y375 != 0) then (some (((S_State.mk 0 0 0 (((S_Limb.mk 0 0), (S_Limb.mk 0 0), (S_Limb.mk 0 0), (S_Limb.mk 0 0), (S_Limb.mk 0 0)))), 2))) else (some (((S_State.mk a0.X a0.Y (Int.tmod (wr .i64 (a0.Face + a1.Size)) 8) a0.Limbs), 0)))) else bif decide (y117 = 58) then (Option.bind (F18_80_0b n ([2, 3]) 2 a0 a1 a2 0 0 0 0 0 0 0 0 0 0 0 0 0 y4.1 y4.2.1 y4.2.2.1 y4.2.2.2.1 y4.2.2.2.2.1 y4.2.2.2.2.2.1 y4.2.2.2.2.2.2.1 y4.2.2.2.2.2.2.2.1 y4.2.2.2.2.2.2.2.2.1 y4.2.2.2.2.2.2.2.2.2.1 y4.2.2.2.2.2.2.2.2.2.2.1 y4.2.2.2.2.2.2.2.2.2.2.2.1 y117 y160 1 3 y4.2.2.2.2.2.2.2.2.1 y4.2.2.2.2.2.2.2.2.2.1 y4.2.2.2.2.2.2.2.2.2.2.1 y4.2.2.2.2.2.2.2.2.2.2.2.1 a1 a2 (n+6) 0 a0) fun o427 => match o427 with | (y428, y429, y430, y431, y432, y433, y434, y435, y436, y437, y438, y439, y440, y441) => Option.bind (G16 ((S_State.mk y429 y430 y431 (((S_Limb.mk y432 y433), (S_Limb.mk y434 y435), (S_Limb.mk y436 y437), (S_Limb.mk y438 y439), (S_Limb.mk y440 y441)))))) fun y446 => bif (y446 != 0) then (some (((S_State.mk 0 0 0 (((S_Limb.mk 0 0), (S_Limb.mk 0 0), (S_Limb.mk 0 0), (S_Limb.mk 0 0), (S_Limb.mk 0 0)))), 2))) else (some (((S_State.mk y429 y430 y431 (((S_Limb.mk y432 y433), (S_Limb.mk y434 y435), (S_Limb.mk y436 y437), (S_Limb.mk y438 y439), (S_Limb.mk y440 y441)))), 0)))) else bif decide (y117 = 59) then (Option.bind (F18_80_0b n ([0, 1]) 2 a0 a1 a2 0 0 0 0 0 0 0 0 0 0 0 0 0 y4.1 y4.2.1 y4.2.2.1 y4.2.2.2.1 y4.2.2.2.2.1 y4.2.2.2.2.2.1 y4.2.2.2.2.2.2.1 y4.2.2.2.2.2.2.2.1 y4.2.2.2.2.2.2.2.2.1 y4.2.2.2.2.2.2.2.2.2.1 y4.2.2.2.2.2.2.2.2.2.2.1 y4.2.2.2.2.2.2.2.2.2.2.2.1 y117 y160 1 3 y4.2.2.2.2.2.2.2.2.1 y4.2.2.2.2.2.2.2.2.2.1 y4.2.2.2.2.2.2.2.2.2.2.1 y4.2.2.2.2.2.2.2.2.2.2.2.1 a1 a2 (n+6) 0 a0) fun o498 => match o498 with | (y499, y500, y501, y502, y503, y504, y505, y506, y507, y508, y509, y510, y511, y512) => Option.bind (G16 ((S_State.mk y500 y501 y502 (((S_Limb.mk y503 y504), (S_Limb.mk y505 y506), (S_Limb.mk y507 y508), (S_Limb.mk y509 y510), (S_Limb.mk y511 y512)))))) fun y517 => bif (y517 != 0) then (some (((S_State.mk 0 0 0 (((S_Limb.mk 0 0), (S_Limb.mk 0 0), (S_Limb.mk 0 0), (S_Limb.mk 0 0), (S_Limb.mk 0 0)))), 2))) else (some (((S_State.mk y500 y501 y502 (((S_Limb.mk y503 y504), (S_Limb.mk y505 y506), (S_Limb.mk y507 y508), (S_Limb.mk y509 y510), (S_Limb.mk y511 y512)))), 0)))) else bif decide (y117 = 60) then (Option.bind (F18_80_0b n ([wr .i64 (a1.Side + 1)]) 1 a0 a1 a2 0 0 0 0 0 0 0 0 0 0 0 0 0 y4.1 y4.2.1 y4.2.2.1 y4.2.2.2.1 y4.2.2.2.2.1 y4.2.2.2.2.2.1 y4.2.2.2.2.2.2.1 y4.2.2.2.2.2.2.2.1 y4.2.2.2.2.2.2.2.2.1 y4.2.2.2.2.2.2.2.2.2.1 y4.2.2.2.2.2.2.2.2.2.2.1 y4.2.2.2.2.2.2.2.2.2.2.2.1 y117 y160 1 3 y4.2.2.2.2.2.2.2.2.1 y4.2.2.2.2.2.2.2.2.2.1 y4.2.2.2.2.2.2.2.2.2.2.1 y4.2.2.2.2.2.2.2.2.2.2.2.1 a1 a2 (n+6) 0 a0) fun o569 => match o569 with | (y570, y571, y572, y573, y574, y575, y576, y577, y578, y579, y580, y581, y582, y583) => Option.bind (G16 ((S_State.mk y571 y572 y573 (((S_Limb.mk y574 y575), (S_Limb.mk y576 y577), (S_Limb.mk y578 y579), (S_Limb.mk y580 y581), (S_Limb.mk y582 y583)))))) fun y588 => bif (y588 != 0) then (some (((S_State.mk 0 0 0 (((S_Limb.mk 0 0), (S_Limb.mk 0 0), (S_Limb.mk 0 0), (S_Limb.mk 0 0), (S_Limb.mk 0 0)))), 2))) else (some (((S_State.mk y571 y572 y573 (((S_Limb.mk y574 y575), (S_Limb.mk y576 y577), (S_Limb.mk y578 y579), (S_Limb.mk y580 y581), (S_Limb.mk y582 y583)))), 0)))) else none)))
theorem T18 (C : Nat → List A → Option A) (n : Nat) (h16 : Orc16 C) (h24 : Orc24 C) (h29 : Orc29 C) (h33 : Orc33 C) (h86 : Orc86 C) (a0 : S_State) (a1 : S_Sign) (a2 : S_Real) : J (fun (o : R) y => ∃ v, o.1 = .ret v ∧ snapE o.2 v = (A.tup [(A.agg [(iA y.1.X), (iA y.1.Y), (iA y.1.Face), (iA y.1.Limbs.1.Dir), (iA y.1.Limbs.1.Level), (iA y.1.Limbs.2.1.Dir), (iA y.1.Limbs.2.1.Level), (iA y.1.Limbs.2.2.1.Dir), (iA y.1.Limbs.2.2.1.Level), (iA y.1.Limbs.2.2.2.1.Dir), (iA y.1.Limbs.2.2.2.1.Level), (iA y.1.Limbs.2.2.2.2.Dir), (iA y.1.Limbs.2.2.2.2.Level)]), (iA y.2)])) (evCall1 (cx C) (evCall (cx C) (n+8)) (evCallY (cx C) (n+8)) (n+8) 18 [(A.agg (c_S_State a0)), (A.agg (c_S_Sign a1)), (A.agg (c_S_Real a2))] [] 0) some (F18 n a0 a1 a2) some := by
  refine .lp (e18 ..) ?_
  unfold F18
  refine .s ((A.ptr 0 0), [Blk.box (c_S_State a0)]) (.s ((A.ptr 1 0), [Blk.box (c_S_State a0), Blk.box (c_S_Sign a1)]) (.s ((A.ptr 2 0), [Blk.box (c_S_State a0), Blk.box (c_S_Sign a1), Blk.box (c_S_Real a2)]) (.s ((A.ptr 3 0), [Blk.box (c_S_State a0), Blk.box (c_S_Sign a1), Blk.box (c_S_Real a2), hk18_2]) (.s (A.agg (c_S_State a0)) ?_))))
  refine .bd (g := fun (y : Int) => (iA y)) (h16 a0) fun y1 => ?_
  refine .st (v := (bA (y1 != 0))) (aBin_neq ..) ?_
  refine .biHN (fun hk2 => ?_) (fun hk2 => ?_)
  · refine .s (A.agg [(iA 0), (iA 0), (iA 0), (iA 0), (iA 0), (iA 0), (iA 0), (iA 0), (iA 0), (iA 0), (iA 0), (iA 0), (iA 0)]) (.s [Blk.box (c_S_State a0), Blk.box (c_S_Sign a1), Blk.box (c_S_Real a2), hk18_2] (.s (A.agg [(iA 0), (iA 0), (iA 0), (iA 0), (iA 0), (iA 0), (iA 0), (iA 0), (iA 0), (iA 0), (iA 0), (iA 0), (iA 0)]) ?_))
    exact .lf rfl rfl ⟨_, rfl, rfl⟩
  refine .s ((A.ptr 4 0), [Blk.box (c_S_State a0), Blk.box (c_S_Sign a1), Blk.box (c_S_Real a2), hk18_2, Blk.box [(iA 0), (iA 0), (iA 0), (iA 0), (iA 0), (iA 0), (iA 0), (iA 0), (iA 0), (iA 0), (iA 0), (iA 0), (A.v Value.nilFunc)]]) (.s ((A.ptr 5 0), [Blk.box (c_S_State a0), Blk.box (c_S_Sign a1), Blk.box (c_S_Real a2), hk18_2, Blk.box [(iA 0), (iA 0), (iA 0), (iA 0), (iA 0), (iA 0), (iA 0), (iA 0), (iA 0), (iA 0), (iA 0), (iA 0), (A.v Value.nilFunc)], Blk.box [(bA false)]]) ?_)
  refine .bd (g := fun (y : Unit) => (A.mv .i64 [1, 2, 3, 4, 5, 6, 7, 8, 9] [(A.agg [(iA 1), (iA 2), (iA 1), (iA 8), (iA 0), (iA 0), (iA 1), (iA 16), (iA 0), (iA 0), (iA 0), (iA 0), (A.fn (Fn.func 52) [] [])]), (A.agg [(iA 0), (iA 0), (iA 1), (iA 8), (iA 0), (iA 0), (iA 1), (iA 16), (iA 0), (iA 0), (iA 0), (iA 0), (A.fn (Fn.func 53) [] [])]), (A.agg [(iA 1), (iA 2), (iA 0), (iA 8), (iA 1), (iA 3), (iA 0), (iA 0), (iA 0), (iA 8), (iA 1), (iA 3), (A.fn (Fn.func 54) [] [])]), (A.agg [(iA 1), (iA 2), (iA 0), (iA 8), (iA 1), (iA 3), (iA 0), (iA 0), (iA 0), (iA 8), (iA 1), (iA 3), (A.fn (Fn.func 55) [] [])]), (A.agg [(iA 0), (iA 0), (iA 0), (iA 8), (iA 1), (iA 3), (iA 0), (iA 0), (iA 0), (iA 8), (iA 1), (iA 3), (A.fn (Fn.func 56) [] [])]), (A.agg [(iA 0), (iA 0), (iA 0), (iA 0), (iA 0), (iA 0), (iA 1), (iA 7), (iA 0), (iA 0), (iA 0), (iA 0), (A.fn (Fn.func 57) [] [])]), (A.agg [(iA 0), (iA 0), (iA 0), (iA 0), (iA 0), (iA 0), (iA 0), (iA 0), (iA 0), (iA 0), (iA 0), (iA 0), (A.fn (Fn.func 58) [] [])]), (A.agg [(iA 0), (iA 0), (iA 0), (iA 0), (iA 0), (iA 0), (iA 0), (iA 0), (iA 0), (iA 0), (iA 0), (iA 0), (A.fn (Fn.func 59) [] [])]), (A.agg [(iA 1), (iA 2), (iA 0), (iA 0), (iA 1), (iA 3), (iA 0), (iA 0), (iA 0), (iA 0), (iA 1), (iA 3), (A.fn (Fn.func 60) [] [])])])) (h33 ()) fun y3 => ?_
  refine .s (A.ptr 1 4) (.s (iA a1.Kind) ?_)
  refine .bg (fun t (y : Int × Int × Int × Int × Int × Int × Int × Int × Int × Int × Int × Int × Nat × Bool) => t = (A.tup [(A.agg [(iA y.1), (iA y.2.1), (iA y.2.2.1), (iA y.2.2.2.1), (iA y.2.2.2.2.1), (iA y.2.2.2.2.2.1), (iA y.2.2.2.2.2.2.1), (iA y.2.2.2.2.2.2.2.1), (iA y.2.2.2.2.2.2.2.2.1), (iA y.2.2.2.2.2.2.2.2.2.1), (iA y.2.2.2.2.2.2.2.2.2.2.1), (iA y.2.2.2.2.2.2.2.2.2.2.2.1), (selF y.2.2.2.2.2.2.2.2.2.2.2.2.1)]), (bA y.2.2.2.2.2.2.2.2.2.2.2.2.2)])) ?_ ?_
  · refine .sp (fun hb5 => ?_) (fun hn6 => ?_)
    · exact .lp (by rw [of_decide_eq_true hb5]; kernel_rfl : _ = some (A.tup [(A.agg [(iA 1), (iA 2), (iA 1), (iA 8), (iA 0), (iA 0), (iA 1), (iA 16), (iA 0), (iA 0), (iA 0), (iA 0), (A.fn (Fn.func 52) [] [])]), (bA true)])) (.lg rfl)
    refine .sp (fun hb7 => ?_) (fun hn8 => ?_)
    · exact .lp (by rw [of_decide_eq_true hb7]; kernel_rfl : _ = some (A.tup [(A.agg [(iA 0), (iA 0), (iA 1), (iA 8), (iA 0), (iA 0), (iA 1), (iA 16), (iA 0), (iA 0), (iA 0), (iA 0), (A.fn (Fn.func 53) [] [])]), (bA true)])) (.lg rfl)
    refine .sp (fun hb9 => ?_) (fun hn10 => ?_)
    · exact .lp (by rw [of_decide_eq_true hb9]; kernel_rfl : _ = some (A.tup [(A.agg [(iA 1), (iA 2), (iA 0), (iA 8), (iA 1), (iA 3), (iA 0), (iA 0), (iA 0), (iA 8), (iA 1), (iA 3), (A.fn (Fn.func 54) [] [])]), (bA true)])) (.lg rfl)
    refine .sp (fun hb11 => ?_) (fun hn12 => ?_)
    · exact .lp (by rw [of_decide_eq_true hb11]; kernel_rfl : _ = some (A.tup [(A.agg [(iA 1), (iA 2), (iA 0), (iA 8), (iA 1), (iA 3), (iA 0), (iA 0), (iA 0), (iA 8), (iA 1), (iA 3), (A.fn (Fn.func 55) [] [])]), (bA true)])) (.lg rfl)
    refine .sp (fun hb13 => ?_) (fun hn14 => ?_)
    · exact .lp (by rw [of_decide_eq_true hb13]; kernel_rfl : _ = some (A.tup [(A.agg [(iA 0), (iA 0), (iA 0), (iA 8), (iA 1), (iA 3), (iA 0), (iA 0), (iA 0), (iA 8), (iA 1), (iA 3), (A.fn (Fn.func 56) [] [])]), (bA true)])) (.lg rfl)
    refine .sp (fun hb15 => ?_) (fun hn16 => ?_)
    · exact .lp (by rw [of_decide_eq_true hb15]; kernel_rfl : _ = some (A.tup [(A.agg [(iA 0), (iA 0), (iA 0), (iA 0), (iA 0), (iA 0), (iA 1), (iA 7), (iA 0), (iA 0), (iA 0), (iA 0), (A.fn (Fn.func 57) [] [])]), (bA true)])) (.lg rfl)
    refine .sp (fun hb17 => ?_) (fun hn18 => ?_)
    · exact .lp (by rw [of_decide_eq_true hb17]; kernel_rfl : _ = some (A.tup [(A.agg [(iA 0), (iA 0), (iA 0), (iA 0), (iA 0), (iA 0), (iA 0), (iA 0), (iA 0), (iA 0), (iA 0), (iA 0), (A.fn (Fn.func 58) [] [])]), (bA true)])) (.lg rfl)
    refine .sp (fun hb19 => ?_) (fun hn20 => ?_)
    · exact .lp (by rw [of_decide_eq_true hb19]; kernel_rfl : _ = some (A.tup [(A.agg [(iA 0), (iA 0), (iA 0), (iA 0), (iA 0), (iA 0), (iA 0), (iA 0), (iA 0), (iA 0), (iA 0), (iA 0), (A.fn (Fn.func 59) [] [])]), (bA true)])) (.lg rfl)
    refine .sp (fun hb21 => ?_) (fun hn22 => ?_)
    · exact .lp (by rw [of_decide_eq_true hb21]; kernel_rfl : _ = some (A.tup [(A.agg [(iA 1), (iA 2), (iA 0), (iA 0), (iA 1), (iA 3), (iA 0), (iA 0), (iA 0), (iA 0), (iA 1), (iA 3), (A.fn (Fn.func 60) [] [])]), (bA true)])) (.lg rfl)
    exact .lp ((lookup_mv (assocM_skip hn6 (assocM_skip hn8 (assocM_skip hn10 (assocM_skip hn12 (assocM_skip hn14 (assocM_skip hn16 (assocM_skip hn18 (assocM_skip hn20 (assocM_skip hn22 assocM_end))))))))) (by kernel_rfl)) : _ = some (A.tup [(A.agg [(iA 0), (iA 0), (iA 0), (iA 0), (iA 0), (iA 0), (iA 0), (iA 0), (iA 0), (iA 0), (iA 0), (iA 0), (A.v Value.nilFunc)]), (bA false)])) (.lg rfl)
  rintro _ y4 rfl
  refine .s (A.agg [(iA y4.1), (iA y4.2.1), (iA y4.2.2.1), (iA y4.2.2.2.1), (iA y4.2.2.2.2.1), (iA y4.2.2.2.2.2.1), (iA y4.2.2.2.2.2.2.1), (iA y4.2.2.2.2.2.2.2.1), (iA y4.2.2.2.2.2.2.2.2.1), (iA y4.2.2.2.2.2.2.2.2.2.1), (iA y4.2.2.2.2.2.2.2.2.2.2.1), (iA y4.2.2.2.2.2.2.2.2.2.2.2.1), (selF y4.2.2.2.2.2.2.2.2.2.2.2.2.1)]) (.s (bA y4.2.2.2.2.2.2.2.2.2.2.2.2.2) ?_)
  refine .st (v := [Blk.box (c_S_State a0), Blk.box (c_S_Sign a1), Blk.box (c_S_Real a2), hk18_2, (hk18_1 y4 (selF y4.2.2.2.2.2.2.2.2.2.2.2.2.1)), Blk.box [(bA false)]]) (by unfold selF; cases Nat.beq y4.2.2.2.2.2.2.2.2.2.2.2.2.1 0 <;> kernel_rfl) ?_
  refine .s [Blk.box (c_S_State a0), Blk.box (c_S_Sign a1), Blk.box (c_S_Real a2), hk18_2, (hk18_1 y4 (selF y4.2.2.2.2.2.2.2.2.2.2.2.2.1)), Blk.box [(bA y4.2.2.2.2.2.2.2.2.2.2.2.2.2)]] (.s (A.ptr 1 3) (.s (iA a1.Mark) (.s (A.agg [(iA 1), (iA 3)]) ?_)))
  refine .cl ((evCall_in lt_34).trans (e34 C (evCall (cx C) (n+7)) (evCallY (cx C) (n+7)) (n+7) _ _ _ _ _)) ?_
  refine .s ((A.ptr 6 0), [Blk.box (c_S_State a0), Blk.box (c_S_Sign a1), Blk.box (c_S_Real a2), hk18_2, (hk18_1 y4 (selF y4.2.2.2.2.2.2.2.2.2.2.2.2.1)), Blk.box [(bA y4.2.2.2.2.2.2.2.2.2.2.2.2.2)], Blk.box [(iA 1), (iA 3)]]) (.s (bA y4.2.2.2.2.2.2.2.2.2.2.2.2.2) ?_)
  refine .bg (fun t (y : Bool) => ∃ j26 j27 j28 j29 j30 j31 : A, t = [(bA y), j26, j27, j28, j29, j30, j31]) ?_ ?_
  · refine .biH (fun hk23 => ?_) (fun hk23 => ?_)
    · refine .s (A.ptr 6 0) (.s (iA 1) (.s (A.ptr 6 1) (.s (iA 3) ?_)))
      refine .bd (g := fun (y : Bool) => (bA y)) (h29 a1.Mark 1 3) fun y24 => ?_
      exact .lg ⟨_, _, _, _, _, _, rfl⟩
    exact .lg ⟨_, _, _, _, _, _, rfl⟩
  rintro _ y25 ⟨j26, j27, j28, j29, j30, j31, rfl⟩
  iterate 7 refine .uc ?_
  refine .s [Blk.box (c_S_State a0), Blk.box (c_S_Sign a1), Blk.box (c_S_Real a2), hk18_2, (hk18_1 y4 (selF y4.2.2.2.2.2.2.2.2.2.2.2.2.1)), Blk.box [(bA y25)], Blk.box [(iA 1), (iA 3)]] ?_
  refine .cr ?_
  refine .ok ?_
  refine .s (A.ptr 1 5) (.s (iA a1.Side) (.s (A.ptr 1 6) (.s (iA a1.Dir) (.s (A.ptr 1 7) (.s (iA a1.Level) (.s (A.ptr 1 8) (.s (iA a1.Size) (.s (A.agg [(iA a1.Side), (iA a1.Dir), (iA a1.Level), (iA a1.Size)]) ?_))))))))
  refine .as (T18_18_0 C n h16 h24 h29 h33 h86 y1 a1.Side a1.Dir a1.Level a1.Size a0 a1 a2 0 0 0 0 0 0 0 0 0 0 0 0 0 y4.1 y4.2.1 y4.2.2.1 y4.2.2.2.1 y4.2.2.2.2.1 y4.2.2.2.2.2.1 y4.2.2.2.2.2.2.1 y4.2.2.2.2.2.2.2.1 y4.2.2.2.2.2.2.2.2.1 y4.2.2.2.2.2.2.2.2.2.1 y4.2.2.2.2.2.2.2.2.2.2.1 y4.2.2.2.2.2.2.2.2.2.2.2.1 y4.2.2.2.2.2.2.2.2.2.2.2.2.1 1 3 _ _ _ _ ?_ _ 0 y25)
  · intro y117 y118 j119 j120 j121
    refine .un rfl ?_
    refine .cT (by kernel_rfl) ?_
    refine .s (A.ptr 2 3) (.s (bA a2.Drop) ?_)
    refine .biHN (fun hk122 => ?_) (fun hk122 => ?_)
    · refine .s (A.agg [(iA 0), (iA 0), (iA 0), (iA 0)]) (.s (A.ptr 4 8) (.s [Blk.box (c_S_State a0), Blk.box (c_S_Sign a1), Blk.box (c_S_Real a2), hk18_2, (hk18_21 y4 (selF y117)), Blk.box [(bA y118)], Blk.box [(iA 1), (iA 3)]] (.s (A.ptr 2 1) (.s (iA a2.Dir) (.s (A.ptr 4 8) (.s (A.ptr 4 8) (.s (A.agg [(iA 0), (iA 0)]) ?_)))))))
      refine .dC (by kernel_rfl) (by kernel_rfl) ?_
      refine .cl ((evCall_in lt_34).trans (e34 C (evCall (cx C) (n+7)) (evCallY (cx C) (n+7)) (n+7) _ _ _ _ _)) ?_
      refine .s ((A.ptr 7 0), [Blk.box (c_S_State a0), Blk.box (c_S_Sign a1), Blk.box (c_S_Real a2), hk18_2, (hk18_21 y4 (selF y117)), Blk.box [(bA y118)], Blk.box [(iA 1), (iA 3)], Blk.box [(iA 0), (iA 0)]]) (.s (bA y118) ?_)
      refine .bg (fun t (y : Bool) => ∃ j126 j127 j128 j129 j130 j131 : A, t = [(bA y), j126, j127, j128, j129, j130, j131]) ?_ ?_
      · refine .biH (fun hk123 => ?_) (fun hk123 => ?_)
        · refine .s (A.ptr 7 0) (.s (iA 0) (.s (A.ptr 7 1) (.s (iA 0) ?_)))
          refine .bd (g := fun (y : Bool) => (bA y)) (h29 a2.Dir 0 0) fun y124 => ?_
          exact .lg ⟨_, _, _, _, _, _, rfl⟩
        exact .lg ⟨_, _, _, _, _, _, rfl⟩
      rintro _ y125 ⟨j126, j127, j128, j129, j130, j131, rfl⟩
      iterate 7 refine .uc ?_
      refine .s [Blk.box (c_S_State a0), Blk.box (c_S_Sign a1), Blk.box (c_S_Real a2), hk18_2, (hk18_21 y4 (selF y117)), Blk.box [(bA y125)], Blk.box [(iA 1), (iA 3)], Blk.box [(iA 0), (iA 0)]] ?_
      refine .cr ?_
      refine .ok ?_
      refine .s (A.ptr 2 2) (.s (iA a2.Level) (.s (A.ptr 4 8) (.s (A.ptr 4 10) (.s (A.agg [(iA 0), (iA 0)]) ?_))))
      refine .dC (by kernel_rfl) (by kernel_rfl) ?_
      refine .cl ((evCall_in lt_34).trans (e34 C (evCall (cx C) (n+7)) (evCallY (cx C) (n+7)) (n+7) _ _ _ _ _)) ?_
      refine .s ((A.ptr 8 0), [Blk.box (c_S_State a0), Blk.box (c_S_Sign a1), Blk.box (c_S_Real a2), hk18_2, (hk18_21 y4 (selF y117)), Blk.box [(bA y125)], Blk.box [(iA 1), (iA 3)], Blk.box [(iA 0), (iA 0)], Blk.box [(iA 0), (iA 0)]]) (.s (bA y125) ?_)
      refine .bg (fun t (y : Bool) => ∃ j135 j136 j137 j138 j139 j140 : A, t = [(bA y), j135, j136, j137, j138, j139, j140]) ?_ ?_
      · refine .biH (fun hk132 => ?_) (fun hk132 => ?_)
        · refine .s (A.ptr 8 0) (.s (iA 0) (.s (A.ptr 8 1) (.s (iA 0) ?_)))
          refine .bd (g := fun (y : Bool) => (bA y)) (h29 a2.Level 0 0) fun y133 => ?_
          exact .lg ⟨_, _, _, _, _, _, rfl⟩
        exact .lg ⟨_, _, _, _, _, _, rfl⟩
      rintro _ y134 ⟨j135, j136, j137, j138, j139, j140, rfl⟩
      iterate 7 refine .uc ?_
      refine .s [Blk.box (c_S_State a0), Blk.box (c_S_Sign a1), Blk.box (c_S_Real a2), hk18_2, (hk18_21 y4 (selF y117)), Blk.box [(bA y134)], Blk.box [(iA 1), (iA 3)], Blk.box [(iA 0), (iA 0)], Blk.box [(iA 0), (iA 0)]] ?_
      refine .cr ?_
      refine .ok ?_
      refine .s (bA y134) (.s (bA (!y134)) ?_)
      refine .bg (fun t (y : Bool) => ∃ j143 j144 j145 j146 j147 : A, t = [(bA y), j143, j144, j145, j146, j147]) ?_ ?_
      · refine .biH (fun hk141 => ?_) (fun hk141 => ?_)
        · exact .lg ⟨_, _, _, _, _, rfl⟩
        refine .s (A.ptr 2 0) (.s (iA a2.Sign) (.s (A.ptr 1 0) (.s (iA a1.ID) ?_)))
        refine .st (v := (bA (a2.Sign != a1.ID))) (aBin_neq ..) ?_
        exact .lg ⟨_, _, _, _, _, rfl⟩
      rintro _ y142 ⟨j143, j144, j145, j146, j147, rfl⟩
      iterate 6 refine .uc ?_
      refine .biHN (fun hk148 => ?_) (fun hk148 => ?_)
      · refine .s (A.agg [(iA 0), (iA 0), (iA 0), (iA 0), (iA 0), (iA 0), (iA 0), (iA 0), (iA 0), (iA 0), (iA 0), (iA 0), (iA 0)]) (.s [Blk.box (c_S_State a0), Blk.box (c_S_Sign a1), Blk.box (c_S_Real a2), hk18_2, (hk18_21 y4 (selF y117)), Blk.box [(bA y134)], Blk.box [(iA 1), (iA 3)], Blk.box [(iA 0), (iA 0)], Blk.box [(iA 0), (iA 0)]] (.s (A.agg [(iA 0), (iA 0), (iA 0), (iA 0), (iA 0), (iA 0), (iA 0), (iA 0), (iA 0), (iA 0), (iA 0), (iA 0), (iA 0)]) ?_))
        exact .lf rfl rfl ⟨_, rfl, rfl⟩
      refine .s (A.ptr 2 3) (.s (bA a2.Drop) ?_)
      refine .bKTN hk122 ?_
      refine .s (A.agg (c_S_State a0)) (.s [Blk.box (c_S_State a0), Blk.box (c_S_Sign a1), Blk.box (c_S_Real a2), Blk.box (c_S_State a0), (hk18_21 y4 (selF y117)), Blk.box [(bA y134)], Blk.box [(iA 1), (iA 3)], Blk.box [(iA 0), (iA 0)], Blk.box [(iA 0), (iA 0)]] (.s (A.agg (c_S_State a0)) ?_))
      exact .lf rfl rfl ⟨_, rfl, rfl⟩
    refine .s (A.ptr 2 1) (.s (iA a2.Dir) (.s (A.ptr 4 8) (.s (A.ptr 4 8) (.s (A.agg [(iA y4.2.2.2.2.2.2.2.2.1), (iA y4.2.2.2.2.2.2.2.2.2.1)]) ?_))))
    refine .dC (by kernel_rfl) (by kernel_rfl) ?_
    refine .cl ((evCall_in lt_34).trans (e34 C (evCall (cx C) (n+7)) (evCallY (cx C) (n+7)) (n+7) _ _ _ _ _)) ?_
    refine .s ((A.ptr 7 0), [Blk.box (c_S_State a0), Blk.box (c_S_Sign a1), Blk.box (c_S_Real a2), hk18_2, (hk18_1 y4 (selF y117)), Blk.box [(bA y118)], Blk.box [(iA 1), (iA 3)], Blk.box [(iA y4.2.2.2.2.2.2.2.2.1), (iA y4.2.2.2.2.2.2.2.2.2.1)]]) (.s (bA y118) ?_)
    refine .bg (fun t (y : Bool) => ∃ j152 j153 j154 j155 j156 j157 : A, t = [(bA y), j152, j153, j154, j155, j156, j157]) ?_ ?_
    · refine .biH (fun hk149 => ?_) (fun hk149 => ?_)
      · refine .s (A.ptr 7 0) (.s (iA y4.2.2.2.2.2.2.2.2.1) (.s (A.ptr 7 1) (.s (iA y4.2.2.2.2.2.2.2.2.2.1) ?_)))
        refine .bd (g := fun (y : Bool) => (bA y)) (h29 a2.Dir y4.2.2.2.2.2.2.2.2.1 y4.2.2.2.2.2.2.2.2.2.1) fun y150 => ?_
        exact .lg ⟨_, _, _, _, _, _, rfl⟩
      exact .lg ⟨_, _, _, _, _, _, rfl⟩
    rintro _ y151 ⟨j152, j153, j154, j155, j156, j157, rfl⟩
    iterate 7 refine .uc ?_
    refine .s [Blk.box (c_S_State a0), Blk.box (c_S_Sign a1), Blk.box (c_S_Real a2), hk18_2, (hk18_1 y4 (selF y117)), Blk.box [(bA y151)], Blk.box [(iA 1), (iA 3)], Blk.box [(iA y4.2.2.2.2.2.2.2.2.1), (iA y4.2.2.2.2.2.2.2.2.2.1)]] ?_
    refine .cr ?_
    refine .ok ?_
    refine .s (A.ptr 2 2) (.s (iA a2.Level) (.s (A.ptr 4 8) (.s (A.ptr 4 10) (.s (A.agg [(iA y4.2.2.2.2.2.2.2.2.2.2.1), (iA y4.2.2.2.2.2.2.2.2.2.2.2.1)]) ?_))))
    refine .dC (by kernel_rfl) (by kernel_rfl) ?_
    refine .cl ((evCall_in lt_34).trans (e34 C (evCall (cx C) (n+7)) (evCallY (cx C) (n+7)) (n+7) _ _ _ _ _)) ?_
    refine .s ((A.ptr 8 0), [Blk.box (c_S_State a0), Blk.box (c_S_Sign a1), Blk.box (c_S_Real a2), hk18_2, (hk18_1 y4 (selF y117)), Blk.box [(bA y151)], Blk.box [(iA 1), (iA 3)], Blk.box [(iA y4.2.2.2.2.2.2.2.2.1), (iA y4.2.2.2.2.2.2.2.2.2.1)], (hk18_3 y4)]) (.s (bA y151) ?_)
    refine .bg (fun t (y : Bool) => ∃ j161 j162 j163 j164 j165 j166 : A, t = [(bA y), j161, j162, j163, j164, j165, j166]) ?_ ?_
    · refine .biH (fun hk158 => ?_) (fun hk158 => ?_)
      · refine .s (A.ptr 8 0) (.s (iA y4.2.2.2.2.2.2.2.2.2.2.1) (.s (A.ptr 8 1) (.s (iA y4.2.2.2.2.2.2.2.2.2.2.2.1) ?_)))
        refine .bd (g := fun (y : Bool) => (bA y)) (h29 a2.Level y4.2.2.2.2.2.2.2.2.2.2.1 y4.2.2.2.2.2.2.2.2.2.2.2.1) fun y159 => ?_
        exact .lg ⟨_, _, _, _, _, _, rfl⟩
      exact .lg ⟨_, _, _, _, _, _, rfl⟩
    rintro _ y160 ⟨j161, j162, j163, j164, j165, j166, rfl⟩
    iterate 7 refine .uc ?_
    refine .s [Blk.box (c_S_State a0), Blk.box (c_S_Sign a1), Blk.box (c_S_Real a2), hk18_2, (hk18_1 y4 (selF y117)), Blk.box [(bA y160)], Blk.box [(iA 1), (iA 3)], Blk.box [(iA y4.2.2.2.2.2.2.2.2.1), (iA y4.2.2.2.2.2.2.2.2.2.1)], (hk18_3 y4)] ?_
    refine .cr ?_
    refine .ok ?_
    refine .s (bA y160) (.s (bA (!y160)) ?_)
    refine .bg (fun t (y : Bool) => ∃ j169 j170 j171 j172 j173 : A, t = [(bA y), j169, j170, j171, j172, j173]) ?_ ?_
    · refine .biH (fun hk167 => ?_) (fun hk167 => ?_)
      · exact .lg ⟨_, _, _, _, _, rfl⟩
      refine .s (A.ptr 2 0) (.s (iA a2.Sign) (.s (A.ptr 1 0) (.s (iA a1.ID) ?_)))
      refine .st (v := (bA (a2.Sign != a1.ID))) (aBin_neq ..) ?_
      exact .lg ⟨_, _, _, _, _, rfl⟩
    rintro _ y168 ⟨j169, j170, j171, j172, j173, rfl⟩
    iterate 6 refine .uc ?_
    refine .biHN (fun hk174 => ?_) (fun hk174 => ?_)
    · refine .s (A.agg [(iA 0), (iA 0), (iA 0), (iA 0), (iA 0), (iA 0), (iA 0), (iA 0), (iA 0), (iA 0), (iA 0), (iA 0), (iA 0)]) (.s [Blk.box (c_S_State a0), Blk.box (c_S_Sign a1), Blk.box (c_S_Real a2), hk18_2, (hk18_1 y4 (selF y117)), Blk.box [(bA y160)], Blk.box [(iA 1), (iA 3)], Blk.box [(iA y4.2.2.2.2.2.2.2.2.1), (iA y4.2.2.2.2.2.2.2.2.2.1)], (hk18_3 y4)] (.s (A.agg [(iA 0), (iA 0), (iA 0), (iA 0), (iA 0), (iA 0), (iA 0), (iA 0), (iA 0), (iA 0), (iA 0), (iA 0), (iA 0)]) ?_))
      exact .lf rfl rfl ⟨_, rfl, rfl⟩
    refine .s (A.ptr 2 3) (.s (bA a2.Drop) ?_)
    refine .bKFN hk122 ?_
    refine .s (A.agg (c_S_State a0)) (.s (A.agg (c_S_Sign a1)) (.s (A.agg (c_S_Real a2)) (.s (A.agg (c_S_State a0 ++ c_S_Sign a1 ++ c_S_Real a2)) (.s ((A.ptr 9 0), [Blk.box (c_S_State a0), Blk.box (c_S_Sign a1), Blk.box (c_S_Real a2), hk18_2, (hk18_1 y4 (selF y117)), Blk.box [(bA y160)], Blk.box [(iA 1), (iA 3)], Blk.box [(iA y4.2.2.2.2.2.2.2.2.1), (iA y4.2.2.2.2.2.2.2.2.2.1)], (hk18_3 y4), Blk.box [(iA 0), (iA 0), (iA 0), (iA 0), (iA 0), (iA 0), (iA 0), (iA 0), (iA 0), (iA 0), (iA 0), (iA 0), (iA 0), (iA 0), (iA 0), (iA 0), (iA 0), (iA 0), (iA 0), (iA 0), (iA 0), (iA 0), (iA 0), (iA 0), (iA 0), (iA 0), (iA 0), (iA 0), (iA 0), (iA 0), (bA false)]]) (.s [Blk.box (c_S_State a0), Blk.box (c_S_Sign a1), Blk.box (c_S_Real a2), hk18_2, (hk18_1 y4 (selF y117)), Blk.box [(bA y160)], Blk.box [(iA 1), (iA 3)], Blk.box [(iA y4.2.2.2.2.2.2.2.2.1), (iA y4.2.2.2.2.2.2.2.2.2.1)], (hk18_3 y4), Blk.box (c_S_State a0 ++ c_S_Sign a1 ++ c_S_Real a2)] (.s (A.ptr 4 12) (.s (selF y117) ?_)))))))
    refine .sp (fun hb175 => ?_) (fun _ => ?_)
    · refine .ds 52 hb175 (by kernel_rfl) ?_
      refine .dC (by kernel_rfl) (by kernel_rfl) ?_
      refine .cl ((evCall_in lt_52).trans (e52 C (evCall (cx C) (n+7)) (evCallY (cx C) (n+7)) (n+7) _ _ _)) ?_
      refine .cl ((evCall_in lt_79).trans (e79 C (evCall (cx C) (n+6)) (evCallY (cx C) (n+6)) (n+6) _ _ _)) ?_
      refine .s (A.ptr 9 0) (.s (A.ptr 9 13) (.s (A.ptr 9 19) (.s (iA a1.Dir) (.s (A.ptr 9 0) (.s (A.ptr 9 0) (.s (A.ptr 9 2) (.s (iA a0.Face) ?_)))))))
      refine .bd (g := fun (y : (Int × Int)) => (A.tup [(iA y.1), (iA y.2)])) (h24 a1.Dir a0.Face) fun y176 => ?_
      refine .s (iA y176.1) (.s (iA y176.2) ?_)
      refine .bd (g := fun (y : (Int × Int × Int)) => (A.tup [(iA y.1), (iA y.2.1), (iA y.2.2)])) (h86 y176.1) fun y177 => ?_
      refine .s (iA y177.1) (.s (iA y177.2.1) (.s (iA y177.2.2) (.s (A.ptr 9 0) (.s (A.ptr 9 0) (.s (A.ptr 9 0) (.s (iA a0.X) (.s (A.ptr 9 0) (.s (A.ptr 9 13) (.s (A.ptr 9 21) (.s (iA a1.Size) ?_))))))))))
      refine .st (v := (iA (wr .i64 (a1.Size * y177.1)))) (aBin_mul ..) ?_
      refine .st (v := (iA (wr .i64 (a0.X + (wr .i64 (a1.Size * y177.1)))))) (aBin_add ..) ?_
      refine .s (A.ptr 9 0) (.s (A.ptr 9 0) (.s (A.ptr 9 0) (.s [Blk.box (c_S_State a0), Blk.box (c_S_Sign a1), Blk.box (c_S_Real a2), hk18_2, (hk18_1 y4 (selF y117)), Blk.box [(bA y160)], Blk.box [(iA 1), (iA 3)], Blk.box [(iA y4.2.2.2.2.2.2.2.2.1), (iA y4.2.2.2.2.2.2.2.2.2.1)], (hk18_3 y4), Blk.box ([(iA (wr .i64 (a0.X + (wr .i64 (a1.Size * y177.1))))), (iA a0.Y), (iA a0.Face), (iA a0.Limbs.1.Dir), (iA a0.Limbs.1.Level), (iA a0.Limbs.2.1.Dir), (iA a0.Limbs.2.1.Level), (iA a0.Limbs.2.2.1.Dir), (iA a0.Limbs.2.2.1.Level), (iA a0.Limbs.2.2.2.1.Dir), (iA a0.Limbs.2.2.2.1.Level), (iA a0.Limbs.2.2.2.2.Dir), (iA a0.Limbs.2.2.2.2.Level)] ++ c_S_Sign a1 ++ c_S_Real a2)] (.s (A.ptr 9 0) (.s (A.ptr 9 0) (.s (A.ptr 9 1) (.s (iA a0.Y) (.s (A.ptr 9 0) (.s (A.ptr 9 13) (.s (A.ptr 9 21) (.s (iA a1.Size) ?_)))))))))))
      refine .st (v := (iA (wr .i64 (a1.Size * y177.2.1)))) (aBin_mul ..) ?_
      refine .st (v := (iA (wr .i64 (a0.Y + (wr .i64 (a1.Size * y177.2.1)))))) (aBin_add ..) ?_
      refine .s (A.ptr 9 0) (.s (A.ptr 9 0) (.s (A.ptr 9 1) (.s [Blk.box (c_S_State a0), Blk.box (c_S_Sign a1), Blk.box (c_S_Real a2), hk18_2, (hk18_1 y4 (selF y117)), Blk.box [(bA y160)], Blk.box [(iA 1), (iA 3)], Blk.box [(iA y4.2.2.2.2.2.2.2.2.1), (iA y4.2.2.2.2.2.2.2.2.2.1)], (hk18_3 y4), Blk.box ([(iA (wr .i64 (a0.X + (wr .i64 (a1.Size * y177.1))))), (iA (wr .i64 (a0.Y + (wr .i64 (a1.Size * y177.2.1))))), (iA a0.Face), (iA a0.Limbs.1.Dir), (iA a0.Limbs.1.Level), (iA a0.Limbs.2.1.Dir), (iA a0.Limbs.2.1.Level), (iA a0.Limbs.2.2.1.Dir), (iA a0.Limbs.2.2.1.Level), (iA a0.Limbs.2.2.2.1.Dir), (iA a0.Limbs.2.2.2.1.Level), (iA a0.Limbs.2.2.2.2.Dir), (iA a0.Limbs.2.2.2.2.Level)] ++ c_S_Sign a1 ++ c_S_Real a2)] ?_)))
      refine .cr ?_
      refine .ok ?_
      refine .s (A.ptr 9 0) (.s (A.ptr 9 13) (.s (A.ptr 9 18) (.s (iA a1.Side) ?_)))
      refine .st (v := (iA (wr .i64 (a1.Side - 1)))) (aBin_sub ..) ?_
      refine .s (A.imm [[(iA (wr .i64 (a1.Side - 1)))]] true) ?_
      refine .cl ((evCall_in lt_80).trans (e80 C (evCall (cx C) (n+6)) (evCallY (cx C) (n+6)) (n+6) _ _ _ _)) ?_
      refine .s (iA 1) ?_
      refine .as (T18_80_0 C n h16 h24 h29 h33 h86 ([wr .i64 (a1.Side - 1)]) 1 a0 a1 a2 0 0 0 0 0 0 0 0 0 0 0 0 0 y4.1 y4.2.1 y4.2.2.1 y4.2.2.2.1 y4.2.2.2.2.1 y4.2.2.2.2.2.1 y4.2.2.2.2.2.2.1 y4.2.2.2.2.2.2.2.1 y4.2.2.2.2.2.2.2.2.1 y4.2.2.2.2.2.2.2.2.2.1 y4.2.2.2.2.2.2.2.2.2.2.1 y4.2.2.2.2.2.2.2.2.2.2.2.1 y117 y160 1 3 y4.2.2.2.2.2.2.2.2.1 y4.2.2.2.2.2.2.2.2.2.1 y4.2.2.2.2.2.2.2.2.2.2.1 y4.2.2.2.2.2.2.2.2.2.2.2.1 (wr .i64 (a0.X + (wr .i64 (a1.Size * y177.1)))) (wr .i64 (a0.Y + (wr .i64 (a1.Size * y177.2.1)))) a0.Face a1 a2 _ _ _ _ ?_ _ 0 a0.Limbs.1.Dir a0.Limbs.1.Level a0.Limbs.2.1.Dir a0.Limbs.2.1.Level a0.Limbs.2.2.1.Dir a0.Limbs.2.2.1.Level a0.Limbs.2.2.2.1.Dir a0.Limbs.2.2.2.1.Level a0.Limbs.2.2.2.2.Dir a0.Limbs.2.2.2.2.Level)
      · intro y240 y241 y242 y243 y244 y245 y246 y247 y248 y249 y250 j251 j252 j253 j254
        refine .un rfl ?_
        refine .cT (by kernel_rfl) ?_
        refine .cr ?_
        refine .ok ?_
        refine .cr ?_
        refine .ok ?_
        refine .s (A.ptr 9 0) (.s (A.agg [(iA (wr .i64 (a0.X + (wr .i64 (a1.Size * y177.1))))), (iA (wr .i64 (a0.Y + (wr .i64 (a1.Size * y177.2.1))))), (iA a0.Face), (iA y241), (iA y242), (iA y243), (iA y244), (iA y245), (iA y246), (iA y247), (iA y248), (iA y249), (iA y250)]) ?_)
        refine .bd (g := fun (y : Int) => (iA y)) (h16 ((S_State.mk (wr .i64 (a0.X + (wr .i64 (a1.Size * y177.1)))) (wr .i64 (a0.Y + (wr .i64 (a1.Size * y177.2.1)))) a0.Face (((S_Limb.mk y241 y242), (S_Limb.mk y243 y244), (S_Limb.mk y245 y246), (S_Limb.mk y247 y248), (S_Limb.mk y249 y250)))))) fun y255 => ?_
        refine .st (v := (bA (y255 != 0))) (aBin_neq ..) ?_
        refine .biHN (fun hk256 => ?_) (fun hk256 => ?_)
        · refine .s (A.agg [(iA 0), (iA 0), (iA 0), (iA 0), (iA 0), (iA 0), (iA 0), (iA 0), (iA 0), (iA 0), (iA 0), (iA 0), (iA 0)]) (.s [Blk.box (c_S_State a0), Blk.box (c_S_Sign a1), Blk.box (c_S_Real a2), hk18_2, Blk.box [(iA y4.1), (iA y4.2.1), (iA y4.2.2.1), (iA y4.2.2.2.1), (iA y4.2.2.2.2.1), (iA y4.2.2.2.2.2.1), (iA y4.2.2.2.2.2.2.1), (iA y4.2.2.2.2.2.2.2.1), (iA y4.2.2.2.2.2.2.2.2.1), (iA y4.2.2.2.2.2.2.2.2.2.1), (iA y4.2.2.2.2.2.2.2.2.2.2.1), (iA y4.2.2.2.2.2.2.2.2.2.2.2.1), (selF y240)], Blk.box [(bA y160)], Blk.box [(iA 1), (iA 3)], Blk.box [(iA y4.2.2.2.2.2.2.2.2.1), (iA y4.2.2.2.2.2.2.2.2.2.1)], (hk18_3 y4), Blk.box ([(iA (wr .i64 (a0.X + (wr .i64 (a1.Size * y177.1))))), (iA (wr .i64 (a0.Y + (wr .i64 (a1.Size * y177.2.1))))), (iA a0.Face), (iA y241), (iA y242), (iA y243), (iA y244), (iA y245), (iA y246), (iA y247), (iA y248), (iA y249), (iA y250)] ++ c_S_Sign a1 ++ c_S_Real a2)] (.s (A.agg [(iA 0), (iA 0), (iA 0), (iA 0), (iA 0), (iA 0), (iA 0), (iA 0), (iA 0), (iA 0), (iA 0), (iA 0), (iA 0)]) ?_))
          exact .lf rfl rfl ⟨_, rfl, rfl⟩
        refine .s (A.ptr 9 0) (.s (A.agg [(iA (wr .i64 (a0.X + (wr .i64 (a1.Size * y177.1))))), (iA (wr .i64 (a0.Y + (wr .i64 (a1.Size * y177.2.1))))), (iA a0.Face), (iA y241), (iA y242), (iA y243), (iA y244), (iA y245), (iA y246), (iA y247), (iA y248), (iA y249), (iA y250)]) (.s [Blk.box (c_S_State a0), Blk.box (c_S_Sign a1), Blk.box (c_S_Real a2), Blk.box [(iA (wr .i64 (a0.X + (wr .i64 (a1.Size * y177.1))))), (iA (wr .i64 (a0.Y + (wr .i64 (a1.Size * y177.2.1))))), (iA a0.Face), (iA y241), (iA y242), (iA y243), (iA y244), (iA y245), (iA y246), (iA y247), (iA y248), (iA y249), (iA y250)], Blk.box [(iA y4.1), (iA y4.2.1), (iA y4.2.2.1), (iA y4.2.2.2.1), (iA y4.2.2.2.2.1), (iA y4.2.2.2.2.2.1), (iA y4.2.2.2.2.2.2.1), (iA y4.2.2.2.2.2.2.2.1), (iA y4.2.2.2.2.2.2.2.2.1), (iA y4.2.2.2.2.2.2.2.2.2.1), (iA y4.2.2.2.2.2.2.2.2.2.2.1), (iA y4.2.2.2.2.2.2.2.2.2.2.2.1), (selF y240)], Blk.box [(bA y160)], Blk.box [(iA 1), (iA 3)], Blk.box [(iA y4.2.2.2.2.2.2.2.2.1), (iA y4.2.2.2.2.2.2.2.2.2.1)], (hk18_3 y4), Blk.box ([(iA (wr .i64 (a0.X + (wr .i64 (a1.Size * y177.1))))), (iA (wr .i64 (a0.Y + (wr .i64 (a1.Size * y177.2.1))))), (iA a0.Face), (iA y241), (iA y242), (iA y243), (iA y244), (iA y245), (iA y246), (iA y247), (iA y248), (iA y249), (iA y250)] ++ c_S_Sign a1 ++ c_S_Real a2)] ?_))
        refine .s (A.agg [(iA (wr .i64 (a0.X + (wr .i64 (a1.Size * y177.1))))), (iA (wr .i64 (a0.Y + (wr .i64 (a1.Size * y177.2.1))))), (iA a0.Face), (iA y241), (iA y242), (iA y243), (iA y244), (iA y245), (iA y246), (iA y247), (iA y248), (iA y249), (iA y250)]) ?_
        exact .lf rfl rfl ⟨_, rfl, rfl⟩
    refine .sp (fun hb257 => ?_) (fun _ => ?_)
    · refine .ds 53 hb257 (by kernel_rfl) ?_
      refine .dC (by kernel_rfl) (by kernel_rfl) ?_
      refine .cl ((evCall_in lt_53).trans (e53 C (evCall (cx C) (n+7)) (evCallY (cx C) (n+7)) (n+7) _ _ _)) ?_
      refine .cl ((evCall_in lt_79).trans (e79 C (evCall (cx C) (n+6)) (evCallY (cx C) (n+6)) (n+6) _ _ _)) ?_
      refine .s (A.ptr 9 0) (.s (A.ptr 9 13) (.s (A.ptr 9 19) (.s (iA a1.Dir) (.s (A.ptr 9 0) (.s (A.ptr 9 0) (.s (A.ptr 9 2) (.s (iA a0.Face) ?_)))))))
      refine .bd (g := fun (y : (Int × Int)) => (A.tup [(iA y.1), (iA y.2)])) (h24 a1.Dir a0.Face) fun y258 => ?_
      refine .s (iA y258.1) (.s (iA y258.2) ?_)
      refine .bd (g := fun (y : (Int × Int × Int)) => (A.tup [(iA y.1), (iA y.2.1), (iA y.2.2)])) (h86 y258.1) fun y259 => ?_
      refine .s (iA y259.1) (.s (iA y259.2.1) (.s (iA y259.2.2) (.s (A.ptr 9 0) (.s (A.ptr 9 0) (.s (A.ptr 9 0) (.s (iA a0.X) (.s (A.ptr 9 0) (.s (A.ptr 9 13) (.s (A.ptr 9 21) (.s (iA a1.Size) ?_))))))))))
      refine .st (v := (iA (wr .i64 (a1.Size * y259.1)))) (aBin_mul ..) ?_
      refine .st (v := (iA (wr .i64 (a0.X + (wr .i64 (a1.Size * y259.1)))))) (aBin_add ..) ?_
      refine .s (A.ptr 9 0) (.s (A.ptr 9 0) (.s (A.ptr 9 0) (.s [Blk.box (c_S_State a0), Blk.box (c_S_Sign a1), Blk.box (c_S_Real a2), hk18_2, (hk18_1 y4 (selF y117)), Blk.box [(bA y160)], Blk.box [(iA 1), (iA 3)], Blk.box [(iA y4.2.2.2.2.2.2.2.2.1), (iA y4.2.2.2.2.2.2.2.2.2.1)], (hk18_3 y4), Blk.box ([(iA (wr .i64 (a0.X + (wr .i64 (a1.Size * y259.1))))), (iA a0.Y), (iA a0.Face), (iA a0.Limbs.1.Dir), (iA a0.Limbs.1.Level), (iA a0.Limbs.2.1.Dir), (iA a0.Limbs.2.1.Level), (iA a0.Limbs.2.2.1.Dir), (iA a0.Limbs.2.2.1.Level), (iA a0.Limbs.2.2.2.1.Dir), (iA a0.Limbs.2.2.2.1.Level), (iA a0.Limbs.2.2.2.2.Dir), (iA a0.Limbs.2.2.2.2.Level)] ++ c_S_Sign a1 ++ c_S_Real a2)] (.s (A.ptr 9 0) (.s (A.ptr 9 0) (.s (A.ptr 9 1) (.s (iA a0.Y) (.s (A.ptr 9 0) (.s (A.ptr 9 13) (.s (A.ptr 9 21) (.s (iA a1.Size) ?_)))))))))))
      refine .st (v := (iA (wr .i64 (a1.Size * y259.2.1)))) (aBin_mul ..) ?_
      refine .st (v := (iA (wr .i64 (a0.Y + (wr .i64 (a1.Size * y259.2.1)))))) (aBin_add ..) ?_
      refine .s (A.ptr 9 0) (.s (A.ptr 9 0) (.s (A.ptr 9 1) (.s [Blk.box (c_S_State a0), Blk.box (c_S_Sign a1), Blk.box (c_S_Real a2), hk18_2, (hk18_1 y4 (selF y117)), Blk.box [(bA y160)], Blk.box [(iA 1), (iA 3)], Blk.box [(iA y4.2.2.2.2.2.2.2.2.1), (iA y4.2.2.2.2.2.2.2.2.2.1)], (hk18_3 y4), Blk.box ([(iA (wr .i64 (a0.X + (wr .i64 (a1.Size * y259.1))))), (iA (wr .i64 (a0.Y + (wr .i64 (a1.Size * y259.2.1))))), (iA a0.Face), (iA a0.Limbs.1.Dir), (iA a0.Limbs.1.Level), (iA a0.Limbs.2.1.Dir), (iA a0.Limbs.2.1.Level), (iA a0.Limbs.2.2.1.Dir), (iA a0.Limbs.2.2.1.Level), (iA a0.Limbs.2.2.2.1.Dir), (iA a0.Limbs.2.2.2.1.Level), (iA a0.Limbs.2.2.2.2.Dir), (iA a0.Limbs.2.2.2.2.Level)] ++ c_S_Sign a1 ++ c_S_Real a2)] ?_)))
      refine .cr ?_
      refine .ok ?_
      refine .s (A.imm [[(iA 0)], [(iA 1)]] true) ?_
      refine .cl ((evCall_in lt_80).trans (e80 C (evCall (cx C) (n+6)) (evCallY (cx C) (n+6)) (n+6) _ _ _ _)) ?_
      refine .s (iA 2) ?_
      refine .as (T18_80_0 C n h16 h24 h29 h33 h86 ([0, 1]) 2 a0 a1 a2 0 0 0 0 0 0 0 0 0 0 0 0 0 y4.1 y4.2.1 y4.2.2.1 y4.2.2.2.1 y4.2.2.2.2.1 y4.2.2.2.2.2.1 y4.2.2.2.2.2.2.1 y4.2.2.2.2.2.2.2.1 y4.2.2.2.2.2.2.2.2.1 y4.2.2.2.2.2.2.2.2.2.1 y4.2.2.2.2.2.2.2.2.2.2.1 y4.2.2.2.2.2.2.2.2.2.2.2.1 y117 y160 1 3 y4.2.2.2.2.2.2.2.2.1 y4.2.2.2.2.2.2.2.2.2.1 y4.2.2.2.2.2.2.2.2.2.2.1 y4.2.2.2.2.2.2.2.2.2.2.2.1 (wr .i64 (a0.X + (wr .i64 (a1.Size * y259.1)))) (wr .i64 (a0.Y + (wr .i64 (a1.Size * y259.2.1)))) a0.Face a1 a2 _ _ _ _ ?_ _ 0 a0.Limbs.1.Dir a0.Limbs.1.Level a0.Limbs.2.1.Dir a0.Limbs.2.1.Level a0.Limbs.2.2.1.Dir a0.Limbs.2.2.1.Level a0.Limbs.2.2.2.1.Dir a0.Limbs.2.2.2.1.Level a0.Limbs.2.2.2.2.Dir a0.Limbs.2.2.2.2.Level)
      · intro y322 y323 y324 y325 y326 y327 y328 y329 y330 y331 y332 j333 j334 j335 j336
        refine .un rfl ?_
        refine .cT (by kernel_rfl) ?_
        refine .cr ?_
        refine .ok ?_
        refine .cr ?_
        refine .ok ?_
        refine .s (A.ptr 9 0) (.s (A.agg [(iA (wr .i64 (a0.X + (wr .i64 (a1.Size * y259.1))))), (iA (wr .i64 (a0.Y + (wr .i64 (a1.Size * y259.2.1))))), (iA a0.Face), (iA y323), (iA y324), (iA y325), (iA y326), (iA y327), (iA y328), (iA y329), (iA y330), (iA y331), (iA y332)]) ?_)
        refine .bd (g := fun (y : Int) => (iA y)) (h16 ((S_State.mk (wr .i64 (a0.X + (wr .i64 (a1.Size * y259.1)))) (wr .i64 (a0.Y + (wr .i64 (a1.Size * y259.2.1)))) a0.Face (((S_Limb.mk y323 y324), (S_Limb.mk y325 y326), (S_Limb.mk y327 y328), (S_Limb.mk y329 y330), (S_Limb.mk y331 y332)))))) fun y337 => ?_
        refine .st (v := (bA (y337 != 0))) (aBin_neq ..) ?_
        refine .biHN (fun hk338 => ?_) (fun hk338 => ?_)
        · refine .s (A.agg [(iA 0), (iA 0), (iA 0), (iA 0), (iA 0), (iA 0), (iA 0), (iA 0), (iA 0), (iA 0), (iA 0), (iA 0), (iA 0)]) (.s [Blk.box (c_S_State a0), Blk.box (c_S_Sign a1), Blk.box (c_S_Real a2), hk18_2, Blk.box [(iA y4.1), (iA y4.2.1), (iA y4.2.2.1), (iA y4.2.2.2.1), (iA y4.2.2.2.2.1), (iA y4.2.2.2.2.2.1), (iA y4.2.2.2.2.2.2.1), (iA y4.2.2.2.2.2.2.2.1), (iA y4.2.2.2.2.2.2.2.2.1), (iA y4.2.2.2.2.2.2.2.2.2.1), (iA y4.2.2.2.2.2.2.2.2.2.2.1), (iA y4.2.2.2.2.2.2.2.2.2.2.2.1), (selF y322)], Blk.box [(bA y160)], Blk.box [(iA 1), (iA 3)], Blk.box [(iA y4.2.2.2.2.2.2.2.2.1), (iA y4.2.2.2.2.2.2.2.2.2.1)], (hk18_3 y4), Blk.box ([(iA (wr .i64 (a0.X + (wr .i64 (a1.Size * y259.1))))), (iA (wr .i64 (a0.Y + (wr .i64 (a1.Size * y259.2.1))))), (iA a0.Face), (iA y323), (iA y324), (iA y325), (iA y326), (iA y327), (iA y328), (iA y329), (iA y330), (iA y331), (iA y332)] ++ c_S_Sign a1 ++ c_S_Real a2)] (.s (A.agg [(iA 0), (iA 0), (iA 0), (iA 0), (iA 0), (iA 0), (iA 0), (iA 0), (iA 0), (iA 0), (iA 0), (iA 0), (iA 0)]) ?_))
          exact .lf rfl rfl ⟨_, rfl, rfl⟩
        refine .s (A.ptr 9 0) (.s (A.agg [(iA (wr .i64 (a0.X + (wr .i64 (a1.Size * y259.1))))), (iA (wr .i64 (a0.Y + (wr .i64 (a1.Size * y259.2.1))))), (iA a0.Face), (iA y323), (iA y324), (iA y325), (iA y326), (iA y327), (iA y328), (iA y329), (iA y330), (iA y331), (iA y332)]) (.s [Blk.box (c_S_State a0), Blk.box (c_S_Sign a1), Blk.box (c_S_Real a2), Blk.box [(iA (wr .i64 (a0.X + (wr .i64 (a1.Size * y259.1))))), (iA (wr .i64 (a0.Y + (wr .i64 (a1.Size * y259.2.1))))), (iA a0.Face), (iA y323), (iA y324), (iA y325), (iA y326), (iA y327), (iA y328), (iA y329), (iA y330), (iA y331), (iA y332)], Blk.box [(iA y4.1), (iA y4.2.1), (iA y4.2.2.1), (iA y4.2.2.2.1), (iA y4.2.2.2.2.1), (iA y4.2.2.2.2.2.1), (iA y4.2.2.2.2.2.2.1), (iA y4.2.2.2.2.2.2.2.1), (iA y4.2.2.2.2.2.2.2.2.1), (iA y4.2.2.2.2.2.2.2.2.2.1), (iA y4.2.2.2.2.2.2.2.2.2.2.1), (iA y4.2.2.2.2.2.2.2.2.2.2.2.1), (selF y322)], Blk.box [(bA y160)], Blk.box [(iA 1), (iA 3)], Blk.box [(iA y4.2.2.2.2.2.2.2.2.1), (iA y4.2.2.2.2.2.2.2.2.2.1)], (hk18_3 y4), Blk.box ([(iA (wr .i64 (a0.X + (wr .i64 (a1.Size * y259.1))))), (iA (wr .i64 (a0.Y + (wr .i64 (a1.Size * y259.2.1))))), (iA a0.Face), (iA y323), (iA y324), (iA y325), (iA y326), (iA y327), (iA y328), (iA y329), (iA y330), (iA y331), (iA y332)] ++ c_S_Sign a1 ++ c_S_Real a2)] ?_))
        refine .s (A.agg [(iA (wr .i64 (a0.X + (wr .i64 (a1.Size * y259.1))))), (iA (wr .i64 (a0.Y + (wr .i64 (a1.Size * y259.2.1))))), (iA a0.Face), (iA y323), (iA y324), (iA y325), (iA y326), (iA y327), (iA y328), (iA y329), (iA y330), (iA y331), (iA y332)]) ?_
        exact .lf rfl rfl ⟨_, rfl, rfl⟩
    refine .sp (fun hb339 => ?_) (fun _ => ?_)
    · refine .ds 54 hb339 (by kernel_rfl) ?_
      refine .dC (by kernel_rfl) (by kernel_rfl) ?_
      refine .cl ((evCall_in lt_54).trans (e54 C (evCall (cx C) (n+7)) (evCallY (cx C) (n+7)) (n+7) _ _ _)) ?_
      refine .s (A.ptr 9 0) (.s (A.ptr 9 13) (.s (A.ptr 9 18) (.s (iA a1.Side) ?_)))
      refine .st (v := (iA (wr .i64 (a1.Side - 1)))) (aBin_sub ..) ?_
      refine .cl ((evCall_in lt_81).trans (e81 C (evCall (cx C) (n+6)) (evCallY (cx C) (n+6)) (n+6) _ _ _ _)) ?_
      refine .s (A.ptr 9 0) (.s (A.ptr 9 27) (.s (A.ptr 9 28) (.s (iA a2.Dir) (.s (A.ptr 9 0) (.s (A.ptr 9 27) (.s (A.ptr 9 29) (.s (iA a2.Level) (.s (A.agg [(iA a2.Dir), (iA a2.Level)]) (.s (A.ptr 9 0) (.s (A.ptr 9 0) (.s (A.ptr 9 3) ?_)))))))))))
      refine .sp (fun hb340 => ?_) (fun _ => ?_)
      · refine .st (v := (A.ptr 9 3)) (by rw [of_decide_eq_true hb340]; kernel_rfl) ?_
        refine .s [Blk.box (c_S_State a0), Blk.box (c_S_Sign a1), Blk.box (c_S_Real a2), hk18_2, (hk18_1 y4 (selF y117)), Blk.box [(bA y160)], Blk.box [(iA 1), (iA 3)], Blk.box [(iA y4.2.2.2.2.2.2.2.2.1), (iA y4.2.2.2.2.2.2.2.2.2.1)], (hk18_3 y4), (hk18_7 a0 a2 a1)] ?_
        refine .cr ?_
        refine .ok ?_
        refine .cr ?_
        refine .ok ?_
        refine .s (A.ptr 9 0) (.s (A.agg [(iA a0.X), (iA a0.Y), (iA a0.Face), (iA a2.Dir), (iA a2.Level), (iA a0.Limbs.2.1.Dir), (iA a0.Limbs.2.1.Level), (iA a0.Limbs.2.2.1.Dir), (iA a0.Limbs.2.2.1.Level), (iA a0.Limbs.2.2.2.1.Dir), (iA a0.Limbs.2.2.2.1.Level), (iA a0.Limbs.2.2.2.2.Dir), (iA a0.Limbs.2.2.2.2.Level)]) ?_)
        refine .bd (g := fun (y : Int) => (iA y)) (h16 ((S_State.mk a0.X a0.Y a0.Face (((S_Limb.mk a2.Dir a2.Level), a0.Limbs.2.1, a0.Limbs.2.2.1, a0.Limbs.2.2.2.1, a0.Limbs.2.2.2.2))))) fun y341 => ?_
        refine .st (v := (bA (y341 != 0))) (aBin_neq ..) ?_
        refine .biHN (fun hk342 => ?_) (fun hk342 => ?_)
        · refine .s (A.agg [(iA 0), (iA 0), (iA 0), (iA 0), (iA 0), (iA 0), (iA 0), (iA 0), (iA 0), (iA 0), (iA 0), (iA 0), (iA 0)]) (.s [Blk.box (c_S_State a0), Blk.box (c_S_Sign a1), Blk.box (c_S_Real a2), hk18_2, (hk18_1 y4 (selF y117)), Blk.box [(bA y160)], Blk.box [(iA 1), (iA 3)], Blk.box [(iA y4.2.2.2.2.2.2.2.2.1), (iA y4.2.2.2.2.2.2.2.2.2.1)], (hk18_3 y4), (hk18_7 a0 a2 a1)] (.s (A.agg [(iA 0), (iA 0), (iA 0), (iA 0), (iA 0), (iA 0), (iA 0), (iA 0), (iA 0), (iA 0), (iA 0), (iA 0), (iA 0)]) ?_))
          exact .lf rfl rfl ⟨_, rfl, rfl⟩
        refine .s (A.ptr 9 0) (.s (A.agg [(iA a0.X), (iA a0.Y), (iA a0.Face), (iA a2.Dir), (iA a2.Level), (iA a0.Limbs.2.1.Dir), (iA a0.Limbs.2.1.Level), (iA a0.Limbs.2.2.1.Dir), (iA a0.Limbs.2.2.1.Level), (iA a0.Limbs.2.2.2.1.Dir), (iA a0.Limbs.2.2.2.1.Level), (iA a0.Limbs.2.2.2.2.Dir), (iA a0.Limbs.2.2.2.2.Level)]) (.s [Blk.box (c_S_State a0), Blk.box (c_S_Sign a1), Blk.box (c_S_Real a2), Blk.box [(iA a0.X), (iA a0.Y), (iA a0.Face), (iA a2.Dir), (iA a2.Level), (iA a0.Limbs.2.1.Dir), (iA a0.Limbs.2.1.Level), (iA a0.Limbs.2.2.1.Dir), (iA a0.Limbs.2.2.1.Level), (iA a0.Limbs.2.2.2.1.Dir), (iA a0.Limbs.2.2.2.1.Level), (iA a0.Limbs.2.2.2.2.Dir), (iA a0.Limbs.2.2.2.2.Level)], (hk18_1 y4 (selF y117)), Blk.box [(bA y160)], Blk.box [(iA 1), (iA 3)], Blk.box [(iA y4.2.2.2.2.2.2.2.2.1), (iA y4.2.2.2.2.2.2.2.2.2.1)], (hk18_3 y4), (hk18_7 a0 a2 a1)] (.s (A.agg [(iA a0.X), (iA a0.Y), (iA a0.Face), (iA a2.Dir), (iA a2.Level), (iA a0.Limbs.2.1.Dir), (iA a0.Limbs.2.1.Level), (iA a0.Limbs.2.2.1.Dir), (iA a0.Limbs.2.2.1.Level), (iA a0.Limbs.2.2.2.1.Dir), (iA a0.Limbs.2.2.2.1.Level), (iA a0.Limbs.2.2.2.2.Dir), (iA a0.Limbs.2.2.2.2.Level)]) ?_)))
        exact .lf rfl rfl ⟨_, rfl, rfl⟩
      refine .sp (fun hb343 => ?_) (fun _ => ?_)
      · refine .st (v := (A.ptr 9 5)) (by rw [of_decide_eq_true hb343]; kernel_rfl) ?_
        refine .s [Blk.box (c_S_State a0), Blk.box (c_S_Sign a1), Blk.box (c_S_Real a2), hk18_2, (hk18_1 y4 (selF y117)), Blk.box [(bA y160)], Blk.box [(iA 1), (iA 3)], Blk.box [(iA y4.2.2.2.2.2.2.2.2.1), (iA y4.2.2.2.2.2.2.2.2.2.1)], (hk18_3 y4), (hk18_8 a0 a2 a1)] ?_
        refine .cr ?_
        refine .ok ?_
        refine .cr ?_
        refine .ok ?_
        refine .s (A.ptr 9 0) (.s (A.agg [(iA a0.X), (iA a0.Y), (iA a0.Face), (iA a0.Limbs.1.Dir), (iA a0.Limbs.1.Level), (iA a2.Dir), (iA a2.Level), (iA a0.Limbs.2.2.1.Dir), (iA a0.Limbs.2.2.1.Level), (iA a0.Limbs.2.2.2.1.Dir), (iA a0.Limbs.2.2.2.1.Level), (iA a0.Limbs.2.2.2.2.Dir), (iA a0.Limbs.2.2.2.2.Level)]) ?_)
        refine .bd (g := fun (y : Int) => (iA y)) (h16 ((S_State.mk a0.X a0.Y a0.Face ((a0.Limbs.1, (S_Limb.mk a2.Dir a2.Level), a0.Limbs.2.2.1, a0.Limbs.2.2.2.1, a0.Limbs.2.2.2.2))))) fun y344 => ?_
        refine .st (v := (bA (y344 != 0))) (aBin_neq ..) ?_
        refine .biHN (fun hk345 => ?_) (fun hk345 => ?_)
        · refine .s (A.agg [(iA 0), (iA 0), (iA 0), (iA 0), (iA 0), (iA 0), (iA 0), (iA 0), (iA 0), (iA 0), (iA 0), (iA 0), (iA 0)]) (.s [Blk.box (c_S_State a0), Blk.box (c_S_Sign a1), Blk.box (c_S_Real a2), hk18_2, (hk18_1 y4 (selF y117)), Blk.box [(bA y160)], Blk.box [(iA 1), (iA 3)], Blk.box [(iA y4.2.2.2.2.2.2.2.2.1), (iA y4.2.2.2.2.2.2.2.2.2.1)], (hk18_3 y4), (hk18_8 a0 a2 a1)] (.s (A.agg [(iA 0), (iA 0), (iA 0), (iA 0), (iA 0), (iA 0), (iA 0), (iA 0), (iA 0), (iA 0), (iA 0), (iA 0), (iA 0)]) ?_))
          exact .lf rfl rfl ⟨_, rfl, rfl⟩
        refine .s (A.ptr 9 0) (.s (A.agg [(iA a0.X), (iA a0.Y), (iA a0.Face), (iA a0.Limbs.1.Dir), (iA a0.Limbs.1.Level), (iA a2.Dir), (iA a2.Level), (iA a0.Limbs.2.2.1.Dir), (iA a0.Limbs.2.2.1.Level), (iA a0.Limbs.2.2.2.1.Dir), (iA a0.Limbs.2.2.2.1.Level), (iA a0.Limbs.2.2.2.2.Dir), (iA a0.Limbs.2.2.2.2.Level)]) (.s [Blk.box (c_S_State a0), Blk.box (c_S_Sign a1), Blk.box (c_S_Real a2), Blk.box [(iA a0.X), (iA a0.Y), (iA a0.Face), (iA a0.Limbs.1.Dir), (iA a0.Limbs.1.Level), (iA a2.Dir), (iA a2.Level), (iA a0.Limbs.2.2.1.Dir), (iA a0.Limbs.2.2.1.Level), (iA a0.Limbs.2.2.2.1.Dir), (iA a0.Limbs.2.2.2.1.Level), (iA a0.Limbs.2.2.2.2.Dir), (iA a0.Limbs.2.2.2.2.Level)], (hk18_1 y4 (selF y117)), Blk.box [(bA y160)], Blk.box [(iA 1), (iA 3)], Blk.box [(iA y4.2.2.2.2.2.2.2.2.1), (iA y4.2.2.2.2.2.2.2.2.2.1)], (hk18_3 y4), (hk18_8 a0 a2 a1)] (.s (A.agg [(iA a0.X), (iA a0.Y), (iA a0.Face), (iA a0.Limbs.1.Dir), (iA a0.Limbs.1.Level), (iA a2.Dir), (iA a2.Level), (iA a0.Limbs.2.2.1.Dir), (iA a0.Limbs.2.2.1.Level), (iA a0.Limbs.2.2.2.1.Dir), (iA a0.Limbs.2.2.2.1.Level), (iA a0.Limbs.2.2.2.2.Dir), (iA a0.Limbs.2.2.2.2.Level)]) ?_)))
        exact .lf rfl rfl ⟨_, rfl, rfl⟩
      refine .sp (fun hb346 => ?_) (fun _ => ?_)
      · refine .st (v := (A.ptr 9 7)) (by rw [of_decide_eq_true hb346]; kernel_rfl) ?_
        refine .s [Blk.box (c_S_State a0), Blk.box (c_S_Sign a1), Blk.box (c_S_Real a2), hk18_2, (hk18_1 y4 (selF y117)), Blk.box [(bA y160)], Blk.box [(iA 1), (iA 3)], Blk.box [(iA y4.2.2.2.2.2.2.2.2.1), (iA y4.2.2.2.2.2.2.2.2.2.1)], (hk18_3 y4), (hk18_9 a0 a2 a1)] ?_
        refine .cr ?_
        refine .ok ?_
        refine .cr ?_
        refine .ok ?_
        refine .s (A.ptr 9 0) (.s (A.agg [(iA a0.X), (iA a0.Y), (iA a0.Face), (iA a0.Limbs.1.Dir), (iA a0.Limbs.1.Level), (iA a0.Limbs.2.1.Dir), (iA a0.Limbs.2.1.Level), (iA a2.Dir), (iA a2.Level), (iA a0.Limbs.2.2.2.1.Dir), (iA a0.Limbs.2.2.2.1.Level), (iA a0.Limbs.2.2.2.2.Dir), (iA a0.Limbs.2.2.2.2.Level)]) ?_)
        refine .bd (g := fun (y : Int) => (iA y)) (h16 ((S_State.mk a0.X a0.Y a0.Face ((a0.Limbs.1, a0.Limbs.2.1, (S_Limb.mk a2.Dir a2.Level), a0.Limbs.2.2.2.1, a0.Limbs.2.2.2.2))))) fun y347 => ?_
        refine .st (v := (bA (y347 != 0))) (aBin_neq ..) ?_
        refine .biHN (fun hk348 => ?_) (fun hk348 => ?_)
        · refine .s (A.agg [(iA 0), (iA 0), (iA 0), (iA 0), (iA 0), (iA 0), (iA 0), (iA 0), (iA 0), (iA 0), (iA 0), (iA 0), (iA 0)]) (.s [Blk.box (c_S_State a0), Blk.box (c_S_Sign a1), Blk.box (c_S_Real a2), hk18_2, (hk18_1 y4 (selF y117)), Blk.box [(bA y160)], Blk.box [(iA 1), (iA 3)], Blk.box [(iA y4.2.2.2.2.2.2.2.2.1), (iA y4.2.2.2.2.2.2.2.2.2.1)], (hk18_3 y4), (hk18_9 a0 a2 a1)] (.s (A.agg [(iA 0), (iA 0), (iA 0), (iA 0), (iA 0), (iA 0), (iA 0), (iA 0), (iA 0), (iA 0), (iA 0), (iA 0), (iA 0)]) ?_))
          exact .lf rfl rfl ⟨_, rfl, rfl⟩
        refine .s (A.ptr 9 0) (.s (A.agg [(iA a0.X), (iA a0.Y), (iA a0.Face), (iA a0.Limbs.1.Dir), (iA a0.Limbs.1.Level), (iA a0.Limbs.2.1.Dir), (iA a0.Limbs.2.1.Level), (iA a2.Dir), (iA a2.Level), (iA a0.Limbs.2.2.2.1.Dir), (iA a0.Limbs.2.2.2.1.Level), (iA a0.Limbs.2.2.2.2.Dir), (iA a0.Limbs.2.2.2.2.Level)]) (.s [Blk.box (c_S_State a0), Blk.box (c_S_Sign a1), Blk.box (c_S_Real a2), Blk.box [(iA a0.X), (iA a0.Y), (iA a0.Face), (iA a0.Limbs.1.Dir), (iA a0.Limbs.1.Level), (iA a0.Limbs.2.1.Dir), (iA a0.Limbs.2.1.Level), (iA a2.Dir), (iA a2.Level), (iA a0.Limbs.2.2.2.1.Dir), (iA a0.Limbs.2.2.2.1.Level), (iA a0.Limbs.2.2.2.2.Dir), (iA a0.Limbs.2.2.2.2.Level)], (hk18_1 y4 (selF y117)), Blk.box [(bA y160)], Blk.box [(iA 1), (iA 3)], Blk.box [(iA y4.2.2.2.2.2.2.2.2.1), (iA y4.2.2.2.2.2.2.2.2.2.1)], (hk18_3 y4), (hk18_9 a0 a2 a1)] (.s (A.agg [(iA a0.X), (iA a0.Y), (iA a0.Face), (iA a0.Limbs.1.Dir), (iA a0.Limbs.1.Level), (iA a0.Limbs.2.1.Dir), (iA a0.Limbs.2.1.Level), (iA a2.Dir), (iA a2.Level), (iA a0.Limbs.2.2.2.1.Dir), (iA a0.Limbs.2.2.2.1.Level), (iA a0.Limbs.2.2.2.2.Dir), (iA a0.Limbs.2.2.2.2.Level)]) ?_)))
        exact .lf rfl rfl ⟨_, rfl, rfl⟩
      refine .sp (fun hb349 => ?_) (fun _ => ?_)
      · refine .st (v := (A.ptr 9 9)) (by rw [of_decide_eq_true hb349]; kernel_rfl) ?_
        refine .s [Blk.box (c_S_State a0), Blk.box (c_S_Sign a1), Blk.box (c_S_Real a2), hk18_2, (hk18_1 y4 (selF y117)), Blk.box [(bA y160)], Blk.box [(iA 1), (iA 3)], Blk.box [(iA y4.2.2.2.2.2.2.2.2.1), (iA y4.2.2.2.2.2.2.2.2.2.1)], (hk18_3 y4), (hk18_10 a0 a2 a1)] ?_
        refine .cr ?_
        refine .ok ?_
        refine .cr ?_
        refine .ok ?_
        refine .s (A.ptr 9 0) (.s (A.agg [(iA a0.X), (iA a0.Y), (iA a0.Face), (iA a0.Limbs.1.Dir), (iA a0.Limbs.1.Level), (iA a0.Limbs.2.1.Dir), (iA a0.Limbs.2.1.Level), (iA a0.Limbs.2.2.1.Dir), (iA a0.Limbs.2.2.1.Level), (iA a2.Dir), (iA a2.Level), (iA a0.Limbs.2.2.2.2.Dir), (iA a0.Limbs.2.2.2.2.Level)]) ?_)
        refine .bd (g := fun (y : Int) => (iA y)) (h16 ((S_State.mk a0.X a0.Y a0.Face ((a0.Limbs.1, a0.Limbs.2.1, a0.Limbs.2.2.1, (S_Limb.mk a2.Dir a2.Level), a0.Limbs.2.2.2.2))))) fun y350 => ?_
        refine .st (v := (bA (y350 != 0))) (aBin_neq ..) ?_
        refine .biHN (fun hk351 => ?_) (fun hk351 => ?_)
        · refine .s (A.agg [(iA 0), (iA 0), (iA 0), (iA 0), (iA 0), (iA 0), (iA 0), (iA 0), (iA 0), (iA 0), (iA 0), (iA 0), (iA 0)]) (.s [Blk.box (c_S_State a0), Blk.box (c_S_Sign a1), Blk.box (c_S_Real a2), hk18_2, (hk18_1 y4 (selF y117)), Blk.box [(bA y160)], Blk.box [(iA 1), (iA 3)], Blk.box [(iA y4.2.2.2.2.2.2.2.2.1), (iA y4.2.2.2.2.2.2.2.2.2.1)], (hk18_3 y4), (hk18_10 a0 a2 a1)] (.s (A.agg [(iA 0), (iA 0), (iA 0), (iA 0), (iA 0), (iA 0), (iA 0), (iA 0), (iA 0), (iA 0), (iA 0), (iA 0), (iA 0)]) ?_))
          exact .lf rfl rfl ⟨_, rfl, rfl⟩
        refine .s (A.ptr 9 0) (.s (A.agg [(iA a0.X), (iA a0.Y), (iA a0.Face), (iA a0.Limbs.1.Dir), (iA a0.Limbs.1.Level), (iA a0.Limbs.2.1.Dir), (iA a0.Limbs.2.1.Level), (iA a0.Limbs.2.2.1.Dir), (iA a0.Limbs.2.2.1.Level), (iA a2.Dir), (iA a2.Level), (iA a0.Limbs.2.2.2.2.Dir), (iA a0.Limbs.2.2.2.2.Level)]) (.s [Blk.box (c_S_State a0), Blk.box (c_S_Sign a1), Blk.box (c_S_Real a2), Blk.box [(iA a0.X), (iA a0.Y), (iA a0.Face), (iA a0.Limbs.1.Dir), (iA a0.Limbs.1.Level), (iA a0.Limbs.2.1.Dir), (iA a0.Limbs.2.1.Level), (iA a0.Limbs.2.2.1.Dir), (iA a0.Limbs.2.2.1.Level), (iA a2.Dir), (iA a2.Level), (iA a0.Limbs.2.2.2.2.Dir), (iA a0.Limbs.2.2.2.2.Level)], (hk18_1 y4 (selF y117)), Blk.box [(bA y160)], Blk.box [(iA 1), (iA 3)], Blk.box [(iA y4.2.2.2.2.2.2.2.2.1), (iA y4.2.2.2.2.2.2.2.2.2.1)], (hk18_3 y4), (hk18_10 a0 a2 a1)] (.s (A.agg [(iA a0.X), (iA a0.Y), (iA a0.Face), (iA a0.Limbs.1.Dir), (iA a0.Limbs.1.Level), (iA a0.Limbs.2.1.Dir), (iA a0.Limbs.2.1.Level), (iA a0.Limbs.2.2.1.Dir), (iA a0.Limbs.2.2.1.Level), (iA a2.Dir), (iA a2.Level), (iA a0.Limbs.2.2.2.2.Dir), (iA a0.Limbs.2.2.2.2.Level)]) ?_)))
        exact .lf rfl rfl ⟨_, rfl, rfl⟩
      refine .sp (fun hb352 => ?_) (fun _ => ?_)
      · refine .st (v := (A.ptr 9 11)) (by rw [of_decide_eq_true hb352]; kernel_rfl) ?_
        refine .s [Blk.box (c_S_State a0), Blk.box (c_S_Sign a1), Blk.box (c_S_Real a2), hk18_2, (hk18_1 y4 (selF y117)), Blk.box [(bA y160)], Blk.box [(iA 1), (iA 3)], Blk.box [(iA y4.2.2.2.2.2.2.2.2.1), (iA y4.2.2.2.2.2.2.2.2.2.1)], (hk18_3 y4), (hk18_4 a0 a2 a1)] ?_
        refine .cr ?_
        refine .ok ?_
        refine .cr ?_
        refine .ok ?_
        refine .s (A.ptr 9 0) (.s (A.agg [(iA a0.X), (iA a0.Y), (iA a0.Face), (iA a0.Limbs.1.Dir), (iA a0.Limbs.1.Level), (iA a0.Limbs.2.1.Dir), (iA a0.Limbs.2.1.Level), (iA a0.Limbs.2.2.1.Dir), (iA a0.Limbs.2.2.1.Level), (iA a0.Limbs.2.2.2.1.Dir), (iA a0.Limbs.2.2.2.1.Level), (iA a2.Dir), (iA a2.Level)]) ?_)
        refine .bd (g := fun (y : Int) => (iA y)) (h16 ((S_State.mk a0.X a0.Y a0.Face ((a0.Limbs.1, a0.Limbs.2.1, a0.Limbs.2.2.1, a0.Limbs.2.2.2.1, (S_Limb.mk a2.Dir a2.Level)))))) fun y353 => ?_
        refine .st (v := (bA (y353 != 0))) (aBin_neq ..) ?_
        refine .biHN (fun hk354 => ?_) (fun hk354 => ?_)
        · refine .s (A.agg [(iA 0), (iA 0), (iA 0), (iA 0), (iA 0), (iA 0), (iA 0), (iA 0), (iA 0), (iA 0), (iA 0), (iA 0), (iA 0)]) (.s [Blk.box (c_S_State a0), Blk.box (c_S_Sign a1), Blk.box (c_S_Real a2), hk18_2, (hk18_1 y4 (selF y117)), Blk.box [(bA y160)], Blk.box [(iA 1), (iA 3)], Blk.box [(iA y4.2.2.2.2.2.2.2.2.1), (iA y4.2.2.2.2.2.2.2.2.2.1)], (hk18_3 y4), (hk18_4 a0 a2 a1)] (.s (A.agg [(iA 0), (iA 0), (iA 0), (iA 0), (iA 0), (iA 0), (iA 0), (iA 0), (iA 0), (iA 0), (iA 0), (iA 0), (iA 0)]) ?_))
          exact .lf rfl rfl ⟨_, rfl, rfl⟩
        refine .s (A.ptr 9 0) (.s (A.agg [(iA a0.X), (iA a0.Y), (iA a0.Face), (iA a0.Limbs.1.Dir), (iA a0.Limbs.1.Level), (iA a0.Limbs.2.1.Dir), (iA a0.Limbs.2.1.Level), (iA a0.Limbs.2.2.1.Dir), (iA a0.Limbs.2.2.1.Level), (iA a0.Limbs.2.2.2.1.Dir), (iA a0.Limbs.2.2.2.1.Level), (iA a2.Dir), (iA a2.Level)]) (.s [Blk.box (c_S_State a0), Blk.box (c_S_Sign a1), Blk.box (c_S_Real a2), (hk18_24 a0 a2), (hk18_1 y4 (selF y117)), Blk.box [(bA y160)], Blk.box [(iA 1), (iA 3)], Blk.box [(iA y4.2.2.2.2.2.2.2.2.1), (iA y4.2.2.2.2.2.2.2.2.2.1)], (hk18_3 y4), (hk18_4 a0 a2 a1)] (.s (A.agg [(iA a0.X), (iA a0.Y), (iA a0.Face), (iA a0.Limbs.1.Dir), (iA a0.Limbs.1.Level), (iA a0.Limbs.2.1.Dir), (iA a0.Limbs.2.1.Level), (iA a0.Limbs.2.2.1.Dir), (iA a0.Limbs.2.2.1.Level), (iA a0.Limbs.2.2.2.1.Dir), (iA a0.Limbs.2.2.2.1.Level), (iA a2.Dir), (iA a2.Level)]) ?_)))
        exact .lf rfl rfl ⟨_, rfl, rfl⟩
      exact .nn
    refine .sp (fun hb355 => ?_) (fun _ => ?_)
    · refine .ds 55 hb355 (by kernel_rfl) ?_
      refine .dC (by kernel_rfl) (by kernel_rfl) ?_
      refine .cl ((evCall_in lt_55).trans (e55 C (evCall (cx C) (n+7)) (evCallY (cx C) (n+7)) (n+7) _ _ _)) ?_
      refine .s (A.ptr 9 0) (.s (A.ptr 9 13) (.s (A.ptr 9 18) (.s (iA a1.Side) ?_)))
      refine .st (v := (iA (wr .i64 (a1.Side + 1)))) (aBin_add ..) ?_
      refine .cl ((evCall_in lt_81).trans (e81 C (evCall (cx C) (n+6)) (evCallY (cx C) (n+6)) (n+6) _ _ _ _)) ?_
      refine .s (A.ptr 9 0) (.s (A.ptr 9 27) (.s (A.ptr 9 28) (.s (iA a2.Dir) (.s (A.ptr 9 0) (.s (A.ptr 9 27) (.s (A.ptr 9 29) (.s (iA a2.Level) (.s (A.agg [(iA a2.Dir), (iA a2.Level)]) (.s (A.ptr 9 0) (.s (A.ptr 9 0) (.s (A.ptr 9 3) ?_)))))))))))
      refine .sp (fun hb356 => ?_) (fun _ => ?_)
      · refine .st (v := (A.ptr 9 3)) (by rw [of_decide_eq_true hb356]; kernel_rfl) ?_
        refine .s [Blk.box (c_S_State a0), Blk.box (c_S_Sign a1), Blk.box (c_S_Real a2), hk18_2, (hk18_1 y4 (selF y117)), Blk.box [(bA y160)], Blk.box [(iA 1), (iA 3)], Blk.box [(iA y4.2.2.2.2.2.2.2.2.1), (iA y4.2.2.2.2.2.2.2.2.2.1)], (hk18_3 y4), (hk18_7 a0 a2 a1)] ?_
        refine .cr ?_
        refine .ok ?_
        refine .cr ?_
        refine .ok ?_
        refine .s (A.ptr 9 0) (.s (A.agg [(iA a0.X), (iA a0.Y), (iA a0.Face), (iA a2.Dir), (iA a2.Level), (iA a0.Limbs.2.1.Dir), (iA a0.Limbs.2.1.Level), (iA a0.Limbs.2.2.1.Dir), (iA a0.Limbs.2.2.1.Level), (iA a0.Limbs.2.2.2.1.Dir), (iA a0.Limbs.2.2.2.1.Level), (iA a0.Limbs.2.2.2.2.Dir), (iA a0.Limbs.2.2.2.2.Level)]) ?_)
        refine .bd (g := fun (y : Int) => (iA y)) (h16 ((S_State.mk a0.X a0.Y a0.Face (((S_Limb.mk a2.Dir a2.Level), a0.Limbs.2.1, a0.Limbs.2.2.1, a0.Limbs.2.2.2.1, a0.Limbs.2.2.2.2))))) fun y357 => ?_
        refine .st (v := (bA (y357 != 0))) (aBin_neq ..) ?_
        refine .biHN (fun hk358 => ?_) (fun hk358 => ?_)
        · refine .s (A.agg [(iA 0), (iA 0), (iA 0), (iA 0), (iA 0), (iA 0), (iA 0), (iA 0), (iA 0), (iA 0), (iA 0), (iA 0), (iA 0)]) (.s [Blk.box (c_S_State a0), Blk.box (c_S_Sign a1), Blk.box (c_S_Real a2), hk18_2, (hk18_1 y4 (selF y117)), Blk.box [(bA y160)], Blk.box [(iA 1), (iA 3)], Blk.box [(iA y4.2.2.2.2.2.2.2.2.1), (iA y4.2.2.2.2.2.2.2.2.2.1)], (hk18_3 y4), (hk18_7 a0 a2 a1)] (.s (A.agg [(iA 0), (iA 0), (iA 0), (iA 0), (iA 0), (iA 0), (iA 0), (iA 0), (iA 0), (iA 0), (iA 0), (iA 0), (iA 0)]) ?_))
          exact .lf rfl rfl ⟨_, rfl, rfl⟩
        refine .s (A.ptr 9 0) (.s (A.agg [(iA a0.X), (iA a0.Y), (iA a0.Face), (iA a2.Dir), (iA a2.Level), (iA a0.Limbs.2.1.Dir), (iA a0.Limbs.2.1.Level), (iA a0.Limbs.2.2.1.Dir), (iA a0.Limbs.2.2.1.Level), (iA a0.Limbs.2.2.2.1.Dir), (iA a0.Limbs.2.2.2.1.Level), (iA a0.Limbs.2.2.2.2.Dir), (iA a0.Limbs.2.2.2.2.Level)]) (.s [Blk.box (c_S_State a0), Blk.box (c_S_Sign a1), Blk.box (c_S_Real a2), Blk.box [(iA a0.X), (iA a0.Y), (iA a0.Face), (iA a2.Dir), (iA a2.Level), (iA a0.Limbs.2.1.Dir), (iA a0.Limbs.2.1.Level), (iA a0.Limbs.2.2.1.Dir), (iA a0.Limbs.2.2.1.Level), (iA a0.Limbs.2.2.2.1.Dir), (iA a0.Limbs.2.2.2.1.Level), (iA a0.Limbs.2.2.2.2.Dir), (iA a0.Limbs.2.2.2.2.Level)], (hk18_1 y4 (selF y117)), Blk.box [(bA y160)], Blk.box [(iA 1), (iA 3)], Blk.box [(iA y4.2.2.2.2.2.2.2.2.1), (iA y4.2.2.2.2.2.2.2.2.2.1)], (hk18_3 y4), (hk18_7 a0 a2 a1)] (.s (A.agg [(iA a0.X), (iA a0.Y), (iA a0.Face), (iA a2.Dir), (iA a2.Level), (iA a0.Limbs.2.1.Dir), (iA a0.Limbs.2.1.Level), (iA a0.Limbs.2.2.1.Dir), (iA a0.Limbs.2.2.1.Level), (iA a0.Limbs.2.2.2.1.Dir), (iA a0.Limbs.2.2.2.1.Level), (iA a0.Limbs.2.2.2.2.Dir), (iA a0.Limbs.2.2.2.2.Level)]) ?_)))
        exact .lf rfl rfl ⟨_, rfl, rfl⟩
      refine .sp (fun hb359 => ?_) (fun _ => ?_)
      · refine .st (v := (A.ptr 9 5)) (by rw [of_decide_eq_true hb359]; kernel_rfl) ?_
        refine .s [Blk.box (c_S_State a0), Blk.box (c_S_Sign a1), Blk.box (c_S_Real a2), hk18_2, (hk18_1 y4 (selF y117)), Blk.box [(bA y160)], Blk.box [(iA 1), (iA 3)], Blk.box [(iA y4.2.2.2.2.2.2.2.2.1), (iA y4.2.2.2.2.2.2.2.2.2.1)], (hk18_3 y4), (hk18_8 a0 a2 a1)] ?_
        refine .cr ?_
        refine .ok ?_
        refine .cr ?_
        refine .ok ?_
        refine .s (A.ptr 9 0) (.s (A.agg [(iA a0.X), (iA a0.Y), (iA a0.Face), (iA a0.Limbs.1.Dir), (iA a0.Limbs.1.Level), (iA a2.Dir), (iA a2.Level), (iA a0.Limbs.2.2.1.Dir), (iA a0.Limbs.2.2.1.Level), (iA a0.Limbs.2.2.2.1.Dir), (iA a0.Limbs.2.2.2.1.Level), (iA a0.Limbs.2.2.2.2.Dir), (iA a0.Limbs.2.2.2.2.Level)]) ?_)
        refine .bd (g := fun (y : Int) => (iA y)) (h16 ((S_State.mk a0.X a0.Y a0.Face ((a0.Limbs.1, (S_Limb.mk a2.Dir a2.Level), a0.Limbs.2.2.1, a0.Limbs.2.2.2.1, a0.Limbs.2.2.2.2))))) fun y360 => ?_
        refine .st (v := (bA (y360 != 0))) (aBin_neq ..) ?_
        refine .biHN (fun hk361 => ?_) (fun hk361 => ?_)
        · refine .s (A.agg [(iA 0), (iA 0), (iA 0), (iA 0), (iA 0), (iA 0), (iA 0), (iA 0), (iA 0), (iA 0), (iA 0), (iA 0), (iA 0)]) (.s [Blk.box (c_S_State a0), Blk.box (c_S_Sign a1), Blk.box (c_S_Real a2), hk18_2, (hk18_1 y4 (selF y117)), Blk.box [(bA y160)], Blk.box [(iA 1), (iA 3)], Blk.box [(iA y4.2.2.2.2.2.2.2.2.1), (iA y4.2.2.2.2.2.2.2.2.2.1)], (hk18_3 y4), (hk18_8 a0 a2 a1)] (.s (A.agg [(iA 0), (iA 0), (iA 0), (iA 0), (iA 0), (iA 0), (iA 0), (iA 0), (iA 0), (iA 0), (iA 0), (iA 0), (iA 0)]) ?_))
          exact .lf rfl rfl ⟨_, rfl, rfl⟩
        refine .s (A.ptr 9 0) (.s (A.agg [(iA a0.X), (iA a0.Y), (iA a0.Face), (iA a0.Limbs.1.Dir), (iA a0.Limbs.1.Level), (iA a2.Dir), (iA a2.Level), (iA a0.Limbs.2.2.1.Dir), (iA a0.Limbs.2.2.1.Level), (iA a0.Limbs.2.2.2.1.Dir), (iA a0.Limbs.2.2.2.1.Level), (iA a0.Limbs.2.2.2.2.Dir), (iA a0.Limbs.2.2.2.2.Level)]) (.s [Blk.box (c_S_State a0), Blk.box (c_S_Sign a1), Blk.box (c_S_Real a2), Blk.box [(iA a0.X), (iA a0.Y), (iA a0.Face), (iA a0.Limbs.1.Dir), (iA a0.Limbs.1.Level), (iA a2.Dir), (iA a2.Level), (iA a0.Limbs.2.2.1.Dir), (iA a0.Limbs.2.2.1.Level), (iA a0.Limbs.2.2.2.1.Dir), (iA a0.Limbs.2.2.2.1.Level), (iA a0.Limbs.2.2.2.2.Dir), (iA a0.Limbs.2.2.2.2.Level)], (hk18_1 y4 (selF y117)), Blk.box [(bA y160)], Blk.box [(iA 1), (iA 3)], Blk.box [(iA y4.2.2.2.2.2.2.2.2.1), (iA y4.2.2.2.2.2.2.2.2.2.1)], (hk18_3 y4), (hk18_8 a0 a2 a1)] (.s (A.agg [(iA a0.X), (iA a0.Y), (iA a0.Face), (iA a0.Limbs.1.Dir), (iA a0.Limbs.1.Level), (iA a2.Dir), (iA a2.Level), (iA a0.Limbs.2.2.1.Dir), (iA a0.Limbs.2.2.1.Level), (iA a0.Limbs.2.2.2.1.Dir), (iA a0.Limbs.2.2.2.1.Level), (iA a0.Limbs.2.2.2.2.Dir), (iA a0.Limbs.2.2.2.2.Level)]) ?_)))
        exact .lf rfl rfl ⟨_, rfl, rfl⟩
      refine .sp (fun hb362 => ?_) (fun _ => ?_)
      · refine .st (v := (A.ptr 9 7)) (by rw [of_decide_eq_true hb362]; kernel_rfl) ?_
        refine .s [Blk.box (c_S_State a0), Blk.box (c_S_Sign a1), Blk.box (c_S_Real a2), hk18_2, (hk18_1 y4 (selF y117)), Blk.box [(bA y160)], Blk.box [(iA 1), (iA 3)], Blk.box [(iA y4.2.2.2.2.2.2.2.2.1), (iA y4.2.2.2.2.2.2.2.2.2.1)], (hk18_3 y4), (hk18_9 a0 a2 a1)] ?_
        refine .cr ?_
        refine .ok ?_
        refine .cr ?_
        refine .ok ?_
        refine .s (A.ptr 9 0) (.s (A.agg [(iA a0.X), (iA a0.Y), (iA a0.Face), (iA a0.Limbs.1.Dir), (iA a0.Limbs.1.Level), (iA a0.Limbs.2.1.Dir), (iA a0.Limbs.2.1.Level), (iA a2.Dir), (iA a2.Level), (iA a0.Limbs.2.2.2.1.Dir), (iA a0.Limbs.2.2.2.1.Level), (iA a0.Limbs.2.2.2.2.Dir), (iA a0.Limbs.2.2.2.2.Level)]) ?_)
        refine .bd (g := fun (y : Int) => (iA y)) (h16 ((S_State.mk a0.X a0.Y a0.Face ((a0.Limbs.1, a0.Limbs.2.1, (S_Limb.mk a2.Dir a2.Level), a0.Limbs.2.2.2.1, a0.Limbs.2.2.2.2))))) fun y363 => ?_
        refine .st (v := (bA (y363 != 0))) (aBin_neq ..) ?_
        refine .biHN (fun hk364 => ?_) (fun hk364 => ?_)
        · refine .s (A.agg [(iA 0), (iA 0), (iA 0), (iA 0), (iA 0), (iA 0), (iA 0), (iA 0), (iA 0), (iA 0), (iA 0), (iA 0), (iA 0)]) (.s [Blk.box (c_S_State a0), Blk.box (c_S_Sign a1), Blk.box (c_S_Real a2), hk18_2, (hk18_1 y4 (selF y117)), Blk.box [(bA y160)], Blk.box [(iA 1), (iA 3)], Blk.box [(iA y4.2.2.2.2.2.2.2.2.1), (iA y4.2.2.2.2.2.2.2.2.2.1)], (hk18_3 y4), (hk18_9 a0 a2 a1)] (.s (A.agg [(iA 0), (iA 0), (iA 0), (iA 0), (iA 0), (iA 0), (iA 0), (iA 0), (iA 0), (iA 0), (iA 0), (iA 0), (iA 0)]) ?_))
          exact .lf rfl rfl ⟨_, rfl, rfl⟩
        refine .s (A.ptr 9 0) (.s (A.agg [(iA a0.X), (iA a0.Y), (iA a0.Face), (iA a0.Limbs.1.Dir), (iA a0.Limbs.1.Level), (iA a0.Limbs.2.1.Dir), (iA a0.Limbs.2.1.Level), (iA a2.Dir), (iA a2.Level), (iA a0.Limbs.2.2.2.1.Dir), (iA a0.Limbs.2.2.2.1.Level), (iA a0.Limbs.2.2.2.2.Dir), (iA a0.Limbs.2.2.2.2.Level)]) (.s [Blk.box (c_S_State a0), Blk.box (c_S_Sign a1), Blk.box (c_S_Real a2), Blk.box [(iA a0.X), (iA a0.Y), (iA a0.Face), (iA a0.Limbs.1.Dir), (iA a0.Limbs.1.Level), (iA a0.Limbs.2.1.Dir), (iA a0.Limbs.2.1.Level), (iA a2.Dir), (iA a2.Level), (iA a0.Limbs.2.2.2.1.Dir), (iA a0.Limbs.2.2.2.1.Level), (iA a0.Limbs.2.2.2.2.Dir), (iA a0.Limbs.2.2.2.2.Level)], (hk18_1 y4 (selF y117)), Blk.box [(bA y160)], Blk.box [(iA 1), (iA 3)], Blk.box [(iA y4.2.2.2.2.2.2.2.2.1), (iA y4.2.2.2.2.2.2.2.2.2.1)], (hk18_3 y4), (hk18_9 a0 a2 a1)] (.s (A.agg [(iA a0.X), (iA a0.Y), (iA a0.Face), (iA a0.Limbs.1.Dir), (iA a0.Limbs.1.Level), (iA a0.Limbs.2.1.Dir), (iA a0.Limbs.2.1.Level), (iA a2.Dir), (iA a2.Level), (iA a0.Limbs.2.2.2.1.Dir), (iA a0.Limbs.2.2.2.1.Level), (iA a0.Limbs.2.2.2.2.Dir), (iA a0.Limbs.2.2.2.2.Level)]) ?_)))
        exact .lf rfl rfl ⟨_, rfl, rfl⟩
      refine .sp (fun hb365 => ?_) (fun _ => ?_)
      · refine .st (v := (A.ptr 9 9)) (by rw [of_decide_eq_true hb365]; kernel_rfl) ?_
        refine .s [Blk.box (c_S_State a0), Blk.box (c_S_Sign a1), Blk.box (c_S_Real a2), hk18_2, (hk18_1 y4 (selF y117)), Blk.box [(bA y160)], Blk.box [(iA 1), (iA 3)], Blk.box [(iA y4.2.2.2.2.2.2.2.2.1), (iA y4.2.2.2.2.2.2.2.2.2.1)], (hk18_3 y4), (hk18_10 a0 a2 a1)] ?_
        refine .cr ?_
        refine .ok ?_
        refine .cr ?_
        refine .ok ?_
        refine .s (A.ptr 9 0) (.s (A.agg [(iA a0.X), (iA a0.Y), (iA a0.Face), (iA a0.Limbs.1.Dir), (iA a0.Limbs.1.Level), (iA a0.Limbs.2.1.Dir), (iA a0.Limbs.2.1.Level), (iA a0.Limbs.2.2.1.Dir), (iA a0.Limbs.2.2.1.Level), (iA a2.Dir), (iA a2.Level), (iA a0.Limbs.2.2.2.2.Dir), (iA a0.Limbs.2.2.2.2.Level)]) ?_)
        refine .bd (g := fun (y : Int) => (iA y)) (h16 ((S_State.mk a0.X a0.Y a0.Face ((a0.Limbs.1, a0.Limbs.2.1, a0.Limbs.2.2.1, (S_Limb.mk a2.Dir a2.Level), a0.Limbs.2.2.2.2))))) fun y366 => ?_
        refine .st (v := (bA (y366 != 0))) (aBin_neq ..) ?_
        refine .biHN (fun hk367 => ?_) (fun hk367 => ?_)
        · refine .s (A.agg [(iA 0), (iA 0), (iA 0), (iA 0), (iA 0), (iA 0), (iA 0), (iA 0), (iA 0), (iA 0), (iA 0), (iA 0), (iA 0)]) (.s [Blk.box (c_S_State a0), Blk.box (c_S_Sign a1), Blk.box (c_S_Real a2), hk18_2, (hk18_1 y4 (selF y117)), Blk.box [(bA y160)], Blk.box [(iA 1), (iA 3)], Blk.box [(iA y4.2.2.2.2.2.2.2.2.1), (iA y4.2.2.2.2.2.2.2.2.2.1)], (hk18_3 y4), (hk18_10 a0 a2 a1)] (.s (A.agg [(iA 0), (iA 0), (iA 0), (iA 0), (iA 0), (iA 0), (iA 0), (iA 0), (iA 0), (iA 0), (iA 0), (iA 0), (iA 0)]) ?_))
          exact .lf rfl rfl ⟨_, rfl, rfl⟩
        refine .s (A.ptr 9 0) (.s (A.agg [(iA a0.X), (iA a0.Y), (iA a0.Face), (iA a0.Limbs.1.Dir), (iA a0.Limbs.1.Level), (iA a0.Limbs.2.1.Dir), (iA a0.Limbs.2.1.Level), (iA a0.Limbs.2.2.1.Dir), (iA a0.Limbs.2.2.1.Level), (iA a2.Dir), (iA a2.Level), (iA a0.Limbs.2.2.2.2.Dir), (iA a0.Limbs.2.2.2.2.Level)]) (.s [Blk.box (c_S_State a0), Blk.box (c_S_Sign a1), Blk.box (c_S_Real a2), Blk.box [(iA a0.X), (iA a0.Y), (iA a0.Face), (iA a0.Limbs.1.Dir), (iA a0.Limbs.1.Level), (iA a0.Limbs.2.1.Dir), (iA a0.Limbs.2.1.Level), (iA a0.Limbs.2.2.1.Dir), (iA a0.Limbs.2.2.1.Level), (iA a2.Dir), (iA a2.Level), (iA a0.Limbs.2.2.2.2.Dir), (iA a0.Limbs.2.2.2.2.Level)], (hk18_1 y4 (selF y117)), Blk.box [(bA y160)], Blk.box [(iA 1), (iA 3)], Blk.box [(iA y4.2.2.2.2.2.2.2.2.1), (iA y4.2.2.2.2.2.2.2.2.2.1)], (hk18_3 y4), (hk18_10 a0 a2 a1)] (.s (A.agg [(iA a0.X), (iA a0.Y), (iA a0.Face), (iA a0.Limbs.1.Dir), (iA a0.Limbs.1.Level), (iA a0.Limbs.2.1.Dir), (iA a0.Limbs.2.1.Level), (iA a0.Limbs.2.2.1.Dir), (iA a0.Limbs.2.2.1.Level), (iA a2.Dir), (iA a2.Level), (iA a0.Limbs.2.2.2.2.Dir), (iA a0.Limbs.2.2.2.2.Level)]) ?_)))
        exact .lf rfl rfl ⟨_, rfl, rfl⟩
      refine .sp (fun hb368 => ?_) (fun _ => ?_)
      · refine .st (v := (A.ptr 9 11)) (by rw [of_decide_eq_true hb368]; kernel_rfl) ?_
        refine .s [Blk.box (c_S_State a0), Blk.box (c_S_Sign a1), Blk.box (c_S_Real a2), hk18_2, (hk18_1 y4 (selF y117)), Blk.box [(bA y160)], Blk.box [(iA 1), (iA 3)], Blk.box [(iA y4.2.2.2.2.2.2.2.2.1), (iA y4.2.2.2.2.2.2.2.2.2.1)], (hk18_3 y4), (hk18_4 a0 a2 a1)] ?_
        refine .cr ?_
        refine .ok ?_
        refine .cr ?_
        refine .ok ?_
        refine .s (A.ptr 9 0) (.s (A.agg [(iA a0.X), (iA a0.Y), (iA a0.Face), (iA a0.Limbs.1.Dir), (iA a0.Limbs.1.Level), (iA a0.Limbs.2.1.Dir), (iA a0.Limbs.2.1.Level), (iA a0.Limbs.2.2.1.Dir), (iA a0.Limbs.2.2.1.Level), (iA a0.Limbs.2.2.2.1.Dir), (iA a0.Limbs.2.2.2.1.Level), (iA a2.Dir), (iA a2.Level)]) ?_)
        refine .bd (g := fun (y : Int) => (iA y)) (h16 ((S_State.mk a0.X a0.Y a0.Face ((a0.Limbs.1, a0.Limbs.2.1, a0.Limbs.2.2.1, a0.Limbs.2.2.2.1, (S_Limb.mk a2.Dir a2.Level)))))) fun y369 => ?_
        refine .st (v := (bA (y369 != 0))) (aBin_neq ..) ?_
        refine .biHN (fun hk370 => ?_) (fun hk370 => ?_)
        · refine .s (A.agg [(iA 0), (iA 0), (iA 0), (iA 0), (iA 0), (iA 0), (iA 0), (iA 0), (iA 0), (iA 0), (iA 0), (iA 0), (iA 0)]) (.s [Blk.box (c_S_State a0), Blk.box (c_S_Sign a1), Blk.box (c_S_Real a2), hk18_2, (hk18_1 y4 (selF y117)), Blk.box [(bA y160)], Blk.box [(iA 1), (iA 3)], Blk.box [(iA y4.2.2.2.2.2.2.2.2.1), (iA y4.2.2.2.2.2.2.2.2.2.1)], (hk18_3 y4), (hk18_4 a0 a2 a1)] (.s (A.agg [(iA 0), (iA 0), (iA 0), (iA 0), (iA 0), (iA 0), (iA 0), (iA 0), (iA 0), (iA 0), (iA 0), (iA 0), (iA 0)]) ?_))
          exact .lf rfl rfl ⟨_, rfl, rfl⟩
        refine .s (A.ptr 9 0) (.s (A.agg [(iA a0.X), (iA a0.Y), (iA a0.Face), (iA a0.Limbs.1.Dir), (iA a0.Limbs.1.Level), (iA a0.Limbs.2.1.Dir), (iA a0.Limbs.2.1.Level), (iA a0.Limbs.2.2.1.Dir), (iA a0.Limbs.2.2.1.Level), (iA a0.Limbs.2.2.2.1.Dir), (iA a0.Limbs.2.2.2.1.Level), (iA a2.Dir), (iA a2.Level)]) (.s [Blk.box (c_S_State a0), Blk.box (c_S_Sign a1), Blk.box (c_S_Real a2), (hk18_24 a0 a2), (hk18_1 y4 (selF y117)), Blk.box [(bA y160)], Blk.box [(iA 1), (iA 3)], Blk.box [(iA y4.2.2.2.2.2.2.2.2.1), (iA y4.2.2.2.2.2.2.2.2.2.1)], (hk18_3 y4), (hk18_4 a0 a2 a1)] (.s (A.agg [(iA a0.X), (iA a0.Y), (iA a0.Face), (iA a0.Limbs.1.Dir), (iA a0.Limbs.1.Level), (iA a0.Limbs.2.1.Dir), (iA a0.Limbs.2.1.Level), (iA a0.Limbs.2.2.1.Dir), (iA a0.Limbs.2.2.1.Level), (iA a0.Limbs.2.2.2.1.Dir), (iA a0.Limbs.2.2.2.1.Level), (iA a2.Dir), (iA a2.Level)]) ?_)))
        exact .lf rfl rfl ⟨_, rfl, rfl⟩
      exact .nn
    refine .sp (fun hb371 => ?_) (fun _ => ?_)
    · refine .ds 56 hb371 (by kernel_rfl) ?_
      refine .dC (by kernel_rfl) (by kernel_rfl) ?_
      refine .cl ((evCall_in lt_56).trans (e56 C (evCall (cx C) (n+7)) (evCallY (cx C) (n+7)) (n+7) _ _ _)) ?_
      refine .cl ((evCall_in lt_81).trans (e81 C (evCall (cx C) (n+6)) (evCallY (cx C) (n+6)) (n+6) _ _ _ _)) ?_
      refine .s (A.ptr 9 0) (.s (A.ptr 9 27) (.s (A.ptr 9 28) (.s (iA a2.Dir) (.s (A.ptr 9 0) (.s (A.ptr 9 27) (.s (A.ptr 9 29) (.s (iA a2.Level) (.s (A.agg [(iA a2.Dir), (iA a2.Level)]) (.s (A.ptr 9 0) (.s (A.ptr 9 0) (.s (A.ptr 9 3) (.s (A.ptr 9 11) ?_))))))))))))
      refine .s [Blk.box (c_S_State a0), Blk.box (c_S_Sign a1), Blk.box (c_S_Real a2), hk18_2, (hk18_1 y4 (selF y117)), Blk.box [(bA y160)], Blk.box [(iA 1), (iA 3)], Blk.box [(iA y4.2.2.2.2.2.2.2.2.1), (iA y4.2.2.2.2.2.2.2.2.2.1)], (hk18_3 y4), (hk18_4 a0 a2 a1)] ?_
      refine .cr ?_
      refine .ok ?_
      refine .cr ?_
      refine .ok ?_
      refine .s (A.ptr 9 0) (.s (A.agg [(iA a0.X), (iA a0.Y), (iA a0.Face), (iA a0.Limbs.1.Dir), (iA a0.Limbs.1.Level), (iA a0.Limbs.2.1.Dir), (iA a0.Limbs.2.1.Level), (iA a0.Limbs.2.2.1.Dir), (iA a0.Limbs.2.2.1.Level), (iA a0.Limbs.2.2.2.1.Dir), (iA a0.Limbs.2.2.2.1.Level), (iA a2.Dir), (iA a2.Level)]) ?_)
      refine .bd (g := fun (y : Int) => (iA y)) (h16 ((S_State.mk a0.X a0.Y a0.Face ((a0.Limbs.1, a0.Limbs.2.1, a0.Limbs.2.2.1, a0.Limbs.2.2.2.1, (S_Limb.mk a2.Dir a2.Level)))))) fun y372 => ?_
      refine .st (v := (bA (y372 != 0))) (aBin_neq ..) ?_
      refine .biHN (fun hk373 => ?_) (fun hk373 => ?_)
      · refine .s (A.agg [(iA 0), (iA 0), (iA 0), (iA 0), (iA 0), (iA 0), (iA 0), (iA 0), (iA 0), (iA 0), (iA 0), (iA 0), (iA 0)]) (.s [Blk.box (c_S_State a0), Blk.box (c_S_Sign a1), Blk.box (c_S_Real a2), hk18_2, (hk18_1 y4 (selF y117)), Blk.box [(bA y160)], Blk.box [(iA 1), (iA 3)], Blk.box [(iA y4.2.2.2.2.2.2.2.2.1), (iA y4.2.2.2.2.2.2.2.2.2.1)], (hk18_3 y4), (hk18_4 a0 a2 a1)] (.s (A.agg [(iA 0), (iA 0), (iA 0), (iA 0), (iA 0), (iA 0), (iA 0), (iA 0), (iA 0), (iA 0), (iA 0), (iA 0), (iA 0)]) ?_))
        exact .lf rfl rfl ⟨_, rfl, rfl⟩
      refine .s (A.ptr 9 0) (.s (A.agg [(iA a0.X), (iA a0.Y), (iA a0.Face), (iA a0.Limbs.1.Dir), (iA a0.Limbs.1.Level), (iA a0.Limbs.2.1.Dir), (iA a0.Limbs.2.1.Level), (iA a0.Limbs.2.2.1.Dir), (iA a0.Limbs.2.2.1.Level), (iA a0.Limbs.2.2.2.1.Dir), (iA a0.Limbs.2.2.2.1.Level), (iA a2.Dir), (iA a2.Level)]) (.s [Blk.box (c_S_State a0), Blk.box (c_S_Sign a1), Blk.box (c_S_Real a2), (hk18_24 a0 a2), (hk18_1 y4 (selF y117)), Blk.box [(bA y160)], Blk.box [(iA 1), (iA 3)], Blk.box [(iA y4.2.2.2.2.2.2.2.2.1), (iA y4.2.2.2.2.2.2.2.2.2.1)], (hk18_3 y4), (hk18_4 a0 a2 a1)] (.s (A.agg [(iA a0.X), (iA a0.Y), (iA a0.Face), (iA a0.Limbs.1.Dir), (iA a0.Limbs.1.Level), (iA a0.Limbs.2.1.Dir), (iA a0.Limbs.2.1.Level), (iA a0.Limbs.2.2.1.Dir), (iA a0.Limbs.2.2.1.Level), (iA a0.Limbs.2.2.2.1.Dir), (iA a0.Limbs.2.2.2.1.Level), (iA a2.Dir), (iA a2.Level)]) ?_)))
      exact .lf rfl rfl ⟨_, rfl, rfl⟩
    refine .sp (fun hb374 => ?_) (fun _ => ?_)
    · refine .ds 57 hb374 (by kernel_rfl) ?_
      refine .dC (by kernel_rfl) (by kernel_rfl) ?_
      refine .cl ((evCall_in lt_57).trans (e57 C (evCall (cx C) (n+7)) (evCallY (cx C) (n+7)) (n+7) _ _ _)) ?_
      refine .s (A.ptr 9 0) (.s (A.ptr 9 0) (.s (A.ptr 9 2) (.s (iA a0.Face) (.s (A.ptr 9 0) (.s (A.ptr 9 13) (.s (A.ptr 9 21) (.s (iA a1.Size) ?_)))))))
      refine .st (v := (iA (wr .i64 (a0.Face + a1.Size)))) (aBin_add ..) ?_
      refine .st (v := (iA (Int.tmod (wr .i64 (a0.Face + a1.Size)) 8))) (aBin_rem (hb := by decide) ..) ?_
      refine .s (A.ptr 9 0) (.s (A.ptr 9 0) (.s (A.ptr 9 2) (.s [Blk.box (c_S_State a0), Blk.box (c_S_Sign a1), Blk.box (c_S_Real a2), hk18_2, (hk18_1 y4 (selF y117)), Blk.box [(bA y160)], Blk.box [(iA 1), (iA 3)], Blk.box [(iA y4.2.2.2.2.2.2.2.2.1), (iA y4.2.2.2.2.2.2.2.2.2.1)], (hk18_3 y4), (hk18_23 a0 a1 a2)] ?_)))
      refine .cr ?_
      refine .ok ?_
      refine .s (A.ptr 9 0) (.s (A.agg [(iA a0.X), (iA a0.Y), (iA (Int.tmod (wr .i64 (a0.Face + a1.Size)) 8)), (iA a0.Limbs.1.Dir), (iA a0.Limbs.1.Level), (iA a0.Limbs.2.1.Dir), (iA a0.Limbs.2.1.Level), (iA a0.Limbs.2.2.1.Dir), (iA a0.Limbs.2.2.1.Level), (iA a0.Limbs.2.2.2.1.Dir), (iA a0.Limbs.2.2.2.1.Level), (iA a0.Limbs.2.2.2.2.Dir), (iA a0.Limbs.2.2.2.2.Level)]) ?_)
      refine .bd (g := fun (y : Int) => (iA y)) (h16 ((S_State.mk a0.X a0.Y (Int.tmod (wr .i64 (a0.Face + a1.Size)) 8) a0.Limbs))) fun y375 => ?_
      refine .st (v := (bA (y375 != 0))) (aBin_neq ..) ?_
      refine .biHN (fun hk376 => ?_) (fun hk376 => ?_)
      · refine .s (A.agg [(iA 0), (iA 0), (iA 0), (iA 0), (iA 0), (iA 0), (iA 0), (iA 0), (iA 0), (iA 0), (iA 0), (iA 0), (iA 0)]) (.s [Blk.box (c_S_State a0), Blk.box (c_S_Sign a1), Blk.box (c_S_Real a2), hk18_2, (hk18_1 y4 (selF y117)), Blk.box [(bA y160)], Blk.box [(iA 1), (iA 3)], Blk.box [(iA y4.2.2.2.2.2.2.2.2.1), (iA y4.2.2.2.2.2.2.2.2.2.1)], (hk18_3 y4), (hk18_23 a0 a1 a2)] (.s (A.agg [(iA 0), (iA 0), (iA 0), (iA 0), (iA 0), (iA 0), (iA 0), (iA 0), (iA 0), (iA 0), (iA 0), (iA 0), (iA 0)]) ?_))
        exact .lf rfl rfl ⟨_, rfl, rfl⟩
      refine .s (A.ptr 9 0) (.s (A.agg [(iA a0.X), (iA a0.Y), (iA (Int.tmod (wr .i64 (a0.Face + a1.Size)) 8)), (iA a0.Limbs.1.Dir), (iA a0.Limbs.1.Level), (iA a0.Limbs.2.1.Dir), (iA a0.Limbs.2.1.Level), (iA a0.Limbs.2.2.1.Dir), (iA a0.Limbs.2.2.1.Level), (iA a0.Limbs.2.2.2.1.Dir), (iA a0.Limbs.2.2.2.1.Level), (iA a0.Limbs.2.2.2.2.Dir), (iA a0.Limbs.2.2.2.2.Level)]) (.s [Blk.box (c_S_State a0), Blk.box (c_S_Sign a1), Blk.box (c_S_Real a2), Blk.box [(iA a0.X), (iA a0.Y), (iA (Int.tmod (wr .i64 (a0.Face + a1.Size)) 8)), (iA a0.Limbs.1.Dir), (iA a0.Limbs.1.Level), (iA a0.Limbs.2.1.Dir), (iA a0.Limbs.2.1.Level), (iA a0.Limbs.2.2.1.Dir), (iA a0.Limbs.2.2.1.Level), (iA a0.Limbs.2.2.2.1.Dir), (iA a0.Limbs.2.2.2.1.Level), (iA a0.Limbs.2.2.2.2.Dir), (iA a0.Limbs.2.2.2.2.Level)], (hk18_1 y4 (selF y117)), Blk.box [(bA y160)], Blk.box [(iA 1), (iA 3)], Blk.box [(iA y4.2.2.2.2.2.2.2.2.1), (iA y4.2.2.2.2.2.2.2.2.2.1)], (hk18_3 y4), (hk18_23 a0 a1 a2)] (.s (A.agg [(iA a0.X), (iA a0.Y), (iA (Int.tmod (wr .i64 (a0.Face + a1.Size)) 8)), (iA a0.Limbs.1.Dir), (iA a0.Limbs.1.Level), (iA a0.Limbs.2.1.Dir), (iA a0.Limbs.2.1.Level), (iA a0.Limbs.2.2.1.Dir), (iA a0.Limbs.2.2.1.Level), (iA a0.Limbs.2.2.2.1.Dir), (iA a0.Limbs.2.2.2.1.Level), (iA a0.Limbs.2.2.2.2.Dir), (iA a0.Limbs.2.2.2.2.Level)]) ?_)))
      exact .lf rfl rfl ⟨_, rfl, rfl⟩
    refine .sp (fun hb377 => ?_) (fun _ => ?_)
    · refine .ds 58 hb377 (by kernel_rfl) ?_
      refine .dC (by kernel_rfl) (by kernel_rfl) ?_
      refine .cl ((evCall_in lt_58).trans (e58 C (evCall (cx C) (n+7)) (evCallY (cx C) (n+7)) (n+7) _ _ _)) ?_
      refine .s (A.imm [[(iA 2)], [(iA 3)]] true) ?_
      refine .cl ((evCall_in lt_80).trans (e80 C (evCall (cx C) (n+6)) (evCallY (cx C) (n+6)) (n+6) _ _ _ _)) ?_
      refine .s (iA 2) ?_
      refine .as (T18_80_0b C n h16 h24 h29 h33 h86 ([2, 3]) 2 a0 a1 a2 0 0 0 0 0 0 0 0 0 0 0 0 0 y4.1 y4.2.1 y4.2.2.1 y4.2.2.2.1 y4.2.2.2.2.1 y4.2.2.2.2.2.1 y4.2.2.2.2.2.2.1 y4.2.2.2.2.2.2.2.1 y4.2.2.2.2.2.2.2.2.1 y4.2.2.2.2.2.2.2.2.2.1 y4.2.2.2.2.2.2.2.2.2.2.1 y4.2.2.2.2.2.2.2.2.2.2.2.1 y117 y160 1 3 y4.2.2.2.2.2.2.2.2.1 y4.2.2.2.2.2.2.2.2.2.1 y4.2.2.2.2.2.2.2.2.2.2.1 y4.2.2.2.2.2.2.2.2.2.2.2.1 a1 a2 _ _ _ _ ?_ _ 0 a0)
      · intro y428 y429 y430 y431 y432 y433 y434 y435 y436 y437 y438 y439 y440 y441 j442 j443 j444 j445
        refine .un rfl ?_
        refine .cT (by kernel_rfl) ?_
        refine .cr ?_
        refine .ok ?_
        refine .cr ?_
        refine .ok ?_
        refine .s (A.ptr 9 0) (.s (A.agg [(iA y429), (iA y430), (iA y431), (iA y432), (iA y433), (iA y434), (iA y435), (iA y436), (iA y437), (iA y438), (iA y439), (iA y440), (iA y441)]) ?_)
        refine .bd (g := fun (y : Int) => (iA y)) (h16 ((S_State.mk y429 y430 y431 (((S_Limb.mk y432 y433), (S_Limb.mk y434 y435), (S_Limb.mk y436 y437), (S_Limb.mk y438 y439), (S_Limb.mk y440 y441)))))) fun y446 => ?_
        refine .st (v := (bA (y446 != 0))) (aBin_neq ..) ?_
        refine .biHN (fun hk447 => ?_) (fun hk447 => ?_)
        · refine .s (A.agg [(iA 0), (iA 0), (iA 0), (iA 0), (iA 0), (iA 0), (iA 0), (iA 0), (iA 0), (iA 0), (iA 0), (iA 0), (iA 0)]) (.s [Blk.box (c_S_State a0), Blk.box (c_S_Sign a1), Blk.box (c_S_Real a2), hk18_2, Blk.box [(iA y4.1), (iA y4.2.1), (iA y4.2.2.1), (iA y4.2.2.2.1), (iA y4.2.2.2.2.1), (iA y4.2.2.2.2.2.1), (iA y4.2.2.2.2.2.2.1), (iA y4.2.2.2.2.2.2.2.1), (iA y4.2.2.2.2.2.2.2.2.1), (iA y4.2.2.2.2.2.2.2.2.2.1), (iA y4.2.2.2.2.2.2.2.2.2.2.1), (iA y4.2.2.2.2.2.2.2.2.2.2.2.1), (selF y428)], Blk.box [(bA y160)], Blk.box [(iA 1), (iA 3)], Blk.box [(iA y4.2.2.2.2.2.2.2.2.1), (iA y4.2.2.2.2.2.2.2.2.2.1)], (hk18_3 y4), Blk.box ([(iA y429), (iA y430), (iA y431), (iA y432), (iA y433), (iA y434), (iA y435), (iA y436), (iA y437), (iA y438), (iA y439), (iA y440), (iA y441)] ++ c_S_Sign a1 ++ c_S_Real a2)] (.s (A.agg [(iA 0), (iA 0), (iA 0), (iA 0), (iA 0), (iA 0), (iA 0), (iA 0), (iA 0), (iA 0), (iA 0), (iA 0), (iA 0)]) ?_))
          exact .lf rfl rfl ⟨_, rfl, rfl⟩
        refine .s (A.ptr 9 0) (.s (A.agg [(iA y429), (iA y430), (iA y431), (iA y432), (iA y433), (iA y434), (iA y435), (iA y436), (iA y437), (iA y438), (iA y439), (iA y440), (iA y441)]) (.s [Blk.box (c_S_State a0), Blk.box (c_S_Sign a1), Blk.box (c_S_Real a2), Blk.box [(iA y429), (iA y430), (iA y431), (iA y432), (iA y433), (iA y434), (iA y435), (iA y436), (iA y437), (iA y438), (iA y439), (iA y440), (iA y441)], Blk.box [(iA y4.1), (iA y4.2.1), (iA y4.2.2.1), (iA y4.2.2.2.1), (iA y4.2.2.2.2.1), (iA y4.2.2.2.2.2.1), (iA y4.2.2.2.2.2.2.1), (iA y4.2.2.2.2.2.2.2.1), (iA y4.2.2.2.2.2.2.2.2.1), (iA y4.2.2.2.2.2.2.2.2.2.1), (iA y4.2.2.2.2.2.2.2.2.2.2.1), (iA y4.2.2.2.2.2.2.2.2.2.2.2.1), (selF y428)], Blk.box [(bA y160)], Blk.box [(iA 1), (iA 3)], Blk.box [(iA y4.2.2.2.2.2.2.2.2.1), (iA y4.2.2.2.2.2.2.2.2.2.1)], (hk18_3 y4), Blk.box ([(iA y429), (iA y430), (iA y431), (iA y432), (iA y433), (iA y434), (iA y435), (iA y436), (iA y437), (iA y438), (iA y439), (iA y440), (iA y441)] ++ c_S_Sign a1 ++ c_S_Real a2)] (.s (A.agg [(iA y429), (iA y430), (iA y431), (iA y432), (iA y433), (iA y434), (iA y435), (iA y436), (iA y437), (iA y438), (iA y439), (iA y440), (iA y441)]) ?_)))
        exact .lf rfl rfl ⟨_, rfl, rfl⟩
    refine .sp (fun hb448 => ?_) (fun _ => ?_)
    · refine .ds 59 hb448 (by kernel_rfl) ?_
      refine .dC (by kernel_rfl) (by kernel_rfl) ?_
      refine .cl ((evCall_in lt_59).trans (e59 C (evCall (cx C) (n+7)) (evCallY (cx C) (n+7)) (n+7) _ _ _)) ?_
      refine .s (A.imm [[(iA 0)], [(iA 1)]] true) ?_
      refine .cl ((evCall_in lt_80).trans (e80 C (evCall (cx C) (n+6)) (evCallY (cx C) (n+6)) (n+6) _ _ _ _)) ?_
      refine .s (iA 2) ?_
      refine .as (T18_80_0b C n h16 h24 h29 h33 h86 ([0, 1]) 2 a0 a1 a2 0 0 0 0 0 0 0 0 0 0 0 0 0 y4.1 y4.2.1 y4.2.2.1 y4.2.2.2.1 y4.2.2.2.2.1 y4.2.2.2.2.2.1 y4.2.2.2.2.2.2.1 y4.2.2.2.2.2.2.2.1 y4.2.2.2.2.2.2.2.2.1 y4.2.2.2.2.2.2.2.2.2.1 y4.2.2.2.2.2.2.2.2.2.2.1 y4.2.2.2.2.2.2.2.2.2.2.2.1 y117 y160 1 3 y4.2.2.2.2.2.2.2.2.1 y4.2.2.2.2.2.2.2.2.2.1 y4.2.2.2.2.2.2.2.2.2.2.1 y4.2.2.2.2.2.2.2.2.2.2.2.1 a1 a2 _ _ _ _ ?_ _ 0 a0)
      · intro y499 y500 y501 y502 y503 y504 y505 y506 y507 y508 y509 y510 y511 y512 j513 j514 j515 j516
        refine .un rfl ?_
        refine .cT (by kernel_rfl) ?_
        refine .cr ?_
        refine .ok ?_
        refine .cr ?_
        refine .ok ?_
        refine .s (A.ptr 9 0) (.s (A.agg [(iA y500), (iA y501), (iA y502), (iA y503), (iA y504), (iA y505), (iA y506), (iA y507), (iA y508), (iA y509), (iA y510), (iA y511), (iA y512)]) ?_)
        refine .bd (g := fun (y : Int) => (iA y)) (h16 ((S_State.mk y500 y501 y502 (((S_Limb.mk y503 y504), (S_Limb.mk y505 y506), (S_Limb.mk y507 y508), (S_Limb.mk y509 y510), (S_Limb.mk y511 y512)))))) fun y517 => ?_
        refine .st (v := (bA (y517 != 0))) (aBin_neq ..) ?_
        refine .biHN (fun hk518 => ?_) (fun hk518 => ?_)
        · refine .s (A.agg [(iA 0), (iA 0), (iA 0), (iA 0), (iA 0), (iA 0), (iA 0), (iA 0), (iA 0), (iA 0), (iA 0), (iA 0), (iA 0)]) (.s [Blk.box (c_S_State a0), Blk.box (c_S_Sign a1), Blk.box (c_S_Real a2), hk18_2, Blk.box [(iA y4.1), (iA y4.2.1), (iA y4.2.2.1), (iA y4.2.2.2.1), (iA y4.2.2.2.2.1), (iA y4.2.2.2.2.2.1), (iA y4.2.2.2.2.2.2.1), (iA y4.2.2.2.2.2.2.2.1), (iA y4.2.2.2.2.2.2.2.2.1), (iA y4.2.2.2.2.2.2.2.2.2.1), (iA y4.2.2.2.2.2.2.2.2.2.2.1), (iA y4.2.2.2.2.2.2.2.2.2.2.2.1), (selF y499)], Blk.box [(bA y160)], Blk.box [(iA 1), (iA 3)], Blk.box [(iA y4.2.2.2.2.2.2.2.2.1), (iA y4.2.2.2.2.2.2.2.2.2.1)], (hk18_3 y4), Blk.box ([(iA y500), (iA y501), (iA y502), (iA y503), (iA y504), (iA y505), (iA y506), (iA y507), (iA y508), (iA y509), (iA y510), (iA y511), (iA y512)] ++ c_S_Sign a1 ++ c_S_Real a2)] (.s (A.agg [(iA 0), (iA 0), (iA 0), (iA 0), (iA 0), (iA 0), (iA 0), (iA 0), (iA 0), (iA 0), (iA 0), (iA 0), (iA 0)]) ?_))
          exact .lf rfl rfl ⟨_, rfl, rfl⟩
        refine .s (A.ptr 9 0) (.s (A.agg [(iA y500), (iA y501), (iA y502), (iA y503), (iA y504), (iA y505), (iA y506), (iA y507), (iA y508), (iA y509), (iA y510), (iA y511), (iA y512)]) (.s [Blk.box (c_S_State a0), Blk.box (c_S_Sign a1), Blk.box (c_S_Real a2), Blk.box [(iA y500), (iA y501), (iA y502), (iA y503), (iA y504), (iA y505), (iA y506), (iA y507), (iA y508), (iA y509), (iA y510), (iA y511), (iA y512)], Blk.box [(iA y4.1), (iA y4.2.1), (iA y4.2.2.1), (iA y4.2.2.2.1), (iA y4.2.2.2.2.1), (iA y4.2.2.2.2.2.1), (iA y4.2.2.2.2.2.2.1), (iA y4.2.2.2.2.2.2.2.1), (iA y4.2.2.2.2.2.2.2.2.1), (iA y4.2.2.2.2.2.2.2.2.2.1), (iA y4.2.2.2.2.2.2.2.2.2.2.1), (iA y4.2.2.2.2.2.2.2.2.2.2.2.1), (selF y499)], Blk.box [(bA y160)], Blk.box [(iA 1), (iA 3)], Blk.box [(iA y4.2.2.2.2.2.2.2.2.1), (iA y4.2.2.2.2.2.2.2.2.2.1)], (hk18_3 y4), Blk.box ([(iA y500), (iA y501), (iA y502), (iA y503), (iA y504), (iA y505), (iA y506), (iA y507), (iA y508), (iA y509), (iA y510), (iA y511), (iA y512)] ++ c_S_Sign a1 ++ c_S_Real a2)] (.s (A.agg [(iA y500), (iA y501), (iA y502), (iA y503), (iA y504), (iA y505), (iA y506), (iA y507), (iA y508), (iA y509), (iA y510), (iA y511), (iA y512)]) ?_)))
        exact .lf rfl rfl ⟨_, rfl, rfl⟩
    refine .sp (fun hb519 => ?_) (fun _ => ?_)
    · refine .ds 60 hb519 (by kernel_rfl) ?_
      refine .dC (by kernel_rfl) (by kernel_rfl) ?_
      refine .cl ((evCall_in lt_60).trans (e60 C (evCall (cx C) (n+7)) (evCallY (cx C) (n+7)) (n+7) _ _ _)) ?_
      refine .s (A.ptr 9 0) (.s (A.ptr 9 13) (.s (A.ptr 9 18) (.s (iA a1.Side) ?_)))
      refine .st (v := (iA (wr .i64 (a1.Side + 1)))) (aBin_add ..) ?_
      refine .s (A.imm [[(iA (wr .i64 (a1.Side + 1)))]] true) ?_
      refine .cl ((evCall_in lt_80).trans (e80 C (evCall (cx C) (n+6)) (evCallY (cx C) (n+6)) (n+6) _ _ _ _)) ?_
      refine .s (iA 1) ?_
      refine .as (T18_80_0b C n h16 h24 h29 h33 h86 ([wr .i64 (a1.Side + 1)]) 1 a0 a1 a2 0 0 0 0 0 0 0 0 0 0 0 0 0 y4.1 y4.2.1 y4.2.2.1 y4.2.2.2.1 y4.2.2.2.2.1 y4.2.2.2.2.2.1 y4.2.2.2.2.2.2.1 y4.2.2.2.2.2.2.2.1 y4.2.2.2.2.2.2.2.2.1 y4.2.2.2.2.2.2.2.2.2.1 y4.2.2.2.2.2.2.2.2.2.2.1 y4.2.2.2.2.2.2.2.2.2.2.2.1 y117 y160 1 3 y4.2.2.2.2.2.2.2.2.1 y4.2.2.2.2.2.2.2.2.2.1 y4.2.2.2.2.2.2.2.2.2.2.1 y4.2.2.2.2.2.2.2.2.2.2.2.1 a1 a2 _ _ _ _ ?_ _ 0 a0)
      · intro y570 y571 y572 y573 y574 y575 y576 y577 y578 y579 y580 y581 y582 y583 j584 j585 j586 j587
        refine .un rfl ?_
        refine .cT (by kernel_rfl) ?_
        refine .cr ?_
        refine .ok ?_
        refine .cr ?_
        refine .ok ?_
        refine .s (A.ptr 9 0) (.s (A.agg [(iA y571), (iA y572), (iA y573), (iA y574), (iA y575), (iA y576), (iA y577), (iA y578), (iA y579), (iA y580), (iA y581), (iA y582), (iA y583)]) ?_)
        refine .bd (g := fun (y : Int) => (iA y)) (h16 ((S_State.mk y571 y572 y573 (((S_Limb.mk y574 y575), (S_Limb.mk y576 y577), (S_Limb.mk y578 y579), (S_Limb.mk y580 y581), (S_Limb.mk y582 y583)))))) fun y588 => ?_
        refine .st (v := (bA (y588 != 0))) (aBin_neq ..) ?_
        refine .biHN (fun hk589 => ?_) (fun hk589 => ?_)
        · refine .s (A.agg [(iA 0), (iA 0), (iA 0), (iA 0), (iA 0), (iA 0), (iA 0), (iA 0), (iA 0), (iA 0), (iA 0), (iA 0), (iA 0)]) (.s [Blk.box (c_S_State a0), Blk.box (c_S_Sign a1), Blk.box (c_S_Real a2), hk18_2, Blk.box [(iA y4.1), (iA y4.2.1), (iA y4.2.2.1), (iA y4.2.2.2.1), (iA y4.2.2.2.2.1), (iA y4.2.2.2.2.2.1), (iA y4.2.2.2.2.2.2.1), (iA y4.2.2.2.2.2.2.2.1), (iA y4.2.2.2.2.2.2.2.2.1), (iA y4.2.2.2.2.2.2.2.2.2.1), (iA y4.2.2.2.2.2.2.2.2.2.2.1), (iA y4.2.2.2.2.2.2.2.2.2.2.2.1), (selF y570)], Blk.box [(bA y160)], Blk.box [(iA 1), (iA 3)], Blk.box [(iA y4.2.2.2.2.2.2.2.2.1), (iA y4.2.2.2.2.2.2.2.2.2.1)], (hk18_3 y4), Blk.box ([(iA y571), (iA y572), (iA y573), (iA y574), (iA y575), (iA y576), (iA y577), (iA y578), (iA y579), (iA y580), (iA y581), (iA y582), (iA y583)] ++ c_S_Sign a1 ++ c_S_Real a2)] (.s (A.agg [(iA 0), (iA 0), (iA 0), (iA 0), (iA 0), (iA 0), (iA 0), (iA 0), (iA 0), (iA 0), (iA 0), (iA 0), (iA 0)]) ?_))
          exact .lf rfl rfl ⟨_, rfl, rfl⟩
        refine .s (A.ptr 9 0) (.s (A.agg [(iA y571), (iA y572), (iA y573), (iA y574), (iA y575), (iA y576), (iA y577), (iA y578), (iA y579), (iA y580), (iA y581), (iA y582), (iA y583)]) (.s [Blk.box (c_S_State a0), Blk.box (c_S_Sign a1), Blk.box (c_S_Real a2), Blk.box [(iA y571), (iA y572), (iA y573), (iA y574), (iA y575), (iA y576), (iA y577), (iA y578), (iA y579), (iA y580), (iA y581), (iA y582), (iA y583)], Blk.box [(iA y4.1), (iA y4.2.1), (iA y4.2.2.1), (iA y4.2.2.2.1), (iA y4.2.2.2.2.1), (iA y4.2.2.2.2.2.1), (iA y4.2.2.2.2.2.2.1), (iA y4.2.2.2.2.2.2.2.1), (iA y4.2.2.2.2.2.2.2.2.1), (iA y4.2.2.2.2.2.2.2.2.2.1), (iA y4.2.2.2.2.2.2.2.2.2.2.1), (iA y4.2.2.2.2.2.2.2.2.2.2.2.1), (selF y570)], Blk.box [(bA y160)], Blk.box [(iA 1), (iA 3)], Blk.box [(iA y4.2.2.2.2.2.2.2.2.1), (iA y4.2.2.2.2.2.2.2.2.2.1)], (hk18_3 y4), Blk.box ([(iA y571), (iA y572), (iA y573), (iA y574), (iA y575), (iA y576), (iA y577), (iA y578), (iA y579), (iA y580), (iA y581), (iA y582), (iA y583)] ++ c_S_Sign a1 ++ c_S_Real a2)] (.s (A.agg [(iA y571), (iA y572), (iA y573), (iA y574), (iA y575), (iA y576), (iA y577), (iA y578), (iA y579), (iA y580), (iA y581), (iA y582), (iA y583)]) ?_)))
        exact .lf rfl rfl ⟨_, rfl, rfl⟩
    exact .nn
def G18 (a0 : S_State) (a1 : S_Sign) (a2 : S_Real) : Option (S_State × Int) := F18 fuel0 a0 a1 a2
def Orc18 (C : Nat → List A → Option A) : Prop := ∀ (a0 : S_State) (a1 : S_Sign) (a2 : S_Real), C 18 [(A.agg (c_S_State a0)), (A.agg (c_S_Sign a1)), (A.agg (c_S_Real a2))] = (G18 a0 a1 a2).map fun y => (A.tup [(A.agg [(iA y.1.X), (iA y.1.Y), (iA y.1.Face), (iA y.1.Limbs.1.Dir), (iA y.1.Limbs.1.Level), (iA y.1.Limbs.2.1.Dir), (iA y.1.Limbs.2.1.Level), (iA y.1.Limbs.2.2.1.Dir), (iA y.1.Limbs.2.2.1.Level), (iA y.1.Limbs.2.2.2.1.Dir), (iA y.1.Limbs.2.2.2.1.Level), (iA y.1.Limbs.2.2.2.2.Dir), (iA y.1.Limbs.2.2.2.2.Level)]), (iA y.2)])
def F28 (n : Nat)  : Option S_Body :=
  some ((S_Body.mk ((ByteArray.mk #[100])) 60 40 1 3 2 ((4, 3, 2)) ((100, 100, 100)) ((3, 3, 3)) 500 100))
theorem T28 (C : Nat → List A → Option A) (n : Nat) : J (fun (o : R) y => ∃ v, o.1 = .ret v ∧ snapE o.2 v = (A.agg [(A.v (Value.string y.Name)), (iA y.Weight), (iA y.Lift), (iA y.Girth), (iA y.Step), (iA y.Jump), (iA y.Reach.1), (iA y.Reach.2.1), (iA y.Reach.2.2), (iA y.Speed.1), (iA y.Speed.2.1), (iA y.Speed.2.2), (iA y.Top.1), (iA y.Top.2.1), (iA y.Top.2.2), (iA y.Effort), (iA y.Recover)])) (evCall1 (cx C) (evCall (cx C) (n+8)) (evCallY (cx C) (n+8)) (n+8) 28 [] [] 0) some (F28 n ) some := by
  refine .lp (e28 ..) ?_
  unfold F28
  refine .s ((A.ptr 0 0), [Blk.box [(A.v (Value.string ByteArray.empty)), (iA 0), (iA 0), (iA 0), (iA 0), (iA 0), (iA 0), (iA 0), (iA 0), (iA 0), (iA 0), (iA 0), (iA 0), (iA 0), (iA 0), (iA 0), (iA 0)]]) (.s (A.agg [(iA 4), (iA 3), (iA 2)]) (.s (A.agg [(iA 100), (iA 100), (iA 100)]) (.s (A.agg [(iA 3), (iA 3), (iA 3)]) (.s (A.agg [(A.v (Value.string ((ByteArray.mk #[100])))), (iA 60), (iA 40), (iA 1), (iA 3), (iA 2), (iA 4), (iA 3), (iA 2), (iA 100), (iA 100), (iA 100), (iA 3), (iA 3), (iA 3), (iA 500), (iA 100)]) (.s [Blk.box [(A.v (Value.string ((ByteArray.mk #[100])))), (iA 60), (iA 40), (iA 1), (iA 3), (iA 2), (iA 4), (iA 3), (iA 2), (iA 100), (iA 100), (iA 100), (iA 3), (iA 3), (iA 3), (iA 500), (iA 100)]] (.s (A.agg [(A.v (Value.string ((ByteArray.mk #[100])))), (iA 60), (iA 40), (iA 1), (iA 3), (iA 2), (iA 4), (iA 3), (iA 2), (iA 100), (iA 100), (iA 100), (iA 3), (iA 3), (iA 3), (iA 500), (iA 100)]) ?_))))))
  exact .lf rfl rfl ⟨_, rfl, rfl⟩
def G28  : Option S_Body := F28 fuel0
def Orc28 (C : Nat → List A → Option A) : Prop := ∀ (_ : Unit), C 28 [] = (G28 ).map fun y => (A.agg [(A.v (Value.string y.Name)), (iA y.Weight), (iA y.Lift), (iA y.Girth), (iA y.Step), (iA y.Jump), (iA y.Reach.1), (iA y.Reach.2.1), (iA y.Reach.2.2), (iA y.Speed.1), (iA y.Speed.2.1), (iA y.Speed.2.2), (iA y.Top.1), (iA y.Top.2.1), (iA y.Top.2.2), (iA y.Effort), (iA y.Recover)])
def G85 (a0 : ByteArray) (a1 : Int) : Option Int := some (Lib.indexByte a0.data.toList a1.toNat.toUInt8)
def Orc85 (C : Nat → List A → Option A) : Prop := ∀ (a0 : ByteArray) (a1 : Int), C 85 [(A.v (Value.string a0)), (uA a1)] = (G85 a0 a1).map fun y => (iA y)
def F72 (n : Nat) (a0 : Int) : Option Int :=
  Option.bind (bif (decide (97 ≤ a0)) then (some (decide (a0 ≤ 122))) else (some false)) fun y2 => Option.bind (bif y2 then (some true) else (Option.bind (bif (decide (65 ≤ a0)) then (some (decide (a0 ≤ 90))) else (some false)) fun y7 => some y7)) fun y10 => bif y10 then (some 2) else (Option.bind (bif (decide (48 ≤ a0)) then (some (decide (a0 ≤ 57))) else (some false)) fun y19 => bif y19 then (some 3) else (bif (a0 == 95) then (some 5) else (Option.bind (bif (a0 == 32) then (some true) else (some (a0 == 9))) fun y25 => Option.bind (bif y25 then (some true) else (some (a0 == 10))) fun y29 => Option.bind (bif y29 then (some true) else (some (a0 == 13))) fun y33 => bif y33 then (some 1) else (Option.bind (G85 ((ByteArray.mk #[123, 125, 40, 41, 59, 44, 61, 58, 46, 60, 62, 33, 43, 45, 42, 47])) a0) fun y37 => bif (decide (0 ≤ y37)) then (some 4) else (some 0)))))
theorem T72 (C : Nat → List A → Option A) (n : Nat) (h85 : Orc85 C) (a0 : Int) : J (fun (o : R) y => ∃ v, o.1 = .ret v ∧ snapE o.2 v = (iA y)) (evCall1 (cx C) (evCall (cx C) (n+8)) (evCallY (cx C) (n+8)) (n+8) 72 [(uA a0)] [] 0) some (F72 n a0) some := by
  refine .lp (e72 ..) ?_
  unfold F72
  refine .st (v := (bA (decide (97 ≤ a0)))) (aBin_geq ..) ?_
  refine .bg (fun t (y : Bool) => ∃ j3 j4 : A, t = [(bA y), j3, j4]) ?_ ?_
  · refine .biH (fun hk1 => ?_) (fun hk1 => ?_)
    · refine .st (v := (bA (decide (a0 ≤ 122)))) (aBin_leq ..) ?_
      exact .lg ⟨_, _, rfl⟩
    exact .lg ⟨_, _, rfl⟩
  rintro _ y2 ⟨j3, j4, rfl⟩
  iterate 3 refine .uc ?_
  refine .bg (fun t (y : Bool) => ∃ j11 j12 j13 j14 j15 j16 : A, t = [(bA y), j11, j12, j13, j14, j15, j16]) ?_ ?_
  · refine .biH (fun hk5 => ?_) (fun hk5 => ?_)
    · exact .lg ⟨_, _, _, _, _, _, rfl⟩
    refine .st (v := (bA (decide (65 ≤ a0)))) (aBin_geq ..) ?_
    refine .bg (fun t (y : Bool) => ∃ j8 j9 : A, t = [(bA y), j8, j9]) ?_ ?_
    · refine .biH (fun hk6 => ?_) (fun hk6 => ?_)
      · refine .st (v := (bA (decide (a0 ≤ 90)))) (aBin_leq ..) ?_
        exact .lg ⟨_, _, rfl⟩
      exact .lg ⟨_, _, rfl⟩
    rintro _ y7 ⟨j8, j9, rfl⟩
    iterate 3 refine .uc ?_
    exact .lg ⟨_, _, _, _, _, _, rfl⟩
  rintro _ y10 ⟨j11, j12, j13, j14, j15, j16, rfl⟩
  iterate 7 refine .uc ?_
  refine .biHN (fun hk17 => ?_) (fun hk17 => ?_)
  · exact .lf rfl rfl ⟨_, rfl, rfl⟩
  refine .st (v := (bA (decide (48 ≤ a0)))) (aBin_geq ..) ?_
  refine .bg (fun t (y : Bool) => ∃ j20 j21 : A, t = [(bA y), j20, j21]) ?_ ?_
  · refine .biH (fun hk18 => ?_) (fun hk18 => ?_)
    · refine .st (v := (bA (decide (a0 ≤ 57)))) (aBin_leq ..) ?_
      exact .lg ⟨_, _, rfl⟩
    exact .lg ⟨_, _, rfl⟩
  rintro _ y19 ⟨j20, j21, rfl⟩
  iterate 3 refine .uc ?_
  refine .biHN (fun hk22 => ?_) (fun hk22 => ?_)
  · exact .lf rfl rfl ⟨_, rfl, rfl⟩
  refine .st (v := (bA (a0 == 95))) (aBin_eql ..) ?_
  refine .biHN (fun hk23 => ?_) (fun hk23 => ?_)
  · exact .lf rfl rfl ⟨_, rfl, rfl⟩
  refine .st (v := (bA (a0 == 32))) (aBin_eql ..) ?_
  refine .bg (fun t (y : Bool) => ∃ j26 j27 : A, t = [(bA y), j26, j27]) ?_ ?_
  · refine .biH (fun hk24 => ?_) (fun hk24 => ?_)
    · exact .lg ⟨_, _, rfl⟩
    refine .st (v := (bA (a0 == 9))) (aBin_eql ..) ?_
    exact .lg ⟨_, _, rfl⟩
  rintro _ y25 ⟨j26, j27, rfl⟩
  iterate 3 refine .uc ?_
  refine .bg (fun t (y : Bool) => ∃ j30 j31 : A, t = [(bA y), j30, j31]) ?_ ?_
  · refine .biH (fun hk28 => ?_) (fun hk28 => ?_)
    · exact .lg ⟨_, _, rfl⟩
    refine .st (v := (bA (a0 == 10))) (aBin_eql ..) ?_
    exact .lg ⟨_, _, rfl⟩
  rintro _ y29 ⟨j30, j31, rfl⟩
  iterate 3 refine .uc ?_
  refine .bg (fun t (y : Bool) => ∃ j34 j35 : A, t = [(bA y), j34, j35]) ?_ ?_
  · refine .biH (fun hk32 => ?_) (fun hk32 => ?_)
    · exact .lg ⟨_, _, rfl⟩
    refine .st (v := (bA (a0 == 13))) (aBin_eql ..) ?_
    exact .lg ⟨_, _, rfl⟩
  rintro _ y33 ⟨j34, j35, rfl⟩
  iterate 3 refine .uc ?_
  refine .biHN (fun hk36 => ?_) (fun hk36 => ?_)
  · exact .lf rfl rfl ⟨_, rfl, rfl⟩
  refine .bd (g := fun (y : Int) => (iA y)) (h85 ((ByteArray.mk #[123, 125, 40, 41, 59, 44, 61, 58, 46, 60, 62, 33, 43, 45, 42, 47])) a0) fun y37 => ?_
  refine .st (v := (bA (decide (0 ≤ y37)))) (aBin_geq ..) ?_
  refine .biHN (fun hk38 => ?_) (fun hk38 => ?_)
  · exact .lf rfl rfl ⟨_, rfl, rfl⟩
  exact .lf rfl rfl ⟨_, rfl, rfl⟩
def G72 (a0 : Int) : Option Int := F72 fuel0 a0
def Orc72 (C : Nat → List A → Option A) : Prop := ∀ (a0 : Int), C 72 [(uA a0)] = (G72 a0).map fun y => (iA y)
def F43_43_0 (n : Nat) (v15 : ByteArray) (v16 : Bool) (v17 : Int) : Nat → Int → Option ((Bool) ⊕ (Unit))
  | 0, _ => none
  | m + 1, v18 => bif (decide (v18 < v17)) then (Option.bind (getI (bstrL v15) v18) fun y20 => Option.bind (G72 ((y20.toNat : Int))) fun y21 => Option.bind (bif (y21 != 2) then (some (y21 != 3)) else (some false)) fun y23 => Option.bind (bif y23 then (some (y21 != 5)) else (some false)) fun y27 => bif y27 then (some ((Sum.inl false))) else (F43_43_0 n v15 v16 v17 m (wr .i64 (v18 + 1)))) else (some ((Sum.inr (()))))
theorem T43_43_0 (C : Nat → List A → Option A) (n : Nat) (h72 : Orc72 C) (v15 : ByteArray) (v16 : Bool) (v17 : Int) {ρ γ : Type} {φ : ρ → γ → Prop} {kL : R → Option ρ} {K : ((Bool) ⊕ (Unit)) → Option γ} (kx kg : Nat → St → Option R) (kr : St → Option R) (kp : A → St → Option R) (x0 : ∀ (o0 : Bool) (s0 : A) (s19 : A) (s20 : A), J φ (kr (St.mk [(0, s0), (2, (bA o0)), (19, s19), (20, s20)] [])) kL (K (Sum.inl o0)) some) (x1 : ∀ (s0 : A) (s2 : A) (s19 : A) (s20 : A), J φ (kx 0 (St.mk [(0, s0), (2, s2), (19, s19), (20, s20)] [])) kL (K (Sum.inr (()))) some) :
    ∀ (m : Nat) (v18 : Int), J φ (loopR (cx C) (evCall (cx C) (n+8)) (evCallY (cx C) (n+8)) (n+8) 43 0 0 0 kx kg kr kp m (St.mk [(0, (A.v (Value.string v15))), (2, (bA v16)), (19, (iA v17)), (20, (iA v18))] [])) kL (F43_43_0 n v15 v16 v17 m v18) K := by
  intro m
  induction m with
  | zero => intros; exact .nn
  | succ m ih =>
    intro v18
    refine .lp (e43_0 ..) ?_
    unfold F43_43_0
    refine .st (v := (bA (decide (v18 < v17)))) (aBin_lss ..) ?_
    refine .biHN (fun hk19 => ?_) (fun hk19 => ?_)
    · refine .bd (g := fun (y : UInt8) => A.v (Value.int .u8 (y.toNat : Int))) (idx_str (by kernel_rfl)) fun y20 => ?_
      refine .bd (g := fun (y : Int) => (iA y)) (h72 ((y20.toNat : Int))) fun y21 => ?_
      refine .st (v := (bA (y21 != 2))) (aBin_neq ..) ?_
      refine .bg (fun t (y : Bool) => ∃ j24 j25 : A, t = [(bA y), j24, j25]) ?_ ?_
      · refine .biH (fun hk22 => ?_) (fun hk22 => ?_)
        · refine .st (v := (bA (y21 != 3))) (aBin_neq ..) ?_
          exact .lg ⟨_, _, rfl⟩
        exact .lg ⟨_, _, rfl⟩
      rintro _ y23 ⟨j24, j25, rfl⟩
      iterate 3 refine .uc ?_
      refine .bg (fun t (y : Bool) => ∃ j28 j29 : A, t = [(bA y), j28, j29]) ?_ ?_
      · refine .biH (fun hk26 => ?_) (fun hk26 => ?_)
        · refine .st (v := (bA (y21 != 5))) (aBin_neq ..) ?_
          exact .lg ⟨_, _, rfl⟩
        exact .lg ⟨_, _, rfl⟩
      rintro _ y27 ⟨j28, j29, rfl⟩
      iterate 3 refine .uc ?_
      refine .biHN (fun hk30 => ?_) (fun hk30 => ?_)
      · exact .ex (x0 _ _ _ _)
      refine .st (v := (iA (wr .i64 (v18 + 1)))) (aBin_add ..) ?_
      refine .s [] ?_
      refine .cT (by kernel_rfl) ?_
      exact ih _
    exact .ex (x1 _ _ _ _)
def F43 (n : Nat) (a0 : ByteArray) : Option Bool :=
  Option.bind (bif (strEq a0 ((ByteArray.mk #[]))) then (some true) else (some (decide (32 < ((a0.size : Int)))))) fun y2 => Option.bind (bif y2 then (some true) else (Option.bind (getI (bstrL a0) 0) fun y7 => Option.bind (G72 ((y7.toNat : Int))) fun y8 => some (y8 != 2))) fun y9 => bif y9 then (some false) else (Option.bind (F43_43_0 n a0 false ((a0.size : Int)) (n+8) 0) fun o31 => match o31 with | (Sum.inl y32) => some y32 | (Sum.inr _) => some true)
theorem T43 (C : Nat → List A → Option A) (n : Nat) (h72 : Orc72 C) (a0 : ByteArray) : J (fun (o : R) y => ∃ v, o.1 = .ret v ∧ snapE o.2 v = (bA y)) (evCall1 (cx C) (evCall (cx C) (n+8)) (evCallY (cx C) (n+8)) (n+8) 43 [(A.v (Value.string a0))] [] 0) some (F43 n a0) some := by
  refine .lp (e43 ..) ?_
  unfold F43
  refine .st (v := (bA (strEq a0 ((ByteArray.mk #[]))))) (aBin_eql_s ..) ?_
  refine .bg (fun t (y : Bool) => ∃ j3 j4 j5 : A, t = [(bA y), j3, j4, j5]) ?_ ?_
  · refine .biH (fun hk1 => ?_) (fun hk1 => ?_)
    · exact .lg ⟨_, _, _, rfl⟩
    refine .s (iA ((a0.size : Int))) ?_
    refine .st (v := (bA (decide (32 < ((a0.size : Int)))))) (aBin_gtr ..) ?_
    exact .lg ⟨_, _, _, rfl⟩
  rintro _ y2 ⟨j3, j4, j5, rfl⟩
  iterate 4 refine .uc ?_
  refine .bg (fun t (y : Bool) => ∃ j10 j11 j12 j13 : A, t = [(bA y), j10, j11, j12, j13]) ?_ ?_
  · refine .biH (fun hk6 => ?_) (fun hk6 => ?_)
    · exact .lg ⟨_, _, _, _, rfl⟩
    refine .bd (g := fun (y : UInt8) => A.v (Value.int .u8 (y.toNat : Int))) (idx_str (by kernel_rfl)) fun y7 => ?_
    refine .bd (g := fun (y : Int) => (iA y)) (h72 ((y7.toNat : Int))) fun y8 => ?_
    refine .st (v := (bA (y8 != 2))) (aBin_neq ..) ?_
    exact .lg ⟨_, _, _, _, rfl⟩
  rintro _ y9 ⟨j10, j11, j12, j13, rfl⟩
  iterate 5 refine .uc ?_
  refine .biHN (fun hk14 => ?_) (fun hk14 => ?_)
  · exact .lf rfl rfl ⟨_, rfl, rfl⟩
  refine .s (iA ((a0.size : Int))) ?_
  refine .as (T43_43_0 C n h72 a0 false ((a0.size : Int)) _ _ _ _ ?_ ?_ _ 0)
  · intro y32 j33 j34 j35
    refine .un rfl ?_
    exact .lf rfl rfl ⟨_, rfl, rfl⟩
  · intro j36 j37 j38 j39
    refine .un rfl ?_
    refine .cT (by kernel_rfl) ?_
    exact .lf rfl rfl ⟨_, rfl, rfl⟩
def G43 (a0 : ByteArray) : Option Bool := F43 fuel0 a0
def Orc43 (C : Nat → List A → Option A) : Prop := ∀ (a0 : ByteArray), C 43 [(A.v (Value.string a0))] = (G43 a0).map fun y => (bA y)
def F44_44_0 (n : Nat) (v1 : Int) (v2 : Int) (v3 : Bool) (v4 : (List Int)) (v5 : Int) : Nat → Int → Option ((Bool) ⊕ (Unit))
  | 0, _ => none
  | m + 1, v6 => bif (decide (v6 < v5)) then (Option.bind (getI v4 v6) fun y8 => Option.bind (bif (decide (y8 < v1)) then (some true) else (some (decide (v2 < y8)))) fun y10 => bif y10 then (some ((Sum.inl false))) else (F44_44_0 n v1 v2 v3 v4 v5 m (wr .i64 (v6 + 1)))) else (some ((Sum.inr (()))))
theorem T44_44_0 (C : Nat → List A → Option A) (n : Nat) (v1 : Int) (v2 : Int) (v3 : Bool) (v4 : (List Int)) (v5 : Int) {ρ γ : Type} {φ : ρ → γ → Prop} {kL : R → Option ρ} {K : ((Bool) ⊕ (Unit)) → Option γ} (kx kg : Nat → St → Option R) (kr : St → Option R) (kp : A → St → Option R) (x0 : ∀ (o0 : Bool) (s0 : A) (s1 : A) (s9 : A) (s10 : A) (s11 : A), J φ (kr (St.mk [(0, s0), (1, s1), (6, (bA o0)), (9, s9), (10, s10), (11, s11)] [])) kL (K (Sum.inl o0)) some) (x1 : ∀ (s0 : A) (s1 : A) (s6 : A) (s9 : A) (s10 : A) (s11 : A), J φ (kx 0 (St.mk [(0, s0), (1, s1), (6, s6), (9, s9), (10, s10), (11, s11)] [])) kL (K (Sum.inr (()))) some) :
    ∀ (m : Nat) (v6 : Int), J φ (loopR (cx C) (evCall (cx C) (n+8)) (evCallY (cx C) (n+8)) (n+8) 44 0 0 0 kx kg kr kp m (St.mk [(0, (iA v1)), (1, (iA v2)), (6, (bA v3)), (9, (A.imm (List.map (cI .i64) v4) false)), (10, (iA v5)), (11, (iA v6))] [])) kL (F44_44_0 n v1 v2 v3 v4 v5 m v6) K := by
  intro m
  induction m with
  | zero => intros; exact .nn
  | succ m ih =>
    intro v6
    refine .lp (e44_0 ..) ?_
    unfold F44_44_0
    refine .st (v := (bA (decide (v6 < v5)))) (aBin_lss ..) ?_
    refine .biHN (fun hk7 => ?_) (fun hk7 => ?_)
    · refine .bd (g := fun (y : Int) => A.ip ((cI .i64) y)) (idx_imm (e := 3) (es := 1) (h1 := by kernel_rfl) (h2 := by kernel_rfl) (h3 := fun _ => rfl) ..) fun y8 => ?_
      refine .s (iA y8) ?_
      refine .st (v := (bA (decide (y8 < v1)))) (aBin_lss ..) ?_
      refine .bg (fun t (y : Bool) => ∃ j11 j12 j13 : A, t = [(bA y), j11, j12, j13]) ?_ ?_
      · refine .biH (fun hk9 => ?_) (fun hk9 => ?_)
        · exact .lg ⟨_, _, _, rfl⟩
        refine .st (v := (bA (decide (v2 < y8)))) (aBin_gtr ..) ?_
        exact .lg ⟨_, _, _, rfl⟩
      rintro _ y10 ⟨j11, j12, j13, rfl⟩
      iterate 4 refine .uc ?_
      refine .biHN (fun hk14 => ?_) (fun hk14 => ?_)
      · exact .ex (x0 _ _ _ _ _ _)
      refine .st (v := (iA (wr .i64 (v6 + 1)))) (aBin_add ..) ?_
      refine .s [] ?_
      refine .cT (by kernel_rfl) ?_
      exact ih _
    exact .ex (x1 _ _ _ _ _ _)
def F44 (n : Nat) (a0 : Int) (a1 : Int) (a2 : (List Int)) : Option Bool :=
  Option.bind (F44_44_0 n a0 a1 false a2 ((a2.length : Int)) (n+8) 0) fun o15 => match o15 with | (Sum.inl y16) => some y16 | (Sum.inr _) => some true
theorem T44 (C : Nat → List A → Option A) (n : Nat) (a0 : Int) (a1 : Int) (a2 : (List Int)) : J (fun (o : R) y => ∃ v, o.1 = .ret v ∧ snapE o.2 v = (bA y)) (evCall1 (cx C) (evCall (cx C) (n+8)) (evCallY (cx C) (n+8)) (n+8) 44 [(iA a0), (iA a1), (A.imm (List.map (cI .i64) a2) false)] [] 0) some (F44 n a0 a1 a2) some := by
  refine .lp (e44 ..) ?_
  unfold F44
  refine .st (v := (iA ((a2.length : Int)))) (len_imm (e := 3) (h1 := by kernel_rfl) ..) ?_
  refine .as (T44_44_0 C n  a0 a1 false a2 ((a2.length : Int)) _ _ _ _ ?_ ?_ _ 0)
  · intro y16 j17 j18 j19 j20 j21
    refine .un rfl ?_
    exact .lf rfl rfl ⟨_, rfl, rfl⟩
  · intro j22 j23 j24 j25 j26 j27
    refine .un rfl ?_
    refine .cT (by kernel_rfl) ?_
    exact .lf rfl rfl ⟨_, rfl, rfl⟩
def G44 (a0 : Int) (a1 : Int) (a2 : (List Int)) : Option Bool := F44 fuel0 a0 a1 a2
def Orc44 (C : Nat → List A → Option A) : Prop := ∀ (a0 : Int) (a1 : Int) (a2 : (List Int)), C 44 [(iA a0), (iA a1), (A.imm (List.map (cI .i64) a2) false)] = (G44 a0 a1 a2).map fun y => (bA y)
def F45 (n : Nat)  : Option Unit :=
  some (())
theorem T45 (C : Nat → List A → Option A) (n : Nat) : J (fun (o : R) y => ∃ v, o.1 = .ret v ∧ snapE o.2 v = (A.agg [(A.v Value.nilFunc), (iA 0), (iA 0), (iA 0), (A.fn (Fn.func 73) [] []), (iA 1), (iA 3), (iA 2), (A.fn (Fn.func 74) [] []), (iA 1), (iA 1048576), (iA 2), (A.fn (Fn.func 75) [] []), (iA 1), (iA 16), (iA 0), (A.fn (Fn.func 76) [] []), (iA 0), (iA 16), (iA 0), (A.fn (Fn.func 77) [] []), (iA 0), (iA 500), (iA 0), (A.fn (Fn.func 78) [] []), (iA 0), (iA 1048576), (iA 0)])) (evCall1 (cx C) (evCall (cx C) (n+8)) (evCallY (cx C) (n+8)) (n+8) 45 [] [] 0) some (F45 n ) some := by
  refine .lp (e45 ..) ?_
  unfold F45
  refine .s ((A.ptr 0 0), [Blk.box [(A.v Value.nilFunc), (iA 0), (iA 0), (iA 0), (A.v Value.nilFunc), (iA 0), (iA 0), (iA 0), (A.v Value.nilFunc), (iA 0), (iA 0), (iA 0), (A.v Value.nilFunc), (iA 0), (iA 0), (iA 0), (A.v Value.nilFunc), (iA 0), (iA 0), (iA 0), (A.v Value.nilFunc), (iA 0), (iA 0), (iA 0), (A.v Value.nilFunc), (iA 0), (iA 0), (iA 0)]]) (.s (A.agg [(A.fn (Fn.func 73) [] []), (iA 1), (iA 3), (iA 2)]) (.s (A.agg [(A.fn (Fn.func 74) [] []), (iA 1), (iA 1048576), (iA 2)]) (.s (A.agg [(A.fn (Fn.func 75) [] []), (iA 1), (iA 16), (iA 0)]) (.s (A.agg [(A.fn (Fn.func 76) [] []), (iA 0), (iA 16), (iA 0)]) (.s (A.agg [(A.fn (Fn.func 77) [] []), (iA 0), (iA 500), (iA 0)]) (.s (A.agg [(A.fn (Fn.func 78) [] []), (iA 0), (iA 1048576), (iA 0)]) (.s (A.agg [(A.v Value.nilFunc), (iA 0), (iA 0), (iA 0), (A.fn (Fn.func 73) [] []), (iA 1), (iA 3), (iA 2), (A.fn (Fn.func 74) [] []), (iA 1), (iA 1048576), (iA 2), (A.fn (Fn.func 75) [] []), (iA 1), (iA 16), (iA 0), (A.fn (Fn.func 76) [] []), (iA 0), (iA 16), (iA 0), (A.fn (Fn.func 77) [] []), (iA 0), (iA 500), (iA 0), (A.fn (Fn.func 78) [] []), (iA 0), (iA 1048576), (iA 0)]) (.s [Blk.box [(A.v Value.nilFunc), (iA 0), (iA 0), (iA 0), (A.fn (Fn.func 73) [] []), (iA 1), (iA 3), (iA 2), (A.fn (Fn.func 74) [] []), (iA 1), (iA 1048576), (iA 2), (A.fn (Fn.func 75) [] []), (iA 1), (iA 16), (iA 0), (A.fn (Fn.func 76) [] []), (iA 0), (iA 16), (iA 0), (A.fn (Fn.func 77) [] []), (iA 0), (iA 500), (iA 0), (A.fn (Fn.func 78) [] []), (iA 0), (iA 1048576), (iA 0)]] ?_))))))))
  refine .s (A.agg [(A.v Value.nilFunc), (iA 0), (iA 0), (iA 0), (A.fn (Fn.func 73) [] []), (iA 1), (iA 3), (iA 2), (A.fn (Fn.func 74) [] []), (iA 1), (iA 1048576), (iA 2), (A.fn (Fn.func 75) [] []), (iA 1), (iA 16), (iA 0), (A.fn (Fn.func 76) [] []), (iA 0), (iA 16), (iA 0), (A.fn (Fn.func 77) [] []), (iA 0), (iA 500), (iA 0), (A.fn (Fn.func 78) [] []), (iA 0), (iA 1048576), (iA 0)]) ?_
  exact .lf rfl rfl ⟨_, rfl, rfl⟩
def G45  : Option Unit := F45 fuel0
def Orc45 (C : Nat → List A → Option A) : Prop := ∀ (_ : Unit), C 45 [] = (G45 ).map fun y => (A.agg [(A.v Value.nilFunc), (iA 0), (iA 0), (iA 0), (A.fn (Fn.func 73) [] []), (iA 1), (iA 3), (iA 2), (A.fn (Fn.func 74) [] []), (iA 1), (iA 1048576), (iA 2), (A.fn (Fn.func 75) [] []), (iA 1), (iA 16), (iA 0), (A.fn (Fn.func 76) [] []), (iA 0), (iA 16), (iA 0), (A.fn (Fn.func 77) [] []), (iA 0), (iA 500), (iA 0), (A.fn (Fn.func 78) [] []), (iA 0), (iA 1048576), (iA 0)])
end Go.Proofs.YtooamdacfhfjoaaDoor
