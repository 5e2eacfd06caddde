/-
  The program's functions as plain functions: by a tool; each follows the interpreter.
-/
import Derived.Test.YtmhnhokhlkppeaaDoorE
import Derived.KernelRfl
namespace Go.Proofs.YtmhnhokhlkppeaaDoor
set_option linter.unusedVariables false
set_option linter.unusedSimpArgs false
set_option maxHeartbeats 4000000
set_option maxRecDepth 100000
structure S_Vec where
  X : Int
  Y : Int
  Z : Int
  deriving DecidableEq, Inhabited
def c_S_Vec (x : S_Vec) : List A := [(A.v (Value.int .i64 x.X)), (A.v (Value.int .i64 x.Y)), (A.v (Value.int .i64 x.Z))]
theorem fu_S_Vec : FlatU c_S_Vec := fun _ _ => by simp only [c_S_Vec, unders, A.under, underss_map, fu_cI, fu_c8, fu_cB, fu_cS, fu_cL, Bool.and_true, Bool.true_and]
theorem fl_S_Vec : FlatS c_S_Vec := fun _ _ => by simp only [c_S_Vec, snapW, snapWs, snapWss_map, fl_cI, fl_c8, fl_cB, fl_cS, fl_cL]
structure S_Range where
  Lo : Int
  Hi : Int
  deriving DecidableEq, Inhabited
def c_S_Range (x : S_Range) : List A := [(A.v (Value.int .i64 x.Lo)), (A.v (Value.int .i64 x.Hi))]
theorem fu_S_Range : FlatU c_S_Range := fun _ _ => by simp only [c_S_Range, unders, A.under, underss_map, fu_cI, fu_c8, fu_cB, fu_cS, fu_cL, Bool.and_true, Bool.true_and, fu_S_Vec]
theorem fl_S_Range : FlatS c_S_Range := fun _ _ => by simp only [c_S_Range, snapW, snapWs, snapWss_map, fl_cI, fl_c8, fl_cB, fl_cS, fl_cL, fl_S_Vec]
structure S_Box where
  X : S_Range
  Y : S_Range
  deriving DecidableEq, Inhabited
def c_S_Box (x : S_Box) : List A := [(A.v (Value.int .i64 x.X.Lo)), (A.v (Value.int .i64 x.X.Hi)), (A.v (Value.int .i64 x.Y.Lo)), (A.v (Value.int .i64 x.Y.Hi))]
theorem fu_S_Box : FlatU c_S_Box := fun _ _ => by simp only [c_S_Box, unders, A.under, underss_map, fu_cI, fu_c8, fu_cB, fu_cS, fu_cL, Bool.and_true, Bool.true_and, fu_S_Vec, fu_S_Range]
theorem fl_S_Box : FlatS c_S_Box := fun _ _ => by simp only [c_S_Box, snapW, snapWs, snapWss_map, fl_cI, fl_c8, fl_cB, fl_cS, fl_cL, fl_S_Vec, fl_S_Range]

def F11 (n : Nat) (a0 : Int) (a1 : Int) : Option (S_Vec × Int) :=
  Option.bind (bif (decide (a0 < 0)) then (some true) else (some (decide (8 < a0)))) fun y1 => Option.bind (bif y1 then (some true) else (some (decide (a1 < 1)))) fun y4 => Option.bind (bif y4 then (some true) else (some (decide (3 < a1)))) fun y7 => bif y7 then (some (((S_Vec.mk 0 0 0), 150))) else (bif (a0 == 0) then (some (((S_Vec.mk 0 0 (wr .i64 (841 * (wr .i64 (a1 - 2))))), 0))) else (bif decide ((wr .i64 (a0 - 1)) = 0) then (Option.bind (bif ((wr .i64 (a1 - 2)) == 0) then (some 0) else (some 0)) fun y11 => Option.bind (bif ((wr .i64 (a1 - 2)) == 0) then (some 841) else (some 580)) fun y12 => some (((S_Vec.mk y11 y12 (wr .i64 (609 * (wr .i64 (a1 - 2))))), 0))) else bif decide ((wr .i64 (a0 - 1)) = 1) then (Option.bind (bif ((wr .i64 (a1 - 2)) == 0) then (some 580) else (some 400)) fun y14 => Option.bind (bif ((wr .i64 (a1 - 2)) == 0) then (some 609) else (some 420)) fun y15 => some (((S_Vec.mk y14 y15 (wr .i64 (609 * (wr .i64 (a1 - 2))))), 0))) else bif decide ((wr .i64 (a0 - 1)) = 2) then (Option.bind (bif ((wr .i64 (a1 - 2)) == 0) then (some 841) else (some 580)) fun y17 => Option.bind (bif ((wr .i64 (a1 - 2)) == 0) then (some 0) else (some 0)) fun y18 => some (((S_Vec.mk y17 y18 (wr .i64 (609 * (wr .i64 (a1 - 2))))), 0))) else bif decide ((wr .i64 (a0 - 1)) = 3) then (Option.bind (bif ((wr .i64 (a1 - 2)) == 0) then (some 580) else (some 400)) fun y20 => Option.bind (bif ((wr .i64 (a1 - 2)) == 0) then (some (-609)) else (some (-420))) fun y21 => some (((S_Vec.mk y20 y21 (wr .i64 (609 * (wr .i64 (a1 - 2))))), 0))) else bif decide ((wr .i64 (a0 - 1)) = 4) then (Option.bind (bif ((wr .i64 (a1 - 2)) == 0) then (some 0) else (some 0)) fun y23 => Option.bind (bif ((wr .i64 (a1 - 2)) == 0) then (some (-841)) else (some (-580))) fun y24 => some (((S_Vec.mk y23 y24 (wr .i64 (609 * (wr .i64 (a1 - 2))))), 0))) else bif decide ((wr .i64 (a0 - 1)) = 5) then (Option.bind (bif ((wr .i64 (a1 - 2)) == 0) then (some (-580)) else (some (-400))) fun y26 => Option.bind (bif ((wr .i64 (a1 - 2)) == 0) then (some (-609)) else (some (-420))) fun y27 => some (((S_Vec.mk y26 y27 (wr .i64 (609 * (wr .i64 (a1 - 2))))), 0))) else bif decide ((wr .i64 (a0 - 1)) = 6) then (Option.bind (bif ((wr .i64 (a1 - 2)) == 0) then (some (-841)) else (some (-580))) fun y29 => Option.bind (bif ((wr .i64 (a1 - 2)) == 0) then (some 0) else (some 0)) fun y30 => some (((S_Vec.mk y29 y30 (wr .i64 (609 * (wr .i64 (a1 - 2))))), 0))) else bif decide ((wr .i64 (a0 - 1)) = 7) then (Option.bind (bif ((wr .i64 (a1 - 2)) == 0) then (some (-580)) else (some (-400))) fun y32 => Option.bind (bif ((wr .i64 (a1 - 2)) == 0) then (some 609) else (some 420)) fun y33 => some (((S_Vec.mk y32 y33 (wr .i64 (609 * (wr .i64 (a1 - 2))))), 0))) else none))

theorem T11 (C : Nat → List A → Option A) (n : Nat) (a0 : Int) (a1 : Int) : J (fun (o : R) y => ∃ v, o.1 = .ret v ∧ snap o.2 v = (A.tup [(A.agg [(A.v (Value.int .i64 y.1.X)), (A.v (Value.int .i64 y.1.Y)), (A.v (Value.int .i64 y.1.Z))]), (A.v (Value.int .i64 y.2))])) (evCall1 (cx C) (evCall (cx C) (n+4)) (n+4) 11 [(A.v (Value.int .i64 a0)), (A.v (Value.int .i64 a1))] [] 0) some (F11 n a0 a1) some := by
  refine .lp (e11 ..) ?_
  unfold F11
  refine .st (v := ((A.ptr 0 0), [Blk.box [(A.v (Value.int .i64 0)), (A.v (Value.int .i64 0)), (A.v (Value.int .i64 0))]])) (by kernel_rfl) ?_
  refine .st (v := (A.v (Value.bool (decide (a0 < 0))))) (aBin_lss ..) ?_
  refine .bg (fun t (y : Bool) => ∃ j2 j3 : A, t = [(A.v (Value.bool y)), j2, j3]) ?_ ?_
  · refine .bi ?_ ?_
    · exact .lg ⟨_, _, rfl⟩
    · refine .st (v := (A.v (Value.bool (decide (8 < a0))))) (aBin_gtr ..) ?_
      exact .lg ⟨_, _, rfl⟩
  rintro _ y1 ⟨j2, j3, rfl⟩
  iterate 3 refine .uc ?_
  refine .bg (fun t (y : Bool) => ∃ j5 j6 : A, t = [(A.v (Value.bool y)), j5, j6]) ?_ ?_
  · refine .bi ?_ ?_
    · exact .lg ⟨_, _, rfl⟩
    · refine .st (v := (A.v (Value.bool (decide (a1 < 1))))) (aBin_lss ..) ?_
      exact .lg ⟨_, _, rfl⟩
  rintro _ y4 ⟨j5, j6, rfl⟩
  iterate 3 refine .uc ?_
  refine .bg (fun t (y : Bool) => ∃ j8 j9 : A, t = [(A.v (Value.bool y)), j8, j9]) ?_ ?_
  · refine .bi ?_ ?_
    · exact .lg ⟨_, _, rfl⟩
    · refine .st (v := (A.v (Value.bool (decide (3 < a1))))) (aBin_gtr ..) ?_
      exact .lg ⟨_, _, rfl⟩
  rintro _ y7 ⟨j8, j9, rfl⟩
  iterate 3 refine .uc ?_
  refine .bi ?_ ?_
  · refine .st (v := (A.agg [(A.v (Value.int .i64 0)), (A.v (Value.int .i64 0)), (A.v (Value.int .i64 0))])) (by kernel_rfl) ?_
    refine .st (v := [Blk.box [(A.v (Value.int .i64 0)), (A.v (Value.int .i64 0)), (A.v (Value.int .i64 0))]]) (by kernel_rfl) ?_
    refine .st (v := (A.agg [(A.v (Value.int .i64 0)), (A.v (Value.int .i64 0)), (A.v (Value.int .i64 0))])) (by kernel_rfl) ?_
    exact .lf rfl rfl ⟨_, rfl, rfl⟩
  · refine .st (v := (A.v (Value.int .i64 (wr .i64 (a1 - 2))))) (aBin_sub ..) ?_
    refine .st (v := ((A.ptr 1 0), [Blk.box [(A.v (Value.int .i64 0)), (A.v (Value.int .i64 0)), (A.v (Value.int .i64 0))], Blk.box [(A.v (Value.int .i64 0))]])) (by kernel_rfl) ?_
    refine .st (v := [Blk.box [(A.v (Value.int .i64 0)), (A.v (Value.int .i64 0)), (A.v (Value.int .i64 0))], Blk.box [(A.v (Value.int .i64 (wr .i64 (a1 - 2))))]]) (by kernel_rfl) ?_
    refine .st (v := (A.v (Value.bool (a0 == 0)))) (aBin_eql ..) ?_
    refine .bi ?_ ?_
    · refine .st (v := (A.v (Value.int .i64 (wr .i64 (a1 - 2))))) (by kernel_rfl) ?_
      refine .st (v := (A.v (Value.int .i64 (wr .i64 (841 * (wr .i64 (a1 - 2))))))) (aBin_mul ..) ?_
      refine .st (v := (A.ptr 0 2)) (by kernel_rfl) ?_
      refine .st (v := [Blk.box [(A.v (Value.int .i64 0)), (A.v (Value.int .i64 0)), (A.v (Value.int .i64 (wr .i64 (841 * (wr .i64 (a1 - 2))))))], Blk.box [(A.v (Value.int .i64 (wr .i64 (a1 - 2))))]]) (by kernel_rfl) ?_
      refine .st (v := (A.agg [(A.v (Value.int .i64 0)), (A.v (Value.int .i64 0)), (A.v (Value.int .i64 (wr .i64 (841 * (wr .i64 (a1 - 2))))))])) (by kernel_rfl) ?_
      refine .st (v := [Blk.box [(A.v (Value.int .i64 0)), (A.v (Value.int .i64 0)), (A.v (Value.int .i64 (wr .i64 (841 * (wr .i64 (a1 - 2))))))], Blk.box [(A.v (Value.int .i64 (wr .i64 (a1 - 2))))]]) (by kernel_rfl) ?_
      refine .st (v := (A.agg [(A.v (Value.int .i64 0)), (A.v (Value.int .i64 0)), (A.v (Value.int .i64 (wr .i64 (841 * (wr .i64 (a1 - 2))))))])) (by kernel_rfl) ?_
      exact .lf rfl rfl ⟨_, rfl, rfl⟩
    · refine .st (v := (A.v (Value.int .i64 (wr .i64 (a0 - 1))))) (aBin_sub ..) ?_
      refine .sp (fun hb10 => ?_) (fun _ => ?_)
      · refine .st (v := (A.ip [(A.v (Value.int .i64 0)), (A.v (Value.int .i64 29)), (A.v (Value.int .i64 20)), (A.v (Value.int .i64 21)), (A.v (Value.int .i64 29)), (A.v (Value.int .i64 0)), (A.v (Value.int .i64 20)), (A.v (Value.int .i64 (-21))), (A.v (Value.int .i64 0)), (A.v (Value.int .i64 (-29))), (A.v (Value.int .i64 (-20))), (A.v (Value.int .i64 (-21))), (A.v (Value.int .i64 (-29))), (A.v (Value.int .i64 0)), (A.v (Value.int .i64 (-20))), (A.v (Value.int .i64 21))])) (by rw [of_decide_eq_true hb10]; kernel_rfl) ?_
        refine .st (v := (A.agg [(A.v (Value.int .i64 0)), (A.v (Value.int .i64 29))])) (by kernel_rfl) ?_
        refine .st (v := ((A.ptr 2 0), [Blk.box [(A.v (Value.int .i64 0)), (A.v (Value.int .i64 0)), (A.v (Value.int .i64 0))], Blk.box [(A.v (Value.int .i64 (wr .i64 (a1 - 2))))], Blk.box [(A.v (Value.int .i64 0)), (A.v (Value.int .i64 0))]])) (by kernel_rfl) ?_
        refine .st (v := [Blk.box [(A.v (Value.int .i64 0)), (A.v (Value.int .i64 0)), (A.v (Value.int .i64 0))], Blk.box [(A.v (Value.int .i64 (wr .i64 (a1 - 2))))], Blk.box [(A.v (Value.int .i64 0)), (A.v (Value.int .i64 29))]]) (by kernel_rfl) ?_
        refine .st (v := (A.ptr 2 0)) (by kernel_rfl) ?_
        refine .st (v := (A.v (Value.int .i64 0))) (by kernel_rfl) ?_
        refine .bg (fun t (y : Int) =>  t = (A.v (Value.int .i64 y))) ?_ ?_
        · refine .cl (e31 C (evCall (cx C) (n+3)) (n+3) _ _ _ _) ?_
          refine .st (v := (A.v (Value.int .i64 (wr .i64 (a1 - 2))))) (by kernel_rfl) ?_
          refine .st (v := (A.v (Value.bool ((wr .i64 (a1 - 2)) == 0)))) (aBin_eql ..) ?_
          refine .bi ?_ ?_
          · refine .st (v := (A.v (Value.int .i64 0))) (by kernel_rfl) ?_
            refine .cr ?_
            exact .lg rfl
          · refine .st (v := (A.v (Value.int .i64 0))) (by kernel_rfl) ?_
            refine .cr ?_
            exact .lg rfl
        rintro _ y11 rfl
        refine .st (v := (A.ptr 2 1)) (by kernel_rfl) ?_
        refine .st (v := (A.v (Value.int .i64 29))) (by kernel_rfl) ?_
        refine .bg (fun t (y : Int) =>  t = (A.v (Value.int .i64 y))) ?_ ?_
        · refine .cl (e31 C (evCall (cx C) (n+3)) (n+3) _ _ _ _) ?_
          refine .st (v := (A.v (Value.int .i64 (wr .i64 (a1 - 2))))) (by kernel_rfl) ?_
          refine .st (v := (A.v (Value.bool ((wr .i64 (a1 - 2)) == 0)))) (aBin_eql ..) ?_
          refine .bi ?_ ?_
          · refine .st (v := (A.v (Value.int .i64 841))) (by kernel_rfl) ?_
            refine .cr ?_
            exact .lg rfl
          · refine .st (v := (A.v (Value.int .i64 580))) (by kernel_rfl) ?_
            refine .cr ?_
            exact .lg rfl
        rintro _ y12 rfl
        refine .st (v := (A.v (Value.int .i64 (wr .i64 (a1 - 2))))) (by kernel_rfl) ?_
        refine .st (v := (A.v (Value.int .i64 (wr .i64 (609 * (wr .i64 (a1 - 2))))))) (aBin_mul ..) ?_
        refine .st (v := (A.agg [(A.v (Value.int .i64 y11)), (A.v (Value.int .i64 y12)), (A.v (Value.int .i64 (wr .i64 (609 * (wr .i64 (a1 - 2))))))])) (by kernel_rfl) ?_
        refine .st (v := [Blk.box [(A.v (Value.int .i64 y11)), (A.v (Value.int .i64 y12)), (A.v (Value.int .i64 (wr .i64 (609 * (wr .i64 (a1 - 2))))))], Blk.box [(A.v (Value.int .i64 (wr .i64 (a1 - 2))))], Blk.box [(A.v (Value.int .i64 0)), (A.v (Value.int .i64 29))]]) (by kernel_rfl) ?_
        refine .st (v := (A.agg [(A.v (Value.int .i64 y11)), (A.v (Value.int .i64 y12)), (A.v (Value.int .i64 (wr .i64 (609 * (wr .i64 (a1 - 2))))))])) (by kernel_rfl) ?_
        exact .lf rfl rfl ⟨_, rfl, rfl⟩
      · skip
        refine .sp (fun hb13 => ?_) (fun _ => ?_)
        · refine .st (v := (A.ip [(A.v (Value.int .i64 20)), (A.v (Value.int .i64 21)), (A.v (Value.int .i64 29)), (A.v (Value.int .i64 0)), (A.v (Value.int .i64 20)), (A.v (Value.int .i64 (-21))), (A.v (Value.int .i64 0)), (A.v (Value.int .i64 (-29))), (A.v (Value.int .i64 (-20))), (A.v (Value.int .i64 (-21))), (A.v (Value.int .i64 (-29))), (A.v (Value.int .i64 0)), (A.v (Value.int .i64 (-20))), (A.v (Value.int .i64 21))])) (by rw [of_decide_eq_true hb13]; kernel_rfl) ?_
          refine .st (v := (A.agg [(A.v (Value.int .i64 20)), (A.v (Value.int .i64 21))])) (by kernel_rfl) ?_
          refine .st (v := ((A.ptr 2 0), [Blk.box [(A.v (Value.int .i64 0)), (A.v (Value.int .i64 0)), (A.v (Value.int .i64 0))], Blk.box [(A.v (Value.int .i64 (wr .i64 (a1 - 2))))], Blk.box [(A.v (Value.int .i64 0)), (A.v (Value.int .i64 0))]])) (by kernel_rfl) ?_
          refine .st (v := [Blk.box [(A.v (Value.int .i64 0)), (A.v (Value.int .i64 0)), (A.v (Value.int .i64 0))], Blk.box [(A.v (Value.int .i64 (wr .i64 (a1 - 2))))], Blk.box [(A.v (Value.int .i64 20)), (A.v (Value.int .i64 21))]]) (by kernel_rfl) ?_
          refine .st (v := (A.ptr 2 0)) (by kernel_rfl) ?_
          refine .st (v := (A.v (Value.int .i64 20))) (by kernel_rfl) ?_
          refine .bg (fun t (y : Int) =>  t = (A.v (Value.int .i64 y))) ?_ ?_
          · refine .cl (e31 C (evCall (cx C) (n+3)) (n+3) _ _ _ _) ?_
            refine .st (v := (A.v (Value.int .i64 (wr .i64 (a1 - 2))))) (by kernel_rfl) ?_
            refine .st (v := (A.v (Value.bool ((wr .i64 (a1 - 2)) == 0)))) (aBin_eql ..) ?_
            refine .bi ?_ ?_
            · refine .st (v := (A.v (Value.int .i64 580))) (by kernel_rfl) ?_
              refine .cr ?_
              exact .lg rfl
            · refine .st (v := (A.v (Value.int .i64 400))) (by kernel_rfl) ?_
              refine .cr ?_
              exact .lg rfl
          rintro _ y14 rfl
          refine .st (v := (A.ptr 2 1)) (by kernel_rfl) ?_
          refine .st (v := (A.v (Value.int .i64 21))) (by kernel_rfl) ?_
          refine .bg (fun t (y : Int) =>  t = (A.v (Value.int .i64 y))) ?_ ?_
          · refine .cl (e31 C (evCall (cx C) (n+3)) (n+3) _ _ _ _) ?_
            refine .st (v := (A.v (Value.int .i64 (wr .i64 (a1 - 2))))) (by kernel_rfl) ?_
            refine .st (v := (A.v (Value.bool ((wr .i64 (a1 - 2)) == 0)))) (aBin_eql ..) ?_
            refine .bi ?_ ?_
            · refine .st (v := (A.v (Value.int .i64 609))) (by kernel_rfl) ?_
              refine .cr ?_
              exact .lg rfl
            · refine .st (v := (A.v (Value.int .i64 420))) (by kernel_rfl) ?_
              refine .cr ?_
              exact .lg rfl
          rintro _ y15 rfl
          refine .st (v := (A.v (Value.int .i64 (wr .i64 (a1 - 2))))) (by kernel_rfl) ?_
          refine .st (v := (A.v (Value.int .i64 (wr .i64 (609 * (wr .i64 (a1 - 2))))))) (aBin_mul ..) ?_
          refine .st (v := (A.agg [(A.v (Value.int .i64 y14)), (A.v (Value.int .i64 y15)), (A.v (Value.int .i64 (wr .i64 (609 * (wr .i64 (a1 - 2))))))])) (by kernel_rfl) ?_
          refine .st (v := [Blk.box [(A.v (Value.int .i64 y14)), (A.v (Value.int .i64 y15)), (A.v (Value.int .i64 (wr .i64 (609 * (wr .i64 (a1 - 2))))))], Blk.box [(A.v (Value.int .i64 (wr .i64 (a1 - 2))))], Blk.box [(A.v (Value.int .i64 20)), (A.v (Value.int .i64 21))]]) (by kernel_rfl) ?_
          refine .st (v := (A.agg [(A.v (Value.int .i64 y14)), (A.v (Value.int .i64 y15)), (A.v (Value.int .i64 (wr .i64 (609 * (wr .i64 (a1 - 2))))))])) (by kernel_rfl) ?_
          exact .lf rfl rfl ⟨_, rfl, rfl⟩
        · skip
          refine .sp (fun hb16 => ?_) (fun _ => ?_)
          · refine .st (v := (A.ip [(A.v (Value.int .i64 29)), (A.v (Value.int .i64 0)), (A.v (Value.int .i64 20)), (A.v (Value.int .i64 (-21))), (A.v (Value.int .i64 0)), (A.v (Value.int .i64 (-29))), (A.v (Value.int .i64 (-20))), (A.v (Value.int .i64 (-21))), (A.v (Value.int .i64 (-29))), (A.v (Value.int .i64 0)), (A.v (Value.int .i64 (-20))), (A.v (Value.int .i64 21))])) (by rw [of_decide_eq_true hb16]; kernel_rfl) ?_
            refine .st (v := (A.agg [(A.v (Value.int .i64 29)), (A.v (Value.int .i64 0))])) (by kernel_rfl) ?_
            refine .st (v := ((A.ptr 2 0), [Blk.box [(A.v (Value.int .i64 0)), (A.v (Value.int .i64 0)), (A.v (Value.int .i64 0))], Blk.box [(A.v (Value.int .i64 (wr .i64 (a1 - 2))))], Blk.box [(A.v (Value.int .i64 0)), (A.v (Value.int .i64 0))]])) (by kernel_rfl) ?_
            refine .st (v := [Blk.box [(A.v (Value.int .i64 0)), (A.v (Value.int .i64 0)), (A.v (Value.int .i64 0))], Blk.box [(A.v (Value.int .i64 (wr .i64 (a1 - 2))))], Blk.box [(A.v (Value.int .i64 29)), (A.v (Value.int .i64 0))]]) (by kernel_rfl) ?_
            refine .st (v := (A.ptr 2 0)) (by kernel_rfl) ?_
            refine .st (v := (A.v (Value.int .i64 29))) (by kernel_rfl) ?_
            refine .bg (fun t (y : Int) =>  t = (A.v (Value.int .i64 y))) ?_ ?_
            · refine .cl (e31 C (evCall (cx C) (n+3)) (n+3) _ _ _ _) ?_
              refine .st (v := (A.v (Value.int .i64 (wr .i64 (a1 - 2))))) (by kernel_rfl) ?_
              refine .st (v := (A.v (Value.bool ((wr .i64 (a1 - 2)) == 0)))) (aBin_eql ..) ?_
              refine .bi ?_ ?_
              · refine .st (v := (A.v (Value.int .i64 841))) (by kernel_rfl) ?_
                refine .cr ?_
                exact .lg rfl
              · refine .st (v := (A.v (Value.int .i64 580))) (by kernel_rfl) ?_
                refine .cr ?_
                exact .lg rfl
            rintro _ y17 rfl
            refine .st (v := (A.ptr 2 1)) (by kernel_rfl) ?_
            refine .st (v := (A.v (Value.int .i64 0))) (by kernel_rfl) ?_
            refine .bg (fun t (y : Int) =>  t = (A.v (Value.int .i64 y))) ?_ ?_
            · refine .cl (e31 C (evCall (cx C) (n+3)) (n+3) _ _ _ _) ?_
              refine .st (v := (A.v (Value.int .i64 (wr .i64 (a1 - 2))))) (by kernel_rfl) ?_
              refine .st (v := (A.v (Value.bool ((wr .i64 (a1 - 2)) == 0)))) (aBin_eql ..) ?_
              refine .bi ?_ ?_
              · refine .st (v := (A.v (Value.int .i64 0))) (by kernel_rfl) ?_
                refine .cr ?_
                exact .lg rfl
              · refine .st (v := (A.v (Value.int .i64 0))) (by kernel_rfl) ?_
                refine .cr ?_
                exact .lg rfl
            rintro _ y18 rfl
            refine .st (v := (A.v (Value.int .i64 (wr .i64 (a1 - 2))))) (by kernel_rfl) ?_
            refine .st (v := (A.v (Value.int .i64 (wr .i64 (609 * (wr .i64 (a1 - 2))))))) (aBin_mul ..) ?_
            refine .st (v := (A.agg [(A.v (Value.int .i64 y17)), (A.v (Value.int .i64 y18)), (A.v (Value.int .i64 (wr .i64 (609 * (wr .i64 (a1 - 2))))))])) (by kernel_rfl) ?_
            refine .st (v := [Blk.box [(A.v (Value.int .i64 y17)), (A.v (Value.int .i64 y18)), (A.v (Value.int .i64 (wr .i64 (609 * (wr .i64 (a1 - 2))))))], Blk.box [(A.v (Value.int .i64 (wr .i64 (a1 - 2))))], Blk.box [(A.v (Value.int .i64 29)), (A.v (Value.int .i64 0))]]) (by kernel_rfl) ?_
            refine .st (v := (A.agg [(A.v (Value.int .i64 y17)), (A.v (Value.int .i64 y18)), (A.v (Value.int .i64 (wr .i64 (609 * (wr .i64 (a1 - 2))))))])) (by kernel_rfl) ?_
            exact .lf rfl rfl ⟨_, rfl, rfl⟩
          · skip
            refine .sp (fun hb19 => ?_) (fun _ => ?_)
            · refine .st (v := (A.ip [(A.v (Value.int .i64 20)), (A.v (Value.int .i64 (-21))), (A.v (Value.int .i64 0)), (A.v (Value.int .i64 (-29))), (A.v (Value.int .i64 (-20))), (A.v (Value.int .i64 (-21))), (A.v (Value.int .i64 (-29))), (A.v (Value.int .i64 0)), (A.v (Value.int .i64 (-20))), (A.v (Value.int .i64 21))])) (by rw [of_decide_eq_true hb19]; kernel_rfl) ?_
              refine .st (v := (A.agg [(A.v (Value.int .i64 20)), (A.v (Value.int .i64 (-21)))])) (by kernel_rfl) ?_
              refine .st (v := ((A.ptr 2 0), [Blk.box [(A.v (Value.int .i64 0)), (A.v (Value.int .i64 0)), (A.v (Value.int .i64 0))], Blk.box [(A.v (Value.int .i64 (wr .i64 (a1 - 2))))], Blk.box [(A.v (Value.int .i64 0)), (A.v (Value.int .i64 0))]])) (by kernel_rfl) ?_
              refine .st (v := [Blk.box [(A.v (Value.int .i64 0)), (A.v (Value.int .i64 0)), (A.v (Value.int .i64 0))], Blk.box [(A.v (Value.int .i64 (wr .i64 (a1 - 2))))], Blk.box [(A.v (Value.int .i64 20)), (A.v (Value.int .i64 (-21)))]]) (by kernel_rfl) ?_
              refine .st (v := (A.ptr 2 0)) (by kernel_rfl) ?_
              refine .st (v := (A.v (Value.int .i64 20))) (by kernel_rfl) ?_
              refine .bg (fun t (y : Int) =>  t = (A.v (Value.int .i64 y))) ?_ ?_
              · refine .cl (e31 C (evCall (cx C) (n+3)) (n+3) _ _ _ _) ?_
                refine .st (v := (A.v (Value.int .i64 (wr .i64 (a1 - 2))))) (by kernel_rfl) ?_
                refine .st (v := (A.v (Value.bool ((wr .i64 (a1 - 2)) == 0)))) (aBin_eql ..) ?_
                refine .bi ?_ ?_
                · refine .st (v := (A.v (Value.int .i64 580))) (by kernel_rfl) ?_
                  refine .cr ?_
                  exact .lg rfl
                · refine .st (v := (A.v (Value.int .i64 400))) (by kernel_rfl) ?_
                  refine .cr ?_
                  exact .lg rfl
              rintro _ y20 rfl
              refine .st (v := (A.ptr 2 1)) (by kernel_rfl) ?_
              refine .st (v := (A.v (Value.int .i64 (-21)))) (by kernel_rfl) ?_
              refine .bg (fun t (y : Int) =>  t = (A.v (Value.int .i64 y))) ?_ ?_
              · refine .cl (e31 C (evCall (cx C) (n+3)) (n+3) _ _ _ _) ?_
                refine .st (v := (A.v (Value.int .i64 (wr .i64 (a1 - 2))))) (by kernel_rfl) ?_
                refine .st (v := (A.v (Value.bool ((wr .i64 (a1 - 2)) == 0)))) (aBin_eql ..) ?_
                refine .bi ?_ ?_
                · refine .st (v := (A.v (Value.int .i64 (-609)))) (by kernel_rfl) ?_
                  refine .cr ?_
                  exact .lg rfl
                · refine .st (v := (A.v (Value.int .i64 (-420)))) (by kernel_rfl) ?_
                  refine .cr ?_
                  exact .lg rfl
              rintro _ y21 rfl
              refine .st (v := (A.v (Value.int .i64 (wr .i64 (a1 - 2))))) (by kernel_rfl) ?_
              refine .st (v := (A.v (Value.int .i64 (wr .i64 (609 * (wr .i64 (a1 - 2))))))) (aBin_mul ..) ?_
              refine .st (v := (A.agg [(A.v (Value.int .i64 y20)), (A.v (Value.int .i64 y21)), (A.v (Value.int .i64 (wr .i64 (609 * (wr .i64 (a1 - 2))))))])) (by kernel_rfl) ?_
              refine .st (v := [Blk.box [(A.v (Value.int .i64 y20)), (A.v (Value.int .i64 y21)), (A.v (Value.int .i64 (wr .i64 (609 * (wr .i64 (a1 - 2))))))], Blk.box [(A.v (Value.int .i64 (wr .i64 (a1 - 2))))], Blk.box [(A.v (Value.int .i64 20)), (A.v (Value.int .i64 (-21)))]]) (by kernel_rfl) ?_
              refine .st (v := (A.agg [(A.v (Value.int .i64 y20)), (A.v (Value.int .i64 y21)), (A.v (Value.int .i64 (wr .i64 (609 * (wr .i64 (a1 - 2))))))])) (by kernel_rfl) ?_
              exact .lf rfl rfl ⟨_, rfl, rfl⟩
            · skip
              refine .sp (fun hb22 => ?_) (fun _ => ?_)
              · refine .st (v := (A.ip [(A.v (Value.int .i64 0)), (A.v (Value.int .i64 (-29))), (A.v (Value.int .i64 (-20))), (A.v (Value.int .i64 (-21))), (A.v (Value.int .i64 (-29))), (A.v (Value.int .i64 0)), (A.v (Value.int .i64 (-20))), (A.v (Value.int .i64 21))])) (by rw [of_decide_eq_true hb22]; kernel_rfl) ?_
                refine .st (v := (A.agg [(A.v (Value.int .i64 0)), (A.v (Value.int .i64 (-29)))])) (by kernel_rfl) ?_
                refine .st (v := ((A.ptr 2 0), [Blk.box [(A.v (Value.int .i64 0)), (A.v (Value.int .i64 0)), (A.v (Value.int .i64 0))], Blk.box [(A.v (Value.int .i64 (wr .i64 (a1 - 2))))], Blk.box [(A.v (Value.int .i64 0)), (A.v (Value.int .i64 0))]])) (by kernel_rfl) ?_
                refine .st (v := [Blk.box [(A.v (Value.int .i64 0)), (A.v (Value.int .i64 0)), (A.v (Value.int .i64 0))], Blk.box [(A.v (Value.int .i64 (wr .i64 (a1 - 2))))], Blk.box [(A.v (Value.int .i64 0)), (A.v (Value.int .i64 (-29)))]]) (by kernel_rfl) ?_
                refine .st (v := (A.ptr 2 0)) (by kernel_rfl) ?_
                refine .st (v := (A.v (Value.int .i64 0))) (by kernel_rfl) ?_
                refine .bg (fun t (y : Int) =>  t = (A.v (Value.int .i64 y))) ?_ ?_
                · refine .cl (e31 C (evCall (cx C) (n+3)) (n+3) _ _ _ _) ?_
                  refine .st (v := (A.v (Value.int .i64 (wr .i64 (a1 - 2))))) (by kernel_rfl) ?_
                  refine .st (v := (A.v (Value.bool ((wr .i64 (a1 - 2)) == 0)))) (aBin_eql ..) ?_
                  refine .bi ?_ ?_
                  · refine .st (v := (A.v (Value.int .i64 0))) (by kernel_rfl) ?_
                    refine .cr ?_
                    exact .lg rfl
                  · refine .st (v := (A.v (Value.int .i64 0))) (by kernel_rfl) ?_
                    refine .cr ?_
                    exact .lg rfl
                rintro _ y23 rfl
                refine .st (v := (A.ptr 2 1)) (by kernel_rfl) ?_
                refine .st (v := (A.v (Value.int .i64 (-29)))) (by kernel_rfl) ?_
                refine .bg (fun t (y : Int) =>  t = (A.v (Value.int .i64 y))) ?_ ?_
                · refine .cl (e31 C (evCall (cx C) (n+3)) (n+3) _ _ _ _) ?_
                  refine .st (v := (A.v (Value.int .i64 (wr .i64 (a1 - 2))))) (by kernel_rfl) ?_
                  refine .st (v := (A.v (Value.bool ((wr .i64 (a1 - 2)) == 0)))) (aBin_eql ..) ?_
                  refine .bi ?_ ?_
                  · refine .st (v := (A.v (Value.int .i64 (-841)))) (by kernel_rfl) ?_
                    refine .cr ?_
                    exact .lg rfl
                  · refine .st (v := (A.v (Value.int .i64 (-580)))) (by kernel_rfl) ?_
                    refine .cr ?_
                    exact .lg rfl
                rintro _ y24 rfl
                refine .st (v := (A.v (Value.int .i64 (wr .i64 (a1 - 2))))) (by kernel_rfl) ?_
                refine .st (v := (A.v (Value.int .i64 (wr .i64 (609 * (wr .i64 (a1 - 2))))))) (aBin_mul ..) ?_
                refine .st (v := (A.agg [(A.v (Value.int .i64 y23)), (A.v (Value.int .i64 y24)), (A.v (Value.int .i64 (wr .i64 (609 * (wr .i64 (a1 - 2))))))])) (by kernel_rfl) ?_
                refine .st (v := [Blk.box [(A.v (Value.int .i64 y23)), (A.v (Value.int .i64 y24)), (A.v (Value.int .i64 (wr .i64 (609 * (wr .i64 (a1 - 2))))))], Blk.box [(A.v (Value.int .i64 (wr .i64 (a1 - 2))))], Blk.box [(A.v (Value.int .i64 0)), (A.v (Value.int .i64 (-29)))]]) (by kernel_rfl) ?_
                refine .st (v := (A.agg [(A.v (Value.int .i64 y23)), (A.v (Value.int .i64 y24)), (A.v (Value.int .i64 (wr .i64 (609 * (wr .i64 (a1 - 2))))))])) (by kernel_rfl) ?_
                exact .lf rfl rfl ⟨_, rfl, rfl⟩
              · skip
                refine .sp (fun hb25 => ?_) (fun _ => ?_)
                · refine .st (v := (A.ip [(A.v (Value.int .i64 (-20))), (A.v (Value.int .i64 (-21))), (A.v (Value.int .i64 (-29))), (A.v (Value.int .i64 0)), (A.v (Value.int .i64 (-20))), (A.v (Value.int .i64 21))])) (by rw [of_decide_eq_true hb25]; kernel_rfl) ?_
                  refine .st (v := (A.agg [(A.v (Value.int .i64 (-20))), (A.v (Value.int .i64 (-21)))])) (by kernel_rfl) ?_
                  refine .st (v := ((A.ptr 2 0), [Blk.box [(A.v (Value.int .i64 0)), (A.v (Value.int .i64 0)), (A.v (Value.int .i64 0))], Blk.box [(A.v (Value.int .i64 (wr .i64 (a1 - 2))))], Blk.box [(A.v (Value.int .i64 0)), (A.v (Value.int .i64 0))]])) (by kernel_rfl) ?_
                  refine .st (v := [Blk.box [(A.v (Value.int .i64 0)), (A.v (Value.int .i64 0)), (A.v (Value.int .i64 0))], Blk.box [(A.v (Value.int .i64 (wr .i64 (a1 - 2))))], Blk.box [(A.v (Value.int .i64 (-20))), (A.v (Value.int .i64 (-21)))]]) (by kernel_rfl) ?_
                  refine .st (v := (A.ptr 2 0)) (by kernel_rfl) ?_
                  refine .st (v := (A.v (Value.int .i64 (-20)))) (by kernel_rfl) ?_
                  refine .bg (fun t (y : Int) =>  t = (A.v (Value.int .i64 y))) ?_ ?_
                  · refine .cl (e31 C (evCall (cx C) (n+3)) (n+3) _ _ _ _) ?_
                    refine .st (v := (A.v (Value.int .i64 (wr .i64 (a1 - 2))))) (by kernel_rfl) ?_
                    refine .st (v := (A.v (Value.bool ((wr .i64 (a1 - 2)) == 0)))) (aBin_eql ..) ?_
                    refine .bi ?_ ?_
                    · refine .st (v := (A.v (Value.int .i64 (-580)))) (by kernel_rfl) ?_
                      refine .cr ?_
                      exact .lg rfl
                    · refine .st (v := (A.v (Value.int .i64 (-400)))) (by kernel_rfl) ?_
                      refine .cr ?_
                      exact .lg rfl
                  rintro _ y26 rfl
                  refine .st (v := (A.ptr 2 1)) (by kernel_rfl) ?_
                  refine .st (v := (A.v (Value.int .i64 (-21)))) (by kernel_rfl) ?_
                  refine .bg (fun t (y : Int) =>  t = (A.v (Value.int .i64 y))) ?_ ?_
                  · refine .cl (e31 C (evCall (cx C) (n+3)) (n+3) _ _ _ _) ?_
                    refine .st (v := (A.v (Value.int .i64 (wr .i64 (a1 - 2))))) (by kernel_rfl) ?_
                    refine .st (v := (A.v (Value.bool ((wr .i64 (a1 - 2)) == 0)))) (aBin_eql ..) ?_
                    refine .bi ?_ ?_
                    · refine .st (v := (A.v (Value.int .i64 (-609)))) (by kernel_rfl) ?_
                      refine .cr ?_
                      exact .lg rfl
                    · refine .st (v := (A.v (Value.int .i64 (-420)))) (by kernel_rfl) ?_
                      refine .cr ?_
                      exact .lg rfl
                  rintro _ y27 rfl
                  refine .st (v := (A.v (Value.int .i64 (wr .i64 (a1 - 2))))) (by kernel_rfl) ?_
                  refine .st (v := (A.v (Value.int .i64 (wr .i64 (609 * (wr .i64 (a1 - 2))))))) (aBin_mul ..) ?_
                  refine .st (v := (A.agg [(A.v (Value.int .i64 y26)), (A.v (Value.int .i64 y27)), (A.v (Value.int .i64 (wr .i64 (609 * (wr .i64 (a1 - 2))))))])) (by kernel_rfl) ?_
                  refine .st (v := [Blk.box [(A.v (Value.int .i64 y26)), (A.v (Value.int .i64 y27)), (A.v (Value.int .i64 (wr .i64 (609 * (wr .i64 (a1 - 2))))))], Blk.box [(A.v (Value.int .i64 (wr .i64 (a1 - 2))))], Blk.box [(A.v (Value.int .i64 (-20))), (A.v (Value.int .i64 (-21)))]]) (by kernel_rfl) ?_
                  refine .st (v := (A.agg [(A.v (Value.int .i64 y26)), (A.v (Value.int .i64 y27)), (A.v (Value.int .i64 (wr .i64 (609 * (wr .i64 (a1 - 2))))))])) (by kernel_rfl) ?_
                  exact .lf rfl rfl ⟨_, rfl, rfl⟩
                · skip
                  refine .sp (fun hb28 => ?_) (fun _ => ?_)
                  · refine .st (v := (A.ip [(A.v (Value.int .i64 (-29))), (A.v (Value.int .i64 0)), (A.v (Value.int .i64 (-20))), (A.v (Value.int .i64 21))])) (by rw [of_decide_eq_true hb28]; kernel_rfl) ?_
                    refine .st (v := (A.agg [(A.v (Value.int .i64 (-29))), (A.v (Value.int .i64 0))])) (by kernel_rfl) ?_
                    refine .st (v := ((A.ptr 2 0), [Blk.box [(A.v (Value.int .i64 0)), (A.v (Value.int .i64 0)), (A.v (Value.int .i64 0))], Blk.box [(A.v (Value.int .i64 (wr .i64 (a1 - 2))))], Blk.box [(A.v (Value.int .i64 0)), (A.v (Value.int .i64 0))]])) (by kernel_rfl) ?_
                    refine .st (v := [Blk.box [(A.v (Value.int .i64 0)), (A.v (Value.int .i64 0)), (A.v (Value.int .i64 0))], Blk.box [(A.v (Value.int .i64 (wr .i64 (a1 - 2))))], Blk.box [(A.v (Value.int .i64 (-29))), (A.v (Value.int .i64 0))]]) (by kernel_rfl) ?_
                    refine .st (v := (A.ptr 2 0)) (by kernel_rfl) ?_
                    refine .st (v := (A.v (Value.int .i64 (-29)))) (by kernel_rfl) ?_
                    refine .bg (fun t (y : Int) =>  t = (A.v (Value.int .i64 y))) ?_ ?_
                    · refine .cl (e31 C (evCall (cx C) (n+3)) (n+3) _ _ _ _) ?_
                      refine .st (v := (A.v (Value.int .i64 (wr .i64 (a1 - 2))))) (by kernel_rfl) ?_
                      refine .st (v := (A.v (Value.bool ((wr .i64 (a1 - 2)) == 0)))) (aBin_eql ..) ?_
                      refine .bi ?_ ?_
                      · refine .st (v := (A.v (Value.int .i64 (-841)))) (by kernel_rfl) ?_
                        refine .cr ?_
                        exact .lg rfl
                      · refine .st (v := (A.v (Value.int .i64 (-580)))) (by kernel_rfl) ?_
                        refine .cr ?_
                        exact .lg rfl
                    rintro _ y29 rfl
                    refine .st (v := (A.ptr 2 1)) (by kernel_rfl) ?_
                    refine .st (v := (A.v (Value.int .i64 0))) (by kernel_rfl) ?_
                    refine .bg (fun t (y : Int) =>  t = (A.v (Value.int .i64 y))) ?_ ?_
                    · refine .cl (e31 C (evCall (cx C) (n+3)) (n+3) _ _ _ _) ?_
                      refine .st (v := (A.v (Value.int .i64 (wr .i64 (a1 - 2))))) (by kernel_rfl) ?_
                      refine .st (v := (A.v (Value.bool ((wr .i64 (a1 - 2)) == 0)))) (aBin_eql ..) ?_
                      refine .bi ?_ ?_
                      · refine .st (v := (A.v (Value.int .i64 0))) (by kernel_rfl) ?_
                        refine .cr ?_
                        exact .lg rfl
                      · refine .st (v := (A.v (Value.int .i64 0))) (by kernel_rfl) ?_
                        refine .cr ?_
                        exact .lg rfl
                    rintro _ y30 rfl
                    refine .st (v := (A.v (Value.int .i64 (wr .i64 (a1 - 2))))) (by kernel_rfl) ?_
                    refine .st (v := (A.v (Value.int .i64 (wr .i64 (609 * (wr .i64 (a1 - 2))))))) (aBin_mul ..) ?_
                    refine .st (v := (A.agg [(A.v (Value.int .i64 y29)), (A.v (Value.int .i64 y30)), (A.v (Value.int .i64 (wr .i64 (609 * (wr .i64 (a1 - 2))))))])) (by kernel_rfl) ?_
                    refine .st (v := [Blk.box [(A.v (Value.int .i64 y29)), (A.v (Value.int .i64 y30)), (A.v (Value.int .i64 (wr .i64 (609 * (wr .i64 (a1 - 2))))))], Blk.box [(A.v (Value.int .i64 (wr .i64 (a1 - 2))))], Blk.box [(A.v (Value.int .i64 (-29))), (A.v (Value.int .i64 0))]]) (by kernel_rfl) ?_
                    refine .st (v := (A.agg [(A.v (Value.int .i64 y29)), (A.v (Value.int .i64 y30)), (A.v (Value.int .i64 (wr .i64 (609 * (wr .i64 (a1 - 2))))))])) (by kernel_rfl) ?_
                    exact .lf rfl rfl ⟨_, rfl, rfl⟩
                  · skip
                    refine .sp (fun hb31 => ?_) (fun _ => ?_)
                    · refine .st (v := (A.ip [(A.v (Value.int .i64 (-20))), (A.v (Value.int .i64 21))])) (by rw [of_decide_eq_true hb31]; kernel_rfl) ?_
                      refine .st (v := (A.agg [(A.v (Value.int .i64 (-20))), (A.v (Value.int .i64 21))])) (by kernel_rfl) ?_
                      refine .st (v := ((A.ptr 2 0), [Blk.box [(A.v (Value.int .i64 0)), (A.v (Value.int .i64 0)), (A.v (Value.int .i64 0))], Blk.box [(A.v (Value.int .i64 (wr .i64 (a1 - 2))))], Blk.box [(A.v (Value.int .i64 0)), (A.v (Value.int .i64 0))]])) (by kernel_rfl) ?_
                      refine .st (v := [Blk.box [(A.v (Value.int .i64 0)), (A.v (Value.int .i64 0)), (A.v (Value.int .i64 0))], Blk.box [(A.v (Value.int .i64 (wr .i64 (a1 - 2))))], Blk.box [(A.v (Value.int .i64 (-20))), (A.v (Value.int .i64 21))]]) (by kernel_rfl) ?_
                      refine .st (v := (A.ptr 2 0)) (by kernel_rfl) ?_
                      refine .st (v := (A.v (Value.int .i64 (-20)))) (by kernel_rfl) ?_
                      refine .bg (fun t (y : Int) =>  t = (A.v (Value.int .i64 y))) ?_ ?_
                      · refine .cl (e31 C (evCall (cx C) (n+3)) (n+3) _ _ _ _) ?_
                        refine .st (v := (A.v (Value.int .i64 (wr .i64 (a1 - 2))))) (by kernel_rfl) ?_
                        refine .st (v := (A.v (Value.bool ((wr .i64 (a1 - 2)) == 0)))) (aBin_eql ..) ?_
                        refine .bi ?_ ?_
                        · refine .st (v := (A.v (Value.int .i64 (-580)))) (by kernel_rfl) ?_
                          refine .cr ?_
                          exact .lg rfl
                        · refine .st (v := (A.v (Value.int .i64 (-400)))) (by kernel_rfl) ?_
                          refine .cr ?_
                          exact .lg rfl
                      rintro _ y32 rfl
                      refine .st (v := (A.ptr 2 1)) (by kernel_rfl) ?_
                      refine .st (v := (A.v (Value.int .i64 21))) (by kernel_rfl) ?_
                      refine .bg (fun t (y : Int) =>  t = (A.v (Value.int .i64 y))) ?_ ?_
                      · refine .cl (e31 C (evCall (cx C) (n+3)) (n+3) _ _ _ _) ?_
                        refine .st (v := (A.v (Value.int .i64 (wr .i64 (a1 - 2))))) (by kernel_rfl) ?_
                        refine .st (v := (A.v (Value.bool ((wr .i64 (a1 - 2)) == 0)))) (aBin_eql ..) ?_
                        refine .bi ?_ ?_
                        · refine .st (v := (A.v (Value.int .i64 609))) (by kernel_rfl) ?_
                          refine .cr ?_
                          exact .lg rfl
                        · refine .st (v := (A.v (Value.int .i64 420))) (by kernel_rfl) ?_
                          refine .cr ?_
                          exact .lg rfl
                      rintro _ y33 rfl
                      refine .st (v := (A.v (Value.int .i64 (wr .i64 (a1 - 2))))) (by kernel_rfl) ?_
                      refine .st (v := (A.v (Value.int .i64 (wr .i64 (609 * (wr .i64 (a1 - 2))))))) (aBin_mul ..) ?_
                      refine .st (v := (A.agg [(A.v (Value.int .i64 y32)), (A.v (Value.int .i64 y33)), (A.v (Value.int .i64 (wr .i64 (609 * (wr .i64 (a1 - 2))))))])) (by kernel_rfl) ?_
                      refine .st (v := [Blk.box [(A.v (Value.int .i64 y32)), (A.v (Value.int .i64 y33)), (A.v (Value.int .i64 (wr .i64 (609 * (wr .i64 (a1 - 2))))))], Blk.box [(A.v (Value.int .i64 (wr .i64 (a1 - 2))))], Blk.box [(A.v (Value.int .i64 (-20))), (A.v (Value.int .i64 21))]]) (by kernel_rfl) ?_
                      refine .st (v := (A.agg [(A.v (Value.int .i64 y32)), (A.v (Value.int .i64 y33)), (A.v (Value.int .i64 (wr .i64 (609 * (wr .i64 (a1 - 2))))))])) (by kernel_rfl) ?_
                      exact .lf rfl rfl ⟨_, rfl, rfl⟩
                    · skip
                      exact .nn

def G11 (a0 : Int) (a1 : Int) : Option (S_Vec × Int) := F11 fuel0 a0 a1

def Orc11 (C : Nat → List A → Option A) : Prop := ∀ (a0 : Int) (a1 : Int), C 11 [(A.v (Value.int .i64 a0)), (A.v (Value.int .i64 a1))] = (G11 a0 a1).map fun y => (A.tup [(A.agg [(A.v (Value.int .i64 y.1.X)), (A.v (Value.int .i64 y.1.Y)), (A.v (Value.int .i64 y.1.Z))]), (A.v (Value.int .i64 y.2))])

def F32_32_0 (n : Nat) (v1 : Int) (v2 : Bool) (v3 : (List Int)) (v4 : Int) : Nat → Int → Option ((Bool) ⊕ (Unit))
  | 0, _ => none
  | m + 1, v5 => bif (decide (v5 < v4)) then (Option.bind (getI v3 v5) fun y6 => Option.bind (bif (decide (y6 < (wr .i64 (0 - v1)))) then (some true) else (some (decide (v1 < y6)))) fun y7 => bif y7 then (some ((Sum.inl false))) else (F32_32_0 n v1 v2 v3 v4 m (wr .i64 (v5 + 1)))) else (some ((Sum.inr (()))))

theorem T32_32_0 (C : Nat → List A → Option A) (n : Nat) (v1 : Int) (v2 : Bool) (v3 : (List Int)) (v4 : Int) {ρ γ : Type} {φ : ρ → γ → Prop} {kL : R → Option ρ} {K : ((Bool) ⊕ (Unit)) → Option γ} (kx kg : Nat → St → Option R) (kr : St → Option R) (kp : A → St → Option R) (x0 : ∀ (o0 : Bool) (s0 : A) (s7 : A) (s8 : A) (s9 : A), J φ (kr (St.mk [(0, s0), (4, (A.v (Value.bool o0))), (7, s7), (8, s8), (9, s9)] [])) kL (K (Sum.inl o0)) some) (x1 : ∀ (s0 : A) (s4 : A) (s7 : A) (s8 : A) (s9 : A), J φ (kx 0 (St.mk [(0, s0), (4, s4), (7, s7), (8, s8), (9, s9)] [])) kL (K (Sum.inr (()))) some) :
    ∀ (m : Nat) (v5 : Int), J φ (loopR (cx C) (evCall (cx C) (n+4)) (n+4) 32 0 0 0 kx kg kr kp m (St.mk [(0, (A.v (Value.int .i64 v1))), (4, (A.v (Value.bool v2))), (7, (A.imm (List.map (cI .i64) v3) false)), (8, (A.v (Value.int .i64 v4))), (9, (A.v (Value.int .i64 v5)))] [])) kL (F32_32_0 n v1 v2 v3 v4 m v5) K := by
  intro m
  induction m with
  | zero => intros; exact .nn
  | succ m ih =>
    intro v5
    refine .lp (e32_0 ..) ?_
    unfold F32_32_0
    refine .st (v := (A.v (Value.bool (decide (v5 < v4))))) (aBin_lss ..) ?_
    refine .bi ?_ ?_
    · refine .bd (g := fun (y : Int) => A.ip ((cI .i64) y)) (idx_imm (e := 3) (es := 1) (h1 := by kernel_rfl) (h2 := by kernel_rfl) (h3 := fun _ => rfl) ..) fun y6 => ?_
      refine .st (v := (A.v (Value.int .i64 y6))) (by kernel_rfl) ?_
      refine .st (v := (A.v (Value.int .i64 (wr .i64 (0 - v1))))) (by kernel_rfl) ?_
      refine .st (v := (A.v (Value.bool (decide (y6 < (wr .i64 (0 - v1))))))) (aBin_lss ..) ?_
      refine .bg (fun t (y : Bool) => ∃ j8 j9 j10 : A, t = [(A.v (Value.bool y)), j8, j9, j10]) ?_ ?_
      · refine .bi ?_ ?_
        · exact .lg ⟨_, _, _, rfl⟩
        · refine .st (v := (A.v (Value.bool (decide (v1 < y6))))) (aBin_gtr ..) ?_
          exact .lg ⟨_, _, _, rfl⟩
      rintro _ y7 ⟨j8, j9, j10, rfl⟩
      iterate 4 refine .uc ?_
      refine .bi ?_ ?_
      · exact .ex (x0 _ _ _ _ _)
      · refine .st (v := (A.v (Value.int .i64 (wr .i64 (v5 + 1))))) (aBin_add ..) ?_
        refine .st (v := []) (by kernel_rfl) ?_
        refine .cT (by kernel_rfl) ?_
        exact ih _
    · exact .ex (x1 _ _ _ _ _)

def F32 (n : Nat) (a0 : Int) (a1 : (List Int)) : Option Bool :=
  Option.bind (F32_32_0 n a0 false a1 ((a1.length : Int)) (n+4) 0) fun o11 => match o11 with | (Sum.inl y12) => some y12 | (Sum.inr _) => some true

theorem T32 (C : Nat → List A → Option A) (n : Nat) (a0 : Int) (a1 : (List Int)) : J (fun (o : R) y => ∃ v, o.1 = .ret v ∧ snap o.2 v = (A.v (Value.bool y))) (evCall1 (cx C) (evCall (cx C) (n+4)) (n+4) 32 [(A.v (Value.int .i64 a0)), (A.imm (List.map (cI .i64) a1) false)] [] 0) some (F32 n a0 a1) some := by
  refine .lp (e32 ..) ?_
  unfold F32
  refine .st (v := (A.v (Value.int .i64 ((a1.length : Int))))) (len_imm (e := 3) (h1 := by kernel_rfl) ..) ?_
  refine .as (T32_32_0 C n  a0 false a1 ((a1.length : Int)) _ _ _ _ ?_ ?_ _ 0)
  · intro y12 j13 j14 j15 j16
    refine .un rfl ?_
    exact .lf rfl rfl ⟨_, rfl, rfl⟩
  · intro j17 j18 j19 j20 j21
    refine .un rfl ?_
    refine .cT (by kernel_rfl) ?_
    exact .lf rfl rfl ⟨_, rfl, rfl⟩

def G32 (a0 : Int) (a1 : (List Int)) : Option Bool := F32 fuel0 a0 a1

def Orc32 (C : Nat → List A → Option A) : Prop := ∀ (a0 : Int) (a1 : (List Int)), C 32 [(A.v (Value.int .i64 a0)), (A.imm (List.map (cI .i64) a1) false)] = (G32 a0 a1).map fun y => (A.v (Value.bool y))

def F33 (n : Nat) (a0 : S_Vec) : Option Bool :=
  Option.bind (bif (decide ((-1048576) ≤ a0.X)) then (some (decide (a0.X ≤ 1048576))) else (some false)) fun y1 => Option.bind (bif y1 then (some (decide ((-1048576) ≤ a0.Y))) else (some false)) fun y6 => Option.bind (bif y6 then (some (decide (a0.Y ≤ 1048576))) else (some false)) fun y12 => Option.bind (bif y12 then (some (decide ((-1048576) ≤ a0.Z))) else (some false)) fun y17 => Option.bind (bif y17 then (some (decide (a0.Z ≤ 1048576))) else (some false)) fun y23 => some y23

theorem T33 (C : Nat → List A → Option A) (n : Nat) (a0 : S_Vec) : J (fun (o : R) y => ∃ v, o.1 = .ret v ∧ snap o.2 v = (A.v (Value.bool y))) (evCall1 (cx C) (evCall (cx C) (n+4)) (n+4) 33 [(A.agg [(A.v (Value.int .i64 a0.X)), (A.v (Value.int .i64 a0.Y)), (A.v (Value.int .i64 a0.Z))])] [] 0) some (F33 n a0) some := by
  refine .lp (e33 ..) ?_
  unfold F33
  refine .st (v := ((A.ptr 0 0), [Blk.box [(A.v (Value.int .i64 a0.X)), (A.v (Value.int .i64 a0.Y)), (A.v (Value.int .i64 a0.Z))]])) (by kernel_rfl) ?_
  refine .st (v := (A.ptr 0 0)) (by kernel_rfl) ?_
  refine .st (v := (A.v (Value.int .i64 a0.X))) (by kernel_rfl) ?_
  refine .st (v := (A.v (Value.int .i64 (-1048576)))) (by kernel_rfl) ?_
  refine .st (v := (A.v (Value.bool (decide ((-1048576) ≤ a0.X))))) (aBin_geq ..) ?_
  refine .bg (fun t (y : Bool) => ∃ j2 j3 j4 j5 : A, t = [(A.v (Value.bool y)), j2, j3, j4, j5]) ?_ ?_
  · refine .bi ?_ ?_
    · refine .st (v := (A.ptr 0 0)) (by kernel_rfl) ?_
      refine .st (v := (A.v (Value.int .i64 a0.X))) (by kernel_rfl) ?_
      refine .st (v := (A.v (Value.bool (decide (a0.X ≤ 1048576))))) (aBin_leq ..) ?_
      exact .lg ⟨_, _, _, _, rfl⟩
    · exact .lg ⟨_, _, _, _, rfl⟩
  rintro _ y1 ⟨j2, j3, j4, j5, rfl⟩
  iterate 5 refine .uc ?_
  refine .bg (fun t (y : Bool) => ∃ j7 j8 j9 j10 j11 : A, t = [(A.v (Value.bool y)), j7, j8, j9, j10, j11]) ?_ ?_
  · refine .bi ?_ ?_
    · refine .st (v := (A.ptr 0 1)) (by kernel_rfl) ?_
      refine .st (v := (A.v (Value.int .i64 a0.Y))) (by kernel_rfl) ?_
      refine .st (v := (A.v (Value.int .i64 (-1048576)))) (by kernel_rfl) ?_
      refine .st (v := (A.v (Value.bool (decide ((-1048576) ≤ a0.Y))))) (aBin_geq ..) ?_
      exact .lg ⟨_, _, _, _, _, rfl⟩
    · exact .lg ⟨_, _, _, _, _, rfl⟩
  rintro _ y6 ⟨j7, j8, j9, j10, j11, rfl⟩
  iterate 6 refine .uc ?_
  refine .bg (fun t (y : Bool) => ∃ j13 j14 j15 j16 : A, t = [(A.v (Value.bool y)), j13, j14, j15, j16]) ?_ ?_
  · refine .bi ?_ ?_
    · refine .st (v := (A.ptr 0 1)) (by kernel_rfl) ?_
      refine .st (v := (A.v (Value.int .i64 a0.Y))) (by kernel_rfl) ?_
      refine .st (v := (A.v (Value.bool (decide (a0.Y ≤ 1048576))))) (aBin_leq ..) ?_
      exact .lg ⟨_, _, _, _, rfl⟩
    · exact .lg ⟨_, _, _, _, rfl⟩
  rintro _ y12 ⟨j13, j14, j15, j16, rfl⟩
  iterate 5 refine .uc ?_
  refine .bg (fun t (y : Bool) => ∃ j18 j19 j20 j21 j22 : A, t = [(A.v (Value.bool y)), j18, j19, j20, j21, j22]) ?_ ?_
  · refine .bi ?_ ?_
    · refine .st (v := (A.ptr 0 2)) (by kernel_rfl) ?_
      refine .st (v := (A.v (Value.int .i64 a0.Z))) (by kernel_rfl) ?_
      refine .st (v := (A.v (Value.int .i64 (-1048576)))) (by kernel_rfl) ?_
      refine .st (v := (A.v (Value.bool (decide ((-1048576) ≤ a0.Z))))) (aBin_geq ..) ?_
      exact .lg ⟨_, _, _, _, _, rfl⟩
    · exact .lg ⟨_, _, _, _, _, rfl⟩
  rintro _ y17 ⟨j18, j19, j20, j21, j22, rfl⟩
  iterate 6 refine .uc ?_
  refine .bg (fun t (y : Bool) => ∃ j24 j25 j26 j27 : A, t = [(A.v (Value.bool y)), j24, j25, j26, j27]) ?_ ?_
  · refine .bi ?_ ?_
    · refine .st (v := (A.ptr 0 2)) (by kernel_rfl) ?_
      refine .st (v := (A.v (Value.int .i64 a0.Z))) (by kernel_rfl) ?_
      refine .st (v := (A.v (Value.bool (decide (a0.Z ≤ 1048576))))) (aBin_leq ..) ?_
      exact .lg ⟨_, _, _, _, rfl⟩
    · exact .lg ⟨_, _, _, _, rfl⟩
  rintro _ y23 ⟨j24, j25, j26, j27, rfl⟩
  iterate 5 refine .uc ?_
  exact .lf rfl rfl ⟨_, rfl, rfl⟩

def G33 (a0 : S_Vec) : Option Bool := F33 fuel0 a0

def Orc33 (C : Nat → List A → Option A) : Prop := ∀ (a0 : S_Vec), C 33 [(A.agg [(A.v (Value.int .i64 a0.X)), (A.v (Value.int .i64 a0.Y)), (A.v (Value.int .i64 a0.Z))])] = (G33 a0).map fun y => (A.v (Value.bool y))

def F13 (n : Nat) (a0 : Int) : Option (Int × Int × Int) :=
  Option.bind (bif (decide (a0 < 1)) then (some true) else (some (decide (8 < a0)))) fun y1 => bif y1 then (some ((0, 0, 150))) else (bif decide ((wr .i64 (a0 - 1)) = 0) then (some ((0, 29, 0))) else bif decide ((wr .i64 (a0 - 1)) = 1) then (some ((20, 21, 0))) else bif decide ((wr .i64 (a0 - 1)) = 2) then (some ((29, 0, 0))) else bif decide ((wr .i64 (a0 - 1)) = 3) then (some ((20, -21, 0))) else bif decide ((wr .i64 (a0 - 1)) = 4) then (some ((0, -29, 0))) else bif decide ((wr .i64 (a0 - 1)) = 5) then (some ((-20, -21, 0))) else bif decide ((wr .i64 (a0 - 1)) = 6) then (some ((-29, 0, 0))) else bif decide ((wr .i64 (a0 - 1)) = 7) then (some ((-20, 21, 0))) else none)

theorem T13 (C : Nat → List A → Option A) (n : Nat) (a0 : Int) : J (fun (o : R) y => ∃ v, o.1 = .ret v ∧ snap o.2 v = (A.tup [(A.v (Value.int .i64 y.1)), (A.v (Value.int .i64 y.2.1)), (A.v (Value.int .i64 y.2.2))])) (evCall1 (cx C) (evCall (cx C) (n+4)) (n+4) 13 [(A.v (Value.int .i64 a0))] [] 0) some (F13 n a0) some := by
  refine .lp (e13 ..) ?_
  unfold F13
  refine .st (v := (A.v (Value.bool (decide (a0 < 1))))) (aBin_lss ..) ?_
  refine .bg (fun t (y : Bool) => ∃ j2 j3 : A, t = [(A.v (Value.bool y)), j2, j3]) ?_ ?_
  · refine .bi ?_ ?_
    · exact .lg ⟨_, _, rfl⟩
    · refine .st (v := (A.v (Value.bool (decide (8 < a0))))) (aBin_gtr ..) ?_
      exact .lg ⟨_, _, rfl⟩
  rintro _ y1 ⟨j2, j3, rfl⟩
  iterate 3 refine .uc ?_
  refine .bi ?_ ?_
  · exact .lf rfl rfl ⟨_, rfl, rfl⟩
  · refine .st (v := (A.v (Value.int .i64 (wr .i64 (a0 - 1))))) (aBin_sub ..) ?_
    refine .sp (fun hb4 => ?_) (fun _ => ?_)
    · refine .st (v := (A.ip [(A.v (Value.int .i64 0)), (A.v (Value.int .i64 29)), (A.v (Value.int .i64 20)), (A.v (Value.int .i64 21)), (A.v (Value.int .i64 29)), (A.v (Value.int .i64 0)), (A.v (Value.int .i64 20)), (A.v (Value.int .i64 (-21))), (A.v (Value.int .i64 0)), (A.v (Value.int .i64 (-29))), (A.v (Value.int .i64 (-20))), (A.v (Value.int .i64 (-21))), (A.v (Value.int .i64 (-29))), (A.v (Value.int .i64 0)), (A.v (Value.int .i64 (-20))), (A.v (Value.int .i64 21))])) (by rw [of_decide_eq_true hb4]; kernel_rfl) ?_
      refine .st (v := (A.ip [(A.v (Value.int .i64 0)), (A.v (Value.int .i64 29)), (A.v (Value.int .i64 20)), (A.v (Value.int .i64 21)), (A.v (Value.int .i64 29)), (A.v (Value.int .i64 0)), (A.v (Value.int .i64 20)), (A.v (Value.int .i64 (-21))), (A.v (Value.int .i64 0)), (A.v (Value.int .i64 (-29))), (A.v (Value.int .i64 (-20))), (A.v (Value.int .i64 (-21))), (A.v (Value.int .i64 (-29))), (A.v (Value.int .i64 0)), (A.v (Value.int .i64 (-20))), (A.v (Value.int .i64 21))])) (by kernel_rfl) ?_
      refine .st (v := (A.v (Value.int .i64 0))) (by kernel_rfl) ?_
      refine .st (v := (A.v (Value.int .i64 (wr .i64 (a0 - 1))))) (aBin_sub ..) ?_
      refine .st (v := (A.ip [(A.v (Value.int .i64 0)), (A.v (Value.int .i64 29)), (A.v (Value.int .i64 20)), (A.v (Value.int .i64 21)), (A.v (Value.int .i64 29)), (A.v (Value.int .i64 0)), (A.v (Value.int .i64 20)), (A.v (Value.int .i64 (-21))), (A.v (Value.int .i64 0)), (A.v (Value.int .i64 (-29))), (A.v (Value.int .i64 (-20))), (A.v (Value.int .i64 (-21))), (A.v (Value.int .i64 (-29))), (A.v (Value.int .i64 0)), (A.v (Value.int .i64 (-20))), (A.v (Value.int .i64 21))])) (by rw [of_decide_eq_true hb4]; kernel_rfl) ?_
      refine .st (v := (A.ip [(A.v (Value.int .i64 29)), (A.v (Value.int .i64 20)), (A.v (Value.int .i64 21)), (A.v (Value.int .i64 29)), (A.v (Value.int .i64 0)), (A.v (Value.int .i64 20)), (A.v (Value.int .i64 (-21))), (A.v (Value.int .i64 0)), (A.v (Value.int .i64 (-29))), (A.v (Value.int .i64 (-20))), (A.v (Value.int .i64 (-21))), (A.v (Value.int .i64 (-29))), (A.v (Value.int .i64 0)), (A.v (Value.int .i64 (-20))), (A.v (Value.int .i64 21))])) (by kernel_rfl) ?_
      refine .st (v := (A.v (Value.int .i64 29))) (by kernel_rfl) ?_
      exact .lf rfl rfl ⟨_, rfl, rfl⟩
    · skip
      refine .sp (fun hb5 => ?_) (fun _ => ?_)
      · refine .st (v := (A.ip [(A.v (Value.int .i64 20)), (A.v (Value.int .i64 21)), (A.v (Value.int .i64 29)), (A.v (Value.int .i64 0)), (A.v (Value.int .i64 20)), (A.v (Value.int .i64 (-21))), (A.v (Value.int .i64 0)), (A.v (Value.int .i64 (-29))), (A.v (Value.int .i64 (-20))), (A.v (Value.int .i64 (-21))), (A.v (Value.int .i64 (-29))), (A.v (Value.int .i64 0)), (A.v (Value.int .i64 (-20))), (A.v (Value.int .i64 21))])) (by rw [of_decide_eq_true hb5]; kernel_rfl) ?_
        refine .st (v := (A.ip [(A.v (Value.int .i64 20)), (A.v (Value.int .i64 21)), (A.v (Value.int .i64 29)), (A.v (Value.int .i64 0)), (A.v (Value.int .i64 20)), (A.v (Value.int .i64 (-21))), (A.v (Value.int .i64 0)), (A.v (Value.int .i64 (-29))), (A.v (Value.int .i64 (-20))), (A.v (Value.int .i64 (-21))), (A.v (Value.int .i64 (-29))), (A.v (Value.int .i64 0)), (A.v (Value.int .i64 (-20))), (A.v (Value.int .i64 21))])) (by kernel_rfl) ?_
        refine .st (v := (A.v (Value.int .i64 20))) (by kernel_rfl) ?_
        refine .st (v := (A.v (Value.int .i64 (wr .i64 (a0 - 1))))) (aBin_sub ..) ?_
        refine .st (v := (A.ip [(A.v (Value.int .i64 20)), (A.v (Value.int .i64 21)), (A.v (Value.int .i64 29)), (A.v (Value.int .i64 0)), (A.v (Value.int .i64 20)), (A.v (Value.int .i64 (-21))), (A.v (Value.int .i64 0)), (A.v (Value.int .i64 (-29))), (A.v (Value.int .i64 (-20))), (A.v (Value.int .i64 (-21))), (A.v (Value.int .i64 (-29))), (A.v (Value.int .i64 0)), (A.v (Value.int .i64 (-20))), (A.v (Value.int .i64 21))])) (by rw [of_decide_eq_true hb5]; kernel_rfl) ?_
        refine .st (v := (A.ip [(A.v (Value.int .i64 21)), (A.v (Value.int .i64 29)), (A.v (Value.int .i64 0)), (A.v (Value.int .i64 20)), (A.v (Value.int .i64 (-21))), (A.v (Value.int .i64 0)), (A.v (Value.int .i64 (-29))), (A.v (Value.int .i64 (-20))), (A.v (Value.int .i64 (-21))), (A.v (Value.int .i64 (-29))), (A.v (Value.int .i64 0)), (A.v (Value.int .i64 (-20))), (A.v (Value.int .i64 21))])) (by kernel_rfl) ?_
        refine .st (v := (A.v (Value.int .i64 21))) (by kernel_rfl) ?_
        exact .lf rfl rfl ⟨_, rfl, rfl⟩
      · skip
        refine .sp (fun hb6 => ?_) (fun _ => ?_)
        · refine .st (v := (A.ip [(A.v (Value.int .i64 29)), (A.v (Value.int .i64 0)), (A.v (Value.int .i64 20)), (A.v (Value.int .i64 (-21))), (A.v (Value.int .i64 0)), (A.v (Value.int .i64 (-29))), (A.v (Value.int .i64 (-20))), (A.v (Value.int .i64 (-21))), (A.v (Value.int .i64 (-29))), (A.v (Value.int .i64 0)), (A.v (Value.int .i64 (-20))), (A.v (Value.int .i64 21))])) (by rw [of_decide_eq_true hb6]; kernel_rfl) ?_
          refine .st (v := (A.ip [(A.v (Value.int .i64 29)), (A.v (Value.int .i64 0)), (A.v (Value.int .i64 20)), (A.v (Value.int .i64 (-21))), (A.v (Value.int .i64 0)), (A.v (Value.int .i64 (-29))), (A.v (Value.int .i64 (-20))), (A.v (Value.int .i64 (-21))), (A.v (Value.int .i64 (-29))), (A.v (Value.int .i64 0)), (A.v (Value.int .i64 (-20))), (A.v (Value.int .i64 21))])) (by kernel_rfl) ?_
          refine .st (v := (A.v (Value.int .i64 29))) (by kernel_rfl) ?_
          refine .st (v := (A.v (Value.int .i64 (wr .i64 (a0 - 1))))) (aBin_sub ..) ?_
          refine .st (v := (A.ip [(A.v (Value.int .i64 29)), (A.v (Value.int .i64 0)), (A.v (Value.int .i64 20)), (A.v (Value.int .i64 (-21))), (A.v (Value.int .i64 0)), (A.v (Value.int .i64 (-29))), (A.v (Value.int .i64 (-20))), (A.v (Value.int .i64 (-21))), (A.v (Value.int .i64 (-29))), (A.v (Value.int .i64 0)), (A.v (Value.int .i64 (-20))), (A.v (Value.int .i64 21))])) (by rw [of_decide_eq_true hb6]; kernel_rfl) ?_
          refine .st (v := (A.ip [(A.v (Value.int .i64 0)), (A.v (Value.int .i64 20)), (A.v (Value.int .i64 (-21))), (A.v (Value.int .i64 0)), (A.v (Value.int .i64 (-29))), (A.v (Value.int .i64 (-20))), (A.v (Value.int .i64 (-21))), (A.v (Value.int .i64 (-29))), (A.v (Value.int .i64 0)), (A.v (Value.int .i64 (-20))), (A.v (Value.int .i64 21))])) (by kernel_rfl) ?_
          refine .st (v := (A.v (Value.int .i64 0))) (by kernel_rfl) ?_
          exact .lf rfl rfl ⟨_, rfl, rfl⟩
        · skip
          refine .sp (fun hb7 => ?_) (fun _ => ?_)
          · refine .st (v := (A.ip [(A.v (Value.int .i64 20)), (A.v (Value.int .i64 (-21))), (A.v (Value.int .i64 0)), (A.v (Value.int .i64 (-29))), (A.v (Value.int .i64 (-20))), (A.v (Value.int .i64 (-21))), (A.v (Value.int .i64 (-29))), (A.v (Value.int .i64 0)), (A.v (Value.int .i64 (-20))), (A.v (Value.int .i64 21))])) (by rw [of_decide_eq_true hb7]; kernel_rfl) ?_
            refine .st (v := (A.ip [(A.v (Value.int .i64 20)), (A.v (Value.int .i64 (-21))), (A.v (Value.int .i64 0)), (A.v (Value.int .i64 (-29))), (A.v (Value.int .i64 (-20))), (A.v (Value.int .i64 (-21))), (A.v (Value.int .i64 (-29))), (A.v (Value.int .i64 0)), (A.v (Value.int .i64 (-20))), (A.v (Value.int .i64 21))])) (by kernel_rfl) ?_
            refine .st (v := (A.v (Value.int .i64 20))) (by kernel_rfl) ?_
            refine .st (v := (A.v (Value.int .i64 (wr .i64 (a0 - 1))))) (aBin_sub ..) ?_
            refine .st (v := (A.ip [(A.v (Value.int .i64 20)), (A.v (Value.int .i64 (-21))), (A.v (Value.int .i64 0)), (A.v (Value.int .i64 (-29))), (A.v (Value.int .i64 (-20))), (A.v (Value.int .i64 (-21))), (A.v (Value.int .i64 (-29))), (A.v (Value.int .i64 0)), (A.v (Value.int .i64 (-20))), (A.v (Value.int .i64 21))])) (by rw [of_decide_eq_true hb7]; kernel_rfl) ?_
            refine .st (v := (A.ip [(A.v (Value.int .i64 (-21))), (A.v (Value.int .i64 0)), (A.v (Value.int .i64 (-29))), (A.v (Value.int .i64 (-20))), (A.v (Value.int .i64 (-21))), (A.v (Value.int .i64 (-29))), (A.v (Value.int .i64 0)), (A.v (Value.int .i64 (-20))), (A.v (Value.int .i64 21))])) (by kernel_rfl) ?_
            refine .st (v := (A.v (Value.int .i64 (-21)))) (by kernel_rfl) ?_
            exact .lf rfl rfl ⟨_, rfl, rfl⟩
          · skip
            refine .sp (fun hb8 => ?_) (fun _ => ?_)
            · refine .st (v := (A.ip [(A.v (Value.int .i64 0)), (A.v (Value.int .i64 (-29))), (A.v (Value.int .i64 (-20))), (A.v (Value.int .i64 (-21))), (A.v (Value.int .i64 (-29))), (A.v (Value.int .i64 0)), (A.v (Value.int .i64 (-20))), (A.v (Value.int .i64 21))])) (by rw [of_decide_eq_true hb8]; kernel_rfl) ?_
              refine .st (v := (A.ip [(A.v (Value.int .i64 0)), (A.v (Value.int .i64 (-29))), (A.v (Value.int .i64 (-20))), (A.v (Value.int .i64 (-21))), (A.v (Value.int .i64 (-29))), (A.v (Value.int .i64 0)), (A.v (Value.int .i64 (-20))), (A.v (Value.int .i64 21))])) (by kernel_rfl) ?_
              refine .st (v := (A.v (Value.int .i64 0))) (by kernel_rfl) ?_
              refine .st (v := (A.v (Value.int .i64 (wr .i64 (a0 - 1))))) (aBin_sub ..) ?_
              refine .st (v := (A.ip [(A.v (Value.int .i64 0)), (A.v (Value.int .i64 (-29))), (A.v (Value.int .i64 (-20))), (A.v (Value.int .i64 (-21))), (A.v (Value.int .i64 (-29))), (A.v (Value.int .i64 0)), (A.v (Value.int .i64 (-20))), (A.v (Value.int .i64 21))])) (by rw [of_decide_eq_true hb8]; kernel_rfl) ?_
              refine .st (v := (A.ip [(A.v (Value.int .i64 (-29))), (A.v (Value.int .i64 (-20))), (A.v (Value.int .i64 (-21))), (A.v (Value.int .i64 (-29))), (A.v (Value.int .i64 0)), (A.v (Value.int .i64 (-20))), (A.v (Value.int .i64 21))])) (by kernel_rfl) ?_
              refine .st (v := (A.v (Value.int .i64 (-29)))) (by kernel_rfl) ?_
              exact .lf rfl rfl ⟨_, rfl, rfl⟩
            · skip
              refine .sp (fun hb9 => ?_) (fun _ => ?_)
              · refine .st (v := (A.ip [(A.v (Value.int .i64 (-20))), (A.v (Value.int .i64 (-21))), (A.v (Value.int .i64 (-29))), (A.v (Value.int .i64 0)), (A.v (Value.int .i64 (-20))), (A.v (Value.int .i64 21))])) (by rw [of_decide_eq_true hb9]; kernel_rfl) ?_
                refine .st (v := (A.ip [(A.v (Value.int .i64 (-20))), (A.v (Value.int .i64 (-21))), (A.v (Value.int .i64 (-29))), (A.v (Value.int .i64 0)), (A.v (Value.int .i64 (-20))), (A.v (Value.int .i64 21))])) (by kernel_rfl) ?_
                refine .st (v := (A.v (Value.int .i64 (-20)))) (by kernel_rfl) ?_
                refine .st (v := (A.v (Value.int .i64 (wr .i64 (a0 - 1))))) (aBin_sub ..) ?_
                refine .st (v := (A.ip [(A.v (Value.int .i64 (-20))), (A.v (Value.int .i64 (-21))), (A.v (Value.int .i64 (-29))), (A.v (Value.int .i64 0)), (A.v (Value.int .i64 (-20))), (A.v (Value.int .i64 21))])) (by rw [of_decide_eq_true hb9]; kernel_rfl) ?_
                refine .st (v := (A.ip [(A.v (Value.int .i64 (-21))), (A.v (Value.int .i64 (-29))), (A.v (Value.int .i64 0)), (A.v (Value.int .i64 (-20))), (A.v (Value.int .i64 21))])) (by kernel_rfl) ?_
                refine .st (v := (A.v (Value.int .i64 (-21)))) (by kernel_rfl) ?_
                exact .lf rfl rfl ⟨_, rfl, rfl⟩
              · skip
                refine .sp (fun hb10 => ?_) (fun _ => ?_)
                · refine .st (v := (A.ip [(A.v (Value.int .i64 (-29))), (A.v (Value.int .i64 0)), (A.v (Value.int .i64 (-20))), (A.v (Value.int .i64 21))])) (by rw [of_decide_eq_true hb10]; kernel_rfl) ?_
                  refine .st (v := (A.ip [(A.v (Value.int .i64 (-29))), (A.v (Value.int .i64 0)), (A.v (Value.int .i64 (-20))), (A.v (Value.int .i64 21))])) (by kernel_rfl) ?_
                  refine .st (v := (A.v (Value.int .i64 (-29)))) (by kernel_rfl) ?_
                  refine .st (v := (A.v (Value.int .i64 (wr .i64 (a0 - 1))))) (aBin_sub ..) ?_
                  refine .st (v := (A.ip [(A.v (Value.int .i64 (-29))), (A.v (Value.int .i64 0)), (A.v (Value.int .i64 (-20))), (A.v (Value.int .i64 21))])) (by rw [of_decide_eq_true hb10]; kernel_rfl) ?_
                  refine .st (v := (A.ip [(A.v (Value.int .i64 0)), (A.v (Value.int .i64 (-20))), (A.v (Value.int .i64 21))])) (by kernel_rfl) ?_
                  refine .st (v := (A.v (Value.int .i64 0))) (by kernel_rfl) ?_
                  exact .lf rfl rfl ⟨_, rfl, rfl⟩
                · skip
                  refine .sp (fun hb11 => ?_) (fun _ => ?_)
                  · refine .st (v := (A.ip [(A.v (Value.int .i64 (-20))), (A.v (Value.int .i64 21))])) (by rw [of_decide_eq_true hb11]; kernel_rfl) ?_
                    refine .st (v := (A.ip [(A.v (Value.int .i64 (-20))), (A.v (Value.int .i64 21))])) (by kernel_rfl) ?_
                    refine .st (v := (A.v (Value.int .i64 (-20)))) (by kernel_rfl) ?_
                    refine .st (v := (A.v (Value.int .i64 (wr .i64 (a0 - 1))))) (aBin_sub ..) ?_
                    refine .st (v := (A.ip [(A.v (Value.int .i64 (-20))), (A.v (Value.int .i64 21))])) (by rw [of_decide_eq_true hb11]; kernel_rfl) ?_
                    refine .st (v := (A.ip [(A.v (Value.int .i64 21))])) (by kernel_rfl) ?_
                    refine .st (v := (A.v (Value.int .i64 21))) (by kernel_rfl) ?_
                    exact .lf rfl rfl ⟨_, rfl, rfl⟩
                  · skip
                    exact .nn

def G13 (a0 : Int) : Option (Int × Int × Int) := F13 fuel0 a0

def Orc13 (C : Nat → List A → Option A) : Prop := ∀ (a0 : Int), C 13 [(A.v (Value.int .i64 a0))] = (G13 a0).map fun y => (A.tup [(A.v (Value.int .i64 y.1)), (A.v (Value.int .i64 y.2.1)), (A.v (Value.int .i64 y.2.2))])

def F14 (n : Nat) (a0 : Int) : Option (Int × Int × Int) :=
  bif (a0 == 1) then (some ((0, 29, 0))) else (bif (a0 == 2) then (some ((20, 21, 0))) else (bif (a0 == 3) then (some ((29, 0, 0))) else (bif (a0 == 4) then (some ((20, -21, 0))) else (bif (a0 == 5) then (some ((0, -29, 0))) else (bif (a0 == 6) then (some ((-20, -21, 0))) else (bif (a0 == 7) then (some ((-29, 0, 0))) else (bif (a0 == 8) then (some ((-20, 21, 0))) else (some ((0, 0, 150))))))))))

theorem T14 (C : Nat → List A → Option A) (n : Nat) (a0 : Int) : J (fun (o : R) y => ∃ v, o.1 = .ret v ∧ snap o.2 v = (A.tup [(A.v (Value.int .i64 y.1)), (A.v (Value.int .i64 y.2.1)), (A.v (Value.int .i64 y.2.2))])) (evCall1 (cx C) (evCall (cx C) (n+4)) (n+4) 14 [(A.v (Value.int .i64 a0))] [] 0) some (F14 n a0) some := by
  refine .lp (e14 ..) ?_
  unfold F14
  refine .st (v := (A.v (Value.bool (a0 == 1)))) (aBin_eql ..) ?_
  refine .bi ?_ ?_
  · exact .lf rfl rfl ⟨_, rfl, rfl⟩
  · refine .st (v := (A.v (Value.bool (a0 == 2)))) (aBin_eql ..) ?_
    refine .bi ?_ ?_
    · exact .lf rfl rfl ⟨_, rfl, rfl⟩
    · refine .st (v := (A.v (Value.bool (a0 == 3)))) (aBin_eql ..) ?_
      refine .bi ?_ ?_
      · exact .lf rfl rfl ⟨_, rfl, rfl⟩
      · refine .st (v := (A.v (Value.bool (a0 == 4)))) (aBin_eql ..) ?_
        refine .bi ?_ ?_
        · exact .lf rfl rfl ⟨_, rfl, rfl⟩
        · refine .st (v := (A.v (Value.bool (a0 == 5)))) (aBin_eql ..) ?_
          refine .bi ?_ ?_
          · exact .lf rfl rfl ⟨_, rfl, rfl⟩
          · refine .st (v := (A.v (Value.bool (a0 == 6)))) (aBin_eql ..) ?_
            refine .bi ?_ ?_
            · exact .lf rfl rfl ⟨_, rfl, rfl⟩
            · refine .st (v := (A.v (Value.bool (a0 == 7)))) (aBin_eql ..) ?_
              refine .bi ?_ ?_
              · exact .lf rfl rfl ⟨_, rfl, rfl⟩
              · refine .st (v := (A.v (Value.bool (a0 == 8)))) (aBin_eql ..) ?_
                refine .bi ?_ ?_
                · exact .lf rfl rfl ⟨_, rfl, rfl⟩
                · exact .lf rfl rfl ⟨_, rfl, rfl⟩

def G14 (a0 : Int) : Option (Int × Int × Int) := F14 fuel0 a0

def Orc14 (C : Nat → List A → Option A) : Prop := ∀ (a0 : Int), C 14 [(A.v (Value.int .i64 a0))] = (G14 a0).map fun y => (A.tup [(A.v (Value.int .i64 y.1)), (A.v (Value.int .i64 y.2.1)), (A.v (Value.int .i64 y.2.2))])

def F15 (n : Nat) (a0 : Int) (a1 : Int) : Option (Int × Int) :=
  Option.bind (bif (decide (a0 < 0)) then (some true) else (some (decide (8 < a0)))) fun y1 => Option.bind (bif y1 then (some true) else (some (decide (a1 < 0)))) fun y4 => Option.bind (bif y4 then (some true) else (some (decide (7 < a1)))) fun y7 => bif y7 then (some ((0, 150))) else (bif (a0 == 0) then (some ((0, 0))) else (bif (decide (8 < (wr .i64 (a0 + a1)))) then (some ((wr .i64 ((wr .i64 (a0 + a1)) - 8), 0))) else (some ((wr .i64 (a0 + a1), 0)))))

theorem T15 (C : Nat → List A → Option A) (n : Nat) (a0 : Int) (a1 : Int) : J (fun (o : R) y => ∃ v, o.1 = .ret v ∧ snap o.2 v = (A.tup [(A.v (Value.int .i64 y.1)), (A.v (Value.int .i64 y.2))])) (evCall1 (cx C) (evCall (cx C) (n+4)) (n+4) 15 [(A.v (Value.int .i64 a0)), (A.v (Value.int .i64 a1))] [] 0) some (F15 n a0 a1) some := by
  refine .lp (e15 ..) ?_
  unfold F15
  refine .st (v := (A.v (Value.bool (decide (a0 < 0))))) (aBin_lss ..) ?_
  refine .bg (fun t (y : Bool) => ∃ j2 j3 : A, t = [(A.v (Value.bool y)), j2, j3]) ?_ ?_
  · refine .bi ?_ ?_
    · exact .lg ⟨_, _, rfl⟩
    · refine .st (v := (A.v (Value.bool (decide (8 < a0))))) (aBin_gtr ..) ?_
      exact .lg ⟨_, _, rfl⟩
  rintro _ y1 ⟨j2, j3, rfl⟩
  iterate 3 refine .uc ?_
  refine .bg (fun t (y : Bool) => ∃ j5 j6 : A, t = [(A.v (Value.bool y)), j5, j6]) ?_ ?_
  · refine .bi ?_ ?_
    · exact .lg ⟨_, _, rfl⟩
    · refine .st (v := (A.v (Value.bool (decide (a1 < 0))))) (aBin_lss ..) ?_
      exact .lg ⟨_, _, rfl⟩
  rintro _ y4 ⟨j5, j6, rfl⟩
  iterate 3 refine .uc ?_
  refine .bg (fun t (y : Bool) => ∃ j8 j9 : A, t = [(A.v (Value.bool y)), j8, j9]) ?_ ?_
  · refine .bi ?_ ?_
    · exact .lg ⟨_, _, rfl⟩
    · refine .st (v := (A.v (Value.bool (decide (7 < a1))))) (aBin_gtr ..) ?_
      exact .lg ⟨_, _, rfl⟩
  rintro _ y7 ⟨j8, j9, rfl⟩
  iterate 3 refine .uc ?_
  refine .bi ?_ ?_
  · exact .lf rfl rfl ⟨_, rfl, rfl⟩
  · refine .st (v := (A.v (Value.bool (a0 == 0)))) (aBin_eql ..) ?_
    refine .bi ?_ ?_
    · exact .lf rfl rfl ⟨_, rfl, rfl⟩
    · refine .st (v := (A.v (Value.int .i64 (wr .i64 (a0 + a1))))) (aBin_add ..) ?_
      refine .st (v := (A.v (Value.bool (decide (8 < (wr .i64 (a0 + a1))))))) (aBin_gtr ..) ?_
      refine .bi ?_ ?_
      · refine .st (v := (A.v (Value.int .i64 (wr .i64 ((wr .i64 (a0 + a1)) - 8))))) (aBin_sub ..) ?_
        exact .lf rfl rfl ⟨_, rfl, rfl⟩
      · exact .lf rfl rfl ⟨_, rfl, rfl⟩

def G15 (a0 : Int) (a1 : Int) : Option (Int × Int) := F15 fuel0 a0 a1

def Orc15 (C : Nat → List A → Option A) : Prop := ∀ (a0 : Int) (a1 : Int), C 15 [(A.v (Value.int .i64 a0)), (A.v (Value.int .i64 a1))] = (G15 a0 a1).map fun y => (A.tup [(A.v (Value.int .i64 y.1)), (A.v (Value.int .i64 y.2))])

def F16 (n : Nat) (a0 : Int) (a1 : Int) : Option (Int × Int) :=
  Option.bind (bif (decide (a0 < 0)) then (some true) else (some (decide (8 < a0)))) fun y1 => Option.bind (bif y1 then (some true) else (some (decide (a1 < 0)))) fun y4 => Option.bind (bif y4 then (some true) else (some (decide (7 < a1)))) fun y7 => bif y7 then (some ((0, 150))) else (bif (a0 == 0) then (some ((0, 0))) else (some ((wr .i64 ((Int.tmod (wr .i64 ((wr .i64 (a0 - 1)) + a1)) 8) + 1), 0))))

theorem T16 (C : Nat → List A → Option A) (n : Nat) (a0 : Int) (a1 : Int) : J (fun (o : R) y => ∃ v, o.1 = .ret v ∧ snap o.2 v = (A.tup [(A.v (Value.int .i64 y.1)), (A.v (Value.int .i64 y.2))])) (evCall1 (cx C) (evCall (cx C) (n+4)) (n+4) 16 [(A.v (Value.int .i64 a0)), (A.v (Value.int .i64 a1))] [] 0) some (F16 n a0 a1) some := by
  refine .lp (e16 ..) ?_
  unfold F16
  refine .st (v := (A.v (Value.bool (decide (a0 < 0))))) (aBin_lss ..) ?_
  refine .bg (fun t (y : Bool) => ∃ j2 j3 : A, t = [(A.v (Value.bool y)), j2, j3]) ?_ ?_
  · refine .bi ?_ ?_
    · exact .lg ⟨_, _, rfl⟩
    · refine .st (v := (A.v (Value.bool (decide (8 < a0))))) (aBin_gtr ..) ?_
      exact .lg ⟨_, _, rfl⟩
  rintro _ y1 ⟨j2, j3, rfl⟩
  iterate 3 refine .uc ?_
  refine .bg (fun t (y : Bool) => ∃ j5 j6 : A, t = [(A.v (Value.bool y)), j5, j6]) ?_ ?_
  · refine .bi ?_ ?_
    · exact .lg ⟨_, _, rfl⟩
    · refine .st (v := (A.v (Value.bool (decide (a1 < 0))))) (aBin_lss ..) ?_
      exact .lg ⟨_, _, rfl⟩
  rintro _ y4 ⟨j5, j6, rfl⟩
  iterate 3 refine .uc ?_
  refine .bg (fun t (y : Bool) => ∃ j8 j9 : A, t = [(A.v (Value.bool y)), j8, j9]) ?_ ?_
  · refine .bi ?_ ?_
    · exact .lg ⟨_, _, rfl⟩
    · refine .st (v := (A.v (Value.bool (decide (7 < a1))))) (aBin_gtr ..) ?_
      exact .lg ⟨_, _, rfl⟩
  rintro _ y7 ⟨j8, j9, rfl⟩
  iterate 3 refine .uc ?_
  refine .bi ?_ ?_
  · exact .lf rfl rfl ⟨_, rfl, rfl⟩
  · refine .st (v := (A.v (Value.bool (a0 == 0)))) (aBin_eql ..) ?_
    refine .bi ?_ ?_
    · exact .lf rfl rfl ⟨_, rfl, rfl⟩
    · refine .st (v := (A.v (Value.int .i64 (wr .i64 (a0 - 1))))) (aBin_sub ..) ?_
      refine .st (v := (A.v (Value.int .i64 (wr .i64 ((wr .i64 (a0 - 1)) + a1))))) (aBin_add ..) ?_
      refine .st (v := (A.v (Value.int .i64 (Int.tmod (wr .i64 ((wr .i64 (a0 - 1)) + a1)) 8)))) (aBin_rem (hb := by decide) ..) ?_
      refine .st (v := (A.v (Value.int .i64 (wr .i64 ((Int.tmod (wr .i64 ((wr .i64 (a0 - 1)) + a1)) 8) + 1))))) (aBin_add ..) ?_
      exact .lf rfl rfl ⟨_, rfl, rfl⟩

def G16 (a0 : Int) (a1 : Int) : Option (Int × Int) := F16 fuel0 a0 a1

def Orc16 (C : Nat → List A → Option A) : Prop := ∀ (a0 : Int) (a1 : Int), C 16 [(A.v (Value.int .i64 a0)), (A.v (Value.int .i64 a1))] = (G16 a0 a1).map fun y => (A.tup [(A.v (Value.int .i64 y.1)), (A.v (Value.int .i64 y.2))])

def F17 (n : Nat) (a0 : Int) : Option (Int × Int) :=
  Option.bind (bif (decide (a0 < 0)) then (some true) else (some (decide (8 < a0)))) fun y1 => bif y1 then (some ((0, 150))) else (bif (decide (a0 ≤ 1)) then (some ((a0, 0))) else (some ((wr .i64 (10 - a0), 0))))

theorem T17 (C : Nat → List A → Option A) (n : Nat) (a0 : Int) : J (fun (o : R) y => ∃ v, o.1 = .ret v ∧ snap o.2 v = (A.tup [(A.v (Value.int .i64 y.1)), (A.v (Value.int .i64 y.2))])) (evCall1 (cx C) (evCall (cx C) (n+4)) (n+4) 17 [(A.v (Value.int .i64 a0))] [] 0) some (F17 n a0) some := by
  refine .lp (e17 ..) ?_
  unfold F17
  refine .st (v := (A.v (Value.bool (decide (a0 < 0))))) (aBin_lss ..) ?_
  refine .bg (fun t (y : Bool) => ∃ j2 j3 : A, t = [(A.v (Value.bool y)), j2, j3]) ?_ ?_
  · refine .bi ?_ ?_
    · exact .lg ⟨_, _, rfl⟩
    · refine .st (v := (A.v (Value.bool (decide (8 < a0))))) (aBin_gtr ..) ?_
      exact .lg ⟨_, _, rfl⟩
  rintro _ y1 ⟨j2, j3, rfl⟩
  iterate 3 refine .uc ?_
  refine .bi ?_ ?_
  · exact .lf rfl rfl ⟨_, rfl, rfl⟩
  · refine .st (v := (A.v (Value.bool (decide (a0 ≤ 1))))) (aBin_leq ..) ?_
    refine .bi ?_ ?_
    · exact .lf rfl rfl ⟨_, rfl, rfl⟩
    · refine .st (v := (A.v (Value.int .i64 (wr .i64 (10 - a0))))) (aBin_sub ..) ?_
      exact .lf rfl rfl ⟨_, rfl, rfl⟩

def G17 (a0 : Int) : Option (Int × Int) := F17 fuel0 a0

def Orc17 (C : Nat → List A → Option A) : Prop := ∀ (a0 : Int), C 17 [(A.v (Value.int .i64 a0))] = (G17 a0).map fun y => (A.tup [(A.v (Value.int .i64 y.1)), (A.v (Value.int .i64 y.2))])

def F18 (n : Nat) (a0 : Int) : Option (Int × Int) :=
  Option.bind (bif (decide (a0 < 0)) then (some true) else (some (decide (8 < a0)))) fun y1 => bif y1 then (some ((0, 150))) else (bif (decide (a0 < 2)) then (some ((a0, 0))) else (some ((wr .i64 (10 - a0), 0))))

theorem T18 (C : Nat → List A → Option A) (n : Nat) (a0 : Int) : J (fun (o : R) y => ∃ v, o.1 = .ret v ∧ snap o.2 v = (A.tup [(A.v (Value.int .i64 y.1)), (A.v (Value.int .i64 y.2))])) (evCall1 (cx C) (evCall (cx C) (n+4)) (n+4) 18 [(A.v (Value.int .i64 a0))] [] 0) some (F18 n a0) some := by
  refine .lp (e18 ..) ?_
  unfold F18
  refine .st (v := (A.v (Value.bool (decide (a0 < 0))))) (aBin_lss ..) ?_
  refine .bg (fun t (y : Bool) => ∃ j2 j3 : A, t = [(A.v (Value.bool y)), j2, j3]) ?_ ?_
  · refine .bi ?_ ?_
    · exact .lg ⟨_, _, rfl⟩
    · refine .st (v := (A.v (Value.bool (decide (8 < a0))))) (aBin_gtr ..) ?_
      exact .lg ⟨_, _, rfl⟩
  rintro _ y1 ⟨j2, j3, rfl⟩
  iterate 3 refine .uc ?_
  refine .bi ?_ ?_
  · exact .lf rfl rfl ⟨_, rfl, rfl⟩
  · refine .st (v := (A.v (Value.bool (decide (a0 < 2))))) (aBin_lss ..) ?_
    refine .bi ?_ ?_
    · exact .lf rfl rfl ⟨_, rfl, rfl⟩
    · refine .st (v := (A.v (Value.int .i64 (wr .i64 (10 - a0))))) (aBin_sub ..) ?_
      exact .lf rfl rfl ⟨_, rfl, rfl⟩

def G18 (a0 : Int) : Option (Int × Int) := F18 fuel0 a0

def Orc18 (C : Nat → List A → Option A) : Prop := ∀ (a0 : Int), C 18 [(A.v (Value.int .i64 a0))] = (G18 a0).map fun y => (A.tup [(A.v (Value.int .i64 y.1)), (A.v (Value.int .i64 y.2))])

def F12 (n : Nat) (a0 : Int) (a1 : Int) : Option (S_Vec × Int) :=
  Option.bind (bif (decide (a0 < 0)) then (some true) else (some (decide (8 < a0)))) fun y1 => Option.bind (bif y1 then (some true) else (some (decide (a1 < 1)))) fun y4 => Option.bind (bif y4 then (some true) else (some (decide (3 < a1)))) fun y7 => bif y7 then (some (((S_Vec.mk 0 0 0), 150))) else (bif (a0 == 0) then (some (((S_Vec.mk 0 0 (wr .i64 (841 * (wr .i64 (a1 - 2))))), 0))) else (Option.bind (G14 a0) fun y10 => bif (a1 == 2) then (some (((S_Vec.mk (wr .i64 (29 * y10.1)) (wr .i64 (29 * y10.2.1)) 0), 0))) else (some (((S_Vec.mk (wr .i64 (20 * y10.1)) (wr .i64 (20 * y10.2.1)) (wr .i64 (609 * (wr .i64 (a1 - 2))))), 0)))))

theorem T12 (C : Nat → List A → Option A) (n : Nat) (h14 : Orc14 C) (a0 : Int) (a1 : Int) : J (fun (o : R) y => ∃ v, o.1 = .ret v ∧ snap o.2 v = (A.tup [(A.agg [(A.v (Value.int .i64 y.1.X)), (A.v (Value.int .i64 y.1.Y)), (A.v (Value.int .i64 y.1.Z))]), (A.v (Value.int .i64 y.2))])) (evCall1 (cx C) (evCall (cx C) (n+4)) (n+4) 12 [(A.v (Value.int .i64 a0)), (A.v (Value.int .i64 a1))] [] 0) some (F12 n a0 a1) some := by
  refine .lp (e12 ..) ?_
  unfold F12
  refine .st (v := ((A.ptr 0 0), [Blk.box [(A.v (Value.int .i64 0)), (A.v (Value.int .i64 0)), (A.v (Value.int .i64 0))]])) (by kernel_rfl) ?_
  refine .st (v := (A.v (Value.bool (decide (a0 < 0))))) (aBin_lss ..) ?_
  refine .bg (fun t (y : Bool) => ∃ j2 j3 : A, t = [(A.v (Value.bool y)), j2, j3]) ?_ ?_
  · refine .bi ?_ ?_
    · exact .lg ⟨_, _, rfl⟩
    · refine .st (v := (A.v (Value.bool (decide (8 < a0))))) (aBin_gtr ..) ?_
      exact .lg ⟨_, _, rfl⟩
  rintro _ y1 ⟨j2, j3, rfl⟩
  iterate 3 refine .uc ?_
  refine .bg (fun t (y : Bool) => ∃ j5 j6 : A, t = [(A.v (Value.bool y)), j5, j6]) ?_ ?_
  · refine .bi ?_ ?_
    · exact .lg ⟨_, _, rfl⟩
    · refine .st (v := (A.v (Value.bool (decide (a1 < 1))))) (aBin_lss ..) ?_
      exact .lg ⟨_, _, rfl⟩
  rintro _ y4 ⟨j5, j6, rfl⟩
  iterate 3 refine .uc ?_
  refine .bg (fun t (y : Bool) => ∃ j8 j9 : A, t = [(A.v (Value.bool y)), j8, j9]) ?_ ?_
  · refine .bi ?_ ?_
    · exact .lg ⟨_, _, rfl⟩
    · refine .st (v := (A.v (Value.bool (decide (3 < a1))))) (aBin_gtr ..) ?_
      exact .lg ⟨_, _, rfl⟩
  rintro _ y7 ⟨j8, j9, rfl⟩
  iterate 3 refine .uc ?_
  refine .bi ?_ ?_
  · refine .st (v := (A.agg [(A.v (Value.int .i64 0)), (A.v (Value.int .i64 0)), (A.v (Value.int .i64 0))])) (by kernel_rfl) ?_
    refine .st (v := [Blk.box [(A.v (Value.int .i64 0)), (A.v (Value.int .i64 0)), (A.v (Value.int .i64 0))]]) (by kernel_rfl) ?_
    refine .st (v := (A.agg [(A.v (Value.int .i64 0)), (A.v (Value.int .i64 0)), (A.v (Value.int .i64 0))])) (by kernel_rfl) ?_
    exact .lf rfl rfl ⟨_, rfl, rfl⟩
  · refine .st (v := (A.v (Value.bool (a0 == 0)))) (aBin_eql ..) ?_
    refine .bi ?_ ?_
    · refine .st (v := (A.v (Value.int .i64 (wr .i64 (a1 - 2))))) (aBin_sub ..) ?_
      refine .st (v := (A.v (Value.int .i64 (wr .i64 (841 * (wr .i64 (a1 - 2))))))) (aBin_mul ..) ?_
      refine .st (v := (A.agg [(A.v (Value.int .i64 0)), (A.v (Value.int .i64 0)), (A.v (Value.int .i64 (wr .i64 (841 * (wr .i64 (a1 - 2))))))])) (by kernel_rfl) ?_
      refine .st (v := [Blk.box [(A.v (Value.int .i64 0)), (A.v (Value.int .i64 0)), (A.v (Value.int .i64 (wr .i64 (841 * (wr .i64 (a1 - 2))))))]]) (by kernel_rfl) ?_
      refine .st (v := (A.agg [(A.v (Value.int .i64 0)), (A.v (Value.int .i64 0)), (A.v (Value.int .i64 (wr .i64 (841 * (wr .i64 (a1 - 2))))))])) (by kernel_rfl) ?_
      exact .lf rfl rfl ⟨_, rfl, rfl⟩
    · refine .bd (g := fun (y : (Int × Int × Int)) => (A.tup [(A.v (Value.int .i64 y.1)), (A.v (Value.int .i64 y.2.1)), (A.v (Value.int .i64 y.2.2))])) (h14 a0) fun y10 => ?_
      refine .st (v := (A.v (Value.int .i64 y10.1))) (by kernel_rfl) ?_
      refine .st (v := (A.v (Value.int .i64 y10.2.1))) (by kernel_rfl) ?_
      refine .st (v := (A.v (Value.int .i64 y10.2.2))) (by kernel_rfl) ?_
      refine .st (v := (A.v (Value.bool (a1 == 2)))) (aBin_eql ..) ?_
      refine .bi ?_ ?_
      · refine .st (v := (A.v (Value.int .i64 (wr .i64 (29 * y10.1))))) (aBin_mul ..) ?_
        refine .st (v := (A.v (Value.int .i64 (wr .i64 (29 * y10.2.1))))) (aBin_mul ..) ?_
        refine .st (v := (A.agg [(A.v (Value.int .i64 (wr .i64 (29 * y10.1)))), (A.v (Value.int .i64 (wr .i64 (29 * y10.2.1)))), (A.v (Value.int .i64 0))])) (by kernel_rfl) ?_
        refine .st (v := [Blk.box [(A.v (Value.int .i64 (wr .i64 (29 * y10.1)))), (A.v (Value.int .i64 (wr .i64 (29 * y10.2.1)))), (A.v (Value.int .i64 0))]]) (by kernel_rfl) ?_
        refine .st (v := (A.agg [(A.v (Value.int .i64 (wr .i64 (29 * y10.1)))), (A.v (Value.int .i64 (wr .i64 (29 * y10.2.1)))), (A.v (Value.int .i64 0))])) (by kernel_rfl) ?_
        exact .lf rfl rfl ⟨_, rfl, rfl⟩
      · refine .st (v := (A.v (Value.int .i64 (wr .i64 (20 * y10.1))))) (aBin_mul ..) ?_
        refine .st (v := (A.v (Value.int .i64 (wr .i64 (20 * y10.2.1))))) (aBin_mul ..) ?_
        refine .st (v := (A.v (Value.int .i64 (wr .i64 (a1 - 2))))) (aBin_sub ..) ?_
        refine .st (v := (A.v (Value.int .i64 (wr .i64 (609 * (wr .i64 (a1 - 2))))))) (aBin_mul ..) ?_
        refine .st (v := (A.agg [(A.v (Value.int .i64 (wr .i64 (20 * y10.1)))), (A.v (Value.int .i64 (wr .i64 (20 * y10.2.1)))), (A.v (Value.int .i64 (wr .i64 (609 * (wr .i64 (a1 - 2))))))])) (by kernel_rfl) ?_
        refine .st (v := [Blk.box [(A.v (Value.int .i64 (wr .i64 (20 * y10.1)))), (A.v (Value.int .i64 (wr .i64 (20 * y10.2.1)))), (A.v (Value.int .i64 (wr .i64 (609 * (wr .i64 (a1 - 2))))))]]) (by kernel_rfl) ?_
        refine .st (v := (A.agg [(A.v (Value.int .i64 (wr .i64 (20 * y10.1)))), (A.v (Value.int .i64 (wr .i64 (20 * y10.2.1)))), (A.v (Value.int .i64 (wr .i64 (609 * (wr .i64 (a1 - 2))))))])) (by kernel_rfl) ?_
        exact .lf rfl rfl ⟨_, rfl, rfl⟩

def G12 (a0 : Int) (a1 : Int) : Option (S_Vec × Int) := F12 fuel0 a0 a1

def Orc12 (C : Nat → List A → Option A) : Prop := ∀ (a0 : Int) (a1 : Int), C 12 [(A.v (Value.int .i64 a0)), (A.v (Value.int .i64 a1))] = (G12 a0 a1).map fun y => (A.tup [(A.agg [(A.v (Value.int .i64 y.1.X)), (A.v (Value.int .i64 y.1.Y)), (A.v (Value.int .i64 y.1.Z))]), (A.v (Value.int .i64 y.2))])

def F19 (n : Nat) (a0 : S_Vec) (a1 : S_Vec) : Option (Int × Int) :=
  Option.bind (G32 1048576 ([a0.X, a0.Y, a0.Z, a1.X, a1.Y, a1.Z])) fun y1 => bif (!y1) then (some ((0, 2))) else (some ((wr .i64 ((wr .i64 ((wr .i64 (a0.X * a1.X)) + (wr .i64 (a0.Y * a1.Y)))) + (wr .i64 (a0.Z * a1.Z))), 0)))

theorem T19 (C : Nat → List A → Option A) (n : Nat) (h32 : Orc32 C) (a0 : S_Vec) (a1 : S_Vec) : J (fun (o : R) y => ∃ v, o.1 = .ret v ∧ snap o.2 v = (A.tup [(A.v (Value.int .i64 y.1)), (A.v (Value.int .i64 y.2))])) (evCall1 (cx C) (evCall (cx C) (n+4)) (n+4) 19 [(A.agg [(A.v (Value.int .i64 a0.X)), (A.v (Value.int .i64 a0.Y)), (A.v (Value.int .i64 a0.Z))]), (A.agg [(A.v (Value.int .i64 a1.X)), (A.v (Value.int .i64 a1.Y)), (A.v (Value.int .i64 a1.Z))])] [] 0) some (F19 n a0 a1) some := by
  refine .lp (e19 ..) ?_
  unfold F19
  refine .st (v := ((A.ptr 0 0), [Blk.box [(A.v (Value.int .i64 a0.X)), (A.v (Value.int .i64 a0.Y)), (A.v (Value.int .i64 a0.Z))]])) (by kernel_rfl) ?_
  refine .st (v := ((A.ptr 1 0), [Blk.box [(A.v (Value.int .i64 a0.X)), (A.v (Value.int .i64 a0.Y)), (A.v (Value.int .i64 a0.Z))], Blk.box [(A.v (Value.int .i64 a1.X)), (A.v (Value.int .i64 a1.Y)), (A.v (Value.int .i64 a1.Z))]])) (by kernel_rfl) ?_
  refine .st (v := (A.ptr 0 0)) (by kernel_rfl) ?_
  refine .st (v := (A.v (Value.int .i64 a0.X))) (by kernel_rfl) ?_
  refine .st (v := (A.ptr 0 1)) (by kernel_rfl) ?_
  refine .st (v := (A.v (Value.int .i64 a0.Y))) (by kernel_rfl) ?_
  refine .st (v := (A.ptr 0 2)) (by kernel_rfl) ?_
  refine .st (v := (A.v (Value.int .i64 a0.Z))) (by kernel_rfl) ?_
  refine .st (v := (A.ptr 1 0)) (by kernel_rfl) ?_
  refine .st (v := (A.v (Value.int .i64 a1.X))) (by kernel_rfl) ?_
  refine .st (v := (A.ptr 1 1)) (by kernel_rfl) ?_
  refine .st (v := (A.v (Value.int .i64 a1.Y))) (by kernel_rfl) ?_
  refine .st (v := (A.ptr 1 2)) (by kernel_rfl) ?_
  refine .st (v := (A.v (Value.int .i64 a1.Z))) (by kernel_rfl) ?_
  refine .st (v := (A.imm [[(A.v (Value.int .i64 a0.X))], [(A.v (Value.int .i64 a0.Y))], [(A.v (Value.int .i64 a0.Z))], [(A.v (Value.int .i64 a1.X))], [(A.v (Value.int .i64 a1.Y))], [(A.v (Value.int .i64 a1.Z))]] true)) (by kernel_rfl) ?_
  refine .bd (g := fun (y : Bool) => (A.v (Value.bool y))) (by simp only [snap, snapW, snapWs, snapWss, snapWss_map, trim, List.map_cons, List.map_nil, fl_cI, fl_c8, fl_cB, fl_cS, fl_cL, fl_S_Vec, fl_S_Range, fl_S_Box]; exact h32 1048576 ([a0.X, a0.Y, a0.Z, a1.X, a1.Y, a1.Z])) fun y1 => ?_
  refine .st (v := (A.v (Value.bool (!y1)))) (by kernel_rfl) ?_
  refine .bi ?_ ?_
  · exact .lf rfl rfl ⟨_, rfl, rfl⟩
  · refine .st (v := (A.ptr 0 0)) (by kernel_rfl) ?_
    refine .st (v := (A.v (Value.int .i64 a0.X))) (by kernel_rfl) ?_
    refine .st (v := (A.ptr 1 0)) (by kernel_rfl) ?_
    refine .st (v := (A.v (Value.int .i64 a1.X))) (by kernel_rfl) ?_
    refine .st (v := (A.v (Value.int .i64 (wr .i64 (a0.X * a1.X))))) (aBin_mul ..) ?_
    refine .st (v := (A.ptr 0 1)) (by kernel_rfl) ?_
    refine .st (v := (A.v (Value.int .i64 a0.Y))) (by kernel_rfl) ?_
    refine .st (v := (A.ptr 1 1)) (by kernel_rfl) ?_
    refine .st (v := (A.v (Value.int .i64 a1.Y))) (by kernel_rfl) ?_
    refine .st (v := (A.v (Value.int .i64 (wr .i64 (a0.Y * a1.Y))))) (aBin_mul ..) ?_
    refine .st (v := (A.v (Value.int .i64 (wr .i64 ((wr .i64 (a0.X * a1.X)) + (wr .i64 (a0.Y * a1.Y))))))) (aBin_add ..) ?_
    refine .st (v := (A.ptr 0 2)) (by kernel_rfl) ?_
    refine .st (v := (A.v (Value.int .i64 a0.Z))) (by kernel_rfl) ?_
    refine .st (v := (A.ptr 1 2)) (by kernel_rfl) ?_
    refine .st (v := (A.v (Value.int .i64 a1.Z))) (by kernel_rfl) ?_
    refine .st (v := (A.v (Value.int .i64 (wr .i64 (a0.Z * a1.Z))))) (aBin_mul ..) ?_
    refine .st (v := (A.v (Value.int .i64 (wr .i64 ((wr .i64 ((wr .i64 (a0.X * a1.X)) + (wr .i64 (a0.Y * a1.Y)))) + (wr .i64 (a0.Z * a1.Z))))))) (aBin_add ..) ?_
    exact .lf rfl rfl ⟨_, rfl, rfl⟩

def G19 (a0 : S_Vec) (a1 : S_Vec) : Option (Int × Int) := F19 fuel0 a0 a1

def Orc19 (C : Nat → List A → Option A) : Prop := ∀ (a0 : S_Vec) (a1 : S_Vec), C 19 [(A.agg [(A.v (Value.int .i64 a0.X)), (A.v (Value.int .i64 a0.Y)), (A.v (Value.int .i64 a0.Z))]), (A.agg [(A.v (Value.int .i64 a1.X)), (A.v (Value.int .i64 a1.Y)), (A.v (Value.int .i64 a1.Z))])] = (G19 a0 a1).map fun y => (A.tup [(A.v (Value.int .i64 y.1)), (A.v (Value.int .i64 y.2))])

def F20 (n : Nat) (a0 : S_Vec) (a1 : S_Vec) : Option (Int × Int) :=
  Option.bind (G33 a0) fun y1 => Option.bind (bif (!y1) then (some true) else (Option.bind (G33 a1) fun y2 => some (!y2))) fun y3 => bif y3 then (some ((0, 2))) else (some ((wr .i64 ((wr .i64 ((wr .i64 (a0.X * a1.X)) + (wr .i64 (a0.Y * a1.Y)))) + (wr .i64 (a0.Z * a1.Z))), 0)))

theorem T20 (C : Nat → List A → Option A) (n : Nat) (h33 : Orc33 C) (a0 : S_Vec) (a1 : S_Vec) : J (fun (o : R) y => ∃ v, o.1 = .ret v ∧ snap o.2 v = (A.tup [(A.v (Value.int .i64 y.1)), (A.v (Value.int .i64 y.2))])) (evCall1 (cx C) (evCall (cx C) (n+4)) (n+4) 20 [(A.agg [(A.v (Value.int .i64 a0.X)), (A.v (Value.int .i64 a0.Y)), (A.v (Value.int .i64 a0.Z))]), (A.agg [(A.v (Value.int .i64 a1.X)), (A.v (Value.int .i64 a1.Y)), (A.v (Value.int .i64 a1.Z))])] [] 0) some (F20 n a0 a1) some := by
  refine .lp (e20 ..) ?_
  unfold F20
  refine .st (v := ((A.ptr 0 0), [Blk.box [(A.v (Value.int .i64 a0.X)), (A.v (Value.int .i64 a0.Y)), (A.v (Value.int .i64 a0.Z))]])) (by kernel_rfl) ?_
  refine .st (v := ((A.ptr 1 0), [Blk.box [(A.v (Value.int .i64 a0.X)), (A.v (Value.int .i64 a0.Y)), (A.v (Value.int .i64 a0.Z))], Blk.box [(A.v (Value.int .i64 a1.X)), (A.v (Value.int .i64 a1.Y)), (A.v (Value.int .i64 a1.Z))]])) (by kernel_rfl) ?_
  refine .st (v := (A.agg [(A.v (Value.int .i64 a0.X)), (A.v (Value.int .i64 a0.Y)), (A.v (Value.int .i64 a0.Z))])) (by kernel_rfl) ?_
  refine .bd (g := fun (y : Bool) => (A.v (Value.bool y))) (h33 a0) fun y1 => ?_
  refine .st (v := (A.v (Value.bool (!y1)))) (by kernel_rfl) ?_
  refine .bg (fun t (y : Bool) => ∃ j4 j5 j6 : A, t = [(A.v (Value.bool y)), j4, j5, j6]) ?_ ?_
  · refine .bi ?_ ?_
    · exact .lg ⟨_, _, _, rfl⟩
    · refine .st (v := (A.agg [(A.v (Value.int .i64 a1.X)), (A.v (Value.int .i64 a1.Y)), (A.v (Value.int .i64 a1.Z))])) (by kernel_rfl) ?_
      refine .bd (g := fun (y : Bool) => (A.v (Value.bool y))) (h33 a1) fun y2 => ?_
      refine .st (v := (A.v (Value.bool (!y2)))) (by kernel_rfl) ?_
      exact .lg ⟨_, _, _, rfl⟩
  rintro _ y3 ⟨j4, j5, j6, rfl⟩
  iterate 4 refine .uc ?_
  refine .bi ?_ ?_
  · exact .lf rfl rfl ⟨_, rfl, rfl⟩
  · refine .st (v := (A.ptr 0 0)) (by kernel_rfl) ?_
    refine .st (v := (A.v (Value.int .i64 a0.X))) (by kernel_rfl) ?_
    refine .st (v := (A.ptr 1 0)) (by kernel_rfl) ?_
    refine .st (v := (A.v (Value.int .i64 a1.X))) (by kernel_rfl) ?_
    refine .st (v := (A.v (Value.int .i64 (wr .i64 (a0.X * a1.X))))) (aBin_mul ..) ?_
    refine .st (v := (A.ptr 0 1)) (by kernel_rfl) ?_
    refine .st (v := (A.v (Value.int .i64 a0.Y))) (by kernel_rfl) ?_
    refine .st (v := (A.ptr 1 1)) (by kernel_rfl) ?_
    refine .st (v := (A.v (Value.int .i64 a1.Y))) (by kernel_rfl) ?_
    refine .st (v := (A.v (Value.int .i64 (wr .i64 (a0.Y * a1.Y))))) (aBin_mul ..) ?_
    refine .st (v := (A.v (Value.int .i64 (wr .i64 ((wr .i64 (a0.X * a1.X)) + (wr .i64 (a0.Y * a1.Y))))))) (aBin_add ..) ?_
    refine .st (v := (A.ptr 0 2)) (by kernel_rfl) ?_
    refine .st (v := (A.v (Value.int .i64 a0.Z))) (by kernel_rfl) ?_
    refine .st (v := (A.ptr 1 2)) (by kernel_rfl) ?_
    refine .st (v := (A.v (Value.int .i64 a1.Z))) (by kernel_rfl) ?_
    refine .st (v := (A.v (Value.int .i64 (wr .i64 (a0.Z * a1.Z))))) (aBin_mul ..) ?_
    refine .st (v := (A.v (Value.int .i64 (wr .i64 ((wr .i64 ((wr .i64 (a0.X * a1.X)) + (wr .i64 (a0.Y * a1.Y)))) + (wr .i64 (a0.Z * a1.Z))))))) (aBin_add ..) ?_
    exact .lf rfl rfl ⟨_, rfl, rfl⟩

def G20 (a0 : S_Vec) (a1 : S_Vec) : Option (Int × Int) := F20 fuel0 a0 a1

def Orc20 (C : Nat → List A → Option A) : Prop := ∀ (a0 : S_Vec) (a1 : S_Vec), C 20 [(A.agg [(A.v (Value.int .i64 a0.X)), (A.v (Value.int .i64 a0.Y)), (A.v (Value.int .i64 a0.Z))]), (A.agg [(A.v (Value.int .i64 a1.X)), (A.v (Value.int .i64 a1.Y)), (A.v (Value.int .i64 a1.Z))])] = (G20 a0 a1).map fun y => (A.tup [(A.v (Value.int .i64 y.1)), (A.v (Value.int .i64 y.2))])

def F43 (n : Nat) (a0 : S_Range) : Option Bool :=
  Option.bind (bif (decide ((-1099511627776) ≤ a0.Lo)) then (some (decide (a0.Lo ≤ a0.Hi))) else (some false)) fun y1 => Option.bind (bif y1 then (some (decide (a0.Hi ≤ 1099511627776))) else (some false)) fun y7 => some y7

theorem T43 (C : Nat → List A → Option A) (n : Nat) (a0 : S_Range) : J (fun (o : R) y => ∃ v, o.1 = .ret v ∧ snap o.2 v = (A.v (Value.bool y))) (evCall1 (cx C) (evCall (cx C) (n+4)) (n+4) 43 [(A.agg [(A.v (Value.int .i64 a0.Lo)), (A.v (Value.int .i64 a0.Hi))])] [] 0) some (F43 n a0) some := by
  refine .lp (e43 ..) ?_
  unfold F43
  refine .st (v := ((A.ptr 0 0), [Blk.box [(A.v (Value.int .i64 a0.Lo)), (A.v (Value.int .i64 a0.Hi))]])) (by kernel_rfl) ?_
  refine .st (v := (A.ptr 0 0)) (by kernel_rfl) ?_
  refine .st (v := (A.v (Value.int .i64 a0.Lo))) (by kernel_rfl) ?_
  refine .st (v := (A.v (Value.bool (decide ((-1099511627776) ≤ a0.Lo))))) (aBin_geq ..) ?_
  refine .bg (fun t (y : Bool) => ∃ j2 j3 j4 j5 j6 : A, t = [(A.v (Value.bool y)), j2, j3, j4, j5, j6]) ?_ ?_
  · refine .bi ?_ ?_
    · refine .st (v := (A.ptr 0 0)) (by kernel_rfl) ?_
      refine .st (v := (A.v (Value.int .i64 a0.Lo))) (by kernel_rfl) ?_
      refine .st (v := (A.ptr 0 1)) (by kernel_rfl) ?_
      refine .st (v := (A.v (Value.int .i64 a0.Hi))) (by kernel_rfl) ?_
      refine .st (v := (A.v (Value.bool (decide (a0.Lo ≤ a0.Hi))))) (aBin_leq ..) ?_
      exact .lg ⟨_, _, _, _, _, rfl⟩
    · exact .lg ⟨_, _, _, _, _, rfl⟩
  rintro _ y1 ⟨j2, j3, j4, j5, j6, rfl⟩
  iterate 6 refine .uc ?_
  refine .bg (fun t (y : Bool) => ∃ j8 j9 j10 : A, t = [(A.v (Value.bool y)), j8, j9, j10]) ?_ ?_
  · refine .bi ?_ ?_
    · refine .st (v := (A.ptr 0 1)) (by kernel_rfl) ?_
      refine .st (v := (A.v (Value.int .i64 a0.Hi))) (by kernel_rfl) ?_
      refine .st (v := (A.v (Value.bool (decide (a0.Hi ≤ 1099511627776))))) (aBin_leq ..) ?_
      exact .lg ⟨_, _, _, rfl⟩
    · exact .lg ⟨_, _, _, rfl⟩
  rintro _ y7 ⟨j8, j9, j10, rfl⟩
  iterate 4 refine .uc ?_
  exact .lf rfl rfl ⟨_, rfl, rfl⟩

def G43 (a0 : S_Range) : Option Bool := F43 fuel0 a0

def Orc43 (C : Nat → List A → Option A) : Prop := ∀ (a0 : S_Range), C 43 [(A.agg [(A.v (Value.int .i64 a0.Lo)), (A.v (Value.int .i64 a0.Hi))])] = (G43 a0).map fun y => (A.v (Value.bool y))

def F34 (n : Nat) (a0 : S_Box) : Option Bool :=
  Option.bind (G32 1099511627776 ([a0.X.Lo, a0.X.Hi, a0.Y.Lo, a0.Y.Hi])) fun y1 => Option.bind (bif y1 then (some (decide (a0.X.Lo ≤ a0.X.Hi))) else (some false)) fun y2 => Option.bind (bif y2 then (some (decide (a0.Y.Lo ≤ a0.Y.Hi))) else (some false)) fun y10 => some y10

theorem T34 (C : Nat → List A → Option A) (n : Nat) (h32 : Orc32 C) (a0 : S_Box) : J (fun (o : R) y => ∃ v, o.1 = .ret v ∧ snap o.2 v = (A.v (Value.bool y))) (evCall1 (cx C) (evCall (cx C) (n+4)) (n+4) 34 [(A.agg [(A.v (Value.int .i64 a0.X.Lo)), (A.v (Value.int .i64 a0.X.Hi)), (A.v (Value.int .i64 a0.Y.Lo)), (A.v (Value.int .i64 a0.Y.Hi))])] [] 0) some (F34 n a0) some := by
  refine .lp (e34 ..) ?_
  unfold F34
  refine .st (v := ((A.ptr 0 0), [Blk.box [(A.v (Value.int .i64 a0.X.Lo)), (A.v (Value.int .i64 a0.X.Hi)), (A.v (Value.int .i64 a0.Y.Lo)), (A.v (Value.int .i64 a0.Y.Hi))]])) (by kernel_rfl) ?_
  refine .st (v := (A.ptr 0 0)) (by kernel_rfl) ?_
  refine .st (v := (A.ptr 0 0)) (by kernel_rfl) ?_
  refine .st (v := (A.v (Value.int .i64 a0.X.Lo))) (by kernel_rfl) ?_
  refine .st (v := (A.ptr 0 0)) (by kernel_rfl) ?_
  refine .st (v := (A.ptr 0 1)) (by kernel_rfl) ?_
  refine .st (v := (A.v (Value.int .i64 a0.X.Hi))) (by kernel_rfl) ?_
  refine .st (v := (A.ptr 0 2)) (by kernel_rfl) ?_
  refine .st (v := (A.ptr 0 2)) (by kernel_rfl) ?_
  refine .st (v := (A.v (Value.int .i64 a0.Y.Lo))) (by kernel_rfl) ?_
  refine .st (v := (A.ptr 0 2)) (by kernel_rfl) ?_
  refine .st (v := (A.ptr 0 3)) (by kernel_rfl) ?_
  refine .st (v := (A.v (Value.int .i64 a0.Y.Hi))) (by kernel_rfl) ?_
  refine .st (v := (A.imm [[(A.v (Value.int .i64 a0.X.Lo))], [(A.v (Value.int .i64 a0.X.Hi))], [(A.v (Value.int .i64 a0.Y.Lo))], [(A.v (Value.int .i64 a0.Y.Hi))]] true)) (by kernel_rfl) ?_
  refine .bd (g := fun (y : Bool) => (A.v (Value.bool y))) (by simp only [snap, snapW, snapWs, snapWss, snapWss_map, trim, List.map_cons, List.map_nil, fl_cI, fl_c8, fl_cB, fl_cS, fl_cL, fl_S_Vec, fl_S_Range, fl_S_Box]; exact h32 1099511627776 ([a0.X.Lo, a0.X.Hi, a0.Y.Lo, a0.Y.Hi])) fun y1 => ?_
  refine .bg (fun t (y : Bool) => ∃ j3 j4 j5 j6 j7 j8 j9 : A, t = [(A.v (Value.bool y)), j3, j4, j5, j6, j7, j8, j9]) ?_ ?_
  · refine .bi ?_ ?_
    · refine .st (v := (A.ptr 0 0)) (by kernel_rfl) ?_
      refine .st (v := (A.ptr 0 0)) (by kernel_rfl) ?_
      refine .st (v := (A.v (Value.int .i64 a0.X.Lo))) (by kernel_rfl) ?_
      refine .st (v := (A.ptr 0 0)) (by kernel_rfl) ?_
      refine .st (v := (A.ptr 0 1)) (by kernel_rfl) ?_
      refine .st (v := (A.v (Value.int .i64 a0.X.Hi))) (by kernel_rfl) ?_
      refine .st (v := (A.v (Value.bool (decide (a0.X.Lo ≤ a0.X.Hi))))) (aBin_leq ..) ?_
      exact .lg ⟨_, _, _, _, _, _, _, rfl⟩
    · exact .lg ⟨_, _, _, _, _, _, _, rfl⟩
  rintro _ y2 ⟨j3, j4, j5, j6, j7, j8, j9, rfl⟩
  iterate 8 refine .uc ?_
  refine .bg (fun t (y : Bool) => ∃ j11 j12 j13 j14 j15 j16 j17 : A, t = [(A.v (Value.bool y)), j11, j12, j13, j14, j15, j16, j17]) ?_ ?_
  · refine .bi ?_ ?_
    · refine .st (v := (A.ptr 0 2)) (by kernel_rfl) ?_
      refine .st (v := (A.ptr 0 2)) (by kernel_rfl) ?_
      refine .st (v := (A.v (Value.int .i64 a0.Y.Lo))) (by kernel_rfl) ?_
      refine .st (v := (A.ptr 0 2)) (by kernel_rfl) ?_
      refine .st (v := (A.ptr 0 3)) (by kernel_rfl) ?_
      refine .st (v := (A.v (Value.int .i64 a0.Y.Hi))) (by kernel_rfl) ?_
      refine .st (v := (A.v (Value.bool (decide (a0.Y.Lo ≤ a0.Y.Hi))))) (aBin_leq ..) ?_
      exact .lg ⟨_, _, _, _, _, _, _, rfl⟩
    · exact .lg ⟨_, _, _, _, _, _, _, rfl⟩
  rintro _ y10 ⟨j11, j12, j13, j14, j15, j16, j17, rfl⟩
  iterate 8 refine .uc ?_
  exact .lf rfl rfl ⟨_, rfl, rfl⟩

def G34 (a0 : S_Box) : Option Bool := F34 fuel0 a0

def Orc34 (C : Nat → List A → Option A) : Prop := ∀ (a0 : S_Box), C 34 [(A.agg [(A.v (Value.int .i64 a0.X.Lo)), (A.v (Value.int .i64 a0.X.Hi)), (A.v (Value.int .i64 a0.Y.Lo)), (A.v (Value.int .i64 a0.Y.Hi))])] = (G34 a0).map fun y => (A.v (Value.bool y))

def F35 (n : Nat) (a0 : S_Box) : Option Bool :=
  Option.bind (G43 a0.X) fun y1 => Option.bind (bif y1 then (Option.bind (G43 a0.Y) fun y2 => some y2) else (some false)) fun y3 => some y3

theorem T35 (C : Nat → List A → Option A) (n : Nat) (h43 : Orc43 C) (a0 : S_Box) : J (fun (o : R) y => ∃ v, o.1 = .ret v ∧ snap o.2 v = (A.v (Value.bool y))) (evCall1 (cx C) (evCall (cx C) (n+4)) (n+4) 35 [(A.agg [(A.v (Value.int .i64 a0.X.Lo)), (A.v (Value.int .i64 a0.X.Hi)), (A.v (Value.int .i64 a0.Y.Lo)), (A.v (Value.int .i64 a0.Y.Hi))])] [] 0) some (F35 n a0) some := by
  refine .lp (e35 ..) ?_
  unfold F35
  refine .st (v := ((A.ptr 0 0), [Blk.box [(A.v (Value.int .i64 a0.X.Lo)), (A.v (Value.int .i64 a0.X.Hi)), (A.v (Value.int .i64 a0.Y.Lo)), (A.v (Value.int .i64 a0.Y.Hi))]])) (by kernel_rfl) ?_
  refine .st (v := (A.ptr 0 0)) (by kernel_rfl) ?_
  refine .st (v := (A.agg [(A.v (Value.int .i64 a0.X.Lo)), (A.v (Value.int .i64 a0.X.Hi))])) (by kernel_rfl) ?_
  refine .bd (g := fun (y : Bool) => (A.v (Value.bool y))) (h43 a0.X) fun y1 => ?_
  refine .bg (fun t (y : Bool) => ∃ j4 j5 j6 : A, t = [(A.v (Value.bool y)), j4, j5, j6]) ?_ ?_
  · refine .bi ?_ ?_
    · refine .st (v := (A.ptr 0 2)) (by kernel_rfl) ?_
      refine .st (v := (A.agg [(A.v (Value.int .i64 a0.Y.Lo)), (A.v (Value.int .i64 a0.Y.Hi))])) (by kernel_rfl) ?_
      refine .bd (g := fun (y : Bool) => (A.v (Value.bool y))) (h43 a0.Y) fun y2 => ?_
      exact .lg ⟨_, _, _, rfl⟩
    · exact .lg ⟨_, _, _, rfl⟩
  rintro _ y3 ⟨j4, j5, j6, rfl⟩
  iterate 4 refine .uc ?_
  exact .lf rfl rfl ⟨_, rfl, rfl⟩

def G35 (a0 : S_Box) : Option Bool := F35 fuel0 a0

def Orc35 (C : Nat → List A → Option A) : Prop := ∀ (a0 : S_Box), C 35 [(A.agg [(A.v (Value.int .i64 a0.X.Lo)), (A.v (Value.int .i64 a0.X.Hi)), (A.v (Value.int .i64 a0.Y.Lo)), (A.v (Value.int .i64 a0.Y.Hi))])] = (G35 a0).map fun y => (A.v (Value.bool y))

def F36 (n : Nat) (a0 : S_Range) (a1 : S_Range) : Option S_Range :=
  some ((S_Range.mk ((if a1.Lo < a0.Lo then a1.Lo else a0.Lo)) ((if a0.Hi < a1.Hi then a1.Hi else a0.Hi))))

theorem T36 (C : Nat → List A → Option A) (n : Nat) (a0 : S_Range) (a1 : S_Range) : J (fun (o : R) y => ∃ v, o.1 = .ret v ∧ snap o.2 v = (A.agg [(A.v (Value.int .i64 y.Lo)), (A.v (Value.int .i64 y.Hi))])) (evCall1 (cx C) (evCall (cx C) (n+4)) (n+4) 36 [(A.agg [(A.v (Value.int .i64 a0.Lo)), (A.v (Value.int .i64 a0.Hi))]), (A.agg [(A.v (Value.int .i64 a1.Lo)), (A.v (Value.int .i64 a1.Hi))])] [] 0) some (F36 n a0 a1) some := by
  refine .lp (e36 ..) ?_
  unfold F36
  refine .st (v := ((A.ptr 0 0), [Blk.box [(A.v (Value.int .i64 a0.Lo)), (A.v (Value.int .i64 a0.Hi))]])) (by kernel_rfl) ?_
  refine .st (v := ((A.ptr 1 0), [Blk.box [(A.v (Value.int .i64 a0.Lo)), (A.v (Value.int .i64 a0.Hi))], Blk.box [(A.v (Value.int .i64 a1.Lo)), (A.v (Value.int .i64 a1.Hi))]])) (by kernel_rfl) ?_
  refine .st (v := ((A.ptr 2 0), [Blk.box [(A.v (Value.int .i64 a0.Lo)), (A.v (Value.int .i64 a0.Hi))], Blk.box [(A.v (Value.int .i64 a1.Lo)), (A.v (Value.int .i64 a1.Hi))], Blk.box [(A.v (Value.int .i64 0)), (A.v (Value.int .i64 0))]])) (by kernel_rfl) ?_
  refine .st (v := (A.ptr 0 0)) (by kernel_rfl) ?_
  refine .st (v := (A.v (Value.int .i64 a0.Lo))) (by kernel_rfl) ?_
  refine .st (v := (A.ptr 1 0)) (by kernel_rfl) ?_
  refine .st (v := (A.v (Value.int .i64 a1.Lo))) (by kernel_rfl) ?_
  refine .st (v := (A.v (Value.int .i64 ((if a1.Lo < a0.Lo then a1.Lo else a0.Lo))))) (by kernel_rfl) ?_
  refine .st (v := (A.ptr 0 1)) (by kernel_rfl) ?_
  refine .st (v := (A.v (Value.int .i64 a0.Hi))) (by kernel_rfl) ?_
  refine .st (v := (A.ptr 1 1)) (by kernel_rfl) ?_
  refine .st (v := (A.v (Value.int .i64 a1.Hi))) (by kernel_rfl) ?_
  refine .st (v := (A.v (Value.int .i64 ((if a0.Hi < a1.Hi then a1.Hi else a0.Hi))))) (by kernel_rfl) ?_
  refine .st (v := (A.agg [(A.v (Value.int .i64 ((if a1.Lo < a0.Lo then a1.Lo else a0.Lo)))), (A.v (Value.int .i64 ((if a0.Hi < a1.Hi then a1.Hi else a0.Hi))))])) (by kernel_rfl) ?_
  refine .st (v := [Blk.box [(A.v (Value.int .i64 a0.Lo)), (A.v (Value.int .i64 a0.Hi))], Blk.box [(A.v (Value.int .i64 a1.Lo)), (A.v (Value.int .i64 a1.Hi))], Blk.box [(A.v (Value.int .i64 ((if a1.Lo < a0.Lo then a1.Lo else a0.Lo)))), (A.v (Value.int .i64 ((if a0.Hi < a1.Hi then a1.Hi else a0.Hi))))]]) (by kernel_rfl) ?_
  refine .st (v := (A.agg [(A.v (Value.int .i64 ((if a1.Lo < a0.Lo then a1.Lo else a0.Lo)))), (A.v (Value.int .i64 ((if a0.Hi < a1.Hi then a1.Hi else a0.Hi))))])) (by kernel_rfl) ?_
  exact .lf rfl rfl ⟨_, rfl, rfl⟩

def G36 (a0 : S_Range) (a1 : S_Range) : Option S_Range := F36 fuel0 a0 a1

def Orc36 (C : Nat → List A → Option A) : Prop := ∀ (a0 : S_Range) (a1 : S_Range), C 36 [(A.agg [(A.v (Value.int .i64 a0.Lo)), (A.v (Value.int .i64 a0.Hi))]), (A.agg [(A.v (Value.int .i64 a1.Lo)), (A.v (Value.int .i64 a1.Hi))])] = (G36 a0 a1).map fun y => (A.agg [(A.v (Value.int .i64 y.Lo)), (A.v (Value.int .i64 y.Hi))])

def F38 (n : Nat) (a0 : S_Range) (a1 : S_Range) : Option Bool :=
  Option.bind (bif (decide (a0.Lo ≤ a1.Hi)) then (some (decide (a1.Lo ≤ a0.Hi))) else (some false)) fun y1 => some y1

theorem T38 (C : Nat → List A → Option A) (n : Nat) (a0 : S_Range) (a1 : S_Range) : J (fun (o : R) y => ∃ v, o.1 = .ret v ∧ snap o.2 v = (A.v (Value.bool y))) (evCall1 (cx C) (evCall (cx C) (n+4)) (n+4) 38 [(A.agg [(A.v (Value.int .i64 a0.Lo)), (A.v (Value.int .i64 a0.Hi))]), (A.agg [(A.v (Value.int .i64 a1.Lo)), (A.v (Value.int .i64 a1.Hi))])] [] 0) some (F38 n a0 a1) some := by
  refine .lp (e38 ..) ?_
  unfold F38
  refine .st (v := ((A.ptr 0 0), [Blk.box [(A.v (Value.int .i64 a0.Lo)), (A.v (Value.int .i64 a0.Hi))]])) (by kernel_rfl) ?_
  refine .st (v := ((A.ptr 1 0), [Blk.box [(A.v (Value.int .i64 a0.Lo)), (A.v (Value.int .i64 a0.Hi))], Blk.box [(A.v (Value.int .i64 a1.Lo)), (A.v (Value.int .i64 a1.Hi))]])) (by kernel_rfl) ?_
  refine .st (v := (A.ptr 0 0)) (by kernel_rfl) ?_
  refine .st (v := (A.v (Value.int .i64 a0.Lo))) (by kernel_rfl) ?_
  refine .st (v := (A.ptr 1 1)) (by kernel_rfl) ?_
  refine .st (v := (A.v (Value.int .i64 a1.Hi))) (by kernel_rfl) ?_
  refine .st (v := (A.v (Value.bool (decide (a0.Lo ≤ a1.Hi))))) (aBin_leq ..) ?_
  refine .bg (fun t (y : Bool) => ∃ j2 j3 j4 j5 j6 : A, t = [(A.v (Value.bool y)), j2, j3, j4, j5, j6]) ?_ ?_
  · refine .bi ?_ ?_
    · refine .st (v := (A.ptr 1 0)) (by kernel_rfl) ?_
      refine .st (v := (A.v (Value.int .i64 a1.Lo))) (by kernel_rfl) ?_
      refine .st (v := (A.ptr 0 1)) (by kernel_rfl) ?_
      refine .st (v := (A.v (Value.int .i64 a0.Hi))) (by kernel_rfl) ?_
      refine .st (v := (A.v (Value.bool (decide (a1.Lo ≤ a0.Hi))))) (aBin_leq ..) ?_
      exact .lg ⟨_, _, _, _, _, rfl⟩
    · exact .lg ⟨_, _, _, _, _, rfl⟩
  rintro _ y1 ⟨j2, j3, j4, j5, j6, rfl⟩
  iterate 6 refine .uc ?_
  exact .lf rfl rfl ⟨_, rfl, rfl⟩

def G38 (a0 : S_Range) (a1 : S_Range) : Option Bool := F38 fuel0 a0 a1

def Orc38 (C : Nat → List A → Option A) : Prop := ∀ (a0 : S_Range) (a1 : S_Range), C 38 [(A.agg [(A.v (Value.int .i64 a0.Lo)), (A.v (Value.int .i64 a0.Hi))]), (A.agg [(A.v (Value.int .i64 a1.Lo)), (A.v (Value.int .i64 a1.Hi))])] = (G38 a0 a1).map fun y => (A.v (Value.bool y))

def F39 (n : Nat) (a0 : S_Range) (a1 : S_Range) : Option Bool :=
  Option.bind (bif (decide (a0.Lo ≤ a1.Hi)) then (some (decide (a1.Lo ≤ a0.Hi))) else (some false)) fun y1 => some y1

theorem T39 (C : Nat → List A → Option A) (n : Nat) (a0 : S_Range) (a1 : S_Range) : J (fun (o : R) y => ∃ v, o.1 = .ret v ∧ snap o.2 v = (A.v (Value.bool y))) (evCall1 (cx C) (evCall (cx C) (n+4)) (n+4) 39 [(A.agg [(A.v (Value.int .i64 a0.Lo)), (A.v (Value.int .i64 a0.Hi))]), (A.agg [(A.v (Value.int .i64 a1.Lo)), (A.v (Value.int .i64 a1.Hi))])] [] 0) some (F39 n a0 a1) some := by
  refine .lp (e39 ..) ?_
  unfold F39
  refine .st (v := ((A.ptr 0 0), [Blk.box [(A.v (Value.int .i64 a0.Lo)), (A.v (Value.int .i64 a0.Hi))]])) (by kernel_rfl) ?_
  refine .st (v := ((A.ptr 1 0), [Blk.box [(A.v (Value.int .i64 a0.Lo)), (A.v (Value.int .i64 a0.Hi))], Blk.box [(A.v (Value.int .i64 a1.Lo)), (A.v (Value.int .i64 a1.Hi))]])) (by kernel_rfl) ?_
  refine .st (v := (A.ptr 0 0)) (by kernel_rfl) ?_
  refine .st (v := (A.v (Value.int .i64 a0.Lo))) (by kernel_rfl) ?_
  refine .st (v := (A.ptr 1 1)) (by kernel_rfl) ?_
  refine .st (v := (A.v (Value.int .i64 a1.Hi))) (by kernel_rfl) ?_
  refine .st (v := (A.v (Value.bool (decide (a0.Lo ≤ a1.Hi))))) (aBin_leq ..) ?_
  refine .bg (fun t (y : Bool) => ∃ j2 j3 j4 j5 j6 : A, t = [(A.v (Value.bool y)), j2, j3, j4, j5, j6]) ?_ ?_
  · refine .bi ?_ ?_
    · refine .st (v := (A.ptr 1 0)) (by kernel_rfl) ?_
      refine .st (v := (A.v (Value.int .i64 a1.Lo))) (by kernel_rfl) ?_
      refine .st (v := (A.ptr 0 1)) (by kernel_rfl) ?_
      refine .st (v := (A.v (Value.int .i64 a0.Hi))) (by kernel_rfl) ?_
      refine .st (v := (A.v (Value.bool (decide (a1.Lo ≤ a0.Hi))))) (aBin_leq ..) ?_
      exact .lg ⟨_, _, _, _, _, rfl⟩
    · exact .lg ⟨_, _, _, _, _, rfl⟩
  rintro _ y1 ⟨j2, j3, j4, j5, j6, rfl⟩
  iterate 6 refine .uc ?_
  exact .lf rfl rfl ⟨_, rfl, rfl⟩

def G39 (a0 : S_Range) (a1 : S_Range) : Option Bool := F39 fuel0 a0 a1

def Orc39 (C : Nat → List A → Option A) : Prop := ∀ (a0 : S_Range) (a1 : S_Range), C 39 [(A.agg [(A.v (Value.int .i64 a0.Lo)), (A.v (Value.int .i64 a0.Hi))]), (A.agg [(A.v (Value.int .i64 a1.Lo)), (A.v (Value.int .i64 a1.Hi))])] = (G39 a0 a1).map fun y => (A.v (Value.bool y))

def F40 (n : Nat) (a0 : S_Range) (a1 : S_Range) : Option Bool :=
  Option.bind (bif (decide (a1.Lo ≤ a0.Lo)) then (some (decide (a0.Hi ≤ a1.Hi))) else (some false)) fun y1 => some y1

theorem T40 (C : Nat → List A → Option A) (n : Nat) (a0 : S_Range) (a1 : S_Range) : J (fun (o : R) y => ∃ v, o.1 = .ret v ∧ snap o.2 v = (A.v (Value.bool y))) (evCall1 (cx C) (evCall (cx C) (n+4)) (n+4) 40 [(A.agg [(A.v (Value.int .i64 a0.Lo)), (A.v (Value.int .i64 a0.Hi))]), (A.agg [(A.v (Value.int .i64 a1.Lo)), (A.v (Value.int .i64 a1.Hi))])] [] 0) some (F40 n a0 a1) some := by
  refine .lp (e40 ..) ?_
  unfold F40
  refine .st (v := ((A.ptr 0 0), [Blk.box [(A.v (Value.int .i64 a0.Lo)), (A.v (Value.int .i64 a0.Hi))]])) (by kernel_rfl) ?_
  refine .st (v := ((A.ptr 1 0), [Blk.box [(A.v (Value.int .i64 a0.Lo)), (A.v (Value.int .i64 a0.Hi))], Blk.box [(A.v (Value.int .i64 a1.Lo)), (A.v (Value.int .i64 a1.Hi))]])) (by kernel_rfl) ?_
  refine .st (v := (A.ptr 0 0)) (by kernel_rfl) ?_
  refine .st (v := (A.v (Value.int .i64 a0.Lo))) (by kernel_rfl) ?_
  refine .st (v := (A.ptr 1 0)) (by kernel_rfl) ?_
  refine .st (v := (A.v (Value.int .i64 a1.Lo))) (by kernel_rfl) ?_
  refine .st (v := (A.v (Value.bool (decide (a1.Lo ≤ a0.Lo))))) (aBin_geq ..) ?_
  refine .bg (fun t (y : Bool) => ∃ j2 j3 j4 j5 j6 : A, t = [(A.v (Value.bool y)), j2, j3, j4, j5, j6]) ?_ ?_
  · refine .bi ?_ ?_
    · refine .st (v := (A.ptr 0 1)) (by kernel_rfl) ?_
      refine .st (v := (A.v (Value.int .i64 a0.Hi))) (by kernel_rfl) ?_
      refine .st (v := (A.ptr 1 1)) (by kernel_rfl) ?_
      refine .st (v := (A.v (Value.int .i64 a1.Hi))) (by kernel_rfl) ?_
      refine .st (v := (A.v (Value.bool (decide (a0.Hi ≤ a1.Hi))))) (aBin_leq ..) ?_
      exact .lg ⟨_, _, _, _, _, rfl⟩
    · exact .lg ⟨_, _, _, _, _, rfl⟩
  rintro _ y1 ⟨j2, j3, j4, j5, j6, rfl⟩
  iterate 6 refine .uc ?_
  exact .lf rfl rfl ⟨_, rfl, rfl⟩

def G40 (a0 : S_Range) (a1 : S_Range) : Option Bool := F40 fuel0 a0 a1

def Orc40 (C : Nat → List A → Option A) : Prop := ∀ (a0 : S_Range) (a1 : S_Range), C 40 [(A.agg [(A.v (Value.int .i64 a0.Lo)), (A.v (Value.int .i64 a0.Hi))]), (A.agg [(A.v (Value.int .i64 a1.Lo)), (A.v (Value.int .i64 a1.Hi))])] = (G40 a0 a1).map fun y => (A.v (Value.bool y))

def F41 (n : Nat) (a0 : S_Range) (a1 : S_Range) : Option Bool :=
  Option.bind (bif (decide (a1.Lo ≤ a0.Lo)) then (some (decide (a0.Hi ≤ a1.Hi))) else (some false)) fun y1 => some y1

theorem T41 (C : Nat → List A → Option A) (n : Nat) (a0 : S_Range) (a1 : S_Range) : J (fun (o : R) y => ∃ v, o.1 = .ret v ∧ snap o.2 v = (A.v (Value.bool y))) (evCall1 (cx C) (evCall (cx C) (n+4)) (n+4) 41 [(A.agg [(A.v (Value.int .i64 a0.Lo)), (A.v (Value.int .i64 a0.Hi))]), (A.agg [(A.v (Value.int .i64 a1.Lo)), (A.v (Value.int .i64 a1.Hi))])] [] 0) some (F41 n a0 a1) some := by
  refine .lp (e41 ..) ?_
  unfold F41
  refine .st (v := ((A.ptr 0 0), [Blk.box [(A.v (Value.int .i64 a0.Lo)), (A.v (Value.int .i64 a0.Hi))]])) (by kernel_rfl) ?_
  refine .st (v := ((A.ptr 1 0), [Blk.box [(A.v (Value.int .i64 a0.Lo)), (A.v (Value.int .i64 a0.Hi))], Blk.box [(A.v (Value.int .i64 a1.Lo)), (A.v (Value.int .i64 a1.Hi))]])) (by kernel_rfl) ?_
  refine .st (v := (A.ptr 0 0)) (by kernel_rfl) ?_
  refine .st (v := (A.v (Value.int .i64 a0.Lo))) (by kernel_rfl) ?_
  refine .st (v := (A.ptr 1 0)) (by kernel_rfl) ?_
  refine .st (v := (A.v (Value.int .i64 a1.Lo))) (by kernel_rfl) ?_
  refine .st (v := (A.v (Value.bool (decide (a1.Lo ≤ a0.Lo))))) (aBin_geq ..) ?_
  refine .bg (fun t (y : Bool) => ∃ j2 j3 j4 j5 j6 : A, t = [(A.v (Value.bool y)), j2, j3, j4, j5, j6]) ?_ ?_
  · refine .bi ?_ ?_
    · refine .st (v := (A.ptr 0 1)) (by kernel_rfl) ?_
      refine .st (v := (A.v (Value.int .i64 a0.Hi))) (by kernel_rfl) ?_
      refine .st (v := (A.ptr 1 1)) (by kernel_rfl) ?_
      refine .st (v := (A.v (Value.int .i64 a1.Hi))) (by kernel_rfl) ?_
      refine .st (v := (A.v (Value.bool (decide (a0.Hi ≤ a1.Hi))))) (aBin_leq ..) ?_
      exact .lg ⟨_, _, _, _, _, rfl⟩
    · exact .lg ⟨_, _, _, _, _, rfl⟩
  rintro _ y1 ⟨j2, j3, j4, j5, j6, rfl⟩
  iterate 6 refine .uc ?_
  exact .lf rfl rfl ⟨_, rfl, rfl⟩

def G41 (a0 : S_Range) (a1 : S_Range) : Option Bool := F41 fuel0 a0 a1

def Orc41 (C : Nat → List A → Option A) : Prop := ∀ (a0 : S_Range) (a1 : S_Range), C 41 [(A.agg [(A.v (Value.int .i64 a0.Lo)), (A.v (Value.int .i64 a0.Hi))]), (A.agg [(A.v (Value.int .i64 a1.Lo)), (A.v (Value.int .i64 a1.Hi))])] = (G41 a0 a1).map fun y => (A.v (Value.bool y))

def F37_38 (n : Nat) (a0 : S_Box) (a1 : S_Box) : Option Bool :=
  Option.bind (G38 a0.X a1.X) fun y1 => Option.bind (bif y1 then (Option.bind (G38 a0.Y a1.Y) fun y2 => some y2) else (some false)) fun y3 => some y3

theorem T37_38 (C : Nat → List A → Option A) (n : Nat) (h38 : Orc38 C) (a0 : S_Box) (a1 : S_Box) : J (fun (o : R) y => ∃ v, o.1 = .ret v ∧ snap o.2 v = (A.v (Value.bool y))) (evCall1 (cx C) (evCall (cx C) (n+4)) (n+4) 37 [(A.agg [(A.v (Value.int .i64 a0.X.Lo)), (A.v (Value.int .i64 a0.X.Hi)), (A.v (Value.int .i64 a0.Y.Lo)), (A.v (Value.int .i64 a0.Y.Hi))]), (A.agg [(A.v (Value.int .i64 a1.X.Lo)), (A.v (Value.int .i64 a1.X.Hi)), (A.v (Value.int .i64 a1.Y.Lo)), (A.v (Value.int .i64 a1.Y.Hi))]), (A.fn (Fn.func 38) [] [])] [] 0) some (F37_38 n a0 a1) some := by
  refine .lp (e37_38 ..) ?_
  unfold F37_38
  refine .st (v := ((A.ptr 0 0), [Blk.box [(A.v (Value.int .i64 a0.X.Lo)), (A.v (Value.int .i64 a0.X.Hi)), (A.v (Value.int .i64 a0.Y.Lo)), (A.v (Value.int .i64 a0.Y.Hi))]])) (by kernel_rfl) ?_
  refine .st (v := ((A.ptr 1 0), [Blk.box [(A.v (Value.int .i64 a0.X.Lo)), (A.v (Value.int .i64 a0.X.Hi)), (A.v (Value.int .i64 a0.Y.Lo)), (A.v (Value.int .i64 a0.Y.Hi))], Blk.box [(A.v (Value.int .i64 a1.X.Lo)), (A.v (Value.int .i64 a1.X.Hi)), (A.v (Value.int .i64 a1.Y.Lo)), (A.v (Value.int .i64 a1.Y.Hi))]])) (by kernel_rfl) ?_
  refine .st (v := (A.ptr 0 0)) (by kernel_rfl) ?_
  refine .st (v := (A.agg [(A.v (Value.int .i64 a0.X.Lo)), (A.v (Value.int .i64 a0.X.Hi))])) (by kernel_rfl) ?_
  refine .st (v := (A.ptr 1 0)) (by kernel_rfl) ?_
  refine .st (v := (A.agg [(A.v (Value.int .i64 a1.X.Lo)), (A.v (Value.int .i64 a1.X.Hi))])) (by kernel_rfl) ?_
  refine .bd (g := fun (y : Bool) => (A.v (Value.bool y))) (h38 a0.X a1.X) fun y1 => ?_
  refine .bg (fun t (y : Bool) => ∃ j4 j5 j6 j7 j8 j9 : A, t = [(A.v (Value.bool y)), j4, j5, j6, j7, j8, j9]) ?_ ?_
  · refine .bi ?_ ?_
    · refine .st (v := (A.ptr 0 2)) (by kernel_rfl) ?_
      refine .st (v := (A.agg [(A.v (Value.int .i64 a0.Y.Lo)), (A.v (Value.int .i64 a0.Y.Hi))])) (by kernel_rfl) ?_
      refine .st (v := (A.ptr 1 2)) (by kernel_rfl) ?_
      refine .st (v := (A.agg [(A.v (Value.int .i64 a1.Y.Lo)), (A.v (Value.int .i64 a1.Y.Hi))])) (by kernel_rfl) ?_
      refine .bd (g := fun (y : Bool) => (A.v (Value.bool y))) (h38 a0.Y a1.Y) fun y2 => ?_
      exact .lg ⟨_, _, _, _, _, _, rfl⟩
    · exact .lg ⟨_, _, _, _, _, _, rfl⟩
  rintro _ y3 ⟨j4, j5, j6, j7, j8, j9, rfl⟩
  iterate 7 refine .uc ?_
  exact .lf rfl rfl ⟨_, rfl, rfl⟩

def G37_38 (a0 : S_Box) (a1 : S_Box) : Option Bool := F37_38 fuel0 a0 a1

def Orc37_38 (C : Nat → List A → Option A) : Prop := ∀ (a0 : S_Box) (a1 : S_Box), C 37 [(A.agg [(A.v (Value.int .i64 a0.X.Lo)), (A.v (Value.int .i64 a0.X.Hi)), (A.v (Value.int .i64 a0.Y.Lo)), (A.v (Value.int .i64 a0.Y.Hi))]), (A.agg [(A.v (Value.int .i64 a1.X.Lo)), (A.v (Value.int .i64 a1.X.Hi)), (A.v (Value.int .i64 a1.Y.Lo)), (A.v (Value.int .i64 a1.Y.Hi))]), (A.fn (Fn.func 38) [] [])] = (G37_38 a0 a1).map fun y => (A.v (Value.bool y))

def F37_40 (n : Nat) (a0 : S_Box) (a1 : S_Box) : Option Bool :=
  Option.bind (G40 a0.X a1.X) fun y1 => Option.bind (bif y1 then (Option.bind (G40 a0.Y a1.Y) fun y2 => some y2) else (some false)) fun y3 => some y3

theorem T37_40 (C : Nat → List A → Option A) (n : Nat) (h40 : Orc40 C) (a0 : S_Box) (a1 : S_Box) : J (fun (o : R) y => ∃ v, o.1 = .ret v ∧ snap o.2 v = (A.v (Value.bool y))) (evCall1 (cx C) (evCall (cx C) (n+4)) (n+4) 37 [(A.agg [(A.v (Value.int .i64 a0.X.Lo)), (A.v (Value.int .i64 a0.X.Hi)), (A.v (Value.int .i64 a0.Y.Lo)), (A.v (Value.int .i64 a0.Y.Hi))]), (A.agg [(A.v (Value.int .i64 a1.X.Lo)), (A.v (Value.int .i64 a1.X.Hi)), (A.v (Value.int .i64 a1.Y.Lo)), (A.v (Value.int .i64 a1.Y.Hi))]), (A.fn (Fn.func 40) [] [])] [] 0) some (F37_40 n a0 a1) some := by
  refine .lp (e37_40 ..) ?_
  unfold F37_40
  refine .st (v := ((A.ptr 0 0), [Blk.box [(A.v (Value.int .i64 a0.X.Lo)), (A.v (Value.int .i64 a0.X.Hi)), (A.v (Value.int .i64 a0.Y.Lo)), (A.v (Value.int .i64 a0.Y.Hi))]])) (by kernel_rfl) ?_
  refine .st (v := ((A.ptr 1 0), [Blk.box [(A.v (Value.int .i64 a0.X.Lo)), (A.v (Value.int .i64 a0.X.Hi)), (A.v (Value.int .i64 a0.Y.Lo)), (A.v (Value.int .i64 a0.Y.Hi))], Blk.box [(A.v (Value.int .i64 a1.X.Lo)), (A.v (Value.int .i64 a1.X.Hi)), (A.v (Value.int .i64 a1.Y.Lo)), (A.v (Value.int .i64 a1.Y.Hi))]])) (by kernel_rfl) ?_
  refine .st (v := (A.ptr 0 0)) (by kernel_rfl) ?_
  refine .st (v := (A.agg [(A.v (Value.int .i64 a0.X.Lo)), (A.v (Value.int .i64 a0.X.Hi))])) (by kernel_rfl) ?_
  refine .st (v := (A.ptr 1 0)) (by kernel_rfl) ?_
  refine .st (v := (A.agg [(A.v (Value.int .i64 a1.X.Lo)), (A.v (Value.int .i64 a1.X.Hi))])) (by kernel_rfl) ?_
  refine .bd (g := fun (y : Bool) => (A.v (Value.bool y))) (h40 a0.X a1.X) fun y1 => ?_
  refine .bg (fun t (y : Bool) => ∃ j4 j5 j6 j7 j8 j9 : A, t = [(A.v (Value.bool y)), j4, j5, j6, j7, j8, j9]) ?_ ?_
  · refine .bi ?_ ?_
    · refine .st (v := (A.ptr 0 2)) (by kernel_rfl) ?_
      refine .st (v := (A.agg [(A.v (Value.int .i64 a0.Y.Lo)), (A.v (Value.int .i64 a0.Y.Hi))])) (by kernel_rfl) ?_
      refine .st (v := (A.ptr 1 2)) (by kernel_rfl) ?_
      refine .st (v := (A.agg [(A.v (Value.int .i64 a1.Y.Lo)), (A.v (Value.int .i64 a1.Y.Hi))])) (by kernel_rfl) ?_
      refine .bd (g := fun (y : Bool) => (A.v (Value.bool y))) (h40 a0.Y a1.Y) fun y2 => ?_
      exact .lg ⟨_, _, _, _, _, _, rfl⟩
    · exact .lg ⟨_, _, _, _, _, _, rfl⟩
  rintro _ y3 ⟨j4, j5, j6, j7, j8, j9, rfl⟩
  iterate 7 refine .uc ?_
  exact .lf rfl rfl ⟨_, rfl, rfl⟩

def G37_40 (a0 : S_Box) (a1 : S_Box) : Option Bool := F37_40 fuel0 a0 a1

def Orc37_40 (C : Nat → List A → Option A) : Prop := ∀ (a0 : S_Box) (a1 : S_Box), C 37 [(A.agg [(A.v (Value.int .i64 a0.X.Lo)), (A.v (Value.int .i64 a0.X.Hi)), (A.v (Value.int .i64 a0.Y.Lo)), (A.v (Value.int .i64 a0.Y.Hi))]), (A.agg [(A.v (Value.int .i64 a1.X.Lo)), (A.v (Value.int .i64 a1.X.Hi)), (A.v (Value.int .i64 a1.Y.Lo)), (A.v (Value.int .i64 a1.Y.Hi))]), (A.fn (Fn.func 40) [] [])] = (G37_40 a0 a1).map fun y => (A.v (Value.bool y))

def F42 (n : Nat) (a0 : S_Range) (a1 : Int) : Option (S_Range × Bool) :=
  Option.bind (bif (decide (a1 < (-2199023255552))) then (some true) else (some (decide (2199023255552 < a1)))) fun y1 => bif y1 then (some ((a0, false))) else (Option.bind (G43 ((S_Range.mk (wr .i64 (a0.Lo + a1)) (wr .i64 (a0.Hi + a1))))) fun y4 => some (((S_Range.mk (wr .i64 (a0.Lo + a1)) (wr .i64 (a0.Hi + a1))), y4)))

theorem T42 (C : Nat → List A → Option A) (n : Nat) (h43 : Orc43 C) (a0 : S_Range) (a1 : Int) : J (fun (o : R) y => ∃ v, o.1 = .ret v ∧ snap o.2 v = (A.tup [(A.agg [(A.v (Value.int .i64 y.1.Lo)), (A.v (Value.int .i64 y.1.Hi))]), (A.v (Value.bool y.2))])) (evCall1 (cx C) (evCall (cx C) (n+4)) (n+4) 42 [(A.agg [(A.v (Value.int .i64 a0.Lo)), (A.v (Value.int .i64 a0.Hi))]), (A.v (Value.int .i64 a1))] [] 0) some (F42 n a0 a1) some := by
  refine .lp (e42 ..) ?_
  unfold F42
  refine .st (v := ((A.ptr 0 0), [Blk.box [(A.v (Value.int .i64 a0.Lo)), (A.v (Value.int .i64 a0.Hi))]])) (by kernel_rfl) ?_
  refine .st (v := ((A.ptr 1 0), [Blk.box [(A.v (Value.int .i64 a0.Lo)), (A.v (Value.int .i64 a0.Hi))], Blk.box [(A.v (Value.int .i64 0)), (A.v (Value.int .i64 0))]])) (by kernel_rfl) ?_
  refine .st (v := (A.v (Value.bool (decide (a1 < (-2199023255552)))))) (aBin_lss ..) ?_
  refine .bg (fun t (y : Bool) => ∃ j2 j3 : A, t = [(A.v (Value.bool y)), j2, j3]) ?_ ?_
  · refine .bi ?_ ?_
    · exact .lg ⟨_, _, rfl⟩
    · refine .st (v := (A.v (Value.bool (decide (2199023255552 < a1))))) (aBin_gtr ..) ?_
      exact .lg ⟨_, _, rfl⟩
  rintro _ y1 ⟨j2, j3, rfl⟩
  iterate 3 refine .uc ?_
  refine .bi ?_ ?_
  · refine .st (v := (A.agg [(A.v (Value.int .i64 a0.Lo)), (A.v (Value.int .i64 a0.Hi))])) (by kernel_rfl) ?_
    refine .st (v := [Blk.box [(A.v (Value.int .i64 a0.Lo)), (A.v (Value.int .i64 a0.Hi))], Blk.box [(A.v (Value.int .i64 a0.Lo)), (A.v (Value.int .i64 a0.Hi))]]) (by kernel_rfl) ?_
    refine .st (v := (A.agg [(A.v (Value.int .i64 a0.Lo)), (A.v (Value.int .i64 a0.Hi))])) (by kernel_rfl) ?_
    exact .lf rfl rfl ⟨_, rfl, rfl⟩
  · refine .st (v := (A.ptr 0 0)) (by kernel_rfl) ?_
    refine .st (v := (A.v (Value.int .i64 a0.Lo))) (by kernel_rfl) ?_
    refine .st (v := (A.v (Value.int .i64 (wr .i64 (a0.Lo + a1))))) (aBin_add ..) ?_
    refine .st (v := (A.ptr 0 1)) (by kernel_rfl) ?_
    refine .st (v := (A.v (Value.int .i64 a0.Hi))) (by kernel_rfl) ?_
    refine .st (v := (A.v (Value.int .i64 (wr .i64 (a0.Hi + a1))))) (aBin_add ..) ?_
    refine .st (v := (A.agg [(A.v (Value.int .i64 (wr .i64 (a0.Lo + a1)))), (A.v (Value.int .i64 (wr .i64 (a0.Hi + a1))))])) (by kernel_rfl) ?_
    refine .st (v := ((A.ptr 2 0), [Blk.box [(A.v (Value.int .i64 a0.Lo)), (A.v (Value.int .i64 a0.Hi))], Blk.box [(A.v (Value.int .i64 0)), (A.v (Value.int .i64 0))], Blk.box [(A.v (Value.int .i64 0)), (A.v (Value.int .i64 0))]])) (by kernel_rfl) ?_
    refine .st (v := [Blk.box [(A.v (Value.int .i64 a0.Lo)), (A.v (Value.int .i64 a0.Hi))], Blk.box [(A.v (Value.int .i64 0)), (A.v (Value.int .i64 0))], Blk.box [(A.v (Value.int .i64 (wr .i64 (a0.Lo + a1)))), (A.v (Value.int .i64 (wr .i64 (a0.Hi + a1))))]]) (by kernel_rfl) ?_
    refine .st (v := (A.agg [(A.v (Value.int .i64 (wr .i64 (a0.Lo + a1)))), (A.v (Value.int .i64 (wr .i64 (a0.Hi + a1))))])) (by kernel_rfl) ?_
    refine .st (v := (A.agg [(A.v (Value.int .i64 (wr .i64 (a0.Lo + a1)))), (A.v (Value.int .i64 (wr .i64 (a0.Hi + a1))))])) (by kernel_rfl) ?_
    refine .bd (g := fun (y : Bool) => (A.v (Value.bool y))) (h43 ((S_Range.mk (wr .i64 (a0.Lo + a1)) (wr .i64 (a0.Hi + a1))))) fun y4 => ?_
    refine .st (v := [Blk.box [(A.v (Value.int .i64 a0.Lo)), (A.v (Value.int .i64 a0.Hi))], Blk.box [(A.v (Value.int .i64 (wr .i64 (a0.Lo + a1)))), (A.v (Value.int .i64 (wr .i64 (a0.Hi + a1))))], Blk.box [(A.v (Value.int .i64 (wr .i64 (a0.Lo + a1)))), (A.v (Value.int .i64 (wr .i64 (a0.Hi + a1))))]]) (by kernel_rfl) ?_
    refine .st (v := (A.agg [(A.v (Value.int .i64 (wr .i64 (a0.Lo + a1)))), (A.v (Value.int .i64 (wr .i64 (a0.Hi + a1))))])) (by kernel_rfl) ?_
    exact .lf rfl rfl ⟨_, rfl, rfl⟩

def G42 (a0 : S_Range) (a1 : Int) : Option (S_Range × Bool) := F42 fuel0 a0 a1

def Orc42 (C : Nat → List A → Option A) : Prop := ∀ (a0 : S_Range) (a1 : Int), C 42 [(A.agg [(A.v (Value.int .i64 a0.Lo)), (A.v (Value.int .i64 a0.Hi))]), (A.v (Value.int .i64 a1))] = (G42 a0 a1).map fun y => (A.tup [(A.agg [(A.v (Value.int .i64 y.1.Lo)), (A.v (Value.int .i64 y.1.Hi))]), (A.v (Value.bool y.2))])

def F21 (n : Nat) (a0 : S_Box) (a1 : S_Box) : Option (S_Box × Int) :=
  Option.bind (G34 a0) fun y1 => Option.bind (bif (!y1) then (some true) else (Option.bind (G34 a1) fun y2 => some (!y2))) fun y3 => bif y3 then (some (((S_Box.mk ((S_Range.mk 0 0)) ((S_Range.mk 0 0))), 150))) else (some (((S_Box.mk ((S_Range.mk ((if a1.X.Lo < a0.X.Lo then a1.X.Lo else a0.X.Lo)) ((if a0.X.Hi < a1.X.Hi then a1.X.Hi else a0.X.Hi)))) ((S_Range.mk ((if a1.Y.Lo < a0.Y.Lo then a1.Y.Lo else a0.Y.Lo)) ((if a0.Y.Hi < a1.Y.Hi then a1.Y.Hi else a0.Y.Hi))))), 0)))

theorem T21 (C : Nat → List A → Option A) (n : Nat) (h34 : Orc34 C) (a0 : S_Box) (a1 : S_Box) : J (fun (o : R) y => ∃ v, o.1 = .ret v ∧ snap o.2 v = (A.tup [(A.agg [(A.v (Value.int .i64 y.1.X.Lo)), (A.v (Value.int .i64 y.1.X.Hi)), (A.v (Value.int .i64 y.1.Y.Lo)), (A.v (Value.int .i64 y.1.Y.Hi))]), (A.v (Value.int .i64 y.2))])) (evCall1 (cx C) (evCall (cx C) (n+4)) (n+4) 21 [(A.agg [(A.v (Value.int .i64 a0.X.Lo)), (A.v (Value.int .i64 a0.X.Hi)), (A.v (Value.int .i64 a0.Y.Lo)), (A.v (Value.int .i64 a0.Y.Hi))]), (A.agg [(A.v (Value.int .i64 a1.X.Lo)), (A.v (Value.int .i64 a1.X.Hi)), (A.v (Value.int .i64 a1.Y.Lo)), (A.v (Value.int .i64 a1.Y.Hi))])] [] 0) some (F21 n a0 a1) some := by
  refine .lp (e21 ..) ?_
  unfold F21
  refine .st (v := ((A.ptr 0 0), [Blk.box [(A.v (Value.int .i64 a0.X.Lo)), (A.v (Value.int .i64 a0.X.Hi)), (A.v (Value.int .i64 a0.Y.Lo)), (A.v (Value.int .i64 a0.Y.Hi))]])) (by kernel_rfl) ?_
  refine .st (v := ((A.ptr 1 0), [Blk.box [(A.v (Value.int .i64 a0.X.Lo)), (A.v (Value.int .i64 a0.X.Hi)), (A.v (Value.int .i64 a0.Y.Lo)), (A.v (Value.int .i64 a0.Y.Hi))], Blk.box [(A.v (Value.int .i64 a1.X.Lo)), (A.v (Value.int .i64 a1.X.Hi)), (A.v (Value.int .i64 a1.Y.Lo)), (A.v (Value.int .i64 a1.Y.Hi))]])) (by kernel_rfl) ?_
  refine .st (v := ((A.ptr 2 0), [Blk.box [(A.v (Value.int .i64 a0.X.Lo)), (A.v (Value.int .i64 a0.X.Hi)), (A.v (Value.int .i64 a0.Y.Lo)), (A.v (Value.int .i64 a0.Y.Hi))], Blk.box [(A.v (Value.int .i64 a1.X.Lo)), (A.v (Value.int .i64 a1.X.Hi)), (A.v (Value.int .i64 a1.Y.Lo)), (A.v (Value.int .i64 a1.Y.Hi))], Blk.box [(A.v (Value.int .i64 0)), (A.v (Value.int .i64 0)), (A.v (Value.int .i64 0)), (A.v (Value.int .i64 0))]])) (by kernel_rfl) ?_
  refine .st (v := (A.agg [(A.v (Value.int .i64 a0.X.Lo)), (A.v (Value.int .i64 a0.X.Hi)), (A.v (Value.int .i64 a0.Y.Lo)), (A.v (Value.int .i64 a0.Y.Hi))])) (by kernel_rfl) ?_
  refine .bd (g := fun (y : Bool) => (A.v (Value.bool y))) (h34 a0) fun y1 => ?_
  refine .st (v := (A.v (Value.bool (!y1)))) (by kernel_rfl) ?_
  refine .bg (fun t (y : Bool) => ∃ j4 j5 j6 : A, t = [(A.v (Value.bool y)), j4, j5, j6]) ?_ ?_
  · refine .bi ?_ ?_
    · exact .lg ⟨_, _, _, rfl⟩
    · refine .st (v := (A.agg [(A.v (Value.int .i64 a1.X.Lo)), (A.v (Value.int .i64 a1.X.Hi)), (A.v (Value.int .i64 a1.Y.Lo)), (A.v (Value.int .i64 a1.Y.Hi))])) (by kernel_rfl) ?_
      refine .bd (g := fun (y : Bool) => (A.v (Value.bool y))) (h34 a1) fun y2 => ?_
      refine .st (v := (A.v (Value.bool (!y2)))) (by kernel_rfl) ?_
      exact .lg ⟨_, _, _, rfl⟩
  rintro _ y3 ⟨j4, j5, j6, rfl⟩
  iterate 4 refine .uc ?_
  refine .bi ?_ ?_
  · refine .st (v := (A.agg [(A.v (Value.int .i64 0)), (A.v (Value.int .i64 0)), (A.v (Value.int .i64 0)), (A.v (Value.int .i64 0))])) (by kernel_rfl) ?_
    refine .st (v := [Blk.box [(A.v (Value.int .i64 a0.X.Lo)), (A.v (Value.int .i64 a0.X.Hi)), (A.v (Value.int .i64 a0.Y.Lo)), (A.v (Value.int .i64 a0.Y.Hi))], Blk.box [(A.v (Value.int .i64 a1.X.Lo)), (A.v (Value.int .i64 a1.X.Hi)), (A.v (Value.int .i64 a1.Y.Lo)), (A.v (Value.int .i64 a1.Y.Hi))], Blk.box [(A.v (Value.int .i64 0)), (A.v (Value.int .i64 0)), (A.v (Value.int .i64 0)), (A.v (Value.int .i64 0))]]) (by kernel_rfl) ?_
    refine .st (v := (A.agg [(A.v (Value.int .i64 0)), (A.v (Value.int .i64 0)), (A.v (Value.int .i64 0)), (A.v (Value.int .i64 0))])) (by kernel_rfl) ?_
    exact .lf rfl rfl ⟨_, rfl, rfl⟩
  · refine .st (v := (A.ptr 0 0)) (by kernel_rfl) ?_
    refine .st (v := (A.ptr 0 0)) (by kernel_rfl) ?_
    refine .st (v := (A.v (Value.int .i64 a0.X.Lo))) (by kernel_rfl) ?_
    refine .st (v := (A.ptr 1 0)) (by kernel_rfl) ?_
    refine .st (v := (A.ptr 1 0)) (by kernel_rfl) ?_
    refine .st (v := (A.v (Value.int .i64 a1.X.Lo))) (by kernel_rfl) ?_
    refine .st (v := (A.v (Value.int .i64 ((if a1.X.Lo < a0.X.Lo then a1.X.Lo else a0.X.Lo))))) (by kernel_rfl) ?_
    refine .st (v := (A.ptr 0 0)) (by kernel_rfl) ?_
    refine .st (v := (A.ptr 0 1)) (by kernel_rfl) ?_
    refine .st (v := (A.v (Value.int .i64 a0.X.Hi))) (by kernel_rfl) ?_
    refine .st (v := (A.ptr 1 0)) (by kernel_rfl) ?_
    refine .st (v := (A.ptr 1 1)) (by kernel_rfl) ?_
    refine .st (v := (A.v (Value.int .i64 a1.X.Hi))) (by kernel_rfl) ?_
    refine .st (v := (A.v (Value.int .i64 ((if a0.X.Hi < a1.X.Hi then a1.X.Hi else a0.X.Hi))))) (by kernel_rfl) ?_
    refine .st (v := (A.agg [(A.v (Value.int .i64 ((if a1.X.Lo < a0.X.Lo then a1.X.Lo else a0.X.Lo)))), (A.v (Value.int .i64 ((if a0.X.Hi < a1.X.Hi then a1.X.Hi else a0.X.Hi))))])) (by kernel_rfl) ?_
    refine .st (v := (A.ptr 2 0)) (by kernel_rfl) ?_
    refine .st (v := [Blk.box [(A.v (Value.int .i64 a0.X.Lo)), (A.v (Value.int .i64 a0.X.Hi)), (A.v (Value.int .i64 a0.Y.Lo)), (A.v (Value.int .i64 a0.Y.Hi))], Blk.box [(A.v (Value.int .i64 a1.X.Lo)), (A.v (Value.int .i64 a1.X.Hi)), (A.v (Value.int .i64 a1.Y.Lo)), (A.v (Value.int .i64 a1.Y.Hi))], Blk.box [(A.v (Value.int .i64 ((if a1.X.Lo < a0.X.Lo then a1.X.Lo else a0.X.Lo)))), (A.v (Value.int .i64 ((if a0.X.Hi < a1.X.Hi then a1.X.Hi else a0.X.Hi)))), (A.v (Value.int .i64 0)), (A.v (Value.int .i64 0))]]) (by kernel_rfl) ?_
    refine .st (v := (A.ptr 0 2)) (by kernel_rfl) ?_
    refine .st (v := (A.ptr 0 2)) (by kernel_rfl) ?_
    refine .st (v := (A.v (Value.int .i64 a0.Y.Lo))) (by kernel_rfl) ?_
    refine .st (v := (A.ptr 1 2)) (by kernel_rfl) ?_
    refine .st (v := (A.ptr 1 2)) (by kernel_rfl) ?_
    refine .st (v := (A.v (Value.int .i64 a1.Y.Lo))) (by kernel_rfl) ?_
    refine .st (v := (A.v (Value.int .i64 ((if a1.Y.Lo < a0.Y.Lo then a1.Y.Lo else a0.Y.Lo))))) (by kernel_rfl) ?_
    refine .st (v := (A.ptr 0 2)) (by kernel_rfl) ?_
    refine .st (v := (A.ptr 0 3)) (by kernel_rfl) ?_
    refine .st (v := (A.v (Value.int .i64 a0.Y.Hi))) (by kernel_rfl) ?_
    refine .st (v := (A.ptr 1 2)) (by kernel_rfl) ?_
    refine .st (v := (A.ptr 1 3)) (by kernel_rfl) ?_
    refine .st (v := (A.v (Value.int .i64 a1.Y.Hi))) (by kernel_rfl) ?_
    refine .st (v := (A.v (Value.int .i64 ((if a0.Y.Hi < a1.Y.Hi then a1.Y.Hi else a0.Y.Hi))))) (by kernel_rfl) ?_
    refine .st (v := (A.agg [(A.v (Value.int .i64 ((if a1.Y.Lo < a0.Y.Lo then a1.Y.Lo else a0.Y.Lo)))), (A.v (Value.int .i64 ((if a0.Y.Hi < a1.Y.Hi then a1.Y.Hi else a0.Y.Hi))))])) (by kernel_rfl) ?_
    refine .st (v := (A.ptr 2 2)) (by kernel_rfl) ?_
    refine .st (v := [Blk.box [(A.v (Value.int .i64 a0.X.Lo)), (A.v (Value.int .i64 a0.X.Hi)), (A.v (Value.int .i64 a0.Y.Lo)), (A.v (Value.int .i64 a0.Y.Hi))], Blk.box [(A.v (Value.int .i64 a1.X.Lo)), (A.v (Value.int .i64 a1.X.Hi)), (A.v (Value.int .i64 a1.Y.Lo)), (A.v (Value.int .i64 a1.Y.Hi))], Blk.box [(A.v (Value.int .i64 ((if a1.X.Lo < a0.X.Lo then a1.X.Lo else a0.X.Lo)))), (A.v (Value.int .i64 ((if a0.X.Hi < a1.X.Hi then a1.X.Hi else a0.X.Hi)))), (A.v (Value.int .i64 ((if a1.Y.Lo < a0.Y.Lo then a1.Y.Lo else a0.Y.Lo)))), (A.v (Value.int .i64 ((if a0.Y.Hi < a1.Y.Hi then a1.Y.Hi else a0.Y.Hi))))]]) (by kernel_rfl) ?_
    refine .st (v := (A.agg [(A.v (Value.int .i64 ((if a1.X.Lo < a0.X.Lo then a1.X.Lo else a0.X.Lo)))), (A.v (Value.int .i64 ((if a0.X.Hi < a1.X.Hi then a1.X.Hi else a0.X.Hi)))), (A.v (Value.int .i64 ((if a1.Y.Lo < a0.Y.Lo then a1.Y.Lo else a0.Y.Lo)))), (A.v (Value.int .i64 ((if a0.Y.Hi < a1.Y.Hi then a1.Y.Hi else a0.Y.Hi))))])) (by kernel_rfl) ?_
    refine .st (v := [Blk.box [(A.v (Value.int .i64 a0.X.Lo)), (A.v (Value.int .i64 a0.X.Hi)), (A.v (Value.int .i64 a0.Y.Lo)), (A.v (Value.int .i64 a0.Y.Hi))], Blk.box [(A.v (Value.int .i64 a1.X.Lo)), (A.v (Value.int .i64 a1.X.Hi)), (A.v (Value.int .i64 a1.Y.Lo)), (A.v (Value.int .i64 a1.Y.Hi))], Blk.box [(A.v (Value.int .i64 ((if a1.X.Lo < a0.X.Lo then a1.X.Lo else a0.X.Lo)))), (A.v (Value.int .i64 ((if a0.X.Hi < a1.X.Hi then a1.X.Hi else a0.X.Hi)))), (A.v (Value.int .i64 ((if a1.Y.Lo < a0.Y.Lo then a1.Y.Lo else a0.Y.Lo)))), (A.v (Value.int .i64 ((if a0.Y.Hi < a1.Y.Hi then a1.Y.Hi else a0.Y.Hi))))]]) (by kernel_rfl) ?_
    refine .st (v := (A.agg [(A.v (Value.int .i64 ((if a1.X.Lo < a0.X.Lo then a1.X.Lo else a0.X.Lo)))), (A.v (Value.int .i64 ((if a0.X.Hi < a1.X.Hi then a1.X.Hi else a0.X.Hi)))), (A.v (Value.int .i64 ((if a1.Y.Lo < a0.Y.Lo then a1.Y.Lo else a0.Y.Lo)))), (A.v (Value.int .i64 ((if a0.Y.Hi < a1.Y.Hi then a1.Y.Hi else a0.Y.Hi))))])) (by kernel_rfl) ?_
    exact .lf rfl rfl ⟨_, rfl, rfl⟩

def G21 (a0 : S_Box) (a1 : S_Box) : Option (S_Box × Int) := F21 fuel0 a0 a1

def Orc21 (C : Nat → List A → Option A) : Prop := ∀ (a0 : S_Box) (a1 : S_Box), C 21 [(A.agg [(A.v (Value.int .i64 a0.X.Lo)), (A.v (Value.int .i64 a0.X.Hi)), (A.v (Value.int .i64 a0.Y.Lo)), (A.v (Value.int .i64 a0.Y.Hi))]), (A.agg [(A.v (Value.int .i64 a1.X.Lo)), (A.v (Value.int .i64 a1.X.Hi)), (A.v (Value.int .i64 a1.Y.Lo)), (A.v (Value.int .i64 a1.Y.Hi))])] = (G21 a0 a1).map fun y => (A.tup [(A.agg [(A.v (Value.int .i64 y.1.X.Lo)), (A.v (Value.int .i64 y.1.X.Hi)), (A.v (Value.int .i64 y.1.Y.Lo)), (A.v (Value.int .i64 y.1.Y.Hi))]), (A.v (Value.int .i64 y.2))])

def F22 (n : Nat) (a0 : S_Box) (a1 : S_Box) : Option (S_Box × Int) :=
  Option.bind (G35 a0) fun y1 => Option.bind (bif (!y1) then (some true) else (Option.bind (G35 a1) fun y2 => some (!y2))) fun y3 => bif y3 then (some (((S_Box.mk ((S_Range.mk 0 0)) ((S_Range.mk 0 0))), 150))) else (Option.bind (G36 a0.X a1.X) fun y7 => Option.bind (G36 a0.Y a1.Y) fun y8 => some (((S_Box.mk y7 y8), 0)))

theorem T22 (C : Nat → List A → Option A) (n : Nat) (h35 : Orc35 C) (h36 : Orc36 C) (a0 : S_Box) (a1 : S_Box) : J (fun (o : R) y => ∃ v, o.1 = .ret v ∧ snap o.2 v = (A.tup [(A.agg [(A.v (Value.int .i64 y.1.X.Lo)), (A.v (Value.int .i64 y.1.X.Hi)), (A.v (Value.int .i64 y.1.Y.Lo)), (A.v (Value.int .i64 y.1.Y.Hi))]), (A.v (Value.int .i64 y.2))])) (evCall1 (cx C) (evCall (cx C) (n+4)) (n+4) 22 [(A.agg [(A.v (Value.int .i64 a0.X.Lo)), (A.v (Value.int .i64 a0.X.Hi)), (A.v (Value.int .i64 a0.Y.Lo)), (A.v (Value.int .i64 a0.Y.Hi))]), (A.agg [(A.v (Value.int .i64 a1.X.Lo)), (A.v (Value.int .i64 a1.X.Hi)), (A.v (Value.int .i64 a1.Y.Lo)), (A.v (Value.int .i64 a1.Y.Hi))])] [] 0) some (F22 n a0 a1) some := by
  refine .lp (e22 ..) ?_
  unfold F22
  refine .st (v := ((A.ptr 0 0), [Blk.box [(A.v (Value.int .i64 a0.X.Lo)), (A.v (Value.int .i64 a0.X.Hi)), (A.v (Value.int .i64 a0.Y.Lo)), (A.v (Value.int .i64 a0.Y.Hi))]])) (by kernel_rfl) ?_
  refine .st (v := ((A.ptr 1 0), [Blk.box [(A.v (Value.int .i64 a0.X.Lo)), (A.v (Value.int .i64 a0.X.Hi)), (A.v (Value.int .i64 a0.Y.Lo)), (A.v (Value.int .i64 a0.Y.Hi))], Blk.box [(A.v (Value.int .i64 a1.X.Lo)), (A.v (Value.int .i64 a1.X.Hi)), (A.v (Value.int .i64 a1.Y.Lo)), (A.v (Value.int .i64 a1.Y.Hi))]])) (by kernel_rfl) ?_
  refine .st (v := ((A.ptr 2 0), [Blk.box [(A.v (Value.int .i64 a0.X.Lo)), (A.v (Value.int .i64 a0.X.Hi)), (A.v (Value.int .i64 a0.Y.Lo)), (A.v (Value.int .i64 a0.Y.Hi))], Blk.box [(A.v (Value.int .i64 a1.X.Lo)), (A.v (Value.int .i64 a1.X.Hi)), (A.v (Value.int .i64 a1.Y.Lo)), (A.v (Value.int .i64 a1.Y.Hi))], Blk.box [(A.v (Value.int .i64 0)), (A.v (Value.int .i64 0)), (A.v (Value.int .i64 0)), (A.v (Value.int .i64 0))]])) (by kernel_rfl) ?_
  refine .st (v := (A.agg [(A.v (Value.int .i64 a0.X.Lo)), (A.v (Value.int .i64 a0.X.Hi)), (A.v (Value.int .i64 a0.Y.Lo)), (A.v (Value.int .i64 a0.Y.Hi))])) (by kernel_rfl) ?_
  refine .bd (g := fun (y : Bool) => (A.v (Value.bool y))) (h35 a0) fun y1 => ?_
  refine .st (v := (A.v (Value.bool (!y1)))) (by kernel_rfl) ?_
  refine .bg (fun t (y : Bool) => ∃ j4 j5 j6 : A, t = [(A.v (Value.bool y)), j4, j5, j6]) ?_ ?_
  · refine .bi ?_ ?_
    · exact .lg ⟨_, _, _, rfl⟩
    · refine .st (v := (A.agg [(A.v (Value.int .i64 a1.X.Lo)), (A.v (Value.int .i64 a1.X.Hi)), (A.v (Value.int .i64 a1.Y.Lo)), (A.v (Value.int .i64 a1.Y.Hi))])) (by kernel_rfl) ?_
      refine .bd (g := fun (y : Bool) => (A.v (Value.bool y))) (h35 a1) fun y2 => ?_
      refine .st (v := (A.v (Value.bool (!y2)))) (by kernel_rfl) ?_
      exact .lg ⟨_, _, _, rfl⟩
  rintro _ y3 ⟨j4, j5, j6, rfl⟩
  iterate 4 refine .uc ?_
  refine .bi ?_ ?_
  · refine .st (v := (A.agg [(A.v (Value.int .i64 0)), (A.v (Value.int .i64 0)), (A.v (Value.int .i64 0)), (A.v (Value.int .i64 0))])) (by kernel_rfl) ?_
    refine .st (v := [Blk.box [(A.v (Value.int .i64 a0.X.Lo)), (A.v (Value.int .i64 a0.X.Hi)), (A.v (Value.int .i64 a0.Y.Lo)), (A.v (Value.int .i64 a0.Y.Hi))], Blk.box [(A.v (Value.int .i64 a1.X.Lo)), (A.v (Value.int .i64 a1.X.Hi)), (A.v (Value.int .i64 a1.Y.Lo)), (A.v (Value.int .i64 a1.Y.Hi))], Blk.box [(A.v (Value.int .i64 0)), (A.v (Value.int .i64 0)), (A.v (Value.int .i64 0)), (A.v (Value.int .i64 0))]]) (by kernel_rfl) ?_
    refine .st (v := (A.agg [(A.v (Value.int .i64 0)), (A.v (Value.int .i64 0)), (A.v (Value.int .i64 0)), (A.v (Value.int .i64 0))])) (by kernel_rfl) ?_
    exact .lf rfl rfl ⟨_, rfl, rfl⟩
  · refine .st (v := (A.ptr 0 0)) (by kernel_rfl) ?_
    refine .st (v := (A.agg [(A.v (Value.int .i64 a0.X.Lo)), (A.v (Value.int .i64 a0.X.Hi))])) (by kernel_rfl) ?_
    refine .st (v := (A.ptr 1 0)) (by kernel_rfl) ?_
    refine .st (v := (A.agg [(A.v (Value.int .i64 a1.X.Lo)), (A.v (Value.int .i64 a1.X.Hi))])) (by kernel_rfl) ?_
    refine .bd (g := fun (y : S_Range) => (A.agg [(A.v (Value.int .i64 y.Lo)), (A.v (Value.int .i64 y.Hi))])) (h36 a0.X a1.X) fun y7 => ?_
    refine .st (v := (A.ptr 0 2)) (by kernel_rfl) ?_
    refine .st (v := (A.agg [(A.v (Value.int .i64 a0.Y.Lo)), (A.v (Value.int .i64 a0.Y.Hi))])) (by kernel_rfl) ?_
    refine .st (v := (A.ptr 1 2)) (by kernel_rfl) ?_
    refine .st (v := (A.agg [(A.v (Value.int .i64 a1.Y.Lo)), (A.v (Value.int .i64 a1.Y.Hi))])) (by kernel_rfl) ?_
    refine .bd (g := fun (y : S_Range) => (A.agg [(A.v (Value.int .i64 y.Lo)), (A.v (Value.int .i64 y.Hi))])) (h36 a0.Y a1.Y) fun y8 => ?_
    refine .st (v := (A.agg [(A.v (Value.int .i64 y7.Lo)), (A.v (Value.int .i64 y7.Hi)), (A.v (Value.int .i64 y8.Lo)), (A.v (Value.int .i64 y8.Hi))])) (by kernel_rfl) ?_
    refine .st (v := [Blk.box [(A.v (Value.int .i64 a0.X.Lo)), (A.v (Value.int .i64 a0.X.Hi)), (A.v (Value.int .i64 a0.Y.Lo)), (A.v (Value.int .i64 a0.Y.Hi))], Blk.box [(A.v (Value.int .i64 a1.X.Lo)), (A.v (Value.int .i64 a1.X.Hi)), (A.v (Value.int .i64 a1.Y.Lo)), (A.v (Value.int .i64 a1.Y.Hi))], Blk.box [(A.v (Value.int .i64 y7.Lo)), (A.v (Value.int .i64 y7.Hi)), (A.v (Value.int .i64 y8.Lo)), (A.v (Value.int .i64 y8.Hi))]]) (by kernel_rfl) ?_
    refine .st (v := (A.agg [(A.v (Value.int .i64 y7.Lo)), (A.v (Value.int .i64 y7.Hi)), (A.v (Value.int .i64 y8.Lo)), (A.v (Value.int .i64 y8.Hi))])) (by kernel_rfl) ?_
    exact .lf rfl rfl ⟨_, rfl, rfl⟩

def G22 (a0 : S_Box) (a1 : S_Box) : Option (S_Box × Int) := F22 fuel0 a0 a1

def Orc22 (C : Nat → List A → Option A) : Prop := ∀ (a0 : S_Box) (a1 : S_Box), C 22 [(A.agg [(A.v (Value.int .i64 a0.X.Lo)), (A.v (Value.int .i64 a0.X.Hi)), (A.v (Value.int .i64 a0.Y.Lo)), (A.v (Value.int .i64 a0.Y.Hi))]), (A.agg [(A.v (Value.int .i64 a1.X.Lo)), (A.v (Value.int .i64 a1.X.Hi)), (A.v (Value.int .i64 a1.Y.Lo)), (A.v (Value.int .i64 a1.Y.Hi))])] = (G22 a0 a1).map fun y => (A.tup [(A.agg [(A.v (Value.int .i64 y.1.X.Lo)), (A.v (Value.int .i64 y.1.X.Hi)), (A.v (Value.int .i64 y.1.Y.Lo)), (A.v (Value.int .i64 y.1.Y.Hi))]), (A.v (Value.int .i64 y.2))])

def F23 (n : Nat) (a0 : S_Box) (a1 : S_Box) : Option (Bool × Int) :=
  Option.bind (G34 a0) fun y1 => Option.bind (bif (!y1) then (some true) else (Option.bind (G34 a1) fun y2 => some (!y2))) fun y3 => bif y3 then (some ((false, 150))) else (Option.bind (G37_38 a0 a1) fun y7 => some ((!y7, 0)))

theorem T23 (C : Nat → List A → Option A) (n : Nat) (h34 : Orc34 C) (h37_38 : Orc37_38 C) (a0 : S_Box) (a1 : S_Box) : J (fun (o : R) y => ∃ v, o.1 = .ret v ∧ snap o.2 v = (A.tup [(A.v (Value.bool y.1)), (A.v (Value.int .i64 y.2))])) (evCall1 (cx C) (evCall (cx C) (n+4)) (n+4) 23 [(A.agg [(A.v (Value.int .i64 a0.X.Lo)), (A.v (Value.int .i64 a0.X.Hi)), (A.v (Value.int .i64 a0.Y.Lo)), (A.v (Value.int .i64 a0.Y.Hi))]), (A.agg [(A.v (Value.int .i64 a1.X.Lo)), (A.v (Value.int .i64 a1.X.Hi)), (A.v (Value.int .i64 a1.Y.Lo)), (A.v (Value.int .i64 a1.Y.Hi))])] [] 0) some (F23 n a0 a1) some := by
  refine .lp (e23 ..) ?_
  unfold F23
  refine .st (v := ((A.ptr 0 0), [Blk.box [(A.v (Value.int .i64 a0.X.Lo)), (A.v (Value.int .i64 a0.X.Hi)), (A.v (Value.int .i64 a0.Y.Lo)), (A.v (Value.int .i64 a0.Y.Hi))]])) (by kernel_rfl) ?_
  refine .st (v := ((A.ptr 1 0), [Blk.box [(A.v (Value.int .i64 a0.X.Lo)), (A.v (Value.int .i64 a0.X.Hi)), (A.v (Value.int .i64 a0.Y.Lo)), (A.v (Value.int .i64 a0.Y.Hi))], Blk.box [(A.v (Value.int .i64 a1.X.Lo)), (A.v (Value.int .i64 a1.X.Hi)), (A.v (Value.int .i64 a1.Y.Lo)), (A.v (Value.int .i64 a1.Y.Hi))]])) (by kernel_rfl) ?_
  refine .st (v := (A.agg [(A.v (Value.int .i64 a0.X.Lo)), (A.v (Value.int .i64 a0.X.Hi)), (A.v (Value.int .i64 a0.Y.Lo)), (A.v (Value.int .i64 a0.Y.Hi))])) (by kernel_rfl) ?_
  refine .bd (g := fun (y : Bool) => (A.v (Value.bool y))) (h34 a0) fun y1 => ?_
  refine .st (v := (A.v (Value.bool (!y1)))) (by kernel_rfl) ?_
  refine .bg (fun t (y : Bool) => ∃ j4 j5 j6 : A, t = [(A.v (Value.bool y)), j4, j5, j6]) ?_ ?_
  · refine .bi ?_ ?_
    · exact .lg ⟨_, _, _, rfl⟩
    · refine .st (v := (A.agg [(A.v (Value.int .i64 a1.X.Lo)), (A.v (Value.int .i64 a1.X.Hi)), (A.v (Value.int .i64 a1.Y.Lo)), (A.v (Value.int .i64 a1.Y.Hi))])) (by kernel_rfl) ?_
      refine .bd (g := fun (y : Bool) => (A.v (Value.bool y))) (h34 a1) fun y2 => ?_
      refine .st (v := (A.v (Value.bool (!y2)))) (by kernel_rfl) ?_
      exact .lg ⟨_, _, _, rfl⟩
  rintro _ y3 ⟨j4, j5, j6, rfl⟩
  iterate 4 refine .uc ?_
  refine .bi ?_ ?_
  · exact .lf rfl rfl ⟨_, rfl, rfl⟩
  · refine .st (v := (A.agg [(A.v (Value.int .i64 a0.X.Lo)), (A.v (Value.int .i64 a0.X.Hi)), (A.v (Value.int .i64 a0.Y.Lo)), (A.v (Value.int .i64 a0.Y.Hi))])) (by kernel_rfl) ?_
    refine .st (v := (A.agg [(A.v (Value.int .i64 a1.X.Lo)), (A.v (Value.int .i64 a1.X.Hi)), (A.v (Value.int .i64 a1.Y.Lo)), (A.v (Value.int .i64 a1.Y.Hi))])) (by kernel_rfl) ?_
    refine .bd (g := fun (y : Bool) => (A.v (Value.bool y))) (h37_38 a0 a1) fun y7 => ?_
    refine .st (v := (A.v (Value.bool (!y7)))) (by kernel_rfl) ?_
    exact .lf rfl rfl ⟨_, rfl, rfl⟩

def G23 (a0 : S_Box) (a1 : S_Box) : Option (Bool × Int) := F23 fuel0 a0 a1

def Orc23 (C : Nat → List A → Option A) : Prop := ∀ (a0 : S_Box) (a1 : S_Box), C 23 [(A.agg [(A.v (Value.int .i64 a0.X.Lo)), (A.v (Value.int .i64 a0.X.Hi)), (A.v (Value.int .i64 a0.Y.Lo)), (A.v (Value.int .i64 a0.Y.Hi))]), (A.agg [(A.v (Value.int .i64 a1.X.Lo)), (A.v (Value.int .i64 a1.X.Hi)), (A.v (Value.int .i64 a1.Y.Lo)), (A.v (Value.int .i64 a1.Y.Hi))])] = (G23 a0 a1).map fun y => (A.tup [(A.v (Value.bool y.1)), (A.v (Value.int .i64 y.2))])

def F24 (n : Nat) (a0 : S_Box) (a1 : S_Box) : Option (Bool × Int) :=
  Option.bind (G35 a0) fun y1 => Option.bind (bif (!y1) then (some true) else (Option.bind (G35 a1) fun y2 => some (!y2))) fun y3 => bif y3 then (some ((false, 150))) else (Option.bind (G39 a0.X a1.X) fun y7 => Option.bind (bif (!y7) then (some true) else (Option.bind (G39 a0.Y a1.Y) fun y8 => some (!y8))) fun y9 => some ((y9, 0)))

theorem T24 (C : Nat → List A → Option A) (n : Nat) (h35 : Orc35 C) (h39 : Orc39 C) (a0 : S_Box) (a1 : S_Box) : J (fun (o : R) y => ∃ v, o.1 = .ret v ∧ snap o.2 v = (A.tup [(A.v (Value.bool y.1)), (A.v (Value.int .i64 y.2))])) (evCall1 (cx C) (evCall (cx C) (n+4)) (n+4) 24 [(A.agg [(A.v (Value.int .i64 a0.X.Lo)), (A.v (Value.int .i64 a0.X.Hi)), (A.v (Value.int .i64 a0.Y.Lo)), (A.v (Value.int .i64 a0.Y.Hi))]), (A.agg [(A.v (Value.int .i64 a1.X.Lo)), (A.v (Value.int .i64 a1.X.Hi)), (A.v (Value.int .i64 a1.Y.Lo)), (A.v (Value.int .i64 a1.Y.Hi))])] [] 0) some (F24 n a0 a1) some := by
  refine .lp (e24 ..) ?_
  unfold F24
  refine .st (v := ((A.ptr 0 0), [Blk.box [(A.v (Value.int .i64 a0.X.Lo)), (A.v (Value.int .i64 a0.X.Hi)), (A.v (Value.int .i64 a0.Y.Lo)), (A.v (Value.int .i64 a0.Y.Hi))]])) (by kernel_rfl) ?_
  refine .st (v := ((A.ptr 1 0), [Blk.box [(A.v (Value.int .i64 a0.X.Lo)), (A.v (Value.int .i64 a0.X.Hi)), (A.v (Value.int .i64 a0.Y.Lo)), (A.v (Value.int .i64 a0.Y.Hi))], Blk.box [(A.v (Value.int .i64 a1.X.Lo)), (A.v (Value.int .i64 a1.X.Hi)), (A.v (Value.int .i64 a1.Y.Lo)), (A.v (Value.int .i64 a1.Y.Hi))]])) (by kernel_rfl) ?_
  refine .st (v := (A.agg [(A.v (Value.int .i64 a0.X.Lo)), (A.v (Value.int .i64 a0.X.Hi)), (A.v (Value.int .i64 a0.Y.Lo)), (A.v (Value.int .i64 a0.Y.Hi))])) (by kernel_rfl) ?_
  refine .bd (g := fun (y : Bool) => (A.v (Value.bool y))) (h35 a0) fun y1 => ?_
  refine .st (v := (A.v (Value.bool (!y1)))) (by kernel_rfl) ?_
  refine .bg (fun t (y : Bool) => ∃ j4 j5 j6 : A, t = [(A.v (Value.bool y)), j4, j5, j6]) ?_ ?_
  · refine .bi ?_ ?_
    · exact .lg ⟨_, _, _, rfl⟩
    · refine .st (v := (A.agg [(A.v (Value.int .i64 a1.X.Lo)), (A.v (Value.int .i64 a1.X.Hi)), (A.v (Value.int .i64 a1.Y.Lo)), (A.v (Value.int .i64 a1.Y.Hi))])) (by kernel_rfl) ?_
      refine .bd (g := fun (y : Bool) => (A.v (Value.bool y))) (h35 a1) fun y2 => ?_
      refine .st (v := (A.v (Value.bool (!y2)))) (by kernel_rfl) ?_
      exact .lg ⟨_, _, _, rfl⟩
  rintro _ y3 ⟨j4, j5, j6, rfl⟩
  iterate 4 refine .uc ?_
  refine .bi ?_ ?_
  · exact .lf rfl rfl ⟨_, rfl, rfl⟩
  · refine .st (v := (A.ptr 0 0)) (by kernel_rfl) ?_
    refine .st (v := (A.agg [(A.v (Value.int .i64 a0.X.Lo)), (A.v (Value.int .i64 a0.X.Hi))])) (by kernel_rfl) ?_
    refine .st (v := (A.ptr 1 0)) (by kernel_rfl) ?_
    refine .st (v := (A.agg [(A.v (Value.int .i64 a1.X.Lo)), (A.v (Value.int .i64 a1.X.Hi))])) (by kernel_rfl) ?_
    refine .bd (g := fun (y : Bool) => (A.v (Value.bool y))) (h39 a0.X a1.X) fun y7 => ?_
    refine .st (v := (A.v (Value.bool (!y7)))) (by kernel_rfl) ?_
    refine .bg (fun t (y : Bool) => ∃ j10 j11 j12 j13 j14 j15 : A, t = [(A.v (Value.bool y)), j10, j11, j12, j13, j14, j15]) ?_ ?_
    · refine .bi ?_ ?_
      · exact .lg ⟨_, _, _, _, _, _, rfl⟩
      · refine .st (v := (A.ptr 0 2)) (by kernel_rfl) ?_
        refine .st (v := (A.agg [(A.v (Value.int .i64 a0.Y.Lo)), (A.v (Value.int .i64 a0.Y.Hi))])) (by kernel_rfl) ?_
        refine .st (v := (A.ptr 1 2)) (by kernel_rfl) ?_
        refine .st (v := (A.agg [(A.v (Value.int .i64 a1.Y.Lo)), (A.v (Value.int .i64 a1.Y.Hi))])) (by kernel_rfl) ?_
        refine .bd (g := fun (y : Bool) => (A.v (Value.bool y))) (h39 a0.Y a1.Y) fun y8 => ?_
        refine .st (v := (A.v (Value.bool (!y8)))) (by kernel_rfl) ?_
        exact .lg ⟨_, _, _, _, _, _, rfl⟩
    rintro _ y9 ⟨j10, j11, j12, j13, j14, j15, rfl⟩
    iterate 7 refine .uc ?_
    exact .lf rfl rfl ⟨_, rfl, rfl⟩

def G24 (a0 : S_Box) (a1 : S_Box) : Option (Bool × Int) := F24 fuel0 a0 a1

def Orc24 (C : Nat → List A → Option A) : Prop := ∀ (a0 : S_Box) (a1 : S_Box), C 24 [(A.agg [(A.v (Value.int .i64 a0.X.Lo)), (A.v (Value.int .i64 a0.X.Hi)), (A.v (Value.int .i64 a0.Y.Lo)), (A.v (Value.int .i64 a0.Y.Hi))]), (A.agg [(A.v (Value.int .i64 a1.X.Lo)), (A.v (Value.int .i64 a1.X.Hi)), (A.v (Value.int .i64 a1.Y.Lo)), (A.v (Value.int .i64 a1.Y.Hi))])] = (G24 a0 a1).map fun y => (A.tup [(A.v (Value.bool y.1)), (A.v (Value.int .i64 y.2))])

def F25 (n : Nat) (a0 : S_Box) (a1 : S_Box) : Option (Bool × Int) :=
  Option.bind (G34 a0) fun y1 => Option.bind (bif (!y1) then (some true) else (Option.bind (G34 a1) fun y2 => some (!y2))) fun y3 => bif y3 then (some ((false, 150))) else (Option.bind (G37_40 a0 a1) fun y7 => some ((y7, 0)))

theorem T25 (C : Nat → List A → Option A) (n : Nat) (h34 : Orc34 C) (h37_40 : Orc37_40 C) (a0 : S_Box) (a1 : S_Box) : J (fun (o : R) y => ∃ v, o.1 = .ret v ∧ snap o.2 v = (A.tup [(A.v (Value.bool y.1)), (A.v (Value.int .i64 y.2))])) (evCall1 (cx C) (evCall (cx C) (n+4)) (n+4) 25 [(A.agg [(A.v (Value.int .i64 a0.X.Lo)), (A.v (Value.int .i64 a0.X.Hi)), (A.v (Value.int .i64 a0.Y.Lo)), (A.v (Value.int .i64 a0.Y.Hi))]), (A.agg [(A.v (Value.int .i64 a1.X.Lo)), (A.v (Value.int .i64 a1.X.Hi)), (A.v (Value.int .i64 a1.Y.Lo)), (A.v (Value.int .i64 a1.Y.Hi))])] [] 0) some (F25 n a0 a1) some := by
  refine .lp (e25 ..) ?_
  unfold F25
  refine .st (v := ((A.ptr 0 0), [Blk.box [(A.v (Value.int .i64 a0.X.Lo)), (A.v (Value.int .i64 a0.X.Hi)), (A.v (Value.int .i64 a0.Y.Lo)), (A.v (Value.int .i64 a0.Y.Hi))]])) (by kernel_rfl) ?_
  refine .st (v := ((A.ptr 1 0), [Blk.box [(A.v (Value.int .i64 a0.X.Lo)), (A.v (Value.int .i64 a0.X.Hi)), (A.v (Value.int .i64 a0.Y.Lo)), (A.v (Value.int .i64 a0.Y.Hi))], Blk.box [(A.v (Value.int .i64 a1.X.Lo)), (A.v (Value.int .i64 a1.X.Hi)), (A.v (Value.int .i64 a1.Y.Lo)), (A.v (Value.int .i64 a1.Y.Hi))]])) (by kernel_rfl) ?_
  refine .st (v := (A.agg [(A.v (Value.int .i64 a0.X.Lo)), (A.v (Value.int .i64 a0.X.Hi)), (A.v (Value.int .i64 a0.Y.Lo)), (A.v (Value.int .i64 a0.Y.Hi))])) (by kernel_rfl) ?_
  refine .bd (g := fun (y : Bool) => (A.v (Value.bool y))) (h34 a0) fun y1 => ?_
  refine .st (v := (A.v (Value.bool (!y1)))) (by kernel_rfl) ?_
  refine .bg (fun t (y : Bool) => ∃ j4 j5 j6 : A, t = [(A.v (Value.bool y)), j4, j5, j6]) ?_ ?_
  · refine .bi ?_ ?_
    · exact .lg ⟨_, _, _, rfl⟩
    · refine .st (v := (A.agg [(A.v (Value.int .i64 a1.X.Lo)), (A.v (Value.int .i64 a1.X.Hi)), (A.v (Value.int .i64 a1.Y.Lo)), (A.v (Value.int .i64 a1.Y.Hi))])) (by kernel_rfl) ?_
      refine .bd (g := fun (y : Bool) => (A.v (Value.bool y))) (h34 a1) fun y2 => ?_
      refine .st (v := (A.v (Value.bool (!y2)))) (by kernel_rfl) ?_
      exact .lg ⟨_, _, _, rfl⟩
  rintro _ y3 ⟨j4, j5, j6, rfl⟩
  iterate 4 refine .uc ?_
  refine .bi ?_ ?_
  · exact .lf rfl rfl ⟨_, rfl, rfl⟩
  · refine .st (v := (A.agg [(A.v (Value.int .i64 a0.X.Lo)), (A.v (Value.int .i64 a0.X.Hi)), (A.v (Value.int .i64 a0.Y.Lo)), (A.v (Value.int .i64 a0.Y.Hi))])) (by kernel_rfl) ?_
    refine .st (v := (A.agg [(A.v (Value.int .i64 a1.X.Lo)), (A.v (Value.int .i64 a1.X.Hi)), (A.v (Value.int .i64 a1.Y.Lo)), (A.v (Value.int .i64 a1.Y.Hi))])) (by kernel_rfl) ?_
    refine .bd (g := fun (y : Bool) => (A.v (Value.bool y))) (h37_40 a0 a1) fun y7 => ?_
    exact .lf rfl rfl ⟨_, rfl, rfl⟩

def G25 (a0 : S_Box) (a1 : S_Box) : Option (Bool × Int) := F25 fuel0 a0 a1

def Orc25 (C : Nat → List A → Option A) : Prop := ∀ (a0 : S_Box) (a1 : S_Box), C 25 [(A.agg [(A.v (Value.int .i64 a0.X.Lo)), (A.v (Value.int .i64 a0.X.Hi)), (A.v (Value.int .i64 a0.Y.Lo)), (A.v (Value.int .i64 a0.Y.Hi))]), (A.agg [(A.v (Value.int .i64 a1.X.Lo)), (A.v (Value.int .i64 a1.X.Hi)), (A.v (Value.int .i64 a1.Y.Lo)), (A.v (Value.int .i64 a1.Y.Hi))])] = (G25 a0 a1).map fun y => (A.tup [(A.v (Value.bool y.1)), (A.v (Value.int .i64 y.2))])

def F26 (n : Nat) (a0 : S_Box) (a1 : S_Box) : Option (Bool × Int) :=
  Option.bind (G35 a0) fun y1 => Option.bind (bif (!y1) then (some true) else (Option.bind (G35 a1) fun y2 => some (!y2))) fun y3 => bif y3 then (some ((false, 150))) else (Option.bind (G41 a0.X a1.X) fun y7 => Option.bind (bif y7 then (Option.bind (G41 a0.Y a1.Y) fun y8 => some y8) else (some false)) fun y9 => some ((y9, 0)))

theorem T26 (C : Nat → List A → Option A) (n : Nat) (h35 : Orc35 C) (h41 : Orc41 C) (a0 : S_Box) (a1 : S_Box) : J (fun (o : R) y => ∃ v, o.1 = .ret v ∧ snap o.2 v = (A.tup [(A.v (Value.bool y.1)), (A.v (Value.int .i64 y.2))])) (evCall1 (cx C) (evCall (cx C) (n+4)) (n+4) 26 [(A.agg [(A.v (Value.int .i64 a0.X.Lo)), (A.v (Value.int .i64 a0.X.Hi)), (A.v (Value.int .i64 a0.Y.Lo)), (A.v (Value.int .i64 a0.Y.Hi))]), (A.agg [(A.v (Value.int .i64 a1.X.Lo)), (A.v (Value.int .i64 a1.X.Hi)), (A.v (Value.int .i64 a1.Y.Lo)), (A.v (Value.int .i64 a1.Y.Hi))])] [] 0) some (F26 n a0 a1) some := by
  refine .lp (e26 ..) ?_
  unfold F26
  refine .st (v := ((A.ptr 0 0), [Blk.box [(A.v (Value.int .i64 a0.X.Lo)), (A.v (Value.int .i64 a0.X.Hi)), (A.v (Value.int .i64 a0.Y.Lo)), (A.v (Value.int .i64 a0.Y.Hi))]])) (by kernel_rfl) ?_
  refine .st (v := ((A.ptr 1 0), [Blk.box [(A.v (Value.int .i64 a0.X.Lo)), (A.v (Value.int .i64 a0.X.Hi)), (A.v (Value.int .i64 a0.Y.Lo)), (A.v (Value.int .i64 a0.Y.Hi))], Blk.box [(A.v (Value.int .i64 a1.X.Lo)), (A.v (Value.int .i64 a1.X.Hi)), (A.v (Value.int .i64 a1.Y.Lo)), (A.v (Value.int .i64 a1.Y.Hi))]])) (by kernel_rfl) ?_
  refine .st (v := (A.agg [(A.v (Value.int .i64 a0.X.Lo)), (A.v (Value.int .i64 a0.X.Hi)), (A.v (Value.int .i64 a0.Y.Lo)), (A.v (Value.int .i64 a0.Y.Hi))])) (by kernel_rfl) ?_
  refine .bd (g := fun (y : Bool) => (A.v (Value.bool y))) (h35 a0) fun y1 => ?_
  refine .st (v := (A.v (Value.bool (!y1)))) (by kernel_rfl) ?_
  refine .bg (fun t (y : Bool) => ∃ j4 j5 j6 : A, t = [(A.v (Value.bool y)), j4, j5, j6]) ?_ ?_
  · refine .bi ?_ ?_
    · exact .lg ⟨_, _, _, rfl⟩
    · refine .st (v := (A.agg [(A.v (Value.int .i64 a1.X.Lo)), (A.v (Value.int .i64 a1.X.Hi)), (A.v (Value.int .i64 a1.Y.Lo)), (A.v (Value.int .i64 a1.Y.Hi))])) (by kernel_rfl) ?_
      refine .bd (g := fun (y : Bool) => (A.v (Value.bool y))) (h35 a1) fun y2 => ?_
      refine .st (v := (A.v (Value.bool (!y2)))) (by kernel_rfl) ?_
      exact .lg ⟨_, _, _, rfl⟩
  rintro _ y3 ⟨j4, j5, j6, rfl⟩
  iterate 4 refine .uc ?_
  refine .bi ?_ ?_
  · exact .lf rfl rfl ⟨_, rfl, rfl⟩
  · refine .st (v := (A.ptr 0 0)) (by kernel_rfl) ?_
    refine .st (v := (A.agg [(A.v (Value.int .i64 a0.X.Lo)), (A.v (Value.int .i64 a0.X.Hi))])) (by kernel_rfl) ?_
    refine .st (v := (A.ptr 1 0)) (by kernel_rfl) ?_
    refine .st (v := (A.agg [(A.v (Value.int .i64 a1.X.Lo)), (A.v (Value.int .i64 a1.X.Hi))])) (by kernel_rfl) ?_
    refine .bd (g := fun (y : Bool) => (A.v (Value.bool y))) (h41 a0.X a1.X) fun y7 => ?_
    refine .bg (fun t (y : Bool) => ∃ j10 j11 j12 j13 j14 : A, t = [(A.v (Value.bool y)), j10, j11, j12, j13, j14]) ?_ ?_
    · refine .bi ?_ ?_
      · refine .st (v := (A.ptr 0 2)) (by kernel_rfl) ?_
        refine .st (v := (A.agg [(A.v (Value.int .i64 a0.Y.Lo)), (A.v (Value.int .i64 a0.Y.Hi))])) (by kernel_rfl) ?_
        refine .st (v := (A.ptr 1 2)) (by kernel_rfl) ?_
        refine .st (v := (A.agg [(A.v (Value.int .i64 a1.Y.Lo)), (A.v (Value.int .i64 a1.Y.Hi))])) (by kernel_rfl) ?_
        refine .bd (g := fun (y : Bool) => (A.v (Value.bool y))) (h41 a0.Y a1.Y) fun y8 => ?_
        exact .lg ⟨_, _, _, _, _, rfl⟩
      · exact .lg ⟨_, _, _, _, _, rfl⟩
    rintro _ y9 ⟨j10, j11, j12, j13, j14, rfl⟩
    iterate 6 refine .uc ?_
    exact .lf rfl rfl ⟨_, rfl, rfl⟩

def G26 (a0 : S_Box) (a1 : S_Box) : Option (Bool × Int) := F26 fuel0 a0 a1

def Orc26 (C : Nat → List A → Option A) : Prop := ∀ (a0 : S_Box) (a1 : S_Box), C 26 [(A.agg [(A.v (Value.int .i64 a0.X.Lo)), (A.v (Value.int .i64 a0.X.Hi)), (A.v (Value.int .i64 a0.Y.Lo)), (A.v (Value.int .i64 a0.Y.Hi))]), (A.agg [(A.v (Value.int .i64 a1.X.Lo)), (A.v (Value.int .i64 a1.X.Hi)), (A.v (Value.int .i64 a1.Y.Lo)), (A.v (Value.int .i64 a1.Y.Hi))])] = (G26 a0 a1).map fun y => (A.tup [(A.v (Value.bool y.1)), (A.v (Value.int .i64 y.2))])

def F27 (n : Nat) (a0 : S_Box) (a1 : Int) (a2 : Int) : Option (S_Box × Int) :=
  Option.bind (G34 a0) fun y1 => bif (!y1) then (some (((S_Box.mk ((S_Range.mk 0 0)) ((S_Range.mk 0 0))), 150))) else (Option.bind (G32 2199023255552 ([a1, a2])) fun y2 => bif (!y2) then (some (((S_Box.mk ((S_Range.mk 0 0)) ((S_Range.mk 0 0))), 2))) else (Option.bind (G34 ((S_Box.mk ((S_Range.mk (wr .i64 (a0.X.Lo + a1)) (wr .i64 (a0.X.Hi + a1)))) ((S_Range.mk (wr .i64 (a0.Y.Lo + a2)) (wr .i64 (a0.Y.Hi + a2))))))) fun y3 => bif (!y3) then (some (((S_Box.mk ((S_Range.mk 0 0)) ((S_Range.mk 0 0))), 2))) else (some (((S_Box.mk ((S_Range.mk (wr .i64 (a0.X.Lo + a1)) (wr .i64 (a0.X.Hi + a1)))) ((S_Range.mk (wr .i64 (a0.Y.Lo + a2)) (wr .i64 (a0.Y.Hi + a2))))), 0)))))

theorem T27 (C : Nat → List A → Option A) (n : Nat) (h32 : Orc32 C) (h34 : Orc34 C) (a0 : S_Box) (a1 : Int) (a2 : Int) : J (fun (o : R) y => ∃ v, o.1 = .ret v ∧ snap o.2 v = (A.tup [(A.agg [(A.v (Value.int .i64 y.1.X.Lo)), (A.v (Value.int .i64 y.1.X.Hi)), (A.v (Value.int .i64 y.1.Y.Lo)), (A.v (Value.int .i64 y.1.Y.Hi))]), (A.v (Value.int .i64 y.2))])) (evCall1 (cx C) (evCall (cx C) (n+4)) (n+4) 27 [(A.agg [(A.v (Value.int .i64 a0.X.Lo)), (A.v (Value.int .i64 a0.X.Hi)), (A.v (Value.int .i64 a0.Y.Lo)), (A.v (Value.int .i64 a0.Y.Hi))]), (A.v (Value.int .i64 a1)), (A.v (Value.int .i64 a2))] [] 0) some (F27 n a0 a1 a2) some := by
  refine .lp (e27 ..) ?_
  unfold F27
  refine .st (v := ((A.ptr 0 0), [Blk.box [(A.v (Value.int .i64 a0.X.Lo)), (A.v (Value.int .i64 a0.X.Hi)), (A.v (Value.int .i64 a0.Y.Lo)), (A.v (Value.int .i64 a0.Y.Hi))]])) (by kernel_rfl) ?_
  refine .st (v := ((A.ptr 1 0), [Blk.box [(A.v (Value.int .i64 a0.X.Lo)), (A.v (Value.int .i64 a0.X.Hi)), (A.v (Value.int .i64 a0.Y.Lo)), (A.v (Value.int .i64 a0.Y.Hi))], Blk.box [(A.v (Value.int .i64 0)), (A.v (Value.int .i64 0)), (A.v (Value.int .i64 0)), (A.v (Value.int .i64 0))]])) (by kernel_rfl) ?_
  refine .st (v := (A.agg [(A.v (Value.int .i64 a0.X.Lo)), (A.v (Value.int .i64 a0.X.Hi)), (A.v (Value.int .i64 a0.Y.Lo)), (A.v (Value.int .i64 a0.Y.Hi))])) (by kernel_rfl) ?_
  refine .bd (g := fun (y : Bool) => (A.v (Value.bool y))) (h34 a0) fun y1 => ?_
  refine .st (v := (A.v (Value.bool (!y1)))) (by kernel_rfl) ?_
  refine .bi ?_ ?_
  · refine .st (v := (A.agg [(A.v (Value.int .i64 0)), (A.v (Value.int .i64 0)), (A.v (Value.int .i64 0)), (A.v (Value.int .i64 0))])) (by kernel_rfl) ?_
    refine .st (v := [Blk.box [(A.v (Value.int .i64 a0.X.Lo)), (A.v (Value.int .i64 a0.X.Hi)), (A.v (Value.int .i64 a0.Y.Lo)), (A.v (Value.int .i64 a0.Y.Hi))], Blk.box [(A.v (Value.int .i64 0)), (A.v (Value.int .i64 0)), (A.v (Value.int .i64 0)), (A.v (Value.int .i64 0))]]) (by kernel_rfl) ?_
    refine .st (v := (A.agg [(A.v (Value.int .i64 0)), (A.v (Value.int .i64 0)), (A.v (Value.int .i64 0)), (A.v (Value.int .i64 0))])) (by kernel_rfl) ?_
    exact .lf rfl rfl ⟨_, rfl, rfl⟩
  · refine .st (v := (A.imm [[(A.v (Value.int .i64 a1))], [(A.v (Value.int .i64 a2))]] true)) (by kernel_rfl) ?_
    refine .bd (g := fun (y : Bool) => (A.v (Value.bool y))) (by simp only [snap, snapW, snapWs, snapWss, snapWss_map, trim, List.map_cons, List.map_nil, fl_cI, fl_c8, fl_cB, fl_cS, fl_cL, fl_S_Vec, fl_S_Range, fl_S_Box]; exact h32 2199023255552 ([a1, a2])) fun y2 => ?_
    refine .st (v := (A.v (Value.bool (!y2)))) (by kernel_rfl) ?_
    refine .bi ?_ ?_
    · refine .st (v := (A.agg [(A.v (Value.int .i64 0)), (A.v (Value.int .i64 0)), (A.v (Value.int .i64 0)), (A.v (Value.int .i64 0))])) (by kernel_rfl) ?_
      refine .st (v := [Blk.box [(A.v (Value.int .i64 a0.X.Lo)), (A.v (Value.int .i64 a0.X.Hi)), (A.v (Value.int .i64 a0.Y.Lo)), (A.v (Value.int .i64 a0.Y.Hi))], Blk.box [(A.v (Value.int .i64 0)), (A.v (Value.int .i64 0)), (A.v (Value.int .i64 0)), (A.v (Value.int .i64 0))]]) (by kernel_rfl) ?_
      refine .st (v := (A.agg [(A.v (Value.int .i64 0)), (A.v (Value.int .i64 0)), (A.v (Value.int .i64 0)), (A.v (Value.int .i64 0))])) (by kernel_rfl) ?_
      exact .lf rfl rfl ⟨_, rfl, rfl⟩
    · refine .st (v := (A.ptr 0 0)) (by kernel_rfl) ?_
      refine .st (v := (A.ptr 0 0)) (by kernel_rfl) ?_
      refine .st (v := (A.v (Value.int .i64 a0.X.Lo))) (by kernel_rfl) ?_
      refine .st (v := (A.v (Value.int .i64 (wr .i64 (a0.X.Lo + a1))))) (aBin_add ..) ?_
      refine .st (v := (A.ptr 0 0)) (by kernel_rfl) ?_
      refine .st (v := (A.ptr 0 1)) (by kernel_rfl) ?_
      refine .st (v := (A.v (Value.int .i64 a0.X.Hi))) (by kernel_rfl) ?_
      refine .st (v := (A.v (Value.int .i64 (wr .i64 (a0.X.Hi + a1))))) (aBin_add ..) ?_
      refine .st (v := (A.agg [(A.v (Value.int .i64 (wr .i64 (a0.X.Lo + a1)))), (A.v (Value.int .i64 (wr .i64 (a0.X.Hi + a1))))])) (by kernel_rfl) ?_
      refine .st (v := (A.ptr 0 2)) (by kernel_rfl) ?_
      refine .st (v := (A.ptr 0 2)) (by kernel_rfl) ?_
      refine .st (v := (A.v (Value.int .i64 a0.Y.Lo))) (by kernel_rfl) ?_
      refine .st (v := (A.v (Value.int .i64 (wr .i64 (a0.Y.Lo + a2))))) (aBin_add ..) ?_
      refine .st (v := (A.ptr 0 2)) (by kernel_rfl) ?_
      refine .st (v := (A.ptr 0 3)) (by kernel_rfl) ?_
      refine .st (v := (A.v (Value.int .i64 a0.Y.Hi))) (by kernel_rfl) ?_
      refine .st (v := (A.v (Value.int .i64 (wr .i64 (a0.Y.Hi + a2))))) (aBin_add ..) ?_
      refine .st (v := (A.agg [(A.v (Value.int .i64 (wr .i64 (a0.Y.Lo + a2)))), (A.v (Value.int .i64 (wr .i64 (a0.Y.Hi + a2))))])) (by kernel_rfl) ?_
      refine .st (v := (A.agg [(A.v (Value.int .i64 (wr .i64 (a0.X.Lo + a1)))), (A.v (Value.int .i64 (wr .i64 (a0.X.Hi + a1)))), (A.v (Value.int .i64 (wr .i64 (a0.Y.Lo + a2)))), (A.v (Value.int .i64 (wr .i64 (a0.Y.Hi + a2))))])) (by kernel_rfl) ?_
      refine .st (v := [Blk.box [(A.v (Value.int .i64 a0.X.Lo)), (A.v (Value.int .i64 a0.X.Hi)), (A.v (Value.int .i64 a0.Y.Lo)), (A.v (Value.int .i64 a0.Y.Hi))], Blk.box [(A.v (Value.int .i64 (wr .i64 (a0.X.Lo + a1)))), (A.v (Value.int .i64 (wr .i64 (a0.X.Hi + a1)))), (A.v (Value.int .i64 (wr .i64 (a0.Y.Lo + a2)))), (A.v (Value.int .i64 (wr .i64 (a0.Y.Hi + a2))))]]) (by kernel_rfl) ?_
      refine .st (v := (A.agg [(A.v (Value.int .i64 (wr .i64 (a0.X.Lo + a1)))), (A.v (Value.int .i64 (wr .i64 (a0.X.Hi + a1)))), (A.v (Value.int .i64 (wr .i64 (a0.Y.Lo + a2)))), (A.v (Value.int .i64 (wr .i64 (a0.Y.Hi + a2))))])) (by kernel_rfl) ?_
      refine .bd (g := fun (y : Bool) => (A.v (Value.bool y))) (h34 ((S_Box.mk ((S_Range.mk (wr .i64 (a0.X.Lo + a1)) (wr .i64 (a0.X.Hi + a1)))) ((S_Range.mk (wr .i64 (a0.Y.Lo + a2)) (wr .i64 (a0.Y.Hi + a2))))))) fun y3 => ?_
      refine .st (v := (A.v (Value.bool (!y3)))) (by kernel_rfl) ?_
      refine .bi ?_ ?_
      · refine .st (v := (A.agg [(A.v (Value.int .i64 0)), (A.v (Value.int .i64 0)), (A.v (Value.int .i64 0)), (A.v (Value.int .i64 0))])) (by kernel_rfl) ?_
        refine .st (v := [Blk.box [(A.v (Value.int .i64 a0.X.Lo)), (A.v (Value.int .i64 a0.X.Hi)), (A.v (Value.int .i64 a0.Y.Lo)), (A.v (Value.int .i64 a0.Y.Hi))], Blk.box [(A.v (Value.int .i64 0)), (A.v (Value.int .i64 0)), (A.v (Value.int .i64 0)), (A.v (Value.int .i64 0))]]) (by kernel_rfl) ?_
        refine .st (v := (A.agg [(A.v (Value.int .i64 0)), (A.v (Value.int .i64 0)), (A.v (Value.int .i64 0)), (A.v (Value.int .i64 0))])) (by kernel_rfl) ?_
        exact .lf rfl rfl ⟨_, rfl, rfl⟩
      · refine .st (v := (A.agg [(A.v (Value.int .i64 (wr .i64 (a0.X.Lo + a1)))), (A.v (Value.int .i64 (wr .i64 (a0.X.Hi + a1)))), (A.v (Value.int .i64 (wr .i64 (a0.Y.Lo + a2)))), (A.v (Value.int .i64 (wr .i64 (a0.Y.Hi + a2))))])) (by kernel_rfl) ?_
        refine .st (v := [Blk.box [(A.v (Value.int .i64 a0.X.Lo)), (A.v (Value.int .i64 a0.X.Hi)), (A.v (Value.int .i64 a0.Y.Lo)), (A.v (Value.int .i64 a0.Y.Hi))], Blk.box [(A.v (Value.int .i64 (wr .i64 (a0.X.Lo + a1)))), (A.v (Value.int .i64 (wr .i64 (a0.X.Hi + a1)))), (A.v (Value.int .i64 (wr .i64 (a0.Y.Lo + a2)))), (A.v (Value.int .i64 (wr .i64 (a0.Y.Hi + a2))))]]) (by kernel_rfl) ?_
        refine .st (v := (A.agg [(A.v (Value.int .i64 (wr .i64 (a0.X.Lo + a1)))), (A.v (Value.int .i64 (wr .i64 (a0.X.Hi + a1)))), (A.v (Value.int .i64 (wr .i64 (a0.Y.Lo + a2)))), (A.v (Value.int .i64 (wr .i64 (a0.Y.Hi + a2))))])) (by kernel_rfl) ?_
        exact .lf rfl rfl ⟨_, rfl, rfl⟩

def G27 (a0 : S_Box) (a1 : Int) (a2 : Int) : Option (S_Box × Int) := F27 fuel0 a0 a1 a2

def Orc27 (C : Nat → List A → Option A) : Prop := ∀ (a0 : S_Box) (a1 : Int) (a2 : Int), C 27 [(A.agg [(A.v (Value.int .i64 a0.X.Lo)), (A.v (Value.int .i64 a0.X.Hi)), (A.v (Value.int .i64 a0.Y.Lo)), (A.v (Value.int .i64 a0.Y.Hi))]), (A.v (Value.int .i64 a1)), (A.v (Value.int .i64 a2))] = (G27 a0 a1 a2).map fun y => (A.tup [(A.agg [(A.v (Value.int .i64 y.1.X.Lo)), (A.v (Value.int .i64 y.1.X.Hi)), (A.v (Value.int .i64 y.1.Y.Lo)), (A.v (Value.int .i64 y.1.Y.Hi))]), (A.v (Value.int .i64 y.2))])

def F28 (n : Nat) (a0 : S_Box) (a1 : Int) (a2 : Int) : Option (S_Box × Int) :=
  Option.bind (G35 a0) fun y1 => bif (!y1) then (some (((S_Box.mk ((S_Range.mk 0 0)) ((S_Range.mk 0 0))), 150))) else (Option.bind (G42 a0.X a1) fun y2 => Option.bind (G42 a0.Y a2) fun y3 => Option.bind (bif (!y2.2) then (some true) else (some (!y3.2))) fun y4 => bif y4 then (some (((S_Box.mk ((S_Range.mk 0 0)) ((S_Range.mk 0 0))), 2))) else (some (((S_Box.mk y2.1 y3.1), 0))))

theorem T28 (C : Nat → List A → Option A) (n : Nat) (h35 : Orc35 C) (h42 : Orc42 C) (a0 : S_Box) (a1 : Int) (a2 : Int) : J (fun (o : R) y => ∃ v, o.1 = .ret v ∧ snap o.2 v = (A.tup [(A.agg [(A.v (Value.int .i64 y.1.X.Lo)), (A.v (Value.int .i64 y.1.X.Hi)), (A.v (Value.int .i64 y.1.Y.Lo)), (A.v (Value.int .i64 y.1.Y.Hi))]), (A.v (Value.int .i64 y.2))])) (evCall1 (cx C) (evCall (cx C) (n+4)) (n+4) 28 [(A.agg [(A.v (Value.int .i64 a0.X.Lo)), (A.v (Value.int .i64 a0.X.Hi)), (A.v (Value.int .i64 a0.Y.Lo)), (A.v (Value.int .i64 a0.Y.Hi))]), (A.v (Value.int .i64 a1)), (A.v (Value.int .i64 a2))] [] 0) some (F28 n a0 a1 a2) some := by
  refine .lp (e28 ..) ?_
  unfold F28
  refine .st (v := ((A.ptr 0 0), [Blk.box [(A.v (Value.int .i64 a0.X.Lo)), (A.v (Value.int .i64 a0.X.Hi)), (A.v (Value.int .i64 a0.Y.Lo)), (A.v (Value.int .i64 a0.Y.Hi))]])) (by kernel_rfl) ?_
  refine .st (v := ((A.ptr 1 0), [Blk.box [(A.v (Value.int .i64 a0.X.Lo)), (A.v (Value.int .i64 a0.X.Hi)), (A.v (Value.int .i64 a0.Y.Lo)), (A.v (Value.int .i64 a0.Y.Hi))], Blk.box [(A.v (Value.int .i64 0)), (A.v (Value.int .i64 0)), (A.v (Value.int .i64 0)), (A.v (Value.int .i64 0))]])) (by kernel_rfl) ?_
  refine .st (v := (A.agg [(A.v (Value.int .i64 a0.X.Lo)), (A.v (Value.int .i64 a0.X.Hi)), (A.v (Value.int .i64 a0.Y.Lo)), (A.v (Value.int .i64 a0.Y.Hi))])) (by kernel_rfl) ?_
  refine .bd (g := fun (y : Bool) => (A.v (Value.bool y))) (h35 a0) fun y1 => ?_
  refine .st (v := (A.v (Value.bool (!y1)))) (by kernel_rfl) ?_
  refine .bi ?_ ?_
  · refine .st (v := (A.agg [(A.v (Value.int .i64 0)), (A.v (Value.int .i64 0)), (A.v (Value.int .i64 0)), (A.v (Value.int .i64 0))])) (by kernel_rfl) ?_
    refine .st (v := [Blk.box [(A.v (Value.int .i64 a0.X.Lo)), (A.v (Value.int .i64 a0.X.Hi)), (A.v (Value.int .i64 a0.Y.Lo)), (A.v (Value.int .i64 a0.Y.Hi))], Blk.box [(A.v (Value.int .i64 0)), (A.v (Value.int .i64 0)), (A.v (Value.int .i64 0)), (A.v (Value.int .i64 0))]]) (by kernel_rfl) ?_
    refine .st (v := (A.agg [(A.v (Value.int .i64 0)), (A.v (Value.int .i64 0)), (A.v (Value.int .i64 0)), (A.v (Value.int .i64 0))])) (by kernel_rfl) ?_
    exact .lf rfl rfl ⟨_, rfl, rfl⟩
  · refine .st (v := (A.ptr 0 0)) (by kernel_rfl) ?_
    refine .st (v := (A.agg [(A.v (Value.int .i64 a0.X.Lo)), (A.v (Value.int .i64 a0.X.Hi))])) (by kernel_rfl) ?_
    refine .bd (g := fun (y : (S_Range × Bool)) => (A.tup [(A.agg [(A.v (Value.int .i64 y.1.Lo)), (A.v (Value.int .i64 y.1.Hi))]), (A.v (Value.bool y.2))])) (h42 a0.X a1) fun y2 => ?_
    refine .st (v := (A.agg [(A.v (Value.int .i64 y2.1.Lo)), (A.v (Value.int .i64 y2.1.Hi))])) (by kernel_rfl) ?_
    refine .st (v := (A.v (Value.bool y2.2))) (by kernel_rfl) ?_
    refine .st (v := ((A.ptr 2 0), [Blk.box [(A.v (Value.int .i64 a0.X.Lo)), (A.v (Value.int .i64 a0.X.Hi)), (A.v (Value.int .i64 a0.Y.Lo)), (A.v (Value.int .i64 a0.Y.Hi))], Blk.box [(A.v (Value.int .i64 0)), (A.v (Value.int .i64 0)), (A.v (Value.int .i64 0)), (A.v (Value.int .i64 0))], Blk.box [(A.v (Value.int .i64 0)), (A.v (Value.int .i64 0))]])) (by kernel_rfl) ?_
    refine .st (v := [Blk.box [(A.v (Value.int .i64 a0.X.Lo)), (A.v (Value.int .i64 a0.X.Hi)), (A.v (Value.int .i64 a0.Y.Lo)), (A.v (Value.int .i64 a0.Y.Hi))], Blk.box [(A.v (Value.int .i64 0)), (A.v (Value.int .i64 0)), (A.v (Value.int .i64 0)), (A.v (Value.int .i64 0))], Blk.box [(A.v (Value.int .i64 y2.1.Lo)), (A.v (Value.int .i64 y2.1.Hi))]]) (by kernel_rfl) ?_
    refine .st (v := (A.ptr 0 2)) (by kernel_rfl) ?_
    refine .st (v := (A.agg [(A.v (Value.int .i64 a0.Y.Lo)), (A.v (Value.int .i64 a0.Y.Hi))])) (by kernel_rfl) ?_
    refine .bd (g := fun (y : (S_Range × Bool)) => (A.tup [(A.agg [(A.v (Value.int .i64 y.1.Lo)), (A.v (Value.int .i64 y.1.Hi))]), (A.v (Value.bool y.2))])) (h42 a0.Y a2) fun y3 => ?_
    refine .st (v := (A.agg [(A.v (Value.int .i64 y3.1.Lo)), (A.v (Value.int .i64 y3.1.Hi))])) (by kernel_rfl) ?_
    refine .st (v := (A.v (Value.bool y3.2))) (by kernel_rfl) ?_
    refine .st (v := ((A.ptr 3 0), [Blk.box [(A.v (Value.int .i64 a0.X.Lo)), (A.v (Value.int .i64 a0.X.Hi)), (A.v (Value.int .i64 a0.Y.Lo)), (A.v (Value.int .i64 a0.Y.Hi))], Blk.box [(A.v (Value.int .i64 0)), (A.v (Value.int .i64 0)), (A.v (Value.int .i64 0)), (A.v (Value.int .i64 0))], Blk.box [(A.v (Value.int .i64 y2.1.Lo)), (A.v (Value.int .i64 y2.1.Hi))], Blk.box [(A.v (Value.int .i64 0)), (A.v (Value.int .i64 0))]])) (by kernel_rfl) ?_
    refine .st (v := [Blk.box [(A.v (Value.int .i64 a0.X.Lo)), (A.v (Value.int .i64 a0.X.Hi)), (A.v (Value.int .i64 a0.Y.Lo)), (A.v (Value.int .i64 a0.Y.Hi))], Blk.box [(A.v (Value.int .i64 0)), (A.v (Value.int .i64 0)), (A.v (Value.int .i64 0)), (A.v (Value.int .i64 0))], Blk.box [(A.v (Value.int .i64 y2.1.Lo)), (A.v (Value.int .i64 y2.1.Hi))], Blk.box [(A.v (Value.int .i64 y3.1.Lo)), (A.v (Value.int .i64 y3.1.Hi))]]) (by kernel_rfl) ?_
    refine .st (v := (A.v (Value.bool (!y2.2)))) (by kernel_rfl) ?_
    refine .bg (fun t (y : Bool) => ∃ j5 j6 : A, t = [(A.v (Value.bool y)), j5, j6]) ?_ ?_
    · refine .bi ?_ ?_
      · exact .lg ⟨_, _, rfl⟩
      · refine .st (v := (A.v (Value.bool (!y3.2)))) (by kernel_rfl) ?_
        exact .lg ⟨_, _, rfl⟩
    rintro _ y4 ⟨j5, j6, rfl⟩
    iterate 3 refine .uc ?_
    refine .bi ?_ ?_
    · refine .st (v := (A.agg [(A.v (Value.int .i64 0)), (A.v (Value.int .i64 0)), (A.v (Value.int .i64 0)), (A.v (Value.int .i64 0))])) (by kernel_rfl) ?_
      refine .st (v := [Blk.box [(A.v (Value.int .i64 a0.X.Lo)), (A.v (Value.int .i64 a0.X.Hi)), (A.v (Value.int .i64 a0.Y.Lo)), (A.v (Value.int .i64 a0.Y.Hi))], Blk.box [(A.v (Value.int .i64 0)), (A.v (Value.int .i64 0)), (A.v (Value.int .i64 0)), (A.v (Value.int .i64 0))], Blk.box [(A.v (Value.int .i64 y2.1.Lo)), (A.v (Value.int .i64 y2.1.Hi))], Blk.box [(A.v (Value.int .i64 y3.1.Lo)), (A.v (Value.int .i64 y3.1.Hi))]]) (by kernel_rfl) ?_
      refine .st (v := (A.agg [(A.v (Value.int .i64 0)), (A.v (Value.int .i64 0)), (A.v (Value.int .i64 0)), (A.v (Value.int .i64 0))])) (by kernel_rfl) ?_
      exact .lf rfl rfl ⟨_, rfl, rfl⟩
    · refine .st (v := (A.agg [(A.v (Value.int .i64 y2.1.Lo)), (A.v (Value.int .i64 y2.1.Hi))])) (by kernel_rfl) ?_
      refine .st (v := (A.agg [(A.v (Value.int .i64 y3.1.Lo)), (A.v (Value.int .i64 y3.1.Hi))])) (by kernel_rfl) ?_
      refine .st (v := (A.agg [(A.v (Value.int .i64 y2.1.Lo)), (A.v (Value.int .i64 y2.1.Hi)), (A.v (Value.int .i64 y3.1.Lo)), (A.v (Value.int .i64 y3.1.Hi))])) (by kernel_rfl) ?_
      refine .st (v := [Blk.box [(A.v (Value.int .i64 a0.X.Lo)), (A.v (Value.int .i64 a0.X.Hi)), (A.v (Value.int .i64 a0.Y.Lo)), (A.v (Value.int .i64 a0.Y.Hi))], Blk.box [(A.v (Value.int .i64 y2.1.Lo)), (A.v (Value.int .i64 y2.1.Hi)), (A.v (Value.int .i64 y3.1.Lo)), (A.v (Value.int .i64 y3.1.Hi))], Blk.box [(A.v (Value.int .i64 y2.1.Lo)), (A.v (Value.int .i64 y2.1.Hi))], Blk.box [(A.v (Value.int .i64 y3.1.Lo)), (A.v (Value.int .i64 y3.1.Hi))]]) (by kernel_rfl) ?_
      refine .st (v := (A.agg [(A.v (Value.int .i64 y2.1.Lo)), (A.v (Value.int .i64 y2.1.Hi)), (A.v (Value.int .i64 y3.1.Lo)), (A.v (Value.int .i64 y3.1.Hi))])) (by kernel_rfl) ?_
      exact .lf rfl rfl ⟨_, rfl, rfl⟩

def G28 (a0 : S_Box) (a1 : Int) (a2 : Int) : Option (S_Box × Int) := F28 fuel0 a0 a1 a2

def Orc28 (C : Nat → List A → Option A) : Prop := ∀ (a0 : S_Box) (a1 : Int) (a2 : Int), C 28 [(A.agg [(A.v (Value.int .i64 a0.X.Lo)), (A.v (Value.int .i64 a0.X.Hi)), (A.v (Value.int .i64 a0.Y.Lo)), (A.v (Value.int .i64 a0.Y.Hi))]), (A.v (Value.int .i64 a1)), (A.v (Value.int .i64 a2))] = (G28 a0 a1 a2).map fun y => (A.tup [(A.agg [(A.v (Value.int .i64 y.1.X.Lo)), (A.v (Value.int .i64 y.1.X.Hi)), (A.v (Value.int .i64 y.1.Y.Lo)), (A.v (Value.int .i64 y.1.Y.Hi))]), (A.v (Value.int .i64 y.2))])

def F30 (n : Nat) (a0 : Int) (a1 : Int) (a2 : Int) (a3 : Int) : Option S_Box :=
  some ((S_Box.mk ((S_Range.mk a0 a1)) ((S_Range.mk a2 a3))))

theorem T30 (C : Nat → List A → Option A) (n : Nat) (a0 : Int) (a1 : Int) (a2 : Int) (a3 : Int) : J (fun (o : R) y => ∃ v, o.1 = .ret v ∧ snap o.2 v = (A.agg [(A.v (Value.int .i64 y.X.Lo)), (A.v (Value.int .i64 y.X.Hi)), (A.v (Value.int .i64 y.Y.Lo)), (A.v (Value.int .i64 y.Y.Hi))])) (evCall1 (cx C) (evCall (cx C) (n+4)) (n+4) 30 [(A.v (Value.int .i64 a0)), (A.v (Value.int .i64 a1)), (A.v (Value.int .i64 a2)), (A.v (Value.int .i64 a3))] [] 0) some (F30 n a0 a1 a2 a3) some := by
  refine .lp (e30 ..) ?_
  unfold F30
  refine .st (v := ((A.ptr 0 0), [Blk.box [(A.v (Value.int .i64 0)), (A.v (Value.int .i64 0)), (A.v (Value.int .i64 0)), (A.v (Value.int .i64 0))]])) (by kernel_rfl) ?_
  refine .st (v := (A.agg [(A.v (Value.int .i64 a0)), (A.v (Value.int .i64 a1))])) (by kernel_rfl) ?_
  refine .st (v := (A.agg [(A.v (Value.int .i64 a2)), (A.v (Value.int .i64 a3))])) (by kernel_rfl) ?_
  refine .st (v := (A.agg [(A.v (Value.int .i64 a0)), (A.v (Value.int .i64 a1)), (A.v (Value.int .i64 a2)), (A.v (Value.int .i64 a3))])) (by kernel_rfl) ?_
  refine .st (v := [Blk.box [(A.v (Value.int .i64 a0)), (A.v (Value.int .i64 a1)), (A.v (Value.int .i64 a2)), (A.v (Value.int .i64 a3))]]) (by kernel_rfl) ?_
  refine .st (v := (A.agg [(A.v (Value.int .i64 a0)), (A.v (Value.int .i64 a1)), (A.v (Value.int .i64 a2)), (A.v (Value.int .i64 a3))])) (by kernel_rfl) ?_
  exact .lf rfl rfl ⟨_, rfl, rfl⟩

def G30 (a0 : Int) (a1 : Int) (a2 : Int) (a3 : Int) : Option S_Box := F30 fuel0 a0 a1 a2 a3

def Orc30 (C : Nat → List A → Option A) : Prop := ∀ (a0 : Int) (a1 : Int) (a2 : Int) (a3 : Int), C 30 [(A.v (Value.int .i64 a0)), (A.v (Value.int .i64 a1)), (A.v (Value.int .i64 a2)), (A.v (Value.int .i64 a3))] = (G30 a0 a1 a2 a3).map fun y => (A.agg [(A.v (Value.int .i64 y.X.Lo)), (A.v (Value.int .i64 y.X.Hi)), (A.v (Value.int .i64 y.Y.Lo)), (A.v (Value.int .i64 y.Y.Hi))])

def F29 (n : Nat) (a0 : Int) (a1 : Int) : Option (S_Vec × Bool) :=
  Option.bind (G11 a0 a1) fun y1 => some ((y1.1, y1.2 == 0))

theorem T29 (C : Nat → List A → Option A) (n : Nat) (h11 : Orc11 C) (a0 : Int) (a1 : Int) : J (fun (o : R) y => ∃ v, o.1 = .ret v ∧ snap o.2 v = (A.tup [(A.agg [(A.v (Value.int .i64 y.1.X)), (A.v (Value.int .i64 y.1.Y)), (A.v (Value.int .i64 y.1.Z))]), (A.v (Value.bool y.2))])) (evCall1 (cx C) (evCall (cx C) (n+4)) (n+4) 29 [(A.v (Value.int .i64 a0)), (A.v (Value.int .i64 a1))] [] 0) some (F29 n a0 a1) some := by
  refine .lp (e29 ..) ?_
  unfold F29
  refine .st (v := ((A.ptr 0 0), [Blk.box [(A.v (Value.int .i64 0)), (A.v (Value.int .i64 0)), (A.v (Value.int .i64 0))]])) (by kernel_rfl) ?_
  refine .bd (g := fun (y : (S_Vec × Int)) => (A.tup [(A.agg [(A.v (Value.int .i64 y.1.X)), (A.v (Value.int .i64 y.1.Y)), (A.v (Value.int .i64 y.1.Z))]), (A.v (Value.int .i64 y.2))])) (h11 a0 a1) fun y1 => ?_
  refine .st (v := (A.agg [(A.v (Value.int .i64 y1.1.X)), (A.v (Value.int .i64 y1.1.Y)), (A.v (Value.int .i64 y1.1.Z))])) (by kernel_rfl) ?_
  refine .st (v := (A.v (Value.int .i64 y1.2))) (by kernel_rfl) ?_
  refine .st (v := [Blk.box [(A.v (Value.int .i64 y1.1.X)), (A.v (Value.int .i64 y1.1.Y)), (A.v (Value.int .i64 y1.1.Z))]]) (by kernel_rfl) ?_
  refine .st (v := (A.agg [(A.v (Value.int .i64 y1.1.X)), (A.v (Value.int .i64 y1.1.Y)), (A.v (Value.int .i64 y1.1.Z))])) (by kernel_rfl) ?_
  refine .st (v := (A.v (Value.bool (y1.2 == 0)))) (aBin_eql ..) ?_
  refine .st (v := [Blk.box [(A.v (Value.int .i64 y1.1.X)), (A.v (Value.int .i64 y1.1.Y)), (A.v (Value.int .i64 y1.1.Z))]]) (by kernel_rfl) ?_
  refine .st (v := (A.agg [(A.v (Value.int .i64 y1.1.X)), (A.v (Value.int .i64 y1.1.Y)), (A.v (Value.int .i64 y1.1.Z))])) (by kernel_rfl) ?_
  exact .lf rfl rfl ⟨_, rfl, rfl⟩

def G29 (a0 : Int) (a1 : Int) : Option (S_Vec × Bool) := F29 fuel0 a0 a1

def Orc29 (C : Nat → List A → Option A) : Prop := ∀ (a0 : Int) (a1 : Int), C 29 [(A.v (Value.int .i64 a0)), (A.v (Value.int .i64 a1))] = (G29 a0 a1).map fun y => (A.tup [(A.agg [(A.v (Value.int .i64 y.1.X)), (A.v (Value.int .i64 y.1.Y)), (A.v (Value.int .i64 y.1.Z))]), (A.v (Value.bool y.2))])

def F10 (n : Nat)  : Option Bool :=
  Option.bind (G11 3 3) fun y1 => Option.bind (G11 0 1) fun y2 => Option.bind (G11 9 1) fun y3 => Option.bind (G13 0) fun y4 => Option.bind (bif (y1.2 != 0) then (some true) else (some (y2.2 != 0))) fun y5 => Option.bind (bif y5 then (some true) else (some (y3.2 != 150))) fun y8 => Option.bind (bif y8 then (some true) else (some (y4.2.2 != 150))) fun y11 => Option.bind (bif y11 then (some true) else (some (!((y1.1.X == 580) && ((y1.1.Y == 0) && (y1.1.Z == 609)))))) fun y14 => Option.bind (bif y14 then (some true) else (some (!((y2.1.X == 0) && ((y2.1.Y == 0) && (y2.1.Z == (-841))))))) fun y18 => bif y18 then (some false) else (Option.bind (G15 8 3) fun y22 => Option.bind (G17 3) fun y23 => Option.bind (G15 5 8) fun y24 => Option.bind (G13 2) fun y25 => Option.bind (G19 ((S_Vec.mk 0 841 0)) ((S_Vec.mk 580 609 0))) fun y26 => Option.bind (bif (y22.2 != 0) then (some true) else (some (y23.2 != 0))) fun y27 => Option.bind (bif y27 then (some true) else (some (y24.2 != 150))) fun y30 => Option.bind (bif y30 then (some true) else (some (y25.2.2 != 0))) fun y33 => Option.bind (bif y33 then (some true) else (some (y26.2 != 0))) fun y36 => Option.bind (bif y36 then (some true) else (some (y22.1 != 3))) fun y39 => Option.bind (bif y39 then (some true) else (some (y23.1 != 7))) fun y42 => Option.bind (bif y42 then (some true) else (some (y25.1 != 20))) fun y45 => Option.bind (bif y45 then (some true) else (some (y25.2.1 != 21))) fun y48 => Option.bind (bif y48 then (some true) else (some (y26.1 != 512169))) fun y51 => bif y51 then (some false) else (Option.bind (G30 0 1 0 1) fun y54 => Option.bind (G30 5 6 (-2) (-2)) fun y55 => Option.bind (G21 y54 y55) fun y56 => Option.bind (G30 0 1 0 1) fun y57 => Option.bind (G30 1 2 1 2) fun y58 => Option.bind (G23 y57 y58) fun y59 => Option.bind (G30 0 1 0 1) fun y60 => Option.bind (G30 2 3 0 1) fun y61 => Option.bind (G23 y60 y61) fun y62 => Option.bind (G30 0 1 0 1) fun y63 => Option.bind (G30 0 1 (-1) 2) fun y64 => Option.bind (G25 y63 y64) fun y65 => Option.bind (G30 0 1 0 1) fun y66 => Option.bind (G27 y66 (-3) 4) fun y67 => Option.bind (G30 1 0 0 0) fun y68 => Option.bind (G21 ((S_Box.mk ((S_Range.mk 0 0)) ((S_Range.mk 0 0)))) y68) fun y69 => Option.bind (bif (y56.2 != 0) then (some true) else (some (y59.2 != 0))) fun y70 => Option.bind (bif y70 then (some true) else (some (y62.2 != 0))) fun y73 => Option.bind (bif y73 then (some true) else (some (y65.2 != 0))) fun y76 => Option.bind (bif y76 then (some true) else (some (y67.2 != 0))) fun y79 => Option.bind (bif y79 then (some true) else (some (y69.2 != 150))) fun y82 => Option.bind (bif y82 then (some true) else (some y59.1)) fun y85 => Option.bind (bif y85 then (some true) else (some (!y62.1))) fun y87 => Option.bind (bif y87 then (some true) else (some (!y65.1))) fun y90 => bif y90 then (some false) else (Option.bind (G30 0 6 (-2) 1) fun y93 => bif ((((y56.1.X.Lo == y93.X.Lo) && (y56.1.X.Hi == y93.X.Hi)) && ((y56.1.Y.Lo == y93.Y.Lo) && (y56.1.Y.Hi == y93.Y.Hi)))) then (Option.bind (G30 (-3) (-2) 4 5) fun y95 => Option.bind (some ((((y67.1.X.Lo == y95.X.Lo) && (y67.1.X.Hi == y95.X.Hi)) && ((y67.1.Y.Lo == y95.Y.Lo) && (y67.1.Y.Hi == y95.Y.Hi))))) fun y96 => some y96) else (Option.bind (some false) fun y98 => some y98))))

theorem T10 (C : Nat → List A → Option A) (n : Nat) (h11 : Orc11 C) (h13 : Orc13 C) (h15 : Orc15 C) (h17 : Orc17 C) (h19 : Orc19 C) (h21 : Orc21 C) (h23 : Orc23 C) (h25 : Orc25 C) (h27 : Orc27 C) (h30 : Orc30 C) : J (fun (o : R) y => ∃ v, o.1 = .ret v ∧ snap o.2 v = (A.v (Value.bool y))) (evCall1 (cx C) (evCall (cx C) (n+4)) (n+4) 10 [] [] 0) some (F10 n ) some := by
  refine .lp (e10 ..) ?_
  unfold F10
  refine .bd (g := fun (y : (S_Vec × Int)) => (A.tup [(A.agg [(A.v (Value.int .i64 y.1.X)), (A.v (Value.int .i64 y.1.Y)), (A.v (Value.int .i64 y.1.Z))]), (A.v (Value.int .i64 y.2))])) (h11 3 3) fun y1 => ?_
  refine .st (v := (A.agg [(A.v (Value.int .i64 y1.1.X)), (A.v (Value.int .i64 y1.1.Y)), (A.v (Value.int .i64 y1.1.Z))])) (by kernel_rfl) ?_
  refine .st (v := (A.v (Value.int .i64 y1.2))) (by kernel_rfl) ?_
  refine .st (v := ((A.ptr 0 0), [Blk.box [(A.v (Value.int .i64 0)), (A.v (Value.int .i64 0)), (A.v (Value.int .i64 0))]])) (by kernel_rfl) ?_
  refine .st (v := [Blk.box [(A.v (Value.int .i64 y1.1.X)), (A.v (Value.int .i64 y1.1.Y)), (A.v (Value.int .i64 y1.1.Z))]]) (by kernel_rfl) ?_
  refine .bd (g := fun (y : (S_Vec × Int)) => (A.tup [(A.agg [(A.v (Value.int .i64 y.1.X)), (A.v (Value.int .i64 y.1.Y)), (A.v (Value.int .i64 y.1.Z))]), (A.v (Value.int .i64 y.2))])) (h11 0 1) fun y2 => ?_
  refine .st (v := (A.agg [(A.v (Value.int .i64 y2.1.X)), (A.v (Value.int .i64 y2.1.Y)), (A.v (Value.int .i64 y2.1.Z))])) (by kernel_rfl) ?_
  refine .st (v := (A.v (Value.int .i64 y2.2))) (by kernel_rfl) ?_
  refine .st (v := ((A.ptr 1 0), [Blk.box [(A.v (Value.int .i64 y1.1.X)), (A.v (Value.int .i64 y1.1.Y)), (A.v (Value.int .i64 y1.1.Z))], Blk.box [(A.v (Value.int .i64 0)), (A.v (Value.int .i64 0)), (A.v (Value.int .i64 0))]])) (by kernel_rfl) ?_
  refine .st (v := [Blk.box [(A.v (Value.int .i64 y1.1.X)), (A.v (Value.int .i64 y1.1.Y)), (A.v (Value.int .i64 y1.1.Z))], Blk.box [(A.v (Value.int .i64 y2.1.X)), (A.v (Value.int .i64 y2.1.Y)), (A.v (Value.int .i64 y2.1.Z))]]) (by kernel_rfl) ?_
  refine .bd (g := fun (y : (S_Vec × Int)) => (A.tup [(A.agg [(A.v (Value.int .i64 y.1.X)), (A.v (Value.int .i64 y.1.Y)), (A.v (Value.int .i64 y.1.Z))]), (A.v (Value.int .i64 y.2))])) (h11 9 1) fun y3 => ?_
  refine .st (v := (A.agg [(A.v (Value.int .i64 y3.1.X)), (A.v (Value.int .i64 y3.1.Y)), (A.v (Value.int .i64 y3.1.Z))])) (by kernel_rfl) ?_
  refine .st (v := (A.v (Value.int .i64 y3.2))) (by kernel_rfl) ?_
  refine .st (v := ((A.ptr 2 0), [Blk.box [(A.v (Value.int .i64 y1.1.X)), (A.v (Value.int .i64 y1.1.Y)), (A.v (Value.int .i64 y1.1.Z))], Blk.box [(A.v (Value.int .i64 y2.1.X)), (A.v (Value.int .i64 y2.1.Y)), (A.v (Value.int .i64 y2.1.Z))], Blk.box [(A.v (Value.int .i64 0)), (A.v (Value.int .i64 0)), (A.v (Value.int .i64 0))]])) (by kernel_rfl) ?_
  refine .st (v := [Blk.box [(A.v (Value.int .i64 y1.1.X)), (A.v (Value.int .i64 y1.1.Y)), (A.v (Value.int .i64 y1.1.Z))], Blk.box [(A.v (Value.int .i64 y2.1.X)), (A.v (Value.int .i64 y2.1.Y)), (A.v (Value.int .i64 y2.1.Z))], Blk.box [(A.v (Value.int .i64 y3.1.X)), (A.v (Value.int .i64 y3.1.Y)), (A.v (Value.int .i64 y3.1.Z))]]) (by kernel_rfl) ?_
  refine .bd (g := fun (y : (Int × Int × Int)) => (A.tup [(A.v (Value.int .i64 y.1)), (A.v (Value.int .i64 y.2.1)), (A.v (Value.int .i64 y.2.2))])) (h13 0) fun y4 => ?_
  refine .st (v := (A.v (Value.int .i64 y4.1))) (by kernel_rfl) ?_
  refine .st (v := (A.v (Value.int .i64 y4.2.1))) (by kernel_rfl) ?_
  refine .st (v := (A.v (Value.int .i64 y4.2.2))) (by kernel_rfl) ?_
  refine .st (v := (A.v (Value.bool (y1.2 != 0)))) (aBin_neq ..) ?_
  refine .bg (fun t (y : Bool) => ∃ j6 j7 : A, t = [(A.v (Value.bool y)), j6, j7]) ?_ ?_
  · refine .bi ?_ ?_
    · exact .lg ⟨_, _, rfl⟩
    · refine .st (v := (A.v (Value.bool (y2.2 != 0)))) (aBin_neq ..) ?_
      exact .lg ⟨_, _, rfl⟩
  rintro _ y5 ⟨j6, j7, rfl⟩
  iterate 3 refine .uc ?_
  refine .bg (fun t (y : Bool) => ∃ j9 j10 : A, t = [(A.v (Value.bool y)), j9, j10]) ?_ ?_
  · refine .bi ?_ ?_
    · exact .lg ⟨_, _, rfl⟩
    · refine .st (v := (A.v (Value.bool (y3.2 != 150)))) (aBin_neq ..) ?_
      exact .lg ⟨_, _, rfl⟩
  rintro _ y8 ⟨j9, j10, rfl⟩
  iterate 3 refine .uc ?_
  refine .bg (fun t (y : Bool) => ∃ j12 j13 : A, t = [(A.v (Value.bool y)), j12, j13]) ?_ ?_
  · refine .bi ?_ ?_
    · exact .lg ⟨_, _, rfl⟩
    · refine .st (v := (A.v (Value.bool (y4.2.2 != 150)))) (aBin_neq ..) ?_
      exact .lg ⟨_, _, rfl⟩
  rintro _ y11 ⟨j12, j13, rfl⟩
  iterate 3 refine .uc ?_
  refine .bg (fun t (y : Bool) => ∃ j15 j16 j17 : A, t = [(A.v (Value.bool y)), j15, j16, j17]) ?_ ?_
  · refine .bi ?_ ?_
    · exact .lg ⟨_, _, _, rfl⟩
    · refine .st (v := (A.agg [(A.v (Value.int .i64 y1.1.X)), (A.v (Value.int .i64 y1.1.Y)), (A.v (Value.int .i64 y1.1.Z))])) (by kernel_rfl) ?_
      refine .st (v := (A.agg [(A.v (Value.int .i64 580)), (A.v (Value.int .i64 0)), (A.v (Value.int .i64 609))])) (by kernel_rfl) ?_
      refine .st (v := (A.v (Value.bool (!((y1.1.X == 580) && ((y1.1.Y == 0) && (y1.1.Z == 609))))))) (by kernel_rfl) ?_
      exact .lg ⟨_, _, _, rfl⟩
  rintro _ y14 ⟨j15, j16, j17, rfl⟩
  iterate 4 refine .uc ?_
  refine .bg (fun t (y : Bool) => ∃ j19 j20 j21 : A, t = [(A.v (Value.bool y)), j19, j20, j21]) ?_ ?_
  · refine .bi ?_ ?_
    · exact .lg ⟨_, _, _, rfl⟩
    · refine .st (v := (A.agg [(A.v (Value.int .i64 y2.1.X)), (A.v (Value.int .i64 y2.1.Y)), (A.v (Value.int .i64 y2.1.Z))])) (by kernel_rfl) ?_
      refine .st (v := (A.agg [(A.v (Value.int .i64 0)), (A.v (Value.int .i64 0)), (A.v (Value.int .i64 (-841)))])) (by kernel_rfl) ?_
      refine .st (v := (A.v (Value.bool (!((y2.1.X == 0) && ((y2.1.Y == 0) && (y2.1.Z == (-841)))))))) (by kernel_rfl) ?_
      exact .lg ⟨_, _, _, rfl⟩
  rintro _ y18 ⟨j19, j20, j21, rfl⟩
  iterate 4 refine .uc ?_
  refine .bi ?_ ?_
  · exact .lf rfl rfl ⟨_, rfl, rfl⟩
  · refine .bd (g := fun (y : (Int × Int)) => (A.tup [(A.v (Value.int .i64 y.1)), (A.v (Value.int .i64 y.2))])) (h15 8 3) fun y22 => ?_
    refine .st (v := (A.v (Value.int .i64 y22.1))) (by kernel_rfl) ?_
    refine .st (v := (A.v (Value.int .i64 y22.2))) (by kernel_rfl) ?_
    refine .bd (g := fun (y : (Int × Int)) => (A.tup [(A.v (Value.int .i64 y.1)), (A.v (Value.int .i64 y.2))])) (h17 3) fun y23 => ?_
    refine .st (v := (A.v (Value.int .i64 y23.1))) (by kernel_rfl) ?_
    refine .st (v := (A.v (Value.int .i64 y23.2))) (by kernel_rfl) ?_
    refine .bd (g := fun (y : (Int × Int)) => (A.tup [(A.v (Value.int .i64 y.1)), (A.v (Value.int .i64 y.2))])) (h15 5 8) fun y24 => ?_
    refine .st (v := (A.v (Value.int .i64 y24.1))) (by kernel_rfl) ?_
    refine .st (v := (A.v (Value.int .i64 y24.2))) (by kernel_rfl) ?_
    refine .bd (g := fun (y : (Int × Int × Int)) => (A.tup [(A.v (Value.int .i64 y.1)), (A.v (Value.int .i64 y.2.1)), (A.v (Value.int .i64 y.2.2))])) (h13 2) fun y25 => ?_
    refine .st (v := (A.v (Value.int .i64 y25.1))) (by kernel_rfl) ?_
    refine .st (v := (A.v (Value.int .i64 y25.2.1))) (by kernel_rfl) ?_
    refine .st (v := (A.v (Value.int .i64 y25.2.2))) (by kernel_rfl) ?_
    refine .st (v := (A.agg [(A.v (Value.int .i64 0)), (A.v (Value.int .i64 841)), (A.v (Value.int .i64 0))])) (by kernel_rfl) ?_
    refine .st (v := (A.agg [(A.v (Value.int .i64 580)), (A.v (Value.int .i64 609)), (A.v (Value.int .i64 0))])) (by kernel_rfl) ?_
    refine .bd (g := fun (y : (Int × Int)) => (A.tup [(A.v (Value.int .i64 y.1)), (A.v (Value.int .i64 y.2))])) (h19 ((S_Vec.mk 0 841 0)) ((S_Vec.mk 580 609 0))) fun y26 => ?_
    refine .st (v := (A.v (Value.int .i64 y26.1))) (by kernel_rfl) ?_
    refine .st (v := (A.v (Value.int .i64 y26.2))) (by kernel_rfl) ?_
    refine .st (v := (A.v (Value.bool (y22.2 != 0)))) (aBin_neq ..) ?_
    refine .bg (fun t (y : Bool) => ∃ j28 j29 : A, t = [(A.v (Value.bool y)), j28, j29]) ?_ ?_
    · refine .bi ?_ ?_
      · exact .lg ⟨_, _, rfl⟩
      · refine .st (v := (A.v (Value.bool (y23.2 != 0)))) (aBin_neq ..) ?_
        exact .lg ⟨_, _, rfl⟩
    rintro _ y27 ⟨j28, j29, rfl⟩
    iterate 3 refine .uc ?_
    refine .bg (fun t (y : Bool) => ∃ j31 j32 : A, t = [(A.v (Value.bool y)), j31, j32]) ?_ ?_
    · refine .bi ?_ ?_
      · exact .lg ⟨_, _, rfl⟩
      · refine .st (v := (A.v (Value.bool (y24.2 != 150)))) (aBin_neq ..) ?_
        exact .lg ⟨_, _, rfl⟩
    rintro _ y30 ⟨j31, j32, rfl⟩
    iterate 3 refine .uc ?_
    refine .bg (fun t (y : Bool) => ∃ j34 j35 : A, t = [(A.v (Value.bool y)), j34, j35]) ?_ ?_
    · refine .bi ?_ ?_
      · exact .lg ⟨_, _, rfl⟩
      · refine .st (v := (A.v (Value.bool (y25.2.2 != 0)))) (aBin_neq ..) ?_
        exact .lg ⟨_, _, rfl⟩
    rintro _ y33 ⟨j34, j35, rfl⟩
    iterate 3 refine .uc ?_
    refine .bg (fun t (y : Bool) => ∃ j37 j38 : A, t = [(A.v (Value.bool y)), j37, j38]) ?_ ?_
    · refine .bi ?_ ?_
      · exact .lg ⟨_, _, rfl⟩
      · refine .st (v := (A.v (Value.bool (y26.2 != 0)))) (aBin_neq ..) ?_
        exact .lg ⟨_, _, rfl⟩
    rintro _ y36 ⟨j37, j38, rfl⟩
    iterate 3 refine .uc ?_
    refine .bg (fun t (y : Bool) => ∃ j40 j41 : A, t = [(A.v (Value.bool y)), j40, j41]) ?_ ?_
    · refine .bi ?_ ?_
      · exact .lg ⟨_, _, rfl⟩
      · refine .st (v := (A.v (Value.bool (y22.1 != 3)))) (aBin_neq ..) ?_
        exact .lg ⟨_, _, rfl⟩
    rintro _ y39 ⟨j40, j41, rfl⟩
    iterate 3 refine .uc ?_
    refine .bg (fun t (y : Bool) => ∃ j43 j44 : A, t = [(A.v (Value.bool y)), j43, j44]) ?_ ?_
    · refine .bi ?_ ?_
      · exact .lg ⟨_, _, rfl⟩
      · refine .st (v := (A.v (Value.bool (y23.1 != 7)))) (aBin_neq ..) ?_
        exact .lg ⟨_, _, rfl⟩
    rintro _ y42 ⟨j43, j44, rfl⟩
    iterate 3 refine .uc ?_
    refine .bg (fun t (y : Bool) => ∃ j46 j47 : A, t = [(A.v (Value.bool y)), j46, j47]) ?_ ?_
    · refine .bi ?_ ?_
      · exact .lg ⟨_, _, rfl⟩
      · refine .st (v := (A.v (Value.bool (y25.1 != 20)))) (aBin_neq ..) ?_
        exact .lg ⟨_, _, rfl⟩
    rintro _ y45 ⟨j46, j47, rfl⟩
    iterate 3 refine .uc ?_
    refine .bg (fun t (y : Bool) => ∃ j49 j50 : A, t = [(A.v (Value.bool y)), j49, j50]) ?_ ?_
    · refine .bi ?_ ?_
      · exact .lg ⟨_, _, rfl⟩
      · refine .st (v := (A.v (Value.bool (y25.2.1 != 21)))) (aBin_neq ..) ?_
        exact .lg ⟨_, _, rfl⟩
    rintro _ y48 ⟨j49, j50, rfl⟩
    iterate 3 refine .uc ?_
    refine .bg (fun t (y : Bool) => ∃ j52 j53 : A, t = [(A.v (Value.bool y)), j52, j53]) ?_ ?_
    · refine .bi ?_ ?_
      · exact .lg ⟨_, _, rfl⟩
      · refine .st (v := (A.v (Value.bool (y26.1 != 512169)))) (aBin_neq ..) ?_
        exact .lg ⟨_, _, rfl⟩
    rintro _ y51 ⟨j52, j53, rfl⟩
    iterate 3 refine .uc ?_
    refine .bi ?_ ?_
    · exact .lf rfl rfl ⟨_, rfl, rfl⟩
    · refine .bd (g := fun (y : S_Box) => (A.agg [(A.v (Value.int .i64 y.X.Lo)), (A.v (Value.int .i64 y.X.Hi)), (A.v (Value.int .i64 y.Y.Lo)), (A.v (Value.int .i64 y.Y.Hi))])) (h30 0 1 0 1) fun y54 => ?_
      refine .bd (g := fun (y : S_Box) => (A.agg [(A.v (Value.int .i64 y.X.Lo)), (A.v (Value.int .i64 y.X.Hi)), (A.v (Value.int .i64 y.Y.Lo)), (A.v (Value.int .i64 y.Y.Hi))])) (h30 5 6 (-2) (-2)) fun y55 => ?_
      refine .bd (g := fun (y : (S_Box × Int)) => (A.tup [(A.agg [(A.v (Value.int .i64 y.1.X.Lo)), (A.v (Value.int .i64 y.1.X.Hi)), (A.v (Value.int .i64 y.1.Y.Lo)), (A.v (Value.int .i64 y.1.Y.Hi))]), (A.v (Value.int .i64 y.2))])) (h21 y54 y55) fun y56 => ?_
      refine .st (v := (A.agg [(A.v (Value.int .i64 y56.1.X.Lo)), (A.v (Value.int .i64 y56.1.X.Hi)), (A.v (Value.int .i64 y56.1.Y.Lo)), (A.v (Value.int .i64 y56.1.Y.Hi))])) (by kernel_rfl) ?_
      refine .st (v := (A.v (Value.int .i64 y56.2))) (by kernel_rfl) ?_
      refine .st (v := ((A.ptr 3 0), [Blk.box [(A.v (Value.int .i64 y1.1.X)), (A.v (Value.int .i64 y1.1.Y)), (A.v (Value.int .i64 y1.1.Z))], Blk.box [(A.v (Value.int .i64 y2.1.X)), (A.v (Value.int .i64 y2.1.Y)), (A.v (Value.int .i64 y2.1.Z))], Blk.box [(A.v (Value.int .i64 y3.1.X)), (A.v (Value.int .i64 y3.1.Y)), (A.v (Value.int .i64 y3.1.Z))], Blk.box [(A.v (Value.int .i64 0)), (A.v (Value.int .i64 0)), (A.v (Value.int .i64 0)), (A.v (Value.int .i64 0))]])) (by kernel_rfl) ?_
      refine .st (v := [Blk.box [(A.v (Value.int .i64 y1.1.X)), (A.v (Value.int .i64 y1.1.Y)), (A.v (Value.int .i64 y1.1.Z))], Blk.box [(A.v (Value.int .i64 y2.1.X)), (A.v (Value.int .i64 y2.1.Y)), (A.v (Value.int .i64 y2.1.Z))], Blk.box [(A.v (Value.int .i64 y3.1.X)), (A.v (Value.int .i64 y3.1.Y)), (A.v (Value.int .i64 y3.1.Z))], Blk.box [(A.v (Value.int .i64 y56.1.X.Lo)), (A.v (Value.int .i64 y56.1.X.Hi)), (A.v (Value.int .i64 y56.1.Y.Lo)), (A.v (Value.int .i64 y56.1.Y.Hi))]]) (by kernel_rfl) ?_
      refine .bd (g := fun (y : S_Box) => (A.agg [(A.v (Value.int .i64 y.X.Lo)), (A.v (Value.int .i64 y.X.Hi)), (A.v (Value.int .i64 y.Y.Lo)), (A.v (Value.int .i64 y.Y.Hi))])) (h30 0 1 0 1) fun y57 => ?_
      refine .bd (g := fun (y : S_Box) => (A.agg [(A.v (Value.int .i64 y.X.Lo)), (A.v (Value.int .i64 y.X.Hi)), (A.v (Value.int .i64 y.Y.Lo)), (A.v (Value.int .i64 y.Y.Hi))])) (h30 1 2 1 2) fun y58 => ?_
      refine .bd (g := fun (y : (Bool × Int)) => (A.tup [(A.v (Value.bool y.1)), (A.v (Value.int .i64 y.2))])) (h23 y57 y58) fun y59 => ?_
      refine .st (v := (A.v (Value.bool y59.1))) (by kernel_rfl) ?_
      refine .st (v := (A.v (Value.int .i64 y59.2))) (by kernel_rfl) ?_
      refine .bd (g := fun (y : S_Box) => (A.agg [(A.v (Value.int .i64 y.X.Lo)), (A.v (Value.int .i64 y.X.Hi)), (A.v (Value.int .i64 y.Y.Lo)), (A.v (Value.int .i64 y.Y.Hi))])) (h30 0 1 0 1) fun y60 => ?_
      refine .bd (g := fun (y : S_Box) => (A.agg [(A.v (Value.int .i64 y.X.Lo)), (A.v (Value.int .i64 y.X.Hi)), (A.v (Value.int .i64 y.Y.Lo)), (A.v (Value.int .i64 y.Y.Hi))])) (h30 2 3 0 1) fun y61 => ?_
      refine .bd (g := fun (y : (Bool × Int)) => (A.tup [(A.v (Value.bool y.1)), (A.v (Value.int .i64 y.2))])) (h23 y60 y61) fun y62 => ?_
      refine .st (v := (A.v (Value.bool y62.1))) (by kernel_rfl) ?_
      refine .st (v := (A.v (Value.int .i64 y62.2))) (by kernel_rfl) ?_
      refine .bd (g := fun (y : S_Box) => (A.agg [(A.v (Value.int .i64 y.X.Lo)), (A.v (Value.int .i64 y.X.Hi)), (A.v (Value.int .i64 y.Y.Lo)), (A.v (Value.int .i64 y.Y.Hi))])) (h30 0 1 0 1) fun y63 => ?_
      refine .bd (g := fun (y : S_Box) => (A.agg [(A.v (Value.int .i64 y.X.Lo)), (A.v (Value.int .i64 y.X.Hi)), (A.v (Value.int .i64 y.Y.Lo)), (A.v (Value.int .i64 y.Y.Hi))])) (h30 0 1 (-1) 2) fun y64 => ?_
      refine .bd (g := fun (y : (Bool × Int)) => (A.tup [(A.v (Value.bool y.1)), (A.v (Value.int .i64 y.2))])) (h25 y63 y64) fun y65 => ?_
      refine .st (v := (A.v (Value.bool y65.1))) (by kernel_rfl) ?_
      refine .st (v := (A.v (Value.int .i64 y65.2))) (by kernel_rfl) ?_
      refine .bd (g := fun (y : S_Box) => (A.agg [(A.v (Value.int .i64 y.X.Lo)), (A.v (Value.int .i64 y.X.Hi)), (A.v (Value.int .i64 y.Y.Lo)), (A.v (Value.int .i64 y.Y.Hi))])) (h30 0 1 0 1) fun y66 => ?_
      refine .bd (g := fun (y : (S_Box × Int)) => (A.tup [(A.agg [(A.v (Value.int .i64 y.1.X.Lo)), (A.v (Value.int .i64 y.1.X.Hi)), (A.v (Value.int .i64 y.1.Y.Lo)), (A.v (Value.int .i64 y.1.Y.Hi))]), (A.v (Value.int .i64 y.2))])) (h27 y66 (-3) 4) fun y67 => ?_
      refine .st (v := (A.agg [(A.v (Value.int .i64 y67.1.X.Lo)), (A.v (Value.int .i64 y67.1.X.Hi)), (A.v (Value.int .i64 y67.1.Y.Lo)), (A.v (Value.int .i64 y67.1.Y.Hi))])) (by kernel_rfl) ?_
      refine .st (v := (A.v (Value.int .i64 y67.2))) (by kernel_rfl) ?_
      refine .st (v := ((A.ptr 4 0), [Blk.box [(A.v (Value.int .i64 y1.1.X)), (A.v (Value.int .i64 y1.1.Y)), (A.v (Value.int .i64 y1.1.Z))], Blk.box [(A.v (Value.int .i64 y2.1.X)), (A.v (Value.int .i64 y2.1.Y)), (A.v (Value.int .i64 y2.1.Z))], Blk.box [(A.v (Value.int .i64 y3.1.X)), (A.v (Value.int .i64 y3.1.Y)), (A.v (Value.int .i64 y3.1.Z))], Blk.box [(A.v (Value.int .i64 y56.1.X.Lo)), (A.v (Value.int .i64 y56.1.X.Hi)), (A.v (Value.int .i64 y56.1.Y.Lo)), (A.v (Value.int .i64 y56.1.Y.Hi))], Blk.box [(A.v (Value.int .i64 0)), (A.v (Value.int .i64 0)), (A.v (Value.int .i64 0)), (A.v (Value.int .i64 0))]])) (by kernel_rfl) ?_
      refine .st (v := [Blk.box [(A.v (Value.int .i64 y1.1.X)), (A.v (Value.int .i64 y1.1.Y)), (A.v (Value.int .i64 y1.1.Z))], Blk.box [(A.v (Value.int .i64 y2.1.X)), (A.v (Value.int .i64 y2.1.Y)), (A.v (Value.int .i64 y2.1.Z))], Blk.box [(A.v (Value.int .i64 y3.1.X)), (A.v (Value.int .i64 y3.1.Y)), (A.v (Value.int .i64 y3.1.Z))], Blk.box [(A.v (Value.int .i64 y56.1.X.Lo)), (A.v (Value.int .i64 y56.1.X.Hi)), (A.v (Value.int .i64 y56.1.Y.Lo)), (A.v (Value.int .i64 y56.1.Y.Hi))], Blk.box [(A.v (Value.int .i64 y67.1.X.Lo)), (A.v (Value.int .i64 y67.1.X.Hi)), (A.v (Value.int .i64 y67.1.Y.Lo)), (A.v (Value.int .i64 y67.1.Y.Hi))]]) (by kernel_rfl) ?_
      refine .st (v := (A.agg [(A.v (Value.int .i64 0)), (A.v (Value.int .i64 0)), (A.v (Value.int .i64 0)), (A.v (Value.int .i64 0))])) (by kernel_rfl) ?_
      refine .bd (g := fun (y : S_Box) => (A.agg [(A.v (Value.int .i64 y.X.Lo)), (A.v (Value.int .i64 y.X.Hi)), (A.v (Value.int .i64 y.Y.Lo)), (A.v (Value.int .i64 y.Y.Hi))])) (h30 1 0 0 0) fun y68 => ?_
      refine .bd (g := fun (y : (S_Box × Int)) => (A.tup [(A.agg [(A.v (Value.int .i64 y.1.X.Lo)), (A.v (Value.int .i64 y.1.X.Hi)), (A.v (Value.int .i64 y.1.Y.Lo)), (A.v (Value.int .i64 y.1.Y.Hi))]), (A.v (Value.int .i64 y.2))])) (h21 ((S_Box.mk ((S_Range.mk 0 0)) ((S_Range.mk 0 0)))) y68) fun y69 => ?_
      refine .st (v := (A.agg [(A.v (Value.int .i64 y69.1.X.Lo)), (A.v (Value.int .i64 y69.1.X.Hi)), (A.v (Value.int .i64 y69.1.Y.Lo)), (A.v (Value.int .i64 y69.1.Y.Hi))])) (by kernel_rfl) ?_
      refine .st (v := (A.v (Value.int .i64 y69.2))) (by kernel_rfl) ?_
      refine .st (v := ((A.ptr 5 0), [Blk.box [(A.v (Value.int .i64 y1.1.X)), (A.v (Value.int .i64 y1.1.Y)), (A.v (Value.int .i64 y1.1.Z))], Blk.box [(A.v (Value.int .i64 y2.1.X)), (A.v (Value.int .i64 y2.1.Y)), (A.v (Value.int .i64 y2.1.Z))], Blk.box [(A.v (Value.int .i64 y3.1.X)), (A.v (Value.int .i64 y3.1.Y)), (A.v (Value.int .i64 y3.1.Z))], Blk.box [(A.v (Value.int .i64 y56.1.X.Lo)), (A.v (Value.int .i64 y56.1.X.Hi)), (A.v (Value.int .i64 y56.1.Y.Lo)), (A.v (Value.int .i64 y56.1.Y.Hi))], Blk.box [(A.v (Value.int .i64 y67.1.X.Lo)), (A.v (Value.int .i64 y67.1.X.Hi)), (A.v (Value.int .i64 y67.1.Y.Lo)), (A.v (Value.int .i64 y67.1.Y.Hi))], Blk.box [(A.v (Value.int .i64 0)), (A.v (Value.int .i64 0)), (A.v (Value.int .i64 0)), (A.v (Value.int .i64 0))]])) (by kernel_rfl) ?_
      refine .st (v := [Blk.box [(A.v (Value.int .i64 y1.1.X)), (A.v (Value.int .i64 y1.1.Y)), (A.v (Value.int .i64 y1.1.Z))], Blk.box [(A.v (Value.int .i64 y2.1.X)), (A.v (Value.int .i64 y2.1.Y)), (A.v (Value.int .i64 y2.1.Z))], Blk.box [(A.v (Value.int .i64 y3.1.X)), (A.v (Value.int .i64 y3.1.Y)), (A.v (Value.int .i64 y3.1.Z))], Blk.box [(A.v (Value.int .i64 y56.1.X.Lo)), (A.v (Value.int .i64 y56.1.X.Hi)), (A.v (Value.int .i64 y56.1.Y.Lo)), (A.v (Value.int .i64 y56.1.Y.Hi))], Blk.box [(A.v (Value.int .i64 y67.1.X.Lo)), (A.v (Value.int .i64 y67.1.X.Hi)), (A.v (Value.int .i64 y67.1.Y.Lo)), (A.v (Value.int .i64 y67.1.Y.Hi))], Blk.box [(A.v (Value.int .i64 y69.1.X.Lo)), (A.v (Value.int .i64 y69.1.X.Hi)), (A.v (Value.int .i64 y69.1.Y.Lo)), (A.v (Value.int .i64 y69.1.Y.Hi))]]) (by kernel_rfl) ?_
      refine .st (v := (A.v (Value.bool (y56.2 != 0)))) (aBin_neq ..) ?_
      refine .bg (fun t (y : Bool) => ∃ j71 j72 : A, t = [(A.v (Value.bool y)), j71, j72]) ?_ ?_
      · refine .bi ?_ ?_
        · exact .lg ⟨_, _, rfl⟩
        · refine .st (v := (A.v (Value.bool (y59.2 != 0)))) (aBin_neq ..) ?_
          exact .lg ⟨_, _, rfl⟩
      rintro _ y70 ⟨j71, j72, rfl⟩
      iterate 3 refine .uc ?_
      refine .bg (fun t (y : Bool) => ∃ j74 j75 : A, t = [(A.v (Value.bool y)), j74, j75]) ?_ ?_
      · refine .bi ?_ ?_
        · exact .lg ⟨_, _, rfl⟩
        · refine .st (v := (A.v (Value.bool (y62.2 != 0)))) (aBin_neq ..) ?_
          exact .lg ⟨_, _, rfl⟩
      rintro _ y73 ⟨j74, j75, rfl⟩
      iterate 3 refine .uc ?_
      refine .bg (fun t (y : Bool) => ∃ j77 j78 : A, t = [(A.v (Value.bool y)), j77, j78]) ?_ ?_
      · refine .bi ?_ ?_
        · exact .lg ⟨_, _, rfl⟩
        · refine .st (v := (A.v (Value.bool (y65.2 != 0)))) (aBin_neq ..) ?_
          exact .lg ⟨_, _, rfl⟩
      rintro _ y76 ⟨j77, j78, rfl⟩
      iterate 3 refine .uc ?_
      refine .bg (fun t (y : Bool) => ∃ j80 j81 : A, t = [(A.v (Value.bool y)), j80, j81]) ?_ ?_
      · refine .bi ?_ ?_
        · exact .lg ⟨_, _, rfl⟩
        · refine .st (v := (A.v (Value.bool (y67.2 != 0)))) (aBin_neq ..) ?_
          exact .lg ⟨_, _, rfl⟩
      rintro _ y79 ⟨j80, j81, rfl⟩
      iterate 3 refine .uc ?_
      refine .bg (fun t (y : Bool) => ∃ j83 j84 : A, t = [(A.v (Value.bool y)), j83, j84]) ?_ ?_
      · refine .bi ?_ ?_
        · exact .lg ⟨_, _, rfl⟩
        · refine .st (v := (A.v (Value.bool (y69.2 != 150)))) (aBin_neq ..) ?_
          exact .lg ⟨_, _, rfl⟩
      rintro _ y82 ⟨j83, j84, rfl⟩
      iterate 3 refine .uc ?_
      refine .bg (fun t (y : Bool) => ∃ j86 : A, t = [(A.v (Value.bool y)), j86]) ?_ ?_
      · refine .bi ?_ ?_
        · exact .lg ⟨_, rfl⟩
        · exact .lg ⟨_, rfl⟩
      rintro _ y85 ⟨j86, rfl⟩
      iterate 2 refine .uc ?_
      refine .bg (fun t (y : Bool) => ∃ j88 j89 : A, t = [(A.v (Value.bool y)), j88, j89]) ?_ ?_
      · refine .bi ?_ ?_
        · exact .lg ⟨_, _, rfl⟩
        · refine .st (v := (A.v (Value.bool (!y62.1)))) (by kernel_rfl) ?_
          exact .lg ⟨_, _, rfl⟩
      rintro _ y87 ⟨j88, j89, rfl⟩
      iterate 3 refine .uc ?_
      refine .bg (fun t (y : Bool) => ∃ j91 j92 : A, t = [(A.v (Value.bool y)), j91, j92]) ?_ ?_
      · refine .bi ?_ ?_
        · exact .lg ⟨_, _, rfl⟩
        · refine .st (v := (A.v (Value.bool (!y65.1)))) (by kernel_rfl) ?_
          exact .lg ⟨_, _, rfl⟩
      rintro _ y90 ⟨j91, j92, rfl⟩
      iterate 3 refine .uc ?_
      refine .bi ?_ ?_
      · exact .lf rfl rfl ⟨_, rfl, rfl⟩
      · refine .st (v := (A.agg [(A.v (Value.int .i64 y56.1.X.Lo)), (A.v (Value.int .i64 y56.1.X.Hi)), (A.v (Value.int .i64 y56.1.Y.Lo)), (A.v (Value.int .i64 y56.1.Y.Hi))])) (by kernel_rfl) ?_
        refine .bd (g := fun (y : S_Box) => (A.agg [(A.v (Value.int .i64 y.X.Lo)), (A.v (Value.int .i64 y.X.Hi)), (A.v (Value.int .i64 y.Y.Lo)), (A.v (Value.int .i64 y.Y.Hi))])) (h30 0 6 (-2) 1) fun y93 => ?_
        refine .st (v := (A.v (Value.bool ((((y56.1.X.Lo == y93.X.Lo) && (y56.1.X.Hi == y93.X.Hi)) && ((y56.1.Y.Lo == y93.Y.Lo) && (y56.1.Y.Hi == y93.Y.Hi))))))) (by kernel_rfl) ?_
        refine .gst (fun hc94 => ?_) (fun hc94 => ?_)
        · refine .bb ?_
          refine .st (v := (A.agg [(A.v (Value.int .i64 y67.1.X.Lo)), (A.v (Value.int .i64 y67.1.X.Hi)), (A.v (Value.int .i64 y67.1.Y.Lo)), (A.v (Value.int .i64 y67.1.Y.Hi))])) (by kernel_rfl) ?_
          refine .bd (g := fun (y : S_Box) => (A.agg [(A.v (Value.int .i64 y.X.Lo)), (A.v (Value.int .i64 y.X.Hi)), (A.v (Value.int .i64 y.Y.Lo)), (A.v (Value.int .i64 y.Y.Hi))])) (h30 (-3) (-2) 4 5) fun y95 => ?_
          refine .cr ?_
          iterate 2 refine .uc ?_
          refine .bg (fun t (y : Bool) => ∃ j97 : A, t = [(A.v (Value.bool y)), j97]) ?_ ?_
          · refine .bKT hc94 ?_
            refine .st (v := (A.v (Value.bool ((((y67.1.X.Lo == y95.X.Lo) && (y67.1.X.Hi == y95.X.Hi)) && ((y67.1.Y.Lo == y95.Y.Lo) && (y67.1.Y.Hi == y95.Y.Hi))))))) (by kernel_rfl) ?_
            exact .lg ⟨_, rfl⟩
          rintro _ y96 ⟨j97, rfl⟩
          iterate 2 refine .uc ?_
          exact .lf rfl rfl ⟨_, rfl, rfl⟩
        · refine .bb ?_
          refine .cr ?_
          iterate 2 refine .uc ?_
          refine .bg (fun t (y : Bool) => ∃ j99 : A, t = [(A.v (Value.bool y)), j99]) ?_ ?_
          · refine .bKF hc94 ?_
            exact .lg ⟨_, rfl⟩
          rintro _ y98 ⟨j99, rfl⟩
          iterate 2 refine .uc ?_
          exact .lf rfl rfl ⟨_, rfl, rfl⟩

def G10  : Option Bool := F10 fuel0 

def Orc10 (C : Nat → List A → Option A) : Prop := ∀ (_ : Unit), C 10 [] = (G10 ).map fun y => (A.v (Value.bool y))

end Go.Proofs.YtmhnhokhlkppeaaDoor
