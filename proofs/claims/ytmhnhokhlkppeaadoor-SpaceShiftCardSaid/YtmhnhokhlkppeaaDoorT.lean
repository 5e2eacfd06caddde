/-
  The program's functions as plain functions: by a tool; each follows the interpreter.
-/
import Derived.Test.YtmhnhokhlkppeaaDoorT1
import Derived.KernelRfl
namespace Go.Proofs.YtmhnhokhlkppeaaDoor
set_option linter.unusedVariables false
set_option linter.unusedSimpArgs false
set_option maxHeartbeats 4000000
set_option maxRecDepth 100000
def F3 (n : Nat) (a0 : Int) (a1 : Int) : Option Bool :=
  Option.bind (G10 ) fun y1 => bif (!y1) then (some false) else (Option.bind (G11 a0 a1) fun y2 => Option.bind (G12 a0 a1) fun y3 => Option.bind (G13 a0) fun y4 => Option.bind (G14 a0) fun y5 => Option.bind (G15 a0 a1) fun y6 => Option.bind (G16 a0 a1) fun y7 => Option.bind (G17 a0) fun y8 => Option.bind (G18 a0) fun y9 => Option.bind (bif (((y2.1.X == y3.1.X) && ((y2.1.Y == y3.1.Y) && (y2.1.Z == y3.1.Z)))) then (some (y2.2 == y3.2)) else (some false)) fun y10 => Option.bind (bif y10 then (some (y4.1 == y5.1)) else (some false)) fun y14 => Option.bind (bif y14 then (some (y4.2.1 == y5.2.1)) else (some false)) fun y18 => Option.bind (bif y18 then (some (y4.2.2 == y5.2.2)) else (some false)) fun y22 => Option.bind (bif y22 then (some (y6.1 == y7.1)) else (some false)) fun y26 => Option.bind (bif y26 then (some (y6.2 == y7.2)) else (some false)) fun y30 => Option.bind (bif y30 then (some (y8.1 == y9.1)) else (some false)) fun y34 => Option.bind (bif y34 then (some (y8.2 == y9.2)) else (some false)) fun y38 => some y38)

theorem T3 (C : Nat → List A → Option A) (n : Nat) (h10 : Orc10 C) (h11 : Orc11 C) (h12 : Orc12 C) (h13 : Orc13 C) (h14 : Orc14 C) (h15 : Orc15 C) (h16 : Orc16 C) (h17 : Orc17 C) (h18 : Orc18 C) (a0 : Int) (a1 : Int) : J (fun (o : R) y => ∃ v, o.1 = .ret v ∧ snap o.2 v = (A.v (Value.bool y))) (evCall1 (cx C) (evCall (cx C) (n+4)) (n+4) 3 [(A.v (Value.int .i64 a0)), (A.v (Value.int .i64 a1))] [] 0) some (F3 n a0 a1) some := by
  refine .lp (e3 ..) ?_
  unfold F3
  refine .bd (g := fun (y : Bool) => (A.v (Value.bool y))) (h10 ()) fun y1 => ?_
  refine .st (v := (A.v (Value.bool (!y1)))) (by kernel_rfl) ?_
  refine .bi ?_ ?_
  · exact .lf rfl rfl ⟨_, rfl, rfl⟩
  · refine .bd (g := fun (y : (S_Vec × Int)) => (A.tup [(A.agg [(A.v (Value.int .i64 y.1.X)), (A.v (Value.int .i64 y.1.Y)), (A.v (Value.int .i64 y.1.Z))]), (A.v (Value.int .i64 y.2))])) (h11 a0 a1) fun y2 => ?_
    refine .st (v := (A.agg [(A.v (Value.int .i64 y2.1.X)), (A.v (Value.int .i64 y2.1.Y)), (A.v (Value.int .i64 y2.1.Z))])) (by kernel_rfl) ?_
    refine .st (v := (A.v (Value.int .i64 y2.2))) (by kernel_rfl) ?_
    refine .st (v := ((A.ptr 0 0), [Blk.box [(A.v (Value.int .i64 0)), (A.v (Value.int .i64 0)), (A.v (Value.int .i64 0))]])) (by kernel_rfl) ?_
    refine .st (v := [Blk.box [(A.v (Value.int .i64 y2.1.X)), (A.v (Value.int .i64 y2.1.Y)), (A.v (Value.int .i64 y2.1.Z))]]) (by kernel_rfl) ?_
    refine .bd (g := fun (y : (S_Vec × Int)) => (A.tup [(A.agg [(A.v (Value.int .i64 y.1.X)), (A.v (Value.int .i64 y.1.Y)), (A.v (Value.int .i64 y.1.Z))]), (A.v (Value.int .i64 y.2))])) (h12 a0 a1) fun y3 => ?_
    refine .st (v := (A.agg [(A.v (Value.int .i64 y3.1.X)), (A.v (Value.int .i64 y3.1.Y)), (A.v (Value.int .i64 y3.1.Z))])) (by kernel_rfl) ?_
    refine .st (v := (A.v (Value.int .i64 y3.2))) (by kernel_rfl) ?_
    refine .st (v := ((A.ptr 1 0), [Blk.box [(A.v (Value.int .i64 y2.1.X)), (A.v (Value.int .i64 y2.1.Y)), (A.v (Value.int .i64 y2.1.Z))], Blk.box [(A.v (Value.int .i64 0)), (A.v (Value.int .i64 0)), (A.v (Value.int .i64 0))]])) (by kernel_rfl) ?_
    refine .st (v := [Blk.box [(A.v (Value.int .i64 y2.1.X)), (A.v (Value.int .i64 y2.1.Y)), (A.v (Value.int .i64 y2.1.Z))], Blk.box [(A.v (Value.int .i64 y3.1.X)), (A.v (Value.int .i64 y3.1.Y)), (A.v (Value.int .i64 y3.1.Z))]]) (by kernel_rfl) ?_
    refine .bd (g := fun (y : (Int × Int × Int)) => (A.tup [(A.v (Value.int .i64 y.1)), (A.v (Value.int .i64 y.2.1)), (A.v (Value.int .i64 y.2.2))])) (h13 a0) fun y4 => ?_
    refine .st (v := (A.v (Value.int .i64 y4.1))) (by kernel_rfl) ?_
    refine .st (v := (A.v (Value.int .i64 y4.2.1))) (by kernel_rfl) ?_
    refine .st (v := (A.v (Value.int .i64 y4.2.2))) (by kernel_rfl) ?_
    refine .bd (g := fun (y : (Int × Int × Int)) => (A.tup [(A.v (Value.int .i64 y.1)), (A.v (Value.int .i64 y.2.1)), (A.v (Value.int .i64 y.2.2))])) (h14 a0) fun y5 => ?_
    refine .st (v := (A.v (Value.int .i64 y5.1))) (by kernel_rfl) ?_
    refine .st (v := (A.v (Value.int .i64 y5.2.1))) (by kernel_rfl) ?_
    refine .st (v := (A.v (Value.int .i64 y5.2.2))) (by kernel_rfl) ?_
    refine .bd (g := fun (y : (Int × Int)) => (A.tup [(A.v (Value.int .i64 y.1)), (A.v (Value.int .i64 y.2))])) (h15 a0 a1) fun y6 => ?_
    refine .st (v := (A.v (Value.int .i64 y6.1))) (by kernel_rfl) ?_
    refine .st (v := (A.v (Value.int .i64 y6.2))) (by kernel_rfl) ?_
    refine .bd (g := fun (y : (Int × Int)) => (A.tup [(A.v (Value.int .i64 y.1)), (A.v (Value.int .i64 y.2))])) (h16 a0 a1) fun y7 => ?_
    refine .st (v := (A.v (Value.int .i64 y7.1))) (by kernel_rfl) ?_
    refine .st (v := (A.v (Value.int .i64 y7.2))) (by kernel_rfl) ?_
    refine .bd (g := fun (y : (Int × Int)) => (A.tup [(A.v (Value.int .i64 y.1)), (A.v (Value.int .i64 y.2))])) (h17 a0) fun y8 => ?_
    refine .st (v := (A.v (Value.int .i64 y8.1))) (by kernel_rfl) ?_
    refine .st (v := (A.v (Value.int .i64 y8.2))) (by kernel_rfl) ?_
    refine .bd (g := fun (y : (Int × Int)) => (A.tup [(A.v (Value.int .i64 y.1)), (A.v (Value.int .i64 y.2))])) (h18 a0) fun y9 => ?_
    refine .st (v := (A.v (Value.int .i64 y9.1))) (by kernel_rfl) ?_
    refine .st (v := (A.v (Value.int .i64 y9.2))) (by kernel_rfl) ?_
    refine .st (v := (A.agg [(A.v (Value.int .i64 y2.1.X)), (A.v (Value.int .i64 y2.1.Y)), (A.v (Value.int .i64 y2.1.Z))])) (by kernel_rfl) ?_
    refine .st (v := (A.agg [(A.v (Value.int .i64 y3.1.X)), (A.v (Value.int .i64 y3.1.Y)), (A.v (Value.int .i64 y3.1.Z))])) (by kernel_rfl) ?_
    refine .st (v := (A.v (Value.bool (((y2.1.X == y3.1.X) && ((y2.1.Y == y3.1.Y) && (y2.1.Z == y3.1.Z))))))) (by kernel_rfl) ?_
    refine .bg (fun t (y : Bool) => ∃ j11 j12 j13 : A, t = [(A.v (Value.bool y)), j11, j12, j13]) ?_ ?_
    · refine .bi ?_ ?_
      · refine .st (v := (A.v (Value.bool (y2.2 == y3.2)))) (aBin_eql ..) ?_
        exact .lg ⟨_, _, _, rfl⟩
      · exact .lg ⟨_, _, _, rfl⟩
    rintro _ y10 ⟨j11, j12, j13, rfl⟩
    iterate 4 refine .uc ?_
    refine .bg (fun t (y : Bool) => ∃ j15 j16 j17 : A, t = [(A.v (Value.bool y)), j15, j16, j17]) ?_ ?_
    · refine .bi ?_ ?_
      · refine .st (v := (A.v (Value.bool (y4.1 == y5.1)))) (aBin_eql ..) ?_
        exact .lg ⟨_, _, _, rfl⟩
      · exact .lg ⟨_, _, _, rfl⟩
    rintro _ y14 ⟨j15, j16, j17, rfl⟩
    iterate 4 refine .uc ?_
    refine .bg (fun t (y : Bool) => ∃ j19 j20 j21 : A, t = [(A.v (Value.bool y)), j19, j20, j21]) ?_ ?_
    · refine .bi ?_ ?_
      · refine .st (v := (A.v (Value.bool (y4.2.1 == y5.2.1)))) (aBin_eql ..) ?_
        exact .lg ⟨_, _, _, rfl⟩
      · exact .lg ⟨_, _, _, rfl⟩
    rintro _ y18 ⟨j19, j20, j21, rfl⟩
    iterate 4 refine .uc ?_
    refine .bg (fun t (y : Bool) => ∃ j23 j24 j25 : A, t = [(A.v (Value.bool y)), j23, j24, j25]) ?_ ?_
    · refine .bi ?_ ?_
      · refine .st (v := (A.v (Value.bool (y4.2.2 == y5.2.2)))) (aBin_eql ..) ?_
        exact .lg ⟨_, _, _, rfl⟩
      · exact .lg ⟨_, _, _, rfl⟩
    rintro _ y22 ⟨j23, j24, j25, rfl⟩
    iterate 4 refine .uc ?_
    refine .bg (fun t (y : Bool) => ∃ j27 j28 j29 : A, t = [(A.v (Value.bool y)), j27, j28, j29]) ?_ ?_
    · refine .bi ?_ ?_
      · refine .st (v := (A.v (Value.bool (y6.1 == y7.1)))) (aBin_eql ..) ?_
        exact .lg ⟨_, _, _, rfl⟩
      · exact .lg ⟨_, _, _, rfl⟩
    rintro _ y26 ⟨j27, j28, j29, rfl⟩
    iterate 4 refine .uc ?_
    refine .bg (fun t (y : Bool) => ∃ j31 j32 j33 : A, t = [(A.v (Value.bool y)), j31, j32, j33]) ?_ ?_
    · refine .bi ?_ ?_
      · refine .st (v := (A.v (Value.bool (y6.2 == y7.2)))) (aBin_eql ..) ?_
        exact .lg ⟨_, _, _, rfl⟩
      · exact .lg ⟨_, _, _, rfl⟩
    rintro _ y30 ⟨j31, j32, j33, rfl⟩
    iterate 4 refine .uc ?_
    refine .bg (fun t (y : Bool) => ∃ j35 j36 j37 : A, t = [(A.v (Value.bool y)), j35, j36, j37]) ?_ ?_
    · refine .bi ?_ ?_
      · refine .st (v := (A.v (Value.bool (y8.1 == y9.1)))) (aBin_eql ..) ?_
        exact .lg ⟨_, _, _, rfl⟩
      · exact .lg ⟨_, _, _, rfl⟩
    rintro _ y34 ⟨j35, j36, j37, rfl⟩
    iterate 4 refine .uc ?_
    refine .bg (fun t (y : Bool) => ∃ j39 j40 j41 : A, t = [(A.v (Value.bool y)), j39, j40, j41]) ?_ ?_
    · refine .bi ?_ ?_
      · refine .st (v := (A.v (Value.bool (y8.2 == y9.2)))) (aBin_eql ..) ?_
        exact .lg ⟨_, _, _, rfl⟩
      · exact .lg ⟨_, _, _, rfl⟩
    rintro _ y38 ⟨j39, j40, j41, rfl⟩
    iterate 4 refine .uc ?_
    exact .lf rfl rfl ⟨_, rfl, rfl⟩

def G3 (a0 : Int) (a1 : Int) : Option Bool := F3 fuel0 a0 a1

def Orc3 (C : Nat → List A → Option A) : Prop := ∀ (a0 : Int) (a1 : Int), C 3 [(A.v (Value.int .i64 a0)), (A.v (Value.int .i64 a1))] = (G3 a0 a1).map fun y => (A.v (Value.bool y))

def F4 (n : Nat) (a0 : S_Vec) (a1 : S_Vec) (a2 : S_Box) (a3 : S_Box) (a4 : Int) (a5 : Int) : Option Bool :=
  Option.bind (G10 ) fun y1 => bif (!y1) then (some false) else (Option.bind (G19 a0 a1) fun y2 => Option.bind (G20 a0 a1) fun y3 => Option.bind (G21 a2 a3) fun y4 => Option.bind (G22 a2 a3) fun y5 => Option.bind (bif (y2.1 != y3.1) then (some true) else (some (y2.2 != y3.2))) fun y6 => Option.bind (bif y6 then (some true) else (some (!(((y4.1.X.Lo == y5.1.X.Lo) && (y4.1.X.Hi == y5.1.X.Hi)) && ((y4.1.Y.Lo == y5.1.Y.Lo) && (y4.1.Y.Hi == y5.1.Y.Hi)))))) fun y10 => Option.bind (bif y10 then (some true) else (some (y4.2 != y5.2))) fun y14 => bif y14 then (some false) else (Option.bind (G23 a2 a3) fun y18 => Option.bind (G24 a2 a3) fun y19 => Option.bind (G25 a2 a3) fun y20 => Option.bind (G26 a2 a3) fun y21 => Option.bind (G27 a2 a4 a5) fun y22 => Option.bind (G28 a2 a4 a5) fun y23 => Option.bind (bif (y18.1 == y19.1) then (some (y18.2 == y19.2)) else (some false)) fun y24 => Option.bind (bif y24 then (some (y20.1 == y21.1)) else (some false)) fun y28 => Option.bind (bif y28 then (some (y20.2 == y21.2)) else (some false)) fun y32 => Option.bind (bif y32 then (some ((((y22.1.X.Lo == y23.1.X.Lo) && (y22.1.X.Hi == y23.1.X.Hi)) && ((y22.1.Y.Lo == y23.1.Y.Lo) && (y22.1.Y.Hi == y23.1.Y.Hi))))) else (some false)) fun y36 => Option.bind (bif y36 then (some (y22.2 == y23.2)) else (some false)) fun y40 => some y40))

theorem T4 (C : Nat → List A → Option A) (n : Nat) (h10 : Orc10 C) (h19 : Orc19 C) (h20 : Orc20 C) (h21 : Orc21 C) (h22 : Orc22 C) (h23 : Orc23 C) (h24 : Orc24 C) (h25 : Orc25 C) (h26 : Orc26 C) (h27 : Orc27 C) (h28 : Orc28 C) (a0 : S_Vec) (a1 : S_Vec) (a2 : S_Box) (a3 : S_Box) (a4 : Int) (a5 : Int) : J (fun (o : R) y => ∃ v, o.1 = .ret v ∧ snap o.2 v = (A.v (Value.bool y))) (evCall1 (cx C) (evCall (cx C) (n+4)) (n+4) 4 [(A.agg [(A.v (Value.int .i64 a0.X)), (A.v (Value.int .i64 a0.Y)), (A.v (Value.int .i64 a0.Z))]), (A.agg [(A.v (Value.int .i64 a1.X)), (A.v (Value.int .i64 a1.Y)), (A.v (Value.int .i64 a1.Z))]), (A.agg [(A.v (Value.int .i64 a2.X.Lo)), (A.v (Value.int .i64 a2.X.Hi)), (A.v (Value.int .i64 a2.Y.Lo)), (A.v (Value.int .i64 a2.Y.Hi))]), (A.agg [(A.v (Value.int .i64 a3.X.Lo)), (A.v (Value.int .i64 a3.X.Hi)), (A.v (Value.int .i64 a3.Y.Lo)), (A.v (Value.int .i64 a3.Y.Hi))]), (A.v (Value.int .i64 a4)), (A.v (Value.int .i64 a5))] [] 0) some (F4 n a0 a1 a2 a3 a4 a5) some := by
  refine .lp (e4 ..) ?_
  unfold F4
  refine .st (v := ((A.ptr 0 0), [Blk.box [(A.v (Value.int .i64 a0.X)), (A.v (Value.int .i64 a0.Y)), (A.v (Value.int .i64 a0.Z))]])) (by kernel_rfl) ?_
  refine .st (v := ((A.ptr 1 0), [Blk.box [(A.v (Value.int .i64 a0.X)), (A.v (Value.int .i64 a0.Y)), (A.v (Value.int .i64 a0.Z))], Blk.box [(A.v (Value.int .i64 a1.X)), (A.v (Value.int .i64 a1.Y)), (A.v (Value.int .i64 a1.Z))]])) (by kernel_rfl) ?_
  refine .st (v := ((A.ptr 2 0), [Blk.box [(A.v (Value.int .i64 a0.X)), (A.v (Value.int .i64 a0.Y)), (A.v (Value.int .i64 a0.Z))], Blk.box [(A.v (Value.int .i64 a1.X)), (A.v (Value.int .i64 a1.Y)), (A.v (Value.int .i64 a1.Z))], Blk.box [(A.v (Value.int .i64 a2.X.Lo)), (A.v (Value.int .i64 a2.X.Hi)), (A.v (Value.int .i64 a2.Y.Lo)), (A.v (Value.int .i64 a2.Y.Hi))]])) (by kernel_rfl) ?_
  refine .st (v := ((A.ptr 3 0), [Blk.box [(A.v (Value.int .i64 a0.X)), (A.v (Value.int .i64 a0.Y)), (A.v (Value.int .i64 a0.Z))], Blk.box [(A.v (Value.int .i64 a1.X)), (A.v (Value.int .i64 a1.Y)), (A.v (Value.int .i64 a1.Z))], Blk.box [(A.v (Value.int .i64 a2.X.Lo)), (A.v (Value.int .i64 a2.X.Hi)), (A.v (Value.int .i64 a2.Y.Lo)), (A.v (Value.int .i64 a2.Y.Hi))], Blk.box [(A.v (Value.int .i64 a3.X.Lo)), (A.v (Value.int .i64 a3.X.Hi)), (A.v (Value.int .i64 a3.Y.Lo)), (A.v (Value.int .i64 a3.Y.Hi))]])) (by kernel_rfl) ?_
  refine .bd (g := fun (y : Bool) => (A.v (Value.bool y))) (h10 ()) fun y1 => ?_
  refine .st (v := (A.v (Value.bool (!y1)))) (by kernel_rfl) ?_
  refine .bi ?_ ?_
  · exact .lf rfl rfl ⟨_, rfl, rfl⟩
  · refine .st (v := (A.agg [(A.v (Value.int .i64 a0.X)), (A.v (Value.int .i64 a0.Y)), (A.v (Value.int .i64 a0.Z))])) (by kernel_rfl) ?_
    refine .st (v := (A.agg [(A.v (Value.int .i64 a1.X)), (A.v (Value.int .i64 a1.Y)), (A.v (Value.int .i64 a1.Z))])) (by kernel_rfl) ?_
    refine .bd (g := fun (y : (Int × Int)) => (A.tup [(A.v (Value.int .i64 y.1)), (A.v (Value.int .i64 y.2))])) (h19 a0 a1) fun y2 => ?_
    refine .st (v := (A.v (Value.int .i64 y2.1))) (by kernel_rfl) ?_
    refine .st (v := (A.v (Value.int .i64 y2.2))) (by kernel_rfl) ?_
    refine .st (v := (A.agg [(A.v (Value.int .i64 a0.X)), (A.v (Value.int .i64 a0.Y)), (A.v (Value.int .i64 a0.Z))])) (by kernel_rfl) ?_
    refine .st (v := (A.agg [(A.v (Value.int .i64 a1.X)), (A.v (Value.int .i64 a1.Y)), (A.v (Value.int .i64 a1.Z))])) (by kernel_rfl) ?_
    refine .bd (g := fun (y : (Int × Int)) => (A.tup [(A.v (Value.int .i64 y.1)), (A.v (Value.int .i64 y.2))])) (h20 a0 a1) fun y3 => ?_
    refine .st (v := (A.v (Value.int .i64 y3.1))) (by kernel_rfl) ?_
    refine .st (v := (A.v (Value.int .i64 y3.2))) (by kernel_rfl) ?_
    refine .st (v := (A.agg [(A.v (Value.int .i64 a2.X.Lo)), (A.v (Value.int .i64 a2.X.Hi)), (A.v (Value.int .i64 a2.Y.Lo)), (A.v (Value.int .i64 a2.Y.Hi))])) (by kernel_rfl) ?_
    refine .st (v := (A.agg [(A.v (Value.int .i64 a3.X.Lo)), (A.v (Value.int .i64 a3.X.Hi)), (A.v (Value.int .i64 a3.Y.Lo)), (A.v (Value.int .i64 a3.Y.Hi))])) (by kernel_rfl) ?_
    refine .bd (g := fun (y : (S_Box × Int)) => (A.tup [(A.agg [(A.v (Value.int .i64 y.1.X.Lo)), (A.v (Value.int .i64 y.1.X.Hi)), (A.v (Value.int .i64 y.1.Y.Lo)), (A.v (Value.int .i64 y.1.Y.Hi))]), (A.v (Value.int .i64 y.2))])) (h21 a2 a3) fun y4 => ?_
    refine .st (v := (A.agg [(A.v (Value.int .i64 y4.1.X.Lo)), (A.v (Value.int .i64 y4.1.X.Hi)), (A.v (Value.int .i64 y4.1.Y.Lo)), (A.v (Value.int .i64 y4.1.Y.Hi))])) (by kernel_rfl) ?_
    refine .st (v := (A.v (Value.int .i64 y4.2))) (by kernel_rfl) ?_
    refine .st (v := ((A.ptr 4 0), [Blk.box [(A.v (Value.int .i64 a0.X)), (A.v (Value.int .i64 a0.Y)), (A.v (Value.int .i64 a0.Z))], Blk.box [(A.v (Value.int .i64 a1.X)), (A.v (Value.int .i64 a1.Y)), (A.v (Value.int .i64 a1.Z))], Blk.box [(A.v (Value.int .i64 a2.X.Lo)), (A.v (Value.int .i64 a2.X.Hi)), (A.v (Value.int .i64 a2.Y.Lo)), (A.v (Value.int .i64 a2.Y.Hi))], Blk.box [(A.v (Value.int .i64 a3.X.Lo)), (A.v (Value.int .i64 a3.X.Hi)), (A.v (Value.int .i64 a3.Y.Lo)), (A.v (Value.int .i64 a3.Y.Hi))], Blk.box [(A.v (Value.int .i64 0)), (A.v (Value.int .i64 0)), (A.v (Value.int .i64 0)), (A.v (Value.int .i64 0))]])) (by kernel_rfl) ?_
    refine .st (v := [Blk.box [(A.v (Value.int .i64 a0.X)), (A.v (Value.int .i64 a0.Y)), (A.v (Value.int .i64 a0.Z))], Blk.box [(A.v (Value.int .i64 a1.X)), (A.v (Value.int .i64 a1.Y)), (A.v (Value.int .i64 a1.Z))], Blk.box [(A.v (Value.int .i64 a2.X.Lo)), (A.v (Value.int .i64 a2.X.Hi)), (A.v (Value.int .i64 a2.Y.Lo)), (A.v (Value.int .i64 a2.Y.Hi))], Blk.box [(A.v (Value.int .i64 a3.X.Lo)), (A.v (Value.int .i64 a3.X.Hi)), (A.v (Value.int .i64 a3.Y.Lo)), (A.v (Value.int .i64 a3.Y.Hi))], Blk.box [(A.v (Value.int .i64 y4.1.X.Lo)), (A.v (Value.int .i64 y4.1.X.Hi)), (A.v (Value.int .i64 y4.1.Y.Lo)), (A.v (Value.int .i64 y4.1.Y.Hi))]]) (by kernel_rfl) ?_
    refine .st (v := (A.agg [(A.v (Value.int .i64 a2.X.Lo)), (A.v (Value.int .i64 a2.X.Hi)), (A.v (Value.int .i64 a2.Y.Lo)), (A.v (Value.int .i64 a2.Y.Hi))])) (by kernel_rfl) ?_
    refine .st (v := (A.agg [(A.v (Value.int .i64 a3.X.Lo)), (A.v (Value.int .i64 a3.X.Hi)), (A.v (Value.int .i64 a3.Y.Lo)), (A.v (Value.int .i64 a3.Y.Hi))])) (by kernel_rfl) ?_
    refine .bd (g := fun (y : (S_Box × Int)) => (A.tup [(A.agg [(A.v (Value.int .i64 y.1.X.Lo)), (A.v (Value.int .i64 y.1.X.Hi)), (A.v (Value.int .i64 y.1.Y.Lo)), (A.v (Value.int .i64 y.1.Y.Hi))]), (A.v (Value.int .i64 y.2))])) (h22 a2 a3) fun y5 => ?_
    refine .st (v := (A.agg [(A.v (Value.int .i64 y5.1.X.Lo)), (A.v (Value.int .i64 y5.1.X.Hi)), (A.v (Value.int .i64 y5.1.Y.Lo)), (A.v (Value.int .i64 y5.1.Y.Hi))])) (by kernel_rfl) ?_
    refine .st (v := (A.v (Value.int .i64 y5.2))) (by kernel_rfl) ?_
    refine .st (v := ((A.ptr 5 0), [Blk.box [(A.v (Value.int .i64 a0.X)), (A.v (Value.int .i64 a0.Y)), (A.v (Value.int .i64 a0.Z))], Blk.box [(A.v (Value.int .i64 a1.X)), (A.v (Value.int .i64 a1.Y)), (A.v (Value.int .i64 a1.Z))], Blk.box [(A.v (Value.int .i64 a2.X.Lo)), (A.v (Value.int .i64 a2.X.Hi)), (A.v (Value.int .i64 a2.Y.Lo)), (A.v (Value.int .i64 a2.Y.Hi))], Blk.box [(A.v (Value.int .i64 a3.X.Lo)), (A.v (Value.int .i64 a3.X.Hi)), (A.v (Value.int .i64 a3.Y.Lo)), (A.v (Value.int .i64 a3.Y.Hi))], Blk.box [(A.v (Value.int .i64 y4.1.X.Lo)), (A.v (Value.int .i64 y4.1.X.Hi)), (A.v (Value.int .i64 y4.1.Y.Lo)), (A.v (Value.int .i64 y4.1.Y.Hi))], Blk.box [(A.v (Value.int .i64 0)), (A.v (Value.int .i64 0)), (A.v (Value.int .i64 0)), (A.v (Value.int .i64 0))]])) (by kernel_rfl) ?_
    refine .st (v := [Blk.box [(A.v (Value.int .i64 a0.X)), (A.v (Value.int .i64 a0.Y)), (A.v (Value.int .i64 a0.Z))], Blk.box [(A.v (Value.int .i64 a1.X)), (A.v (Value.int .i64 a1.Y)), (A.v (Value.int .i64 a1.Z))], Blk.box [(A.v (Value.int .i64 a2.X.Lo)), (A.v (Value.int .i64 a2.X.Hi)), (A.v (Value.int .i64 a2.Y.Lo)), (A.v (Value.int .i64 a2.Y.Hi))], Blk.box [(A.v (Value.int .i64 a3.X.Lo)), (A.v (Value.int .i64 a3.X.Hi)), (A.v (Value.int .i64 a3.Y.Lo)), (A.v (Value.int .i64 a3.Y.Hi))], Blk.box [(A.v (Value.int .i64 y4.1.X.Lo)), (A.v (Value.int .i64 y4.1.X.Hi)), (A.v (Value.int .i64 y4.1.Y.Lo)), (A.v (Value.int .i64 y4.1.Y.Hi))], Blk.box [(A.v (Value.int .i64 y5.1.X.Lo)), (A.v (Value.int .i64 y5.1.X.Hi)), (A.v (Value.int .i64 y5.1.Y.Lo)), (A.v (Value.int .i64 y5.1.Y.Hi))]]) (by kernel_rfl) ?_
    refine .st (v := (A.v (Value.bool (y2.1 != y3.1)))) (aBin_neq ..) ?_
    refine .bg (fun t (y : Bool) => ∃ j7 j8 j9 : A, t = [(A.v (Value.bool y)), j7, j8, j9]) ?_ ?_
    · refine .bi ?_ ?_
      · exact .lg ⟨_, _, _, rfl⟩
      · refine .st (v := (A.v (Value.bool (y2.2 != y3.2)))) (aBin_neq ..) ?_
        exact .lg ⟨_, _, _, rfl⟩
    rintro _ y6 ⟨j7, j8, j9, rfl⟩
    iterate 4 refine .uc ?_
    refine .bg (fun t (y : Bool) => ∃ j11 j12 j13 : A, t = [(A.v (Value.bool y)), j11, j12, j13]) ?_ ?_
    · refine .bi ?_ ?_
      · exact .lg ⟨_, _, _, rfl⟩
      · refine .st (v := (A.agg [(A.v (Value.int .i64 y4.1.X.Lo)), (A.v (Value.int .i64 y4.1.X.Hi)), (A.v (Value.int .i64 y4.1.Y.Lo)), (A.v (Value.int .i64 y4.1.Y.Hi))])) (by kernel_rfl) ?_
        refine .st (v := (A.agg [(A.v (Value.int .i64 y5.1.X.Lo)), (A.v (Value.int .i64 y5.1.X.Hi)), (A.v (Value.int .i64 y5.1.Y.Lo)), (A.v (Value.int .i64 y5.1.Y.Hi))])) (by kernel_rfl) ?_
        refine .st (v := (A.v (Value.bool (!(((y4.1.X.Lo == y5.1.X.Lo) && (y4.1.X.Hi == y5.1.X.Hi)) && ((y4.1.Y.Lo == y5.1.Y.Lo) && (y4.1.Y.Hi == y5.1.Y.Hi))))))) (by kernel_rfl) ?_
        exact .lg ⟨_, _, _, rfl⟩
    rintro _ y10 ⟨j11, j12, j13, rfl⟩
    iterate 4 refine .uc ?_
    refine .bg (fun t (y : Bool) => ∃ j15 j16 j17 : A, t = [(A.v (Value.bool y)), j15, j16, j17]) ?_ ?_
    · refine .bi ?_ ?_
      · exact .lg ⟨_, _, _, rfl⟩
      · refine .st (v := (A.v (Value.bool (y4.2 != y5.2)))) (aBin_neq ..) ?_
        exact .lg ⟨_, _, _, rfl⟩
    rintro _ y14 ⟨j15, j16, j17, rfl⟩
    iterate 4 refine .uc ?_
    refine .bi ?_ ?_
    · exact .lf rfl rfl ⟨_, rfl, rfl⟩
    · refine .st (v := (A.agg [(A.v (Value.int .i64 a2.X.Lo)), (A.v (Value.int .i64 a2.X.Hi)), (A.v (Value.int .i64 a2.Y.Lo)), (A.v (Value.int .i64 a2.Y.Hi))])) (by kernel_rfl) ?_
      refine .st (v := (A.agg [(A.v (Value.int .i64 a3.X.Lo)), (A.v (Value.int .i64 a3.X.Hi)), (A.v (Value.int .i64 a3.Y.Lo)), (A.v (Value.int .i64 a3.Y.Hi))])) (by kernel_rfl) ?_
      refine .bd (g := fun (y : (Bool × Int)) => (A.tup [(A.v (Value.bool y.1)), (A.v (Value.int .i64 y.2))])) (h23 a2 a3) fun y18 => ?_
      refine .st (v := (A.v (Value.bool y18.1))) (by kernel_rfl) ?_
      refine .st (v := (A.v (Value.int .i64 y18.2))) (by kernel_rfl) ?_
      refine .st (v := (A.agg [(A.v (Value.int .i64 a2.X.Lo)), (A.v (Value.int .i64 a2.X.Hi)), (A.v (Value.int .i64 a2.Y.Lo)), (A.v (Value.int .i64 a2.Y.Hi))])) (by kernel_rfl) ?_
      refine .st (v := (A.agg [(A.v (Value.int .i64 a3.X.Lo)), (A.v (Value.int .i64 a3.X.Hi)), (A.v (Value.int .i64 a3.Y.Lo)), (A.v (Value.int .i64 a3.Y.Hi))])) (by kernel_rfl) ?_
      refine .bd (g := fun (y : (Bool × Int)) => (A.tup [(A.v (Value.bool y.1)), (A.v (Value.int .i64 y.2))])) (h24 a2 a3) fun y19 => ?_
      refine .st (v := (A.v (Value.bool y19.1))) (by kernel_rfl) ?_
      refine .st (v := (A.v (Value.int .i64 y19.2))) (by kernel_rfl) ?_
      refine .st (v := (A.agg [(A.v (Value.int .i64 a2.X.Lo)), (A.v (Value.int .i64 a2.X.Hi)), (A.v (Value.int .i64 a2.Y.Lo)), (A.v (Value.int .i64 a2.Y.Hi))])) (by kernel_rfl) ?_
      refine .st (v := (A.agg [(A.v (Value.int .i64 a3.X.Lo)), (A.v (Value.int .i64 a3.X.Hi)), (A.v (Value.int .i64 a3.Y.Lo)), (A.v (Value.int .i64 a3.Y.Hi))])) (by kernel_rfl) ?_
      refine .bd (g := fun (y : (Bool × Int)) => (A.tup [(A.v (Value.bool y.1)), (A.v (Value.int .i64 y.2))])) (h25 a2 a3) fun y20 => ?_
      refine .st (v := (A.v (Value.bool y20.1))) (by kernel_rfl) ?_
      refine .st (v := (A.v (Value.int .i64 y20.2))) (by kernel_rfl) ?_
      refine .st (v := (A.agg [(A.v (Value.int .i64 a2.X.Lo)), (A.v (Value.int .i64 a2.X.Hi)), (A.v (Value.int .i64 a2.Y.Lo)), (A.v (Value.int .i64 a2.Y.Hi))])) (by kernel_rfl) ?_
      refine .st (v := (A.agg [(A.v (Value.int .i64 a3.X.Lo)), (A.v (Value.int .i64 a3.X.Hi)), (A.v (Value.int .i64 a3.Y.Lo)), (A.v (Value.int .i64 a3.Y.Hi))])) (by kernel_rfl) ?_
      refine .bd (g := fun (y : (Bool × Int)) => (A.tup [(A.v (Value.bool y.1)), (A.v (Value.int .i64 y.2))])) (h26 a2 a3) fun y21 => ?_
      refine .st (v := (A.v (Value.bool y21.1))) (by kernel_rfl) ?_
      refine .st (v := (A.v (Value.int .i64 y21.2))) (by kernel_rfl) ?_
      refine .st (v := (A.agg [(A.v (Value.int .i64 a2.X.Lo)), (A.v (Value.int .i64 a2.X.Hi)), (A.v (Value.int .i64 a2.Y.Lo)), (A.v (Value.int .i64 a2.Y.Hi))])) (by kernel_rfl) ?_
      refine .bd (g := fun (y : (S_Box × Int)) => (A.tup [(A.agg [(A.v (Value.int .i64 y.1.X.Lo)), (A.v (Value.int .i64 y.1.X.Hi)), (A.v (Value.int .i64 y.1.Y.Lo)), (A.v (Value.int .i64 y.1.Y.Hi))]), (A.v (Value.int .i64 y.2))])) (h27 a2 a4 a5) fun y22 => ?_
      refine .st (v := (A.agg [(A.v (Value.int .i64 y22.1.X.Lo)), (A.v (Value.int .i64 y22.1.X.Hi)), (A.v (Value.int .i64 y22.1.Y.Lo)), (A.v (Value.int .i64 y22.1.Y.Hi))])) (by kernel_rfl) ?_
      refine .st (v := (A.v (Value.int .i64 y22.2))) (by kernel_rfl) ?_
      refine .st (v := ((A.ptr 6 0), [Blk.box [(A.v (Value.int .i64 a0.X)), (A.v (Value.int .i64 a0.Y)), (A.v (Value.int .i64 a0.Z))], Blk.box [(A.v (Value.int .i64 a1.X)), (A.v (Value.int .i64 a1.Y)), (A.v (Value.int .i64 a1.Z))], Blk.box [(A.v (Value.int .i64 a2.X.Lo)), (A.v (Value.int .i64 a2.X.Hi)), (A.v (Value.int .i64 a2.Y.Lo)), (A.v (Value.int .i64 a2.Y.Hi))], Blk.box [(A.v (Value.int .i64 a3.X.Lo)), (A.v (Value.int .i64 a3.X.Hi)), (A.v (Value.int .i64 a3.Y.Lo)), (A.v (Value.int .i64 a3.Y.Hi))], Blk.box [(A.v (Value.int .i64 y4.1.X.Lo)), (A.v (Value.int .i64 y4.1.X.Hi)), (A.v (Value.int .i64 y4.1.Y.Lo)), (A.v (Value.int .i64 y4.1.Y.Hi))], Blk.box [(A.v (Value.int .i64 y5.1.X.Lo)), (A.v (Value.int .i64 y5.1.X.Hi)), (A.v (Value.int .i64 y5.1.Y.Lo)), (A.v (Value.int .i64 y5.1.Y.Hi))], Blk.box [(A.v (Value.int .i64 0)), (A.v (Value.int .i64 0)), (A.v (Value.int .i64 0)), (A.v (Value.int .i64 0))]])) (by kernel_rfl) ?_
      refine .st (v := [Blk.box [(A.v (Value.int .i64 a0.X)), (A.v (Value.int .i64 a0.Y)), (A.v (Value.int .i64 a0.Z))], Blk.box [(A.v (Value.int .i64 a1.X)), (A.v (Value.int .i64 a1.Y)), (A.v (Value.int .i64 a1.Z))], Blk.box [(A.v (Value.int .i64 a2.X.Lo)), (A.v (Value.int .i64 a2.X.Hi)), (A.v (Value.int .i64 a2.Y.Lo)), (A.v (Value.int .i64 a2.Y.Hi))], Blk.box [(A.v (Value.int .i64 a3.X.Lo)), (A.v (Value.int .i64 a3.X.Hi)), (A.v (Value.int .i64 a3.Y.Lo)), (A.v (Value.int .i64 a3.Y.Hi))], Blk.box [(A.v (Value.int .i64 y4.1.X.Lo)), (A.v (Value.int .i64 y4.1.X.Hi)), (A.v (Value.int .i64 y4.1.Y.Lo)), (A.v (Value.int .i64 y4.1.Y.Hi))], Blk.box [(A.v (Value.int .i64 y5.1.X.Lo)), (A.v (Value.int .i64 y5.1.X.Hi)), (A.v (Value.int .i64 y5.1.Y.Lo)), (A.v (Value.int .i64 y5.1.Y.Hi))], Blk.box [(A.v (Value.int .i64 y22.1.X.Lo)), (A.v (Value.int .i64 y22.1.X.Hi)), (A.v (Value.int .i64 y22.1.Y.Lo)), (A.v (Value.int .i64 y22.1.Y.Hi))]]) (by kernel_rfl) ?_
      refine .st (v := (A.agg [(A.v (Value.int .i64 a2.X.Lo)), (A.v (Value.int .i64 a2.X.Hi)), (A.v (Value.int .i64 a2.Y.Lo)), (A.v (Value.int .i64 a2.Y.Hi))])) (by kernel_rfl) ?_
      refine .bd (g := fun (y : (S_Box × Int)) => (A.tup [(A.agg [(A.v (Value.int .i64 y.1.X.Lo)), (A.v (Value.int .i64 y.1.X.Hi)), (A.v (Value.int .i64 y.1.Y.Lo)), (A.v (Value.int .i64 y.1.Y.Hi))]), (A.v (Value.int .i64 y.2))])) (h28 a2 a4 a5) fun y23 => ?_
      refine .st (v := (A.agg [(A.v (Value.int .i64 y23.1.X.Lo)), (A.v (Value.int .i64 y23.1.X.Hi)), (A.v (Value.int .i64 y23.1.Y.Lo)), (A.v (Value.int .i64 y23.1.Y.Hi))])) (by kernel_rfl) ?_
      refine .st (v := (A.v (Value.int .i64 y23.2))) (by kernel_rfl) ?_
      refine .st (v := ((A.ptr 7 0), [Blk.box [(A.v (Value.int .i64 a0.X)), (A.v (Value.int .i64 a0.Y)), (A.v (Value.int .i64 a0.Z))], Blk.box [(A.v (Value.int .i64 a1.X)), (A.v (Value.int .i64 a1.Y)), (A.v (Value.int .i64 a1.Z))], Blk.box [(A.v (Value.int .i64 a2.X.Lo)), (A.v (Value.int .i64 a2.X.Hi)), (A.v (Value.int .i64 a2.Y.Lo)), (A.v (Value.int .i64 a2.Y.Hi))], Blk.box [(A.v (Value.int .i64 a3.X.Lo)), (A.v (Value.int .i64 a3.X.Hi)), (A.v (Value.int .i64 a3.Y.Lo)), (A.v (Value.int .i64 a3.Y.Hi))], Blk.box [(A.v (Value.int .i64 y4.1.X.Lo)), (A.v (Value.int .i64 y4.1.X.Hi)), (A.v (Value.int .i64 y4.1.Y.Lo)), (A.v (Value.int .i64 y4.1.Y.Hi))], Blk.box [(A.v (Value.int .i64 y5.1.X.Lo)), (A.v (Value.int .i64 y5.1.X.Hi)), (A.v (Value.int .i64 y5.1.Y.Lo)), (A.v (Value.int .i64 y5.1.Y.Hi))], Blk.box [(A.v (Value.int .i64 y22.1.X.Lo)), (A.v (Value.int .i64 y22.1.X.Hi)), (A.v (Value.int .i64 y22.1.Y.Lo)), (A.v (Value.int .i64 y22.1.Y.Hi))], Blk.box [(A.v (Value.int .i64 0)), (A.v (Value.int .i64 0)), (A.v (Value.int .i64 0)), (A.v (Value.int .i64 0))]])) (by kernel_rfl) ?_
      refine .st (v := [Blk.box [(A.v (Value.int .i64 a0.X)), (A.v (Value.int .i64 a0.Y)), (A.v (Value.int .i64 a0.Z))], Blk.box [(A.v (Value.int .i64 a1.X)), (A.v (Value.int .i64 a1.Y)), (A.v (Value.int .i64 a1.Z))], Blk.box [(A.v (Value.int .i64 a2.X.Lo)), (A.v (Value.int .i64 a2.X.Hi)), (A.v (Value.int .i64 a2.Y.Lo)), (A.v (Value.int .i64 a2.Y.Hi))], Blk.box [(A.v (Value.int .i64 a3.X.Lo)), (A.v (Value.int .i64 a3.X.Hi)), (A.v (Value.int .i64 a3.Y.Lo)), (A.v (Value.int .i64 a3.Y.Hi))], Blk.box [(A.v (Value.int .i64 y4.1.X.Lo)), (A.v (Value.int .i64 y4.1.X.Hi)), (A.v (Value.int .i64 y4.1.Y.Lo)), (A.v (Value.int .i64 y4.1.Y.Hi))], Blk.box [(A.v (Value.int .i64 y5.1.X.Lo)), (A.v (Value.int .i64 y5.1.X.Hi)), (A.v (Value.int .i64 y5.1.Y.Lo)), (A.v (Value.int .i64 y5.1.Y.Hi))], Blk.box [(A.v (Value.int .i64 y22.1.X.Lo)), (A.v (Value.int .i64 y22.1.X.Hi)), (A.v (Value.int .i64 y22.1.Y.Lo)), (A.v (Value.int .i64 y22.1.Y.Hi))], Blk.box [(A.v (Value.int .i64 y23.1.X.Lo)), (A.v (Value.int .i64 y23.1.X.Hi)), (A.v (Value.int .i64 y23.1.Y.Lo)), (A.v (Value.int .i64 y23.1.Y.Hi))]]) (by kernel_rfl) ?_
      refine .st (v := (A.v (Value.bool (y18.1 == y19.1)))) (by kernel_rfl) ?_
      refine .bg (fun t (y : Bool) => ∃ j25 j26 j27 : A, t = [(A.v (Value.bool y)), j25, j26, j27]) ?_ ?_
      · refine .bi ?_ ?_
        · refine .st (v := (A.v (Value.bool (y18.2 == y19.2)))) (aBin_eql ..) ?_
          exact .lg ⟨_, _, _, rfl⟩
        · exact .lg ⟨_, _, _, rfl⟩
      rintro _ y24 ⟨j25, j26, j27, rfl⟩
      iterate 4 refine .uc ?_
      refine .bg (fun t (y : Bool) => ∃ j29 j30 j31 : A, t = [(A.v (Value.bool y)), j29, j30, j31]) ?_ ?_
      · refine .bi ?_ ?_
        · refine .st (v := (A.v (Value.bool (y20.1 == y21.1)))) (by kernel_rfl) ?_
          exact .lg ⟨_, _, _, rfl⟩
        · exact .lg ⟨_, _, _, rfl⟩
      rintro _ y28 ⟨j29, j30, j31, rfl⟩
      iterate 4 refine .uc ?_
      refine .bg (fun t (y : Bool) => ∃ j33 j34 j35 : A, t = [(A.v (Value.bool y)), j33, j34, j35]) ?_ ?_
      · refine .bi ?_ ?_
        · refine .st (v := (A.v (Value.bool (y20.2 == y21.2)))) (aBin_eql ..) ?_
          exact .lg ⟨_, _, _, rfl⟩
        · exact .lg ⟨_, _, _, rfl⟩
      rintro _ y32 ⟨j33, j34, j35, rfl⟩
      iterate 4 refine .uc ?_
      refine .bg (fun t (y : Bool) => ∃ j37 j38 j39 : A, t = [(A.v (Value.bool y)), j37, j38, j39]) ?_ ?_
      · refine .bi ?_ ?_
        · refine .st (v := (A.agg [(A.v (Value.int .i64 y22.1.X.Lo)), (A.v (Value.int .i64 y22.1.X.Hi)), (A.v (Value.int .i64 y22.1.Y.Lo)), (A.v (Value.int .i64 y22.1.Y.Hi))])) (by kernel_rfl) ?_
          refine .st (v := (A.agg [(A.v (Value.int .i64 y23.1.X.Lo)), (A.v (Value.int .i64 y23.1.X.Hi)), (A.v (Value.int .i64 y23.1.Y.Lo)), (A.v (Value.int .i64 y23.1.Y.Hi))])) (by kernel_rfl) ?_
          refine .st (v := (A.v (Value.bool ((((y22.1.X.Lo == y23.1.X.Lo) && (y22.1.X.Hi == y23.1.X.Hi)) && ((y22.1.Y.Lo == y23.1.Y.Lo) && (y22.1.Y.Hi == y23.1.Y.Hi))))))) (by kernel_rfl) ?_
          exact .lg ⟨_, _, _, rfl⟩
        · exact .lg ⟨_, _, _, rfl⟩
      rintro _ y36 ⟨j37, j38, j39, rfl⟩
      iterate 4 refine .uc ?_
      refine .bg (fun t (y : Bool) => ∃ j41 j42 j43 : A, t = [(A.v (Value.bool y)), j41, j42, j43]) ?_ ?_
      · refine .bi ?_ ?_
        · refine .st (v := (A.v (Value.bool (y22.2 == y23.2)))) (aBin_eql ..) ?_
          exact .lg ⟨_, _, _, rfl⟩
        · exact .lg ⟨_, _, _, rfl⟩
      rintro _ y40 ⟨j41, j42, j43, rfl⟩
      iterate 4 refine .uc ?_
      exact .lf rfl rfl ⟨_, rfl, rfl⟩

def G4 (a0 : S_Vec) (a1 : S_Vec) (a2 : S_Box) (a3 : S_Box) (a4 : Int) (a5 : Int) : Option Bool := F4 fuel0 a0 a1 a2 a3 a4 a5

def Orc4 (C : Nat → List A → Option A) : Prop := ∀ (a0 : S_Vec) (a1 : S_Vec) (a2 : S_Box) (a3 : S_Box) (a4 : Int) (a5 : Int), C 4 [(A.agg [(A.v (Value.int .i64 a0.X)), (A.v (Value.int .i64 a0.Y)), (A.v (Value.int .i64 a0.Z))]), (A.agg [(A.v (Value.int .i64 a1.X)), (A.v (Value.int .i64 a1.Y)), (A.v (Value.int .i64 a1.Z))]), (A.agg [(A.v (Value.int .i64 a2.X.Lo)), (A.v (Value.int .i64 a2.X.Hi)), (A.v (Value.int .i64 a2.Y.Lo)), (A.v (Value.int .i64 a2.Y.Hi))]), (A.agg [(A.v (Value.int .i64 a3.X.Lo)), (A.v (Value.int .i64 a3.X.Hi)), (A.v (Value.int .i64 a3.Y.Lo)), (A.v (Value.int .i64 a3.Y.Hi))]), (A.v (Value.int .i64 a4)), (A.v (Value.int .i64 a5))] = (G4 a0 a1 a2 a3 a4 a5).map fun y => (A.v (Value.bool y))

def F5 (n : Nat) (a0 : Int) (a1 : Int) (a2 : Int) (a3 : Int) : Option Bool :=
  Option.bind (G10 ) fun y1 => bif (!y1) then (some false) else (Option.bind (G29 (Int.tmod (wr .i64 (a0)) 9) (wr .i64 (1 + (Int.tmod (wr .i64 (a1)) 3)))) fun y2 => Option.bind (G29 (Int.tmod (wr .i64 (a2)) 9) (wr .i64 (1 + (Int.tmod (wr .i64 (a3)) 3)))) fun y3 => Option.bind (G19 y2.1 y2.1) fun y4 => Option.bind (bif (!y2.2) then (some true) else (some (!y3.2))) fun y5 => Option.bind (bif y5 then (some true) else (some (y4.2 != 0))) fun y8 => bif y8 then (some false) else (Option.bind (bif ((Int.tmod (wr .i64 (a0)) 9) == 0) then (some ((wr .i64 (1 + (Int.tmod (wr .i64 (a1)) 3))) == 2)) else (some false)) fun y11 => Option.bind (bif y11 then (some (y4.1 != 0)) else (some false)) fun y14 => Option.bind (bif y14 then (some true) else (Option.bind (bif (!y11) then (some (y4.1 != 707281)) else (some false)) fun y17 => some y17)) fun y20 => bif y20 then (some false) else (Option.bind (bif ((Int.tmod (wr .i64 (a0)) 9) == (Int.tmod (wr .i64 (a2)) 9)) then (some ((wr .i64 (1 + (Int.tmod (wr .i64 (a1)) 3))) == (wr .i64 (1 + (Int.tmod (wr .i64 (a3)) 3))))) else (some false)) fun y27 => bif ((((y2.1.X == y3.1.X) && ((y2.1.Y == y3.1.Y) && (y2.1.Z == y3.1.Z)))) != y27) then (some false) else (Option.bind (G15 (Int.tmod (wr .i64 (a0)) 9) 4) fun y31 => Option.bind (G29 y31.1 (wr .i64 (4 - (wr .i64 (1 + (Int.tmod (wr .i64 (a1)) 3)))))) fun y32 => Option.bind (bif (y31.2 == 0) then (some y32.2) else (some false)) fun y33 => Option.bind (bif y33 then (some (((y32.1.X == (wr .i64 (0 - y2.1.X))) && ((y32.1.Y == (wr .i64 (0 - y2.1.Y))) && (y32.1.Z == (wr .i64 (0 - y2.1.Z))))))) else (some false)) fun y35 => some y35))))

theorem T5 (C : Nat → List A → Option A) (n : Nat) (h10 : Orc10 C) (h15 : Orc15 C) (h19 : Orc19 C) (h29 : Orc29 C) (a0 : Int) (a1 : Int) (a2 : Int) (a3 : Int) : J (fun (o : R) y => ∃ v, o.1 = .ret v ∧ snap o.2 v = (A.v (Value.bool y))) (evCall1 (cx C) (evCall (cx C) (n+4)) (n+4) 5 [(A.v (Value.int .u8 a0)), (A.v (Value.int .u8 a1)), (A.v (Value.int .u8 a2)), (A.v (Value.int .u8 a3))] [] 0) some (F5 n a0 a1 a2 a3) some := by
  refine .lp (e5 ..) ?_
  unfold F5
  refine .bd (g := fun (y : Bool) => (A.v (Value.bool y))) (h10 ()) fun y1 => ?_
  refine .st (v := (A.v (Value.bool (!y1)))) (by kernel_rfl) ?_
  refine .bi ?_ ?_
  · exact .lf rfl rfl ⟨_, rfl, rfl⟩
  · refine .st (v := (A.v (Value.int .i64 (wr .i64 (a0))))) (aConvert_int (hs := by kernel_rfl) (hd := by kernel_rfl) ..) ?_
    refine .st (v := (A.v (Value.int .i64 (Int.tmod (wr .i64 (a0)) 9)))) (aBin_rem (hb := by decide) ..) ?_
    refine .st (v := (A.v (Value.int .i64 (wr .i64 (a1))))) (aConvert_int (hs := by kernel_rfl) (hd := by kernel_rfl) ..) ?_
    refine .st (v := (A.v (Value.int .i64 (Int.tmod (wr .i64 (a1)) 3)))) (aBin_rem (hb := by decide) ..) ?_
    refine .st (v := (A.v (Value.int .i64 (wr .i64 (1 + (Int.tmod (wr .i64 (a1)) 3)))))) (aBin_add ..) ?_
    refine .st (v := (A.v (Value.int .i64 (wr .i64 (a2))))) (aConvert_int (hs := by kernel_rfl) (hd := by kernel_rfl) ..) ?_
    refine .st (v := (A.v (Value.int .i64 (Int.tmod (wr .i64 (a2)) 9)))) (aBin_rem (hb := by decide) ..) ?_
    refine .st (v := (A.v (Value.int .i64 (wr .i64 (a3))))) (aConvert_int (hs := by kernel_rfl) (hd := by kernel_rfl) ..) ?_
    refine .st (v := (A.v (Value.int .i64 (Int.tmod (wr .i64 (a3)) 3)))) (aBin_rem (hb := by decide) ..) ?_
    refine .st (v := (A.v (Value.int .i64 (wr .i64 (1 + (Int.tmod (wr .i64 (a3)) 3)))))) (aBin_add ..) ?_
    refine .bd (g := fun (y : (S_Vec × Bool)) => (A.tup [(A.agg [(A.v (Value.int .i64 y.1.X)), (A.v (Value.int .i64 y.1.Y)), (A.v (Value.int .i64 y.1.Z))]), (A.v (Value.bool y.2))])) (h29 (Int.tmod (wr .i64 (a0)) 9) (wr .i64 (1 + (Int.tmod (wr .i64 (a1)) 3)))) fun y2 => ?_
    refine .st (v := (A.agg [(A.v (Value.int .i64 y2.1.X)), (A.v (Value.int .i64 y2.1.Y)), (A.v (Value.int .i64 y2.1.Z))])) (by kernel_rfl) ?_
    refine .st (v := (A.v (Value.bool y2.2))) (by kernel_rfl) ?_
    refine .st (v := ((A.ptr 0 0), [Blk.box [(A.v (Value.int .i64 0)), (A.v (Value.int .i64 0)), (A.v (Value.int .i64 0))]])) (by kernel_rfl) ?_
    refine .st (v := [Blk.box [(A.v (Value.int .i64 y2.1.X)), (A.v (Value.int .i64 y2.1.Y)), (A.v (Value.int .i64 y2.1.Z))]]) (by kernel_rfl) ?_
    refine .bd (g := fun (y : (S_Vec × Bool)) => (A.tup [(A.agg [(A.v (Value.int .i64 y.1.X)), (A.v (Value.int .i64 y.1.Y)), (A.v (Value.int .i64 y.1.Z))]), (A.v (Value.bool y.2))])) (h29 (Int.tmod (wr .i64 (a2)) 9) (wr .i64 (1 + (Int.tmod (wr .i64 (a3)) 3)))) fun y3 => ?_
    refine .st (v := (A.agg [(A.v (Value.int .i64 y3.1.X)), (A.v (Value.int .i64 y3.1.Y)), (A.v (Value.int .i64 y3.1.Z))])) (by kernel_rfl) ?_
    refine .st (v := (A.v (Value.bool y3.2))) (by kernel_rfl) ?_
    refine .st (v := ((A.ptr 1 0), [Blk.box [(A.v (Value.int .i64 y2.1.X)), (A.v (Value.int .i64 y2.1.Y)), (A.v (Value.int .i64 y2.1.Z))], Blk.box [(A.v (Value.int .i64 0)), (A.v (Value.int .i64 0)), (A.v (Value.int .i64 0))]])) (by kernel_rfl) ?_
    refine .st (v := [Blk.box [(A.v (Value.int .i64 y2.1.X)), (A.v (Value.int .i64 y2.1.Y)), (A.v (Value.int .i64 y2.1.Z))], Blk.box [(A.v (Value.int .i64 y3.1.X)), (A.v (Value.int .i64 y3.1.Y)), (A.v (Value.int .i64 y3.1.Z))]]) (by kernel_rfl) ?_
    refine .st (v := (A.agg [(A.v (Value.int .i64 y2.1.X)), (A.v (Value.int .i64 y2.1.Y)), (A.v (Value.int .i64 y2.1.Z))])) (by kernel_rfl) ?_
    refine .st (v := (A.agg [(A.v (Value.int .i64 y2.1.X)), (A.v (Value.int .i64 y2.1.Y)), (A.v (Value.int .i64 y2.1.Z))])) (by kernel_rfl) ?_
    refine .bd (g := fun (y : (Int × Int)) => (A.tup [(A.v (Value.int .i64 y.1)), (A.v (Value.int .i64 y.2))])) (h19 y2.1 y2.1) fun y4 => ?_
    refine .st (v := (A.v (Value.int .i64 y4.1))) (by kernel_rfl) ?_
    refine .st (v := (A.v (Value.int .i64 y4.2))) (by kernel_rfl) ?_
    refine .st (v := (A.v (Value.bool (!y2.2)))) (by kernel_rfl) ?_
    refine .bg (fun t (y : Bool) => ∃ j6 j7 : A, t = [(A.v (Value.bool y)), j6, j7]) ?_ ?_
    · refine .bi ?_ ?_
      · exact .lg ⟨_, _, rfl⟩
      · refine .st (v := (A.v (Value.bool (!y3.2)))) (by kernel_rfl) ?_
        exact .lg ⟨_, _, rfl⟩
    rintro _ y5 ⟨j6, j7, rfl⟩
    iterate 3 refine .uc ?_
    refine .bg (fun t (y : Bool) => ∃ j9 j10 : A, t = [(A.v (Value.bool y)), j9, j10]) ?_ ?_
    · refine .bi ?_ ?_
      · exact .lg ⟨_, _, rfl⟩
      · refine .st (v := (A.v (Value.bool (y4.2 != 0)))) (aBin_neq ..) ?_
        exact .lg ⟨_, _, rfl⟩
    rintro _ y8 ⟨j9, j10, rfl⟩
    iterate 3 refine .uc ?_
    refine .bi ?_ ?_
    · exact .lf rfl rfl ⟨_, rfl, rfl⟩
    · refine .st (v := (A.v (Value.bool ((Int.tmod (wr .i64 (a0)) 9) == 0)))) (aBin_eql ..) ?_
      refine .bg (fun t (y : Bool) => ∃ j12 j13 : A, t = [(A.v (Value.bool y)), j12, j13]) ?_ ?_
      · refine .bi ?_ ?_
        · refine .st (v := (A.v (Value.bool ((wr .i64 (1 + (Int.tmod (wr .i64 (a1)) 3))) == 2)))) (aBin_eql ..) ?_
          exact .lg ⟨_, _, rfl⟩
        · exact .lg ⟨_, _, rfl⟩
      rintro _ y11 ⟨j12, j13, rfl⟩
      iterate 3 refine .uc ?_
      refine .bg (fun t (y : Bool) => ∃ j15 j16 : A, t = [(A.v (Value.bool y)), j15, j16]) ?_ ?_
      · refine .bi ?_ ?_
        · refine .st (v := (A.v (Value.bool (y4.1 != 0)))) (aBin_neq ..) ?_
          exact .lg ⟨_, _, rfl⟩
        · exact .lg ⟨_, _, rfl⟩
      rintro _ y14 ⟨j15, j16, rfl⟩
      iterate 3 refine .uc ?_
      refine .bg (fun t (y : Bool) => ∃ j21 j22 j23 j24 j25 j26 : A, t = [(A.v (Value.bool y)), j21, j22, j23, j24, j25, j26]) ?_ ?_
      · refine .bi ?_ ?_
        · exact .lg ⟨_, _, _, _, _, _, rfl⟩
        · refine .st (v := (A.v (Value.bool (!y11)))) (by kernel_rfl) ?_
          refine .bg (fun t (y : Bool) => ∃ j18 j19 : A, t = [(A.v (Value.bool y)), j18, j19]) ?_ ?_
          · refine .bi ?_ ?_
            · refine .st (v := (A.v (Value.bool (y4.1 != 707281)))) (aBin_neq ..) ?_
              exact .lg ⟨_, _, rfl⟩
            · exact .lg ⟨_, _, rfl⟩
          rintro _ y17 ⟨j18, j19, rfl⟩
          iterate 3 refine .uc ?_
          exact .lg ⟨_, _, _, _, _, _, rfl⟩
      rintro _ y20 ⟨j21, j22, j23, j24, j25, j26, rfl⟩
      iterate 7 refine .uc ?_
      refine .bi ?_ ?_
      · exact .lf rfl rfl ⟨_, rfl, rfl⟩
      · refine .st (v := (A.agg [(A.v (Value.int .i64 y2.1.X)), (A.v (Value.int .i64 y2.1.Y)), (A.v (Value.int .i64 y2.1.Z))])) (by kernel_rfl) ?_
        refine .st (v := (A.agg [(A.v (Value.int .i64 y3.1.X)), (A.v (Value.int .i64 y3.1.Y)), (A.v (Value.int .i64 y3.1.Z))])) (by kernel_rfl) ?_
        refine .st (v := (A.v (Value.bool (((y2.1.X == y3.1.X) && ((y2.1.Y == y3.1.Y) && (y2.1.Z == y3.1.Z))))))) (by kernel_rfl) ?_
        refine .st (v := (A.v (Value.bool ((Int.tmod (wr .i64 (a0)) 9) == (Int.tmod (wr .i64 (a2)) 9))))) (aBin_eql ..) ?_
        refine .bg (fun t (y : Bool) => ∃ j28 j29 j30 : A, t = [(A.v (Value.bool y)), j28, j29, j30]) ?_ ?_
        · refine .bi ?_ ?_
          · refine .st (v := (A.v (Value.bool ((wr .i64 (1 + (Int.tmod (wr .i64 (a1)) 3))) == (wr .i64 (1 + (Int.tmod (wr .i64 (a3)) 3))))))) (aBin_eql ..) ?_
            exact .lg ⟨_, _, _, rfl⟩
          · exact .lg ⟨_, _, _, rfl⟩
        rintro _ y27 ⟨j28, j29, j30, rfl⟩
        iterate 4 refine .uc ?_
        refine .st (v := (A.v (Value.bool ((((y2.1.X == y3.1.X) && ((y2.1.Y == y3.1.Y) && (y2.1.Z == y3.1.Z)))) != y27)))) (by kernel_rfl) ?_
        refine .bi ?_ ?_
        · exact .lf rfl rfl ⟨_, rfl, rfl⟩
        · refine .bd (g := fun (y : (Int × Int)) => (A.tup [(A.v (Value.int .i64 y.1)), (A.v (Value.int .i64 y.2))])) (h15 (Int.tmod (wr .i64 (a0)) 9) 4) fun y31 => ?_
          refine .st (v := (A.v (Value.int .i64 y31.1))) (by kernel_rfl) ?_
          refine .st (v := (A.v (Value.int .i64 y31.2))) (by kernel_rfl) ?_
          refine .st (v := (A.v (Value.int .i64 (wr .i64 (4 - (wr .i64 (1 + (Int.tmod (wr .i64 (a1)) 3)))))))) (aBin_sub ..) ?_
          refine .bd (g := fun (y : (S_Vec × Bool)) => (A.tup [(A.agg [(A.v (Value.int .i64 y.1.X)), (A.v (Value.int .i64 y.1.Y)), (A.v (Value.int .i64 y.1.Z))]), (A.v (Value.bool y.2))])) (h29 y31.1 (wr .i64 (4 - (wr .i64 (1 + (Int.tmod (wr .i64 (a1)) 3)))))) fun y32 => ?_
          refine .st (v := (A.agg [(A.v (Value.int .i64 y32.1.X)), (A.v (Value.int .i64 y32.1.Y)), (A.v (Value.int .i64 y32.1.Z))])) (by kernel_rfl) ?_
          refine .st (v := (A.v (Value.bool y32.2))) (by kernel_rfl) ?_
          refine .st (v := ((A.ptr 2 0), [Blk.box [(A.v (Value.int .i64 y2.1.X)), (A.v (Value.int .i64 y2.1.Y)), (A.v (Value.int .i64 y2.1.Z))], Blk.box [(A.v (Value.int .i64 y3.1.X)), (A.v (Value.int .i64 y3.1.Y)), (A.v (Value.int .i64 y3.1.Z))], Blk.box [(A.v (Value.int .i64 0)), (A.v (Value.int .i64 0)), (A.v (Value.int .i64 0))]])) (by kernel_rfl) ?_
          refine .st (v := [Blk.box [(A.v (Value.int .i64 y2.1.X)), (A.v (Value.int .i64 y2.1.Y)), (A.v (Value.int .i64 y2.1.Z))], Blk.box [(A.v (Value.int .i64 y3.1.X)), (A.v (Value.int .i64 y3.1.Y)), (A.v (Value.int .i64 y3.1.Z))], Blk.box [(A.v (Value.int .i64 y32.1.X)), (A.v (Value.int .i64 y32.1.Y)), (A.v (Value.int .i64 y32.1.Z))]]) (by kernel_rfl) ?_
          refine .st (v := (A.v (Value.bool (y31.2 == 0)))) (aBin_eql ..) ?_
          refine .bg (fun t (y : Bool) => ∃ j34 : A, t = [(A.v (Value.bool y)), j34]) ?_ ?_
          · refine .bi ?_ ?_
            · exact .lg ⟨_, rfl⟩
            · exact .lg ⟨_, rfl⟩
          rintro _ y33 ⟨j34, rfl⟩
          iterate 2 refine .uc ?_
          refine .bg (fun t (y : Bool) => ∃ j36 j37 j38 j39 j40 j41 j42 j43 j44 j45 j46 j47 : A, t = [(A.v (Value.bool y)), j36, j37, j38, j39, j40, j41, j42, j43, j44, j45, j46, j47]) ?_ ?_
          · refine .bi ?_ ?_
            · refine .st (v := (A.agg [(A.v (Value.int .i64 y32.1.X)), (A.v (Value.int .i64 y32.1.Y)), (A.v (Value.int .i64 y32.1.Z))])) (by kernel_rfl) ?_
              refine .st (v := (A.ptr 0 0)) (by kernel_rfl) ?_
              refine .st (v := (A.v (Value.int .i64 y2.1.X))) (by kernel_rfl) ?_
              refine .st (v := (A.v (Value.int .i64 (wr .i64 (0 - y2.1.X))))) (by kernel_rfl) ?_
              refine .st (v := (A.ptr 0 1)) (by kernel_rfl) ?_
              refine .st (v := (A.v (Value.int .i64 y2.1.Y))) (by kernel_rfl) ?_
              refine .st (v := (A.v (Value.int .i64 (wr .i64 (0 - y2.1.Y))))) (by kernel_rfl) ?_
              refine .st (v := (A.ptr 0 2)) (by kernel_rfl) ?_
              refine .st (v := (A.v (Value.int .i64 y2.1.Z))) (by kernel_rfl) ?_
              refine .st (v := (A.v (Value.int .i64 (wr .i64 (0 - y2.1.Z))))) (by kernel_rfl) ?_
              refine .st (v := (A.agg [(A.v (Value.int .i64 (wr .i64 (0 - y2.1.X)))), (A.v (Value.int .i64 (wr .i64 (0 - y2.1.Y)))), (A.v (Value.int .i64 (wr .i64 (0 - y2.1.Z))))])) (by kernel_rfl) ?_
              refine .st (v := (A.v (Value.bool (((y32.1.X == (wr .i64 (0 - y2.1.X))) && ((y32.1.Y == (wr .i64 (0 - y2.1.Y))) && (y32.1.Z == (wr .i64 (0 - y2.1.Z))))))))) (by kernel_rfl) ?_
              exact .lg ⟨_, _, _, _, _, _, _, _, _, _, _, _, rfl⟩
            · exact .lg ⟨_, _, _, _, _, _, _, _, _, _, _, _, rfl⟩
          rintro _ y35 ⟨j36, j37, j38, j39, j40, j41, j42, j43, j44, j45, j46, j47, rfl⟩
          iterate 13 refine .uc ?_
          exact .lf rfl rfl ⟨_, rfl, rfl⟩

def G5 (a0 : Int) (a1 : Int) (a2 : Int) (a3 : Int) : Option Bool := F5 fuel0 a0 a1 a2 a3

def Orc5 (C : Nat → List A → Option A) : Prop := ∀ (a0 : Int) (a1 : Int) (a2 : Int) (a3 : Int), C 5 [(A.v (Value.int .u8 a0)), (A.v (Value.int .u8 a1)), (A.v (Value.int .u8 a2)), (A.v (Value.int .u8 a3))] = (G5 a0 a1 a2 a3).map fun y => (A.v (Value.bool y))

def F6 (n : Nat) (a0 : Int) (a1 : Int) (a2 : Int) (a3 : Int) : Option Bool :=
  Option.bind (G10 ) fun y1 => bif (!y1) then (some false) else (Option.bind (G15 (Int.tmod (wr .i64 (a0)) 9) (Int.tmod (wr .i64 (a2)) 8)) fun y2 => Option.bind (G15 y2.1 (Int.tmod (wr .i64 (a3)) 8)) fun y3 => Option.bind (G15 (Int.tmod (wr .i64 (a0)) 9) (Int.tmod (wr .i64 ((Int.tmod (wr .i64 (a2)) 8) + (Int.tmod (wr .i64 (a3)) 8))) 8)) fun y4 => Option.bind (G17 (Int.tmod (wr .i64 (a0)) 9)) fun y5 => Option.bind (G17 y5.1) fun y6 => Option.bind (bif (y2.2 != 0) then (some true) else (some (y3.2 != 0))) fun y7 => Option.bind (bif y7 then (some true) else (some (y4.2 != 0))) fun y10 => Option.bind (bif y10 then (some true) else (some (y5.2 != 0))) fun y13 => Option.bind (bif y13 then (some true) else (some (y6.2 != 0))) fun y16 => Option.bind (bif y16 then (some true) else (some (y3.1 != y4.1))) fun y19 => Option.bind (bif y19 then (some true) else (some (y6.1 != (Int.tmod (wr .i64 (a0)) 9)))) fun y23 => bif y23 then (some false) else (Option.bind (G17 y2.1) fun y27 => Option.bind (G15 y5.1 (Int.tmod (wr .i64 (8 - (Int.tmod (wr .i64 (a2)) 8))) 8)) fun y28 => Option.bind (G29 (Int.tmod (wr .i64 (a0)) 9) (wr .i64 (1 + (Int.tmod (wr .i64 (a1)) 3)))) fun y29 => Option.bind (G29 y5.1 (wr .i64 (1 + (Int.tmod (wr .i64 (a1)) 3)))) fun y30 => Option.bind (bif (y27.2 == 0) then (some (y28.2 == 0)) else (some false)) fun y31 => Option.bind (bif y31 then (some (y27.1 == y28.1)) else (some false)) fun y34 => Option.bind (bif y34 then (some y29.2) else (some false)) fun y38 => Option.bind (bif y38 then (some y30.2) else (some false)) fun y40 => Option.bind (bif y40 then (some (((y30.1.X == (wr .i64 (0 - y29.1.X))) && ((y30.1.Y == y29.1.Y) && (y30.1.Z == y29.1.Z))))) else (some false)) fun y42 => some y42))

theorem T6 (C : Nat → List A → Option A) (n : Nat) (h10 : Orc10 C) (h15 : Orc15 C) (h17 : Orc17 C) (h29 : Orc29 C) (a0 : Int) (a1 : Int) (a2 : Int) (a3 : Int) : J (fun (o : R) y => ∃ v, o.1 = .ret v ∧ snap o.2 v = (A.v (Value.bool y))) (evCall1 (cx C) (evCall (cx C) (n+4)) (n+4) 6 [(A.v (Value.int .u8 a0)), (A.v (Value.int .u8 a1)), (A.v (Value.int .u8 a2)), (A.v (Value.int .u8 a3))] [] 0) some (F6 n a0 a1 a2 a3) some := by
  refine .lp (e6 ..) ?_
  unfold F6
  refine .bd (g := fun (y : Bool) => (A.v (Value.bool y))) (h10 ()) fun y1 => ?_
  refine .st (v := (A.v (Value.bool (!y1)))) (by kernel_rfl) ?_
  refine .bi ?_ ?_
  · exact .lf rfl rfl ⟨_, rfl, rfl⟩
  · refine .st (v := (A.v (Value.int .i64 (wr .i64 (a0))))) (aConvert_int (hs := by kernel_rfl) (hd := by kernel_rfl) ..) ?_
    refine .st (v := (A.v (Value.int .i64 (Int.tmod (wr .i64 (a0)) 9)))) (aBin_rem (hb := by decide) ..) ?_
    refine .st (v := (A.v (Value.int .i64 (wr .i64 (a1))))) (aConvert_int (hs := by kernel_rfl) (hd := by kernel_rfl) ..) ?_
    refine .st (v := (A.v (Value.int .i64 (Int.tmod (wr .i64 (a1)) 3)))) (aBin_rem (hb := by decide) ..) ?_
    refine .st (v := (A.v (Value.int .i64 (wr .i64 (1 + (Int.tmod (wr .i64 (a1)) 3)))))) (aBin_add ..) ?_
    refine .st (v := (A.v (Value.int .i64 (wr .i64 (a2))))) (aConvert_int (hs := by kernel_rfl) (hd := by kernel_rfl) ..) ?_
    refine .st (v := (A.v (Value.int .i64 (Int.tmod (wr .i64 (a2)) 8)))) (aBin_rem (hb := by decide) ..) ?_
    refine .st (v := (A.v (Value.int .i64 (wr .i64 (a3))))) (aConvert_int (hs := by kernel_rfl) (hd := by kernel_rfl) ..) ?_
    refine .st (v := (A.v (Value.int .i64 (Int.tmod (wr .i64 (a3)) 8)))) (aBin_rem (hb := by decide) ..) ?_
    refine .bd (g := fun (y : (Int × Int)) => (A.tup [(A.v (Value.int .i64 y.1)), (A.v (Value.int .i64 y.2))])) (h15 (Int.tmod (wr .i64 (a0)) 9) (Int.tmod (wr .i64 (a2)) 8)) fun y2 => ?_
    refine .st (v := (A.v (Value.int .i64 y2.1))) (by kernel_rfl) ?_
    refine .st (v := (A.v (Value.int .i64 y2.2))) (by kernel_rfl) ?_
    refine .bd (g := fun (y : (Int × Int)) => (A.tup [(A.v (Value.int .i64 y.1)), (A.v (Value.int .i64 y.2))])) (h15 y2.1 (Int.tmod (wr .i64 (a3)) 8)) fun y3 => ?_
    refine .st (v := (A.v (Value.int .i64 y3.1))) (by kernel_rfl) ?_
    refine .st (v := (A.v (Value.int .i64 y3.2))) (by kernel_rfl) ?_
    refine .st (v := (A.v (Value.int .i64 (wr .i64 ((Int.tmod (wr .i64 (a2)) 8) + (Int.tmod (wr .i64 (a3)) 8)))))) (aBin_add ..) ?_
    refine .st (v := (A.v (Value.int .i64 (Int.tmod (wr .i64 ((Int.tmod (wr .i64 (a2)) 8) + (Int.tmod (wr .i64 (a3)) 8))) 8)))) (aBin_rem (hb := by decide) ..) ?_
    refine .bd (g := fun (y : (Int × Int)) => (A.tup [(A.v (Value.int .i64 y.1)), (A.v (Value.int .i64 y.2))])) (h15 (Int.tmod (wr .i64 (a0)) 9) (Int.tmod (wr .i64 ((Int.tmod (wr .i64 (a2)) 8) + (Int.tmod (wr .i64 (a3)) 8))) 8)) fun y4 => ?_
    refine .st (v := (A.v (Value.int .i64 y4.1))) (by kernel_rfl) ?_
    refine .st (v := (A.v (Value.int .i64 y4.2))) (by kernel_rfl) ?_
    refine .bd (g := fun (y : (Int × Int)) => (A.tup [(A.v (Value.int .i64 y.1)), (A.v (Value.int .i64 y.2))])) (h17 (Int.tmod (wr .i64 (a0)) 9)) fun y5 => ?_
    refine .st (v := (A.v (Value.int .i64 y5.1))) (by kernel_rfl) ?_
    refine .st (v := (A.v (Value.int .i64 y5.2))) (by kernel_rfl) ?_
    refine .bd (g := fun (y : (Int × Int)) => (A.tup [(A.v (Value.int .i64 y.1)), (A.v (Value.int .i64 y.2))])) (h17 y5.1) fun y6 => ?_
    refine .st (v := (A.v (Value.int .i64 y6.1))) (by kernel_rfl) ?_
    refine .st (v := (A.v (Value.int .i64 y6.2))) (by kernel_rfl) ?_
    refine .st (v := (A.v (Value.bool (y2.2 != 0)))) (aBin_neq ..) ?_
    refine .bg (fun t (y : Bool) => ∃ j8 j9 : A, t = [(A.v (Value.bool y)), j8, j9]) ?_ ?_
    · refine .bi ?_ ?_
      · exact .lg ⟨_, _, rfl⟩
      · refine .st (v := (A.v (Value.bool (y3.2 != 0)))) (aBin_neq ..) ?_
        exact .lg ⟨_, _, rfl⟩
    rintro _ y7 ⟨j8, j9, rfl⟩
    iterate 3 refine .uc ?_
    refine .bg (fun t (y : Bool) => ∃ j11 j12 : A, t = [(A.v (Value.bool y)), j11, j12]) ?_ ?_
    · refine .bi ?_ ?_
      · exact .lg ⟨_, _, rfl⟩
      · refine .st (v := (A.v (Value.bool (y4.2 != 0)))) (aBin_neq ..) ?_
        exact .lg ⟨_, _, rfl⟩
    rintro _ y10 ⟨j11, j12, rfl⟩
    iterate 3 refine .uc ?_
    refine .bg (fun t (y : Bool) => ∃ j14 j15 : A, t = [(A.v (Value.bool y)), j14, j15]) ?_ ?_
    · refine .bi ?_ ?_
      · exact .lg ⟨_, _, rfl⟩
      · refine .st (v := (A.v (Value.bool (y5.2 != 0)))) (aBin_neq ..) ?_
        exact .lg ⟨_, _, rfl⟩
    rintro _ y13 ⟨j14, j15, rfl⟩
    iterate 3 refine .uc ?_
    refine .bg (fun t (y : Bool) => ∃ j17 j18 : A, t = [(A.v (Value.bool y)), j17, j18]) ?_ ?_
    · refine .bi ?_ ?_
      · exact .lg ⟨_, _, rfl⟩
      · refine .st (v := (A.v (Value.bool (y6.2 != 0)))) (aBin_neq ..) ?_
        exact .lg ⟨_, _, rfl⟩
    rintro _ y16 ⟨j17, j18, rfl⟩
    iterate 3 refine .uc ?_
    refine .bg (fun t (y : Bool) => ∃ j20 j21 j22 : A, t = [(A.v (Value.bool y)), j20, j21, j22]) ?_ ?_
    · refine .bi ?_ ?_
      · exact .lg ⟨_, _, _, rfl⟩
      · refine .st (v := (A.v (Value.bool (y3.1 != y4.1)))) (aBin_neq ..) ?_
        exact .lg ⟨_, _, _, rfl⟩
    rintro _ y19 ⟨j20, j21, j22, rfl⟩
    iterate 4 refine .uc ?_
    refine .bg (fun t (y : Bool) => ∃ j24 j25 j26 : A, t = [(A.v (Value.bool y)), j24, j25, j26]) ?_ ?_
    · refine .bi ?_ ?_
      · exact .lg ⟨_, _, _, rfl⟩
      · refine .st (v := (A.v (Value.bool (y6.1 != (Int.tmod (wr .i64 (a0)) 9))))) (aBin_neq ..) ?_
        exact .lg ⟨_, _, _, rfl⟩
    rintro _ y23 ⟨j24, j25, j26, rfl⟩
    iterate 4 refine .uc ?_
    refine .bi ?_ ?_
    · exact .lf rfl rfl ⟨_, rfl, rfl⟩
    · refine .bd (g := fun (y : (Int × Int)) => (A.tup [(A.v (Value.int .i64 y.1)), (A.v (Value.int .i64 y.2))])) (h17 y2.1) fun y27 => ?_
      refine .st (v := (A.v (Value.int .i64 y27.1))) (by kernel_rfl) ?_
      refine .st (v := (A.v (Value.int .i64 y27.2))) (by kernel_rfl) ?_
      refine .st (v := (A.v (Value.int .i64 (wr .i64 (8 - (Int.tmod (wr .i64 (a2)) 8)))))) (aBin_sub ..) ?_
      refine .st (v := (A.v (Value.int .i64 (Int.tmod (wr .i64 (8 - (Int.tmod (wr .i64 (a2)) 8))) 8)))) (aBin_rem (hb := by decide) ..) ?_
      refine .bd (g := fun (y : (Int × Int)) => (A.tup [(A.v (Value.int .i64 y.1)), (A.v (Value.int .i64 y.2))])) (h15 y5.1 (Int.tmod (wr .i64 (8 - (Int.tmod (wr .i64 (a2)) 8))) 8)) fun y28 => ?_
      refine .st (v := (A.v (Value.int .i64 y28.1))) (by kernel_rfl) ?_
      refine .st (v := (A.v (Value.int .i64 y28.2))) (by kernel_rfl) ?_
      refine .bd (g := fun (y : (S_Vec × Bool)) => (A.tup [(A.agg [(A.v (Value.int .i64 y.1.X)), (A.v (Value.int .i64 y.1.Y)), (A.v (Value.int .i64 y.1.Z))]), (A.v (Value.bool y.2))])) (h29 (Int.tmod (wr .i64 (a0)) 9) (wr .i64 (1 + (Int.tmod (wr .i64 (a1)) 3)))) fun y29 => ?_
      refine .st (v := (A.agg [(A.v (Value.int .i64 y29.1.X)), (A.v (Value.int .i64 y29.1.Y)), (A.v (Value.int .i64 y29.1.Z))])) (by kernel_rfl) ?_
      refine .st (v := (A.v (Value.bool y29.2))) (by kernel_rfl) ?_
      refine .st (v := ((A.ptr 0 0), [Blk.box [(A.v (Value.int .i64 0)), (A.v (Value.int .i64 0)), (A.v (Value.int .i64 0))]])) (by kernel_rfl) ?_
      refine .st (v := [Blk.box [(A.v (Value.int .i64 y29.1.X)), (A.v (Value.int .i64 y29.1.Y)), (A.v (Value.int .i64 y29.1.Z))]]) (by kernel_rfl) ?_
      refine .bd (g := fun (y : (S_Vec × Bool)) => (A.tup [(A.agg [(A.v (Value.int .i64 y.1.X)), (A.v (Value.int .i64 y.1.Y)), (A.v (Value.int .i64 y.1.Z))]), (A.v (Value.bool y.2))])) (h29 y5.1 (wr .i64 (1 + (Int.tmod (wr .i64 (a1)) 3)))) fun y30 => ?_
      refine .st (v := (A.agg [(A.v (Value.int .i64 y30.1.X)), (A.v (Value.int .i64 y30.1.Y)), (A.v (Value.int .i64 y30.1.Z))])) (by kernel_rfl) ?_
      refine .st (v := (A.v (Value.bool y30.2))) (by kernel_rfl) ?_
      refine .st (v := ((A.ptr 1 0), [Blk.box [(A.v (Value.int .i64 y29.1.X)), (A.v (Value.int .i64 y29.1.Y)), (A.v (Value.int .i64 y29.1.Z))], Blk.box [(A.v (Value.int .i64 0)), (A.v (Value.int .i64 0)), (A.v (Value.int .i64 0))]])) (by kernel_rfl) ?_
      refine .st (v := [Blk.box [(A.v (Value.int .i64 y29.1.X)), (A.v (Value.int .i64 y29.1.Y)), (A.v (Value.int .i64 y29.1.Z))], Blk.box [(A.v (Value.int .i64 y30.1.X)), (A.v (Value.int .i64 y30.1.Y)), (A.v (Value.int .i64 y30.1.Z))]]) (by kernel_rfl) ?_
      refine .st (v := (A.v (Value.bool (y27.2 == 0)))) (aBin_eql ..) ?_
      refine .bg (fun t (y : Bool) => ∃ j32 j33 : A, t = [(A.v (Value.bool y)), j32, j33]) ?_ ?_
      · refine .bi ?_ ?_
        · refine .st (v := (A.v (Value.bool (y28.2 == 0)))) (aBin_eql ..) ?_
          exact .lg ⟨_, _, rfl⟩
        · exact .lg ⟨_, _, rfl⟩
      rintro _ y31 ⟨j32, j33, rfl⟩
      iterate 3 refine .uc ?_
      refine .bg (fun t (y : Bool) => ∃ j35 j36 j37 : A, t = [(A.v (Value.bool y)), j35, j36, j37]) ?_ ?_
      · refine .bi ?_ ?_
        · refine .st (v := (A.v (Value.bool (y27.1 == y28.1)))) (aBin_eql ..) ?_
          exact .lg ⟨_, _, _, rfl⟩
        · exact .lg ⟨_, _, _, rfl⟩
      rintro _ y34 ⟨j35, j36, j37, rfl⟩
      iterate 4 refine .uc ?_
      refine .bg (fun t (y : Bool) => ∃ j39 : A, t = [(A.v (Value.bool y)), j39]) ?_ ?_
      · refine .bi ?_ ?_
        · exact .lg ⟨_, rfl⟩
        · exact .lg ⟨_, rfl⟩
      rintro _ y38 ⟨j39, rfl⟩
      iterate 2 refine .uc ?_
      refine .bg (fun t (y : Bool) => ∃ j41 : A, t = [(A.v (Value.bool y)), j41]) ?_ ?_
      · refine .bi ?_ ?_
        · exact .lg ⟨_, rfl⟩
        · exact .lg ⟨_, rfl⟩
      rintro _ y40 ⟨j41, rfl⟩
      iterate 2 refine .uc ?_
      refine .bg (fun t (y : Bool) => ∃ j43 j44 j45 j46 j47 j48 j49 j50 j51 j52 : A, t = [(A.v (Value.bool y)), j43, j44, j45, j46, j47, j48, j49, j50, j51, j52]) ?_ ?_
      · refine .bi ?_ ?_
        · refine .st (v := (A.agg [(A.v (Value.int .i64 y30.1.X)), (A.v (Value.int .i64 y30.1.Y)), (A.v (Value.int .i64 y30.1.Z))])) (by kernel_rfl) ?_
          refine .st (v := (A.ptr 0 0)) (by kernel_rfl) ?_
          refine .st (v := (A.v (Value.int .i64 y29.1.X))) (by kernel_rfl) ?_
          refine .st (v := (A.v (Value.int .i64 (wr .i64 (0 - y29.1.X))))) (by kernel_rfl) ?_
          refine .st (v := (A.ptr 0 1)) (by kernel_rfl) ?_
          refine .st (v := (A.v (Value.int .i64 y29.1.Y))) (by kernel_rfl) ?_
          refine .st (v := (A.ptr 0 2)) (by kernel_rfl) ?_
          refine .st (v := (A.v (Value.int .i64 y29.1.Z))) (by kernel_rfl) ?_
          refine .st (v := (A.agg [(A.v (Value.int .i64 (wr .i64 (0 - y29.1.X)))), (A.v (Value.int .i64 y29.1.Y)), (A.v (Value.int .i64 y29.1.Z))])) (by kernel_rfl) ?_
          refine .st (v := (A.v (Value.bool (((y30.1.X == (wr .i64 (0 - y29.1.X))) && ((y30.1.Y == y29.1.Y) && (y30.1.Z == y29.1.Z))))))) (by kernel_rfl) ?_
          exact .lg ⟨_, _, _, _, _, _, _, _, _, _, rfl⟩
        · exact .lg ⟨_, _, _, _, _, _, _, _, _, _, rfl⟩
      rintro _ y42 ⟨j43, j44, j45, j46, j47, j48, j49, j50, j51, j52, rfl⟩
      iterate 11 refine .uc ?_
      exact .lf rfl rfl ⟨_, rfl, rfl⟩

def G6 (a0 : Int) (a1 : Int) (a2 : Int) (a3 : Int) : Option Bool := F6 fuel0 a0 a1 a2 a3

def Orc6 (C : Nat → List A → Option A) : Prop := ∀ (a0 : Int) (a1 : Int) (a2 : Int) (a3 : Int), C 6 [(A.v (Value.int .u8 a0)), (A.v (Value.int .u8 a1)), (A.v (Value.int .u8 a2)), (A.v (Value.int .u8 a3))] = (G6 a0 a1 a2 a3).map fun y => (A.v (Value.bool y))

def F7_7_1 (n : Nat) (v20 : Int) (v21 : Int) (v22 : Int) (v23 : Int) (v24 : Bool) (v25 : (List S_Vec)) (v26 : Int) (v27 : Int) (v28 : (List Int)) (v29 : Int) (v31 : Int) (v32 : Int) (v33 : Int) (v34 : Int) (v35 : Int) (v36 : Int) (v37 : Int) (v38 : Int) (v39 : Int) (v40 : Int) (v41 : Int) (v42 : Int) : Nat → Int → Option ((Bool) ⊕ (Unit))
  | 0, _ => none
  | m + 1, v30 => bif (decide (v30 < v29)) then (Option.bind (getI v28 v30) fun y43 => Option.bind (bif (decide (y43 < (-524288))) then (some true) else (some (decide (524288 < y43)))) fun y44 => bif y44 then (some ((Sum.inl true))) else (F7_7_1 n v20 v21 v22 v23 v24 v25 v26 v27 v28 v29 v31 v32 v33 v34 v35 v36 v37 v38 v39 v40 v41 v42 m (wr .i64 (v30 + 1)))) else (some ((Sum.inr (()))))

theorem T7_7_1 (C : Nat → List A → Option A) (n : Nat) (h10 : Orc10 C) (h19 : Orc19 C) (h29 : Orc29 C) (v20 : Int) (v21 : Int) (v22 : Int) (v23 : Int) (v24 : Bool) (v25 : (List S_Vec)) (v26 : Int) (v27 : Int) (v28 : (List Int)) (v29 : Int) (v31 : Int) (v32 : Int) (v33 : Int) (v34 : Int) (v35 : Int) (v36 : Int) (v37 : Int) (v38 : Int) (v39 : Int) (v40 : Int) (v41 : Int) (v42 : Int) {ρ γ : Type} {φ : ρ → γ → Prop} {kL : R → Option ρ} {K : ((Bool) ⊕ (Unit)) → Option γ} (kx kg : Nat → St → Option R) (kr : St → Option R) (kp : A → St → Option R) (x0 : ∀ (o0 : Bool) (s50 : A) (s51 : A) (s52 : A), J φ (kr (St.mk [(3, (A.v (Value.int .u8 v20))), (4, (A.v (Value.int .u8 v21))), (5, (A.v (Value.int .u8 v22))), (6, (A.v (Value.int .u8 v23))), (7, (A.ptr 0 0)), (8, (A.ptr 1 0)), (9, (A.ptr 2 0)), (14, (A.v (Value.bool o0))), (38, (A.imm (List.map c_S_Vec v25) true)), (39, (A.v (Value.int .i64 v26))), (40, (A.v (Value.int .i64 v27))), (50, s50), (51, s51), (52, s52)] [Blk.box [(A.v (Value.int .i64 v31)), (A.v (Value.int .i64 v32)), (A.v (Value.int .i64 v33))], Blk.box [(A.v (Value.int .i64 v34)), (A.v (Value.int .i64 v35)), (A.v (Value.int .i64 v36))], Blk.box [(A.v (Value.int .i64 v37)), (A.v (Value.int .i64 v38)), (A.v (Value.int .i64 v39))], Blk.box [(A.v (Value.int .i64 v40)), (A.v (Value.int .i64 v41)), (A.v (Value.int .i64 v42))]])) kL (K (Sum.inl o0)) some) (x1 : ∀ (s50 : A) (s51 : A) (s52 : A), J φ (kx 2 (St.mk [(3, (A.v (Value.int .u8 v20))), (4, (A.v (Value.int .u8 v21))), (5, (A.v (Value.int .u8 v22))), (6, (A.v (Value.int .u8 v23))), (7, (A.ptr 0 0)), (8, (A.ptr 1 0)), (9, (A.ptr 2 0)), (14, (A.v (Value.bool v24))), (38, (A.imm (List.map c_S_Vec v25) true)), (39, (A.v (Value.int .i64 v26))), (40, (A.v (Value.int .i64 v27))), (50, s50), (51, s51), (52, s52)] [Blk.box [(A.v (Value.int .i64 v31)), (A.v (Value.int .i64 v32)), (A.v (Value.int .i64 v33))], Blk.box [(A.v (Value.int .i64 v34)), (A.v (Value.int .i64 v35)), (A.v (Value.int .i64 v36))], Blk.box [(A.v (Value.int .i64 v37)), (A.v (Value.int .i64 v38)), (A.v (Value.int .i64 v39))], Blk.box [(A.v (Value.int .i64 v40)), (A.v (Value.int .i64 v41)), (A.v (Value.int .i64 v42))]])) kL (K (Sum.inr (()))) some) :
    ∀ (m : Nat) (v30 : Int), J φ (loopR (cx C) (evCall (cx C) (n+4)) (n+4) 7 0 1 4 kx kg kr kp m (St.mk [(3, (A.v (Value.int .u8 v20))), (4, (A.v (Value.int .u8 v21))), (5, (A.v (Value.int .u8 v22))), (6, (A.v (Value.int .u8 v23))), (7, (A.ptr 0 0)), (8, (A.ptr 1 0)), (9, (A.ptr 2 0)), (14, (A.v (Value.bool v24))), (38, (A.imm (List.map c_S_Vec v25) true)), (39, (A.v (Value.int .i64 v26))), (40, (A.v (Value.int .i64 v27))), (50, (A.imm (List.map (cI .i64) v28) true)), (51, (A.v (Value.int .i64 v29))), (52, (A.v (Value.int .i64 v30)))] [Blk.box [(A.v (Value.int .i64 v31)), (A.v (Value.int .i64 v32)), (A.v (Value.int .i64 v33))], Blk.box [(A.v (Value.int .i64 v34)), (A.v (Value.int .i64 v35)), (A.v (Value.int .i64 v36))], Blk.box [(A.v (Value.int .i64 v37)), (A.v (Value.int .i64 v38)), (A.v (Value.int .i64 v39))], Blk.box [(A.v (Value.int .i64 v40)), (A.v (Value.int .i64 v41)), (A.v (Value.int .i64 v42))]])) kL (F7_7_1 n v20 v21 v22 v23 v24 v25 v26 v27 v28 v29 v31 v32 v33 v34 v35 v36 v37 v38 v39 v40 v41 v42 m v30) K := by
  intro m
  induction m with
  | zero => intros; exact .nn
  | succ m ih =>
    intro v30
    refine .lp (e7_1 ..) ?_
    unfold F7_7_1
    refine .st (v := (A.v (Value.bool (decide (v30 < v29))))) (aBin_lss ..) ?_
    refine .bi ?_ ?_
    · refine .bd (g := fun (y : Int) => A.ip ((cI .i64) y)) (idx_imm (e := 3) (es := 1) (h1 := by kernel_rfl) (h2 := by kernel_rfl) (h3 := fun _ => rfl) ..) fun y43 => ?_
      refine .st (v := (A.v (Value.int .i64 y43))) (by kernel_rfl) ?_
      refine .st (v := (A.v (Value.bool (decide (y43 < (-524288)))))) (aBin_lss ..) ?_
      refine .bg (fun t (y : Bool) => ∃ j45 j46 : A, t = [(A.v (Value.bool y)), j45, j46]) ?_ ?_
      · refine .bi ?_ ?_
        · exact .lg ⟨_, _, rfl⟩
        · refine .st (v := (A.v (Value.bool (decide (524288 < y43))))) (aBin_gtr ..) ?_
          exact .lg ⟨_, _, rfl⟩
      rintro _ y44 ⟨j45, j46, rfl⟩
      iterate 3 refine .uc ?_
      refine .bi ?_ ?_
      · exact .ex (x0 _ _ _ _)
      · refine .st (v := (A.v (Value.int .i64 (wr .i64 (v30 + 1))))) (aBin_add ..) ?_
        refine .st (v := [Blk.box [(A.v (Value.int .i64 v31)), (A.v (Value.int .i64 v32)), (A.v (Value.int .i64 v33))], Blk.box [(A.v (Value.int .i64 v34)), (A.v (Value.int .i64 v35)), (A.v (Value.int .i64 v36))], Blk.box [(A.v (Value.int .i64 v37)), (A.v (Value.int .i64 v38)), (A.v (Value.int .i64 v39))], Blk.box [(A.v (Value.int .i64 v40)), (A.v (Value.int .i64 v41)), (A.v (Value.int .i64 v42))]]) (by kernel_rfl) ?_
        refine .cT (by kernel_rfl) ?_
        exact ih _
    · exact .ex (x1 _ _ _)

def F7_7_0 (n : Nat) (v2 : Int) (v3 : Int) (v4 : Int) (v5 : Int) (v6 : Bool) (v7 : (List S_Vec)) (v8 : Int) (v10 : Int) (v11 : Int) (v12 : Int) (v13 : Int) (v14 : Int) (v15 : Int) (v16 : Int) (v17 : Int) (v18 : Int) : Nat → Int → Option ((Bool × Int × Int × Int) ⊕ (Unit))
  | 0, _ => none
  | m + 1, v9 => bif (decide (v9 < v8)) then (Option.bind (getI v7 v9) fun y19 => Option.bind (F7_7_1 n v2 v3 v4 v5 v6 v7 v8 v9 ([y19.X, y19.Y, y19.Z]) 3 v10 v11 v12 v13 v14 v15 v16 v17 v18 y19.X y19.Y y19.Z (n+4) 0) fun o47 => match o47 with | (Sum.inl y48) => some ((Sum.inl ((y48, y19.X, y19.Y, y19.Z)))) | (Sum.inr _) => F7_7_0 n v2 v3 v4 v5 v6 v7 v8 v10 v11 v12 v13 v14 v15 v16 v17 v18 m (wr .i64 (v9 + 1))) else (some ((Sum.inr (()))))

theorem T7_7_0 (C : Nat → List A → Option A) (n : Nat) (h10 : Orc10 C) (h19 : Orc19 C) (h29 : Orc29 C) (v2 : Int) (v3 : Int) (v4 : Int) (v5 : Int) (v6 : Bool) (v7 : (List S_Vec)) (v8 : Int) (v10 : Int) (v11 : Int) (v12 : Int) (v13 : Int) (v14 : Int) (v15 : Int) (v16 : Int) (v17 : Int) (v18 : Int) {ρ γ : Type} {φ : ρ → γ → Prop} {kL : R → Option ρ} {K : ((Bool × Int × Int × Int) ⊕ (Unit)) → Option γ} (kx kg : Nat → St → Option R) (kr : St → Option R) (kp : A → St → Option R) (x0 : ∀ (o0 : Bool) (o1 : Int) (o2 : Int) (o3 : Int) (s3 : A) (s4 : A) (s5 : A) (s6 : A) (s7 : A) (s8 : A) (s9 : A) (s38 : A) (s39 : A) (s40 : A), J φ (kr (St.mk [(3, s3), (4, s4), (5, s5), (6, s6), (7, s7), (8, s8), (9, s9), (14, (A.v (Value.bool o0))), (38, s38), (39, s39), (40, s40)] [Blk.box [(A.v (Value.int .i64 v10)), (A.v (Value.int .i64 v11)), (A.v (Value.int .i64 v12))], Blk.box [(A.v (Value.int .i64 v13)), (A.v (Value.int .i64 v14)), (A.v (Value.int .i64 v15))], Blk.box [(A.v (Value.int .i64 v16)), (A.v (Value.int .i64 v17)), (A.v (Value.int .i64 v18))], Blk.box [(A.v (Value.int .i64 o1)), (A.v (Value.int .i64 o2)), (A.v (Value.int .i64 o3))]])) kL (K (Sum.inl ((o0, o1, o2, o3)))) some) (x1 : ∀ (s14 : A) (s38 : A) (s39 : A) (s40 : A), J φ (kx 0 (St.mk [(3, (A.v (Value.int .u8 v2))), (4, (A.v (Value.int .u8 v3))), (5, (A.v (Value.int .u8 v4))), (6, (A.v (Value.int .u8 v5))), (7, (A.ptr 0 0)), (8, (A.ptr 1 0)), (9, (A.ptr 2 0)), (14, s14), (38, s38), (39, s39), (40, s40)] [Blk.box [(A.v (Value.int .i64 v10)), (A.v (Value.int .i64 v11)), (A.v (Value.int .i64 v12))], Blk.box [(A.v (Value.int .i64 v13)), (A.v (Value.int .i64 v14)), (A.v (Value.int .i64 v15))], Blk.box [(A.v (Value.int .i64 v16)), (A.v (Value.int .i64 v17)), (A.v (Value.int .i64 v18))]])) kL (K (Sum.inr (()))) some) :
    ∀ (m : Nat) (v9 : Int), J φ (loopR (cx C) (evCall (cx C) (n+4)) (n+4) 7 0 0 3 kx kg kr kp m (St.mk [(3, (A.v (Value.int .u8 v2))), (4, (A.v (Value.int .u8 v3))), (5, (A.v (Value.int .u8 v4))), (6, (A.v (Value.int .u8 v5))), (7, (A.ptr 0 0)), (8, (A.ptr 1 0)), (9, (A.ptr 2 0)), (14, (A.v (Value.bool v6))), (38, (A.imm (List.map c_S_Vec v7) true)), (39, (A.v (Value.int .i64 v8))), (40, (A.v (Value.int .i64 v9)))] [Blk.box [(A.v (Value.int .i64 v10)), (A.v (Value.int .i64 v11)), (A.v (Value.int .i64 v12))], Blk.box [(A.v (Value.int .i64 v13)), (A.v (Value.int .i64 v14)), (A.v (Value.int .i64 v15))], Blk.box [(A.v (Value.int .i64 v16)), (A.v (Value.int .i64 v17)), (A.v (Value.int .i64 v18))]])) kL (F7_7_0 n v2 v3 v4 v5 v6 v7 v8 v10 v11 v12 v13 v14 v15 v16 v17 v18 m v9) K := by
  intro m
  induction m with
  | zero => intros; exact .nn
  | succ m ih =>
    intro v9
    refine .lp (e7_0 ..) ?_
    unfold F7_7_0
    refine .st (v := (A.v (Value.bool (decide (v9 < v8))))) (aBin_lss ..) ?_
    refine .bi ?_ ?_
    · refine .bd (g := fun (y : S_Vec) => A.ip (c_S_Vec y)) (idx_imm (e := 24) (es := 3) (h1 := by kernel_rfl) (h2 := by kernel_rfl) (h3 := fun _ => rfl) ..) fun y19 => ?_
      refine .st (v := (A.agg [(A.v (Value.int .i64 y19.X)), (A.v (Value.int .i64 y19.Y)), (A.v (Value.int .i64 y19.Z))])) (by kernel_rfl) ?_
      refine .st (v := ((A.ptr 3 0), [Blk.box [(A.v (Value.int .i64 v10)), (A.v (Value.int .i64 v11)), (A.v (Value.int .i64 v12))], Blk.box [(A.v (Value.int .i64 v13)), (A.v (Value.int .i64 v14)), (A.v (Value.int .i64 v15))], Blk.box [(A.v (Value.int .i64 v16)), (A.v (Value.int .i64 v17)), (A.v (Value.int .i64 v18))], Blk.box [(A.v (Value.int .i64 0)), (A.v (Value.int .i64 0)), (A.v (Value.int .i64 0))]])) (by kernel_rfl) ?_
      refine .st (v := [Blk.box [(A.v (Value.int .i64 v10)), (A.v (Value.int .i64 v11)), (A.v (Value.int .i64 v12))], Blk.box [(A.v (Value.int .i64 v13)), (A.v (Value.int .i64 v14)), (A.v (Value.int .i64 v15))], Blk.box [(A.v (Value.int .i64 v16)), (A.v (Value.int .i64 v17)), (A.v (Value.int .i64 v18))], Blk.box [(A.v (Value.int .i64 y19.X)), (A.v (Value.int .i64 y19.Y)), (A.v (Value.int .i64 y19.Z))]]) (by kernel_rfl) ?_
      refine .st (v := (A.ptr 3 0)) (by kernel_rfl) ?_
      refine .st (v := (A.v (Value.int .i64 y19.X))) (by kernel_rfl) ?_
      refine .st (v := (A.ptr 3 1)) (by kernel_rfl) ?_
      refine .st (v := (A.v (Value.int .i64 y19.Y))) (by kernel_rfl) ?_
      refine .st (v := (A.ptr 3 2)) (by kernel_rfl) ?_
      refine .st (v := (A.v (Value.int .i64 y19.Z))) (by kernel_rfl) ?_
      refine .st (v := (A.imm [[(A.v (Value.int .i64 y19.X))], [(A.v (Value.int .i64 y19.Y))], [(A.v (Value.int .i64 y19.Z))]] true)) (by kernel_rfl) ?_
      refine .st (v := (A.v (Value.int .i64 3))) (by kernel_rfl) ?_
      refine .as (T7_7_1 C n h10 h19 h29 v2 v3 v4 v5 v6 v7 v8 v9 ([y19.X, y19.Y, y19.Z]) 3 v10 v11 v12 v13 v14 v15 v16 v17 v18 y19.X y19.Y y19.Z _ _ _ _ ?_ ?_ _ 0)
      · intro y48 j49 j50 j51
        refine .un rfl ?_
        exact .ex (x0 _ _ _ _ _ _ _ _ _ _ _ _ _ _)
      · intro j52 j53 j54
        refine .un rfl ?_
        refine .cT (by kernel_rfl) ?_
        refine .st (v := (A.v (Value.int .i64 (wr .i64 (v9 + 1))))) (aBin_add ..) ?_
        refine .st (v := [Blk.box [(A.v (Value.int .i64 v10)), (A.v (Value.int .i64 v11)), (A.v (Value.int .i64 v12))], Blk.box [(A.v (Value.int .i64 v13)), (A.v (Value.int .i64 v14)), (A.v (Value.int .i64 v15))], Blk.box [(A.v (Value.int .i64 v16)), (A.v (Value.int .i64 v17)), (A.v (Value.int .i64 v18))]]) (by kernel_rfl) ?_
        refine .cT ((by kernel_rfl : _ = (bif underss 3 (List.map c_S_Vec v7) then true else false)).trans (by simp only [underss_map, fu_cI, fu_c8, fu_cB, fu_cS, fu_cL, fu_S_Vec, fu_S_Range, fu_S_Box,  Bool.and_true, Bool.true_and, cond_true])) ?_
        exact ih _
    · exact .ex (x1 _ _ _ _)

def F7 (n : Nat) (a0 : S_Vec) (a1 : S_Vec) (a2 : S_Vec) (a3 : Int) (a4 : Int) (a5 : Int) (a6 : Int) : Option Bool :=
  Option.bind (G10 ) fun y1 => bif (!y1) then (some false) else (Option.bind (F7_7_0 n a3 a4 a5 a6 false ([a0, a1, a2]) 3 a0.X a0.Y a0.Z a1.X a1.Y a1.Z a2.X a2.Y a2.Z (n+4) 0) fun o55 => match o55 with | (Sum.inl ((y56, y57, y58, y59))) => some y56 | (Sum.inr _) => Option.bind (G19 a0 a1) fun y74 => Option.bind (G19 a1 a0) fun y75 => Option.bind (G19 a2 a1) fun y76 => Option.bind (G19 ((S_Vec.mk (wr .i64 (a0.X + a2.X)) (wr .i64 (a0.Y + a2.Y)) (wr .i64 (a0.Z + a2.Z)))) a1) fun y77 => Option.bind (bif (y74.2 != 0) then (some true) else (some (y75.2 != 0))) fun y78 => Option.bind (bif y78 then (some true) else (some (y76.2 != 0))) fun y81 => Option.bind (bif y81 then (some true) else (some (y77.2 != 0))) fun y84 => Option.bind (bif y84 then (some true) else (some (y74.1 != y75.1))) fun y87 => Option.bind (bif y87 then (some true) else (some (y77.1 != (wr .i64 (y74.1 + y76.1))))) fun y91 => bif y91 then (some false) else (Option.bind (G29 (Int.tmod (wr .i64 (a3)) 9) (wr .i64 (1 + (Int.tmod (wr .i64 (a4)) 3)))) fun y97 => Option.bind (G29 (Int.tmod (wr .i64 (a5)) 9) (wr .i64 (1 + (Int.tmod (wr .i64 (a6)) 3)))) fun y98 => Option.bind (G19 y97.1 y98.1) fun y99 => Option.bind (bif (!y97.2) then (some true) else (some (!y98.2))) fun y100 => Option.bind (bif y100 then (some true) else (some (y99.2 != 0))) fun y103 => Option.bind (bif y103 then (some true) else (some (decide (707281 < y99.1)))) fun y106 => Option.bind (bif y106 then (some true) else (some (decide (y99.1 < (-707281))))) fun y109 => bif y109 then (some false) else (Option.bind (bif (((y97.1.X == y98.1.X) && ((y97.1.Y == y98.1.Y) && (y97.1.Z == y98.1.Z)))) then (some (!((y97.1.X == 0) && ((y97.1.Y == 0) && (y97.1.Z == 0))))) else (some false)) fun y112 => some ((y99.1 == 707281) == y112))))

theorem T7 (C : Nat → List A → Option A) (n : Nat) (h10 : Orc10 C) (h19 : Orc19 C) (h29 : Orc29 C) (a0 : S_Vec) (a1 : S_Vec) (a2 : S_Vec) (a3 : Int) (a4 : Int) (a5 : Int) (a6 : Int) : J (fun (o : R) y => ∃ v, o.1 = .ret v ∧ snap o.2 v = (A.v (Value.bool y))) (evCall1 (cx C) (evCall (cx C) (n+4)) (n+4) 7 [(A.agg [(A.v (Value.int .i64 a0.X)), (A.v (Value.int .i64 a0.Y)), (A.v (Value.int .i64 a0.Z))]), (A.agg [(A.v (Value.int .i64 a1.X)), (A.v (Value.int .i64 a1.Y)), (A.v (Value.int .i64 a1.Z))]), (A.agg [(A.v (Value.int .i64 a2.X)), (A.v (Value.int .i64 a2.Y)), (A.v (Value.int .i64 a2.Z))]), (A.v (Value.int .u8 a3)), (A.v (Value.int .u8 a4)), (A.v (Value.int .u8 a5)), (A.v (Value.int .u8 a6))] [] 0) some (F7 n a0 a1 a2 a3 a4 a5 a6) some := by
  refine .lp (e7 ..) ?_
  unfold F7
  refine .st (v := ((A.ptr 0 0), [Blk.box [(A.v (Value.int .i64 a0.X)), (A.v (Value.int .i64 a0.Y)), (A.v (Value.int .i64 a0.Z))]])) (by kernel_rfl) ?_
  refine .st (v := ((A.ptr 1 0), [Blk.box [(A.v (Value.int .i64 a0.X)), (A.v (Value.int .i64 a0.Y)), (A.v (Value.int .i64 a0.Z))], Blk.box [(A.v (Value.int .i64 a1.X)), (A.v (Value.int .i64 a1.Y)), (A.v (Value.int .i64 a1.Z))]])) (by kernel_rfl) ?_
  refine .st (v := ((A.ptr 2 0), [Blk.box [(A.v (Value.int .i64 a0.X)), (A.v (Value.int .i64 a0.Y)), (A.v (Value.int .i64 a0.Z))], Blk.box [(A.v (Value.int .i64 a1.X)), (A.v (Value.int .i64 a1.Y)), (A.v (Value.int .i64 a1.Z))], Blk.box [(A.v (Value.int .i64 a2.X)), (A.v (Value.int .i64 a2.Y)), (A.v (Value.int .i64 a2.Z))]])) (by kernel_rfl) ?_
  refine .bd (g := fun (y : Bool) => (A.v (Value.bool y))) (h10 ()) fun y1 => ?_
  refine .st (v := (A.v (Value.bool (!y1)))) (by kernel_rfl) ?_
  refine .bi ?_ ?_
  · exact .lf rfl rfl ⟨_, rfl, rfl⟩
  · refine .st (v := (A.agg [(A.v (Value.int .i64 a0.X)), (A.v (Value.int .i64 a0.Y)), (A.v (Value.int .i64 a0.Z))])) (by kernel_rfl) ?_
    refine .st (v := (A.agg [(A.v (Value.int .i64 a1.X)), (A.v (Value.int .i64 a1.Y)), (A.v (Value.int .i64 a1.Z))])) (by kernel_rfl) ?_
    refine .st (v := (A.agg [(A.v (Value.int .i64 a2.X)), (A.v (Value.int .i64 a2.Y)), (A.v (Value.int .i64 a2.Z))])) (by kernel_rfl) ?_
    refine .st (v := (A.imm [[(A.v (Value.int .i64 a0.X)), (A.v (Value.int .i64 a0.Y)), (A.v (Value.int .i64 a0.Z))], [(A.v (Value.int .i64 a1.X)), (A.v (Value.int .i64 a1.Y)), (A.v (Value.int .i64 a1.Z))], [(A.v (Value.int .i64 a2.X)), (A.v (Value.int .i64 a2.Y)), (A.v (Value.int .i64 a2.Z))]] true)) (by kernel_rfl) ?_
    refine .st (v := (A.v (Value.int .i64 3))) (by kernel_rfl) ?_
    refine .as (T7_7_0 C n h10 h19 h29 a3 a4 a5 a6 false ([a0, a1, a2]) 3 a0.X a0.Y a0.Z a1.X a1.Y a1.Z a2.X a2.Y a2.Z _ _ _ _ ?_ ?_ _ 0)
    · intro y56 y57 y58 y59 j60 j61 j62 j63 j64 j65 j66 j67 j68 j69
      refine .un rfl ?_
      exact .lf rfl rfl ⟨_, rfl, rfl⟩
    · intro j70 j71 j72 j73
      refine .un rfl ?_
      refine .cT (by kernel_rfl) ?_
      refine .st (v := (A.agg [(A.v (Value.int .i64 a0.X)), (A.v (Value.int .i64 a0.Y)), (A.v (Value.int .i64 a0.Z))])) (by kernel_rfl) ?_
      refine .st (v := (A.agg [(A.v (Value.int .i64 a1.X)), (A.v (Value.int .i64 a1.Y)), (A.v (Value.int .i64 a1.Z))])) (by kernel_rfl) ?_
      refine .bd (g := fun (y : (Int × Int)) => (A.tup [(A.v (Value.int .i64 y.1)), (A.v (Value.int .i64 y.2))])) (h19 a0 a1) fun y74 => ?_
      refine .st (v := (A.v (Value.int .i64 y74.1))) (by kernel_rfl) ?_
      refine .st (v := (A.v (Value.int .i64 y74.2))) (by kernel_rfl) ?_
      refine .st (v := (A.agg [(A.v (Value.int .i64 a1.X)), (A.v (Value.int .i64 a1.Y)), (A.v (Value.int .i64 a1.Z))])) (by kernel_rfl) ?_
      refine .st (v := (A.agg [(A.v (Value.int .i64 a0.X)), (A.v (Value.int .i64 a0.Y)), (A.v (Value.int .i64 a0.Z))])) (by kernel_rfl) ?_
      refine .bd (g := fun (y : (Int × Int)) => (A.tup [(A.v (Value.int .i64 y.1)), (A.v (Value.int .i64 y.2))])) (h19 a1 a0) fun y75 => ?_
      refine .st (v := (A.v (Value.int .i64 y75.1))) (by kernel_rfl) ?_
      refine .st (v := (A.v (Value.int .i64 y75.2))) (by kernel_rfl) ?_
      refine .st (v := (A.agg [(A.v (Value.int .i64 a2.X)), (A.v (Value.int .i64 a2.Y)), (A.v (Value.int .i64 a2.Z))])) (by kernel_rfl) ?_
      refine .st (v := (A.agg [(A.v (Value.int .i64 a1.X)), (A.v (Value.int .i64 a1.Y)), (A.v (Value.int .i64 a1.Z))])) (by kernel_rfl) ?_
      refine .bd (g := fun (y : (Int × Int)) => (A.tup [(A.v (Value.int .i64 y.1)), (A.v (Value.int .i64 y.2))])) (h19 a2 a1) fun y76 => ?_
      refine .st (v := (A.v (Value.int .i64 y76.1))) (by kernel_rfl) ?_
      refine .st (v := (A.v (Value.int .i64 y76.2))) (by kernel_rfl) ?_
      refine .st (v := (A.ptr 0 0)) (by kernel_rfl) ?_
      refine .st (v := (A.v (Value.int .i64 a0.X))) (by kernel_rfl) ?_
      refine .st (v := (A.ptr 2 0)) (by kernel_rfl) ?_
      refine .st (v := (A.v (Value.int .i64 a2.X))) (by kernel_rfl) ?_
      refine .st (v := (A.v (Value.int .i64 (wr .i64 (a0.X + a2.X))))) (aBin_add ..) ?_
      refine .st (v := (A.ptr 0 1)) (by kernel_rfl) ?_
      refine .st (v := (A.v (Value.int .i64 a0.Y))) (by kernel_rfl) ?_
      refine .st (v := (A.ptr 2 1)) (by kernel_rfl) ?_
      refine .st (v := (A.v (Value.int .i64 a2.Y))) (by kernel_rfl) ?_
      refine .st (v := (A.v (Value.int .i64 (wr .i64 (a0.Y + a2.Y))))) (aBin_add ..) ?_
      refine .st (v := (A.ptr 0 2)) (by kernel_rfl) ?_
      refine .st (v := (A.v (Value.int .i64 a0.Z))) (by kernel_rfl) ?_
      refine .st (v := (A.ptr 2 2)) (by kernel_rfl) ?_
      refine .st (v := (A.v (Value.int .i64 a2.Z))) (by kernel_rfl) ?_
      refine .st (v := (A.v (Value.int .i64 (wr .i64 (a0.Z + a2.Z))))) (aBin_add ..) ?_
      refine .st (v := (A.agg [(A.v (Value.int .i64 (wr .i64 (a0.X + a2.X)))), (A.v (Value.int .i64 (wr .i64 (a0.Y + a2.Y)))), (A.v (Value.int .i64 (wr .i64 (a0.Z + a2.Z))))])) (by kernel_rfl) ?_
      refine .st (v := (A.agg [(A.v (Value.int .i64 a1.X)), (A.v (Value.int .i64 a1.Y)), (A.v (Value.int .i64 a1.Z))])) (by kernel_rfl) ?_
      refine .bd (g := fun (y : (Int × Int)) => (A.tup [(A.v (Value.int .i64 y.1)), (A.v (Value.int .i64 y.2))])) (h19 ((S_Vec.mk (wr .i64 (a0.X + a2.X)) (wr .i64 (a0.Y + a2.Y)) (wr .i64 (a0.Z + a2.Z)))) a1) fun y77 => ?_
      refine .st (v := (A.v (Value.int .i64 y77.1))) (by kernel_rfl) ?_
      refine .st (v := (A.v (Value.int .i64 y77.2))) (by kernel_rfl) ?_
      refine .st (v := (A.v (Value.bool (y74.2 != 0)))) (aBin_neq ..) ?_
      refine .bg (fun t (y : Bool) => ∃ j79 j80 : A, t = [(A.v (Value.bool y)), j79, j80]) ?_ ?_
      · refine .bi ?_ ?_
        · exact .lg ⟨_, _, rfl⟩
        · refine .st (v := (A.v (Value.bool (y75.2 != 0)))) (aBin_neq ..) ?_
          exact .lg ⟨_, _, rfl⟩
      rintro _ y78 ⟨j79, j80, rfl⟩
      iterate 3 refine .uc ?_
      refine .bg (fun t (y : Bool) => ∃ j82 j83 : A, t = [(A.v (Value.bool y)), j82, j83]) ?_ ?_
      · refine .bi ?_ ?_
        · exact .lg ⟨_, _, rfl⟩
        · refine .st (v := (A.v (Value.bool (y76.2 != 0)))) (aBin_neq ..) ?_
          exact .lg ⟨_, _, rfl⟩
      rintro _ y81 ⟨j82, j83, rfl⟩
      iterate 3 refine .uc ?_
      refine .bg (fun t (y : Bool) => ∃ j85 j86 : A, t = [(A.v (Value.bool y)), j85, j86]) ?_ ?_
      · refine .bi ?_ ?_
        · exact .lg ⟨_, _, rfl⟩
        · refine .st (v := (A.v (Value.bool (y77.2 != 0)))) (aBin_neq ..) ?_
          exact .lg ⟨_, _, rfl⟩
      rintro _ y84 ⟨j85, j86, rfl⟩
      iterate 3 refine .uc ?_
      refine .bg (fun t (y : Bool) => ∃ j88 j89 j90 : A, t = [(A.v (Value.bool y)), j88, j89, j90]) ?_ ?_
      · refine .bi ?_ ?_
        · exact .lg ⟨_, _, _, rfl⟩
        · refine .st (v := (A.v (Value.bool (y74.1 != y75.1)))) (aBin_neq ..) ?_
          exact .lg ⟨_, _, _, rfl⟩
      rintro _ y87 ⟨j88, j89, j90, rfl⟩
      iterate 4 refine .uc ?_
      refine .bg (fun t (y : Bool) => ∃ j92 j93 j94 j95 j96 : A, t = [(A.v (Value.bool y)), j92, j93, j94, j95, j96]) ?_ ?_
      · refine .bi ?_ ?_
        · exact .lg ⟨_, _, _, _, _, rfl⟩
        · refine .st (v := (A.v (Value.int .i64 (wr .i64 (y74.1 + y76.1))))) (aBin_add ..) ?_
          refine .st (v := (A.v (Value.bool (y77.1 != (wr .i64 (y74.1 + y76.1)))))) (aBin_neq ..) ?_
          exact .lg ⟨_, _, _, _, _, rfl⟩
      rintro _ y91 ⟨j92, j93, j94, j95, j96, rfl⟩
      iterate 6 refine .uc ?_
      refine .bi ?_ ?_
      · exact .lf rfl rfl ⟨_, rfl, rfl⟩
      · refine .st (v := (A.v (Value.int .i64 (wr .i64 (a3))))) (aConvert_int (hs := by kernel_rfl) (hd := by kernel_rfl) ..) ?_
        refine .st (v := (A.v (Value.int .i64 (Int.tmod (wr .i64 (a3)) 9)))) (aBin_rem (hb := by decide) ..) ?_
        refine .st (v := (A.v (Value.int .i64 (wr .i64 (a4))))) (aConvert_int (hs := by kernel_rfl) (hd := by kernel_rfl) ..) ?_
        refine .st (v := (A.v (Value.int .i64 (Int.tmod (wr .i64 (a4)) 3)))) (aBin_rem (hb := by decide) ..) ?_
        refine .st (v := (A.v (Value.int .i64 (wr .i64 (1 + (Int.tmod (wr .i64 (a4)) 3)))))) (aBin_add ..) ?_
        refine .bd (g := fun (y : (S_Vec × Bool)) => (A.tup [(A.agg [(A.v (Value.int .i64 y.1.X)), (A.v (Value.int .i64 y.1.Y)), (A.v (Value.int .i64 y.1.Z))]), (A.v (Value.bool y.2))])) (h29 (Int.tmod (wr .i64 (a3)) 9) (wr .i64 (1 + (Int.tmod (wr .i64 (a4)) 3)))) fun y97 => ?_
        refine .st (v := (A.agg [(A.v (Value.int .i64 y97.1.X)), (A.v (Value.int .i64 y97.1.Y)), (A.v (Value.int .i64 y97.1.Z))])) (by kernel_rfl) ?_
        refine .st (v := (A.v (Value.bool y97.2))) (by kernel_rfl) ?_
        refine .st (v := ((A.ptr 3 0), [Blk.box [(A.v (Value.int .i64 a0.X)), (A.v (Value.int .i64 a0.Y)), (A.v (Value.int .i64 a0.Z))], Blk.box [(A.v (Value.int .i64 a1.X)), (A.v (Value.int .i64 a1.Y)), (A.v (Value.int .i64 a1.Z))], Blk.box [(A.v (Value.int .i64 a2.X)), (A.v (Value.int .i64 a2.Y)), (A.v (Value.int .i64 a2.Z))], Blk.box [(A.v (Value.int .i64 0)), (A.v (Value.int .i64 0)), (A.v (Value.int .i64 0))]])) (by kernel_rfl) ?_
        refine .st (v := [Blk.box [(A.v (Value.int .i64 a0.X)), (A.v (Value.int .i64 a0.Y)), (A.v (Value.int .i64 a0.Z))], Blk.box [(A.v (Value.int .i64 a1.X)), (A.v (Value.int .i64 a1.Y)), (A.v (Value.int .i64 a1.Z))], Blk.box [(A.v (Value.int .i64 a2.X)), (A.v (Value.int .i64 a2.Y)), (A.v (Value.int .i64 a2.Z))], Blk.box [(A.v (Value.int .i64 y97.1.X)), (A.v (Value.int .i64 y97.1.Y)), (A.v (Value.int .i64 y97.1.Z))]]) (by kernel_rfl) ?_
        refine .st (v := (A.v (Value.int .i64 (wr .i64 (a5))))) (aConvert_int (hs := by kernel_rfl) (hd := by kernel_rfl) ..) ?_
        refine .st (v := (A.v (Value.int .i64 (Int.tmod (wr .i64 (a5)) 9)))) (aBin_rem (hb := by decide) ..) ?_
        refine .st (v := (A.v (Value.int .i64 (wr .i64 (a6))))) (aConvert_int (hs := by kernel_rfl) (hd := by kernel_rfl) ..) ?_
        refine .st (v := (A.v (Value.int .i64 (Int.tmod (wr .i64 (a6)) 3)))) (aBin_rem (hb := by decide) ..) ?_
        refine .st (v := (A.v (Value.int .i64 (wr .i64 (1 + (Int.tmod (wr .i64 (a6)) 3)))))) (aBin_add ..) ?_
        refine .bd (g := fun (y : (S_Vec × Bool)) => (A.tup [(A.agg [(A.v (Value.int .i64 y.1.X)), (A.v (Value.int .i64 y.1.Y)), (A.v (Value.int .i64 y.1.Z))]), (A.v (Value.bool y.2))])) (h29 (Int.tmod (wr .i64 (a5)) 9) (wr .i64 (1 + (Int.tmod (wr .i64 (a6)) 3)))) fun y98 => ?_
        refine .st (v := (A.agg [(A.v (Value.int .i64 y98.1.X)), (A.v (Value.int .i64 y98.1.Y)), (A.v (Value.int .i64 y98.1.Z))])) (by kernel_rfl) ?_
        refine .st (v := (A.v (Value.bool y98.2))) (by kernel_rfl) ?_
        refine .st (v := ((A.ptr 4 0), [Blk.box [(A.v (Value.int .i64 a0.X)), (A.v (Value.int .i64 a0.Y)), (A.v (Value.int .i64 a0.Z))], Blk.box [(A.v (Value.int .i64 a1.X)), (A.v (Value.int .i64 a1.Y)), (A.v (Value.int .i64 a1.Z))], Blk.box [(A.v (Value.int .i64 a2.X)), (A.v (Value.int .i64 a2.Y)), (A.v (Value.int .i64 a2.Z))], Blk.box [(A.v (Value.int .i64 y97.1.X)), (A.v (Value.int .i64 y97.1.Y)), (A.v (Value.int .i64 y97.1.Z))], Blk.box [(A.v (Value.int .i64 0)), (A.v (Value.int .i64 0)), (A.v (Value.int .i64 0))]])) (by kernel_rfl) ?_
        refine .st (v := [Blk.box [(A.v (Value.int .i64 a0.X)), (A.v (Value.int .i64 a0.Y)), (A.v (Value.int .i64 a0.Z))], Blk.box [(A.v (Value.int .i64 a1.X)), (A.v (Value.int .i64 a1.Y)), (A.v (Value.int .i64 a1.Z))], Blk.box [(A.v (Value.int .i64 a2.X)), (A.v (Value.int .i64 a2.Y)), (A.v (Value.int .i64 a2.Z))], Blk.box [(A.v (Value.int .i64 y97.1.X)), (A.v (Value.int .i64 y97.1.Y)), (A.v (Value.int .i64 y97.1.Z))], Blk.box [(A.v (Value.int .i64 y98.1.X)), (A.v (Value.int .i64 y98.1.Y)), (A.v (Value.int .i64 y98.1.Z))]]) (by kernel_rfl) ?_
        refine .st (v := (A.agg [(A.v (Value.int .i64 y97.1.X)), (A.v (Value.int .i64 y97.1.Y)), (A.v (Value.int .i64 y97.1.Z))])) (by kernel_rfl) ?_
        refine .st (v := (A.agg [(A.v (Value.int .i64 y98.1.X)), (A.v (Value.int .i64 y98.1.Y)), (A.v (Value.int .i64 y98.1.Z))])) (by kernel_rfl) ?_
        refine .bd (g := fun (y : (Int × Int)) => (A.tup [(A.v (Value.int .i64 y.1)), (A.v (Value.int .i64 y.2))])) (h19 y97.1 y98.1) fun y99 => ?_
        refine .st (v := (A.v (Value.int .i64 y99.1))) (by kernel_rfl) ?_
        refine .st (v := (A.v (Value.int .i64 y99.2))) (by kernel_rfl) ?_
        refine .st (v := (A.v (Value.bool (!y97.2)))) (by kernel_rfl) ?_
        refine .bg (fun t (y : Bool) => ∃ j101 j102 : A, t = [(A.v (Value.bool y)), j101, j102]) ?_ ?_
        · refine .bi ?_ ?_
          · exact .lg ⟨_, _, rfl⟩
          · refine .st (v := (A.v (Value.bool (!y98.2)))) (by kernel_rfl) ?_
            exact .lg ⟨_, _, rfl⟩
        rintro _ y100 ⟨j101, j102, rfl⟩
        iterate 3 refine .uc ?_
        refine .bg (fun t (y : Bool) => ∃ j104 j105 : A, t = [(A.v (Value.bool y)), j104, j105]) ?_ ?_
        · refine .bi ?_ ?_
          · exact .lg ⟨_, _, rfl⟩
          · refine .st (v := (A.v (Value.bool (y99.2 != 0)))) (aBin_neq ..) ?_
            exact .lg ⟨_, _, rfl⟩
        rintro _ y103 ⟨j104, j105, rfl⟩
        iterate 3 refine .uc ?_
        refine .bg (fun t (y : Bool) => ∃ j107 j108 : A, t = [(A.v (Value.bool y)), j107, j108]) ?_ ?_
        · refine .bi ?_ ?_
          · exact .lg ⟨_, _, rfl⟩
          · refine .st (v := (A.v (Value.bool (decide (707281 < y99.1))))) (aBin_gtr ..) ?_
            exact .lg ⟨_, _, rfl⟩
        rintro _ y106 ⟨j107, j108, rfl⟩
        iterate 3 refine .uc ?_
        refine .bg (fun t (y : Bool) => ∃ j110 j111 : A, t = [(A.v (Value.bool y)), j110, j111]) ?_ ?_
        · refine .bi ?_ ?_
          · exact .lg ⟨_, _, rfl⟩
          · refine .st (v := (A.v (Value.bool (decide (y99.1 < (-707281)))))) (aBin_lss ..) ?_
            exact .lg ⟨_, _, rfl⟩
        rintro _ y109 ⟨j110, j111, rfl⟩
        iterate 3 refine .uc ?_
        refine .bi ?_ ?_
        · exact .lf rfl rfl ⟨_, rfl, rfl⟩
        · refine .st (v := (A.v (Value.bool (y99.1 == 707281)))) (aBin_eql ..) ?_
          refine .st (v := (A.agg [(A.v (Value.int .i64 y97.1.X)), (A.v (Value.int .i64 y97.1.Y)), (A.v (Value.int .i64 y97.1.Z))])) (by kernel_rfl) ?_
          refine .st (v := (A.agg [(A.v (Value.int .i64 y98.1.X)), (A.v (Value.int .i64 y98.1.Y)), (A.v (Value.int .i64 y98.1.Z))])) (by kernel_rfl) ?_
          refine .st (v := (A.v (Value.bool (((y97.1.X == y98.1.X) && ((y97.1.Y == y98.1.Y) && (y97.1.Z == y98.1.Z))))))) (by kernel_rfl) ?_
          refine .bg (fun t (y : Bool) => ∃ j113 j114 j115 : A, t = [(A.v (Value.bool y)), j113, j114, j115]) ?_ ?_
          · refine .bi ?_ ?_
            · refine .st (v := (A.agg [(A.v (Value.int .i64 y97.1.X)), (A.v (Value.int .i64 y97.1.Y)), (A.v (Value.int .i64 y97.1.Z))])) (by kernel_rfl) ?_
              refine .st (v := (A.agg [(A.v (Value.int .i64 0)), (A.v (Value.int .i64 0)), (A.v (Value.int .i64 0))])) (by kernel_rfl) ?_
              refine .st (v := (A.v (Value.bool (!((y97.1.X == 0) && ((y97.1.Y == 0) && (y97.1.Z == 0))))))) (by kernel_rfl) ?_
              exact .lg ⟨_, _, _, rfl⟩
            · exact .lg ⟨_, _, _, rfl⟩
          rintro _ y112 ⟨j113, j114, j115, rfl⟩
          iterate 4 refine .uc ?_
          refine .st (v := (A.v (Value.bool ((y99.1 == 707281) == y112)))) (by kernel_rfl) ?_
          exact .lf rfl rfl ⟨_, rfl, rfl⟩

def G7 (a0 : S_Vec) (a1 : S_Vec) (a2 : S_Vec) (a3 : Int) (a4 : Int) (a5 : Int) (a6 : Int) : Option Bool := F7 fuel0 a0 a1 a2 a3 a4 a5 a6

def Orc7 (C : Nat → List A → Option A) : Prop := ∀ (a0 : S_Vec) (a1 : S_Vec) (a2 : S_Vec) (a3 : Int) (a4 : Int) (a5 : Int) (a6 : Int), C 7 [(A.agg [(A.v (Value.int .i64 a0.X)), (A.v (Value.int .i64 a0.Y)), (A.v (Value.int .i64 a0.Z))]), (A.agg [(A.v (Value.int .i64 a1.X)), (A.v (Value.int .i64 a1.Y)), (A.v (Value.int .i64 a1.Z))]), (A.agg [(A.v (Value.int .i64 a2.X)), (A.v (Value.int .i64 a2.Y)), (A.v (Value.int .i64 a2.Z))]), (A.v (Value.int .u8 a3)), (A.v (Value.int .u8 a4)), (A.v (Value.int .u8 a5)), (A.v (Value.int .u8 a6))] = (G7 a0 a1 a2 a3 a4 a5 a6).map fun y => (A.v (Value.bool y))

def F8 (n : Nat) (a0 : S_Box) (a1 : S_Box) (a2 : S_Box) : Option Bool :=
  Option.bind (G10 ) fun y1 => bif (!y1) then (some false) else (Option.bind (G21 a0 a1) fun y2 => Option.bind (G23 a0 a1) fun y3 => Option.bind (G23 a1 a0) fun y4 => Option.bind (bif (y2.2 != 0) then (some true) else (some (y3.2 != 0))) fun y5 => Option.bind (bif y5 then (some true) else (some (y4.2 != 0))) fun y8 => bif y8 then (Option.bind (bif (y2.2 == y3.2) then (some (y3.2 == y4.2)) else (some false)) fun y11 => Option.bind (bif y11 then (some ((((y2.1.X.Lo == 0) && (y2.1.X.Hi == 0)) && ((y2.1.Y.Lo == 0) && (y2.1.Y.Hi == 0))))) else (some false)) fun y15 => Option.bind (bif y15 then (some (!y3.1)) else (some false)) fun y19 => Option.bind (bif y19 then (some (!y4.1)) else (some false)) fun y22 => some y22) else (Option.bind (G25 a0 y2.1) fun y25 => Option.bind (G25 a1 y2.1) fun y26 => Option.bind (bif (y25.2 != 0) then (some true) else (some (y26.2 != 0))) fun y27 => Option.bind (bif y27 then (some true) else (some (!y25.1))) fun y30 => Option.bind (bif y30 then (some true) else (some (!y26.1))) fun y33 => Option.bind (bif y33 then (some true) else (some (y3.1 != y4.1))) fun y36 => bif y36 then (some false) else (Option.bind (G25 ((S_Box.mk ((S_Range.mk ((if a0.X.Lo < a1.X.Lo then a1.X.Lo else a0.X.Lo)) ((if a1.X.Hi < a0.X.Hi then a1.X.Hi else a0.X.Hi)))) ((S_Range.mk ((if a0.Y.Lo < a1.Y.Lo then a1.Y.Lo else a0.Y.Lo)) ((if a1.Y.Hi < a0.Y.Hi then a1.Y.Hi else a0.Y.Hi)))))) a0) fun y40 => Option.bind (G25 ((S_Box.mk ((S_Range.mk ((if a0.X.Lo < a1.X.Lo then a1.X.Lo else a0.X.Lo)) ((if a1.X.Hi < a0.X.Hi then a1.X.Hi else a0.X.Hi)))) ((S_Range.mk ((if a0.Y.Lo < a1.Y.Lo then a1.Y.Lo else a0.Y.Lo)) ((if a1.Y.Hi < a0.Y.Hi then a1.Y.Hi else a0.Y.Hi)))))) a1) fun y41 => Option.bind (bif (y3.1 != (y40.2 != 0)) then (some true) else (some (y40.2 != y41.2))) fun y42 => Option.bind (bif y42 then (some true) else (Option.bind (bif (!y3.1) then (Option.bind (bif (!y40.1) then (some true) else (some (!y41.1))) fun y46 => some y46) else (some false)) fun y49 => some y49)) fun y56 => bif y56 then (some false) else (Option.bind (G25 a0 a2) fun y67 => Option.bind (G25 a1 a2) fun y68 => Option.bind (bif (y67.2 != 0) then (some true) else (some (y68.2 != 0))) fun y69 => bif y69 then (some (y67.2 == y68.2)) else (Option.bind (G25 y2.1 a2) fun y72 => Option.bind (G25 a2 a0) fun y73 => Option.bind (G25 a2 a1) fun y74 => Option.bind (bif (y72.2 == 0) then (some (y73.2 == 0)) else (some false)) fun y75 => Option.bind (bif y75 then (some (y74.2 == 0)) else (some false)) fun y78 => Option.bind (bif y78 then (Option.bind (bif y67.1 then (some y68.1) else (some false)) fun y81 => some (y72.1 == y81)) else (some false)) fun y83 => Option.bind (bif y83 then (Option.bind (bif y3.1 then (some y73.1) else (some false)) fun y90 => Option.bind (bif y90 then (some y74.1) else (some false)) fun y92 => some (!y92)) else (some false)) fun y94 => some y94)))))

theorem T8 (C : Nat → List A → Option A) (n : Nat) (h10 : Orc10 C) (h21 : Orc21 C) (h23 : Orc23 C) (h25 : Orc25 C) (a0 : S_Box) (a1 : S_Box) (a2 : S_Box) : J (fun (o : R) y => ∃ v, o.1 = .ret v ∧ snap o.2 v = (A.v (Value.bool y))) (evCall1 (cx C) (evCall (cx C) (n+4)) (n+4) 8 [(A.agg [(A.v (Value.int .i64 a0.X.Lo)), (A.v (Value.int .i64 a0.X.Hi)), (A.v (Value.int .i64 a0.Y.Lo)), (A.v (Value.int .i64 a0.Y.Hi))]), (A.agg [(A.v (Value.int .i64 a1.X.Lo)), (A.v (Value.int .i64 a1.X.Hi)), (A.v (Value.int .i64 a1.Y.Lo)), (A.v (Value.int .i64 a1.Y.Hi))]), (A.agg [(A.v (Value.int .i64 a2.X.Lo)), (A.v (Value.int .i64 a2.X.Hi)), (A.v (Value.int .i64 a2.Y.Lo)), (A.v (Value.int .i64 a2.Y.Hi))])] [] 0) some (F8 n a0 a1 a2) some := by
  refine .lp (e8 ..) ?_
  unfold F8
  refine .st (v := ((A.ptr 0 0), [Blk.box [(A.v (Value.int .i64 a0.X.Lo)), (A.v (Value.int .i64 a0.X.Hi)), (A.v (Value.int .i64 a0.Y.Lo)), (A.v (Value.int .i64 a0.Y.Hi))]])) (by kernel_rfl) ?_
  refine .st (v := ((A.ptr 1 0), [Blk.box [(A.v (Value.int .i64 a0.X.Lo)), (A.v (Value.int .i64 a0.X.Hi)), (A.v (Value.int .i64 a0.Y.Lo)), (A.v (Value.int .i64 a0.Y.Hi))], Blk.box [(A.v (Value.int .i64 a1.X.Lo)), (A.v (Value.int .i64 a1.X.Hi)), (A.v (Value.int .i64 a1.Y.Lo)), (A.v (Value.int .i64 a1.Y.Hi))]])) (by kernel_rfl) ?_
  refine .st (v := ((A.ptr 2 0), [Blk.box [(A.v (Value.int .i64 a0.X.Lo)), (A.v (Value.int .i64 a0.X.Hi)), (A.v (Value.int .i64 a0.Y.Lo)), (A.v (Value.int .i64 a0.Y.Hi))], Blk.box [(A.v (Value.int .i64 a1.X.Lo)), (A.v (Value.int .i64 a1.X.Hi)), (A.v (Value.int .i64 a1.Y.Lo)), (A.v (Value.int .i64 a1.Y.Hi))], Blk.box [(A.v (Value.int .i64 a2.X.Lo)), (A.v (Value.int .i64 a2.X.Hi)), (A.v (Value.int .i64 a2.Y.Lo)), (A.v (Value.int .i64 a2.Y.Hi))]])) (by kernel_rfl) ?_
  refine .bd (g := fun (y : Bool) => (A.v (Value.bool y))) (h10 ()) fun y1 => ?_
  refine .st (v := (A.v (Value.bool (!y1)))) (by kernel_rfl) ?_
  refine .bi ?_ ?_
  · exact .lf rfl rfl ⟨_, rfl, rfl⟩
  · refine .st (v := (A.agg [(A.v (Value.int .i64 a0.X.Lo)), (A.v (Value.int .i64 a0.X.Hi)), (A.v (Value.int .i64 a0.Y.Lo)), (A.v (Value.int .i64 a0.Y.Hi))])) (by kernel_rfl) ?_
    refine .st (v := (A.agg [(A.v (Value.int .i64 a1.X.Lo)), (A.v (Value.int .i64 a1.X.Hi)), (A.v (Value.int .i64 a1.Y.Lo)), (A.v (Value.int .i64 a1.Y.Hi))])) (by kernel_rfl) ?_
    refine .bd (g := fun (y : (S_Box × Int)) => (A.tup [(A.agg [(A.v (Value.int .i64 y.1.X.Lo)), (A.v (Value.int .i64 y.1.X.Hi)), (A.v (Value.int .i64 y.1.Y.Lo)), (A.v (Value.int .i64 y.1.Y.Hi))]), (A.v (Value.int .i64 y.2))])) (h21 a0 a1) fun y2 => ?_
    refine .st (v := (A.agg [(A.v (Value.int .i64 y2.1.X.Lo)), (A.v (Value.int .i64 y2.1.X.Hi)), (A.v (Value.int .i64 y2.1.Y.Lo)), (A.v (Value.int .i64 y2.1.Y.Hi))])) (by kernel_rfl) ?_
    refine .st (v := (A.v (Value.int .i64 y2.2))) (by kernel_rfl) ?_
    refine .st (v := ((A.ptr 3 0), [Blk.box [(A.v (Value.int .i64 a0.X.Lo)), (A.v (Value.int .i64 a0.X.Hi)), (A.v (Value.int .i64 a0.Y.Lo)), (A.v (Value.int .i64 a0.Y.Hi))], Blk.box [(A.v (Value.int .i64 a1.X.Lo)), (A.v (Value.int .i64 a1.X.Hi)), (A.v (Value.int .i64 a1.Y.Lo)), (A.v (Value.int .i64 a1.Y.Hi))], Blk.box [(A.v (Value.int .i64 a2.X.Lo)), (A.v (Value.int .i64 a2.X.Hi)), (A.v (Value.int .i64 a2.Y.Lo)), (A.v (Value.int .i64 a2.Y.Hi))], Blk.box [(A.v (Value.int .i64 0)), (A.v (Value.int .i64 0)), (A.v (Value.int .i64 0)), (A.v (Value.int .i64 0))]])) (by kernel_rfl) ?_
    refine .st (v := [Blk.box [(A.v (Value.int .i64 a0.X.Lo)), (A.v (Value.int .i64 a0.X.Hi)), (A.v (Value.int .i64 a0.Y.Lo)), (A.v (Value.int .i64 a0.Y.Hi))], Blk.box [(A.v (Value.int .i64 a1.X.Lo)), (A.v (Value.int .i64 a1.X.Hi)), (A.v (Value.int .i64 a1.Y.Lo)), (A.v (Value.int .i64 a1.Y.Hi))], Blk.box [(A.v (Value.int .i64 a2.X.Lo)), (A.v (Value.int .i64 a2.X.Hi)), (A.v (Value.int .i64 a2.Y.Lo)), (A.v (Value.int .i64 a2.Y.Hi))], Blk.box [(A.v (Value.int .i64 y2.1.X.Lo)), (A.v (Value.int .i64 y2.1.X.Hi)), (A.v (Value.int .i64 y2.1.Y.Lo)), (A.v (Value.int .i64 y2.1.Y.Hi))]]) (by kernel_rfl) ?_
    refine .st (v := (A.agg [(A.v (Value.int .i64 a0.X.Lo)), (A.v (Value.int .i64 a0.X.Hi)), (A.v (Value.int .i64 a0.Y.Lo)), (A.v (Value.int .i64 a0.Y.Hi))])) (by kernel_rfl) ?_
    refine .st (v := (A.agg [(A.v (Value.int .i64 a1.X.Lo)), (A.v (Value.int .i64 a1.X.Hi)), (A.v (Value.int .i64 a1.Y.Lo)), (A.v (Value.int .i64 a1.Y.Hi))])) (by kernel_rfl) ?_
    refine .bd (g := fun (y : (Bool × Int)) => (A.tup [(A.v (Value.bool y.1)), (A.v (Value.int .i64 y.2))])) (h23 a0 a1) fun y3 => ?_
    refine .st (v := (A.v (Value.bool y3.1))) (by kernel_rfl) ?_
    refine .st (v := (A.v (Value.int .i64 y3.2))) (by kernel_rfl) ?_
    refine .st (v := (A.agg [(A.v (Value.int .i64 a1.X.Lo)), (A.v (Value.int .i64 a1.X.Hi)), (A.v (Value.int .i64 a1.Y.Lo)), (A.v (Value.int .i64 a1.Y.Hi))])) (by kernel_rfl) ?_
    refine .st (v := (A.agg [(A.v (Value.int .i64 a0.X.Lo)), (A.v (Value.int .i64 a0.X.Hi)), (A.v (Value.int .i64 a0.Y.Lo)), (A.v (Value.int .i64 a0.Y.Hi))])) (by kernel_rfl) ?_
    refine .bd (g := fun (y : (Bool × Int)) => (A.tup [(A.v (Value.bool y.1)), (A.v (Value.int .i64 y.2))])) (h23 a1 a0) fun y4 => ?_
    refine .st (v := (A.v (Value.bool y4.1))) (by kernel_rfl) ?_
    refine .st (v := (A.v (Value.int .i64 y4.2))) (by kernel_rfl) ?_
    refine .st (v := (A.v (Value.bool (y2.2 != 0)))) (aBin_neq ..) ?_
    refine .bg (fun t (y : Bool) => ∃ j6 j7 : A, t = [(A.v (Value.bool y)), j6, j7]) ?_ ?_
    · refine .bi ?_ ?_
      · exact .lg ⟨_, _, rfl⟩
      · refine .st (v := (A.v (Value.bool (y3.2 != 0)))) (aBin_neq ..) ?_
        exact .lg ⟨_, _, rfl⟩
    rintro _ y5 ⟨j6, j7, rfl⟩
    iterate 3 refine .uc ?_
    refine .bg (fun t (y : Bool) => ∃ j9 j10 : A, t = [(A.v (Value.bool y)), j9, j10]) ?_ ?_
    · refine .bi ?_ ?_
      · exact .lg ⟨_, _, rfl⟩
      · refine .st (v := (A.v (Value.bool (y4.2 != 0)))) (aBin_neq ..) ?_
        exact .lg ⟨_, _, rfl⟩
    rintro _ y8 ⟨j9, j10, rfl⟩
    iterate 3 refine .uc ?_
    refine .bi ?_ ?_
    · refine .st (v := (A.v (Value.bool (y2.2 == y3.2)))) (aBin_eql ..) ?_
      refine .bg (fun t (y : Bool) => ∃ j12 j13 j14 : A, t = [(A.v (Value.bool y)), j12, j13, j14]) ?_ ?_
      · refine .bi ?_ ?_
        · refine .st (v := (A.v (Value.bool (y3.2 == y4.2)))) (aBin_eql ..) ?_
          exact .lg ⟨_, _, _, rfl⟩
        · exact .lg ⟨_, _, _, rfl⟩
      rintro _ y11 ⟨j12, j13, j14, rfl⟩
      iterate 4 refine .uc ?_
      refine .bg (fun t (y : Bool) => ∃ j16 j17 j18 : A, t = [(A.v (Value.bool y)), j16, j17, j18]) ?_ ?_
      · refine .bi ?_ ?_
        · refine .st (v := (A.agg [(A.v (Value.int .i64 y2.1.X.Lo)), (A.v (Value.int .i64 y2.1.X.Hi)), (A.v (Value.int .i64 y2.1.Y.Lo)), (A.v (Value.int .i64 y2.1.Y.Hi))])) (by kernel_rfl) ?_
          refine .st (v := (A.agg [(A.v (Value.int .i64 0)), (A.v (Value.int .i64 0)), (A.v (Value.int .i64 0)), (A.v (Value.int .i64 0))])) (by kernel_rfl) ?_
          refine .st (v := (A.v (Value.bool ((((y2.1.X.Lo == 0) && (y2.1.X.Hi == 0)) && ((y2.1.Y.Lo == 0) && (y2.1.Y.Hi == 0))))))) (by kernel_rfl) ?_
          exact .lg ⟨_, _, _, rfl⟩
        · exact .lg ⟨_, _, _, rfl⟩
      rintro _ y15 ⟨j16, j17, j18, rfl⟩
      iterate 4 refine .uc ?_
      refine .bg (fun t (y : Bool) => ∃ j20 j21 : A, t = [(A.v (Value.bool y)), j20, j21]) ?_ ?_
      · refine .bi ?_ ?_
        · refine .st (v := (A.v (Value.bool (!y3.1)))) (by kernel_rfl) ?_
          exact .lg ⟨_, _, rfl⟩
        · exact .lg ⟨_, _, rfl⟩
      rintro _ y19 ⟨j20, j21, rfl⟩
      iterate 3 refine .uc ?_
      refine .bg (fun t (y : Bool) => ∃ j23 j24 : A, t = [(A.v (Value.bool y)), j23, j24]) ?_ ?_
      · refine .bi ?_ ?_
        · refine .st (v := (A.v (Value.bool (!y4.1)))) (by kernel_rfl) ?_
          exact .lg ⟨_, _, rfl⟩
        · exact .lg ⟨_, _, rfl⟩
      rintro _ y22 ⟨j23, j24, rfl⟩
      iterate 3 refine .uc ?_
      exact .lf rfl rfl ⟨_, rfl, rfl⟩
    · refine .st (v := (A.agg [(A.v (Value.int .i64 a0.X.Lo)), (A.v (Value.int .i64 a0.X.Hi)), (A.v (Value.int .i64 a0.Y.Lo)), (A.v (Value.int .i64 a0.Y.Hi))])) (by kernel_rfl) ?_
      refine .st (v := (A.agg [(A.v (Value.int .i64 y2.1.X.Lo)), (A.v (Value.int .i64 y2.1.X.Hi)), (A.v (Value.int .i64 y2.1.Y.Lo)), (A.v (Value.int .i64 y2.1.Y.Hi))])) (by kernel_rfl) ?_
      refine .bd (g := fun (y : (Bool × Int)) => (A.tup [(A.v (Value.bool y.1)), (A.v (Value.int .i64 y.2))])) (h25 a0 y2.1) fun y25 => ?_
      refine .st (v := (A.v (Value.bool y25.1))) (by kernel_rfl) ?_
      refine .st (v := (A.v (Value.int .i64 y25.2))) (by kernel_rfl) ?_
      refine .st (v := (A.agg [(A.v (Value.int .i64 a1.X.Lo)), (A.v (Value.int .i64 a1.X.Hi)), (A.v (Value.int .i64 a1.Y.Lo)), (A.v (Value.int .i64 a1.Y.Hi))])) (by kernel_rfl) ?_
      refine .st (v := (A.agg [(A.v (Value.int .i64 y2.1.X.Lo)), (A.v (Value.int .i64 y2.1.X.Hi)), (A.v (Value.int .i64 y2.1.Y.Lo)), (A.v (Value.int .i64 y2.1.Y.Hi))])) (by kernel_rfl) ?_
      refine .bd (g := fun (y : (Bool × Int)) => (A.tup [(A.v (Value.bool y.1)), (A.v (Value.int .i64 y.2))])) (h25 a1 y2.1) fun y26 => ?_
      refine .st (v := (A.v (Value.bool y26.1))) (by kernel_rfl) ?_
      refine .st (v := (A.v (Value.int .i64 y26.2))) (by kernel_rfl) ?_
      refine .st (v := (A.v (Value.bool (y25.2 != 0)))) (aBin_neq ..) ?_
      refine .bg (fun t (y : Bool) => ∃ j28 j29 : A, t = [(A.v (Value.bool y)), j28, j29]) ?_ ?_
      · refine .bi ?_ ?_
        · exact .lg ⟨_, _, rfl⟩
        · refine .st (v := (A.v (Value.bool (y26.2 != 0)))) (aBin_neq ..) ?_
          exact .lg ⟨_, _, rfl⟩
      rintro _ y27 ⟨j28, j29, rfl⟩
      iterate 3 refine .uc ?_
      refine .bg (fun t (y : Bool) => ∃ j31 j32 : A, t = [(A.v (Value.bool y)), j31, j32]) ?_ ?_
      · refine .bi ?_ ?_
        · exact .lg ⟨_, _, rfl⟩
        · refine .st (v := (A.v (Value.bool (!y25.1)))) (by kernel_rfl) ?_
          exact .lg ⟨_, _, rfl⟩
      rintro _ y30 ⟨j31, j32, rfl⟩
      iterate 3 refine .uc ?_
      refine .bg (fun t (y : Bool) => ∃ j34 j35 : A, t = [(A.v (Value.bool y)), j34, j35]) ?_ ?_
      · refine .bi ?_ ?_
        · exact .lg ⟨_, _, rfl⟩
        · refine .st (v := (A.v (Value.bool (!y26.1)))) (by kernel_rfl) ?_
          exact .lg ⟨_, _, rfl⟩
      rintro _ y33 ⟨j34, j35, rfl⟩
      iterate 3 refine .uc ?_
      refine .bg (fun t (y : Bool) => ∃ j37 j38 j39 : A, t = [(A.v (Value.bool y)), j37, j38, j39]) ?_ ?_
      · refine .bi ?_ ?_
        · exact .lg ⟨_, _, _, rfl⟩
        · refine .st (v := (A.v (Value.bool (y3.1 != y4.1)))) (by kernel_rfl) ?_
          exact .lg ⟨_, _, _, rfl⟩
      rintro _ y36 ⟨j37, j38, j39, rfl⟩
      iterate 4 refine .uc ?_
      refine .bi ?_ ?_
      · exact .lf rfl rfl ⟨_, rfl, rfl⟩
      · refine .st (v := (A.ptr 0 0)) (by kernel_rfl) ?_
        refine .st (v := (A.ptr 0 0)) (by kernel_rfl) ?_
        refine .st (v := (A.v (Value.int .i64 a0.X.Lo))) (by kernel_rfl) ?_
        refine .st (v := (A.ptr 1 0)) (by kernel_rfl) ?_
        refine .st (v := (A.ptr 1 0)) (by kernel_rfl) ?_
        refine .st (v := (A.v (Value.int .i64 a1.X.Lo))) (by kernel_rfl) ?_
        refine .st (v := (A.v (Value.int .i64 ((if a0.X.Lo < a1.X.Lo then a1.X.Lo else a0.X.Lo))))) (by kernel_rfl) ?_
        refine .st (v := (A.ptr 0 0)) (by kernel_rfl) ?_
        refine .st (v := (A.ptr 0 1)) (by kernel_rfl) ?_
        refine .st (v := (A.v (Value.int .i64 a0.X.Hi))) (by kernel_rfl) ?_
        refine .st (v := (A.ptr 1 0)) (by kernel_rfl) ?_
        refine .st (v := (A.ptr 1 1)) (by kernel_rfl) ?_
        refine .st (v := (A.v (Value.int .i64 a1.X.Hi))) (by kernel_rfl) ?_
        refine .st (v := (A.v (Value.int .i64 ((if a1.X.Hi < a0.X.Hi then a1.X.Hi else a0.X.Hi))))) (by kernel_rfl) ?_
        refine .st (v := (A.agg [(A.v (Value.int .i64 ((if a0.X.Lo < a1.X.Lo then a1.X.Lo else a0.X.Lo)))), (A.v (Value.int .i64 ((if a1.X.Hi < a0.X.Hi then a1.X.Hi else a0.X.Hi))))])) (by kernel_rfl) ?_
        refine .st (v := (A.ptr 0 2)) (by kernel_rfl) ?_
        refine .st (v := (A.ptr 0 2)) (by kernel_rfl) ?_
        refine .st (v := (A.v (Value.int .i64 a0.Y.Lo))) (by kernel_rfl) ?_
        refine .st (v := (A.ptr 1 2)) (by kernel_rfl) ?_
        refine .st (v := (A.ptr 1 2)) (by kernel_rfl) ?_
        refine .st (v := (A.v (Value.int .i64 a1.Y.Lo))) (by kernel_rfl) ?_
        refine .st (v := (A.v (Value.int .i64 ((if a0.Y.Lo < a1.Y.Lo then a1.Y.Lo else a0.Y.Lo))))) (by kernel_rfl) ?_
        refine .st (v := (A.ptr 0 2)) (by kernel_rfl) ?_
        refine .st (v := (A.ptr 0 3)) (by kernel_rfl) ?_
        refine .st (v := (A.v (Value.int .i64 a0.Y.Hi))) (by kernel_rfl) ?_
        refine .st (v := (A.ptr 1 2)) (by kernel_rfl) ?_
        refine .st (v := (A.ptr 1 3)) (by kernel_rfl) ?_
        refine .st (v := (A.v (Value.int .i64 a1.Y.Hi))) (by kernel_rfl) ?_
        refine .st (v := (A.v (Value.int .i64 ((if a1.Y.Hi < a0.Y.Hi then a1.Y.Hi else a0.Y.Hi))))) (by kernel_rfl) ?_
        refine .st (v := (A.agg [(A.v (Value.int .i64 ((if a0.Y.Lo < a1.Y.Lo then a1.Y.Lo else a0.Y.Lo)))), (A.v (Value.int .i64 ((if a1.Y.Hi < a0.Y.Hi then a1.Y.Hi else a0.Y.Hi))))])) (by kernel_rfl) ?_
        refine .st (v := (A.agg [(A.v (Value.int .i64 ((if a0.X.Lo < a1.X.Lo then a1.X.Lo else a0.X.Lo)))), (A.v (Value.int .i64 ((if a1.X.Hi < a0.X.Hi then a1.X.Hi else a0.X.Hi)))), (A.v (Value.int .i64 ((if a0.Y.Lo < a1.Y.Lo then a1.Y.Lo else a0.Y.Lo)))), (A.v (Value.int .i64 ((if a1.Y.Hi < a0.Y.Hi then a1.Y.Hi else a0.Y.Hi))))])) (by kernel_rfl) ?_
        refine .st (v := ((A.ptr 4 0), [Blk.box [(A.v (Value.int .i64 a0.X.Lo)), (A.v (Value.int .i64 a0.X.Hi)), (A.v (Value.int .i64 a0.Y.Lo)), (A.v (Value.int .i64 a0.Y.Hi))], Blk.box [(A.v (Value.int .i64 a1.X.Lo)), (A.v (Value.int .i64 a1.X.Hi)), (A.v (Value.int .i64 a1.Y.Lo)), (A.v (Value.int .i64 a1.Y.Hi))], Blk.box [(A.v (Value.int .i64 a2.X.Lo)), (A.v (Value.int .i64 a2.X.Hi)), (A.v (Value.int .i64 a2.Y.Lo)), (A.v (Value.int .i64 a2.Y.Hi))], Blk.box [(A.v (Value.int .i64 y2.1.X.Lo)), (A.v (Value.int .i64 y2.1.X.Hi)), (A.v (Value.int .i64 y2.1.Y.Lo)), (A.v (Value.int .i64 y2.1.Y.Hi))], Blk.box [(A.v (Value.int .i64 0)), (A.v (Value.int .i64 0)), (A.v (Value.int .i64 0)), (A.v (Value.int .i64 0))]])) (by kernel_rfl) ?_
        refine .st (v := [Blk.box [(A.v (Value.int .i64 a0.X.Lo)), (A.v (Value.int .i64 a0.X.Hi)), (A.v (Value.int .i64 a0.Y.Lo)), (A.v (Value.int .i64 a0.Y.Hi))], Blk.box [(A.v (Value.int .i64 a1.X.Lo)), (A.v (Value.int .i64 a1.X.Hi)), (A.v (Value.int .i64 a1.Y.Lo)), (A.v (Value.int .i64 a1.Y.Hi))], Blk.box [(A.v (Value.int .i64 a2.X.Lo)), (A.v (Value.int .i64 a2.X.Hi)), (A.v (Value.int .i64 a2.Y.Lo)), (A.v (Value.int .i64 a2.Y.Hi))], Blk.box [(A.v (Value.int .i64 y2.1.X.Lo)), (A.v (Value.int .i64 y2.1.X.Hi)), (A.v (Value.int .i64 y2.1.Y.Lo)), (A.v (Value.int .i64 y2.1.Y.Hi))], Blk.box [(A.v (Value.int .i64 ((if a0.X.Lo < a1.X.Lo then a1.X.Lo else a0.X.Lo)))), (A.v (Value.int .i64 ((if a1.X.Hi < a0.X.Hi then a1.X.Hi else a0.X.Hi)))), (A.v (Value.int .i64 ((if a0.Y.Lo < a1.Y.Lo then a1.Y.Lo else a0.Y.Lo)))), (A.v (Value.int .i64 ((if a1.Y.Hi < a0.Y.Hi then a1.Y.Hi else a0.Y.Hi))))]]) (by kernel_rfl) ?_
        refine .st (v := (A.agg [(A.v (Value.int .i64 ((if a0.X.Lo < a1.X.Lo then a1.X.Lo else a0.X.Lo)))), (A.v (Value.int .i64 ((if a1.X.Hi < a0.X.Hi then a1.X.Hi else a0.X.Hi)))), (A.v (Value.int .i64 ((if a0.Y.Lo < a1.Y.Lo then a1.Y.Lo else a0.Y.Lo)))), (A.v (Value.int .i64 ((if a1.Y.Hi < a0.Y.Hi then a1.Y.Hi else a0.Y.Hi))))])) (by kernel_rfl) ?_
        refine .st (v := (A.agg [(A.v (Value.int .i64 a0.X.Lo)), (A.v (Value.int .i64 a0.X.Hi)), (A.v (Value.int .i64 a0.Y.Lo)), (A.v (Value.int .i64 a0.Y.Hi))])) (by kernel_rfl) ?_
        refine .bd (g := fun (y : (Bool × Int)) => (A.tup [(A.v (Value.bool y.1)), (A.v (Value.int .i64 y.2))])) (h25 ((S_Box.mk ((S_Range.mk ((if a0.X.Lo < a1.X.Lo then a1.X.Lo else a0.X.Lo)) ((if a1.X.Hi < a0.X.Hi then a1.X.Hi else a0.X.Hi)))) ((S_Range.mk ((if a0.Y.Lo < a1.Y.Lo then a1.Y.Lo else a0.Y.Lo)) ((if a1.Y.Hi < a0.Y.Hi then a1.Y.Hi else a0.Y.Hi)))))) a0) fun y40 => ?_
        refine .st (v := (A.v (Value.bool y40.1))) (by kernel_rfl) ?_
        refine .st (v := (A.v (Value.int .i64 y40.2))) (by kernel_rfl) ?_
        refine .st (v := (A.agg [(A.v (Value.int .i64 ((if a0.X.Lo < a1.X.Lo then a1.X.Lo else a0.X.Lo)))), (A.v (Value.int .i64 ((if a1.X.Hi < a0.X.Hi then a1.X.Hi else a0.X.Hi)))), (A.v (Value.int .i64 ((if a0.Y.Lo < a1.Y.Lo then a1.Y.Lo else a0.Y.Lo)))), (A.v (Value.int .i64 ((if a1.Y.Hi < a0.Y.Hi then a1.Y.Hi else a0.Y.Hi))))])) (by kernel_rfl) ?_
        refine .st (v := (A.agg [(A.v (Value.int .i64 a1.X.Lo)), (A.v (Value.int .i64 a1.X.Hi)), (A.v (Value.int .i64 a1.Y.Lo)), (A.v (Value.int .i64 a1.Y.Hi))])) (by kernel_rfl) ?_
        refine .bd (g := fun (y : (Bool × Int)) => (A.tup [(A.v (Value.bool y.1)), (A.v (Value.int .i64 y.2))])) (h25 ((S_Box.mk ((S_Range.mk ((if a0.X.Lo < a1.X.Lo then a1.X.Lo else a0.X.Lo)) ((if a1.X.Hi < a0.X.Hi then a1.X.Hi else a0.X.Hi)))) ((S_Range.mk ((if a0.Y.Lo < a1.Y.Lo then a1.Y.Lo else a0.Y.Lo)) ((if a1.Y.Hi < a0.Y.Hi then a1.Y.Hi else a0.Y.Hi)))))) a1) fun y41 => ?_
        refine .st (v := (A.v (Value.bool y41.1))) (by kernel_rfl) ?_
        refine .st (v := (A.v (Value.int .i64 y41.2))) (by kernel_rfl) ?_
        refine .st (v := (A.v (Value.bool (y40.2 != 0)))) (aBin_neq ..) ?_
        refine .st (v := (A.v (Value.bool (y3.1 != (y40.2 != 0))))) (by kernel_rfl) ?_
        refine .bg (fun t (y : Bool) => ∃ j43 j44 j45 : A, t = [(A.v (Value.bool y)), j43, j44, j45]) ?_ ?_
        · refine .bi ?_ ?_
          · exact .lg ⟨_, _, _, rfl⟩
          · refine .st (v := (A.v (Value.bool (y40.2 != y41.2)))) (aBin_neq ..) ?_
            exact .lg ⟨_, _, _, rfl⟩
        rintro _ y42 ⟨j43, j44, j45, rfl⟩
        iterate 4 refine .uc ?_
        refine .bg (fun t (y : Bool) => ∃ j57 j58 j59 j60 j61 j62 j63 j64 j65 j66 : A, t = [(A.v (Value.bool y)), j57, j58, j59, j60, j61, j62, j63, j64, j65, j66]) ?_ ?_
        · refine .bi ?_ ?_
          · exact .lg ⟨_, _, _, _, _, _, _, _, _, _, rfl⟩
          · refine .st (v := (A.v (Value.bool (!y3.1)))) (by kernel_rfl) ?_
            refine .bg (fun t (y : Bool) => ∃ j50 j51 j52 j53 j54 j55 : A, t = [(A.v (Value.bool y)), j50, j51, j52, j53, j54, j55]) ?_ ?_
            · refine .bi ?_ ?_
              · refine .st (v := (A.v (Value.bool (!y40.1)))) (by kernel_rfl) ?_
                refine .bg (fun t (y : Bool) => ∃ j47 j48 : A, t = [(A.v (Value.bool y)), j47, j48]) ?_ ?_
                · refine .bi ?_ ?_
                  · exact .lg ⟨_, _, rfl⟩
                  · refine .st (v := (A.v (Value.bool (!y41.1)))) (by kernel_rfl) ?_
                    exact .lg ⟨_, _, rfl⟩
                rintro _ y46 ⟨j47, j48, rfl⟩
                iterate 3 refine .uc ?_
                exact .lg ⟨_, _, _, _, _, _, rfl⟩
              · exact .lg ⟨_, _, _, _, _, _, rfl⟩
            rintro _ y49 ⟨j50, j51, j52, j53, j54, j55, rfl⟩
            iterate 7 refine .uc ?_
            exact .lg ⟨_, _, _, _, _, _, _, _, _, _, rfl⟩
        rintro _ y56 ⟨j57, j58, j59, j60, j61, j62, j63, j64, j65, j66, rfl⟩
        iterate 11 refine .uc ?_
        refine .bi ?_ ?_
        · exact .lf rfl rfl ⟨_, rfl, rfl⟩
        · refine .st (v := (A.agg [(A.v (Value.int .i64 a0.X.Lo)), (A.v (Value.int .i64 a0.X.Hi)), (A.v (Value.int .i64 a0.Y.Lo)), (A.v (Value.int .i64 a0.Y.Hi))])) (by kernel_rfl) ?_
          refine .st (v := (A.agg [(A.v (Value.int .i64 a2.X.Lo)), (A.v (Value.int .i64 a2.X.Hi)), (A.v (Value.int .i64 a2.Y.Lo)), (A.v (Value.int .i64 a2.Y.Hi))])) (by kernel_rfl) ?_
          refine .bd (g := fun (y : (Bool × Int)) => (A.tup [(A.v (Value.bool y.1)), (A.v (Value.int .i64 y.2))])) (h25 a0 a2) fun y67 => ?_
          refine .st (v := (A.v (Value.bool y67.1))) (by kernel_rfl) ?_
          refine .st (v := (A.v (Value.int .i64 y67.2))) (by kernel_rfl) ?_
          refine .st (v := (A.agg [(A.v (Value.int .i64 a1.X.Lo)), (A.v (Value.int .i64 a1.X.Hi)), (A.v (Value.int .i64 a1.Y.Lo)), (A.v (Value.int .i64 a1.Y.Hi))])) (by kernel_rfl) ?_
          refine .st (v := (A.agg [(A.v (Value.int .i64 a2.X.Lo)), (A.v (Value.int .i64 a2.X.Hi)), (A.v (Value.int .i64 a2.Y.Lo)), (A.v (Value.int .i64 a2.Y.Hi))])) (by kernel_rfl) ?_
          refine .bd (g := fun (y : (Bool × Int)) => (A.tup [(A.v (Value.bool y.1)), (A.v (Value.int .i64 y.2))])) (h25 a1 a2) fun y68 => ?_
          refine .st (v := (A.v (Value.bool y68.1))) (by kernel_rfl) ?_
          refine .st (v := (A.v (Value.int .i64 y68.2))) (by kernel_rfl) ?_
          refine .st (v := (A.v (Value.bool (y67.2 != 0)))) (aBin_neq ..) ?_
          refine .bg (fun t (y : Bool) => ∃ j70 j71 : A, t = [(A.v (Value.bool y)), j70, j71]) ?_ ?_
          · refine .bi ?_ ?_
            · exact .lg ⟨_, _, rfl⟩
            · refine .st (v := (A.v (Value.bool (y68.2 != 0)))) (aBin_neq ..) ?_
              exact .lg ⟨_, _, rfl⟩
          rintro _ y69 ⟨j70, j71, rfl⟩
          iterate 3 refine .uc ?_
          refine .bi ?_ ?_
          · refine .st (v := (A.v (Value.bool (y67.2 == y68.2)))) (aBin_eql ..) ?_
            exact .lf rfl rfl ⟨_, rfl, rfl⟩
          · refine .st (v := (A.agg [(A.v (Value.int .i64 y2.1.X.Lo)), (A.v (Value.int .i64 y2.1.X.Hi)), (A.v (Value.int .i64 y2.1.Y.Lo)), (A.v (Value.int .i64 y2.1.Y.Hi))])) (by kernel_rfl) ?_
            refine .st (v := (A.agg [(A.v (Value.int .i64 a2.X.Lo)), (A.v (Value.int .i64 a2.X.Hi)), (A.v (Value.int .i64 a2.Y.Lo)), (A.v (Value.int .i64 a2.Y.Hi))])) (by kernel_rfl) ?_
            refine .bd (g := fun (y : (Bool × Int)) => (A.tup [(A.v (Value.bool y.1)), (A.v (Value.int .i64 y.2))])) (h25 y2.1 a2) fun y72 => ?_
            refine .st (v := (A.v (Value.bool y72.1))) (by kernel_rfl) ?_
            refine .st (v := (A.v (Value.int .i64 y72.2))) (by kernel_rfl) ?_
            refine .st (v := (A.agg [(A.v (Value.int .i64 a2.X.Lo)), (A.v (Value.int .i64 a2.X.Hi)), (A.v (Value.int .i64 a2.Y.Lo)), (A.v (Value.int .i64 a2.Y.Hi))])) (by kernel_rfl) ?_
            refine .st (v := (A.agg [(A.v (Value.int .i64 a0.X.Lo)), (A.v (Value.int .i64 a0.X.Hi)), (A.v (Value.int .i64 a0.Y.Lo)), (A.v (Value.int .i64 a0.Y.Hi))])) (by kernel_rfl) ?_
            refine .bd (g := fun (y : (Bool × Int)) => (A.tup [(A.v (Value.bool y.1)), (A.v (Value.int .i64 y.2))])) (h25 a2 a0) fun y73 => ?_
            refine .st (v := (A.v (Value.bool y73.1))) (by kernel_rfl) ?_
            refine .st (v := (A.v (Value.int .i64 y73.2))) (by kernel_rfl) ?_
            refine .st (v := (A.agg [(A.v (Value.int .i64 a2.X.Lo)), (A.v (Value.int .i64 a2.X.Hi)), (A.v (Value.int .i64 a2.Y.Lo)), (A.v (Value.int .i64 a2.Y.Hi))])) (by kernel_rfl) ?_
            refine .st (v := (A.agg [(A.v (Value.int .i64 a1.X.Lo)), (A.v (Value.int .i64 a1.X.Hi)), (A.v (Value.int .i64 a1.Y.Lo)), (A.v (Value.int .i64 a1.Y.Hi))])) (by kernel_rfl) ?_
            refine .bd (g := fun (y : (Bool × Int)) => (A.tup [(A.v (Value.bool y.1)), (A.v (Value.int .i64 y.2))])) (h25 a2 a1) fun y74 => ?_
            refine .st (v := (A.v (Value.bool y74.1))) (by kernel_rfl) ?_
            refine .st (v := (A.v (Value.int .i64 y74.2))) (by kernel_rfl) ?_
            refine .st (v := (A.v (Value.bool (y72.2 == 0)))) (aBin_eql ..) ?_
            refine .bg (fun t (y : Bool) => ∃ j76 j77 : A, t = [(A.v (Value.bool y)), j76, j77]) ?_ ?_
            · refine .bi ?_ ?_
              · refine .st (v := (A.v (Value.bool (y73.2 == 0)))) (aBin_eql ..) ?_
                exact .lg ⟨_, _, rfl⟩
              · exact .lg ⟨_, _, rfl⟩
            rintro _ y75 ⟨j76, j77, rfl⟩
            iterate 3 refine .uc ?_
            refine .bg (fun t (y : Bool) => ∃ j79 j80 : A, t = [(A.v (Value.bool y)), j79, j80]) ?_ ?_
            · refine .bi ?_ ?_
              · refine .st (v := (A.v (Value.bool (y74.2 == 0)))) (aBin_eql ..) ?_
                exact .lg ⟨_, _, rfl⟩
              · exact .lg ⟨_, _, rfl⟩
            rintro _ y78 ⟨j79, j80, rfl⟩
            iterate 3 refine .uc ?_
            refine .bg (fun t (y : Bool) => ∃ j84 j85 j86 j87 j88 j89 : A, t = [(A.v (Value.bool y)), j84, j85, j86, j87, j88, j89]) ?_ ?_
            · refine .bi ?_ ?_
              · refine .bg (fun t (y : Bool) => ∃ j82 : A, t = [(A.v (Value.bool y)), j82]) ?_ ?_
                · refine .bi ?_ ?_
                  · exact .lg ⟨_, rfl⟩
                  · exact .lg ⟨_, rfl⟩
                rintro _ y81 ⟨j82, rfl⟩
                iterate 2 refine .uc ?_
                refine .st (v := (A.v (Value.bool (y72.1 == y81)))) (by kernel_rfl) ?_
                exact .lg ⟨_, _, _, _, _, _, rfl⟩
              · exact .lg ⟨_, _, _, _, _, _, rfl⟩
            rintro _ y83 ⟨j84, j85, j86, j87, j88, j89, rfl⟩
            iterate 7 refine .uc ?_
            refine .bg (fun t (y : Bool) => ∃ j95 j96 j97 j98 j99 j100 j101 j102 : A, t = [(A.v (Value.bool y)), j95, j96, j97, j98, j99, j100, j101, j102]) ?_ ?_
            · refine .bi ?_ ?_
              · refine .bg (fun t (y : Bool) => ∃ j91 : A, t = [(A.v (Value.bool y)), j91]) ?_ ?_
                · refine .bi ?_ ?_
                  · exact .lg ⟨_, rfl⟩
                  · exact .lg ⟨_, rfl⟩
                rintro _ y90 ⟨j91, rfl⟩
                iterate 2 refine .uc ?_
                refine .bg (fun t (y : Bool) => ∃ j93 : A, t = [(A.v (Value.bool y)), j93]) ?_ ?_
                · refine .bi ?_ ?_
                  · exact .lg ⟨_, rfl⟩
                  · exact .lg ⟨_, rfl⟩
                rintro _ y92 ⟨j93, rfl⟩
                iterate 2 refine .uc ?_
                refine .st (v := (A.v (Value.bool (!y92)))) (by kernel_rfl) ?_
                exact .lg ⟨_, _, _, _, _, _, _, _, rfl⟩
              · exact .lg ⟨_, _, _, _, _, _, _, _, rfl⟩
            rintro _ y94 ⟨j95, j96, j97, j98, j99, j100, j101, j102, rfl⟩
            iterate 9 refine .uc ?_
            exact .lf rfl rfl ⟨_, rfl, rfl⟩

def G8 (a0 : S_Box) (a1 : S_Box) (a2 : S_Box) : Option Bool := F8 fuel0 a0 a1 a2

def Orc8 (C : Nat → List A → Option A) : Prop := ∀ (a0 : S_Box) (a1 : S_Box) (a2 : S_Box), C 8 [(A.agg [(A.v (Value.int .i64 a0.X.Lo)), (A.v (Value.int .i64 a0.X.Hi)), (A.v (Value.int .i64 a0.Y.Lo)), (A.v (Value.int .i64 a0.Y.Hi))]), (A.agg [(A.v (Value.int .i64 a1.X.Lo)), (A.v (Value.int .i64 a1.X.Hi)), (A.v (Value.int .i64 a1.Y.Lo)), (A.v (Value.int .i64 a1.Y.Hi))]), (A.agg [(A.v (Value.int .i64 a2.X.Lo)), (A.v (Value.int .i64 a2.X.Hi)), (A.v (Value.int .i64 a2.Y.Lo)), (A.v (Value.int .i64 a2.Y.Hi))])] = (G8 a0 a1 a2).map fun y => (A.v (Value.bool y))

def F9 (n : Nat) (a0 : S_Box) (a1 : S_Box) (a2 : Int) (a3 : Int) : Option Bool :=
  Option.bind (G10 ) fun y1 => bif (!y1) then (some false) else (Option.bind (G27 a0 a2 a3) fun y2 => Option.bind (G27 a1 a2 a3) fun y3 => Option.bind (bif (y2.2 != 0) then (some true) else (some (y3.2 != 0))) fun y4 => bif y4 then (Option.bind (bif (y2.2 == 0) then (some true) else (some ((((y2.1.X.Lo == 0) && (y2.1.X.Hi == 0)) && ((y2.1.Y.Lo == 0) && (y2.1.Y.Hi == 0)))))) fun y7 => Option.bind (bif y7 then (Option.bind (bif (y3.2 == 0) then (some true) else (some ((((y3.1.X.Lo == 0) && (y3.1.X.Hi == 0)) && ((y3.1.Y.Lo == 0) && (y3.1.Y.Hi == 0)))))) fun y11 => some y11) else (some false)) fun y15 => some y15) else (Option.bind (bif (decide (a2 < (-2199023255552))) then (some true) else (some (decide (2199023255552 < a2)))) fun y23 => Option.bind (bif y23 then (some true) else (some (decide (a3 < (-2199023255552))))) fun y26 => Option.bind (bif y26 then (some true) else (some (decide (2199023255552 < a3)))) fun y29 => bif y29 then (some false) else (Option.bind (G23 a0 a1) fun y32 => Option.bind (G23 y2.1 y3.1) fun y33 => Option.bind (G25 a0 a1) fun y34 => Option.bind (G25 y2.1 y3.1) fun y35 => Option.bind (G27 y2.1 (wr .i64 (0 - a2)) (wr .i64 (0 - a3))) fun y36 => Option.bind (bif (y32.2 == 0) then (some (y33.2 == 0)) else (some false)) fun y37 => Option.bind (bif y37 then (some (y34.2 == 0)) else (some false)) fun y40 => Option.bind (bif y40 then (some (y35.2 == 0)) else (some false)) fun y43 => Option.bind (bif y43 then (some (y36.2 == 0)) else (some false)) fun y46 => Option.bind (bif y46 then (some (y32.1 == y33.1)) else (some false)) fun y49 => Option.bind (bif y49 then (some (y34.1 == y35.1)) else (some false)) fun y53 => Option.bind (bif y53 then (some ((((y36.1.X.Lo == a0.X.Lo) && (y36.1.X.Hi == a0.X.Hi)) && ((y36.1.Y.Lo == a0.Y.Lo) && (y36.1.Y.Hi == a0.Y.Hi))))) else (some false)) fun y57 => some y57)))

theorem T9 (C : Nat → List A → Option A) (n : Nat) (h10 : Orc10 C) (h23 : Orc23 C) (h25 : Orc25 C) (h27 : Orc27 C) (a0 : S_Box) (a1 : S_Box) (a2 : Int) (a3 : Int) : J (fun (o : R) y => ∃ v, o.1 = .ret v ∧ snap o.2 v = (A.v (Value.bool y))) (evCall1 (cx C) (evCall (cx C) (n+4)) (n+4) 9 [(A.agg [(A.v (Value.int .i64 a0.X.Lo)), (A.v (Value.int .i64 a0.X.Hi)), (A.v (Value.int .i64 a0.Y.Lo)), (A.v (Value.int .i64 a0.Y.Hi))]), (A.agg [(A.v (Value.int .i64 a1.X.Lo)), (A.v (Value.int .i64 a1.X.Hi)), (A.v (Value.int .i64 a1.Y.Lo)), (A.v (Value.int .i64 a1.Y.Hi))]), (A.v (Value.int .i64 a2)), (A.v (Value.int .i64 a3))] [] 0) some (F9 n a0 a1 a2 a3) some := by
  refine .lp (e9 ..) ?_
  unfold F9
  refine .st (v := ((A.ptr 0 0), [Blk.box [(A.v (Value.int .i64 a0.X.Lo)), (A.v (Value.int .i64 a0.X.Hi)), (A.v (Value.int .i64 a0.Y.Lo)), (A.v (Value.int .i64 a0.Y.Hi))]])) (by kernel_rfl) ?_
  refine .st (v := ((A.ptr 1 0), [Blk.box [(A.v (Value.int .i64 a0.X.Lo)), (A.v (Value.int .i64 a0.X.Hi)), (A.v (Value.int .i64 a0.Y.Lo)), (A.v (Value.int .i64 a0.Y.Hi))], Blk.box [(A.v (Value.int .i64 a1.X.Lo)), (A.v (Value.int .i64 a1.X.Hi)), (A.v (Value.int .i64 a1.Y.Lo)), (A.v (Value.int .i64 a1.Y.Hi))]])) (by kernel_rfl) ?_
  refine .bd (g := fun (y : Bool) => (A.v (Value.bool y))) (h10 ()) fun y1 => ?_
  refine .st (v := (A.v (Value.bool (!y1)))) (by kernel_rfl) ?_
  refine .bi ?_ ?_
  · exact .lf rfl rfl ⟨_, rfl, rfl⟩
  · refine .st (v := (A.agg [(A.v (Value.int .i64 a0.X.Lo)), (A.v (Value.int .i64 a0.X.Hi)), (A.v (Value.int .i64 a0.Y.Lo)), (A.v (Value.int .i64 a0.Y.Hi))])) (by kernel_rfl) ?_
    refine .bd (g := fun (y : (S_Box × Int)) => (A.tup [(A.agg [(A.v (Value.int .i64 y.1.X.Lo)), (A.v (Value.int .i64 y.1.X.Hi)), (A.v (Value.int .i64 y.1.Y.Lo)), (A.v (Value.int .i64 y.1.Y.Hi))]), (A.v (Value.int .i64 y.2))])) (h27 a0 a2 a3) fun y2 => ?_
    refine .st (v := (A.agg [(A.v (Value.int .i64 y2.1.X.Lo)), (A.v (Value.int .i64 y2.1.X.Hi)), (A.v (Value.int .i64 y2.1.Y.Lo)), (A.v (Value.int .i64 y2.1.Y.Hi))])) (by kernel_rfl) ?_
    refine .st (v := (A.v (Value.int .i64 y2.2))) (by kernel_rfl) ?_
    refine .st (v := ((A.ptr 2 0), [Blk.box [(A.v (Value.int .i64 a0.X.Lo)), (A.v (Value.int .i64 a0.X.Hi)), (A.v (Value.int .i64 a0.Y.Lo)), (A.v (Value.int .i64 a0.Y.Hi))], Blk.box [(A.v (Value.int .i64 a1.X.Lo)), (A.v (Value.int .i64 a1.X.Hi)), (A.v (Value.int .i64 a1.Y.Lo)), (A.v (Value.int .i64 a1.Y.Hi))], Blk.box [(A.v (Value.int .i64 0)), (A.v (Value.int .i64 0)), (A.v (Value.int .i64 0)), (A.v (Value.int .i64 0))]])) (by kernel_rfl) ?_
    refine .st (v := [Blk.box [(A.v (Value.int .i64 a0.X.Lo)), (A.v (Value.int .i64 a0.X.Hi)), (A.v (Value.int .i64 a0.Y.Lo)), (A.v (Value.int .i64 a0.Y.Hi))], Blk.box [(A.v (Value.int .i64 a1.X.Lo)), (A.v (Value.int .i64 a1.X.Hi)), (A.v (Value.int .i64 a1.Y.Lo)), (A.v (Value.int .i64 a1.Y.Hi))], Blk.box [(A.v (Value.int .i64 y2.1.X.Lo)), (A.v (Value.int .i64 y2.1.X.Hi)), (A.v (Value.int .i64 y2.1.Y.Lo)), (A.v (Value.int .i64 y2.1.Y.Hi))]]) (by kernel_rfl) ?_
    refine .st (v := (A.agg [(A.v (Value.int .i64 a1.X.Lo)), (A.v (Value.int .i64 a1.X.Hi)), (A.v (Value.int .i64 a1.Y.Lo)), (A.v (Value.int .i64 a1.Y.Hi))])) (by kernel_rfl) ?_
    refine .bd (g := fun (y : (S_Box × Int)) => (A.tup [(A.agg [(A.v (Value.int .i64 y.1.X.Lo)), (A.v (Value.int .i64 y.1.X.Hi)), (A.v (Value.int .i64 y.1.Y.Lo)), (A.v (Value.int .i64 y.1.Y.Hi))]), (A.v (Value.int .i64 y.2))])) (h27 a1 a2 a3) fun y3 => ?_
    refine .st (v := (A.agg [(A.v (Value.int .i64 y3.1.X.Lo)), (A.v (Value.int .i64 y3.1.X.Hi)), (A.v (Value.int .i64 y3.1.Y.Lo)), (A.v (Value.int .i64 y3.1.Y.Hi))])) (by kernel_rfl) ?_
    refine .st (v := (A.v (Value.int .i64 y3.2))) (by kernel_rfl) ?_
    refine .st (v := ((A.ptr 3 0), [Blk.box [(A.v (Value.int .i64 a0.X.Lo)), (A.v (Value.int .i64 a0.X.Hi)), (A.v (Value.int .i64 a0.Y.Lo)), (A.v (Value.int .i64 a0.Y.Hi))], Blk.box [(A.v (Value.int .i64 a1.X.Lo)), (A.v (Value.int .i64 a1.X.Hi)), (A.v (Value.int .i64 a1.Y.Lo)), (A.v (Value.int .i64 a1.Y.Hi))], Blk.box [(A.v (Value.int .i64 y2.1.X.Lo)), (A.v (Value.int .i64 y2.1.X.Hi)), (A.v (Value.int .i64 y2.1.Y.Lo)), (A.v (Value.int .i64 y2.1.Y.Hi))], Blk.box [(A.v (Value.int .i64 0)), (A.v (Value.int .i64 0)), (A.v (Value.int .i64 0)), (A.v (Value.int .i64 0))]])) (by kernel_rfl) ?_
    refine .st (v := [Blk.box [(A.v (Value.int .i64 a0.X.Lo)), (A.v (Value.int .i64 a0.X.Hi)), (A.v (Value.int .i64 a0.Y.Lo)), (A.v (Value.int .i64 a0.Y.Hi))], Blk.box [(A.v (Value.int .i64 a1.X.Lo)), (A.v (Value.int .i64 a1.X.Hi)), (A.v (Value.int .i64 a1.Y.Lo)), (A.v (Value.int .i64 a1.Y.Hi))], Blk.box [(A.v (Value.int .i64 y2.1.X.Lo)), (A.v (Value.int .i64 y2.1.X.Hi)), (A.v (Value.int .i64 y2.1.Y.Lo)), (A.v (Value.int .i64 y2.1.Y.Hi))], Blk.box [(A.v (Value.int .i64 y3.1.X.Lo)), (A.v (Value.int .i64 y3.1.X.Hi)), (A.v (Value.int .i64 y3.1.Y.Lo)), (A.v (Value.int .i64 y3.1.Y.Hi))]]) (by kernel_rfl) ?_
    refine .st (v := (A.v (Value.bool (y2.2 != 0)))) (aBin_neq ..) ?_
    refine .bg (fun t (y : Bool) => ∃ j5 j6 : A, t = [(A.v (Value.bool y)), j5, j6]) ?_ ?_
    · refine .bi ?_ ?_
      · exact .lg ⟨_, _, rfl⟩
      · refine .st (v := (A.v (Value.bool (y3.2 != 0)))) (aBin_neq ..) ?_
        exact .lg ⟨_, _, rfl⟩
    rintro _ y4 ⟨j5, j6, rfl⟩
    iterate 3 refine .uc ?_
    refine .bi ?_ ?_
    · refine .st (v := (A.v (Value.bool (y2.2 == 0)))) (aBin_eql ..) ?_
      refine .bg (fun t (y : Bool) => ∃ j8 j9 j10 : A, t = [(A.v (Value.bool y)), j8, j9, j10]) ?_ ?_
      · refine .bi ?_ ?_
        · exact .lg ⟨_, _, _, rfl⟩
        · refine .st (v := (A.agg [(A.v (Value.int .i64 y2.1.X.Lo)), (A.v (Value.int .i64 y2.1.X.Hi)), (A.v (Value.int .i64 y2.1.Y.Lo)), (A.v (Value.int .i64 y2.1.Y.Hi))])) (by kernel_rfl) ?_
          refine .st (v := (A.agg [(A.v (Value.int .i64 0)), (A.v (Value.int .i64 0)), (A.v (Value.int .i64 0)), (A.v (Value.int .i64 0))])) (by kernel_rfl) ?_
          refine .st (v := (A.v (Value.bool ((((y2.1.X.Lo == 0) && (y2.1.X.Hi == 0)) && ((y2.1.Y.Lo == 0) && (y2.1.Y.Hi == 0))))))) (by kernel_rfl) ?_
          exact .lg ⟨_, _, _, rfl⟩
      rintro _ y7 ⟨j8, j9, j10, rfl⟩
      iterate 4 refine .uc ?_
      refine .bg (fun t (y : Bool) => ∃ j16 j17 j18 j19 j20 j21 j22 : A, t = [(A.v (Value.bool y)), j16, j17, j18, j19, j20, j21, j22]) ?_ ?_
      · refine .bi ?_ ?_
        · refine .st (v := (A.v (Value.bool (y3.2 == 0)))) (aBin_eql ..) ?_
          refine .bg (fun t (y : Bool) => ∃ j12 j13 j14 : A, t = [(A.v (Value.bool y)), j12, j13, j14]) ?_ ?_
          · refine .bi ?_ ?_
            · exact .lg ⟨_, _, _, rfl⟩
            · refine .st (v := (A.agg [(A.v (Value.int .i64 y3.1.X.Lo)), (A.v (Value.int .i64 y3.1.X.Hi)), (A.v (Value.int .i64 y3.1.Y.Lo)), (A.v (Value.int .i64 y3.1.Y.Hi))])) (by kernel_rfl) ?_
              refine .st (v := (A.agg [(A.v (Value.int .i64 0)), (A.v (Value.int .i64 0)), (A.v (Value.int .i64 0)), (A.v (Value.int .i64 0))])) (by kernel_rfl) ?_
              refine .st (v := (A.v (Value.bool ((((y3.1.X.Lo == 0) && (y3.1.X.Hi == 0)) && ((y3.1.Y.Lo == 0) && (y3.1.Y.Hi == 0))))))) (by kernel_rfl) ?_
              exact .lg ⟨_, _, _, rfl⟩
          rintro _ y11 ⟨j12, j13, j14, rfl⟩
          iterate 4 refine .uc ?_
          exact .lg ⟨_, _, _, _, _, _, _, rfl⟩
        · exact .lg ⟨_, _, _, _, _, _, _, rfl⟩
      rintro _ y15 ⟨j16, j17, j18, j19, j20, j21, j22, rfl⟩
      iterate 8 refine .uc ?_
      exact .lf rfl rfl ⟨_, rfl, rfl⟩
    · refine .st (v := (A.v (Value.bool (decide (a2 < (-2199023255552)))))) (aBin_lss ..) ?_
      refine .bg (fun t (y : Bool) => ∃ j24 j25 : A, t = [(A.v (Value.bool y)), j24, j25]) ?_ ?_
      · refine .bi ?_ ?_
        · exact .lg ⟨_, _, rfl⟩
        · refine .st (v := (A.v (Value.bool (decide (2199023255552 < a2))))) (aBin_gtr ..) ?_
          exact .lg ⟨_, _, rfl⟩
      rintro _ y23 ⟨j24, j25, rfl⟩
      iterate 3 refine .uc ?_
      refine .bg (fun t (y : Bool) => ∃ j27 j28 : A, t = [(A.v (Value.bool y)), j27, j28]) ?_ ?_
      · refine .bi ?_ ?_
        · exact .lg ⟨_, _, rfl⟩
        · refine .st (v := (A.v (Value.bool (decide (a3 < (-2199023255552)))))) (aBin_lss ..) ?_
          exact .lg ⟨_, _, rfl⟩
      rintro _ y26 ⟨j27, j28, rfl⟩
      iterate 3 refine .uc ?_
      refine .bg (fun t (y : Bool) => ∃ j30 j31 : A, t = [(A.v (Value.bool y)), j30, j31]) ?_ ?_
      · refine .bi ?_ ?_
        · exact .lg ⟨_, _, rfl⟩
        · refine .st (v := (A.v (Value.bool (decide (2199023255552 < a3))))) (aBin_gtr ..) ?_
          exact .lg ⟨_, _, rfl⟩
      rintro _ y29 ⟨j30, j31, rfl⟩
      iterate 3 refine .uc ?_
      refine .bi ?_ ?_
      · exact .lf rfl rfl ⟨_, rfl, rfl⟩
      · refine .st (v := (A.agg [(A.v (Value.int .i64 a0.X.Lo)), (A.v (Value.int .i64 a0.X.Hi)), (A.v (Value.int .i64 a0.Y.Lo)), (A.v (Value.int .i64 a0.Y.Hi))])) (by kernel_rfl) ?_
        refine .st (v := (A.agg [(A.v (Value.int .i64 a1.X.Lo)), (A.v (Value.int .i64 a1.X.Hi)), (A.v (Value.int .i64 a1.Y.Lo)), (A.v (Value.int .i64 a1.Y.Hi))])) (by kernel_rfl) ?_
        refine .bd (g := fun (y : (Bool × Int)) => (A.tup [(A.v (Value.bool y.1)), (A.v (Value.int .i64 y.2))])) (h23 a0 a1) fun y32 => ?_
        refine .st (v := (A.v (Value.bool y32.1))) (by kernel_rfl) ?_
        refine .st (v := (A.v (Value.int .i64 y32.2))) (by kernel_rfl) ?_
        refine .st (v := (A.agg [(A.v (Value.int .i64 y2.1.X.Lo)), (A.v (Value.int .i64 y2.1.X.Hi)), (A.v (Value.int .i64 y2.1.Y.Lo)), (A.v (Value.int .i64 y2.1.Y.Hi))])) (by kernel_rfl) ?_
        refine .st (v := (A.agg [(A.v (Value.int .i64 y3.1.X.Lo)), (A.v (Value.int .i64 y3.1.X.Hi)), (A.v (Value.int .i64 y3.1.Y.Lo)), (A.v (Value.int .i64 y3.1.Y.Hi))])) (by kernel_rfl) ?_
        refine .bd (g := fun (y : (Bool × Int)) => (A.tup [(A.v (Value.bool y.1)), (A.v (Value.int .i64 y.2))])) (h23 y2.1 y3.1) fun y33 => ?_
        refine .st (v := (A.v (Value.bool y33.1))) (by kernel_rfl) ?_
        refine .st (v := (A.v (Value.int .i64 y33.2))) (by kernel_rfl) ?_
        refine .st (v := (A.agg [(A.v (Value.int .i64 a0.X.Lo)), (A.v (Value.int .i64 a0.X.Hi)), (A.v (Value.int .i64 a0.Y.Lo)), (A.v (Value.int .i64 a0.Y.Hi))])) (by kernel_rfl) ?_
        refine .st (v := (A.agg [(A.v (Value.int .i64 a1.X.Lo)), (A.v (Value.int .i64 a1.X.Hi)), (A.v (Value.int .i64 a1.Y.Lo)), (A.v (Value.int .i64 a1.Y.Hi))])) (by kernel_rfl) ?_
        refine .bd (g := fun (y : (Bool × Int)) => (A.tup [(A.v (Value.bool y.1)), (A.v (Value.int .i64 y.2))])) (h25 a0 a1) fun y34 => ?_
        refine .st (v := (A.v (Value.bool y34.1))) (by kernel_rfl) ?_
        refine .st (v := (A.v (Value.int .i64 y34.2))) (by kernel_rfl) ?_
        refine .st (v := (A.agg [(A.v (Value.int .i64 y2.1.X.Lo)), (A.v (Value.int .i64 y2.1.X.Hi)), (A.v (Value.int .i64 y2.1.Y.Lo)), (A.v (Value.int .i64 y2.1.Y.Hi))])) (by kernel_rfl) ?_
        refine .st (v := (A.agg [(A.v (Value.int .i64 y3.1.X.Lo)), (A.v (Value.int .i64 y3.1.X.Hi)), (A.v (Value.int .i64 y3.1.Y.Lo)), (A.v (Value.int .i64 y3.1.Y.Hi))])) (by kernel_rfl) ?_
        refine .bd (g := fun (y : (Bool × Int)) => (A.tup [(A.v (Value.bool y.1)), (A.v (Value.int .i64 y.2))])) (h25 y2.1 y3.1) fun y35 => ?_
        refine .st (v := (A.v (Value.bool y35.1))) (by kernel_rfl) ?_
        refine .st (v := (A.v (Value.int .i64 y35.2))) (by kernel_rfl) ?_
        refine .st (v := (A.agg [(A.v (Value.int .i64 y2.1.X.Lo)), (A.v (Value.int .i64 y2.1.X.Hi)), (A.v (Value.int .i64 y2.1.Y.Lo)), (A.v (Value.int .i64 y2.1.Y.Hi))])) (by kernel_rfl) ?_
        refine .st (v := (A.v (Value.int .i64 (wr .i64 (0 - a2))))) (by kernel_rfl) ?_
        refine .st (v := (A.v (Value.int .i64 (wr .i64 (0 - a3))))) (by kernel_rfl) ?_
        refine .bd (g := fun (y : (S_Box × Int)) => (A.tup [(A.agg [(A.v (Value.int .i64 y.1.X.Lo)), (A.v (Value.int .i64 y.1.X.Hi)), (A.v (Value.int .i64 y.1.Y.Lo)), (A.v (Value.int .i64 y.1.Y.Hi))]), (A.v (Value.int .i64 y.2))])) (h27 y2.1 (wr .i64 (0 - a2)) (wr .i64 (0 - a3))) fun y36 => ?_
        refine .st (v := (A.agg [(A.v (Value.int .i64 y36.1.X.Lo)), (A.v (Value.int .i64 y36.1.X.Hi)), (A.v (Value.int .i64 y36.1.Y.Lo)), (A.v (Value.int .i64 y36.1.Y.Hi))])) (by kernel_rfl) ?_
        refine .st (v := (A.v (Value.int .i64 y36.2))) (by kernel_rfl) ?_
        refine .st (v := ((A.ptr 4 0), [Blk.box [(A.v (Value.int .i64 a0.X.Lo)), (A.v (Value.int .i64 a0.X.Hi)), (A.v (Value.int .i64 a0.Y.Lo)), (A.v (Value.int .i64 a0.Y.Hi))], Blk.box [(A.v (Value.int .i64 a1.X.Lo)), (A.v (Value.int .i64 a1.X.Hi)), (A.v (Value.int .i64 a1.Y.Lo)), (A.v (Value.int .i64 a1.Y.Hi))], Blk.box [(A.v (Value.int .i64 y2.1.X.Lo)), (A.v (Value.int .i64 y2.1.X.Hi)), (A.v (Value.int .i64 y2.1.Y.Lo)), (A.v (Value.int .i64 y2.1.Y.Hi))], Blk.box [(A.v (Value.int .i64 y3.1.X.Lo)), (A.v (Value.int .i64 y3.1.X.Hi)), (A.v (Value.int .i64 y3.1.Y.Lo)), (A.v (Value.int .i64 y3.1.Y.Hi))], Blk.box [(A.v (Value.int .i64 0)), (A.v (Value.int .i64 0)), (A.v (Value.int .i64 0)), (A.v (Value.int .i64 0))]])) (by kernel_rfl) ?_
        refine .st (v := [Blk.box [(A.v (Value.int .i64 a0.X.Lo)), (A.v (Value.int .i64 a0.X.Hi)), (A.v (Value.int .i64 a0.Y.Lo)), (A.v (Value.int .i64 a0.Y.Hi))], Blk.box [(A.v (Value.int .i64 a1.X.Lo)), (A.v (Value.int .i64 a1.X.Hi)), (A.v (Value.int .i64 a1.Y.Lo)), (A.v (Value.int .i64 a1.Y.Hi))], Blk.box [(A.v (Value.int .i64 y2.1.X.Lo)), (A.v (Value.int .i64 y2.1.X.Hi)), (A.v (Value.int .i64 y2.1.Y.Lo)), (A.v (Value.int .i64 y2.1.Y.Hi))], Blk.box [(A.v (Value.int .i64 y3.1.X.Lo)), (A.v (Value.int .i64 y3.1.X.Hi)), (A.v (Value.int .i64 y3.1.Y.Lo)), (A.v (Value.int .i64 y3.1.Y.Hi))], Blk.box [(A.v (Value.int .i64 y36.1.X.Lo)), (A.v (Value.int .i64 y36.1.X.Hi)), (A.v (Value.int .i64 y36.1.Y.Lo)), (A.v (Value.int .i64 y36.1.Y.Hi))]]) (by kernel_rfl) ?_
        refine .st (v := (A.v (Value.bool (y32.2 == 0)))) (aBin_eql ..) ?_
        refine .bg (fun t (y : Bool) => ∃ j38 j39 : A, t = [(A.v (Value.bool y)), j38, j39]) ?_ ?_
        · refine .bi ?_ ?_
          · refine .st (v := (A.v (Value.bool (y33.2 == 0)))) (aBin_eql ..) ?_
            exact .lg ⟨_, _, rfl⟩
          · exact .lg ⟨_, _, rfl⟩
        rintro _ y37 ⟨j38, j39, rfl⟩
        iterate 3 refine .uc ?_
        refine .bg (fun t (y : Bool) => ∃ j41 j42 : A, t = [(A.v (Value.bool y)), j41, j42]) ?_ ?_
        · refine .bi ?_ ?_
          · refine .st (v := (A.v (Value.bool (y34.2 == 0)))) (aBin_eql ..) ?_
            exact .lg ⟨_, _, rfl⟩
          · exact .lg ⟨_, _, rfl⟩
        rintro _ y40 ⟨j41, j42, rfl⟩
        iterate 3 refine .uc ?_
        refine .bg (fun t (y : Bool) => ∃ j44 j45 : A, t = [(A.v (Value.bool y)), j44, j45]) ?_ ?_
        · refine .bi ?_ ?_
          · refine .st (v := (A.v (Value.bool (y35.2 == 0)))) (aBin_eql ..) ?_
            exact .lg ⟨_, _, rfl⟩
          · exact .lg ⟨_, _, rfl⟩
        rintro _ y43 ⟨j44, j45, rfl⟩
        iterate 3 refine .uc ?_
        refine .bg (fun t (y : Bool) => ∃ j47 j48 : A, t = [(A.v (Value.bool y)), j47, j48]) ?_ ?_
        · refine .bi ?_ ?_
          · refine .st (v := (A.v (Value.bool (y36.2 == 0)))) (aBin_eql ..) ?_
            exact .lg ⟨_, _, rfl⟩
          · exact .lg ⟨_, _, rfl⟩
        rintro _ y46 ⟨j47, j48, rfl⟩
        iterate 3 refine .uc ?_
        refine .bg (fun t (y : Bool) => ∃ j50 j51 j52 : A, t = [(A.v (Value.bool y)), j50, j51, j52]) ?_ ?_
        · refine .bi ?_ ?_
          · refine .st (v := (A.v (Value.bool (y32.1 == y33.1)))) (by kernel_rfl) ?_
            exact .lg ⟨_, _, _, rfl⟩
          · exact .lg ⟨_, _, _, rfl⟩
        rintro _ y49 ⟨j50, j51, j52, rfl⟩
        iterate 4 refine .uc ?_
        refine .bg (fun t (y : Bool) => ∃ j54 j55 j56 : A, t = [(A.v (Value.bool y)), j54, j55, j56]) ?_ ?_
        · refine .bi ?_ ?_
          · refine .st (v := (A.v (Value.bool (y34.1 == y35.1)))) (by kernel_rfl) ?_
            exact .lg ⟨_, _, _, rfl⟩
          · exact .lg ⟨_, _, _, rfl⟩
        rintro _ y53 ⟨j54, j55, j56, rfl⟩
        iterate 4 refine .uc ?_
        refine .bg (fun t (y : Bool) => ∃ j58 j59 j60 : A, t = [(A.v (Value.bool y)), j58, j59, j60]) ?_ ?_
        · refine .bi ?_ ?_
          · refine .st (v := (A.agg [(A.v (Value.int .i64 y36.1.X.Lo)), (A.v (Value.int .i64 y36.1.X.Hi)), (A.v (Value.int .i64 y36.1.Y.Lo)), (A.v (Value.int .i64 y36.1.Y.Hi))])) (by kernel_rfl) ?_
            refine .st (v := (A.agg [(A.v (Value.int .i64 a0.X.Lo)), (A.v (Value.int .i64 a0.X.Hi)), (A.v (Value.int .i64 a0.Y.Lo)), (A.v (Value.int .i64 a0.Y.Hi))])) (by kernel_rfl) ?_
            refine .st (v := (A.v (Value.bool ((((y36.1.X.Lo == a0.X.Lo) && (y36.1.X.Hi == a0.X.Hi)) && ((y36.1.Y.Lo == a0.Y.Lo) && (y36.1.Y.Hi == a0.Y.Hi))))))) (by kernel_rfl) ?_
            exact .lg ⟨_, _, _, rfl⟩
          · exact .lg ⟨_, _, _, rfl⟩
        rintro _ y57 ⟨j58, j59, j60, rfl⟩
        iterate 4 refine .uc ?_
        exact .lf rfl rfl ⟨_, rfl, rfl⟩

def G9 (a0 : S_Box) (a1 : S_Box) (a2 : Int) (a3 : Int) : Option Bool := F9 fuel0 a0 a1 a2 a3

def Orc9 (C : Nat → List A → Option A) : Prop := ∀ (a0 : S_Box) (a1 : S_Box) (a2 : Int) (a3 : Int), C 9 [(A.agg [(A.v (Value.int .i64 a0.X.Lo)), (A.v (Value.int .i64 a0.X.Hi)), (A.v (Value.int .i64 a0.Y.Lo)), (A.v (Value.int .i64 a0.Y.Hi))]), (A.agg [(A.v (Value.int .i64 a1.X.Lo)), (A.v (Value.int .i64 a1.X.Hi)), (A.v (Value.int .i64 a1.Y.Lo)), (A.v (Value.int .i64 a1.Y.Hi))]), (A.v (Value.int .i64 a2)), (A.v (Value.int .i64 a3))] = (G9 a0 a1 a2 a3).map fun y => (A.v (Value.bool y))
end Go.Proofs.YtmhnhokhlkppeaaDoor
