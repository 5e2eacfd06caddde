/-
  The program's functions as plain functions: by a tool; each follows the interpreter.
-/
import Derived.Test.YtooamdacfhfjoaaDoorT3
import Derived.KernelRfl
namespace Go.Proofs.YtooamdacfhfjoaaDoor
set_option linter.unusedVariables false
set_option linter.unusedSimpArgs false
set_option maxHeartbeats 4000000
set_option maxRecDepth 100000
def F6 (n : Nat) (a0 : S_State) (a1 : S_Sign) (a2 : S_Real) (a3 : Int) : Option Bool :=
  Option.bind (G11 ) fun y1 => bif (!y1) then (some false) else (Option.bind (G14 a0 a3) fun y3 => bif (y3.2 != 0) then (Option.bind (G16 a0) fun y5 => Option.bind (bif (y3.2 == y5) then (some true) else (Option.bind (bif (y3.2 == 1) then (Option.bind (bif (decide (a3 < 1)) then (some true) else (some (decide (1000 < a3)))) fun y9 => some y9) else (some false)) fun y12 => some y12)) fun y19 => Option.bind (bif y19 then (some true) else (Option.bind (bif (y3.2 == 2) then (some (decide (a0.X < (-1072693248)))) else (some false)) fun y32 => some y32)) fun y36 => some y36) else (Option.bind (G14 y3.1 a3) fun y44 => Option.bind (bif (y44.2 != 0) then (some true) else (some (!((y44.1.X == a0.X) && ((y44.1.Y == a0.Y) && ((y44.1.Face == a0.Face) && (((y44.1.Limbs.1.Dir == a0.Limbs.1.Dir) && (y44.1.Limbs.1.Level == a0.Limbs.1.Level)) && (((y44.1.Limbs.2.1.Dir == a0.Limbs.2.1.Dir) && (y44.1.Limbs.2.1.Level == a0.Limbs.2.1.Level)) && (((y44.1.Limbs.2.2.1.Dir == a0.Limbs.2.2.1.Dir) && (y44.1.Limbs.2.2.1.Level == a0.Limbs.2.2.1.Level)) && (((y44.1.Limbs.2.2.2.1.Dir == a0.Limbs.2.2.2.1.Dir) && (y44.1.Limbs.2.2.2.1.Level == a0.Limbs.2.2.2.1.Level)) && ((y44.1.Limbs.2.2.2.2.Dir == a0.Limbs.2.2.2.2.Dir) && (y44.1.Limbs.2.2.2.2.Level == a0.Limbs.2.2.2.2.Level)))))))))))) fun y46 => Option.bind (bif y46 then (some true) else (Option.bind (G16 y3.1) fun y51 => some (y51 != 0))) fun y52 => bif y52 then (some false) else (Option.bind (G18 a0 a1 a2) fun y57 => bif (y57.2 != 0) then (some true) else (Option.bind (G22 a1 a2) fun y59 => Option.bind (G18 y3.1 y59.1 y59.2.1) fun y60 => Option.bind (G14 y57.1 a3) fun y61 => Option.bind (bif (!y59.2.2) then (some true) else (Option.bind (bif (y60.2 != 0) then (some (y60.2 != 2)) else (some false)) fun y64 => some y64)) fun y67 => bif y67 then (some false) else (Option.bind (bif (y60.2 == 2) then (some true) else (some (y61.2 == 2))) fun y76 => Option.bind (bif y76 then (some true) else (Option.bind (bif (y61.2 == 0) then (some (((y61.1.X == y60.1.X) && ((y61.1.Y == y60.1.Y) && ((y61.1.Face == y60.1.Face) && (((y61.1.Limbs.1.Dir == y60.1.Limbs.1.Dir) && (y61.1.Limbs.1.Level == y60.1.Limbs.1.Level)) && (((y61.1.Limbs.2.1.Dir == y60.1.Limbs.2.1.Dir) && (y61.1.Limbs.2.1.Level == y60.1.Limbs.2.1.Level)) && (((y61.1.Limbs.2.2.1.Dir == y60.1.Limbs.2.2.1.Dir) && (y61.1.Limbs.2.2.1.Level == y60.1.Limbs.2.2.1.Level)) && (((y61.1.Limbs.2.2.2.1.Dir == y60.1.Limbs.2.2.2.1.Dir) && (y61.1.Limbs.2.2.2.1.Level == y60.1.Limbs.2.2.2.1.Level)) && ((y61.1.Limbs.2.2.2.2.Dir == y60.1.Limbs.2.2.2.2.Dir) && (y61.1.Limbs.2.2.2.2.Level == y60.1.Limbs.2.2.2.2.Level))))))))))) else (some false)) fun y81 => some y81)) fun y85 => some y85)))))
theorem T6 (C : Nat → List A → Option A) (n : Nat) (h11 : Orc11 C) (h14 : Orc14 C) (h16 : Orc16 C) (h18 : Orc18 C) (h22 : Orc22 C) (a0 : S_State) (a1 : S_Sign) (a2 : S_Real) (a3 : Int) : J (fun (o : R) y => ∃ v, o.1 = .ret v ∧ snapE o.2 v = (bA y)) (evCall1 (cx C) (evCall (cx C) (n+8)) (evCallY (cx C) (n+8)) (n+8) 6 [(A.agg (c_S_State a0)), (A.agg (c_S_Sign a1)), (A.agg (c_S_Real a2)), (iA a3)] [] 0) some (F6 n a0 a1 a2 a3) some := by
  refine .lp (e6 ..) ?_
  unfold F6
  refine .s ((A.ptr 0 0), [Blk.box (c_S_State a0)]) (.s ((A.ptr 1 0), [Blk.box (c_S_State a0), Blk.box (c_S_Sign a1)]) (.s ((A.ptr 2 0), [Blk.box (c_S_State a0), Blk.box (c_S_Sign a1), Blk.box (c_S_Real a2)]) ?_))
  refine .bd (g := fun (y : Bool) => (bA y)) (h11 ()) fun y1 => ?_
  refine .s (bA (!y1)) ?_
  refine .biHN (fun hk2 => ?_) (fun hk2 => ?_)
  · exact .lf rfl rfl ⟨_, rfl, rfl⟩
  refine .s (A.agg (c_S_State a0)) ?_
  refine .bd (g := fun (y : (S_State × Int)) => (A.tup [(A.agg [(iA y.1.X), (iA y.1.Y), (iA y.1.Face), (iA y.1.Limbs.1.Dir), (iA y.1.Limbs.1.Level), (iA y.1.Limbs.2.1.Dir), (iA y.1.Limbs.2.1.Level), (iA y.1.Limbs.2.2.1.Dir), (iA y.1.Limbs.2.2.1.Level), (iA y.1.Limbs.2.2.2.1.Dir), (iA y.1.Limbs.2.2.2.1.Level), (iA y.1.Limbs.2.2.2.2.Dir), (iA y.1.Limbs.2.2.2.2.Level)]), (iA y.2)])) (h14 a0 a3) fun y3 => ?_
  refine .s (A.agg (c_S_State y3.1)) (.s (iA y3.2) (.s ((A.ptr 3 0), [Blk.box (c_S_State a0), Blk.box (c_S_Sign a1), Blk.box (c_S_Real a2), hk18_2]) (.s [Blk.box (c_S_State a0), Blk.box (c_S_Sign a1), Blk.box (c_S_Real a2), Blk.box (c_S_State y3.1)] ?_)))
  refine .st (v := (bA (y3.2 != 0))) (aBin_neq ..) ?_
  refine .biHN (fun hk4 => ?_) (fun hk4 => ?_)
  · refine .s (A.agg (c_S_State a0)) ?_
    refine .bd (g := fun (y : Int) => (iA y)) (h16 a0) fun y5 => ?_
    refine .st (v := (bA (y3.2 == y5))) (aBin_eql ..) ?_
    refine .bg (fun t (y : Bool) => ∃ j20 j21 j22 j23 j24 j25 j26 j27 j28 j29 : A, t = [(bA y), j20, j21, j22, j23, j24, j25, j26, j27, j28, j29]) ?_ ?_
    · refine .biH (fun hk6 => ?_) (fun hk6 => ?_)
      · exact .lg ⟨_, _, _, _, _, _, _, _, _, _, rfl⟩
      refine .st (v := (bA (y3.2 == 1))) (aBin_eql ..) ?_
      refine .bg (fun t (y : Bool) => ∃ j13 j14 j15 j16 j17 j18 : A, t = [(bA y), j13, j14, j15, j16, j17, j18]) ?_ ?_
      · refine .biH (fun hk7 => ?_) (fun hk7 => ?_)
        · refine .st (v := (bA (decide (a3 < 1)))) (aBin_lss ..) ?_
          refine .bg (fun t (y : Bool) => ∃ j10 j11 : A, t = [(bA y), j10, j11]) ?_ ?_
          · refine .biH (fun hk8 => ?_) (fun hk8 => ?_)
            · exact .lg ⟨_, _, rfl⟩
            refine .st (v := (bA (decide (1000 < a3)))) (aBin_gtr ..) ?_
            exact .lg ⟨_, _, rfl⟩
          rintro _ y9 ⟨j10, j11, rfl⟩
          iterate 3 refine .uc ?_
          exact .lg ⟨_, _, _, _, _, _, rfl⟩
        exact .lg ⟨_, _, _, _, _, _, rfl⟩
      rintro _ y12 ⟨j13, j14, j15, j16, j17, j18, rfl⟩
      iterate 7 refine .uc ?_
      exact .lg ⟨_, _, _, _, _, _, _, _, _, _, rfl⟩
    rintro _ y19 ⟨j20, j21, j22, j23, j24, j25, j26, j27, j28, j29, rfl⟩
    iterate 11 refine .uc ?_
    refine .bg (fun t (y : Bool) => ∃ j37 j38 j39 j40 j41 j42 j43 : A, t = [(bA y), j37, j38, j39, j40, j41, j42, j43]) ?_ ?_
    · refine .biH (fun hk30 => ?_) (fun hk30 => ?_)
      · exact .lg ⟨_, _, _, _, _, _, _, rfl⟩
      refine .st (v := (bA (y3.2 == 2))) (aBin_eql ..) ?_
      refine .bg (fun t (y : Bool) => ∃ j33 j34 j35 : A, t = [(bA y), j33, j34, j35]) ?_ ?_
      · refine .biH (fun hk31 => ?_) (fun hk31 => ?_)
        · refine .s (A.ptr 0 0) (.s (iA a0.X) ?_)
          refine .st (v := (bA (decide (a0.X < (-1072693248))))) (aBin_lss ..) ?_
          exact .lg ⟨_, _, _, rfl⟩
        exact .lg ⟨_, _, _, rfl⟩
      rintro _ y32 ⟨j33, j34, j35, rfl⟩
      iterate 4 refine .uc ?_
      exact .lg ⟨_, _, _, _, _, _, _, rfl⟩
    rintro _ y36 ⟨j37, j38, j39, j40, j41, j42, j43, rfl⟩
    iterate 8 refine .uc ?_
    exact .lf rfl rfl ⟨_, rfl, rfl⟩
  refine .s (A.agg (c_S_State y3.1)) ?_
  refine .bd (g := fun (y : (S_State × Int)) => (A.tup [(A.agg [(iA y.1.X), (iA y.1.Y), (iA y.1.Face), (iA y.1.Limbs.1.Dir), (iA y.1.Limbs.1.Level), (iA y.1.Limbs.2.1.Dir), (iA y.1.Limbs.2.1.Level), (iA y.1.Limbs.2.2.1.Dir), (iA y.1.Limbs.2.2.1.Level), (iA y.1.Limbs.2.2.2.1.Dir), (iA y.1.Limbs.2.2.2.1.Level), (iA y.1.Limbs.2.2.2.2.Dir), (iA y.1.Limbs.2.2.2.2.Level)]), (iA y.2)])) (h14 y3.1 a3) fun y44 => ?_
  refine .s (A.agg (c_S_State y44.1)) (.s (iA y44.2) (.s ((A.ptr 4 0), [Blk.box (c_S_State a0), Blk.box (c_S_Sign a1), Blk.box (c_S_Real a2), Blk.box (c_S_State y3.1), hk18_2]) (.s [Blk.box (c_S_State a0), Blk.box (c_S_Sign a1), Blk.box (c_S_Real a2), Blk.box (c_S_State y3.1), Blk.box (c_S_State y44.1)] ?_)))
  refine .st (v := (bA (y44.2 != 0))) (aBin_neq ..) ?_
  refine .bg (fun t (y : Bool) => ∃ j47 j48 j49 : A, t = [(bA y), j47, j48, j49]) ?_ ?_
  · refine .biH (fun hk45 => ?_) (fun hk45 => ?_)
    · exact .lg ⟨_, _, _, rfl⟩
    refine .s (A.agg (c_S_State y44.1)) (.s (A.agg (c_S_State a0)) (.s (bA (!((y44.1.X == a0.X) && ((y44.1.Y == a0.Y) && ((y44.1.Face == a0.Face) && (((y44.1.Limbs.1.Dir == a0.Limbs.1.Dir) && (y44.1.Limbs.1.Level == a0.Limbs.1.Level)) && (((y44.1.Limbs.2.1.Dir == a0.Limbs.2.1.Dir) && (y44.1.Limbs.2.1.Level == a0.Limbs.2.1.Level)) && (((y44.1.Limbs.2.2.1.Dir == a0.Limbs.2.2.1.Dir) && (y44.1.Limbs.2.2.1.Level == a0.Limbs.2.2.1.Level)) && (((y44.1.Limbs.2.2.2.1.Dir == a0.Limbs.2.2.2.1.Dir) && (y44.1.Limbs.2.2.2.1.Level == a0.Limbs.2.2.2.1.Level)) && ((y44.1.Limbs.2.2.2.2.Dir == a0.Limbs.2.2.2.2.Dir) && (y44.1.Limbs.2.2.2.2.Level == a0.Limbs.2.2.2.2.Level))))))))))) ?_))
    exact .lg ⟨_, _, _, rfl⟩
  rintro _ y46 ⟨j47, j48, j49, rfl⟩
  iterate 4 refine .uc ?_
  refine .bg (fun t (y : Bool) => ∃ j53 j54 j55 : A, t = [(bA y), j53, j54, j55]) ?_ ?_
  · refine .biH (fun hk50 => ?_) (fun hk50 => ?_)
    · exact .lg ⟨_, _, _, rfl⟩
    refine .s (A.agg (c_S_State y3.1)) ?_
    refine .bd (g := fun (y : Int) => (iA y)) (h16 y3.1) fun y51 => ?_
    refine .st (v := (bA (y51 != 0))) (aBin_neq ..) ?_
    exact .lg ⟨_, _, _, rfl⟩
  rintro _ y52 ⟨j53, j54, j55, rfl⟩
  iterate 4 refine .uc ?_
  refine .biHN (fun hk56 => ?_) (fun hk56 => ?_)
  · exact .lf rfl rfl ⟨_, rfl, rfl⟩
  refine .s (A.agg (c_S_State a0)) (.s (A.agg (c_S_Sign a1)) (.s (A.agg (c_S_Real a2)) ?_))
  refine .bd (g := fun (y : (S_State × Int)) => (A.tup [(A.agg [(iA y.1.X), (iA y.1.Y), (iA y.1.Face), (iA y.1.Limbs.1.Dir), (iA y.1.Limbs.1.Level), (iA y.1.Limbs.2.1.Dir), (iA y.1.Limbs.2.1.Level), (iA y.1.Limbs.2.2.1.Dir), (iA y.1.Limbs.2.2.1.Level), (iA y.1.Limbs.2.2.2.1.Dir), (iA y.1.Limbs.2.2.2.1.Level), (iA y.1.Limbs.2.2.2.2.Dir), (iA y.1.Limbs.2.2.2.2.Level)]), (iA y.2)])) (h18 a0 a1 a2) fun y57 => ?_
  refine .s (A.agg (c_S_State y57.1)) (.s (iA y57.2) (.s ((A.ptr 5 0), [Blk.box (c_S_State a0), Blk.box (c_S_Sign a1), Blk.box (c_S_Real a2), Blk.box (c_S_State y3.1), Blk.box (c_S_State y44.1), hk18_2]) (.s [Blk.box (c_S_State a0), Blk.box (c_S_Sign a1), Blk.box (c_S_Real a2), Blk.box (c_S_State y3.1), Blk.box (c_S_State y44.1), Blk.box (c_S_State y57.1)] ?_)))
  refine .st (v := (bA (y57.2 != 0))) (aBin_neq ..) ?_
  refine .biHN (fun hk58 => ?_) (fun hk58 => ?_)
  · exact .lf rfl rfl ⟨_, rfl, rfl⟩
  refine .s (A.agg (c_S_Sign a1)) (.s (A.agg (c_S_Real a2)) ?_)
  refine .bd (g := fun (y : (S_Sign × S_Real × Bool)) => (A.tup [(A.agg [(iA y.1.ID), (iA y.1.Role), (iA y.1.Bar), (iA y.1.Mark), (iA y.1.Kind), (iA y.1.Side), (iA y.1.Dir), (iA y.1.Level), (iA y.1.Size), (iA y.1.With), (iA y.1.From.N), (iA y.1.From.D), (iA y.1.To.N), (iA y.1.To.D)]), (A.agg [(iA y.2.1.Sign), (iA y.2.1.Dir), (iA y.2.1.Level), (bA y.2.1.Drop)]), (bA y.2.2)])) (h22 a1 a2) fun y59 => ?_
  refine .s (A.agg (c_S_Sign y59.1)) (.s (A.agg (c_S_Real y59.2.1)) (.s (bA y59.2.2) (.s ((A.ptr 6 0), [Blk.box (c_S_State a0), Blk.box (c_S_Sign a1), Blk.box (c_S_Real a2), Blk.box (c_S_State y3.1), Blk.box (c_S_State y44.1), Blk.box (c_S_State y57.1), Blk.box [(iA 0), (iA 0), (iA 0), (iA 0), (iA 0), (iA 0), (iA 0), (iA 0), (iA 0), (iA 0), (iA 0), (iA 0), (iA 0), (iA 0)]]) (.s ((A.ptr 7 0), [Blk.box (c_S_State a0), Blk.box (c_S_Sign a1), Blk.box (c_S_Real a2), Blk.box (c_S_State y3.1), Blk.box (c_S_State y44.1), Blk.box (c_S_State y57.1), Blk.box [(iA 0), (iA 0), (iA 0), (iA 0), (iA 0), (iA 0), (iA 0), (iA 0), (iA 0), (iA 0), (iA 0), (iA 0), (iA 0), (iA 0)], Blk.box [(iA 0), (iA 0), (iA 0), (bA false)]]) (.s [Blk.box (c_S_State a0), Blk.box (c_S_Sign a1), Blk.box (c_S_Real a2), Blk.box (c_S_State y3.1), Blk.box (c_S_State y44.1), Blk.box (c_S_State y57.1), Blk.box (c_S_Sign y59.1), Blk.box [(iA 0), (iA 0), (iA 0), (bA false)]] (.s [Blk.box (c_S_State a0), Blk.box (c_S_Sign a1), Blk.box (c_S_Real a2), Blk.box (c_S_State y3.1), Blk.box (c_S_State y44.1), Blk.box (c_S_State y57.1), Blk.box (c_S_Sign y59.1), Blk.box (c_S_Real y59.2.1)] (.s (A.agg (c_S_State y3.1)) (.s (A.agg (c_S_Sign y59.1)) ?_))))))))
  refine .s (A.agg (c_S_Real y59.2.1)) ?_
  refine .bd (g := fun (y : (S_State × Int)) => (A.tup [(A.agg [(iA y.1.X), (iA y.1.Y), (iA y.1.Face), (iA y.1.Limbs.1.Dir), (iA y.1.Limbs.1.Level), (iA y.1.Limbs.2.1.Dir), (iA y.1.Limbs.2.1.Level), (iA y.1.Limbs.2.2.1.Dir), (iA y.1.Limbs.2.2.1.Level), (iA y.1.Limbs.2.2.2.1.Dir), (iA y.1.Limbs.2.2.2.1.Level), (iA y.1.Limbs.2.2.2.2.Dir), (iA y.1.Limbs.2.2.2.2.Level)]), (iA y.2)])) (h18 y3.1 y59.1 y59.2.1) fun y60 => ?_
  refine .s (A.agg (c_S_State y60.1)) (.s (iA y60.2) (.s ((A.ptr 8 0), [Blk.box (c_S_State a0), Blk.box (c_S_Sign a1), Blk.box (c_S_Real a2), Blk.box (c_S_State y3.1), Blk.box (c_S_State y44.1), Blk.box (c_S_State y57.1), Blk.box (c_S_Sign y59.1), Blk.box (c_S_Real y59.2.1), hk18_2]) (.s [Blk.box (c_S_State a0), Blk.box (c_S_Sign a1), Blk.box (c_S_Real a2), Blk.box (c_S_State y3.1), Blk.box (c_S_State y44.1), Blk.box (c_S_State y57.1), Blk.box (c_S_Sign y59.1), Blk.box (c_S_Real y59.2.1), Blk.box (c_S_State y60.1)] (.s (A.agg (c_S_State y57.1)) ?_))))
  refine .bd (g := fun (y : (S_State × Int)) => (A.tup [(A.agg [(iA y.1.X), (iA y.1.Y), (iA y.1.Face), (iA y.1.Limbs.1.Dir), (iA y.1.Limbs.1.Level), (iA y.1.Limbs.2.1.Dir), (iA y.1.Limbs.2.1.Level), (iA y.1.Limbs.2.2.1.Dir), (iA y.1.Limbs.2.2.1.Level), (iA y.1.Limbs.2.2.2.1.Dir), (iA y.1.Limbs.2.2.2.1.Level), (iA y.1.Limbs.2.2.2.2.Dir), (iA y.1.Limbs.2.2.2.2.Level)]), (iA y.2)])) (h14 y57.1 a3) fun y61 => ?_
  refine .s (A.agg (c_S_State y61.1)) (.s (iA y61.2) (.s ((A.ptr 9 0), [Blk.box (c_S_State a0), Blk.box (c_S_Sign a1), Blk.box (c_S_Real a2), Blk.box (c_S_State y3.1), Blk.box (c_S_State y44.1), Blk.box (c_S_State y57.1), Blk.box (c_S_Sign y59.1), Blk.box (c_S_Real y59.2.1), Blk.box (c_S_State y60.1), hk18_2]) (.s [Blk.box (c_S_State a0), Blk.box (c_S_Sign a1), Blk.box (c_S_Real a2), Blk.box (c_S_State y3.1), Blk.box (c_S_State y44.1), Blk.box (c_S_State y57.1), Blk.box (c_S_Sign y59.1), Blk.box (c_S_Real y59.2.1), Blk.box (c_S_State y60.1), Blk.box (c_S_State y61.1)] (.s (bA (!y59.2.2)) ?_))))
  refine .bg (fun t (y : Bool) => ∃ j68 j69 j70 j71 j72 j73 : A, t = [(bA y), j68, j69, j70, j71, j72, j73]) ?_ ?_
  · refine .biH (fun hk62 => ?_) (fun hk62 => ?_)
    · exact .lg ⟨_, _, _, _, _, _, rfl⟩
    refine .st (v := (bA (y60.2 != 0))) (aBin_neq ..) ?_
    refine .bg (fun t (y : Bool) => ∃ j65 j66 : A, t = [(bA y), j65, j66]) ?_ ?_
    · refine .biH (fun hk63 => ?_) (fun hk63 => ?_)
      · refine .st (v := (bA (y60.2 != 2))) (aBin_neq ..) ?_
        exact .lg ⟨_, _, rfl⟩
      exact .lg ⟨_, _, rfl⟩
    rintro _ y64 ⟨j65, j66, rfl⟩
    iterate 3 refine .uc ?_
    exact .lg ⟨_, _, _, _, _, _, rfl⟩
  rintro _ y67 ⟨j68, j69, j70, j71, j72, j73, rfl⟩
  iterate 7 refine .uc ?_
  refine .biHN (fun hk74 => ?_) (fun hk74 => ?_)
  · exact .lf rfl rfl ⟨_, rfl, rfl⟩
  refine .st (v := (bA (y60.2 == 2))) (aBin_eql ..) ?_
  refine .bg (fun t (y : Bool) => ∃ j77 j78 : A, t = [(bA y), j77, j78]) ?_ ?_
  · refine .biH (fun hk75 => ?_) (fun hk75 => ?_)
    · exact .lg ⟨_, _, rfl⟩
    refine .st (v := (bA (y61.2 == 2))) (aBin_eql ..) ?_
    exact .lg ⟨_, _, rfl⟩
  rintro _ y76 ⟨j77, j78, rfl⟩
  iterate 3 refine .uc ?_
  refine .bg (fun t (y : Bool) => ∃ j86 j87 j88 j89 j90 j91 j92 : A, t = [(bA y), j86, j87, j88, j89, j90, j91, j92]) ?_ ?_
  · refine .biH (fun hk79 => ?_) (fun hk79 => ?_)
    · exact .lg ⟨_, _, _, _, _, _, _, rfl⟩
    refine .st (v := (bA (y61.2 == 0))) (aBin_eql ..) ?_
    refine .bg (fun t (y : Bool) => ∃ j82 j83 j84 : A, t = [(bA y), j82, j83, j84]) ?_ ?_
    · refine .biH (fun hk80 => ?_) (fun hk80 => ?_)
      · refine .s (A.agg (c_S_State y61.1)) (.s (A.agg (c_S_State y60.1)) (.s (bA (((y61.1.X == y60.1.X) && ((y61.1.Y == y60.1.Y) && ((y61.1.Face == y60.1.Face) && (((y61.1.Limbs.1.Dir == y60.1.Limbs.1.Dir) && (y61.1.Limbs.1.Level == y60.1.Limbs.1.Level)) && (((y61.1.Limbs.2.1.Dir == y60.1.Limbs.2.1.Dir) && (y61.1.Limbs.2.1.Level == y60.1.Limbs.2.1.Level)) && (((y61.1.Limbs.2.2.1.Dir == y60.1.Limbs.2.2.1.Dir) && (y61.1.Limbs.2.2.1.Level == y60.1.Limbs.2.2.1.Level)) && (((y61.1.Limbs.2.2.2.1.Dir == y60.1.Limbs.2.2.2.1.Dir) && (y61.1.Limbs.2.2.2.1.Level == y60.1.Limbs.2.2.2.1.Level)) && ((y61.1.Limbs.2.2.2.2.Dir == y60.1.Limbs.2.2.2.2.Dir) && (y61.1.Limbs.2.2.2.2.Level == y60.1.Limbs.2.2.2.2.Level))))))))))) ?_))
        exact .lg ⟨_, _, _, rfl⟩
      exact .lg ⟨_, _, _, rfl⟩
    rintro _ y81 ⟨j82, j83, j84, rfl⟩
    iterate 4 refine .uc ?_
    exact .lg ⟨_, _, _, _, _, _, _, rfl⟩
  rintro _ y85 ⟨j86, j87, j88, j89, j90, j91, j92, rfl⟩
  iterate 8 refine .uc ?_
  exact .lf rfl rfl ⟨_, rfl, rfl⟩
def G6 (a0 : S_State) (a1 : S_Sign) (a2 : S_Real) (a3 : Int) : Option Bool := F6 fuel0 a0 a1 a2 a3
end Go.Proofs.YtooamdacfhfjoaaDoor
